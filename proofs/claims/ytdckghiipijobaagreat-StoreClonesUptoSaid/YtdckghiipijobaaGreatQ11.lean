/- Part 11 of the proof: lemmas and contracts of functions. No condition. -/
import Derived.Test.YtdckghiipijobaaGreatQ10
import Derived.Test.YtdckghiipijobaaGreatQ1
import Derived.Test.YtdckghiipijobaaGreatQ9
import Derived.Test.YtdckghiipijobaaGreatQ5
import Derived.Test.YtdckghiipijobaaGreatQ2
set_option maxRecDepth 100000
set_option maxHeartbeats 12800000
set_option linter.unusedVariables false
set_option linter.unusedSimpArgs false
set_option linter.unusedSectionVars false
namespace Go.Proofs.YtdckghiipijobaaGreat
open Go.RowKit Go.Proofs.Tryz
theorem EachTo.of_clone {α : Type} {t : Ty α} [TyOk t] [TyMore t] [kAh t] {el : TypeId} {S : Nat → Prop} {l : List α} {w : World} {e : Ending} {w' : World} (h : kAy t el S l w e w') : EachTo t l w e w' := by
 obtain ⟨A, c, h1, h2, h3⟩ := h
 obtain ⟨k1, k2, k3⟩ := kAl (w := w) h2 nr (Fr.refl No w') (fun _ _ _ x => x)
 exact ⟨A, c, h1, k1, k2, k3, h3⟩
def FnB (a : Fn) : Prop := a.params.length ≤ 1048576 ∧ a.results.length ≤ 1048576
def InsB (a : Ins) : Prop := a.types.length ≤ 1048576 ∧ a.labels.length ≤ 1048576
def kDP (l : List Ins) : Prop := l.length ≤ 1048576 ∧ ∀ i ∈ l, InsB i
def CdB (a : Cd) : Prop := a.locals.length ≤ 1048576 ∧ kDP a.body
def GdB (a : Gd) : Prop := kDP a.init
def ElB (a : El) : Prop := kDP a.off ∧ a.items.length ≤ 1048576 ∧ ∀ l ∈ a.items, kDP l
def DaB (a : Da) : Prop := kDP a.off ∧ a.bytes.length ≤ 1048576
def CuB (a : Cu) : Prop := a.bytes.length ≤ 1048576
abbrev kEW (a0 : Ins) (a1 a2 : Option Addr) (a3 a4 : Nat) : Array Value := #[.int .i64 a0.op, .int .i64 a0.a, .int .i64 a0.b, .int .u64 a0.n, .int .i64 a0.block.kind, .int .i64 a0.block.val, .int .i64 a0.block.index, .slice a1 a0.types.length a3, .slice a2 a0.labels.length a4]
abbrev kEO : Array Value := #[.int .i64 0, .int .i64 0, .int .i64 0, .int .u64 0, .int .i64 0, .int .i64 0, .int .i64 0, .slice none 0 0, .slice none 0 0]
theorem kII (a : Ins) {ms : LV} (S : Nat → Prop) (w : World) (h : tIns.rd w S ms a) (hS : Lt S w) (hb : InsB a) :
    Calls prog 197 #[.agg ms.toArray] w (kAa tIns a w) := by
 obtain ⟨P0, p0, P1, p1, rfl, f0, f1, f2, f3, f4, f5, f6, h0_l, h0_c, h0, h1_l, h1_c, h1⟩ := kCf h
 have HC0 : Hid (∀ X, Fr No w X → Calls prog 157 #[.slice P0 a.types.length p0] X (EachTo (Ty.int .i64) a.types X)) := fun X f => (kBq P0 p0 a.types S X (kAA h0 f hS i2) (fun k hk => ltl (hS k hk) f.size) (by have := hb.1; omega)).mono (fun _ _ h => EachTo.of_clone h)
 have HC1 : Hid (∀ X, Fr No w X → Calls prog 95 #[.slice P1 a.labels.length p1] X (EachTo (Ty.int .i64) a.labels X)) := fun X f => (kBP P1 p1 a.labels S X (kAA h1 f hS i2) (fun k hk => ltl (hS k hk) f.size) (by have := hb.2; omega)).mono (fun _ _ h => EachTo.of_clone h)
 have F0 := hid (((Fr.refl No w).alloc (.cells (kEW a P0 P1 p0 p1) 339)).alloc (.cells kEO 339))
 have G0 := hid ((Blk.new w 339 (kEW a P0 P1 p0 p1)).alloc (.cells kEO 339))
 have G1 := hid (Blk.new1 w (.cells (kEW a P0 P1 p0 p1) 339) 339 kEO)
 have HF := hid ((⟨f0, f1, f2, f3, f4, f5, f6⟩ : _ ∧ _ ∧ _ ∧ _ ∧ _ ∧ _ ∧ _))
 have HS := hid hS
 clear h hS h0_l h0_c h0 h1_l h1_c h1 f0 f1 f2 f3 f4 f5 f6
 go_enter func197, ntmps197
 go_upto_region 1 with fail
 have HW : Hid (((w.alloc (.cells (kEW a P0 P1 p0 p1) 339)).alloc (.cells kEO 339)).heap.size = w.heap.size + 2) := by unfold Hid; simp
 generalize (w.alloc (.cells (kEW a P0 P1 p0 p1) 339)).alloc (.cells kEO 339) = W at *
 have FZ := hid (Fr.refl No W)
 have HE := hid (Its.nil (W := W) (X := W))
 have HX : Hid (∀ X, Fr No W X → Ce X w.heap.size 7 (.slice P0 a.types.length p0) ∧ Ce X w.heap.size 8 (.slice P1 a.labels.length p1)) := fun X g => ⟨(G0.o.fr g id).cell 7, (G0.o.fr g id).cell 8⟩
 refine rwP (Fr No W) [7] [0, 1, 3, 4, 2, 6, 5, 7, 8, 9] [2, 5, 7, 9] (Fr.refl No _).drew ?_
 replace FZ := hid (Fr.refl No W).drew
 replace HE := hid (HE.o.no FZ.o)
 refine rP HX.o ?_
 refine kAE rfl rfl fun K hK => sz ?_
 refine (HC0.o _ (F0.o.trans FZ.o i3)).mono ?_
 rintro e w0 ⟨B0, d0, rfl, l1, l2, el, f1⟩
 replace HE := hid (HE.o.push f1 FZ.o.size l1 l2 el)
 replace FZ := ftr FZ f1
 clear f1 el l1 l2
 refine hK _ _ (fun _ => FZ.o) ?_
 clear hK K
 refine rP HX.o ?_
 refine kAE rfl rfl fun K hK => sz ?_
 refine (HC1.o _ (F0.o.trans FZ.o i3)).mono ?_
 rintro e w1 ⟨B1, d1, rfl, l1, l2, el, f1⟩
 replace HE := hid (HE.o.push f1 FZ.o.size l1 l2 el)
 replace FZ := ftr FZ f1
 clear f1 el l1 l2
 refine hK _ _ (fun _ => FZ.o) ?_
 clear hK K
 refine rP HX.o ?_
 replace G0 := hid (G0.o.fr FZ.o id)
 replace G1 := hid (G1.o.fr FZ.o id)
 have Y0 := G0.o
 have z := Y0.cell 7
 have u := Y0.frozen 7
 refine kAE rfl rfl fun K hK => sz ?_
 clear z u
 refine hK _ _ (fun h => by cases h) ?_
 clear hK K
 refine rP HX.o ?_
 have Y1 := Y0.set_ 7 (.slice B0 a.types.length d0)
 simp only [zC] at Y1
 have z := Y1.cell 8
 have u := Y1.frozen 8
 refine kAE rfl rfl fun K hK => sz ?_
 clear z u
 refine hK _ _ (fun h => by cases h) ?_
 clear hK K
 refine rP HX.o ?_
 clear Y0 Y1 HX
 refine kAj ?_
 have FS := (((Fr.refl (One w.heap.size) w1).setCell ⟨w.heap.size, 7, none⟩ (.slice B0 a.types.length d0) (fun _ => rfl)).setCell ⟨w.heap.size, 8, none⟩ (.slice B1 a.labels.length d1) (fun _ => rfl))
 replace G0 := ((G0.o.set_ 7 (.slice B0 a.types.length d0)).set_ 8 (.slice B1 a.labels.length d1))
 simp only [zC] at G0
 replace G0 := hid G0
 replace G1 := hid (G1.o.fr FS (fun e => by have e : w.heap.size + 1 = w.heap.size := e; omega))
 replace HE := hid (HE.o.fr FS (fun k hk e => by have e : k = w.heap.size := e; have := HW.o; omega))
 replace F0 := hid ((F0.o.trans FZ.o i3).trans FS (fun i hi h => by have h : i = w.heap.size := h; omega))
 have HWZ : Hid (W.heap.size ≤ ((w1.setCell ⟨w.heap.size, 7, none⟩ (.slice B0 a.types.length d0)).setCell ⟨w.heap.size, 8, none⟩ (.slice B1 a.labels.length d1)).heap.size) := Nat.le_trans FZ.o.size FS.size
 clear FS FZ
 generalize ((w1.setCell ⟨w.heap.size, 7, none⟩ (.slice B0 a.types.length d0)).setCell ⟨w.heap.size, 8, none⟩ (.slice B1 a.labels.length d1)) = Z1 at *
 have FZ := hid (Fr.refl No Z1)
 obtain ⟨ds, hds⟩ : ∃ ds : LV, ds = [.int .i64 a.op, .int .i64 a.a, .int .i64 a.b, .int .u64 a.n, .int .i64 a.block.kind, .int .i64 a.block.val, .int .i64 a.block.index, .slice B0 a.types.length d0, .slice B1 a.labels.length d1] := ⟨_, rfl⟩
 have RG : Z1.rangeAt w.heap.size 0 ds := by rw [hds]; exact rangeAt_blk G0.o
 have HDS := hid hds
 clear hds
 have HT : Hid (Z1.there (w.heap.size + 1) 0 9) := there_blk G1.o rfl
 have HI : Hid ((prog.info? 339).map (·.size) = some 9) := by unfold Hid; kernel_rfl
 have HL : Hid (ds.length = 9) := by rw [HDS.o]; rfl
 go_wp2_with (first | refine ldG underlying339 HI.o RG HL.o ?_ | refine stG HI.o HT.o HL.o (by rw [HDS.o]; rfl) ?_ | fail)
 refine kDv underlying339 HI.o F0.o om HT.o HL.o (fun FY => ?_)
 have hG := G1.o.lt
 have hWW := HW.o
 rw [HDS.o] at FY ⊢
 have E := (HE.o.fr FY (fun k hk e => by have e : k = w.heap.size + 1 := e; omega)).low (w := w) om
 have x1 := E.get 0 rfl
 have x0 := E.get 1 rfl
 exact kOY (a := a) HF.o.1 HF.o.2.1 HF.o.2.2.1 HF.o.2.2.2.1 HF.o.2.2.2.2.1 HF.o.2.2.2.2.2.1 HF.o.2.2.2.2.2.2 x0.1 x0.2.1 x0.2.2 x1.1 x1.2.1 x1.2.2
theorem kDA (A : OA) (c : Nat) (xs : List Ins) (S : Nat → Prop) (w : World) (h : tIns.els w S A xs) (hS : Lt S w) (hb : kDP xs) :
    Calls prog 169 #[.slice A xs.length c] w (EachTo tIns xs w) := by
 have HC := hid (kIk A c xs S w h hS hb.1 (fun k hk ds X f hr => kII xs[k] S X hr (fun k hk => ltl (hS k hk) f.size) (hb.2 _ (List.getElem_mem hk))))
 clear h hS hb
 go_enter func169, ntmps169
 go_wp2_with fail
 refine HC.o.mono ?_
 rintro e w1 ⟨B, d, rfl, h1, h2, h3, h4⟩
 have HH := hid (And.intro h1 (And.intro h2 (And.intro h3 h4)))
 clear h1 h2 h3 h4 HC
 go_wp2
 go_ret
 exact ⟨B, d, rfl, HH.o.1, HH.o.2.1, HH.o.2.2.1, HH.o.2.2.2⟩
abbrev kDi (a0 : Cd) (a1 a2 : Option Addr) (a3 a4 : Nat) : Array Value := #[.int .i64 a0.type, .slice a1 a0.locals.length a3, .slice a2 a0.body.length a4]
theorem kJU (a : Cd) {ms : LV} (S : Nat → Prop) (w : World) (h : tCd.rd w S ms a) (hS : Lt S w) (hb : CdB a) :
    Calls prog 168 #[.agg ms.toArray] w (kAa tCd a w) := by
 obtain ⟨P0, p0, P1, p1, rfl, f0, h0_l, h0_c, h0, h1_l, h1_c, h1⟩ := kFQ h
 have HC0 : Hid (∀ X, Fr No w X → Calls prog 157 #[.slice P0 a.locals.length p0] X (EachTo (Ty.int .i64) a.locals X)) := fun X f => (kBq P0 p0 a.locals S X (kAA h0 f hS i2) (fun k hk => ltl (hS k hk) f.size) (by have := hb.1; omega)).mono (fun _ _ h => EachTo.of_clone h)
 have HC1 : Hid (∀ X, Fr No w X → Calls prog 169 #[.slice P1 a.body.length p1] X (EachTo tIns a.body X)) := fun X f => kDA P1 p1 a.body S X (kAA h1 f hS i2) (fun k hk => ltl (hS k hk) f.size) hb.2
 have F0 := hid (((Fr.refl No w).alloc (.cells (kDi a P0 P1 p0 p1) 301)).alloc (.cells #[.int .i64 0, .slice none 0 0, .slice none 0 0] 301))
 have G0 := hid ((Blk.new w 301 (kDi a P0 P1 p0 p1)).alloc (.cells #[.int .i64 0, .slice none 0 0, .slice none 0 0] 301))
 have G1 := hid (Blk.new1 w (.cells (kDi a P0 P1 p0 p1) 301) 301 #[.int .i64 0, .slice none 0 0, .slice none 0 0])
 have HF := hid (And.intro f0 True.intro)
 have HS := hid hS
 clear h hS h0_l h0_c h0 h1_l h1_c h1 f0
 go_enter func168, ntmps168
 go_upto_region 1 with fail
 have HW : Hid (((w.alloc (.cells (kDi a P0 P1 p0 p1) 301)).alloc (.cells #[.int .i64 0, .slice none 0 0, .slice none 0 0] 301)).heap.size = w.heap.size + 2) := by unfold Hid; simp
 generalize (w.alloc (.cells (kDi a P0 P1 p0 p1) 301)).alloc (.cells #[.int .i64 0, .slice none 0 0, .slice none 0 0] 301) = W at *
 have FZ := hid (Fr.refl No W)
 have HE := hid (Its.nil (W := W) (X := W))
 have HX : Hid (∀ X, Fr No W X → Ce X w.heap.size 0 (.int .i64 a.type) ∧ Ce X w.heap.size 1 (.slice P0 a.locals.length p0) ∧ Ce X w.heap.size 2 (.slice P1 a.body.length p1)) := fun X g => ⟨(G0.o.fr g id).cell 0, (G0.o.fr g id).cell 1, (G0.o.fr g id).cell 2⟩
 refine rwP (Fr No W) [9] [0, 1, 2, 3, 5, 6, 4, 7, 8, 9] [4, 7, 9] (Fr.refl No _).drew ?_
 replace FZ := hid (Fr.refl No W).drew
 replace HE := hid (HE.o.no FZ.o)
 refine rP HX.o ?_
 refine kAE rfl rfl fun K hK => sz ?_
 refine (HC0.o _ (F0.o.trans FZ.o i3)).mono ?_
 rintro e w0 ⟨B0, d0, rfl, l1, l2, el, f1⟩
 replace HE := hid (HE.o.push f1 FZ.o.size l1 l2 el)
 replace FZ := ftr FZ f1
 clear f1 el l1 l2
 refine hK _ _ (fun _ => FZ.o) ?_
 clear hK K
 refine rP HX.o ?_
 refine kAE rfl rfl fun K hK => sz ?_
 refine (HC1.o _ (F0.o.trans FZ.o i3)).mono ?_
 rintro e w1 ⟨B1, d1, rfl, l1, l2, el, f1⟩
 replace HE := hid (HE.o.push f1 FZ.o.size l1 l2 el)
 replace FZ := ftr FZ f1
 clear f1 el l1 l2
 refine hK _ _ (fun _ => FZ.o) ?_
 clear hK K
 refine rP HX.o ?_
 replace G1 := hid (G1.o.fr FZ.o id)
 replace F0 := ftr F0 FZ.o
 refine kAE rfl rfl (fun K hK => ?_)
 simp only [List.getElem_toArray, List.getElem_cons_succ, List.getElem_cons_zero]
 refine wp_store_mid 301 _ _ (by rfl) (w.heap.size + 1) 0 #[.int .i64 a.type, .slice B0 a.locals.length d0, .slice B1 a.body.length d1] (by rfl) (by rfl) (there_blk G1.o rfl) kr (by simp [Value.oneCell']) ?_
 refine hK _ _ (fun h => by cases h) ?_
 clear hK K HX
 refine kAj ?_
 go_wp2
 refine kDv (n := 3) underlying301 kr F0.o om (there_blk G1.o rfl) rfl (fun FY => ?_)
 have hG := G1.o.lt
 have hWW := HW.o
 have E := (HE.o.fr FY (fun k hk e => by have e : k = w.heap.size + 1 := e; omega)).low (w := w) om
 have x1 := E.get 0 rfl
 have x0 := E.get 1 rfl
 exact kPI (a := a) HF.o.1 x0.1 x0.2.1 x0.2.2 x1.1 x1.2.1 x1.2.2
theorem kJP (a : Gd) {ms : LV} (S : Nat → Prop) (w : World) (h : tGd.rd w S ms a) (hS : Lt S w) (hb : GdB a) :
    Calls prog 171 #[.agg ms.toArray] w (kAa tGd a w) := by
 obtain ⟨P0, p0, rfl, f0, h0_l, h0_c, h0⟩ := kFM h
 have HC0 : Hid (∀ X, Fr No w X → Calls prog 169 #[.slice P0 a.init.length p0] X (EachTo tIns a.init X)) := fun X f => kDA P0 p0 a.init S X (kAA h0 f hS i2) (fun k hk => ltl (hS k hk) f.size) hb
 have F0 := hid (((Fr.refl No w).alloc (.cells #[.int .i64 a.type.val, .bool a.type.mut_, .slice P0 a.init.length p0] 306)).alloc (.cells #[.int .i64 0, .bool false, .slice none 0 0] 306))
 have G0 := hid ((Blk.new w 306 #[.int .i64 a.type.val, .bool a.type.mut_, .slice P0 a.init.length p0]).alloc (.cells #[.int .i64 0, .bool false, .slice none 0 0] 306))
 have G1 := hid (Blk.new1 w (.cells #[.int .i64 a.type.val, .bool a.type.mut_, .slice P0 a.init.length p0] 306) 306 #[.int .i64 0, .bool false, .slice none 0 0])
 have HF := hid (And.intro f0 True.intro)
 have HS := hid hS
 clear h hS h0_l h0_c h0 f0
 go_enter func171, ntmps171
 go_upto_region 1 with fail
 have HW : Hid (((w.alloc (.cells #[.int .i64 a.type.val, .bool a.type.mut_, .slice P0 a.init.length p0] 306)).alloc (.cells #[.int .i64 0, .bool false, .slice none 0 0] 306)).heap.size = w.heap.size + 2) := by unfold Hid; simp
 generalize (w.alloc (.cells #[.int .i64 a.type.val, .bool a.type.mut_, .slice P0 a.init.length p0] 306)).alloc (.cells #[.int .i64 0, .bool false, .slice none 0 0] 306) = W at *
 have FZ := hid (Fr.refl No W)
 have HE := hid (Its.nil (W := W) (X := W))
 have HX : Hid (∀ X, Fr No W X → Ce X w.heap.size 0 (.int .i64 a.type.val) ∧ Ce X w.heap.size 1 (.bool a.type.mut_) ∧ Ce X w.heap.size 2 (.slice P0 a.init.length p0)) := fun X g => ⟨(G0.o.fr g id).cell 0, (G0.o.fr g id).cell 1, (G0.o.fr g id).cell 2⟩
 refine rwP (Fr No W) [6] (List.range 7) [4, 6] (Fr.refl No _).drew ?_
 replace FZ := hid (Fr.refl No W).drew
 replace HE := hid (HE.o.no FZ.o)
 refine rP HX.o ?_
 refine kAE rfl rfl fun K hK => sz ?_
 refine (HC0.o _ (F0.o.trans FZ.o i3)).mono ?_
 rintro e w0 ⟨B0, d0, rfl, l1, l2, el, f1⟩
 replace HE := hid (HE.o.push f1 FZ.o.size l1 l2 el)
 replace FZ := ftr FZ f1
 clear f1 el l1 l2
 refine hK _ _ (fun _ => FZ.o) ?_
 clear hK K
 refine rP HX.o ?_
 replace G1 := hid (G1.o.fr FZ.o id)
 replace F0 := ftr F0 FZ.o
 refine kAE rfl rfl (fun K hK => ?_)
 simp only [List.getElem_toArray, List.getElem_cons_succ, List.getElem_cons_zero]
 refine wp_store_mid 306 _ _ (by rfl) (w.heap.size + 1) 0 #[.int .i64 a.type.val, .bool a.type.mut_, .slice B0 a.init.length d0] (by rfl) (by rfl) (there_blk G1.o rfl) kr (by simp [Value.oneCell']) ?_
 refine hK _ _ (fun h => by cases h) ?_
 clear hK K HX
 refine kAj ?_
 go_wp2
 refine kDv (n := 3) underlying306 kr F0.o om (there_blk G1.o rfl) rfl (fun FY => ?_)
 have hG := G1.o.lt
 have hWW := HW.o
 have E := (HE.o.fr FY (fun k hk e => by have e : k = w.heap.size + 1 := e; omega)).low (w := w) om
 have x0 := E.get 0 rfl
 exact kPC (a := a) HF.o.1 x0.1 x0.2.1 x0.2.2
abbrev kDs (a0 : Da) (a1 a2 : Option Addr) (a3 a4 : Nat) : Array Value := #[.int .i64 a0.mode, .int .i64 a0.mem, .slice a1 a0.off.length a3, .slice a2 a0.bytes.length a4]
abbrev kDK : Array Value := #[.int .i64 0, .int .i64 0, .slice none 0 0, .slice none 0 0]
theorem kJS (a : Da) {ms : LV} (S : Nat → Prop) (w : World) (h : tDa.rd w S ms a) (hS : Lt S w) (hb : DaB a) :
    Calls prog 176 #[.agg ms.toArray] w (kAa tDa a w) := by
 obtain ⟨P0, p0, P1, p1, rfl, f0, f1, h0_l, h0_c, h0, h1_l, h1_c, h1⟩ := kFO h
 have HC0 : Hid (∀ X, Fr No w X → Calls prog 169 #[.slice P0 a.off.length p0] X (EachTo tIns a.off X)) := fun X f => kDA P0 p0 a.off S X (kAA h0 f hS i2) (fun k hk => ltl (hS k hk) f.size) hb.1
 have HC1 : Hid (∀ X, Fr No w X → Calls prog 85 #[.slice P1 a.bytes.length p1] X (EachTo (Ty.int .u8) a.bytes X)) := fun X f => (kCn P1 p1 a.bytes S X (kAA h1 f hS i2) (fun k hk => ltl (hS k hk) f.size) (by have := hb.2; omega)).mono (fun _ _ h => EachTo.of_clone h)
 have F0 := hid (((Fr.refl No w).alloc (.cells (kDs a P0 P1 p0 p1) 316)).alloc (.cells kDK 316))
 have G0 := hid ((Blk.new w 316 (kDs a P0 P1 p0 p1)).alloc (.cells kDK 316))
 have G1 := hid (Blk.new1 w (.cells (kDs a P0 P1 p0 p1) 316) 316 kDK)
 have HF := hid ((⟨f0, f1⟩ : _ ∧ _))
 have HS := hid hS
 clear h hS h0_l h0_c h0 h1_l h1_c h1 f0 f1
 go_enter func176, ntmps176
 go_upto_region 1 with fail
 have HW : Hid (((w.alloc (.cells (kDs a P0 P1 p0 p1) 316)).alloc (.cells kDK 316)).heap.size = w.heap.size + 2) := by unfold Hid; simp
 generalize (w.alloc (.cells (kDs a P0 P1 p0 p1) 316)).alloc (.cells kDK 316) = W at *
 have FZ := hid (Fr.refl No W)
 have HE := hid (Its.nil (W := W) (X := W))
 have HX : Hid (∀ X, Fr No W X → Ce X w.heap.size 2 (.slice P0 a.off.length p0) ∧ Ce X w.heap.size 3 (.slice P1 a.bytes.length p1)) := fun X g => ⟨(G0.o.fr g id).cell 2, (G0.o.fr g id).cell 3⟩
 refine rwP (Fr No W) [7] [0, 1, 3, 4, 2, 6, 5, 7, 8, 9] [2, 5, 7, 9] (Fr.refl No _).drew ?_
 replace FZ := hid (Fr.refl No W).drew
 replace HE := hid (HE.o.no FZ.o)
 refine rP HX.o ?_
 refine kAE rfl rfl fun K hK => sz ?_
 refine (HC0.o _ (F0.o.trans FZ.o i3)).mono ?_
 rintro e w0 ⟨B0, d0, rfl, l1, l2, el, f1⟩
 replace HE := hid (HE.o.push f1 FZ.o.size l1 l2 el)
 replace FZ := ftr FZ f1
 clear f1 el l1 l2
 refine hK _ _ (fun _ => FZ.o) ?_
 clear hK K
 refine rP HX.o ?_
 refine kAE rfl rfl fun K hK => sz ?_
 refine (HC1.o _ (F0.o.trans FZ.o i3)).mono ?_
 rintro e w1 ⟨B1, d1, rfl, l1, l2, el, f1⟩
 replace HE := hid (HE.o.push f1 FZ.o.size l1 l2 el)
 replace FZ := ftr FZ f1
 clear f1 el l1 l2
 refine hK _ _ (fun _ => FZ.o) ?_
 clear hK K
 refine rP HX.o ?_
 replace G0 := hid (G0.o.fr FZ.o id)
 replace G1 := hid (G1.o.fr FZ.o id)
 have Y0 := G0.o
 have z := Y0.cell 2
 have u := Y0.frozen 2
 refine kAE rfl rfl fun K hK => sz ?_
 clear z u
 refine hK _ _ (fun h => by cases h) ?_
 clear hK K
 refine rP HX.o ?_
 have Y1 := Y0.set_ 2 (.slice B0 a.off.length d0)
 simp only [zC] at Y1
 have z := Y1.cell 3
 have u := Y1.frozen 3
 refine kAE rfl rfl fun K hK => sz ?_
 clear z u
 refine hK _ _ (fun h => by cases h) ?_
 clear hK K
 refine rP HX.o ?_
 clear Y0 Y1 HX
 refine kAj ?_
 have FS := (((Fr.refl (One w.heap.size) w1).setCell ⟨w.heap.size, 2, none⟩ (.slice B0 a.off.length d0) (fun _ => rfl)).setCell ⟨w.heap.size, 3, none⟩ (.slice B1 a.bytes.length d1) (fun _ => rfl))
 replace G0 := ((G0.o.set_ 2 (.slice B0 a.off.length d0)).set_ 3 (.slice B1 a.bytes.length d1))
 simp only [zC] at G0
 replace G0 := hid G0
 replace G1 := hid (G1.o.fr FS (fun e => by have e : w.heap.size + 1 = w.heap.size := e; omega))
 replace HE := hid (HE.o.fr FS (fun k hk e => by have e : k = w.heap.size := e; have := HW.o; omega))
 replace F0 := hid ((F0.o.trans FZ.o i3).trans FS (fun i hi h => by have h : i = w.heap.size := h; omega))
 have HWZ : Hid (W.heap.size ≤ ((w1.setCell ⟨w.heap.size, 2, none⟩ (.slice B0 a.off.length d0)).setCell ⟨w.heap.size, 3, none⟩ (.slice B1 a.bytes.length d1)).heap.size) := Nat.le_trans FZ.o.size FS.size
 clear FS FZ
 generalize ((w1.setCell ⟨w.heap.size, 2, none⟩ (.slice B0 a.off.length d0)).setCell ⟨w.heap.size, 3, none⟩ (.slice B1 a.bytes.length d1)) = Z1 at *
 have FZ := hid (Fr.refl No Z1)
 obtain ⟨ds, hds⟩ : ∃ ds : LV, ds = [.int .i64 a.mode, .int .i64 a.mem, .slice B0 a.off.length d0, .slice B1 a.bytes.length d1] := ⟨_, rfl⟩
 have RG : Z1.rangeAt w.heap.size 0 ds := by rw [hds]; exact rangeAt_blk G0.o
 have HDS := hid hds
 clear hds
 have HT : Hid (Z1.there (w.heap.size + 1) 0 4) := there_blk G1.o rfl
 have HI : Hid ((prog.info? 316).map (·.size) = some 4) := by unfold Hid; kernel_rfl
 have HL : Hid (ds.length = 4) := by rw [HDS.o]; rfl
 go_wp2_with (first | refine ldG underlying316 HI.o RG HL.o ?_ | refine stG HI.o HT.o HL.o (by rw [HDS.o]; rfl) ?_ | fail)
 refine kDv underlying316 HI.o F0.o om HT.o HL.o (fun FY => ?_)
 have hG := G1.o.lt
 have hWW := HW.o
 rw [HDS.o] at FY ⊢
 have E := (HE.o.fr FY (fun k hk e => by have e : k = w.heap.size + 1 := e; omega)).low (w := w) om
 have x1 := E.get 0 rfl
 have x0 := E.get 1 rfl
 exact kPG (a := a) HF.o.1 HF.o.2 x0.1 x0.2.1 x0.2.2 x1.1 x1.2.1 x1.2.2
abbrev kDL (a0 : Cu) (a1 : Option Addr) (a2 : Nat) : Array Value := #[.int .i64 a0.after, .string a0.name, .slice a1 a0.bytes.length a2]
theorem kJT (a : Cu) {ms : LV} (S : Nat → Prop) (w : World) (h : tCu.rd w S ms a) (hS : Lt S w) (hb : CuB a) :
    Calls prog 178 #[.agg ms.toArray] w (kAa tCu a w) := by
 obtain ⟨P0, p0, rfl, f0, f1, h0_l, h0_c, h0⟩ := kFP h
 have HC0 : Hid (∀ X, Fr No w X → Calls prog 85 #[.slice P0 a.bytes.length p0] X (EachTo (Ty.int .u8) a.bytes X)) := fun X f => (kCn P0 p0 a.bytes S X (kAA h0 f hS i2) (fun k hk => ltl (hS k hk) f.size) (by have : a.bytes.length ≤ 1048576 := hb; omega)).mono (fun _ _ h => EachTo.of_clone h)
 have F0 := hid (((Fr.refl No w).alloc (.cells (kDL a P0 p0) 320)).alloc (.cells #[.int .i64 0, .string ⟨#[]⟩, .slice none 0 0] 320))
 have G0 := hid ((Blk.new w 320 (kDL a P0 p0)).alloc (.cells #[.int .i64 0, .string ⟨#[]⟩, .slice none 0 0] 320))
 have G1 := hid (Blk.new1 w (.cells (kDL a P0 p0) 320) 320 #[.int .i64 0, .string ⟨#[]⟩, .slice none 0 0])
 have HF := hid ((⟨f0, f1⟩ : _ ∧ _))
 have HS := hid hS
 clear h hS h0_l h0_c h0 f0 f1
 go_enter func178, ntmps178
 go_upto_region 1 with fail
 have HW : Hid (((w.alloc (.cells (kDL a P0 p0) 320)).alloc (.cells #[.int .i64 0, .string ⟨#[]⟩, .slice none 0 0] 320)).heap.size = w.heap.size + 2) := by unfold Hid; simp
 generalize (w.alloc (.cells (kDL a P0 p0) 320)).alloc (.cells #[.int .i64 0, .string ⟨#[]⟩, .slice none 0 0] 320) = W at *
 have FZ := hid (Fr.refl No W)
 have HE := hid (Its.nil (W := W) (X := W))
 have z := G0.o.cell 2
 go_wp2_with fail
 refine (HC0.o _ (F0.o.trans FZ.o i3)).mono ?_
 rintro e w0 ⟨B0, d0, rfl, l1, l2, el, f1⟩
 replace HE := hid (HE.o.push f1 FZ.o.size l1 l2 el)
 replace FZ := ftr FZ f1
 clear f1 el l1 l2
 clear z
 replace G0 := hid (G0.o.fr FZ.o id)
 replace G1 := hid (G1.o.fr FZ.o id)
 have z := G0.o.cell 2
 have u := G0.o.frozen 2
 go_upto_region 2 with fail
 clear z u
 have FS := ((Fr.refl (One w.heap.size) w0).setCell ⟨w.heap.size, 2, none⟩ (.slice B0 a.bytes.length d0) (fun _ => rfl))
 replace G0 := (G0.o.set_ 2 (.slice B0 a.bytes.length d0))
 simp only [zC] at G0
 replace G0 := hid G0
 replace G1 := hid (G1.o.fr FS (fun e => by have e : w.heap.size + 1 = w.heap.size := e; omega))
 replace HE := hid (HE.o.fr FS (fun k hk e => by have e : k = w.heap.size := e; have := HW.o; omega))
 replace F0 := hid ((F0.o.trans FZ.o i3).trans FS (fun i hi h => by have h : i = w.heap.size := h; omega))
 have HWZ : Hid (W.heap.size ≤ (w0.setCell ⟨w.heap.size, 2, none⟩ (.slice B0 a.bytes.length d0)).heap.size) := Nat.le_trans FZ.o.size FS.size
 clear FS FZ
 generalize (w0.setCell ⟨w.heap.size, 2, none⟩ (.slice B0 a.bytes.length d0)) = Z0 at *
 have FZ := hid (Fr.refl No Z0)
 obtain ⟨ds, hds⟩ : ∃ ds : LV, ds = [.int .i64 a.after, .string a.name, .slice B0 a.bytes.length d0] := ⟨_, rfl⟩
 have RG : Z0.rangeAt w.heap.size 0 ds := by rw [hds]; exact rangeAt_blk G0.o
 have HDS := hid hds
 clear hds
 have HT : Hid (Z0.there (w.heap.size + 1) 0 3) := there_blk G1.o rfl
 have HI : Hid ((prog.info? 320).map (·.size) = some 3) := by unfold Hid; kernel_rfl
 have HL : Hid (ds.length = 3) := by rw [HDS.o]; rfl
 go_wp2_with (first | refine ldG underlying320 HI.o RG HL.o ?_ | refine stG HI.o HT.o HL.o (by rw [HDS.o]; rfl) ?_ | fail)
 refine kDv underlying320 HI.o F0.o om HT.o HL.o (fun FY => ?_)
 have hG := G1.o.lt
 have hWW := HW.o
 rw [HDS.o] at FY ⊢
 have E := (HE.o.fr FY (fun k hk e => by have e : k = w.heap.size + 1 := e; omega)).low (w := w) om
 have x0 := E.get 0 rfl
 exact kPH (a := a) HF.o.1 HF.o.2 x0.1 x0.2.1 x0.2.2
theorem kGi (A : OA) (c : Nat) (xs : List (List Ins)) (S : Nat → Prop) (w : World) (h : tIns.slice.els w S A xs) (hS : Lt S w) (hl : xs.length ≤ 1048576) (hb : ∀ l ∈ xs, kDP l) :
    Calls prog 174 #[.slice A xs.length c, .func (.func 169) #[] #[]] w (EachTo tIns.slice xs w) := by
 have HE := hid h
 have HS := hid hS
 have HB := hid hb
 clear h hS hb
 go_enter func174, ntmps174
 go_wp2
 go_loopw [5, 10] (fun v i wr => ∃ k, k ≤ xs.length ∧ i = .int .i64 (k : Nat) ∧ Hid (Fr No w wr) ∧ Hid (tIns.slice.row wr w.heap.size (Sv w wr v) 299 v (xs.take k))) (fun _ i _ => xs.length - (intOf i).toNat)
 case atStart => exact ⟨0, nz, rfl, Fr.refl _ _, Ty.row.nil _ _ _ _⟩
 obtain ⟨k, hk, rfl, F1, HR⟩ := hrel
 have i0 := nki k
 by_cases hlt : k < xs.length
 · obtain ⟨b, o, ds, rfl, hb, hc, A1, c1, rfl, _, _, hr⟩ := HE.o.at_ k hlt
   have y : wr.cell? ⟨b, o + k, none⟩ = some (.slice A1 xs[k].length c1) := by
    have h1 := hc 0 _ rfl
    have e : o + (k * tIns.slice.size + 0) = o + k := by show o + (k * 1 + 0) = o + k; omega
    rw [e] at h1
    exact (F1.o.cell (p := ⟨b, o + k, none⟩) (HS.o _ hb) id).trans h1
   have i1 : (k : Int) < xs.length := om
   have HC := hid (kDA A1 c1 xs[k] S wr (kAA hr F1.o HS.o i2) (fun k hk => ltl (HS.o k hk) F1.o.size) (HB.o _ (List.getElem_mem hlt)))
   clear hr hc
   go_wp2_with fail
   refine HC.o.mono ?_
   rintro e w2 ⟨A2, c2, rfl, l1, l2, hr2, f2⟩
   clear HC y
   have HR2 : Hid (tIns.slice.rd w2 (Nw wr w2) [.slice A2 xs[k].length c2] xs[k]) := ⟨A2, c2, rfl, l1, l2, hr2⟩
   have F2 := hid f2
   clear hr2 f2 l1 l2
   go_wp2_with (first | (at_builtin; refine kCF (t := tIns.slice) kOL F1.o HR.o F2.o HR2.o so dc ?_; intro v3 w3 f3 hr3; have F3 := hid f3; have R3 := hid hr3; clear f3 hr3) | fail)
   exact yy16
 exact yy15
abbrev kEI (a0 : El) (a1 a2 : Option Addr) (a3 a4 : Nat) : Array Value := #[.int .i64 a0.mode, .int .i64 a0.table, .slice a1 a0.off.length a3, .int .i64 a0.type, .slice a2 a0.items.length a4]
abbrev kDh : Array Value := #[.int .i64 0, .int .i64 0, .slice none 0 0, .int .i64 0, .slice none 0 0]
theorem kJR (a : El) {ms : LV} (S : Nat → Prop) (w : World) (h : tEl.rd w S ms a) (hS : Lt S w) (hb : ElB a) :
    Calls prog 173 #[.agg ms.toArray] w (kAa tEl a w) := by
 obtain ⟨P0, p0, P1, p1, rfl, f0, f1, h0_l, h0_c, h0, f3, h1_l, h1_c, h1⟩ := kFN h
 have HC0 : Hid (∀ X, Fr No w X → Calls prog 169 #[.slice P0 a.off.length p0] X (EachTo tIns a.off X)) := fun X f => kDA P0 p0 a.off S X (kAA h0 f hS i2) (fun k hk => ltl (hS k hk) f.size) hb.1
 have HC1 : Hid (∀ X, Fr No w X → Calls prog 174 #[.slice P1 a.items.length p1, .func (.func 169) #[] #[]] X (EachTo tIns.slice a.items X)) := fun X f => kGi P1 p1 a.items S X (kAA h1 f hS i2) (fun k hk => ltl (hS k hk) f.size) hb.2.1 hb.2.2
 have F0 := hid (((Fr.refl No w).alloc (.cells (kEI a P0 P1 p0 p1) 311)).alloc (.cells kDh 311))
 have G0 := hid ((Blk.new w 311 (kEI a P0 P1 p0 p1)).alloc (.cells kDh 311))
 have G1 := hid (Blk.new1 w (.cells (kEI a P0 P1 p0 p1) 311) 311 kDh)
 have HF := hid ((⟨f0, f1, f3⟩ : _ ∧ _ ∧ _))
 have HS := hid hS
 clear h hS h0_l h0_c h0 h1_l h1_c h1 f0 f1 f3
 go_enter func173, ntmps173
 go_upto_region 1 with fail
 have HW : Hid (((w.alloc (.cells (kEI a P0 P1 p0 p1) 311)).alloc (.cells kDh 311)).heap.size = w.heap.size + 2) := by unfold Hid; simp
 generalize (w.alloc (.cells (kEI a P0 P1 p0 p1) 311)).alloc (.cells kDh 311) = W at *
 have FZ := hid (Fr.refl No W)
 have HE := hid (Its.nil (W := W) (X := W))
 have HX : Hid (∀ X, Fr No W X → Ce X w.heap.size 2 (.slice P0 a.off.length p0) ∧ Ce X w.heap.size 4 (.slice P1 a.items.length p1)) := fun X g => ⟨(G0.o.fr g id).cell 2, (G0.o.fr g id).cell 4⟩
 refine rwP (Fr No W) [7] [0, 1, 3, 4, 2, 6, 5, 7, 8, 9] [2, 5, 7, 9] (Fr.refl No _).drew ?_
 replace FZ := hid (Fr.refl No W).drew
 replace HE := hid (HE.o.no FZ.o)
 refine rP HX.o ?_
 refine kAE rfl rfl fun K hK => sz ?_
 refine (HC0.o _ (F0.o.trans FZ.o i3)).mono ?_
 rintro e w0 ⟨B0, d0, rfl, l1, l2, el, f1⟩
 replace HE := hid (HE.o.push f1 FZ.o.size l1 l2 el)
 replace FZ := ftr FZ f1
 clear f1 el l1 l2
 refine hK _ _ (fun _ => FZ.o) ?_
 clear hK K
 refine rP HX.o ?_
 refine kAE rfl rfl fun K hK => sz ?_
 refine (HC1.o _ (F0.o.trans FZ.o i3)).mono ?_
 rintro e w1 ⟨B1, d1, rfl, l1, l2, el, f1⟩
 replace HE := hid (HE.o.push f1 FZ.o.size l1 l2 el)
 replace FZ := ftr FZ f1
 clear f1 el l1 l2
 refine hK _ _ (fun _ => FZ.o) ?_
 clear hK K
 refine rP HX.o ?_
 replace G0 := hid (G0.o.fr FZ.o id)
 replace G1 := hid (G1.o.fr FZ.o id)
 have Y0 := G0.o
 have z := Y0.cell 2
 have u := Y0.frozen 2
 refine kAE rfl rfl fun K hK => sz ?_
 clear z u
 refine hK _ _ (fun h => by cases h) ?_
 clear hK K
 refine rP HX.o ?_
 have Y1 := Y0.set_ 2 (.slice B0 a.off.length d0)
 simp only [zC] at Y1
 have z := Y1.cell 4
 have u := Y1.frozen 4
 refine kAE rfl rfl fun K hK => sz ?_
 clear z u
 refine hK _ _ (fun h => by cases h) ?_
 clear hK K
 refine rP HX.o ?_
 clear Y0 Y1 HX
 refine kAj ?_
 have FS := (((Fr.refl (One w.heap.size) w1).setCell ⟨w.heap.size, 2, none⟩ (.slice B0 a.off.length d0) (fun _ => rfl)).setCell ⟨w.heap.size, 4, none⟩ (.slice B1 a.items.length d1) (fun _ => rfl))
 replace G0 := ((G0.o.set_ 2 (.slice B0 a.off.length d0)).set_ 4 (.slice B1 a.items.length d1))
 simp only [zC] at G0
 replace G0 := hid G0
 replace G1 := hid (G1.o.fr FS (fun e => by have e : w.heap.size + 1 = w.heap.size := e; omega))
 replace HE := hid (HE.o.fr FS (fun k hk e => by have e : k = w.heap.size := e; have := HW.o; omega))
 replace F0 := hid ((F0.o.trans FZ.o i3).trans FS (fun i hi h => by have h : i = w.heap.size := h; omega))
 have HWZ : Hid (W.heap.size ≤ ((w1.setCell ⟨w.heap.size, 2, none⟩ (.slice B0 a.off.length d0)).setCell ⟨w.heap.size, 4, none⟩ (.slice B1 a.items.length d1)).heap.size) := Nat.le_trans FZ.o.size FS.size
 clear FS FZ
 generalize ((w1.setCell ⟨w.heap.size, 2, none⟩ (.slice B0 a.off.length d0)).setCell ⟨w.heap.size, 4, none⟩ (.slice B1 a.items.length d1)) = Z1 at *
 have FZ := hid (Fr.refl No Z1)
 obtain ⟨ds, hds⟩ : ∃ ds : LV, ds = [.int .i64 a.mode, .int .i64 a.table, .slice B0 a.off.length d0, .int .i64 a.type, .slice B1 a.items.length d1] := ⟨_, rfl⟩
 have RG : Z1.rangeAt w.heap.size 0 ds := by rw [hds]; exact rangeAt_blk G0.o
 have HDS := hid hds
 clear hds
 have HT : Hid (Z1.there (w.heap.size + 1) 0 5) := there_blk G1.o rfl
 have HI : Hid ((prog.info? 311).map (·.size) = some 5) := by unfold Hid; kernel_rfl
 have HL : Hid (ds.length = 5) := by rw [HDS.o]; rfl
 go_wp2_with (first | refine ldG underlying311 HI.o RG HL.o ?_ | refine stG HI.o HT.o HL.o (by rw [HDS.o]; rfl) ?_ | fail)
 refine kDv underlying311 HI.o F0.o om HT.o HL.o (fun FY => ?_)
 have hG := G1.o.lt
 have hWW := HW.o
 rw [HDS.o] at FY ⊢
 have E := (HE.o.fr FY (fun k hk e => by have e : k = w.heap.size + 1 := e; omega)).low (w := w) om
 have x1 := E.get 0 rfl
 have x0 := E.get 1 rfl
 exact kPF (a := a) HF.o.1 HF.o.2.1 x0.1 x0.2.1 x0.2.2 HF.o.2.2 x1.1 x1.2.1 x1.2.2
structure MdB (a : Md) : Prop where
 types : a.types.length ≤ 1048576 ∧ ∀ x ∈ a.types, FnB x
 imports : a.imports.length ≤ 1048576
 funcs : a.funcs.length ≤ 1048576 ∧ ∀ x ∈ a.funcs, CdB x
 tables : a.tables.length ≤ 1048576
 mems : a.mems.length ≤ 1048576
 globals : a.globals.length ≤ 1048576 ∧ ∀ x ∈ a.globals, GdB x
 exports : a.exports.length ≤ 1048576
 elems : a.elems.length ≤ 1048576 ∧ ∀ x ∈ a.elems, ElB x
 datas : a.datas.length ≤ 1048576 ∧ ∀ x ∈ a.datas, DaB x
 customs : a.customs.length ≤ 1048576 ∧ ∀ x ∈ a.customs, CuB x
instance : kAh tLim := by unfold tLim tLim0; infer_instance
instance : kAh tTb := by unfold tTb tTb0; infer_instance
instance : kAh tGl := by unfold tGl tGl0; infer_instance
instance : kAh tIm := by unfold tIm tIm0; infer_instance
instance : kAh tEx := by unfold tEx tEx0; infer_instance
abbrev kFb (a0 a1 a2 a3 a4 a5 a6 a7 a8 a9 : Option Addr) (a10 : Md) (a11 a12 a13 a14 a15 a16 a17 a18 a19 a20 : Nat) : Array Value := #[.slice a0 a10.types.length a11, .slice a1 a10.imports.length a12, .slice a2 a10.funcs.length a13, .slice a3 a10.tables.length a14, .slice a4 a10.mems.length a15, .slice a5 a10.globals.length a16, .slice a6 a10.exports.length a17, .bool a10.hasStart, .int .i64 a10.start, .slice a7 a10.elems.length a18, .slice a8 a10.datas.length a19, .slice a9 a10.customs.length a20]
abbrev kFa : Array Value := #[.slice none 0 0, .slice none 0 0, .slice none 0 0, .slice none 0 0, .slice none 0 0, .slice none 0 0, .slice none 0 0, .bool false, .int .i64 0, .slice none 0 0, .slice none 0 0, .slice none 0 0]
theorem kHl (a : Md) {ms : LV} (S : Nat → Prop) (w : World) (h : tMd.rd w S ms a) (hS : Lt S w) (hb : MdB a) :
    Calls prog 87 #[.agg ms.toArray] w (kAa tMd a w) := by
 obtain ⟨P0, p0, P1, p1, P2, p2, P3, p3, P4, p4, P5, p5, P6, p6, P7, p7, P8, p8, P9, p9, rfl, h0_l, h0_c, h0, h1_l, h1_c, h1, h2_l, h2_c, h2, h3_l, h3_c, h3, h4_l, h4_c, h4, h5_l, h5_c, h5, h6_l, h6_c, h6, f7, h7_l, h7_c, h7, h8_l, h8_c, h8, h9_l, h9_c, h9⟩ := kBl h
 have HC0 : Hid (∀ X, Fr No w X → Calls prog 161 #[.slice P0 a.types.length p0, .func (.func 162) #[] #[]] X (EachTo tFn a.types X)) := fun X f => kKK P0 p0 a.types S X (kAA h0 f hS i2) (fun k hk => ltl (hS k hk) f.size) hb.types.1 (fun k hk ds Y f2 hr => kJQ a.types[k] S Y hr (fun k hk => ltl (hS k hk) (Nat.le_trans f.size f2.size)) (by have := (hb.types.2 _ (List.getElem_mem hk)).1; omega) (by have := (hb.types.2 _ (List.getElem_mem hk)).2; omega))
 have HC1 : Hid (∀ X, Fr No w X → Calls prog 163 #[.slice P1 a.imports.length p1] X (EachTo tIm a.imports X)) := fun X f => (kIn P1 p1 a.imports S X (kAA h1 f hS i2) (fun k hk => ltl (hS k hk) f.size) (by have := hb.imports; omega)).mono (fun _ _ h => EachTo.of_clone h)
 have HC2 : Hid (∀ X, Fr No w X → Calls prog 167 #[.slice P2 a.funcs.length p2, .func (.func 168) #[] #[]] X (EachTo tCd a.funcs X)) := fun X f => kKO P2 p2 a.funcs S X (kAA h2 f hS i2) (fun k hk => ltl (hS k hk) f.size) hb.funcs.1 (fun k hk ds Y f2 hr => kJU a.funcs[k] S Y hr (fun k hk => ltl (hS k hk) (Nat.le_trans f.size f2.size)) (hb.funcs.2 _ (List.getElem_mem hk)))
 have HC3 : Hid (∀ X, Fr No w X → Calls prog 164 #[.slice P3 a.tables.length p3] X (EachTo tTb a.tables X)) := fun X f => (kIm P3 p3 a.tables S X (kAA h3 f hS i2) (fun k hk => ltl (hS k hk) f.size) (by have := hb.tables; omega)).mono (fun _ _ h => EachTo.of_clone h)
 have HC4 : Hid (∀ X, Fr No w X → Calls prog 165 #[.slice P4 a.mems.length p4] X (EachTo tLim a.mems X)) := fun X f => (kHn P4 p4 a.mems S X (kAA h4 f hS i2) (fun k hk => ltl (hS k hk) f.size) (by have := hb.mems; omega)).mono (fun _ _ h => EachTo.of_clone h)
 have HC5 : Hid (∀ X, Fr No w X → Calls prog 170 #[.slice P5 a.globals.length p5, .func (.func 171) #[] #[]] X (EachTo tGd a.globals X)) := fun X f => kKJ P5 p5 a.globals S X (kAA h5 f hS i2) (fun k hk => ltl (hS k hk) f.size) hb.globals.1 (fun k hk ds Y f2 hr => kJP a.globals[k] S Y hr (fun k hk => ltl (hS k hk) (Nat.le_trans f.size f2.size)) (hb.globals.2 _ (List.getElem_mem hk)))
 have HC6 : Hid (∀ X, Fr No w X → Calls prog 166 #[.slice P6 a.exports.length p6] X (EachTo tEx a.exports X)) := fun X f => (kIo P6 p6 a.exports S X (kAA h6 f hS i2) (fun k hk => ltl (hS k hk) f.size) (by have := hb.exports; omega)).mono (fun _ _ h => EachTo.of_clone h)
 have HC7 : Hid (∀ X, Fr No w X → Calls prog 172 #[.slice P7 a.elems.length p7, .func (.func 173) #[] #[]] X (EachTo tEl a.elems X)) := fun X f => kKL P7 p7 a.elems S X (kAA h7 f hS i2) (fun k hk => ltl (hS k hk) f.size) hb.elems.1 (fun k hk ds Y f2 hr => kJR a.elems[k] S Y hr (fun k hk => ltl (hS k hk) (Nat.le_trans f.size f2.size)) (hb.elems.2 _ (List.getElem_mem hk)))
 have HC8 : Hid (∀ X, Fr No w X → Calls prog 175 #[.slice P8 a.datas.length p8, .func (.func 176) #[] #[]] X (EachTo tDa a.datas X)) := fun X f => kKM P8 p8 a.datas S X (kAA h8 f hS i2) (fun k hk => ltl (hS k hk) f.size) hb.datas.1 (fun k hk ds Y f2 hr => kJS a.datas[k] S Y hr (fun k hk => ltl (hS k hk) (Nat.le_trans f.size f2.size)) (hb.datas.2 _ (List.getElem_mem hk)))
 have HC9 : Hid (∀ X, Fr No w X → Calls prog 177 #[.slice P9 a.customs.length p9, .func (.func 178) #[] #[]] X (EachTo tCu a.customs X)) := fun X f => kKN P9 p9 a.customs S X (kAA h9 f hS i2) (fun k hk => ltl (hS k hk) f.size) hb.customs.1 (fun k hk ds Y f2 hr => kJT a.customs[k] S Y hr (fun k hk => ltl (hS k hk) (Nat.le_trans f.size f2.size)) (hb.customs.2 _ (List.getElem_mem hk)))
 have F0 := hid (((Fr.refl No w).alloc (.cells (kFb P0 P1 P2 P3 P4 P5 P6 P7 P8 P9 a p0 p1 p2 p3 p4 p5 p6 p7 p8 p9) 71)).alloc (.cells kFa 71))
 have G0 := hid ((Blk.new w 71 (kFb P0 P1 P2 P3 P4 P5 P6 P7 P8 P9 a p0 p1 p2 p3 p4 p5 p6 p7 p8 p9)).alloc (.cells kFa 71))
 have G1 := hid (Blk.new1 w (.cells (kFb P0 P1 P2 P3 P4 P5 P6 P7 P8 P9 a p0 p1 p2 p3 p4 p5 p6 p7 p8 p9) 71) 71 kFa)
 have HF := hid (And.intro f7 True.intro)
 have HS := hid hS
 clear h hS h0_l h0_c h0 h1_l h1_c h1 h2_l h2_c h2 h3_l h3_c h3 h4_l h4_c h4 h5_l h5_c h5 h6_l h6_c h6 h7_l h7_c h7 h8_l h8_c h8 h9_l h9_c h9 f7
 go_enter func87, ntmps87
 go_upto_region 1 with fail
 have HW : Hid (((w.alloc (.cells (kFb P0 P1 P2 P3 P4 P5 P6 P7 P8 P9 a p0 p1 p2 p3 p4 p5 p6 p7 p8 p9) 71)).alloc (.cells kFa 71)).heap.size = w.heap.size + 2) := by unfold Hid; simp
 generalize (w.alloc (.cells (kFb P0 P1 P2 P3 P4 P5 P6 P7 P8 P9 a p0 p1 p2 p3 p4 p5 p6 p7 p8 p9) 71)).alloc (.cells kFa 71) = W at *
 have FZ := hid (Fr.refl No W)
 have HE := hid (Its.nil (W := W) (X := W))
 have z := G0.o.cell 0
 go_wp2_with fail
 refine (HC0.o _ (F0.o.trans FZ.o i3)).mono ?_
 rintro e w0 ⟨B0, d0, rfl, l1, l2, el, f1⟩
 replace HE := hid (HE.o.push f1 FZ.o.size l1 l2 el)
 replace FZ := ftr FZ f1
 clear f1 el l1 l2
 clear z
 replace G0 := hid (G0.o.fr FZ.o id)
 replace G1 := hid (G1.o.fr FZ.o id)
 have z := G0.o.cell 0
 have u := G0.o.frozen 0
 go_upto_region 2 with fail
 clear z u
 have FS := ((Fr.refl (One w.heap.size) w0).setCell ⟨w.heap.size, 0, none⟩ (.slice B0 a.types.length d0) (fun _ => rfl))
 replace G0 := (G0.o.set_ 0 (.slice B0 a.types.length d0))
 simp only [zC] at G0
 replace G0 := hid G0
 replace G1 := hid (G1.o.fr FS (fun e => by have e : w.heap.size + 1 = w.heap.size := e; omega))
 replace HE := hid (HE.o.fr FS (fun k hk e => by have e : k = w.heap.size := e; have := HW.o; omega))
 replace F0 := hid ((F0.o.trans FZ.o i3).trans FS (fun i hi h => by have h : i = w.heap.size := h; omega))
 have HWZ : Hid (W.heap.size ≤ (w0.setCell ⟨w.heap.size, 0, none⟩ (.slice B0 a.types.length d0)).heap.size) := Nat.le_trans FZ.o.size FS.size
 clear FS FZ
 generalize (w0.setCell ⟨w.heap.size, 0, none⟩ (.slice B0 a.types.length d0)) = Z0 at *
 have FZ := hid (Fr.refl No Z0)
 have HX : Hid (∀ X, Fr No Z0 X → Ce X w.heap.size 1 (.slice P1 a.imports.length p1) ∧ Ce X w.heap.size 3 (.slice P3 a.tables.length p3) ∧ Ce X w.heap.size 4 (.slice P4 a.mems.length p4) ∧ Ce X w.heap.size 6 (.slice P6 a.exports.length p6)) := fun X g => ⟨(G0.o.fr g id).cell 1, (G0.o.fr g id).cell 3, (G0.o.fr g id).cell 4, (G0.o.fr g id).cell 6⟩
 refine rwP (Fr No Z0) [13] [0, 1, 3, 4, 6, 7, 9, 10, 2, 12, 5, 8, 11, 13, 14, 15, 16, 17, 18, 19] [2, 5, 8, 11, 13, 15, 17, 19] (Fr.refl No _).drew ?_
 replace FZ := hid (Fr.refl No Z0).drew
 replace HE := hid (HE.o.no FZ.o)
 refine rP HX.o ?_
 refine kAE rfl rfl fun K hK => sz ?_
 refine (HC1.o _ (F0.o.trans FZ.o i3)).mono ?_
 rintro e w1 ⟨B1, d1, rfl, l1, l2, el, f1⟩
 replace HE := hid (HE.o.push f1 (Nat.le_trans HWZ.o FZ.o.size) l1 l2 el)
 replace FZ := ftr FZ f1
 clear f1 el l1 l2
 refine hK _ _ (fun _ => FZ.o) ?_
 clear hK K
 refine rP HX.o ?_
 refine kAE rfl rfl fun K hK => sz ?_
 refine (HC3.o _ (F0.o.trans FZ.o i3)).mono ?_
 rintro e w3 ⟨B3, d3, rfl, l1, l2, el, f1⟩
 replace HE := hid (HE.o.push f1 (Nat.le_trans HWZ.o FZ.o.size) l1 l2 el)
 replace FZ := ftr FZ f1
 clear f1 el l1 l2
 refine hK _ _ (fun _ => FZ.o) ?_
 clear hK K
 refine rP HX.o ?_
 refine kAE rfl rfl fun K hK => sz ?_
 refine (HC4.o _ (F0.o.trans FZ.o i3)).mono ?_
 rintro e w4 ⟨B4, d4, rfl, l1, l2, el, f1⟩
 replace HE := hid (HE.o.push f1 (Nat.le_trans HWZ.o FZ.o.size) l1 l2 el)
 replace FZ := ftr FZ f1
 clear f1 el l1 l2
 refine hK _ _ (fun _ => FZ.o) ?_
 clear hK K
 refine rP HX.o ?_
 refine kAE rfl rfl fun K hK => sz ?_
 refine (HC6.o _ (F0.o.trans FZ.o i3)).mono ?_
 rintro e w6 ⟨B6, d6, rfl, l1, l2, el, f1⟩
 replace HE := hid (HE.o.push f1 (Nat.le_trans HWZ.o FZ.o.size) l1 l2 el)
 replace FZ := ftr FZ f1
 clear f1 el l1 l2
 refine hK _ _ (fun _ => FZ.o) ?_
 clear hK K
 refine rP HX.o ?_
 replace G0 := hid (G0.o.fr FZ.o id)
 replace G1 := hid (G1.o.fr FZ.o id)
 have Y1 := G0.o
 have z := Y1.cell 1
 have u := Y1.frozen 1
 refine kAE rfl rfl fun K hK => sz ?_
 clear z u
 refine hK _ _ (fun h => by cases h) ?_
 clear hK K
 refine rP HX.o ?_
 have Y3 := Y1.set_ 1 (.slice B1 a.imports.length d1)
 simp only [zC] at Y3
 have z := Y3.cell 3
 have u := Y3.frozen 3
 refine kAE rfl rfl fun K hK => sz ?_
 clear z u
 refine hK _ _ (fun h => by cases h) ?_
 clear hK K
 refine rP HX.o ?_
 have Y4 := Y3.set_ 3 (.slice B3 a.tables.length d3)
 simp only [zC] at Y4
 have z := Y4.cell 4
 have u := Y4.frozen 4
 refine kAE rfl rfl fun K hK => sz ?_
 clear z u
 refine hK _ _ (fun h => by cases h) ?_
 clear hK K
 refine rP HX.o ?_
 have Y6 := Y4.set_ 4 (.slice B4 a.mems.length d4)
 simp only [zC] at Y6
 have z := Y6.cell 6
 have u := Y6.frozen 6
 refine kAE rfl rfl fun K hK => sz ?_
 clear z u
 refine hK _ _ (fun h => by cases h) ?_
 clear hK K
 refine rP HX.o ?_
 clear Y1 Y3 Y4 Y6 HX
 refine kAj ?_
 have FS := (((((Fr.refl (One w.heap.size) w6).setCell ⟨w.heap.size, 1, none⟩ (.slice B1 a.imports.length d1) (fun _ => rfl)).setCell ⟨w.heap.size, 3, none⟩ (.slice B3 a.tables.length d3) (fun _ => rfl)).setCell ⟨w.heap.size, 4, none⟩ (.slice B4 a.mems.length d4) (fun _ => rfl)).setCell ⟨w.heap.size, 6, none⟩ (.slice B6 a.exports.length d6) (fun _ => rfl))
 replace G0 := ((((G0.o.set_ 1 (.slice B1 a.imports.length d1)).set_ 3 (.slice B3 a.tables.length d3)).set_ 4 (.slice B4 a.mems.length d4)).set_ 6 (.slice B6 a.exports.length d6))
 simp only [zC] at G0
 replace G0 := hid G0
 replace G1 := hid (G1.o.fr FS (fun e => by have e : w.heap.size + 1 = w.heap.size := e; omega))
 replace HE := hid (HE.o.fr FS (fun k hk e => by have e : k = w.heap.size := e; have := HW.o; omega))
 replace F0 := hid ((F0.o.trans FZ.o i3).trans FS (fun i hi h => by have h : i = w.heap.size := h; omega))
 have HWZ : Hid (W.heap.size ≤ ((((w6.setCell ⟨w.heap.size, 1, none⟩ (.slice B1 a.imports.length d1)).setCell ⟨w.heap.size, 3, none⟩ (.slice B3 a.tables.length d3)).setCell ⟨w.heap.size, 4, none⟩ (.slice B4 a.mems.length d4)).setCell ⟨w.heap.size, 6, none⟩ (.slice B6 a.exports.length d6)).heap.size) := Nat.le_trans HWZ.o (Nat.le_trans FZ.o.size FS.size)
 clear FS FZ
 generalize ((((w6.setCell ⟨w.heap.size, 1, none⟩ (.slice B1 a.imports.length d1)).setCell ⟨w.heap.size, 3, none⟩ (.slice B3 a.tables.length d3)).setCell ⟨w.heap.size, 4, none⟩ (.slice B4 a.mems.length d4)).setCell ⟨w.heap.size, 6, none⟩ (.slice B6 a.exports.length d6)) = Z6 at *
 have FZ := hid (Fr.refl No Z6)
 have z := G0.o.cell 2
 go_wp2_with fail
 refine (HC2.o _ (F0.o.trans FZ.o i3)).mono ?_
 rintro e w2 ⟨B2, d2, rfl, l1, l2, el, f1⟩
 replace HE := hid (HE.o.push f1 (Nat.le_trans HWZ.o FZ.o.size) l1 l2 el)
 replace FZ := ftr FZ f1
 clear f1 el l1 l2
 clear z
 replace G0 := hid (G0.o.fr FZ.o id)
 replace G1 := hid (G1.o.fr FZ.o id)
 have z := G0.o.cell 2
 have u := G0.o.frozen 2
 go_upto_region 4 with fail
 clear z u
 have FS := ((Fr.refl (One w.heap.size) w2).setCell ⟨w.heap.size, 2, none⟩ (.slice B2 a.funcs.length d2) (fun _ => rfl))
 replace G0 := (G0.o.set_ 2 (.slice B2 a.funcs.length d2))
 simp only [zC] at G0
 replace G0 := hid G0
 replace G1 := hid (G1.o.fr FS (fun e => by have e : w.heap.size + 1 = w.heap.size := e; omega))
 replace HE := hid (HE.o.fr FS (fun k hk e => by have e : k = w.heap.size := e; have := HW.o; omega))
 replace F0 := hid ((F0.o.trans FZ.o i3).trans FS (fun i hi h => by have h : i = w.heap.size := h; omega))
 have HWZ : Hid (W.heap.size ≤ (w2.setCell ⟨w.heap.size, 2, none⟩ (.slice B2 a.funcs.length d2)).heap.size) := Nat.le_trans HWZ.o (Nat.le_trans FZ.o.size FS.size)
 clear FS FZ
 generalize (w2.setCell ⟨w.heap.size, 2, none⟩ (.slice B2 a.funcs.length d2)) = Z2 at *
 have FZ := hid (Fr.refl No Z2)
 have z := G0.o.cell 5
 go_wp2_with fail
 refine (HC5.o _ (F0.o.trans FZ.o i3)).mono ?_
 rintro e w5 ⟨B5, d5, rfl, l1, l2, el, f1⟩
 replace HE := hid (HE.o.push f1 (Nat.le_trans HWZ.o FZ.o.size) l1 l2 el)
 replace FZ := ftr FZ f1
 clear f1 el l1 l2
 clear z
 replace G0 := hid (G0.o.fr FZ.o id)
 replace G1 := hid (G1.o.fr FZ.o id)
 have z := G0.o.cell 5
 have u := G0.o.frozen 5
 go_upto_region 5 with fail
 clear z u
 have FS := ((Fr.refl (One w.heap.size) w5).setCell ⟨w.heap.size, 5, none⟩ (.slice B5 a.globals.length d5) (fun _ => rfl))
 replace G0 := (G0.o.set_ 5 (.slice B5 a.globals.length d5))
 simp only [zC] at G0
 replace G0 := hid G0
 replace G1 := hid (G1.o.fr FS (fun e => by have e : w.heap.size + 1 = w.heap.size := e; omega))
 replace HE := hid (HE.o.fr FS (fun k hk e => by have e : k = w.heap.size := e; have := HW.o; omega))
 replace F0 := hid ((F0.o.trans FZ.o i3).trans FS (fun i hi h => by have h : i = w.heap.size := h; omega))
 have HWZ : Hid (W.heap.size ≤ (w5.setCell ⟨w.heap.size, 5, none⟩ (.slice B5 a.globals.length d5)).heap.size) := Nat.le_trans HWZ.o (Nat.le_trans FZ.o.size FS.size)
 clear FS FZ
 generalize (w5.setCell ⟨w.heap.size, 5, none⟩ (.slice B5 a.globals.length d5)) = Z5 at *
 have FZ := hid (Fr.refl No Z5)
 have z := G0.o.cell 9
 go_wp2_with fail
 refine (HC7.o _ (F0.o.trans FZ.o i3)).mono ?_
 rintro e w7 ⟨B7, d7, rfl, l1, l2, el, f1⟩
 replace HE := hid (HE.o.push f1 (Nat.le_trans HWZ.o FZ.o.size) l1 l2 el)
 replace FZ := ftr FZ f1
 clear f1 el l1 l2
 clear z
 replace G0 := hid (G0.o.fr FZ.o id)
 replace G1 := hid (G1.o.fr FZ.o id)
 have z := G0.o.cell 9
 have u := G0.o.frozen 9
 go_upto_region 6 with fail
 clear z u
 have FS := ((Fr.refl (One w.heap.size) w7).setCell ⟨w.heap.size, 9, none⟩ (.slice B7 a.elems.length d7) (fun _ => rfl))
 replace G0 := (G0.o.set_ 9 (.slice B7 a.elems.length d7))
 simp only [zC] at G0
 replace G0 := hid G0
 replace G1 := hid (G1.o.fr FS (fun e => by have e : w.heap.size + 1 = w.heap.size := e; omega))
 replace HE := hid (HE.o.fr FS (fun k hk e => by have e : k = w.heap.size := e; have := HW.o; omega))
 replace F0 := hid ((F0.o.trans FZ.o i3).trans FS (fun i hi h => by have h : i = w.heap.size := h; omega))
 have HWZ : Hid (W.heap.size ≤ (w7.setCell ⟨w.heap.size, 9, none⟩ (.slice B7 a.elems.length d7)).heap.size) := Nat.le_trans HWZ.o (Nat.le_trans FZ.o.size FS.size)
 clear FS FZ
 generalize (w7.setCell ⟨w.heap.size, 9, none⟩ (.slice B7 a.elems.length d7)) = Z7 at *
 have FZ := hid (Fr.refl No Z7)
 have z := G0.o.cell 10
 go_wp2_with fail
 refine (HC8.o _ (F0.o.trans FZ.o i3)).mono ?_
 rintro e w8 ⟨B8, d8, rfl, l1, l2, el, f1⟩
 replace HE := hid (HE.o.push f1 (Nat.le_trans HWZ.o FZ.o.size) l1 l2 el)
 replace FZ := ftr FZ f1
 clear f1 el l1 l2
 clear z
 replace G0 := hid (G0.o.fr FZ.o id)
 replace G1 := hid (G1.o.fr FZ.o id)
 have z := G0.o.cell 10
 have u := G0.o.frozen 10
 go_upto_region 7 with fail
 clear z u
 have FS := ((Fr.refl (One w.heap.size) w8).setCell ⟨w.heap.size, 10, none⟩ (.slice B8 a.datas.length d8) (fun _ => rfl))
 replace G0 := (G0.o.set_ 10 (.slice B8 a.datas.length d8))
 simp only [zC] at G0
 replace G0 := hid G0
 replace G1 := hid (G1.o.fr FS (fun e => by have e : w.heap.size + 1 = w.heap.size := e; omega))
 replace HE := hid (HE.o.fr FS (fun k hk e => by have e : k = w.heap.size := e; have := HW.o; omega))
 replace F0 := hid ((F0.o.trans FZ.o i3).trans FS (fun i hi h => by have h : i = w.heap.size := h; omega))
 have HWZ : Hid (W.heap.size ≤ (w8.setCell ⟨w.heap.size, 10, none⟩ (.slice B8 a.datas.length d8)).heap.size) := Nat.le_trans HWZ.o (Nat.le_trans FZ.o.size FS.size)
 clear FS FZ
 generalize (w8.setCell ⟨w.heap.size, 10, none⟩ (.slice B8 a.datas.length d8)) = Z8 at *
 have FZ := hid (Fr.refl No Z8)
 have z := G0.o.cell 11
 go_wp2_with fail
 refine (HC9.o _ (F0.o.trans FZ.o i3)).mono ?_
 rintro e w9 ⟨B9, d9, rfl, l1, l2, el, f1⟩
 replace HE := hid (HE.o.push f1 (Nat.le_trans HWZ.o FZ.o.size) l1 l2 el)
 replace FZ := ftr FZ f1
 clear f1 el l1 l2
 clear z
 replace G0 := hid (G0.o.fr FZ.o id)
 replace G1 := hid (G1.o.fr FZ.o id)
 have z := G0.o.cell 11
 have u := G0.o.frozen 11
 go_upto_region 8 with fail
 clear z u
 have FS := ((Fr.refl (One w.heap.size) w9).setCell ⟨w.heap.size, 11, none⟩ (.slice B9 a.customs.length d9) (fun _ => rfl))
 replace G0 := (G0.o.set_ 11 (.slice B9 a.customs.length d9))
 simp only [zC] at G0
 replace G0 := hid G0
 replace G1 := hid (G1.o.fr FS (fun e => by have e : w.heap.size + 1 = w.heap.size := e; omega))
 replace HE := hid (HE.o.fr FS (fun k hk e => by have e : k = w.heap.size := e; have := HW.o; omega))
 replace F0 := hid ((F0.o.trans FZ.o i3).trans FS (fun i hi h => by have h : i = w.heap.size := h; omega))
 have HWZ : Hid (W.heap.size ≤ (w9.setCell ⟨w.heap.size, 11, none⟩ (.slice B9 a.customs.length d9)).heap.size) := Nat.le_trans HWZ.o (Nat.le_trans FZ.o.size FS.size)
 clear FS FZ
 generalize (w9.setCell ⟨w.heap.size, 11, none⟩ (.slice B9 a.customs.length d9)) = Z9 at *
 have FZ := hid (Fr.refl No Z9)
 obtain ⟨ds, hds⟩ : ∃ ds : LV, ds = [.slice B0 a.types.length d0, .slice B1 a.imports.length d1, .slice B2 a.funcs.length d2, .slice B3 a.tables.length d3, .slice B4 a.mems.length d4, .slice B5 a.globals.length d5, .slice B6 a.exports.length d6, .bool a.hasStart, .int .i64 a.start, .slice B7 a.elems.length d7, .slice B8 a.datas.length d8, .slice B9 a.customs.length d9] := ⟨_, rfl⟩
 have RG : Z9.rangeAt w.heap.size 0 ds := by rw [hds]; exact rangeAt_blk G0.o
 have HDS := hid hds
 clear hds
 have HT : Hid (Z9.there (w.heap.size + 1) 0 12) := there_blk G1.o rfl
 have HI : Hid ((prog.info? 71).map (·.size) = some 12) := by unfold Hid; kernel_rfl
 have HL : Hid (ds.length = 12) := by rw [HDS.o]; rfl
 go_wp2_with (first | refine ldG underlying71 HI.o RG HL.o ?_ | refine stG HI.o HT.o HL.o (by rw [HDS.o]; rfl) ?_ | fail)
 refine kDv underlying71 HI.o F0.o om HT.o HL.o (fun FY => ?_)
 have hG := G1.o.lt
 have hWW := HW.o
 rw [HDS.o] at FY ⊢
 have E := (HE.o.fr FY (fun k hk e => by have e : k = w.heap.size + 1 := e; omega)).low (w := w) om
 have x9 := E.get 0 rfl
 have x8 := E.get 1 rfl
 have x7 := E.get 2 rfl
 have x5 := E.get 3 rfl
 have x2 := E.get 4 rfl
 have x6 := E.get 5 rfl
 have x4 := E.get 6 rfl
 have x3 := E.get 7 rfl
 have x1 := E.get 8 rfl
 have x0 := E.get 9 rfl
 exact kJL (a := a) x0.1 x0.2.1 x0.2.2 x1.1 x1.2.1 x1.2.2 x2.1 x2.2.1 x2.2.2 x3.1 x3.2.1 x3.2.2 x4.1 x4.2.1 x4.2.2 x5.1 x5.2.1 x5.2.2 x6.1 x6.2.1 x6.2.2 HF.o.1 x7.1 x7.2.1 x7.2.2 x8.1 x8.2.1 x8.2.2 x9.1 x9.2.1 x9.2.2
structure AdB (a : Ad) : Prop where
 funcs : a.funcs.length ≤ 1048576
 tables : a.tables.length ≤ 1048576
 mems : a.mems.length ≤ 1048576
 globals : a.globals.length ≤ 1048576
 elems : a.elems.length ≤ 1048576
 datas : a.datas.length ≤ 1048576
def kBJ (x : Rx) (m : Md) (a : Ad) : Rx × Int := if 16 ≤ x.insts.length then (x, -1) else ({ x with insts := x.insts ++ [⟨m, a⟩] }, x.insts.length)
theorem kNk : ∀ {l : LV}, l.length = 12 → ∃ m0 m1 m2 m3 m4 m5 m6 m7 m8 m9 m10 m11, l = [m0, m1, m2, m3, m4, m5, m6, m7, m8, m9, m10, m11]
 | [m0, m1, m2, m3, m4, m5, m6, m7, m8, m9, m10, m11], _ => ⟨_, _, _, _, _, _, _, _, _, _, _, _, rfl⟩
theorem kOM : ∀ {l : LV}, l.length = 6 → ∃ m0 m1 m2 m3 m4 m5, l = [m0, m1, m2, m3, m4, m5]
 | [m0, m1, m2, m3, m4, m5], _ => ⟨_, _, _, _, _, _, rfl⟩
theorem kIh {w : World} {S : Nat → Prop} {m : Md} {a : Ad} {ms ns : LV} (h : tMd.rd w S ms m) (k : tAd.rd w S ns a) : tRi.rd w S (ms ++ ns) ⟨m, a⟩ := ⟨ms, ns, rfl, h, k⟩
section
variable {w : World} {R : Nat → Prop} {V : Pl} {x : Rx}
theorem kIQ (h : StIn w R V x) (m : Md) (a : Ad) {ms ns : LV} (S : Nat → Prop) (hm : tMd.rd w S ms m) (ha : tAd.rd w S ns a) (hS : Lt S w) (hb : MdB m) (hab : AdB a) (hn : x.insts.length ≤ 1000000) :
    Calls prog 23 #[.pointer (some ⟨V.P, 0, none⟩), .agg ms.toArray, .agg ns.toArray] w (GrTo R V (.int .i64 (kBJ x m a).2) (kBJ x m a).1 w) := by
 have F0 := hid (((Fr.refl No w).alloc (.cells ms.toArray 71)).alloc (.cells ns.toArray 73))
 have G0 := hid ((Blk.new w 71 ms.toArray).alloc (.cells ns.toArray 73))
 have G1 := hid (Blk.new1 w (.cells ms.toArray 71) 73 ns.toArray)
 have HM := hid hm
 have HA := hid ha
 have HS := hid hS
 have HB := hid hb
 have HAB := hid hab
 have H := hid (h.frNo F0.o)
 have HPl := hid (h.lt V.oP)
 have HLO := hid h.low
 have HON := hid h.own
 have hl1 : ms.length = 12 := TyOk.len _ _ _ _ hm
 have hl2 : ns.length = 6 := TyOk.len _ _ _ _ ha
 have HL1 := hid hl1
 have HL2 := hid hl2
 clear hm ha hS hb hab h hl1 hl2
 go_enter func23, ntmps23
 go_upto_region 1 with fail
 generalize (w.alloc (.cells ms.toArray 71)).alloc (.cells ns.toArray 73) = W at *
 obtain ⟨A, c, hv, _, _⟩ := H.o.sl_is
 have hcell : W.cell? ⟨V.P, 9, none⟩ = some (.slice A x.insts.length c) := by rw [← hv]; exact H.o.blk.cell 9
 clear hv
 have HNN := hid hn
 by_cases hf : 16 ≤ x.insts.length
 · have d1 : decide ((x.insts.length : Int) < 16) = false := by simp; omega
   have d2 : decide (x.insts.length < 16) = false := by simp; omega
   have i1 : (16 : Int) ≤ x.insts.length := om
   have HF := hid hf
   clear hf
   go_wp2
   go_ret
   have e : kBJ x m a = (x, -1) := by unfold kBJ; rw [if_pos HF.o]
   rw [e]
   exact ⟨V, R, rfl, H.o, Grown.of_no F0.o⟩
 have d1 : decide ((x.insts.length : Int) < 16) = true := by simp; omega
 have i1 : (x.insts.length : Int) < 16 := om
 have HF := hid hf
 clear hf
 go_wp2_with fail
 clear hcell d1 i1
 have HX : Hid (∀ X : World, X.heap[w.heap.size]? = W.heap[w.heap.size]? → X.heap[w.heap.size + 1]? = W.heap[w.heap.size + 1]? → X.rangeAt w.heap.size 0 ms ∧ X.rangeAt (w.heap.size + 1) 0 ns) := fun X e1 e2 => ⟨by simpa using rangeAt_blk (cs := ms.toArray) (t := 71) (show Blk X _ _ _ from e1.trans G0.o), by simpa using rangeAt_blk (cs := ns.toArray) (t := 73) (show Blk X _ _ _ from e2.trans G1.o)⟩
 have HI1 : Hid ((prog.info? 71).map (·.size) = some ms.length) := by unfold Hid; rw [HL1.o]; kernel_rfl
 have HI2 : Hid ((prog.info? 73).map (·.size) = some ns.length) := by unfold Hid; rw [HL2.o]; kernel_rfl
 have HGL := hid (And.intro G0.o.lt G1.o.lt)
 have HXN : Hid (∀ X, Fr No W X → X.rangeAt w.heap.size 0 ms ∧ X.rangeAt (w.heap.size + 1) 0 ns) := fun X f => HX.o X (f.block _ HGL.o.1 id) (f.block _ HGL.o.2 id)
 have FZ := hid (Fr.refl No W).drew
 refine rwP (fun X => X.rangeAt w.heap.size 0 ms ∧ X.rangeAt (w.heap.size + 1) 0 ns) [] [0, 1, 2, 3, 5, 4, 6, 7, 8, 9] [4, 6, 8] (HXN.o _ FZ.o) ?_
 iterate 3 (first | (refine kEs rfl rfl rfl ?_; simp only [zA]; apply Exists.intro; refine ⟨fun X => ?_, ?_⟩; (go_simp; exact stillUpon_value); simp only [zC, Act.put]) | (refine kCq rfl rfl rfl ?_; simp only [zA]; apply Exists.intro; refine ⟨fun X hX => ?_, ?_⟩; (clear hX; go_simp; exact stillUpon_value); simp only [zC, Act.put]))
 refine kAp rfl rfl rfl 71 _ rfl (w.heap.size) (0) (by rfl) ms _ (fun X hX => hX.1) underlying71 (by rfl) HI1.o ?_
 simp only [zA, zC, Act.put]
 refine kAp rfl rfl rfl 73 _ rfl (w.heap.size + 1) (0) (by rfl) ns _ (fun X hX => hX.2) underlying73 (by rfl) HI2.o ?_
 simp only [zA, zC, Act.put]
 refine kAE rfl rfl fun K hK => sz ?_
 refine (kHl m S _ (kAH HM.o (F0.o.trans FZ.o i3) HS.o i2) (fun k hk => ltl (HS.o k hk) (F0.o.trans FZ.o i3).size) HB.o).mono ?_
 rintro e w1 ⟨ms', rfl, hr1, f1⟩
 have R1 : Hid (tMd.rd w1 (Nw W w1) ms' m) := TyMore.more _ _ _ _ _ hr1 (fun k hk => ⟨Nat.le_trans FZ.o.size hk.1, hk.2⟩)
 replace FZ := ftr FZ f1
 clear hr1 f1
 refine hK _ _ (fun _ => HXN.o _ FZ.o) ?_
 clear hK K
 refine kAE rfl rfl fun K hK => sz ?_
 refine (kEK a S _ (kAH HA.o (F0.o.trans FZ.o i3) HS.o i2) (fun k hk => ltl (HS.o k hk) (F0.o.trans FZ.o i3).size) (by have := HAB.o.funcs; omega) (by have := HAB.o.tables; omega) (by have := HAB.o.mems; omega) (by have := HAB.o.globals; omega) (by have := HAB.o.elems; omega) (by have := HAB.o.datas; omega)).mono ?_
 rintro e w2 ⟨ns', rfl, hr2, f2⟩
 have R2 : Hid (tAd.rd w2 (Nw W w2) ns' a) := TyMore.more _ _ _ _ _ hr2 (fun k hk => ⟨Nat.le_trans FZ.o.size hk.1, hk.2⟩)
 replace R1 : Hid (tMd.rd w2 (Nw W w2) ms' m) := kAH R1.o f2 (fun k hk => hk.2) (fun k hk => ⟨hk.1, ltl hk.2 f2.size⟩)
 replace FZ := ftr FZ f2
 clear hr2 f2
 have hl1' : ms'.length = 12 := TyOk.len _ _ _ _ R1.o
 have hl2' : ns'.length = 6 := TyOk.len _ _ _ _ R2.o
 have K1 := hid (H.o.frNo FZ.o)
 have HLW : Hid (Lt R W) := fun k r => ltl (HLO.o k r) F0.o.size
 have RX : Hid (tRi.rd w2 (Sd w2 R) (ms' ++ ns') ⟨m, a⟩) := TyMore.more _ _ _ _ _ (kIh R1.o R2.o) (fun k hk => kCL HLW.o hk)
 have HAD := hid (kLg V.P 9 (Sd w2 R) V.is x.insts (ms' ++ ns') ⟨m, a⟩ w2 (K1.o.addIn_is RX.o HNN.o))
 refine hK _ _ (fun _ => HXN.o _ FZ.o) ?_
 clear hK K
 obtain ⟨m0, m1, m2, m3, m4, m5, m6, m7, m8, m9, m10, m11, hms⟩ := kNk hl1'
 obtain ⟨n0, n1, n2, n3, n4, n5, hns⟩ := kOM hl2'
 subst hms hns
 clear hl1' hl2' R1 R2 RX
 repeat (first | refine pS ?_ | refine pF ?_ | refine pX (fun (X : World) (h : X.rangeAt w.heap.size 0 ms ∧ X.rangeAt (w.heap.size + 1) 0 ns) => h) ?_)
 refine kAE rfl rfl fun K hK => sz ?_
 refine HAD.o.mono ?_
 intro e w3 ha
 obtain ⟨V', R', rfl, h2, h3⟩ := K1.o.added_is ha
 have hno : ∀ k, w.heap.size ≤ k → k < w2.heap.size → w3.heap[k]? = w2.heap[k]? := fun k hk hk2 => h3.fr.block k hk2 (fun o => by have := HLO.o k (HON.o k o); omega)
 have hX3 : w3.rangeAt w.heap.size 0 ms ∧ w3.rangeAt (w.heap.size + 1) 0 ns := by
  have s2 := FZ.o.size
  have g1 := HGL.o.1
  have g2 := HGL.o.2
  exact HX.o _ ((hno _ nr om).trans (FZ.o.block _ g1 id)) ((hno _ om om).trans (FZ.o.block _ g2 id))
 refine hK _ _ (fun _ => hX3) ?_
 clear hK K
 repeat (first | refine pS ?_ | refine pF ?_ | refine pX (fun (X : World) (h : X.rangeAt w.heap.size 0 ms ∧ X.rangeAt (w.heap.size + 1) 0 ns) => h) ?_)
 refine kAj ?_
 clear HX HXN HAD ha
 have H2 := hid h2
 have H3 := hid h3
 clear h2 h3 hno hX3
 go_wp2
 go_ret
 have e : kBJ x m a = ({ x with insts := x.insts ++ [⟨m, a⟩] }, ((x.insts.length : Nat) : Int)) := by unfold kBJ; rw [if_neg HF.o]
 rw [e]
 exact ⟨V', R', rfl, H2.o, (Grown.of_no (F0.o.trans FZ.o i3)).trans H3.o⟩
end
theorem kGK (f g : Fn) : fnEq f g = fnEq g f := by
 rw [Bool.eq_iff_iff, kFI, kFI]
 exact ⟨fun h => h.symm, fun h => h.symm⟩
section
variable {w : World} {S : Nat → Prop} {x : Rx} {cs : LV}
theorem kKi (h : tRx.rd w S cs x) (hS : Lt S w) (f : Fi) (P1 P2 : OA) (q1 q2 : Nat) (he : tFi.rd w S [.slice P1 f.ty.params.length q1, .slice P2 f.ty.results.length q2, .int .i64 f.inst, .int .i64 f.index] f)
    (b1 : f.ty.params.length ≤ 140737488351232) (b2 : f.ty.results.length ≤ 140737488351232) (hh : ∀ a ∈ x.hosts, a.ty.params.length ≤ 140737488351232 ∧ a.ty.results.length ≤ 140737488351232) (hn : x.funcs.length ≤ 1000000) :
    Calls prog 119 #[.agg cs.toArray, .agg #[.slice P1 f.ty.params.length q1, .slice P2 f.ty.results.length q2, .int .i64 f.inst, .int .i64 f.index]] w (RfTo S (kBs x f).1 (.int .i64 (kBs x f).2) w) := by
 obtain ⟨A1, c1, A2, c2, e, -, -, h1, -, -, h2, -, -⟩ := kBm he
 simp only [List.cons.injEq, Value.slice.injEq, true_and, and_true] at e
 obtain ⟨⟨rfl, rfl⟩, rfl, rfl⟩ := e
 have no : kBC x f = false → kBs x f = (x, -1) := kCS
 cases hv : fnB f.ty with
 | false =>
  rw [no (by unfold kBC; rw [hv]; rfl)]
  exact kIe h hS f P1 P2 q1 q2 h1 h2 b1 b2 hv
 | true =>
  by_cases hi : f.inst < -1
  · rw [no (by unfold kBC; rw [hv]; have : decide (-1 ≤ f.inst) = false := by simp; omega
               rw [this]; simp)]
    exact kId h hS f P1 P2 q1 q2 h1 h2 b1 b2 hv (by simpa using hi)
  · have d1 : decide (f.inst < -1) = false := by simpa using hi
    have d1' : decide (-1 ≤ f.inst) = true := by simp; omega
    by_cases hx : f.index < 0
    · rw [no (by unfold kBC; rw [hv]; have : decide (0 ≤ f.index) = false := by simp; omega
                 rw [this]; simp)]
      exact kIc h hS f P1 P2 q1 q2 h1 h2 b1 b2 hv d1 (by simpa using hx)
    have d2 : decide (f.index < 0) = false := by simpa using hx
    have d2' : decide (0 ≤ f.index) = true := by simp; omega
    by_cases hj : f.inst = -1
    · have d3 : (f.inst == -1) = true := by simpa using hj
      by_cases hl : f.index < x.hosts.length
      · have hg : getI x.hosts f.index = some (x.hosts[f.index.toNat]'om) := by
         unfold getI
         rw [if_pos (by omega)]
         exact List.getElem?_eq_getElem om
        cases hq : fnEq (x.hosts[f.index.toNat]'om).ty f.ty with
        | false =>
         rw [no (by unfold kBC; rw [hv, d1', d2', hg]; simp [hj, hq])]
         exact kIa h hS f P1 P2 q1 q2 h1 h2 b1 b2 hv d1 d2 d3 hl hh (fun y hy => by rw [hg] at hy; cases hy; rw [kGK]; exact hq)
        | true =>
         rw [kDN (by unfold kBC; rw [hv, d1', d2', hg]; simp [hq])]
         exact kIY h hS f P1 P2 q1 q2 h1 h2 b1 b2 he hv d1 d2 d3 hl hh (fun y hy => by rw [hg] at hy; cases hy; rw [kGK]; exact hq) hn
      have hg : getI x.hosts f.index = none := kBh (.inr om)
      rw [no (by unfold kBC; rw [hv, d1', d2', hg]; simp [hj])]
      exact kIb h hS f P1 P2 q1 q2 h1 h2 b1 b2 hv d1 d2 d3 so
    have d3 : (f.inst == -1) = false := by simpa using hj
    rw [kDN (by unfold kBC; rw [hv, d1', d2']; simp [hj])]
    exact kIZ h hS f P1 P2 q1 q2 h1 h2 b1 b2 he hv d1 d2 d3 hn
theorem kIr (h : tRx.rd w S cs x) (hS : Lt S w) (t : Tb) (w1 : (Lit.int .i64 t.elem).wf = true) (w2 : (Lit.int .i64 t.lim.min).wf = true) (w3 : (Lit.int .i64 t.lim.max).wf = true) (hn : x.tabs.length ≤ 1000000) :
    Calls prog 120 #[.agg cs.toArray, .agg #[.int .i64 t.elem, .int .i64 t.lim.min, .int .i64 t.lim.max, .bool t.lim.has]] w (RfTo S (kBr x t).1 (.int .i64 (kBr x t).2) w) := by
 cases hv : tabB t.elem t.lim.min t.lim.max t.lim.has with
 | false =>
  have e : kBr x t = (x, -1) := by unfold kBr tbB; rw [hv]; rfl
  rw [e]
  exact kHY h hS t hv
 | true =>
  have e : kBr x t = ({ x with tabs := x.tabs ++ [⟨t, List.replicate t.lim.min.toNat 0⟩] }, ((x.tabs.length : Nat) : Int)) := by unfold kBr tbB; rw [hv]; rfl
  rw [e]
  have hb : 0 ≤ t.lim.min ∧ t.lim.min ≤ 1024 := by
   unfold tabB limB at hv
   simp at hv
   omega
  obtain ⟨tel, ⟨tmn, tmx, th⟩⟩ := t
  simp only at hb w1 w2 w3 hv ⊢
  obtain ⟨n, rfl⟩ : ∃ n : Nat, tmn = (n : Int) := ⟨tmn.toNat, by omega⟩
  have := kGg h hS tel tmx th n hv om w1 w2 w3 hn
  simpa using this
theorem kLa (h : tRx.rd w S cs x) (hS : Lt S w) (l : Lim) (w1 : (Lit.int .i64 l.min).wf = true) (w2 : (Lit.int .i64 l.max).wf = true) (hn : x.mems.length ≤ 1000000) :
    Calls prog 121 #[.agg cs.toArray, .agg #[.int .i64 l.min, .int .i64 l.max, .bool l.has]] w (RfTo S (kBQ x l).1 (.int .i64 (kBQ x l).2) w) := by
 cases hv : validB l with
 | false =>
  have e : kBQ x l = (x, -1) := by unfold kBQ; rw [hv]; rfl
  rw [e]
  exact kJn h hS l hv
 | true =>
  have e : kBQ x l = ({ x with mems := x.mems ++ [⟨l, List.replicate (l.min.toNat * 256) 0⟩] }, ((x.mems.length : Nat) : Int)) := by unfold kBQ; rw [hv]; rfl
  rw [e]
  exact kIV h hS l hv w1 w2 hn
theorem kIJ (h : tRx.rd w S cs x) (hS : Lt S w) (g : Gl) (v : Vl) (w1 : (Lit.int .i64 g.val).wf = true) (w2 : (Lit.int .i64 v.t).wf = true) (w3 : (Lit.int .u64 v.n).wf = true) (hn : x.globs.length ≤ 1000000) :
    Calls prog 122 #[.agg cs.toArray, .agg #[.int .i64 g.val, .bool g.mut_], .agg #[.int .i64 v.t, .int .u64 v.n]] w (RfTo S (kBZ x g v).1 (.int .i64 (kBZ x g v).2) w) := by
 have no : (kAf g.val && kBE v g.val) = false → kBZ x g v = (x, -1) := fun e => by unfold kBZ; rw [e]; rfl
 cases h1 : kAf g.val with
 | false =>
  rw [no (by rw [h1]; rfl)]
  exact kGD h hS g v h1
 | true =>
  by_cases h2 : v.t = g.val
  · have e2 : (v.t != g.val) = false := by simpa using h2
    cases h3 : vlB v with
    | false =>
     rw [no (by unfold kBE; rw [h3]; simp)]
     exact kGB h hS g v h1 e2 h3
    | true =>
     have e : kBZ x g v = ({ x with globs := x.globs ++ [⟨g, v⟩] }, ((x.globs.length : Nat) : Int)) := by unfold kBZ kBE; rw [h1, h3]; simp [h2]
     rw [e]
     exact kGA h hS g v (kEn (a := ⟨g, v⟩) w1 w2 w3) h1 e2 h3 hn
  · have e2 : (v.t != g.val) = true := by simpa using h2
    rw [no (by unfold kBE; simp [h2])]
    exact kGC h hS g v h1 e2
theorem kIG (h : tRx.rd w S cs x) (hS : Lt S w) (i : Int) (v : Vl) (w2 : (Lit.int .i64 v.t).wf = true) (w3 : (Lit.int .u64 v.n).wf = true) (hw : ∀ g ∈ x.globs, (Lit.int .i64 g.t.val).wf = true) (hn : x.globs.length ≤ 1000000) :
    Calls prog 38 #[.agg cs.toArray, .int .i64 i, .agg #[.int .i64 v.t, .int .u64 v.n]] w (RfTo S (kAq x i v).1 (.bool (kAq x i v).2) w) := by
 rcases kBb x.globs i with ⟨k, hk, rfl⟩ | hi | ⟨hi0, hi⟩
 · have hg : getI x.globs (k : Int) = some x.globs[k] := kBL hk
   have hy : x.globs[k]? = some x.globs[k] := List.getElem?_eq_getElem hk
   by_cases h2 : v.t = x.globs[k].t.val
   · have e2 : (v.t != x.globs[k].t.val) = false := by simpa using h2
     cases h3 : vlB v with
     | false =>
      have e : kAq x k v = (x, false) := by unfold kAq; rw [hg]; simp [kBE, h3]
      rw [e]
      exact kGa h hS v _ k hk hy e2 h3
     | true =>
      have e : kAq x k v = ({ x with globs := x.globs.set k ⟨x.globs[k].t, v⟩ }, true) := by unfold kAq; rw [hg]; simp [kBE, h2, h3]
      rw [e]
      exact kFz h hS v _ k hk (kEn (a := ⟨x.globs[k].t, v⟩) (show (Lit.int .i64 x.globs[k].t.val).wf = true from hw x.globs[k] (List.getElem_mem hk)) w2 w3) hy e2 h3 hn
   have e2 : (v.t != x.globs[k].t.val) = true := by simpa using h2
   have e : kAq x k v = (x, false) := by unfold kAq; rw [hg]; simp [kBE, h2]
   rw [e]
   exact kGb h hS v _ k hk hy e2
 · have e : kAq x i v = (x, false) := by unfold kAq; rw [kBh (.inl hi)]
   rw [e]
   exact kGd h hS v i (by simpa using hi)
 have e : kAq x i v = (x, false) := by unfold kAq; rw [kBh (.inr hi)]
 rw [e]
 exact kGc h hS v i (by simpa using hi0) (by simpa using hi)
theorem kIi (h : tRx.rd w S cs x) (hS : Lt S w) (i : Int) (hn : x.elems.length ≤ 1000000) :
    Calls prog 39 #[.agg cs.toArray, .int .i64 i] w (kCA S (kBS x i) w) := by
 rcases kBb x.elems i with ⟨k, hk, rfl⟩ | hi | ⟨hi0, hi⟩
 · have e : kBS x k = { x with elems := x.elems.set k ⟨[], true⟩ } := by unfold kBS; rw [if_pos ⟨by omega, by omega⟩]; rfl
   rw [e]
   exact kGe h hS k hk hn
 · have e : kBS x i = x := by unfold kBS; rw [if_neg (by omega)]
   rw [e]
   exact kHV h hS i (by simpa using hi)
 have e : kBS x i = x := by unfold kBS; rw [if_neg (by omega)]
 rw [e]
 exact kHU h hS i (by simpa using hi0) (by simpa using hi)
theorem kIj (h : tRx.rd w S cs x) (hS : Lt S w) (i : Int) (hn : x.datas.length ≤ 1000000) :
    Calls prog 40 #[.agg cs.toArray, .int .i64 i] w (kCA S (kBT x i) w) := by
 rcases kBb x.datas i with ⟨k, hk, rfl⟩ | hi | ⟨hi0, hi⟩
 · have e : kBT x k = { x with datas := x.datas.set k ⟨[], true⟩ } := by unfold kBT; rw [if_pos ⟨by omega, by omega⟩]; rfl
   rw [e]
   exact kGf h hS k hk hn
 · have e : kBT x i = x := by unfold kBT; rw [if_neg (by omega)]
   rw [e]
   exact kHX h hS i (by simpa using hi)
 have e : kBT x i = x := by unfold kBT; rw [if_neg (by omega)]
 rw [e]
 exact kHW h hS i (by simpa using hi0) (by simpa using hi)
theorem kKC (h : tRx.rd w S cs x) (hS : Lt S w) (m : Md) (d : Ad) {ms ns : LV} (hm : tMd.rd w S ms m) (hd : tAd.rd w S ns d) (hn : x.insts.length ≤ 1000000) :
    Calls prog 125 #[.agg cs.toArray, .agg ms.toArray, .agg ns.toArray] w (RfTo S (kBJ x m d).1 (.int .i64 (kBJ x m d).2) w) := by
 have hj := kIh hm hd
 obtain ⟨P0, p0, P1, p1, P2, p2, P3, p3, P4, p4, P5, p5, P6, p6, P7, p7, P8, p8, P9, p9, rfl, -⟩ := kBl hm
 obtain ⟨Q0, q0, Q1, q1, Q2, q2, Q3, q3, Q4, q4, Q5, q5, rfl, -⟩ := kDE hd
 by_cases hi : x.insts.length < 16
 · have e : kBJ x m d = ({ x with insts := x.insts ++ [⟨m, d⟩] }, ((x.insts.length : Nat) : Int)) := by unfold kBJ; rw [if_neg (by omega)]
   rw [e]
   exact kHZ h hS m d hj hi hn
 have e : kBJ x m d = (x, -1) := by unfold kBJ; rw [if_pos (by omega)]
 rw [e]
 exact kIW h hS m d hi
end
structure Both (w : World) (R : Nat → Prop) (V : Pl) (x : Rx) (cs : LV) : Prop where
 pr : StIn w R V x
 rf : tRx.rd w (Sd w R) cs x
theorem kCK {α : Type} {t : Ty α} [TyOk t] [TyMore t] {w w' : World} {R R' : Nat → Prop} {V V' : Pl} {x0 : Rx} {cs : LV} {x : α} (h : t.rd w (Sd w R) cs x) (hs : StIn w R V x0) (g : Grown w w' R R' V V') : t.rd w' (Sd w' R') cs x :=
 kCC h g.fr (fun k _ m => hs.own k m) g.up
theorem kCO {α : Type} {t : Ty α} [TyOk t] [TyMore t] {w w' : World} {R R' : Nat → Prop} {V V' : Pl} {x0 : Rx} {A : OA} {x : List α} (h : t.els w (Sd w R) A x) (hs : StIn w R V x0) (g : Grown w w' R R' V V') : t.els w' (Sd w' R') A x :=
 kBH h g.fr (fun k _ m => hs.own k m) g.up
theorem kBX {α : Type} {t : Ty α} [TyOk t] [TyMore t] {w w' : World} {R : Nat → Prop} {cs : LV} {x : α} (h : t.rd w (Sd w R) cs x) (f : Fr No w w') : t.rd w' (Sd w' R) cs x :=
 kCC h f (fun _ _ m => m.elim) (fun _ _ r => r)
theorem Both.fr {w w' : World} {R : Nat → Prop} {V : Pl} {x : Rx} {cs : LV} (h : Both w R V x cs) (f : Fr No w w') : Both w' R V x cs := ⟨h.pr.frNo f, kBX h.rf f⟩
theorem rd_fresh2 {α : Type} {t : Ty α} [TyMore t] {w w' : World} {R : Nat → Prop} {cs : LV} {x : α} (hl : Lt R w) (f : Fr No w w') (h : t.rd w' (fun k => Sd w R k ∨ Nw w w' k) cs x) : t.rd w' (Sd w' R) cs x :=
 TyMore.more _ _ _ _ _ h (fun _ hk => hk.elim (fun hk => hk.up f.size (fun _ _ r => r)) (fun hk => kCL hl hk))
theorem kFx {w : World} {p n : Nat} {T : TypeId} {pre mid post : LV} (h : Blk w p T (pre ++ (mid ++ post)).toArray) (hn : pre.length = n) : w.rangeAt p n mid := fun j u hu => by
 subst hn
 rw [h.cell, List.getElem?_toArray, List.getElem?_append_right (by omega), Nat.add_sub_cancel_left, List.getElem?_append_left (List.getElem?_eq_some_iff.1 hu).1]
 exact hu
theorem kAg {w : World} {S : Nat → Prop} {es : LV} {a : At} (h : tAt.rd w S es a) : ∃ (P1 : OA) (p1 : Nat) (P2 : OA) (p2 : Nat) (A1 : OA) (c1 : Nat) (A2 : OA) (c2 : Nat) (A3 : OA) (c3 : Nat) (ms ns : LV),
    es = [.int .i64 a.call, .int .i64 a.addr, .slice P1 a.func.ty.params.length p1, .slice P2 a.func.ty.results.length p2, .int .i64 a.func.inst, .int .i64 a.func.index, .int .i64 a.table.elem, .int .i64 a.table.lim.min, .int .i64 a.table.lim.max, .bool a.table.lim.has, .int .i64 a.mem.min, .int .i64 a.mem.max, .bool a.mem.has, .int .i64 a.g.val, .bool a.g.mut_, .int .i64 a.v.t, .int .u64 a.v.n, .slice A1 a.refs.length c1, .slice A2 a.b.length c2] ++ (ms ++ (ns ++ [.slice A3 a.args.length c3])) ∧ ms.length = 12 ∧ ns.length = 6 ∧ (Lit.int .i64 a.call).wf = true ∧ (Lit.int .i64 a.addr).wf = true ∧
    tFi.rd w S [.slice P1 a.func.ty.params.length p1, .slice P2 a.func.ty.results.length p2, .int .i64 a.func.inst, .int .i64 a.func.index] a.func ∧ ((Lit.int .i64 a.table.elem).wf = true ∧ (Lit.int .i64 a.table.lim.min).wf = true ∧ (Lit.int .i64 a.table.lim.max).wf = true) ∧ ((Lit.int .i64 a.mem.min).wf = true ∧ (Lit.int .i64 a.mem.max).wf = true) ∧ (Lit.int .i64 a.g.val).wf = true ∧ ((Lit.int .i64 a.v.t).wf = true ∧ (Lit.int .u64 a.v.n).wf = true) ∧
    (a.refs.length ≤ c1 ∧ c1 ≤ maxLen ∧ tU.els w S A1 a.refs) ∧ (a.b.length ≤ c2 ∧ c2 ≤ maxLen ∧ tB.els w S A2 a.b) ∧ tMd.rd w S ms a.m ∧ tAd.rd w S ns a.a ∧ (a.args.length ≤ c3 ∧ c3 ≤ maxLen ∧ tVl.els w S A3 a.args) := by
 obtain ⟨xcall, rcall, rfl, ⟨rfl, wcall⟩, xaddr, raddr, rfl, ⟨rfl, waddr⟩, xfunc, rfunc, rfl, hfunc, xtable, rtable, rfl, htable, xmem, rmem, rfl, hmem, xg, rg, rfl, hg, xv, rv, rfl, hv, xrefs, rrefs, rfl, ⟨Arefs, crefs, rfl, grefs, mrefs, erefs⟩, xb, rb, rfl, ⟨Ab, cb, rfl, gb, mb, eb⟩, xm, rm, rfl, hm, xa, ra, rfl, ha, Aargs, cargs, rfl, gargs, margs, eargs⟩ := h
 have hf0 : tFi.rd w S xfunc a.func := hfunc
 obtain ⟨Q1, q1, Q2, q2, rfl, -⟩ := kBm hfunc
 obtain ⟨rfl, kt⟩ := kDC htable
 obtain ⟨rfl, km⟩ := kCH hmem
 obtain ⟨rfl, kg⟩ := kEG hg
 obtain ⟨rfl, kv⟩ := kHt hv
 have hm' : tMd.rd w S xm a.m := hm
 have ha' : tAd.rd w S xa a.a := ha
 exact ⟨Q1, q1, Q2, q2, Arefs, crefs, Ab, cb, Aargs, cargs, xm, xa, rfl, TyOk.len _ _ _ _ hm', TyOk.len _ _ _ _ ha', wcall, waddr, hf0, kt, km, kg, kv, ⟨grefs, mrefs, erefs⟩, ⟨gb, mb, eb⟩, hm', ha', gargs, margs, eargs⟩
def kAZ (R : Nat → Prop) (V : Pl) (x' : Rx) (w : World) (e : Ending) (w' : World) : Prop :=
 ∃ (V' : Pl) (R' : Nat → Prop) (cs' : LV), e = .returned (.tuple #[.agg cs'.toArray, .bool true]) ∧ Both w' R' V' x' cs' ∧ Grown w w' R R' V V'
section
variable {w : World} {R : Nat → Prop} {V : Pl} {x : Rx} {cs : LV}
theorem kDW {P1 P2 : OA} {p1 p2 : Nat} {f : Fi} (h : tFi.rd w (Sd w R) [.slice P1 f.ty.params.length p1, .slice P2 f.ty.results.length p2, .int .i64 f.inst, .int .i64 f.index] f) : tI.els w (· < w.heap.size) P1 f.ty.params ∧ tI.els w (· < w.heap.size) P2 f.ty.results ∧ (Lit.int .i64 f.inst).wf = true ∧ (Lit.int .i64 f.index).wf = true := by
 obtain ⟨A1, c1, A2, c2, e, -, -, h1, -, -, h2, h3, h4⟩ := kBm h
 simp only [List.cons.injEq, Value.slice.injEq, true_and, and_true] at e
 obtain ⟨⟨rfl, rfl⟩, rfl, rfl⟩ := e
 exact ⟨h1.more (fun _ hk => hk.1), h2.more (fun _ hk => hk.1), h3, h4⟩
structure Hd (w W : World) (R R0 : Nat → Prop) (V : Pl) (x : Rx) (cs es : LV) : Prop where
 F0 : Fr No w W
 GX : Blk W w.heap.size 39 cs.toArray
 GA : Blk W (w.heap.size + 1) 76 es.toArray
 GR : Blk W (w.heap.size + 2) 39 z10
 H : StIn W R0 V x
 RF : tRx.rd W (Sd W R0) cs x
 RR : R0 = fun k => R k ∨ k = w.heap.size + 2
 OW : ∀ k, w.heap.size ≤ k → ¬ V.own k
theorem hd (h : Both w R V x cs) (es : LV) : ∃ R0, Hd w (((w.alloc (.cells cs.toArray 39)).alloc (.cells es.toArray 76)).alloc (.cells z10 39)) R R0 V x cs es := by
 have F0 := ((((Fr.refl No w).alloc (.cells cs.toArray 39)).alloc (.cells es.toArray 76)).alloc (.cells z10 39))
 have GR : Blk (((w.alloc (.cells cs.toArray 39)).alloc (.cells es.toArray 76)).alloc (.cells z10 39)) (w.heap.size + 2) 39 z10 := by simpa using Blk.new ((w.alloc (.cells cs.toArray 39)).alloc (.cells es.toArray 76)) 39 z10
 have h0 : ∀ k, k < w.heap.size → (R k ∨ k = w.heap.size + 2) → R k := fun k hk r => r.elim (fun r => r) (fun e => by omega)
 exact ⟨_, F0, ((Blk.new w 39 cs.toArray).alloc _).alloc _, (Blk.new1 w (.cells cs.toArray 39) 76 es.toArray).alloc _, GR,
  h.pr.fr F0 (fun _ _ m => m.elim) h0 (fun _ r => .inl r) (fun k r => r.elim (fun r => ltl (h.pr.low k r) F0.size) (fun e => e ▸ GR.lt)), kCC h.rf F0 (fun _ _ m => m.elim) h0, rfl, fun k hk o => by have := h.pr.lt o; omega⟩
section
variable {W w1 W3 : World} {R0 R1 : Nat → Prop} {V1 : Pl} {x' : Rx} {es cs2 : LV}
theorem Hd.up {α : Type} {t : Ty α} [TyOk t] [TyMore t] {c : LV} {y : α} (D : Hd w W R R0 V x cs es) (h : t.rd w (Sd w R) c y) : t.rd W (Sd W R0) c y :=
 kCC h D.F0 (fun _ _ m => m.elim) (fun k hk r => by rw [D.RR] at r; exact r.elim (fun r => r) (fun e => by omega))
theorem Hd.upE {α : Type} {t : Ty α} [TyOk t] [TyMore t] {A : OA} {l : List α} (D : Hd w W R R0 V x cs es) (h : t.els w (Sd w R) A l) : t.els W (Sd W R0) A l :=
 kBH h D.F0 (fun _ _ m => m.elim) (fun k hk r => by rw [D.RR] at r; exact r.elim (fun r => r) (fun e => by omega))
theorem Hd.all (D : Hd w W R R0 V x cs es) : Hid (Fr No w W) ∧ Hid (Blk W w.heap.size 39 cs.toArray) ∧ Hid (Blk W (w.heap.size + 1) 76 es.toArray) ∧ Hid (Blk W (w.heap.size + 2) 39 z10) ∧ Hid (StIn W R0 V x) ∧ Hid (tRx.rd W (Sd W R0) cs x) ∧ Hid (∀ k, w.heap.size ≤ k → ¬ V.own k) := ⟨D.F0, D.GX, D.GA, D.GR, D.H, D.RF, D.OW⟩
theorem Hd.next (D : Hd w W R R0 V x cs es) (g : Grown W w1 R0 R1 V V1) : Hid (Blk w1 w.heap.size 39 cs.toArray) ∧ Hid (Blk w1 (w.heap.size + 1) 76 es.toArray) ∧ Hid (Blk w1 (w.heap.size + 2) 39 z10) ∧ Hid (tRx.rd w1 (Sd w1 R1) cs x) :=
 ⟨D.GX.fr g.fr (D.OW _ om), D.GA.fr g.fr (D.OW _ om), D.GR.fr g.fr (D.OW _ om), kCK D.RF D.H g⟩
theorem nx2 {w2 : World} {q : Nat} (K : StIn w1 R1 V1 x') (f : Fr No w1 w2) (h : tRx.rd w2 (fun k => Sd w1 R1 k ∨ Nw w1 w2 k) cs2 x') (G : Blk w1 q 39 z10) :
    Hid (cs2.length = 10) ∧ Hid (cs2.all (·.oneCell') = true) ∧ Hid (tRx.rd (w2.alloc (.cells cs2.toArray 39)) (Sd (w2.alloc (.cells cs2.toArray 39)) R1) cs2 x') ∧ Hid (Fr No w1 (w2.alloc (.cells cs2.toArray 39))) ∧ Hid (Blk (w2.alloc (.cells cs2.toArray 39)) q 39 z10) ∧ Hid (Blk (w2.alloc (.cells cs2.toArray 39)) w2.heap.size 39 cs2.toArray) := by
 have f3 := (Fr.refl No w2).alloc (.cells cs2.toArray 39)
 exact ⟨(rx_one h).1, (rx_one h).2, kBX (rd_fresh2 K.low f h) f3, f.trans f3 i3, (G.fr f id).fr f3 id, Blk.new _ _ _⟩
theorem Hd.fin {fn : Func} {act : Act} (D : Hd w W R R0 V x cs es) (g : Grown W w1 R0 R1 V V1) (K : StIn w1 R1 V1 x') (F3 : Fr No w1 W3) (h : tRx.rd W3 (Sd W3 R1) cs2 x') (G : Blk W3 (w.heap.size + 2) 39 z10)
    (hf : fn.results = #[.cell 6 39, .tmp 7] := by rfl) (hp : act.tmps.getD 6 undef = .pointer (some ⟨w.heap.size + 2, 0, none⟩) := by rfl) (h7 : act.tmps.getD 7 undef = .bool true := by rfl) (hdd : act.defers = [] := by rfl) :
    bodyPost prog fn (kAZ R V x' w) .ret act (W3.setCells (w.heap.size + 2) 0 cs2) := by
 have FT := Fr.setCells' (M := One (w.heap.size + 2)) (b := w.heap.size + 2) (fun _ => rfl) cs2 0 W3 (Fr.refl _ W3)
 have FW := Fr.setCells' (a := w) (M := V.own) (b := w.heap.size + 2) (fun h => absurd h om) cs2 0 W3 (((D.F0.mono (fun _ _ h => h.elim)).trans g.fr i3).trans F3 (fun _ _ h => h.elim))
 have RR := World.rangeAt_setCells_same W3 (w.heap.size + 2) 0 cs2 (G.to rfl (rx_one h).1)
 have e7 : act.tmps.getD 7 undef = .bool true := h7
 refine bodyPost_ret (v := .tuple #[.agg cs2.toArray, .bool true]) (by rw [← e7]; exact kCi (fn := fn) (p := 6) (t := 7) (ty := 39) hf _ _ (w.heap.size + 2) _ _ hp RR underlying39 rfl (by rw [(rx_one h).1]; exact kBo)) hdd ?_
 have hq : R1 (w.heap.size + 2) := g.keep _ (by rw [D.RR]; exact .inr rfl)
 have hM : ∀ k, k < W3.heap.size → One (w.heap.size + 2) k → R1 k ∧ ¬ V1.own k := fun k _ e => by
  have e : k = w.heap.size + 2 := e
  subst e
  exact ⟨hq, fun o => (g.own _ o).elim (fun o => D.OW _ om o) (fun o => by have := D.GR.lt; omega)⟩
 have K3 := K.frNo F3
 exact ⟨V1, R1, cs2, rfl, ⟨K3.fr FT hM (fun _ _ r => r) (fun _ r => r) (fun k r => ltl (K3.low k r) FT.size), kCC h FT (fun k hk m => (hM k hk m).1) (fun _ _ r => r)⟩, g.P, FW, fun k hk r => by
  have h2 := g.up k (ltl hk D.F0.size) r
  rw [D.RR] at h2
  exact h2.elim (fun r => r) (fun e => by omega), fun k r => g.keep k (by rw [D.RR]; exact .inl r), fun k o => (g.own k o).imp id (fun h => Nat.le_trans D.F0.size h)⟩
end
theorem kLW (h : Both w R V x cs) (a : At) {es : LV} (ha : tAt.rd w (Sd w R) es a) (hc : a.call = 1) (hn : x.funcs.length ≤ 1000000) (hb : a.func.ty.params.length ≤ 1048576 ∧ a.func.ty.results.length ≤ 1048576) (hh : ∀ a ∈ x.hosts, a.ty.params.length ≤ 140737488351232 ∧ a.ty.results.length ≤ 140737488351232) :
    Calls prog 37 #[.pointer (some ⟨V.P, 0, none⟩), .agg cs.toArray, .agg es.toArray] w (kAZ R V (kBs x a.func).1 w) := by
 have HCL : Hid (cs.length = 10) := TyOk.len _ _ _ _ h.rf
 obtain ⟨P1, p1, P2, p2, A1, c1, A2, c2, A3, c3, ms, ns, hes, ml, nl, -, -, hfi, hta, hme, hgl, hvl, hre, hby, hmd, had, hag⟩ := kAg ha
 have HES := hid hes
 clear hes
 obtain ⟨R0, HD⟩ := hd h es
 have HP0 := hid (HD.up hfi)
 go_enter func37, ntmps37
 go_upto_region 1 with fail
 generalize ((w.alloc (.cells cs.toArray 39)).alloc (.cells es.toArray 76)).alloc (.cells z10 39) = W at *
 have y0 : W.cell? ⟨w.heap.size + 1, 0, none⟩ = some (.int .i64 1) := by rw [← hc]; exact (HD.GA.cell 0).trans (by rw [HES.o]; try rfl)
 go_upto_region 3 with fail
 clear y0
 have y2 := (HD.GA.cell 2).trans (by rw [HES.o]; try rfl)
 have y3 := (HD.GA.cell 3).trans (by rw [HES.o]; try rfl)
 have y4 := (HD.GA.cell 4).trans (by rw [HES.o]; try rfl)
 have y5 := (HD.GA.cell 5).trans (by rw [HES.o]; try rfl)
 go_wp2_with fail
 refine (kIs HD.H a.func P1 P2 p1 p2 (kDW HP0.o).1 (kDW HP0.o).2.1 hn om om (kDW HP0.o).2.2.1 (kDW HP0.o).2.2.2 hh).mono ?_
 rintro e w1 ⟨V1, R1, rfl, k1, g1⟩
 obtain ⟨GX, GA, GR, RF⟩ := HD.next g1
 replace HP0 := hid (kCK HP0.o HD.H g1)
 have K1 := hid k1
 have GG := hid g1
 clear k1 g1 y2 y3 y4 y5
 have y2 := (GA.o.cell 2).trans (by rw [HES.o]; try rfl)
 have y3 := (GA.o.cell 3).trans (by rw [HES.o]; try rfl)
 have y4 := (GA.o.cell 4).trans (by rw [HES.o]; try rfl)
 have y5 := (GA.o.cell 5).trans (by rw [HES.o]; try rfl)
 go_wp2_with (first | refine ldX GX.o HCL.o ?_ | fail)
 refine (kKi RF.o (fun _ hk => hk.1) a.func P1 P2 p1 p2 HP0.o om om hh hn).mono ?_
 rintro e w2 ⟨cs2, rfl, hr2, f2⟩
 obtain ⟨HL2, HO2, RF2, F3, GQ, GY⟩ := nx2 K1.o f2 hr2 GR.o
 clear hr2 f2 y2 y3 y4 y5
 go_upto_region 5 with (first | refine nwX HL2.o HO2.o ?_ | fail)
 exact yy9
theorem kLL (h : Both w R V x cs) (a : At) {es : LV} (ha : tAt.rd w (Sd w R) es a) (hc : a.call = 2) (hn : x.tabs.length ≤ 1000000) :
    Calls prog 37 #[.pointer (some ⟨V.P, 0, none⟩), .agg cs.toArray, .agg es.toArray] w (kAZ R V (kBr x a.table).1 w) := by
 have HCL : Hid (cs.length = 10) := TyOk.len _ _ _ _ h.rf
 obtain ⟨P1, p1, P2, p2, A1, c1, A2, c2, A3, c3, ms, ns, hes, ml, nl, -, -, hfi, hta, hme, hgl, hvl, hre, hby, hmd, had, hag⟩ := kAg ha
 have HES := hid hes
 clear hes
 obtain ⟨R0, HD⟩ := hd h es
 go_enter func37, ntmps37
 go_upto_region 1 with fail
 generalize ((w.alloc (.cells cs.toArray 39)).alloc (.cells es.toArray 76)).alloc (.cells z10 39) = W at *
 have y0 : W.cell? ⟨w.heap.size + 1, 0, none⟩ = some (.int .i64 2) := by rw [← hc]; exact (HD.GA.cell 0).trans (by rw [HES.o]; try rfl)
 go_upto_region 7 with fail
 clear y0
 have y6 := (HD.GA.cell 6).trans (by rw [HES.o]; try rfl)
 have y7 := (HD.GA.cell 7).trans (by rw [HES.o]; try rfl)
 have y8 := (HD.GA.cell 8).trans (by rw [HES.o]; try rfl)
 have y9 := (HD.GA.cell 9).trans (by rw [HES.o]; try rfl)
 go_wp2_with fail
 refine (kHs HD.H a.table hn).mono ?_
 rintro e w1 ⟨V1, R1, rfl, k1, g1⟩
 obtain ⟨GX, GA, GR, RF⟩ := HD.next g1
 have K1 := hid k1
 have GG := hid g1
 clear k1 g1 y6 y7 y8 y9
 have y6 := (GA.o.cell 6).trans (by rw [HES.o]; try rfl)
 have y7 := (GA.o.cell 7).trans (by rw [HES.o]; try rfl)
 have y8 := (GA.o.cell 8).trans (by rw [HES.o]; try rfl)
 have y9 := (GA.o.cell 9).trans (by rw [HES.o]; try rfl)
 go_wp2_with (first | refine ldX GX.o HCL.o ?_ | fail)
 refine (kIr RF.o (fun _ hk => hk.1) a.table hta.1 hta.2.1 hta.2.2 hn).mono ?_
 rintro e w2 ⟨cs2, rfl, hr2, f2⟩
 obtain ⟨HL2, HO2, RF2, F3, GQ, GY⟩ := nx2 K1.o f2 hr2 GR.o
 clear hr2 f2 y6 y7 y8 y9
 go_upto_region 9 with (first | refine nwX HL2.o HO2.o ?_ | fail)
 exact yy9
theorem kLI (h : Both w R V x cs) (a : At) {es : LV} (ha : tAt.rd w (Sd w R) es a) (hc : a.call = 3) (hn : x.mems.length ≤ 1000000) :
    Calls prog 37 #[.pointer (some ⟨V.P, 0, none⟩), .agg cs.toArray, .agg es.toArray] w (kAZ R V (kBQ x a.mem).1 w) := by
 have HCL : Hid (cs.length = 10) := TyOk.len _ _ _ _ h.rf
 obtain ⟨P1, p1, P2, p2, A1, c1, A2, c2, A3, c3, ms, ns, hes, ml, nl, -, -, hfi, hta, hme, hgl, hvl, hre, hby, hmd, had, hag⟩ := kAg ha
 have HES := hid hes
 clear hes
 obtain ⟨R0, HD⟩ := hd h es
 go_enter func37, ntmps37
 go_upto_region 1 with fail
 generalize ((w.alloc (.cells cs.toArray 39)).alloc (.cells es.toArray 76)).alloc (.cells z10 39) = W at *
 have y0 : W.cell? ⟨w.heap.size + 1, 0, none⟩ = some (.int .i64 3) := by rw [← hc]; exact (HD.GA.cell 0).trans (by rw [HES.o]; try rfl)
 go_upto_region 11 with fail
 clear y0
 have y10 := (HD.GA.cell 10).trans (by rw [HES.o]; try rfl)
 have y11 := (HD.GA.cell 11).trans (by rw [HES.o]; try rfl)
 have y12 := (HD.GA.cell 12).trans (by rw [HES.o]; try rfl)
 go_wp2_with fail
 refine (kEB HD.H a.mem hn).mono ?_
 rintro e w1 ⟨V1, R1, rfl, k1, g1⟩
 obtain ⟨GX, GA, GR, RF⟩ := HD.next g1
 have K1 := hid k1
 have GG := hid g1
 clear k1 g1 y10 y11 y12
 have y10 := (GA.o.cell 10).trans (by rw [HES.o]; try rfl)
 have y11 := (GA.o.cell 11).trans (by rw [HES.o]; try rfl)
 have y12 := (GA.o.cell 12).trans (by rw [HES.o]; try rfl)
 go_wp2_with (first | refine ldX GX.o HCL.o ?_ | fail)
 refine (kLa RF.o (fun _ hk => hk.1) a.mem hme.1 hme.2 hn).mono ?_
 rintro e w2 ⟨cs2, rfl, hr2, f2⟩
 obtain ⟨HL2, HO2, RF2, F3, GQ, GY⟩ := nx2 K1.o f2 hr2 GR.o
 clear hr2 f2 y10 y11 y12
 go_upto_region 13 with (first | refine nwX HL2.o HO2.o ?_ | fail)
 exact yy9
theorem kLA (h : Both w R V x cs) (a : At) {es : LV} (ha : tAt.rd w (Sd w R) es a) (hc : a.call = 4) (hn : x.globs.length ≤ 1000000) :
    Calls prog 37 #[.pointer (some ⟨V.P, 0, none⟩), .agg cs.toArray, .agg es.toArray] w (kAZ R V (kBZ x a.g a.v).1 w) := by
 have HCL : Hid (cs.length = 10) := TyOk.len _ _ _ _ h.rf
 obtain ⟨P1, p1, P2, p2, A1, c1, A2, c2, A3, c3, ms, ns, hes, ml, nl, -, -, hfi, hta, hme, hgl, hvl, hre, hby, hmd, had, hag⟩ := kAg ha
 have HES := hid hes
 clear hes
 obtain ⟨R0, HD⟩ := hd h es
 go_enter func37, ntmps37
 go_upto_region 1 with fail
 generalize ((w.alloc (.cells cs.toArray 39)).alloc (.cells es.toArray 76)).alloc (.cells z10 39) = W at *
 have y0 : W.cell? ⟨w.heap.size + 1, 0, none⟩ = some (.int .i64 4) := by rw [← hc]; exact (HD.GA.cell 0).trans (by rw [HES.o]; try rfl)
 go_upto_region 15 with fail
 clear y0
 have y13 := (HD.GA.cell 13).trans (by rw [HES.o]; try rfl)
 have y14 := (HD.GA.cell 14).trans (by rw [HES.o]; try rfl)
 have y15 := (HD.GA.cell 15).trans (by rw [HES.o]; try rfl)
 have y16 := (HD.GA.cell 16).trans (by rw [HES.o]; try rfl)
 go_wp2_with fail
 refine (kEL HD.H a.g a.v hgl hvl.1 hvl.2 hn).mono ?_
 rintro e w1 ⟨V1, R1, rfl, k1, g1⟩
 obtain ⟨GX, GA, GR, RF⟩ := HD.next g1
 have K1 := hid k1
 have GG := hid g1
 clear k1 g1 y13 y14 y15 y16
 have y13 := (GA.o.cell 13).trans (by rw [HES.o]; try rfl)
 have y14 := (GA.o.cell 14).trans (by rw [HES.o]; try rfl)
 have y15 := (GA.o.cell 15).trans (by rw [HES.o]; try rfl)
 have y16 := (GA.o.cell 16).trans (by rw [HES.o]; try rfl)
 go_wp2_with (first | refine ldX GX.o HCL.o ?_ | fail)
 refine (kIJ RF.o (fun _ hk => hk.1) a.g a.v hgl hvl.1 hvl.2 hn).mono ?_
 rintro e w2 ⟨cs2, rfl, hr2, f2⟩
 obtain ⟨HL2, HO2, RF2, F3, GQ, GY⟩ := nx2 K1.o f2 hr2 GR.o
 clear hr2 f2 y13 y14 y15 y16
 go_upto_region 17 with (first | refine nwX HL2.o HO2.o ?_ | fail)
 exact yy9
theorem kKz (h : Both w R V x cs) (a : At) {es : LV} (ha : tAt.rd w (Sd w R) es a) (hc : a.call = 5) (hn : x.elems.length ≤ 1000000) (hb : a.refs.length ≤ 1048576) :
    Calls prog 37 #[.pointer (some ⟨V.P, 0, none⟩), .agg cs.toArray, .agg es.toArray] w (kAZ R V { x with elems := x.elems ++ [⟨a.refs, false⟩] } w) := by
 have HCL : Hid (cs.length = 10) := TyOk.len _ _ _ _ h.rf
 obtain ⟨P1, p1, P2, p2, A1, c1, A2, c2, A3, c3, ms, ns, hes, ml, nl, -, -, hfi, hta, hme, hgl, hvl, hre, hby, hmd, had, hag⟩ := kAg ha
 have HES := hid hes
 clear hes
 obtain ⟨R0, HD⟩ := hd h es
 have HP0 := hid (HD.upE hre.2.2)
 go_enter func37, ntmps37
 go_upto_region 1 with fail
 generalize ((w.alloc (.cells cs.toArray 39)).alloc (.cells es.toArray 76)).alloc (.cells z10 39) = W at *
 have y0 : W.cell? ⟨w.heap.size + 1, 0, none⟩ = some (.int .i64 5) := by rw [← hc]; exact (HD.GA.cell 0).trans (by rw [HES.o]; try rfl)
 go_upto_region 19 with fail
 clear y0
 have y17 := (HD.GA.cell 17).trans (by rw [HES.o]; try rfl)
 go_wp2_with fail
 refine (kIt HD.H A1 c1 a.refs _ HP0.o (fun _ hk => hk.1) om hn).mono ?_
 rintro e w1 ⟨V1, R1, rfl, k1, g1⟩
 obtain ⟨GX, GA, GR, RF⟩ := HD.next g1
 replace HP0 := hid (kCO HP0.o HD.H g1)
 have K1 := hid k1
 have GG := hid g1
 clear k1 g1 y17
 have y17 := (GA.o.cell 17).trans (by rw [HES.o]; try rfl)
 go_wp2_with (first | refine ldX GX.o HCL.o ?_ | fail)
 refine (kHa RF.o (fun _ hk => hk.1) a.refs A1 c1 (kEm (a := ⟨a.refs, false⟩) hre.1 hre.2.1 HP0.o) hn).mono ?_
 rintro e w2 ⟨cs2, rfl, hr2, f2⟩
 obtain ⟨HL2, HO2, RF2, F3, GQ, GY⟩ := nx2 K1.o f2 hr2 GR.o
 clear hr2 f2 y17
 go_upto_region 21 with (first | refine nwX HL2.o HO2.o ?_ | fail)
 exact yy9
theorem kKy (h : Both w R V x cs) (a : At) {es : LV} (ha : tAt.rd w (Sd w R) es a) (hc : a.call = 6) (hn : x.datas.length ≤ 1000000) (hb : a.b.length ≤ 1048576) :
    Calls prog 37 #[.pointer (some ⟨V.P, 0, none⟩), .agg cs.toArray, .agg es.toArray] w (kAZ R V { x with datas := x.datas ++ [⟨a.b, false⟩] } w) := by
 have HCL : Hid (cs.length = 10) := TyOk.len _ _ _ _ h.rf
 obtain ⟨P1, p1, P2, p2, A1, c1, A2, c2, A3, c3, ms, ns, hes, ml, nl, -, -, hfi, hta, hme, hgl, hvl, hre, hby, hmd, had, hag⟩ := kAg ha
 have HES := hid hes
 clear hes
 obtain ⟨R0, HD⟩ := hd h es
 have HP0 := hid (HD.upE hby.2.2)
 go_enter func37, ntmps37
 go_upto_region 1 with fail
 generalize ((w.alloc (.cells cs.toArray 39)).alloc (.cells es.toArray 76)).alloc (.cells z10 39) = W at *
 have y0 : W.cell? ⟨w.heap.size + 1, 0, none⟩ = some (.int .i64 6) := by rw [← hc]; exact (HD.GA.cell 0).trans (by rw [HES.o]; try rfl)
 go_upto_region 23 with fail
 clear y0
 have y18 := (HD.GA.cell 18).trans (by rw [HES.o]; try rfl)
 go_wp2_with fail
 refine (kIu HD.H A2 c2 a.b _ HP0.o (fun _ hk => hk.1) om hn).mono ?_
 rintro e w1 ⟨V1, R1, rfl, k1, g1⟩
 obtain ⟨GX, GA, GR, RF⟩ := HD.next g1
 replace HP0 := hid (kCO HP0.o HD.H g1)
 have K1 := hid k1
 have GG := hid g1
 clear k1 g1 y18
 have y18 := (GA.o.cell 18).trans (by rw [HES.o]; try rfl)
 go_wp2_with (first | refine ldX GX.o HCL.o ?_ | fail)
 refine (kHb RF.o (fun _ hk => hk.1) a.b A2 c2 (kEo (a := ⟨a.b, false⟩) hby.1 hby.2.1 HP0.o) hn).mono ?_
 rintro e w2 ⟨cs2, rfl, hr2, f2⟩
 obtain ⟨HL2, HO2, RF2, F3, GQ, GY⟩ := nx2 K1.o f2 hr2 GR.o
 clear hr2 f2 y18
 go_upto_region 25 with (first | refine nwX HL2.o HO2.o ?_ | fail)
 exact yy9
theorem kKv (h : Both w R V x cs) (a : At) {es : LV} (ha : tAt.rd w (Sd w R) es a) (hc : a.call = 7) (hn : x.insts.length ≤ 1000000) (hb : MdB a.m) (hab : AdB a.a) :
    Calls prog 37 #[.pointer (some ⟨V.P, 0, none⟩), .agg cs.toArray, .agg es.toArray] w (kAZ R V (kBJ x a.m a.a).1 w) := by
 have HCL : Hid (cs.length = 10) := TyOk.len _ _ _ _ h.rf
 obtain ⟨P1, p1, P2, p2, A1, c1, A2, c2, A3, c3, ms, ns, hes, ml, nl, -, -, hfi, hta, hme, hgl, hvl, hre, hby, hmd, had, hag⟩ := kAg ha
 have HES := hid hes
 clear hes
 obtain ⟨R0, HD⟩ := hd h es
 have HP0 := hid (HD.up hmd)
 have HP1 := hid (HD.up had)
 go_enter func37, ntmps37
 go_upto_region 1 with fail
 generalize ((w.alloc (.cells cs.toArray 39)).alloc (.cells es.toArray 76)).alloc (.cells z10 39) = W at *
 have y0 : W.cell? ⟨w.heap.size + 1, 0, none⟩ = some (.int .i64 7) := by rw [← hc]; exact (HD.GA.cell 0).trans (by rw [HES.o]; try rfl)
 go_upto_region 26 with fail
 clear y0
 have RWms : Hid (∀ X, Blk X (w.heap.size + 1) 76 es.toArray → X.rangeAt (w.heap.size + 1) 19 ms) := fun X b => by
  rw [HES.o] at b
  exact kFx b (by rfl)
 have HWms : Hid ((prog.info? 71).map (·.size) = some ms.length) := by unfold Hid; rw [ml]; kernel_rfl
 have RWns : Hid (∀ X, Blk X (w.heap.size + 1) 76 es.toArray → X.rangeAt (w.heap.size + 1) 31 ns) := fun X b => by
  rw [HES.o] at b
  exact kFx (pre := [.int .i64 a.call, .int .i64 a.addr, .slice P1 a.func.ty.params.length p1, .slice P2 a.func.ty.results.length p2, .int .i64 a.func.inst, .int .i64 a.func.index, .int .i64 a.table.elem, .int .i64 a.table.lim.min, .int .i64 a.table.lim.max, .bool a.table.lim.has, .int .i64 a.mem.min, .int .i64 a.mem.max, .bool a.mem.has, .int .i64 a.g.val, .bool a.g.mut_, .int .i64 a.v.t, .int .u64 a.v.n, .slice A1 a.refs.length c1, .slice A2 a.b.length c2] ++ ms) (by simpa using b) (by simp [ml])
 have HWns : Hid ((prog.info? 73).map (·.size) = some ns.length) := by unfold Hid; rw [nl]; kernel_rfl
 go_wp2_with (first | (refine wpList_load_mid (by rfl) 71 _ (by rfl) (w.heap.size + 1) 19 (by rfl) _ _ (RWms.o _ HD.GA) underlying71 (by rfl) HWms.o ?_) | (refine wpList_load_mid (by rfl) 73 _ (by rfl) (w.heap.size + 1) 31 (by rfl) _ _ (RWns.o _ HD.GA) underlying73 (by rfl) HWns.o ?_) | fail)
 refine (kIQ HD.H a.m a.a _ HP0.o HP1.o (fun _ hk => hk.1) hb hab hn).mono ?_
 rintro e w1 ⟨V1, R1, rfl, k1, g1⟩
 obtain ⟨GX, GA, GR, RF⟩ := HD.next g1
 replace HP0 := hid (kCK HP0.o HD.H g1)
 replace HP1 := hid (kCK HP1.o HD.H g1)
 have K1 := hid k1
 have GG := hid g1
 clear k1 g1
 go_wp2_with (first | refine ldX GX.o HCL.o ?_ | (refine wpList_load_mid (by rfl) 71 _ (by rfl) (w.heap.size + 1) 19 (by rfl) _ _ (RWms.o _ GA.o) underlying71 (by rfl) HWms.o ?_) | (refine wpList_load_mid (by rfl) 73 _ (by rfl) (w.heap.size + 1) 31 (by rfl) _ _ (RWns.o _ GA.o) underlying73 (by rfl) HWns.o ?_) | fail)
 refine (kKC RF.o (fun _ hk => hk.1) a.m a.a HP0.o HP1.o hn).mono ?_
 rintro e w2 ⟨cs2, rfl, hr2, f2⟩
 obtain ⟨HL2, HO2, RF2, F3, GQ, GY⟩ := nx2 K1.o f2 hr2 GR.o
 clear hr2 f2
 go_upto_region 28 with (first | refine nwX HL2.o HO2.o ?_ | fail)
 exact yy9
end
section
variable {w : World} {R : Nat → Prop} {V : Pl} {x : Rx} {cs : LV}
abbrev kAo (a0 : Pl) (a1 a2 : LV) : Array Value := #[.pointer (some ⟨a0.P, 0, none⟩), .agg a1.toArray, .agg a2.toArray]
theorem kJl (h : Both w R V x cs) (a : At) {es : LV} (ha : tAt.rd w (Sd w R) es a) (hc : a.call = 8) (hn : x.globs.length ≤ 1000000) (hgw : ∀ g ∈ x.globs, (Lit.int .i64 g.t.val).wf = true) :
    Calls prog 11 (kAo V cs es) w (kAZ R V (kAq x a.addr a.v).1 w) := by
 have HCL : Hid (cs.length = 10) := TyOk.len _ _ _ _ h.rf
 obtain ⟨P1, p1, P2, p2, A1, c1, A2, c2, A3, c3, ms, ns, hes, ml, nl, -, -, hfi, hta, hme, hgl, hvl, hre, hby, hmd, had, hag⟩ := kAg ha
 have HES := hid hes
 clear hes
 obtain ⟨R0, HD⟩ := hd h es
 go_enter func11, ntmps11
 go_upto_region 1 with fail
 generalize ((w.alloc (.cells cs.toArray 39)).alloc (.cells es.toArray 76)).alloc (.cells z10 39) = W at *
 have y0 : W.cell? ⟨w.heap.size + 1, 0, none⟩ = some (.int .i64 8) := by rw [← hc]; exact (HD.GA.cell 0).trans (by rw [HES.o]; try rfl)
 go_upto_region 11 with fail
 clear y0
 have y1 := (HD.GA.cell 1).trans (by rw [HES.o]; try rfl)
 have y15 := (HD.GA.cell 15).trans (by rw [HES.o]; try rfl)
 have y16 := (HD.GA.cell 16).trans (by rw [HES.o]; try rfl)
 go_wp2_with fail
 refine (kGZ HD.H a.addr a.v hn hvl.1 hvl.2).mono ?_
 rintro e w1 ⟨V1, R1, rfl, k1, g1⟩
 obtain ⟨GX, GA, GR, RF⟩ := HD.next g1
 have K1 := hid k1
 have GG := hid g1
 clear k1 g1 y1 y15 y16
 have y1 := (GA.o.cell 1).trans (by rw [HES.o]; try rfl)
 have y15 := (GA.o.cell 15).trans (by rw [HES.o]; try rfl)
 have y16 := (GA.o.cell 16).trans (by rw [HES.o]; try rfl)
 go_wp2_with (first | refine ldX GX.o HCL.o ?_ | fail)
 refine (kIG RF.o (fun _ hk => hk.1) a.addr a.v hvl.1 hvl.2 hgw hn).mono ?_
 rintro e w2 ⟨cs2, rfl, hr2, f2⟩
 obtain ⟨HL2, HO2, RF2, F3, GQ, GY⟩ := nx2 K1.o f2 hr2 GR.o
 clear hr2 f2 y1 y15 y16
 go_upto_region 13 with (first | refine nwX HL2.o HO2.o ?_ | fail)
 exact yy9
theorem kJk (h : Both w R V x cs) (a : At) {es : LV} (ha : tAt.rd w (Sd w R) es a) (hc : a.call = 9) (hn : x.elems.length ≤ 1000000) :
    Calls prog 11 (kAo V cs es) w (kAZ R V (kBS x a.addr) w) := by
 have HCL : Hid (cs.length = 10) := TyOk.len _ _ _ _ h.rf
 obtain ⟨P1, p1, P2, p2, A1, c1, A2, c2, A3, c3, ms, ns, hes, ml, nl, -, -, hfi, hta, hme, hgl, hvl, hre, hby, hmd, had, hag⟩ := kAg ha
 have HES := hid hes
 clear hes
 obtain ⟨R0, HD⟩ := hd h es
 go_enter func11, ntmps11
 go_upto_region 1 with fail
 generalize ((w.alloc (.cells cs.toArray 39)).alloc (.cells es.toArray 76)).alloc (.cells z10 39) = W at *
 have y0 : W.cell? ⟨w.heap.size + 1, 0, none⟩ = some (.int .i64 9) := by rw [← hc]; exact (HD.GA.cell 0).trans (by rw [HES.o]; try rfl)
 go_upto_region 15 with fail
 clear y0
 have y1 := (HD.GA.cell 1).trans (by rw [HES.o]; try rfl)
 go_wp2_with fail
 refine (kHj HD.H a.addr hn).mono ?_
 rintro e w1 ⟨V1, R1, rfl, k1, g1⟩
 obtain ⟨GX, GA, GR, RF⟩ := HD.next g1
 have K1 := hid k1
 have GG := hid g1
 clear k1 g1 y1
 have y1 := (GA.o.cell 1).trans (by rw [HES.o]; try rfl)
 go_wp2_with (first | refine ldX GX.o HCL.o ?_ | fail)
 refine (kIi RF.o (fun _ hk => hk.1) a.addr hn).mono ?_
 exact yy52
theorem kIP (h : Both w R V x cs) (a : At) {es : LV} (ha : tAt.rd w (Sd w R) es a) (hc : a.call = 10) (hn : x.datas.length ≤ 1000000) :
    Calls prog 11 (kAo V cs es) w (kAZ R V (kBT x a.addr) w) := by
 have HCL : Hid (cs.length = 10) := TyOk.len _ _ _ _ h.rf
 obtain ⟨P1, p1, P2, p2, A1, c1, A2, c2, A3, c3, ms, ns, hes, ml, nl, -, -, hfi, hta, hme, hgl, hvl, hre, hby, hmd, had, hag⟩ := kAg ha
 have HES := hid hes
 clear hes
 obtain ⟨R0, HD⟩ := hd h es
 go_enter func11, ntmps11
 go_upto_region 1 with fail
 generalize ((w.alloc (.cells cs.toArray 39)).alloc (.cells es.toArray 76)).alloc (.cells z10 39) = W at *
 have y0 : W.cell? ⟨w.heap.size + 1, 0, none⟩ = some (.int .i64 10) := by rw [← hc]; exact (HD.GA.cell 0).trans (by rw [HES.o]; try rfl)
 go_upto_region 18 with fail
 clear y0
 have y1 := (HD.GA.cell 1).trans (by rw [HES.o]; try rfl)
 go_wp2_with fail
 refine (kHk HD.H a.addr hn).mono ?_
 rintro e w1 ⟨V1, R1, rfl, k1, g1⟩
 obtain ⟨GX, GA, GR, RF⟩ := HD.next g1
 have K1 := hid k1
 have GG := hid g1
 clear k1 g1 y1
 have y1 := (GA.o.cell 1).trans (by rw [HES.o]; try rfl)
 go_wp2_with (first | refine ldX GX.o HCL.o ?_ | fail)
 refine (kIj RF.o (fun _ hk => hk.1) a.addr hn).mono ?_
 exact yy52
theorem kBO {x' : Rx} (h : Both w R V x cs) (a : At) {es : LV} (ha : tAt.rd w (Sd w R) es a) (hk : a.call = 1 ∨ a.call = 2 ∨ a.call = 3 ∨ a.call = 4 ∨ a.call = 5 ∨ a.call = 6 ∨ a.call = 7)
    (A : ∀ {W : World} {R0 : Nat → Prop}, Both W R0 V x cs → tAt.rd W (Sd W R0) es a → Calls prog 37 (kAo V cs es) W (kAZ R0 V x' W)) :
    Calls prog 11 (kAo V cs es) w (kAZ R V x' w) := by
 have HCL : Hid (cs.length = 10) := TyOk.len _ _ _ _ h.rf
 obtain ⟨P1, p1, P2, p2, A1, c1, A2, c2, A3, c3, ms, ns, hes, ml, nl, -, -, hfi, hta, hme, hgl, hvl, hre, hby, hmd, had, hag⟩ := kAg ha
 have HES := hid hes
 clear hes
 obtain ⟨R0, HD⟩ := hd h es
 have HP := hid (HD.up ha)
 have HA : Hid (∀ {W : World} {R0 : Nat → Prop}, Both W R0 V x cs → tAt.rd W (Sd W R0) es a → Calls prog 37 (kAo V cs es) W (kAZ R0 V x' W)) := A
 have HIE : Hid ((prog.info? 76).map (·.size) = some es.length) := by unfold Hid; rw [show es.length = 38 from TyOk.len _ _ _ _ ha]; kernel_rfl
 have HY : Hid (∀ W, Blk W (w.heap.size + 1) 76 es.toArray → W.cell? ⟨w.heap.size + 1, 0, none⟩ = some (.int .i64 a.call)) := fun W b => (b.cell 0).trans (by rw [HES.o]; try rfl)
 clear A
 rcases hk with hc | hc | hc | hc | hc | hc | hc
 all_goals
  rw [hc] at HY
  clear hc
  go_enter func11, ntmps11
  go_upto_region 1 with fail
  generalize ((w.alloc (.cells cs.toArray 39)).alloc (.cells es.toArray 76)).alloc (.cells z10 39) = W at *
  have y0 := HY.o W HD.GA
  go_upto_region 9 with fail
  clear y0
  go_wp2_with (first | refine ldX HD.GX HCL.o ?_ | (refine wpList_load_mid (by rfl) 76 _ (by rfl) (w.heap.size + 1) 0 (by rfl) _ _ (by simpa using rangeAt_blk HD.GA) underlying76 (by rfl) HIE.o ?_) | fail)
  refine (HA.o ⟨HD.H, HD.RF⟩ HP.o).mono ?_
  rintro e w1 ⟨V1, R1, cs2, rfl, kb, g1⟩
  obtain ⟨-, -, GR, -⟩ := HD.next g1
  obtain ⟨l2, o2⟩ := rx_one kb.rf
  have HL2 := hid l2
  have HO2 := hid o2
  have GG := hid g1
  have KB := hid kb
  clear kb g1 l2 o2
  go_wp2_with (first | refine stX GR.o rfl HL2.o HO2.o ?_ | fail)
  exact HD.fin GG.o KB.o.pr (Fr.refl No w1) KB.o.rf GR.o
theorem kJu (h : Both w R V x cs) (a : At) {es : LV} (ha : tAt.rd w (Sd w R) es a) (hc : a.call = 1) (hn : x.funcs.length ≤ 1000000) (hb : a.func.ty.params.length ≤ 1048576 ∧ a.func.ty.results.length ≤ 1048576) (hh : ∀ a ∈ x.hosts, a.ty.params.length ≤ 140737488351232 ∧ a.ty.results.length ≤ 140737488351232) :
    Calls prog 11 (kAo V cs es) w (kAZ R V (kBs x a.func).1 w) :=
 kBO h a ha (by simp [hc]) (fun b e => kLW b a e hc hn hb hh)
theorem kJt (h : Both w R V x cs) (a : At) {es : LV} (ha : tAt.rd w (Sd w R) es a) (hc : a.call = 2) (hn : x.tabs.length ≤ 1000000) :
    Calls prog 11 (kAo V cs es) w (kAZ R V (kBr x a.table).1 w) :=
 kBO h a ha (by simp [hc]) (fun b e => kLL b a e hc hn)
theorem kJs (h : Both w R V x cs) (a : At) {es : LV} (ha : tAt.rd w (Sd w R) es a) (hc : a.call = 3) (hn : x.mems.length ≤ 1000000) :
    Calls prog 11 (kAo V cs es) w (kAZ R V (kBQ x a.mem).1 w) :=
 kBO h a ha (by simp [hc]) (fun b e => kLI b a e hc hn)
theorem kJr (h : Both w R V x cs) (a : At) {es : LV} (ha : tAt.rd w (Sd w R) es a) (hc : a.call = 4) (hn : x.globs.length ≤ 1000000) :
    Calls prog 11 (kAo V cs es) w (kAZ R V (kBZ x a.g a.v).1 w) :=
 kBO h a ha (by simp [hc]) (fun b e => kLA b a e hc hn)
theorem kJq (h : Both w R V x cs) (a : At) {es : LV} (ha : tAt.rd w (Sd w R) es a) (hc : a.call = 5) (hn : x.elems.length ≤ 1000000) (hb : a.refs.length ≤ 1048576) :
    Calls prog 11 (kAo V cs es) w (kAZ R V { x with elems := x.elems ++ [⟨a.refs, false⟩] } w) :=
 kBO h a ha (by simp [hc]) (fun b e => kKz b a e hc hn hb)
theorem kJo (h : Both w R V x cs) (a : At) {es : LV} (ha : tAt.rd w (Sd w R) es a) (hc : a.call = 6) (hn : x.datas.length ≤ 1000000) (hb : a.b.length ≤ 1048576) :
    Calls prog 11 (kAo V cs es) w (kAZ R V { x with datas := x.datas ++ [⟨a.b, false⟩] } w) :=
 kBO h a ha (by simp [hc]) (fun b e => kKy b a e hc hn hb)
theorem kJm (h : Both w R V x cs) (a : At) {es : LV} (ha : tAt.rd w (Sd w R) es a) (hc : a.call = 7) (hn : x.insts.length ≤ 1000000) (hb : MdB a.m) (hab : AdB a.a) :
    Calls prog 11 (kAo V cs es) w (kAZ R V (kBJ x a.m a.a).1 w) :=
 kBO h a ha (by simp [hc]) (fun b e => kKv b a e hc hn hb hab)
end
structure kMb (x : Rx) : Prop where
 fu : x.funcs.length ≤ 1000000
 fb : ∀ a ∈ x.funcs, a.ty.params.length ≤ 1048576 ∧ a.ty.results.length ≤ 1048576
 gl : x.globs.length ≤ 1000000
 el : x.elems.length ≤ 1000000
 eb : ∀ a ∈ x.elems, a.l.length ≤ 1048576
 eg : ∀ a ∈ x.elems, a.gone = true → a.l = []
 da : x.datas.length ≤ 1000000
 db : ∀ a ∈ x.datas, a.b.length ≤ 1048576
 dg : ∀ a ∈ x.datas, a.gone = true → a.b = []
 is : x.insts.length ≤ 1000000
 ib : ∀ y ∈ x.insts, MdB y.m ∧ AdB y.a
structure kEg (x : Rx) : Prop where
 ta : x.tabs.length ≤ 1000000
 me : x.mems.length ≤ 1000000
 ms : kDg x
structure RmJn (w : World) (A : OA) (c : Nat) (B : List Int) : Prop where
 rd : Rd w w.heap.size A (Ks .u8 B)
 nil : A = none → B = []
 spot : B.length ≠ 0 → ∀ ad, A = some ad → ∃ q o, ad = ⟨q, o, none⟩
 bts : Bts B
 cap : B.length ≤ c
 max : c ≤ maxLen
theorem RmJn.fr {w w' : World} {A : OA} {c : Nat} {B : List Int} (h : RmJn w A c B) (f : Fr No w w') : RmJn w' A c B :=
 ⟨(h.rd.fr f (fun _ _ x => x)).more f.size, h.nil, h.spot, h.bts, h.cap, h.max⟩
abbrev q11x8 (a0 : Lim) (a1 : Option Addr) (a2 : List Int) (a3 : Nat) : Array Value := #[.int .i64 a0.min, .int .i64 a0.max, .bool a0.has, .slice a1 a2.length a3]
def RmUo (l : Lim) (A0 : OA) (B0 B : List Int) (t : Int) (w : World) (e : Ending) (w' : World) : Prop :=
 ∃ (A : OA) (c : Nat), e = .returned (.tuple #[.agg (q11x8 l A B c), .int .i64 t]) ∧ RmJn w' A c B ∧ ((A = A0 ∧ B = B0) ∨ ∀ q o, A = some ⟨q, o, none⟩ → w.heap.size ≤ q) ∧ Fr No w w'
theorem RmIn.jn {w : World} {A : OA} {c : Nat} {B : List Int} (h : RmIn w A c B) (hm : c ≤ maxLen) : RmJn w A c B := ⟨h.rd, h.nil, fun _ => h.spot, h.bts, h.cap, hm⟩
theorem kHL (ad : Addr) (D : OA) (c c' : Nat) (w : World) :
    Calls prog 135 #[.slice (some ad) 0 c, .int .i64 0, .slice D 0 c'] w (WrTo [] w) := by
 have h1 : ∀ W, (Instr.slice 59 (.slice (some ad) 0 c) none (some (.int .i64 0)) none).run prog W = .ok (.slice (some ad) 0 c) W := fun W => by
  have hs : (sizeOf (prog.elem 59)).run prog W = .ok 1 W := by kernel_rfl
  have h := run_slice_h (P := prog) (w := W) 59 (some ad) 0 c kr .i64 0 om om
  simp only [hs, Result.andThen_ok] at h
  rw [h]
  simp [sliced, Addr.add]
 have h2 : ∀ W, (Instr.slice 59 (.slice (some ad) 0 c) (some (.int .i64 0)) none none).run prog W = .ok (.slice (some ad) 0 c) W := fun W => by
  have hs : (sizeOf (prog.elem 59)).run prog W = .ok 1 W := by kernel_rfl
  have h := run_slice_l (P := prog) (w := W) 59 (some ad) 0 c kr .i64 0 om om
  simp only [hs, Result.andThen_ok] at h
  rw [h]
  simp [sliced, Addr.add]
 exact yy11
theorem kGW (A D : OA) (c c' a : Nat) (B bs : List Int) (w : World) (hB : Rd w w.heap.size A (Ks .u8 B)) (hA : A = none → B = []) (hD : Rd w w.heap.size D (Ks .u8 bs)) (b1 : Bts B) (b2 : Bts bs) (ha : a + bs.length ≤ B.length) (hc : B.length ≤ c) (hn : B.length ≤ 100000) (hspot : B.length ≠ 0 → ∀ ad, A = some ad → ∃ q o, ad = ⟨q, o, none⟩) :
    Calls prog 135 #[.slice A B.length c, .int .i64 a, .slice D bs.length c'] w (WrTo (splice B a bs) w) := by
 by_cases h0 : B.length = 0
 · have e : B = [] := List.eq_nil_of_length_eq_zero h0
   subst e
   cases A with
   | none => exact kDQ none D c c' a [] bs w hB hA hD b1 b2 ha hc hn (fun _ h => by cases h)
   | some ad =>
    have hl0 : ([] : List Int).length = 0 := rfl
    have ha0 : a = 0 := om
    have hbs : bs = [] := List.eq_nil_of_length_eq_zero om
    subst ha0 hbs
    exact kHL ad D c c' w
 exact kDQ A D c c' a B bs w hB hA hD b1 b2 ha hc hn (hspot h0)
theorem kHo (l : Lim) (A D : OA) (c d : Nat) (B bs : List Int) (xt xa xn : Int) (w : World) (hI : RmJn w A c B) (hD : SrcIn w D d bs) (hn : B.length ≤ 100000) (hn2 : bs.length ≤ 1000000) (h1 : 0 ≤ xt ∧ xt < 18446744073709551616) (h2 : 0 ≤ xa ∧ xa < 18446744073709551616) (h3 : 0 ≤ xn ∧ xn < 18446744073709551616) :
    Calls prog 44 #[rmv l A B.length c, .slice D bs.length d, .int .u64 xt, .int .u64 xa, .int .u64 xn] w (RmUo l A B (kAr B bs (lo xt) (lo xa) (lo xn)).1 (kAr B bs (lo xt) (lo xa) (lo xn)).2 w) := by
 have F := hid (((Fr.refl No w).alloc (.cells (q11x8 l A B c) 143)).alloc (.cells #[.int .i64 0, .int .i64 0, .bool false, .slice none 0 0] 143))
 have G := hid ((Blk.new w 143 (q11x8 l A B c)).alloc (.cells #[.int .i64 0, .int .i64 0, .bool false, .slice none 0 0] 143))
 have GR := hid (Blk.new1 w (.cells (q11x8 l A B c) 143) 143 #[.int .i64 0, .int .i64 0, .bool false, .slice none 0 0])
 have HT := hid (fun W => kCp xt W h1)
 have HA := hid (fun W => kCp xa W h2)
 have HN := hid (fun W => kCp xn W h3)
 have HI := hid hI
 have HD := hid hD
 have b1 := kCM xt
 have b2 := kCM xa
 have b3 := kCM xn
 generalize lo xt = t at *
 generalize lo xa = a at *
 generalize lo xn = n at *
 have HR1 := hid (fun W => kDo bs.length a n W hn2 b2 b3)
 have HR2 := hid (fun W => kDo B.length t n W om b1 b3)
 clear hI hD h1 h2 h3
 unfold rmv kAr
 by_cases e1 : a + n ≤ bs.length
 · rw [if_pos e1]
   rw [decide_eq_true e1] at HR1
   by_cases e2 : t + n ≤ B.length
   · rw [if_pos e2]
     rw [decide_eq_true e2] at HR2
     go_enter func44, ntmps44
     go_wp2
     generalize (w.alloc (.cells (q11x8 l A B c) 143)).alloc (.cells #[.int .i64 0, .int .i64 0, .bool false, .slice none 0 0] 143) = W at *
     have hc1 : w.heap.size + 1 < W.heap.size := GR.o.lt
     have HX : Hid (∀ X, Fr (One (w.heap.size + 1)) W X → Ce X w.heap.size 0 (.int .i64 l.min) ∧ Ce X w.heap.size 1 (.int .i64 l.max) ∧ Ce X w.heap.size 2 (.bool l.has) ∧ Ce X w.heap.size 3 (.slice A B.length c)) := fun X f => by
      exact yy36
     refine rwO (fun X => Ce X w.heap.size 0 (.int .i64 l.min) ∧ Ce X w.heap.size 1 (.int .i64 l.max) ∧ Ce X w.heap.size 2 (.bool l.has) ∧ Ce X w.heap.size 3 (.slice A B.length c)) [] [0, 1, 2, 4, 3, 5, 6, 7, 8, 9, 10, 11, 12, 14, 13, 15, 16, 17, 18] [3, 5, 6, 13, 15, 16] (HX.o _ (Fr.refl _ _).drew) ?_
     refine rC ?_
     refine wpO_eff rfl rfl fun K hK => sz ?_
     refine (HA.o _).mono ?_
     rintro e w' ⟨rfl, rfl⟩
     refine hK _ _ (fun _ => HX.o _ (Fr.refl _ _).drew) ?_
     clear hK K
     refine rC ?_
     refine wpO_eff rfl rfl fun K hK => sz ?_
     refine (HN.o _).mono ?_
     rintro e w' ⟨rfl, rfl⟩
     refine hK _ _ (fun _ => HX.o _ (Fr.refl _ _).drew) ?_
     clear hK K
     refine rC ?_
     refine wpO_eff rfl rfl fun K hK => sz ?_
     refine (HR1.o _).mono ?_
     rintro e w' ⟨rfl, rfl⟩
     refine hK _ _ (fun _ => HX.o _ (Fr.refl _ _).drew) ?_
     clear hK K
     refine rC ?_
     refine wpO_eff rfl rfl fun K hK => sz ?_
     refine (HT.o _).mono ?_
     rintro e w' ⟨rfl, rfl⟩
     refine hK _ _ (fun _ => HX.o _ (Fr.refl _ _).drew) ?_
     clear hK K
     refine rC ?_
     refine wpO_eff rfl rfl fun K hK => sz ?_
     refine (HN.o _).mono ?_
     rintro e w' ⟨rfl, rfl⟩
     refine hK _ _ (fun _ => HX.o _ (Fr.refl _ _).drew) ?_
     clear hK K
     refine rC ?_
     refine wpO_eff rfl rfl fun K hK => sz ?_
     refine (HR2.o _).mono ?_
     rintro e w' ⟨rfl, rfl⟩
     refine hK _ _ (fun _ => HX.o _ (Fr.refl _ _).drew) ?_
     clear hK K
     refine rC ?_
     refine wpO_nil ?_
     obtain ⟨D', d', hsl, hd1, hd2⟩ := kEd .i64 .i64 D bs.length d a n e1 HD.o.cap HD.o.spot
     have hw1 : IntKind.i64.wrap ((a : Int) + n) = a + n := by rw [IntKind.wrap_i64]; omega
     go_wp2_with fail
     refine rwO (fun X => Ce X w.heap.size 0 (.int .i64 l.min) ∧ Ce X w.heap.size 1 (.int .i64 l.max) ∧ Ce X w.heap.size 2 (.bool l.has) ∧ Ce X w.heap.size 3 (.slice A B.length c)) [] [0, 1, 2, 3, 4, 6, 7, 9, 11, 5, 8, 10, 12, 13, 14, 15, 16, 17, 18] [5, 8, 10, 12, 15, 17] (HX.o _ ((Fr.refl (One (w.heap.size + 1)) W).drew.drew)) ?_
     refine rC ?_
     refine wpO_eff rfl rfl fun K hK => sz ?_
     refine (HT.o _).mono ?_
     rintro e w' ⟨rfl, rfl⟩
     refine hK _ _ (fun _ => HX.o _ ((Fr.refl (One (w.heap.size + 1)) W).drew.drew)) ?_
     clear hK K
     refine rC ?_
     refine wpO_eff rfl rfl fun K hK => sz ?_
     refine (HA.o _).mono ?_
     rintro e w' ⟨rfl, rfl⟩
     refine hK _ _ (fun _ => HX.o _ ((Fr.refl (One (w.heap.size + 1)) W).drew.drew)) ?_
     clear hK K
     refine rC ?_
     refine wpO_eff rfl rfl fun K hK => sz ?_
     refine (HA.o _).mono ?_
     rintro e w' ⟨rfl, rfl⟩
     refine hK _ _ (fun _ => HX.o _ ((Fr.refl (One (w.heap.size + 1)) W).drew.drew)) ?_
     clear hK K
     refine rC ?_
     refine wpO_eff rfl rfl fun K hK => sz ?_
     refine (HN.o _).mono ?_
     rintro e w' ⟨rfl, rfl⟩
     refine hK _ _ (fun _ => HX.o _ ((Fr.refl (One (w.heap.size + 1)) W).drew.drew)) ?_
     clear hK K
     refine rC ?_
     refine wpO_eff rfl rfl fun K hK => sz ?_
     have FW := hid (F.o.drew.drew)
     have HI2 := hid (HI.o.fr FW.o)
     have hlen : ((bs.drop a).take n).length = n := by rw [List.length_take, List.length_drop]; omega
     have HW := kGW A D' c d' t B ((bs.drop a).take n) W.drew.drew HI2.o.rd HI2.o.nil (kHF (HD.o.fr FW.o).rd HD.o.nil e1 hd2) HI2.o.bts (HD.o.bts.sub a n) (by rw [hlen]; exact e2) HI2.o.cap hn HI2.o.spot
     rw [hlen] at HW
     refine HW.mono ?_
     clear HW
     rintro e w3 ⟨E, ec, rfl, hrow, f⟩
     have F3 := hid ((Fr.refl No W).drew.drew.trans f i3)
     have HR := hid hrow
     have GR3 := hid (GR.o.fr F3.o id)
     clear hrow f
     refine hK _ _ (fun _ => HX.o _ (F3.o.mono (fun _ _ h => h.elim))) ?_
     clear hK K
     refine rC ?_
     have q0 := GR3.o.frozen 0
     have q1 := GR3.o.frozen 1
     have q2 := GR3.o.frozen 2
     have q3 := GR3.o.frozen 3
     have z0 := GR3.o.cell 0
     have z1 := GR3.o.cell 1
     have z2 := GR3.o.cell 2
     have z3 := GR3.o.cell 3
     have FZ := hid ((((((Fr.refl (One (w.heap.size + 1)) w3).setCell ⟨w.heap.size + 1, 0, none⟩ (.int .i64 l.min) (fun _ => rfl)).setCell ⟨w.heap.size + 1, 1, none⟩ (.int .i64 l.max) (fun _ => rfl)).setCell ⟨w.heap.size + 1, 2, none⟩ (.bool l.has) (fun _ => rfl)).setCell ⟨w.heap.size + 1, 3, none⟩ (.slice E (splice B t ((bs.drop a).take n)).length ec) (fun _ => rfl)))
     refine wpO_eff rfl rfl fun K hK => sz ?_
     refine hK _ _ (fun _ => HX.o _ ((F3.o.mono (fun _ _ h => h.elim)).trans FZ.o i3)) ?_
     clear hK K
     refine rC ?_
     refine wpO_nil ?_
     go_wp2
     have FF := (F.o.trans F3.o i3).trans FZ.o (fun i hi h => by simp only [One] at h; omega)
     have hRm := kDV (HR.o.fr FZ.o (fun _ h => h.elim) (fun k hk h => by have h1 := (HR.o.own hk).1; have h2 : W.drew.drew.heap.size = W.heap.size := rfl; simp only [One] at h; omega))
     exact bodyPost_ret (v := .tuple #[.agg #[.int .i64 l.min, .int .i64 l.max, .bool l.has, .slice E (splice B t ((bs.drop a).take n)).length ec], .int .i64 0]) (by simp [results, Tryz.results44, go_sem, z0, z1, z2, z3]) rfl ⟨E, ec, rfl, hRm.jn (kBK HR.o).2.1, (.inr (fun q o he => by subst he; have h1 := (HR.o.own (g := q) (by simp [Value.ownBlock])).1; exact Nat.le_trans F.o.size h1)), FF⟩
   rw [if_neg e2]
   rw [decide_eq_false e2] at HR2
   go_enter func44, ntmps44
   go_wp2
   generalize (w.alloc (.cells (q11x8 l A B c) 143)).alloc (.cells #[.int .i64 0, .int .i64 0, .bool false, .slice none 0 0] 143) = W at *
   have hc1 : w.heap.size + 1 < W.heap.size := GR.o.lt
   have HX : Hid (∀ X, Fr (One (w.heap.size + 1)) W X → Ce X w.heap.size 0 (.int .i64 l.min) ∧ Ce X w.heap.size 1 (.int .i64 l.max) ∧ Ce X w.heap.size 2 (.bool l.has) ∧ Ce X w.heap.size 3 (.slice A B.length c)) := fun X f => by
    exact yy36
   refine rwO (fun X => Ce X w.heap.size 0 (.int .i64 l.min) ∧ Ce X w.heap.size 1 (.int .i64 l.max) ∧ Ce X w.heap.size 2 (.bool l.has) ∧ Ce X w.heap.size 3 (.slice A B.length c)) [] [0, 1, 2, 4, 3, 5, 6, 7, 8, 9, 10, 11, 12, 14, 13, 15, 16, 17, 18] [3, 5, 6, 13, 15, 16] (HX.o _ (Fr.refl _ _).drew) ?_
   refine rC ?_
   refine wpO_eff rfl rfl fun K hK => sz ?_
   refine (HA.o _).mono ?_
   rintro e w' ⟨rfl, rfl⟩
   refine hK _ _ (fun _ => HX.o _ (Fr.refl _ _).drew) ?_
   clear hK K
   refine rC ?_
   refine wpO_eff rfl rfl fun K hK => sz ?_
   refine (HN.o _).mono ?_
   rintro e w' ⟨rfl, rfl⟩
   refine hK _ _ (fun _ => HX.o _ (Fr.refl _ _).drew) ?_
   clear hK K
   refine rC ?_
   refine wpO_eff rfl rfl fun K hK => sz ?_
   refine (HR1.o _).mono ?_
   rintro e w' ⟨rfl, rfl⟩
   refine hK _ _ (fun _ => HX.o _ (Fr.refl _ _).drew) ?_
   clear hK K
   refine rC ?_
   refine wpO_eff rfl rfl fun K hK => sz ?_
   refine (HT.o _).mono ?_
   rintro e w' ⟨rfl, rfl⟩
   refine hK _ _ (fun _ => HX.o _ (Fr.refl _ _).drew) ?_
   clear hK K
   refine rC ?_
   refine wpO_eff rfl rfl fun K hK => sz ?_
   refine (HN.o _).mono ?_
   rintro e w' ⟨rfl, rfl⟩
   refine hK _ _ (fun _ => HX.o _ (Fr.refl _ _).drew) ?_
   clear hK K
   refine rC ?_
   refine wpO_eff rfl rfl fun K hK => sz ?_
   refine (HR2.o _).mono ?_
   rintro e w' ⟨rfl, rfl⟩
   refine hK _ _ (fun _ => HX.o _ (Fr.refl _ _).drew) ?_
   clear hK K
   exact yy4
 rw [if_neg e1]
 rw [decide_eq_false e1] at HR1
 go_enter func44, ntmps44
 go_wp2
 generalize (w.alloc (.cells (q11x8 l A B c) 143)).alloc (.cells #[.int .i64 0, .int .i64 0, .bool false, .slice none 0 0] 143) = W at *
 have hc1 : w.heap.size + 1 < W.heap.size := GR.o.lt
 have HX : Hid (∀ X, Fr (One (w.heap.size + 1)) W X → Ce X w.heap.size 0 (.int .i64 l.min) ∧ Ce X w.heap.size 1 (.int .i64 l.max) ∧ Ce X w.heap.size 2 (.bool l.has) ∧ Ce X w.heap.size 3 (.slice A B.length c)) := fun X f => by
  exact yy36
 refine rwO (fun X => Ce X w.heap.size 0 (.int .i64 l.min) ∧ Ce X w.heap.size 1 (.int .i64 l.max) ∧ Ce X w.heap.size 2 (.bool l.has) ∧ Ce X w.heap.size 3 (.slice A B.length c)) [] [0, 1, 2, 4, 3, 5, 6, 7, 8, 9, 10, 11, 12, 14, 13, 15, 16, 17, 18] [3, 5, 6, 13, 15, 16] (HX.o _ (Fr.refl _ _).drew) ?_
 refine rC ?_
 refine wpO_eff rfl rfl fun K hK => sz ?_
 refine (HA.o _).mono ?_
 rintro e w' ⟨rfl, rfl⟩
 refine hK _ _ (fun _ => HX.o _ (Fr.refl _ _).drew) ?_
 clear hK K
 refine rC ?_
 refine wpO_eff rfl rfl fun K hK => sz ?_
 refine (HN.o _).mono ?_
 rintro e w' ⟨rfl, rfl⟩
 refine hK _ _ (fun _ => HX.o _ (Fr.refl _ _).drew) ?_
 clear hK K
 refine rC ?_
 refine wpO_eff rfl rfl fun K hK => sz ?_
 refine (HR1.o _).mono ?_
 rintro e w' ⟨rfl, rfl⟩
 refine hK _ _ (fun _ => HX.o _ (Fr.refl _ _).drew) ?_
 clear hK K
 refine rC ?_
 refine wpO_skipE rfl rfl (HX.o _ (Fr.refl _ _).drew) ?_
 simp only [zA, zC, Act.put]
 refine rC ?_
 refine wpO_skipE rfl rfl (HX.o _ (Fr.refl _ _).drew) ?_
 simp only [zA, zC, Act.put]
 refine rC ?_
 refine wpO_skipE rfl rfl (HX.o _ (Fr.refl _ _).drew) ?_
 simp only [zA, zC, Act.put]
 exact yy4
end Go.Proofs.YtdckghiipijobaaGreat
