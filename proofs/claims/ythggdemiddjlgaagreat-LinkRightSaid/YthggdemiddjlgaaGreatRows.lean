/-
  No cell of these rows narrows 'for every input' (looked for: loops, veiled, ifaces, maps, wideKeys, modest, calm, conditions, laid).
  DERIVED. THE GIVEN ROWS OF THIS SEAT. 5 by the template 'for every input the law returns true; each argument reads behind the call as it read before'; 0 by the template 'total and deterministic' (their statements: YthggdemiddjlgaaGreatTotals.lean).
  GIVEN WITH THE SEED: the statements are not yours to turn. If you find one false, say at which input.
  Laid BY PROGRAM, IN A SANDBOX (cutbox-rows.mjs): the forced cells as the released guide's own fill.sh prints them over the translation 2578990ed13c1b38… (all of the seat's roots in one cut). By AI agents, Wed Nov 11 2026. No macro, syntax, notation, axiom, sorry.
-/
import Derived.Test.YthggdemiddjlgaaGreatChecked
import GoSem.Claim
import GoSem.ClaimJoined
import GoSem.ClaimMapViews
import Derived.JoinedTies
import Derived.KernelRfl
namespace Go.Proofs.YthggdemiddjlgaaGreat
/- THE CELL 'sum', in the pinned program and in every row, IS THE sha256 OF THE DUMP (.gsa) THAT YthggdemiddjlgaaGreatProg.lean LOADS. Nothing in Lean hashes anything: it is a label: what it is worth is what the hold of that sum in a sandbox is worth. -/
noncomputable def Tryz.pinned : Pinned := { name := "ythggdemiddjlgaagreat", sum := "2578990ed13c1b388d69d74969a392201456dcc165878115f48948c98a48d504", checked := Tryz.checked }
namespace Rows
def none {H : Type} : Left H := { results := [], args := [] }

/-- 'millwrightlaw32.LinkChecks': WHATEVER THE INPUT: true; the input reads as it did. -/
def linkChecksSpec : ChangeSpec := { name := "linkChecks", fn := fun _ => fun
  | [d1, d2, d3, d4] => { results := [.lit (.bool true)], args := [d1, d2, d3, d4] }
  | _ => none }
def linkChecksRow : OpenClaim := { program := "ythggdemiddjlgaagreat", sum := "2578990ed13c1b388d69d74969a392201456dcc165878115f48948c98a48d504", func := "millwright/millwrightlaw32.LinkChecks", spec := "linkChecks", unfollowed := true, recurses := true, apart := false }
def LinkChecksSaid : Prop := linkChecksRow.holds Tryz.pinned (OpenSpec.ofChange linkChecksSpec)

/-- ITS FALSE NEIGHBOUR: 'it returns false'. Refute it at one input. -/
def linkChecksWrong : ChangeSpec := { name := "linkChecks", fn := fun _ => fun
  | [d1, d2, d3, d4] => { results := [.lit (.bool false)], args := [d1, d2, d3, d4] }
  | _ => none }
def LinkChecksWrongFalsely : Prop := linkChecksRow.holds Tryz.pinned (OpenSpec.ofChange linkChecksWrong)

/-- 'millwrightlaw32.LinkResolves': WHATEVER THE INPUT: true; the input reads as it did. -/
def linkResolvesSpec : ChangeSpec := { name := "linkResolves", fn := fun _ => fun
  | [d1, d2, d3] => { results := [.lit (.bool true)], args := [d1, d2, d3] }
  | _ => none }
def linkResolvesRow : OpenClaim := { program := "ythggdemiddjlgaagreat", sum := "2578990ed13c1b388d69d74969a392201456dcc165878115f48948c98a48d504", func := "millwright/millwrightlaw32.LinkResolves", spec := "linkResolves", unfollowed := true, recurses := true, apart := false }
def LinkResolvesSaid : Prop := linkResolvesRow.holds Tryz.pinned (OpenSpec.ofChange linkResolvesSpec)

/-- ITS FALSE NEIGHBOUR: 'it returns false'. Refute it at one input. -/
def linkResolvesWrong : ChangeSpec := { name := "linkResolves", fn := fun _ => fun
  | [d1, d2, d3] => { results := [.lit (.bool false)], args := [d1, d2, d3] }
  | _ => none }
def LinkResolvesWrongFalsely : Prop := linkResolvesRow.holds Tryz.pinned (OpenSpec.ofChange linkResolvesWrong)

/-- 'millwrightlaw32.LinkRight': WHATEVER THE INPUT: true; the input reads as it did. -/
def linkRightSpec : ChangeSpec := { name := "linkRight", fn := fun _ => fun
  | [d1, d2, d3, d4] => { results := [.lit (.bool true)], args := [d1, d2, d3, d4] }
  | _ => none }
def linkRightRow : OpenClaim := { program := "ythggdemiddjlgaagreat", sum := "2578990ed13c1b388d69d74969a392201456dcc165878115f48948c98a48d504", func := "millwright/millwrightlaw32.LinkRight", spec := "linkRight", unfollowed := true, recurses := true, apart := false }
def LinkRightSaid : Prop := linkRightRow.holds Tryz.pinned (OpenSpec.ofChange linkRightSpec)

/-- ITS FALSE NEIGHBOUR: 'it returns false'. Refute it at one input. -/
def linkRightWrong : ChangeSpec := { name := "linkRight", fn := fun _ => fun
  | [d1, d2, d3, d4] => { results := [.lit (.bool false)], args := [d1, d2, d3, d4] }
  | _ => none }
def LinkRightWrongFalsely : Prop := linkRightRow.holds Tryz.pinned (OpenSpec.ofChange linkRightWrong)

/-- 'millwrightlaw32.LinkExact': WHATEVER THE INPUT: true; the input reads as it did. -/
def linkExactSpec : ChangeSpec := { name := "linkExact", fn := fun _ => fun
  | [d1, d2] => { results := [.lit (.bool true)], args := [d1, d2] }
  | _ => none }
def linkExactRow : OpenClaim := { program := "ythggdemiddjlgaagreat", sum := "2578990ed13c1b388d69d74969a392201456dcc165878115f48948c98a48d504", func := "millwright/millwrightlaw32.LinkExact", spec := "linkExact", unfollowed := true, recurses := true, apart := false }
def LinkExactSaid : Prop := linkExactRow.holds Tryz.pinned (OpenSpec.ofChange linkExactSpec)

/-- ITS FALSE NEIGHBOUR: 'it returns false'. Refute it at one input. -/
def linkExactWrong : ChangeSpec := { name := "linkExact", fn := fun _ => fun
  | [d1, d2] => { results := [.lit (.bool false)], args := [d1, d2] }
  | _ => none }
def LinkExactWrongFalsely : Prop := linkExactRow.holds Tryz.pinned (OpenSpec.ofChange linkExactWrong)

/-- 'millwrightlaw32.LinkGives': WHATEVER THE INPUT: true; the input reads as it did. -/
def linkGivesSpec : ChangeSpec := { name := "linkGives", fn := fun _ => fun
  | [d1, d2, d3] => { results := [.lit (.bool true)], args := [d1, d2, d3] }
  | _ => none }
def linkGivesRow : OpenClaim := { program := "ythggdemiddjlgaagreat", sum := "2578990ed13c1b388d69d74969a392201456dcc165878115f48948c98a48d504", func := "millwright/millwrightlaw32.LinkGives", spec := "linkGives", unfollowed := true, recurses := true, apart := false }
def LinkGivesSaid : Prop := linkGivesRow.holds Tryz.pinned (OpenSpec.ofChange linkGivesSpec)

/-- ITS FALSE NEIGHBOUR: 'it returns false'. Refute it at one input. -/
def linkGivesWrong : ChangeSpec := { name := "linkGives", fn := fun _ => fun
  | [d1, d2, d3] => { results := [.lit (.bool false)], args := [d1, d2, d3] }
  | _ => none }
def LinkGivesWrongFalsely : Prop := linkGivesRow.holds Tryz.pinned (OpenSpec.ofChange linkGivesWrong)

/- THE SECOND FORM. 'bulk': how many values and letters a reading holds, each counted each time it is reached (what is shared counts as often as it is met; a slice's spare places count too). A statement '..UptoSaid' is the law's where the arguments, and the package variables that the reading takes, are together of bulk at most 1048576: NARROWER than '..Said'. Prove '..Said' where nothing that the law and all that it calls make is longer than what came in: it says more and counts as full. Else prove '..UptoSaid'. A law counts once. -/
mutual
def uptoBulk {H : Type} : DataW H → Nat
  | .lit (.string bytes) => bytes.length + 1
  | .lit _ => 1
  | .nil => 1
  | .ptr d => uptoBulk d + 1
  | .slice elems spare => uptoBulkAll elems + uptoBulkAll spare + 1
  | .agg parts => uptoBulkAll parts + 1
  | .iface _ d => uptoBulk d + 1
  | .map entries => uptoBulkEntries entries + 1
  | .held _ => 1
def uptoBulkAll {H : Type} : List (DataW H) → Nat
  | [] => 0
  | d :: r => uptoBulk d + uptoBulkAll r
def uptoBulkEntries {H : Type} : List (Lit × DataW H) → Nat
  | [] => 0
  | x :: r => uptoBulkEntry x + uptoBulkEntries r
def uptoBulkEntry {H : Type} : Lit × DataW H → Nat
  | (.string bytes, d) => bytes.length + uptoBulk d + 1
  | (_, d) => uptoBulk d + 1
 end
def uptoSmall : (H : Type) → List (DataW H) → Bool := fun _ ds => decide (uptoBulkAll ds ≤ 1048576)
def OpenSpec.upto (s : _root_.Go.ChangeSpec) : _root_.Go.OpenSpec := { _root_.Go.OpenSpec.ofChange s with cond := some uptoSmall }

/-- 'millwrightlaw32.LinkChecks', WHERE WHAT IT READS IS OF BULK AT MOST 1048576: true; the input reads as it did. -/
def linkChecksUptoRow : OpenClaim := { program := "ythggdemiddjlgaagreat", sum := "2578990ed13c1b388d69d74969a392201456dcc165878115f48948c98a48d504", func := "millwright/millwrightlaw32.LinkChecks", spec := "linkChecks", unfollowed := true, recurses := true, apart := false, narrowed := true }
def LinkChecksUptoSaid : Prop := linkChecksUptoRow.holds Tryz.pinned (OpenSpec.upto linkChecksSpec)

/-- 'millwrightlaw32.LinkResolves', WHERE WHAT IT READS IS OF BULK AT MOST 1048576: true; the input reads as it did. -/
def linkResolvesUptoRow : OpenClaim := { program := "ythggdemiddjlgaagreat", sum := "2578990ed13c1b388d69d74969a392201456dcc165878115f48948c98a48d504", func := "millwright/millwrightlaw32.LinkResolves", spec := "linkResolves", unfollowed := true, recurses := true, apart := false, narrowed := true }
def LinkResolvesUptoSaid : Prop := linkResolvesUptoRow.holds Tryz.pinned (OpenSpec.upto linkResolvesSpec)

/-- 'millwrightlaw32.LinkRight', WHERE WHAT IT READS IS OF BULK AT MOST 1048576: true; the input reads as it did. -/
def linkRightUptoRow : OpenClaim := { program := "ythggdemiddjlgaagreat", sum := "2578990ed13c1b388d69d74969a392201456dcc165878115f48948c98a48d504", func := "millwright/millwrightlaw32.LinkRight", spec := "linkRight", unfollowed := true, recurses := true, apart := false, narrowed := true }
def LinkRightUptoSaid : Prop := linkRightUptoRow.holds Tryz.pinned (OpenSpec.upto linkRightSpec)

/-- 'millwrightlaw32.LinkExact', WHERE WHAT IT READS IS OF BULK AT MOST 1048576: true; the input reads as it did. -/
def linkExactUptoRow : OpenClaim := { program := "ythggdemiddjlgaagreat", sum := "2578990ed13c1b388d69d74969a392201456dcc165878115f48948c98a48d504", func := "millwright/millwrightlaw32.LinkExact", spec := "linkExact", unfollowed := true, recurses := true, apart := false, narrowed := true }
def LinkExactUptoSaid : Prop := linkExactUptoRow.holds Tryz.pinned (OpenSpec.upto linkExactSpec)

/-- 'millwrightlaw32.LinkGives', WHERE WHAT IT READS IS OF BULK AT MOST 1048576: true; the input reads as it did. -/
def linkGivesUptoRow : OpenClaim := { program := "ythggdemiddjlgaagreat", sum := "2578990ed13c1b388d69d74969a392201456dcc165878115f48948c98a48d504", func := "millwright/millwrightlaw32.LinkGives", spec := "linkGives", unfollowed := true, recurses := true, apart := false, narrowed := true }
def LinkGivesUptoSaid : Prop := linkGivesUptoRow.holds Tryz.pinned (OpenSpec.upto linkGivesSpec)

end Rows
end Go.Proofs.YthggdemiddjlgaaGreat
