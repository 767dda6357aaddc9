/-
  No cell of these rows narrows 'for every input' (looked for: loops, veiled, ifaces, maps, wideKeys, modest, calm, conditions, laid).
  DERIVED. THE GIVEN ROWS OF THIS SEAT. 5 by the template 'for every input the law returns true; each argument reads behind the call as it read before'; 0 by the template 'total and deterministic' (their statements: YtndhbamfgihncaaTotals.lean).
  GIVEN WITH THE SEED: the statements are not yours to turn. If you find one false, say at which input.
  Laid BY PROGRAM, IN A SANDBOX (cutbox-rows.mjs): the forced cells as the released guide's own fill.sh prints them over the translation 01241e3b475249e3… (all of the seat's roots in one cut). By AI agents, Wed Nov 11 2026. No macro, syntax, notation, axiom, sorry.
-/
import Derived.Test.YtndhbamfgihncaaChecked
import GoSem.Claim
import GoSem.ClaimJoined
import GoSem.ClaimMapViews
import Derived.JoinedTies
import Derived.KernelRfl
namespace Go.Proofs.Ytndhbamfgihncaa
/- THE CELL 'sum', in the pinned program and in every row, IS THE sha256 OF THE DUMP (.gsa) THAT YtndhbamfgihncaaProg.lean LOADS. Nothing in Lean hashes anything: it is a label: what it is worth is what the hold of that sum in a sandbox is worth. -/
noncomputable def Try.pinned : Pinned := { name := "ytndhbamfgihncaa", sum := "01241e3b475249e31a6fe77265f48e9f8a6d70d3890751eb9e20f1836e90c9ff", checked := Try.checked }
namespace Rows
def none {H : Type} : Left H := { results := [], args := [] }

/-- 'millwrightlaw29.TablesMove': WHATEVER THE INPUT: true; the input reads as it did. -/
def tablesMoveSpec : ChangeSpec := { name := "tablesMove", fn := fun _ => fun
  | [d1, d2, d3, d4] => { results := [.lit (.bool true)], args := [d1, d2, d3, d4] }
  | _ => none }
def tablesMoveRow : OpenClaim := { program := "ytndhbamfgihncaa", sum := "01241e3b475249e31a6fe77265f48e9f8a6d70d3890751eb9e20f1836e90c9ff", func := "millwright/millwrightlaw29.TablesMove", spec := "tablesMove", apart := false }
def TablesMoveSaid : Prop := tablesMoveRow.holds Try.pinned (OpenSpec.ofChange tablesMoveSpec)

/-- ITS FALSE NEIGHBOUR: 'it returns false'. Refute it at one input. -/
def tablesMoveWrong : ChangeSpec := { name := "tablesMove", fn := fun _ => fun
  | [d1, d2, d3, d4] => { results := [.lit (.bool false)], args := [d1, d2, d3, d4] }
  | _ => none }
def TablesMoveWrongFalsely : Prop := tablesMoveRow.holds Try.pinned (OpenSpec.ofChange tablesMoveWrong)

/-- 'millwrightlaw29.TablesLimits': WHATEVER THE INPUT: true; the input reads as it did. -/
def tablesLimitsSpec : ChangeSpec := { name := "tablesLimits", fn := fun _ => fun
  | [d1, d2] => { results := [.lit (.bool true)], args := [d1, d2] }
  | _ => none }
def tablesLimitsRow : OpenClaim := { program := "ytndhbamfgihncaa", sum := "01241e3b475249e31a6fe77265f48e9f8a6d70d3890751eb9e20f1836e90c9ff", func := "millwright/millwrightlaw29.TablesLimits", spec := "tablesLimits", apart := false }
def TablesLimitsSaid : Prop := tablesLimitsRow.holds Try.pinned (OpenSpec.ofChange tablesLimitsSpec)

/-- ITS FALSE NEIGHBOUR: 'it returns false'. Refute it at one input. -/
def tablesLimitsWrong : ChangeSpec := { name := "tablesLimits", fn := fun _ => fun
  | [d1, d2] => { results := [.lit (.bool false)], args := [d1, d2] }
  | _ => none }
def TablesLimitsWrongFalsely : Prop := tablesLimitsRow.holds Try.pinned (OpenSpec.ofChange tablesLimitsWrong)

/-- 'millwrightlaw29.TablesKeep': WHATEVER THE INPUT: true; the input reads as it did. -/
def tablesKeepSpec : ChangeSpec := { name := "tablesKeep", fn := fun _ => fun
  | [d1, d2, d3, d4] => { results := [.lit (.bool true)], args := [d1, d2, d3, d4] }
  | _ => none }
def tablesKeepRow : OpenClaim := { program := "ytndhbamfgihncaa", sum := "01241e3b475249e31a6fe77265f48e9f8a6d70d3890751eb9e20f1836e90c9ff", func := "millwright/millwrightlaw29.TablesKeep", spec := "tablesKeep", apart := false }
def TablesKeepSaid : Prop := tablesKeepRow.holds Try.pinned (OpenSpec.ofChange tablesKeepSpec)

/-- ITS FALSE NEIGHBOUR: 'it returns false'. Refute it at one input. -/
def tablesKeepWrong : ChangeSpec := { name := "tablesKeep", fn := fun _ => fun
  | [d1, d2, d3, d4] => { results := [.lit (.bool false)], args := [d1, d2, d3, d4] }
  | _ => none }
def TablesKeepWrongFalsely : Prop := tablesKeepRow.holds Try.pinned (OpenSpec.ofChange tablesKeepWrong)

/-- 'millwrightlaw29.TablesRun': WHATEVER THE INPUT: true; the input reads as it did. -/
def tablesRunSpec : ChangeSpec := { name := "tablesRun", fn := fun _ => fun
  | [d1, d2, d3] => { results := [.lit (.bool true)], args := [d1, d2, d3] }
  | _ => none }
def tablesRunRow : OpenClaim := { program := "ytndhbamfgihncaa", sum := "01241e3b475249e31a6fe77265f48e9f8a6d70d3890751eb9e20f1836e90c9ff", func := "millwright/millwrightlaw29.TablesRun", spec := "tablesRun", apart := false }
def TablesRunSaid : Prop := tablesRunRow.holds Try.pinned (OpenSpec.ofChange tablesRunSpec)

/-- ITS FALSE NEIGHBOUR: 'it returns false'. Refute it at one input. -/
def tablesRunWrong : ChangeSpec := { name := "tablesRun", fn := fun _ => fun
  | [d1, d2, d3] => { results := [.lit (.bool false)], args := [d1, d2, d3] }
  | _ => none }
def TablesRunWrongFalsely : Prop := tablesRunRow.holds Try.pinned (OpenSpec.ofChange tablesRunWrong)

/-- 'millwrightlaw29.TablesNobody': WHATEVER THE INPUT: true; the input reads as it did. -/
def tablesNobodySpec : ChangeSpec := { name := "tablesNobody", fn := fun _ => fun
  | [d] => { results := [.lit (.bool true)], args := [d] }
  | _ => none }
def tablesNobodyRow : OpenClaim := { program := "ytndhbamfgihncaa", sum := "01241e3b475249e31a6fe77265f48e9f8a6d70d3890751eb9e20f1836e90c9ff", func := "millwright/millwrightlaw29.TablesNobody", spec := "tablesNobody", apart := false }
def TablesNobodySaid : Prop := tablesNobodyRow.holds Try.pinned (OpenSpec.ofChange tablesNobodySpec)

/-- ITS FALSE NEIGHBOUR: 'it returns false'. Refute it at one input. -/
def tablesNobodyWrong : ChangeSpec := { name := "tablesNobody", fn := fun _ => fun
  | [d] => { results := [.lit (.bool false)], args := [d] }
  | _ => none }
def TablesNobodyWrongFalsely : Prop := tablesNobodyRow.holds Try.pinned (OpenSpec.ofChange tablesNobodyWrong)

/- THE SECOND FORM. 'bulk': how many values and letters a reading holds, each counted each time it is reached (what is shared counts as often as it is met; a slice's spare places count too). A statement '..UptoSaid' is the law's where the arguments, and the package variables that the reading takes, are together of bulk at most 1048576: NARROWER than '..Said'. Prove '..Said' where nothing that the law and all that it calls make is longer than what came in: it says more and counts as full. Else prove '..UptoSaid'. A law counts once. -/
mutual
def uptoBulk {H : Type} : DataW H → Nat
  | .lit (.string bytes) => bytes.length + 1
  | .lit _ => 1
  | .nil => 1
  | .ptr d => uptoBulk d + 1
  | .slice elems spare => uptoBulkAll elems + uptoBulkAll spare + 1
  | .agg parts => uptoBulkAll parts + 1
  | .iface _ d => uptoBulk d + 1
  | .map entries => uptoBulkEntries entries + 1
  | .held _ => 1
def uptoBulkAll {H : Type} : List (DataW H) → Nat
  | [] => 0
  | d :: r => uptoBulk d + uptoBulkAll r
def uptoBulkEntries {H : Type} : List (Lit × DataW H) → Nat
  | [] => 0
  | x :: r => uptoBulkEntry x + uptoBulkEntries r
def uptoBulkEntry {H : Type} : Lit × DataW H → Nat
  | (.string bytes, d) => bytes.length + uptoBulk d + 1
  | (_, d) => uptoBulk d + 1
 end
def uptoSmall : (H : Type) → List (DataW H) → Bool := fun _ ds => decide (uptoBulkAll ds ≤ 1048576)
def OpenSpec.upto (s : _root_.Go.ChangeSpec) : _root_.Go.OpenSpec := { _root_.Go.OpenSpec.ofChange s with cond := some uptoSmall }

/-- 'millwrightlaw29.TablesMove', WHERE WHAT IT READS IS OF BULK AT MOST 1048576: true; the input reads as it did. -/
def tablesMoveUptoRow : OpenClaim := { program := "ytndhbamfgihncaa", sum := "01241e3b475249e31a6fe77265f48e9f8a6d70d3890751eb9e20f1836e90c9ff", func := "millwright/millwrightlaw29.TablesMove", spec := "tablesMove", apart := false, narrowed := true }
def TablesMoveUptoSaid : Prop := tablesMoveUptoRow.holds Try.pinned (OpenSpec.upto tablesMoveSpec)

/-- 'millwrightlaw29.TablesLimits', WHERE WHAT IT READS IS OF BULK AT MOST 1048576: true; the input reads as it did. -/
def tablesLimitsUptoRow : OpenClaim := { program := "ytndhbamfgihncaa", sum := "01241e3b475249e31a6fe77265f48e9f8a6d70d3890751eb9e20f1836e90c9ff", func := "millwright/millwrightlaw29.TablesLimits", spec := "tablesLimits", apart := false, narrowed := true }
def TablesLimitsUptoSaid : Prop := tablesLimitsUptoRow.holds Try.pinned (OpenSpec.upto tablesLimitsSpec)

/-- 'millwrightlaw29.TablesKeep', WHERE WHAT IT READS IS OF BULK AT MOST 1048576: true; the input reads as it did. -/
def tablesKeepUptoRow : OpenClaim := { program := "ytndhbamfgihncaa", sum := "01241e3b475249e31a6fe77265f48e9f8a6d70d3890751eb9e20f1836e90c9ff", func := "millwright/millwrightlaw29.TablesKeep", spec := "tablesKeep", apart := false, narrowed := true }
def TablesKeepUptoSaid : Prop := tablesKeepUptoRow.holds Try.pinned (OpenSpec.upto tablesKeepSpec)

/-- 'millwrightlaw29.TablesRun', WHERE WHAT IT READS IS OF BULK AT MOST 1048576: true; the input reads as it did. -/
def tablesRunUptoRow : OpenClaim := { program := "ytndhbamfgihncaa", sum := "01241e3b475249e31a6fe77265f48e9f8a6d70d3890751eb9e20f1836e90c9ff", func := "millwright/millwrightlaw29.TablesRun", spec := "tablesRun", apart := false, narrowed := true }
def TablesRunUptoSaid : Prop := tablesRunUptoRow.holds Try.pinned (OpenSpec.upto tablesRunSpec)

/-- 'millwrightlaw29.TablesNobody', WHERE WHAT IT READS IS OF BULK AT MOST 1048576: true; the input reads as it did. -/
def tablesNobodyUptoRow : OpenClaim := { program := "ytndhbamfgihncaa", sum := "01241e3b475249e31a6fe77265f48e9f8a6d70d3890751eb9e20f1836e90c9ff", func := "millwright/millwrightlaw29.TablesNobody", spec := "tablesNobody", apart := false, narrowed := true }
def TablesNobodyUptoSaid : Prop := tablesNobodyUptoRow.holds Try.pinned (OpenSpec.upto tablesNobodySpec)

end Rows
end Go.Proofs.Ytndhbamfgihncaa
