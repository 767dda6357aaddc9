/-
  No cell of these rows narrows 'for every input' (looked for: loops, veiled, ifaces, maps, wideKeys, modest, calm, conditions, laid).
  DERIVED. THE GIVEN ROWS OF THIS SEAT. 3 by the template 'for every input the law returns true; each argument reads behind the call as it read before'; 0 by the template 'total and deterministic' (their statements: YtiafkakkbbclhaaTotals.lean).
  GIVEN WITH THE SEED: the statements are not yours to turn. If you find one false, say at which input.
  Laid BY PROGRAM, IN A SANDBOX (cutbox-rows.mjs): the forced cells as the released guide's own fill.sh prints them over the translation ac96b4ba9b532659… (all of the seat's roots in one cut). By AI agents, Wed Nov 11 2026. No macro, syntax, notation, axiom, sorry.
-/
import Derived.Test.YtiafkakkbbclhaaChecked
import GoSem.Claim
import GoSem.ClaimJoined
import GoSem.ClaimMapViews
import Derived.JoinedTies
import Derived.KernelRfl
namespace Go.Proofs.Ytiafkakkbbclhaa
/- THE CELL 'sum', in the pinned program and in every row, IS THE sha256 OF THE DUMP (.gsa) THAT YtiafkakkbbclhaaProg.lean LOADS. Nothing in Lean hashes anything: it is a label: what it is worth is what the hold of that sum in a sandbox is worth. -/
noncomputable def Try.pinned : Pinned := { name := "ytiafkakkbbclhaa", sum := "ac96b4ba9b53265903c7fa2ee364eb69274259b78229cde0dcf8d83a6f2ec886", checked := Try.checked }
namespace Rows
def none {H : Type} : Left H := { results := [], args := [] }

/-- 'millwrightlaw46.SplitTells': WHATEVER THE INPUT: true; the input reads as it did. -/
def splitTellsSpec : ChangeSpec := { name := "splitTells", fn := fun _ => fun
  | [d] => { results := [.lit (.bool true)], args := [d] }
  | _ => none }
def splitTellsRow : OpenClaim := { program := "ytiafkakkbbclhaa", sum := "ac96b4ba9b53265903c7fa2ee364eb69274259b78229cde0dcf8d83a6f2ec886", func := "millwright/millwrightlaw46.SplitTells", spec := "splitTells", unfollowed := true, recurses := true, apart := false }
def SplitTellsSaid : Prop := splitTellsRow.holds Try.pinned (OpenSpec.ofChange splitTellsSpec)

/-- ITS FALSE NEIGHBOUR: 'it returns false'. Refute it at one input. -/
def splitTellsWrong : ChangeSpec := { name := "splitTells", fn := fun _ => fun
  | [d] => { results := [.lit (.bool false)], args := [d] }
  | _ => none }
def SplitTellsWrongFalsely : Prop := splitTellsRow.holds Try.pinned (OpenSpec.ofChange splitTellsWrong)

/-- 'millwrightlaw46.SplitOnce': WHATEVER THE INPUT: true; the input reads as it did. -/
def splitOnceSpec : ChangeSpec := { name := "splitOnce", fn := fun _ => fun
  | [d] => { results := [.lit (.bool true)], args := [d] }
  | _ => none }
def splitOnceRow : OpenClaim := { program := "ytiafkakkbbclhaa", sum := "ac96b4ba9b53265903c7fa2ee364eb69274259b78229cde0dcf8d83a6f2ec886", func := "millwright/millwrightlaw46.SplitOnce", spec := "splitOnce", unfollowed := true, recurses := true, apart := false }
def SplitOnceSaid : Prop := splitOnceRow.holds Try.pinned (OpenSpec.ofChange splitOnceSpec)

/-- ITS FALSE NEIGHBOUR: 'it returns false'. Refute it at one input. -/
def splitOnceWrong : ChangeSpec := { name := "splitOnce", fn := fun _ => fun
  | [d] => { results := [.lit (.bool false)], args := [d] }
  | _ => none }
def SplitOnceWrongFalsely : Prop := splitOnceRow.holds Try.pinned (OpenSpec.ofChange splitOnceWrong)

/-- 'millwrightlaw46.SplitOwn': WHATEVER THE INPUT: true; the input reads as it did. -/
def splitOwnSpec : ChangeSpec := { name := "splitOwn", fn := fun _ => fun
  | [d] => { results := [.lit (.bool true)], args := [d] }
  | _ => none }
def splitOwnRow : OpenClaim := { program := "ytiafkakkbbclhaa", sum := "ac96b4ba9b53265903c7fa2ee364eb69274259b78229cde0dcf8d83a6f2ec886", func := "millwright/millwrightlaw46.SplitOwn", spec := "splitOwn", unfollowed := true, recurses := true, apart := false }
def SplitOwnSaid : Prop := splitOwnRow.holds Try.pinned (OpenSpec.ofChange splitOwnSpec)

/-- ITS FALSE NEIGHBOUR: 'it returns false'. Refute it at one input. -/
def splitOwnWrong : ChangeSpec := { name := "splitOwn", fn := fun _ => fun
  | [d] => { results := [.lit (.bool false)], args := [d] }
  | _ => none }
def SplitOwnWrongFalsely : Prop := splitOwnRow.holds Try.pinned (OpenSpec.ofChange splitOwnWrong)

/- THE SECOND FORM. 'bulk': how many values and letters a reading holds, each counted each time it is reached (what is shared counts as often as it is met; a slice's spare places count too). A statement '..UptoSaid' is the law's where the arguments, and the package variables that the reading takes, are together of bulk at most 1048576: NARROWER than '..Said'. Prove '..Said' where nothing that the law and all that it calls make is longer than what came in: it says more and counts as full. Else prove '..UptoSaid'. A law counts once. -/
mutual
def uptoBulk {H : Type} : DataW H → Nat
  | .lit (.string bytes) => bytes.length + 1
  | .lit _ => 1
  | .nil => 1
  | .ptr d => uptoBulk d + 1
  | .slice elems spare => uptoBulkAll elems + uptoBulkAll spare + 1
  | .agg parts => uptoBulkAll parts + 1
  | .iface _ d => uptoBulk d + 1
  | .map entries => uptoBulkEntries entries + 1
  | .held _ => 1
def uptoBulkAll {H : Type} : List (DataW H) → Nat
  | [] => 0
  | d :: r => uptoBulk d + uptoBulkAll r
def uptoBulkEntries {H : Type} : List (Lit × DataW H) → Nat
  | [] => 0
  | x :: r => uptoBulkEntry x + uptoBulkEntries r
def uptoBulkEntry {H : Type} : Lit × DataW H → Nat
  | (.string bytes, d) => bytes.length + uptoBulk d + 1
  | (_, d) => uptoBulk d + 1
 end
def uptoSmall : (H : Type) → List (DataW H) → Bool := fun _ ds => decide (uptoBulkAll ds ≤ 1048576)
def OpenSpec.upto (s : _root_.Go.ChangeSpec) : _root_.Go.OpenSpec := { _root_.Go.OpenSpec.ofChange s with cond := some uptoSmall }

/-- 'millwrightlaw46.SplitTells', WHERE WHAT IT READS IS OF BULK AT MOST 1048576: true; the input reads as it did. -/
def splitTellsUptoRow : OpenClaim := { program := "ytiafkakkbbclhaa", sum := "ac96b4ba9b53265903c7fa2ee364eb69274259b78229cde0dcf8d83a6f2ec886", func := "millwright/millwrightlaw46.SplitTells", spec := "splitTells", unfollowed := true, recurses := true, apart := false, narrowed := true }
def SplitTellsUptoSaid : Prop := splitTellsUptoRow.holds Try.pinned (OpenSpec.upto splitTellsSpec)

/-- 'millwrightlaw46.SplitOnce', WHERE WHAT IT READS IS OF BULK AT MOST 1048576: true; the input reads as it did. -/
def splitOnceUptoRow : OpenClaim := { program := "ytiafkakkbbclhaa", sum := "ac96b4ba9b53265903c7fa2ee364eb69274259b78229cde0dcf8d83a6f2ec886", func := "millwright/millwrightlaw46.SplitOnce", spec := "splitOnce", unfollowed := true, recurses := true, apart := false, narrowed := true }
def SplitOnceUptoSaid : Prop := splitOnceUptoRow.holds Try.pinned (OpenSpec.upto splitOnceSpec)

/-- 'millwrightlaw46.SplitOwn', WHERE WHAT IT READS IS OF BULK AT MOST 1048576: true; the input reads as it did. -/
def splitOwnUptoRow : OpenClaim := { program := "ytiafkakkbbclhaa", sum := "ac96b4ba9b53265903c7fa2ee364eb69274259b78229cde0dcf8d83a6f2ec886", func := "millwright/millwrightlaw46.SplitOwn", spec := "splitOwn", unfollowed := true, recurses := true, apart := false, narrowed := true }
def SplitOwnUptoSaid : Prop := splitOwnUptoRow.holds Try.pinned (OpenSpec.upto splitOwnSpec)

end Rows
end Go.Proofs.Ytiafkakkbbclhaa
