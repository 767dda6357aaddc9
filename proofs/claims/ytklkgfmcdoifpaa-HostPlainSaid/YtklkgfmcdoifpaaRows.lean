/-
  No cell of these rows narrows 'for every input' (looked for: loops, veiled, ifaces, maps, wideKeys, modest, calm, conditions, laid).
  DERIVED. THE GIVEN ROWS OF THIS SEAT. 5 by the template 'for every input the law returns true; each argument reads behind the call as it read before'; 0 by the template 'total and deterministic' (their statements: YtklkgfmcdoifpaaTotals.lean).
  GIVEN WITH THE SEED: the statements are not yours to turn. If you find one false, say at which input.
  Laid BY PROGRAM, IN A SANDBOX (cutbox-rows.mjs): the forced cells as the released guide's own fill.sh prints them over the translation 7e73645463738467… (all of the seat's roots in one cut). By AI agents, Wed Nov 11 2026. No macro, syntax, notation, axiom, sorry.
-/
import Derived.Test.YtklkgfmcdoifpaaChecked
import GoSem.Claim
import GoSem.ClaimJoined
import GoSem.ClaimMapViews
import Derived.JoinedTies
import Derived.KernelRfl
namespace Go.Proofs.Ytklkgfmcdoifpaa
/- THE CELL 'sum', in the pinned program and in every row, IS THE sha256 OF THE DUMP (.gsa) THAT YtklkgfmcdoifpaaProg.lean LOADS. Nothing in Lean hashes anything: it is a label: what it is worth is what the hold of that sum in a sandbox is worth. -/
noncomputable def Try.pinned : Pinned := { name := "ytklkgfmcdoifpaa", sum := "7e736454637384670f4f6ec0cb0bd72d2920a8ac95f5fea2b2f9309c6ebb77f0", checked := Try.checked }
namespace Rows
def none {H : Type} : Left H := { results := [], args := [] }

/-- 'millwrightlaw30.HostRights': WHATEVER THE INPUT: true; the input reads as it did. -/
def hostRightsSpec : ChangeSpec := { name := "hostRights", fn := fun _ => fun
  | [d] => { results := [.lit (.bool true)], args := [d] }
  | _ => none }
def hostRightsRow : OpenClaim := { program := "ytklkgfmcdoifpaa", sum := "7e736454637384670f4f6ec0cb0bd72d2920a8ac95f5fea2b2f9309c6ebb77f0", func := "millwright/millwrightlaw30.HostRights", spec := "hostRights", unfollowed := true, recurses := true, apart := false }
def HostRightsSaid : Prop := hostRightsRow.holds Try.pinned (OpenSpec.ofChange hostRightsSpec)

/-- ITS FALSE NEIGHBOUR: 'it returns false'. Refute it at one input. -/
def hostRightsWrong : ChangeSpec := { name := "hostRights", fn := fun _ => fun
  | [d] => { results := [.lit (.bool false)], args := [d] }
  | _ => none }
def HostRightsWrongFalsely : Prop := hostRightsRow.holds Try.pinned (OpenSpec.ofChange hostRightsWrong)

/-- 'millwrightlaw30.HostActs': WHATEVER THE INPUT: true; the input reads as it did. -/
def hostActsSpec : ChangeSpec := { name := "hostActs", fn := fun _ => fun
  | [d1, d2, d3, d4] => { results := [.lit (.bool true)], args := [d1, d2, d3, d4] }
  | _ => none }
def hostActsRow : OpenClaim := { program := "ytklkgfmcdoifpaa", sum := "7e736454637384670f4f6ec0cb0bd72d2920a8ac95f5fea2b2f9309c6ebb77f0", func := "millwright/millwrightlaw30.HostActs", spec := "hostActs", unfollowed := true, recurses := true, apart := false }
def HostActsSaid : Prop := hostActsRow.holds Try.pinned (OpenSpec.ofChange hostActsSpec)

/-- ITS FALSE NEIGHBOUR: 'it returns false'. Refute it at one input. -/
def hostActsWrong : ChangeSpec := { name := "hostActs", fn := fun _ => fun
  | [d1, d2, d3, d4] => { results := [.lit (.bool false)], args := [d1, d2, d3, d4] }
  | _ => none }
def HostActsWrongFalsely : Prop := hostActsRow.holds Try.pinned (OpenSpec.ofChange hostActsWrong)

/-- 'millwrightlaw30.HostFinds': WHATEVER THE INPUT: true; the input reads as it did. -/
def hostFindsSpec : ChangeSpec := { name := "hostFinds", fn := fun _ => fun
  | [d1, d2, d3] => { results := [.lit (.bool true)], args := [d1, d2, d3] }
  | _ => none }
def hostFindsRow : OpenClaim := { program := "ytklkgfmcdoifpaa", sum := "7e736454637384670f4f6ec0cb0bd72d2920a8ac95f5fea2b2f9309c6ebb77f0", func := "millwright/millwrightlaw30.HostFinds", spec := "hostFinds", unfollowed := true, recurses := true, apart := false }
def HostFindsSaid : Prop := hostFindsRow.holds Try.pinned (OpenSpec.ofChange hostFindsSpec)

/-- ITS FALSE NEIGHBOUR: 'it returns false'. Refute it at one input. -/
def hostFindsWrong : ChangeSpec := { name := "hostFinds", fn := fun _ => fun
  | [d1, d2, d3] => { results := [.lit (.bool false)], args := [d1, d2, d3] }
  | _ => none }
def HostFindsWrongFalsely : Prop := hostFindsRow.holds Try.pinned (OpenSpec.ofChange hostFindsWrong)

/-- 'millwrightlaw30.HostRound': WHATEVER THE INPUT: true; the input reads as it did. -/
def hostRoundSpec : ChangeSpec := { name := "hostRound", fn := fun _ => fun
  | [d1, d2] => { results := [.lit (.bool true)], args := [d1, d2] }
  | _ => none }
def hostRoundRow : OpenClaim := { program := "ytklkgfmcdoifpaa", sum := "7e736454637384670f4f6ec0cb0bd72d2920a8ac95f5fea2b2f9309c6ebb77f0", func := "millwright/millwrightlaw30.HostRound", spec := "hostRound", unfollowed := true, recurses := true, apart := false }
def HostRoundSaid : Prop := hostRoundRow.holds Try.pinned (OpenSpec.ofChange hostRoundSpec)

/-- ITS FALSE NEIGHBOUR: 'it returns false'. Refute it at one input. -/
def hostRoundWrong : ChangeSpec := { name := "hostRound", fn := fun _ => fun
  | [d1, d2] => { results := [.lit (.bool false)], args := [d1, d2] }
  | _ => none }
def HostRoundWrongFalsely : Prop := hostRoundRow.holds Try.pinned (OpenSpec.ofChange hostRoundWrong)

/-- 'millwrightlaw30.HostPlain': WHATEVER THE INPUT: true; the input reads as it did. -/
def hostPlainSpec : ChangeSpec := { name := "hostPlain", fn := fun _ => fun
  | [d] => { results := [.lit (.bool true)], args := [d] }
  | _ => none }
def hostPlainRow : OpenClaim := { program := "ytklkgfmcdoifpaa", sum := "7e736454637384670f4f6ec0cb0bd72d2920a8ac95f5fea2b2f9309c6ebb77f0", func := "millwright/millwrightlaw30.HostPlain", spec := "hostPlain", unfollowed := true, recurses := true, apart := false }
def HostPlainSaid : Prop := hostPlainRow.holds Try.pinned (OpenSpec.ofChange hostPlainSpec)

/-- ITS FALSE NEIGHBOUR: 'it returns false'. Refute it at one input. -/
def hostPlainWrong : ChangeSpec := { name := "hostPlain", fn := fun _ => fun
  | [d] => { results := [.lit (.bool false)], args := [d] }
  | _ => none }
def HostPlainWrongFalsely : Prop := hostPlainRow.holds Try.pinned (OpenSpec.ofChange hostPlainWrong)

/- THE SECOND FORM. 'bulk': how many values and letters a reading holds, each counted each time it is reached (what is shared counts as often as it is met; a slice's spare places count too). A statement '..UptoSaid' is the law's where the arguments, and the package variables that the reading takes, are together of bulk at most 1048576: NARROWER than '..Said'. Prove '..Said' where nothing that the law and all that it calls make is longer than what came in: it says more and counts as full. Else prove '..UptoSaid'. A law counts once. -/
mutual
def uptoBulk {H : Type} : DataW H → Nat
  | .lit (.string bytes) => bytes.length + 1
  | .lit _ => 1
  | .nil => 1
  | .ptr d => uptoBulk d + 1
  | .slice elems spare => uptoBulkAll elems + uptoBulkAll spare + 1
  | .agg parts => uptoBulkAll parts + 1
  | .iface _ d => uptoBulk d + 1
  | .map entries => uptoBulkEntries entries + 1
  | .held _ => 1
def uptoBulkAll {H : Type} : List (DataW H) → Nat
  | [] => 0
  | d :: r => uptoBulk d + uptoBulkAll r
def uptoBulkEntries {H : Type} : List (Lit × DataW H) → Nat
  | [] => 0
  | x :: r => uptoBulkEntry x + uptoBulkEntries r
def uptoBulkEntry {H : Type} : Lit × DataW H → Nat
  | (.string bytes, d) => bytes.length + uptoBulk d + 1
  | (_, d) => uptoBulk d + 1
 end
def uptoSmall : (H : Type) → List (DataW H) → Bool := fun _ ds => decide (uptoBulkAll ds ≤ 1048576)
def OpenSpec.upto (s : _root_.Go.ChangeSpec) : _root_.Go.OpenSpec := { _root_.Go.OpenSpec.ofChange s with cond := some uptoSmall }

/-- 'millwrightlaw30.HostRights', WHERE WHAT IT READS IS OF BULK AT MOST 1048576: true; the input reads as it did. -/
def hostRightsUptoRow : OpenClaim := { program := "ytklkgfmcdoifpaa", sum := "7e736454637384670f4f6ec0cb0bd72d2920a8ac95f5fea2b2f9309c6ebb77f0", func := "millwright/millwrightlaw30.HostRights", spec := "hostRights", unfollowed := true, recurses := true, apart := false, narrowed := true }
def HostRightsUptoSaid : Prop := hostRightsUptoRow.holds Try.pinned (OpenSpec.upto hostRightsSpec)

/-- 'millwrightlaw30.HostActs', WHERE WHAT IT READS IS OF BULK AT MOST 1048576: true; the input reads as it did. -/
def hostActsUptoRow : OpenClaim := { program := "ytklkgfmcdoifpaa", sum := "7e736454637384670f4f6ec0cb0bd72d2920a8ac95f5fea2b2f9309c6ebb77f0", func := "millwright/millwrightlaw30.HostActs", spec := "hostActs", unfollowed := true, recurses := true, apart := false, narrowed := true }
def HostActsUptoSaid : Prop := hostActsUptoRow.holds Try.pinned (OpenSpec.upto hostActsSpec)

/-- 'millwrightlaw30.HostFinds', WHERE WHAT IT READS IS OF BULK AT MOST 1048576: true; the input reads as it did. -/
def hostFindsUptoRow : OpenClaim := { program := "ytklkgfmcdoifpaa", sum := "7e736454637384670f4f6ec0cb0bd72d2920a8ac95f5fea2b2f9309c6ebb77f0", func := "millwright/millwrightlaw30.HostFinds", spec := "hostFinds", unfollowed := true, recurses := true, apart := false, narrowed := true }
def HostFindsUptoSaid : Prop := hostFindsUptoRow.holds Try.pinned (OpenSpec.upto hostFindsSpec)

/-- 'millwrightlaw30.HostRound', WHERE WHAT IT READS IS OF BULK AT MOST 1048576: true; the input reads as it did. -/
def hostRoundUptoRow : OpenClaim := { program := "ytklkgfmcdoifpaa", sum := "7e736454637384670f4f6ec0cb0bd72d2920a8ac95f5fea2b2f9309c6ebb77f0", func := "millwright/millwrightlaw30.HostRound", spec := "hostRound", unfollowed := true, recurses := true, apart := false, narrowed := true }
def HostRoundUptoSaid : Prop := hostRoundUptoRow.holds Try.pinned (OpenSpec.upto hostRoundSpec)

/-- 'millwrightlaw30.HostPlain', WHERE WHAT IT READS IS OF BULK AT MOST 1048576: true; the input reads as it did. -/
def hostPlainUptoRow : OpenClaim := { program := "ytklkgfmcdoifpaa", sum := "7e736454637384670f4f6ec0cb0bd72d2920a8ac95f5fea2b2f9309c6ebb77f0", func := "millwright/millwrightlaw30.HostPlain", spec := "hostPlain", unfollowed := true, recurses := true, apart := false, narrowed := true }
def HostPlainUptoSaid : Prop := hostPlainUptoRow.holds Try.pinned (OpenSpec.upto hostPlainSpec)

end Rows
end Go.Proofs.Ytklkgfmcdoifpaa
