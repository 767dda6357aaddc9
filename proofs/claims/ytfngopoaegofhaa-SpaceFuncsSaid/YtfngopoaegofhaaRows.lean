/-
  No cell of these rows narrows 'for every input' (looked for: loops, veiled, ifaces, maps, wideKeys, modest, calm, conditions, laid).
  DERIVED. THE GIVEN ROWS OF THIS SEAT. 6 by the template 'for every input the law returns true; each argument reads behind the call as it read before'; 0 by the template 'total and deterministic' (their statements: YtfngopoaegofhaaTotals.lean).
  GIVEN WITH THE SEED: the statements are not yours to turn. If you find one false, say at which input.
  Laid BY PROGRAM, IN A SANDBOX (cutbox-rows.mjs): the forced cells as the released guide's own fill.sh prints them over the translation e9c5db0d49963253… (all of the seat's roots in one cut). By AI agents, Wed Nov 11 2026. No macro, syntax, notation, axiom, sorry.
-/
import Derived.Test.YtfngopoaegofhaaChecked
import GoSem.Claim
import GoSem.ClaimJoined
import GoSem.ClaimMapViews
import Derived.JoinedTies
import Derived.KernelRfl
namespace Go.Proofs.Ytfngopoaegofhaa
/- THE CELL 'sum', in the pinned program and in every row, IS THE sha256 OF THE DUMP (.gsa) THAT YtfngopoaegofhaaProg.lean LOADS. Nothing in Lean hashes anything: it is a label: what it is worth is what the hold of that sum in a sandbox is worth. -/
noncomputable def Try.pinned : Pinned := { name := "ytfngopoaegofhaa", sum := "e9c5db0d49963253d61f50ca4dab33cb8cc35a7403f716a54a5d09f7c7508fdc", checked := Try.checked }
namespace Rows
def none {H : Type} : Left H := { results := [], args := [] }

/-- 'millwrightlaw08.SpaceFuncs': WHATEVER THE INPUT: true; the input reads as it did. -/
def spaceFuncsSpec : ChangeSpec := { name := "spaceFuncs", fn := fun _ => fun
  | [d1, d2] => { results := [.lit (.bool true)], args := [d1, d2] }
  | _ => none }
def spaceFuncsRow : OpenClaim := { program := "ytfngopoaegofhaa", sum := "e9c5db0d49963253d61f50ca4dab33cb8cc35a7403f716a54a5d09f7c7508fdc", func := "millwright/millwrightlaw08.SpaceFuncs", spec := "spaceFuncs", unfollowed := true, recurses := true, apart := false }
def SpaceFuncsSaid : Prop := spaceFuncsRow.holds Try.pinned (OpenSpec.ofChange spaceFuncsSpec)

/-- ITS FALSE NEIGHBOUR: 'it returns false'. Refute it at one input. -/
def spaceFuncsWrong : ChangeSpec := { name := "spaceFuncs", fn := fun _ => fun
  | [d1, d2] => { results := [.lit (.bool false)], args := [d1, d2] }
  | _ => none }
def SpaceFuncsWrongFalsely : Prop := spaceFuncsRow.holds Try.pinned (OpenSpec.ofChange spaceFuncsWrong)

/-- 'millwrightlaw08.SpaceDeclared': WHATEVER THE INPUT: true; the input reads as it did. -/
def spaceDeclaredSpec : ChangeSpec := { name := "spaceDeclared", fn := fun _ => fun
  | [d1, d2] => { results := [.lit (.bool true)], args := [d1, d2] }
  | _ => none }
def spaceDeclaredRow : OpenClaim := { program := "ytfngopoaegofhaa", sum := "e9c5db0d49963253d61f50ca4dab33cb8cc35a7403f716a54a5d09f7c7508fdc", func := "millwright/millwrightlaw08.SpaceDeclared", spec := "spaceDeclared", unfollowed := true, recurses := true, apart := false }
def SpaceDeclaredSaid : Prop := spaceDeclaredRow.holds Try.pinned (OpenSpec.ofChange spaceDeclaredSpec)

/-- ITS FALSE NEIGHBOUR: 'it returns false'. Refute it at one input. -/
def spaceDeclaredWrong : ChangeSpec := { name := "spaceDeclared", fn := fun _ => fun
  | [d1, d2] => { results := [.lit (.bool false)], args := [d1, d2] }
  | _ => none }
def SpaceDeclaredWrongFalsely : Prop := spaceDeclaredRow.holds Try.pinned (OpenSpec.ofChange spaceDeclaredWrong)

/-- 'millwrightlaw08.SpaceBlocks': WHATEVER THE INPUT: true; the input reads as it did. -/
def spaceBlocksSpec : ChangeSpec := { name := "spaceBlocks", fn := fun _ => fun
  | [d1, d2] => { results := [.lit (.bool true)], args := [d1, d2] }
  | _ => none }
def spaceBlocksRow : OpenClaim := { program := "ytfngopoaegofhaa", sum := "e9c5db0d49963253d61f50ca4dab33cb8cc35a7403f716a54a5d09f7c7508fdc", func := "millwright/millwrightlaw08.SpaceBlocks", spec := "spaceBlocks", unfollowed := true, recurses := true, apart := false }
def SpaceBlocksSaid : Prop := spaceBlocksRow.holds Try.pinned (OpenSpec.ofChange spaceBlocksSpec)

/-- ITS FALSE NEIGHBOUR: 'it returns false'. Refute it at one input. -/
def spaceBlocksWrong : ChangeSpec := { name := "spaceBlocks", fn := fun _ => fun
  | [d1, d2] => { results := [.lit (.bool false)], args := [d1, d2] }
  | _ => none }
def SpaceBlocksWrongFalsely : Prop := spaceBlocksRow.holds Try.pinned (OpenSpec.ofChange spaceBlocksWrong)

/-- 'millwrightlaw08.SpaceFirst': WHATEVER THE INPUT: true; the input reads as it did. -/
def spaceFirstSpec : ChangeSpec := { name := "spaceFirst", fn := fun _ => fun
  | [d1, d2, d3] => { results := [.lit (.bool true)], args := [d1, d2, d3] }
  | _ => none }
def spaceFirstRow : OpenClaim := { program := "ytfngopoaegofhaa", sum := "e9c5db0d49963253d61f50ca4dab33cb8cc35a7403f716a54a5d09f7c7508fdc", func := "millwright/millwrightlaw08.SpaceFirst", spec := "spaceFirst", unfollowed := true, recurses := true, apart := false }
def SpaceFirstSaid : Prop := spaceFirstRow.holds Try.pinned (OpenSpec.ofChange spaceFirstSpec)

/-- ITS FALSE NEIGHBOUR: 'it returns false'. Refute it at one input. -/
def spaceFirstWrong : ChangeSpec := { name := "spaceFirst", fn := fun _ => fun
  | [d1, d2, d3] => { results := [.lit (.bool false)], args := [d1, d2, d3] }
  | _ => none }
def SpaceFirstWrongFalsely : Prop := spaceFirstRow.holds Try.pinned (OpenSpec.ofChange spaceFirstWrong)

/-- 'millwrightlaw08.SpaceNobody': WHATEVER THE INPUT: true; the input reads as it did. -/
def spaceNobodySpec : ChangeSpec := { name := "spaceNobody", fn := fun _ => fun
  | [d1, d2, d3] => { results := [.lit (.bool true)], args := [d1, d2, d3] }
  | _ => none }
def spaceNobodyRow : OpenClaim := { program := "ytfngopoaegofhaa", sum := "e9c5db0d49963253d61f50ca4dab33cb8cc35a7403f716a54a5d09f7c7508fdc", func := "millwright/millwrightlaw08.SpaceNobody", spec := "spaceNobody", unfollowed := true, recurses := true, apart := false }
def SpaceNobodySaid : Prop := spaceNobodyRow.holds Try.pinned (OpenSpec.ofChange spaceNobodySpec)

/-- ITS FALSE NEIGHBOUR: 'it returns false'. Refute it at one input. -/
def spaceNobodyWrong : ChangeSpec := { name := "spaceNobody", fn := fun _ => fun
  | [d1, d2, d3] => { results := [.lit (.bool false)], args := [d1, d2, d3] }
  | _ => none }
def SpaceNobodyWrongFalsely : Prop := spaceNobodyRow.holds Try.pinned (OpenSpec.ofChange spaceNobodyWrong)

/-- 'millwrightlaw08.SpaceThings': WHATEVER THE INPUT: true; the input reads as it did. -/
def spaceThingsSpec : ChangeSpec := { name := "spaceThings", fn := fun _ => fun
  | [d1, d2, d3] => { results := [.lit (.bool true)], args := [d1, d2, d3] }
  | _ => none }
def spaceThingsRow : OpenClaim := { program := "ytfngopoaegofhaa", sum := "e9c5db0d49963253d61f50ca4dab33cb8cc35a7403f716a54a5d09f7c7508fdc", func := "millwright/millwrightlaw08.SpaceThings", spec := "spaceThings", unfollowed := true, recurses := true, apart := false }
def SpaceThingsSaid : Prop := spaceThingsRow.holds Try.pinned (OpenSpec.ofChange spaceThingsSpec)

/-- ITS FALSE NEIGHBOUR: 'it returns false'. Refute it at one input. -/
def spaceThingsWrong : ChangeSpec := { name := "spaceThings", fn := fun _ => fun
  | [d1, d2, d3] => { results := [.lit (.bool false)], args := [d1, d2, d3] }
  | _ => none }
def SpaceThingsWrongFalsely : Prop := spaceThingsRow.holds Try.pinned (OpenSpec.ofChange spaceThingsWrong)

/- THE SECOND FORM. 'bulk': how many values and letters a reading holds, each counted each time it is reached (what is shared counts as often as it is met; a slice's spare places count too). A statement '..UptoSaid' is the law's where the arguments, and the package variables that the reading takes, are together of bulk at most 1048576: NARROWER than '..Said'. Prove '..Said' where nothing that the law and all that it calls make is longer than what came in: it says more and counts as full. Else prove '..UptoSaid'. A law counts once. -/
mutual
def uptoBulk {H : Type} : DataW H → Nat
  | .lit (.string bytes) => bytes.length + 1
  | .lit _ => 1
  | .nil => 1
  | .ptr d => uptoBulk d + 1
  | .slice elems spare => uptoBulkAll elems + uptoBulkAll spare + 1
  | .agg parts => uptoBulkAll parts + 1
  | .iface _ d => uptoBulk d + 1
  | .map entries => uptoBulkEntries entries + 1
  | .held _ => 1
def uptoBulkAll {H : Type} : List (DataW H) → Nat
  | [] => 0
  | d :: r => uptoBulk d + uptoBulkAll r
def uptoBulkEntries {H : Type} : List (Lit × DataW H) → Nat
  | [] => 0
  | x :: r => uptoBulkEntry x + uptoBulkEntries r
def uptoBulkEntry {H : Type} : Lit × DataW H → Nat
  | (.string bytes, d) => bytes.length + uptoBulk d + 1
  | (_, d) => uptoBulk d + 1
 end
def uptoSmall : (H : Type) → List (DataW H) → Bool := fun _ ds => decide (uptoBulkAll ds ≤ 1048576)
def OpenSpec.upto (s : _root_.Go.ChangeSpec) : _root_.Go.OpenSpec := { _root_.Go.OpenSpec.ofChange s with cond := some uptoSmall }

/-- 'millwrightlaw08.SpaceFuncs', WHERE WHAT IT READS IS OF BULK AT MOST 1048576: true; the input reads as it did. -/
def spaceFuncsUptoRow : OpenClaim := { program := "ytfngopoaegofhaa", sum := "e9c5db0d49963253d61f50ca4dab33cb8cc35a7403f716a54a5d09f7c7508fdc", func := "millwright/millwrightlaw08.SpaceFuncs", spec := "spaceFuncs", unfollowed := true, recurses := true, apart := false, narrowed := true }
def SpaceFuncsUptoSaid : Prop := spaceFuncsUptoRow.holds Try.pinned (OpenSpec.upto spaceFuncsSpec)

/-- 'millwrightlaw08.SpaceDeclared', WHERE WHAT IT READS IS OF BULK AT MOST 1048576: true; the input reads as it did. -/
def spaceDeclaredUptoRow : OpenClaim := { program := "ytfngopoaegofhaa", sum := "e9c5db0d49963253d61f50ca4dab33cb8cc35a7403f716a54a5d09f7c7508fdc", func := "millwright/millwrightlaw08.SpaceDeclared", spec := "spaceDeclared", unfollowed := true, recurses := true, apart := false, narrowed := true }
def SpaceDeclaredUptoSaid : Prop := spaceDeclaredUptoRow.holds Try.pinned (OpenSpec.upto spaceDeclaredSpec)

/-- 'millwrightlaw08.SpaceBlocks', WHERE WHAT IT READS IS OF BULK AT MOST 1048576: true; the input reads as it did. -/
def spaceBlocksUptoRow : OpenClaim := { program := "ytfngopoaegofhaa", sum := "e9c5db0d49963253d61f50ca4dab33cb8cc35a7403f716a54a5d09f7c7508fdc", func := "millwright/millwrightlaw08.SpaceBlocks", spec := "spaceBlocks", unfollowed := true, recurses := true, apart := false, narrowed := true }
def SpaceBlocksUptoSaid : Prop := spaceBlocksUptoRow.holds Try.pinned (OpenSpec.upto spaceBlocksSpec)

/-- 'millwrightlaw08.SpaceFirst', WHERE WHAT IT READS IS OF BULK AT MOST 1048576: true; the input reads as it did. -/
def spaceFirstUptoRow : OpenClaim := { program := "ytfngopoaegofhaa", sum := "e9c5db0d49963253d61f50ca4dab33cb8cc35a7403f716a54a5d09f7c7508fdc", func := "millwright/millwrightlaw08.SpaceFirst", spec := "spaceFirst", unfollowed := true, recurses := true, apart := false, narrowed := true }
def SpaceFirstUptoSaid : Prop := spaceFirstUptoRow.holds Try.pinned (OpenSpec.upto spaceFirstSpec)

/-- 'millwrightlaw08.SpaceNobody', WHERE WHAT IT READS IS OF BULK AT MOST 1048576: true; the input reads as it did. -/
def spaceNobodyUptoRow : OpenClaim := { program := "ytfngopoaegofhaa", sum := "e9c5db0d49963253d61f50ca4dab33cb8cc35a7403f716a54a5d09f7c7508fdc", func := "millwright/millwrightlaw08.SpaceNobody", spec := "spaceNobody", unfollowed := true, recurses := true, apart := false, narrowed := true }
def SpaceNobodyUptoSaid : Prop := spaceNobodyUptoRow.holds Try.pinned (OpenSpec.upto spaceNobodySpec)

/-- 'millwrightlaw08.SpaceThings', WHERE WHAT IT READS IS OF BULK AT MOST 1048576: true; the input reads as it did. -/
def spaceThingsUptoRow : OpenClaim := { program := "ytfngopoaegofhaa", sum := "e9c5db0d49963253d61f50ca4dab33cb8cc35a7403f716a54a5d09f7c7508fdc", func := "millwright/millwrightlaw08.SpaceThings", spec := "spaceThings", unfollowed := true, recurses := true, apart := false, narrowed := true }
def SpaceThingsUptoSaid : Prop := spaceThingsUptoRow.holds Try.pinned (OpenSpec.upto spaceThingsSpec)

end Rows
end Go.Proofs.Ytfngopoaegofhaa
