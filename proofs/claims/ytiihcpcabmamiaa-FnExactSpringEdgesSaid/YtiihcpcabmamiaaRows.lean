/-
  No cell of these rows narrows 'for every input' (looked for: loops, veiled, ifaces, maps, wideKeys, modest, calm, conditions, laid).
  DERIVED. THE GIVEN ROWS OF THIS SEAT. 8 by the template 'for every input the law returns true; each argument reads behind the call as it read before'; 0 by the template 'total and deterministic' (their statements: YtiihcpcabmamiaaTotals.lean).
  GIVEN WITH THE SEED: the statements are not yours to turn. If you find one false, say at which input.
  Laid BY PROGRAM, IN A SANDBOX (cutbox-rows.mjs): the forced cells as the released guide's own fill.sh prints them over the translation 115fd8c04c7cb148… (all of the seat's roots in one cut). By AI agents, Wed Nov 11 2026. No macro, syntax, notation, axiom, sorry.
-/
import Derived.Test.YtiihcpcabmamiaaChecked
import GoSem.Claim
import GoSem.ClaimJoined
import GoSem.ClaimMapViews
import Derived.JoinedTies
import Derived.KernelRfl
namespace Go.Proofs.Ytiihcpcabmamiaa
/- THE CELL 'sum', in the pinned program and in every row, IS THE sha256 OF THE DUMP (.gsa) THAT YtiihcpcabmamiaaProg.lean LOADS. Nothing in Lean hashes anything: it is a label: what it is worth is what the hold of that sum in a sandbox is worth. -/
noncomputable def Try.pinned : Pinned := { name := "ytiihcpcabmamiaa", sum := "115fd8c04c7cb148b11c32792a7bba3d5993a34b487637fe5a940ea94cbc26c6", checked := Try.checked }
namespace Rows
def none {H : Type} : Left H := { results := [], args := [] }

/-- 'laws.FnExactHingesOf': WHATEVER THE INPUT: true; the input reads as it did. -/
def fnExactHingesOfSpec : ChangeSpec := { name := "fnExactHingesOf", fn := fun _ => fun
  | [d] => { results := [.lit (.bool true)], args := [d] }
  | _ => none }
def fnExactHingesOfRow : OpenClaim := { program := "ytiihcpcabmamiaa", sum := "115fd8c04c7cb148b11c32792a7bba3d5993a34b487637fe5a940ea94cbc26c6", func := "loop.example/g01222/laws.FnExactHingesOf", spec := "fnExactHingesOf", unfollowed := true, recurses := true, plainKeys := false, apart := false }
def FnExactHingesOfSaid : Prop := fnExactHingesOfRow.holds Try.pinned (OpenSpec.ofChange fnExactHingesOfSpec)

/-- ITS FALSE NEIGHBOUR: 'it returns false'. Refute it at one input. -/
def fnExactHingesOfWrong : ChangeSpec := { name := "fnExactHingesOf", fn := fun _ => fun
  | [d] => { results := [.lit (.bool false)], args := [d] }
  | _ => none }
def FnExactHingesOfWrongFalsely : Prop := fnExactHingesOfRow.holds Try.pinned (OpenSpec.ofChange fnExactHingesOfWrong)

/-- 'laws.FnExactBallMesh': WHATEVER THE INPUT: true; the input reads as it did. -/
def fnExactBallMeshSpec : ChangeSpec := { name := "fnExactBallMesh", fn := fun _ => fun
  | [d1, d2] => { results := [.lit (.bool true)], args := [d1, d2] }
  | _ => none }
def fnExactBallMeshRow : OpenClaim := { program := "ytiihcpcabmamiaa", sum := "115fd8c04c7cb148b11c32792a7bba3d5993a34b487637fe5a940ea94cbc26c6", func := "loop.example/g01222/laws.FnExactBallMesh", spec := "fnExactBallMesh", inPlace := ["math.sqrt"], unfollowed := true, recurses := true, plainKeys := false, apart := false }
def FnExactBallMeshSaid : Prop := fnExactBallMeshRow.holds Try.pinned (OpenSpec.ofChange fnExactBallMeshSpec)

/-- ITS FALSE NEIGHBOUR: 'it returns false'. Refute it at one input. -/
def fnExactBallMeshWrong : ChangeSpec := { name := "fnExactBallMesh", fn := fun _ => fun
  | [d1, d2] => { results := [.lit (.bool false)], args := [d1, d2] }
  | _ => none }
def FnExactBallMeshWrongFalsely : Prop := fnExactBallMeshRow.holds Try.pinned (OpenSpec.ofChange fnExactBallMeshWrong)

/-- 'laws.FnExactLongsOf': WHATEVER THE INPUT: true; the input reads as it did. -/
def fnExactLongsOfSpec : ChangeSpec := { name := "fnExactLongsOf", fn := fun _ => fun
  | [d] => { results := [.lit (.bool true)], args := [d] }
  | _ => none }
def fnExactLongsOfRow : OpenClaim := { program := "ytiihcpcabmamiaa", sum := "115fd8c04c7cb148b11c32792a7bba3d5993a34b487637fe5a940ea94cbc26c6", func := "loop.example/g01222/laws.FnExactLongsOf", spec := "fnExactLongsOf", inPlace := ["math.sqrt"], unfollowed := true, recurses := true, plainKeys := false, apart := false }
def FnExactLongsOfSaid : Prop := fnExactLongsOfRow.holds Try.pinned (OpenSpec.ofChange fnExactLongsOfSpec)

/-- ITS FALSE NEIGHBOUR: 'it returns false'. Refute it at one input. -/
def fnExactLongsOfWrong : ChangeSpec := { name := "fnExactLongsOf", fn := fun _ => fun
  | [d] => { results := [.lit (.bool false)], args := [d] }
  | _ => none }
def FnExactLongsOfWrongFalsely : Prop := fnExactLongsOfRow.holds Try.pinned (OpenSpec.ofChange fnExactLongsOfWrong)

/-- 'laws.FnExactHoldBorder': WHATEVER THE INPUT: true; the input reads as it did. -/
def fnExactHoldBorderSpec : ChangeSpec := { name := "fnExactHoldBorder", fn := fun _ => fun
  | [d] => { results := [.lit (.bool true)], args := [d] }
  | _ => none }
def fnExactHoldBorderRow : OpenClaim := { program := "ytiihcpcabmamiaa", sum := "115fd8c04c7cb148b11c32792a7bba3d5993a34b487637fe5a940ea94cbc26c6", func := "loop.example/g01222/laws.FnExactHoldBorder", spec := "fnExactHoldBorder", unfollowed := true, recurses := true, plainKeys := false, apart := false }
def FnExactHoldBorderSaid : Prop := fnExactHoldBorderRow.holds Try.pinned (OpenSpec.ofChange fnExactHoldBorderSpec)

/-- ITS FALSE NEIGHBOUR: 'it returns false'. Refute it at one input. -/
def fnExactHoldBorderWrong : ChangeSpec := { name := "fnExactHoldBorder", fn := fun _ => fun
  | [d] => { results := [.lit (.bool false)], args := [d] }
  | _ => none }
def FnExactHoldBorderWrongFalsely : Prop := fnExactHoldBorderRow.holds Try.pinned (OpenSpec.ofChange fnExactHoldBorderWrong)

/-- 'laws.FnExactNeighboursOf': WHATEVER THE INPUT: true; the input reads as it did. -/
def fnExactNeighboursOfSpec : ChangeSpec := { name := "fnExactNeighboursOf", fn := fun _ => fun
  | [d1, d2] => { results := [.lit (.bool true)], args := [d1, d2] }
  | _ => none }
def fnExactNeighboursOfRow : OpenClaim := { program := "ytiihcpcabmamiaa", sum := "115fd8c04c7cb148b11c32792a7bba3d5993a34b487637fe5a940ea94cbc26c6", func := "loop.example/g01222/laws.FnExactNeighboursOf", spec := "fnExactNeighboursOf", unfollowed := true, recurses := true, plainKeys := false, apart := false }
def FnExactNeighboursOfSaid : Prop := fnExactNeighboursOfRow.holds Try.pinned (OpenSpec.ofChange fnExactNeighboursOfSpec)

/-- ITS FALSE NEIGHBOUR: 'it returns false'. Refute it at one input. -/
def fnExactNeighboursOfWrong : ChangeSpec := { name := "fnExactNeighboursOf", fn := fun _ => fun
  | [d1, d2] => { results := [.lit (.bool false)], args := [d1, d2] }
  | _ => none }
def FnExactNeighboursOfWrongFalsely : Prop := fnExactNeighboursOfRow.holds Try.pinned (OpenSpec.ofChange fnExactNeighboursOfWrong)

/-- 'laws.FnExactEnergyOf': WHATEVER THE INPUT: true; the input reads as it did. -/
def fnExactEnergyOfSpec : ChangeSpec := { name := "fnExactEnergyOf", fn := fun _ => fun
  | [d] => { results := [.lit (.bool true)], args := [d] }
  | _ => none }
def fnExactEnergyOfRow : OpenClaim := { program := "ytiihcpcabmamiaa", sum := "115fd8c04c7cb148b11c32792a7bba3d5993a34b487637fe5a940ea94cbc26c6", func := "loop.example/g01222/laws.FnExactEnergyOf", spec := "fnExactEnergyOf", inPlace := ["math.sqrt"], unfollowed := true, recurses := true, plainKeys := false, apart := false }
def FnExactEnergyOfSaid : Prop := fnExactEnergyOfRow.holds Try.pinned (OpenSpec.ofChange fnExactEnergyOfSpec)

/-- ITS FALSE NEIGHBOUR: 'it returns false'. Refute it at one input. -/
def fnExactEnergyOfWrong : ChangeSpec := { name := "fnExactEnergyOf", fn := fun _ => fun
  | [d] => { results := [.lit (.bool false)], args := [d] }
  | _ => none }
def FnExactEnergyOfWrongFalsely : Prop := fnExactEnergyOfRow.holds Try.pinned (OpenSpec.ofChange fnExactEnergyOfWrong)

/-- 'laws.FnExactSpringEdges': WHATEVER THE INPUT: true; the input reads as it did. -/
def fnExactSpringEdgesSpec : ChangeSpec := { name := "fnExactSpringEdges", fn := fun _ => fun
  | [d1, d2] => { results := [.lit (.bool true)], args := [d1, d2] }
  | _ => none }
def fnExactSpringEdgesRow : OpenClaim := { program := "ytiihcpcabmamiaa", sum := "115fd8c04c7cb148b11c32792a7bba3d5993a34b487637fe5a940ea94cbc26c6", func := "loop.example/g01222/laws.FnExactSpringEdges", spec := "fnExactSpringEdges", inPlace := ["math.sqrt"], unfollowed := true, recurses := true, plainKeys := false, apart := false }
def FnExactSpringEdgesSaid : Prop := fnExactSpringEdgesRow.holds Try.pinned (OpenSpec.ofChange fnExactSpringEdgesSpec)

/-- ITS FALSE NEIGHBOUR: 'it returns false'. Refute it at one input. -/
def fnExactSpringEdgesWrong : ChangeSpec := { name := "fnExactSpringEdges", fn := fun _ => fun
  | [d1, d2] => { results := [.lit (.bool false)], args := [d1, d2] }
  | _ => none }
def FnExactSpringEdgesWrongFalsely : Prop := fnExactSpringEdgesRow.holds Try.pinned (OpenSpec.ofChange fnExactSpringEdgesWrong)

/-- 'laws.FnExactPartsOf': WHATEVER THE INPUT: true; the input reads as it did. -/
def fnExactPartsOfSpec : ChangeSpec := { name := "fnExactPartsOf", fn := fun _ => fun
  | [d] => { results := [.lit (.bool true)], args := [d] }
  | _ => none }
def fnExactPartsOfRow : OpenClaim := { program := "ytiihcpcabmamiaa", sum := "115fd8c04c7cb148b11c32792a7bba3d5993a34b487637fe5a940ea94cbc26c6", func := "loop.example/g01222/laws.FnExactPartsOf", spec := "fnExactPartsOf", inPlace := ["math.sqrt"], unfollowed := true, recurses := true, plainKeys := false, apart := false }
def FnExactPartsOfSaid : Prop := fnExactPartsOfRow.holds Try.pinned (OpenSpec.ofChange fnExactPartsOfSpec)

/-- ITS FALSE NEIGHBOUR: 'it returns false'. Refute it at one input. -/
def fnExactPartsOfWrong : ChangeSpec := { name := "fnExactPartsOf", fn := fun _ => fun
  | [d] => { results := [.lit (.bool false)], args := [d] }
  | _ => none }
def FnExactPartsOfWrongFalsely : Prop := fnExactPartsOfRow.holds Try.pinned (OpenSpec.ofChange fnExactPartsOfWrong)

/- THE SECOND FORM. 'bulk': how many values and letters a reading holds, each counted each time it is reached (what is shared counts as often as it is met; a slice's spare places count too). A statement '..UptoSaid' is the law's where the arguments, and the package variables that the reading takes, are together of bulk at most 1048576: NARROWER than '..Said'. Prove '..Said' where nothing that the law and all that it calls make is longer than what came in: it says more and counts as full. Else prove '..UptoSaid'. A law counts once. -/
mutual
def uptoBulk {H : Type} : DataW H → Nat
  | .lit (.string bytes) => bytes.length + 1
  | .lit _ => 1
  | .nil => 1
  | .ptr d => uptoBulk d + 1
  | .slice elems spare => uptoBulkAll elems + uptoBulkAll spare + 1
  | .agg parts => uptoBulkAll parts + 1
  | .iface _ d => uptoBulk d + 1
  | .map entries => uptoBulkEntries entries + 1
  | .held _ => 1
def uptoBulkAll {H : Type} : List (DataW H) → Nat
  | [] => 0
  | d :: r => uptoBulk d + uptoBulkAll r
def uptoBulkEntries {H : Type} : List (Lit × DataW H) → Nat
  | [] => 0
  | x :: r => uptoBulkEntry x + uptoBulkEntries r
def uptoBulkEntry {H : Type} : Lit × DataW H → Nat
  | (.string bytes, d) => bytes.length + uptoBulk d + 1
  | (_, d) => uptoBulk d + 1
 end
def uptoSmall : (H : Type) → List (DataW H) → Bool := fun _ ds => decide (uptoBulkAll ds ≤ 1048576)
def OpenSpec.upto (s : _root_.Go.ChangeSpec) : _root_.Go.OpenSpec := { _root_.Go.OpenSpec.ofChange s with cond := some uptoSmall }

/-- 'laws.FnExactHingesOf', WHERE WHAT IT READS IS OF BULK AT MOST 1048576: true; the input reads as it did. -/
def fnExactHingesOfUptoRow : OpenClaim := { program := "ytiihcpcabmamiaa", sum := "115fd8c04c7cb148b11c32792a7bba3d5993a34b487637fe5a940ea94cbc26c6", func := "loop.example/g01222/laws.FnExactHingesOf", spec := "fnExactHingesOf", unfollowed := true, recurses := true, plainKeys := false, apart := false, narrowed := true }
def FnExactHingesOfUptoSaid : Prop := fnExactHingesOfUptoRow.holds Try.pinned (OpenSpec.upto fnExactHingesOfSpec)

/-- 'laws.FnExactBallMesh', WHERE WHAT IT READS IS OF BULK AT MOST 1048576: true; the input reads as it did. -/
def fnExactBallMeshUptoRow : OpenClaim := { program := "ytiihcpcabmamiaa", sum := "115fd8c04c7cb148b11c32792a7bba3d5993a34b487637fe5a940ea94cbc26c6", func := "loop.example/g01222/laws.FnExactBallMesh", spec := "fnExactBallMesh", inPlace := ["math.sqrt"], unfollowed := true, recurses := true, plainKeys := false, apart := false, narrowed := true }
def FnExactBallMeshUptoSaid : Prop := fnExactBallMeshUptoRow.holds Try.pinned (OpenSpec.upto fnExactBallMeshSpec)

/-- 'laws.FnExactLongsOf', WHERE WHAT IT READS IS OF BULK AT MOST 1048576: true; the input reads as it did. -/
def fnExactLongsOfUptoRow : OpenClaim := { program := "ytiihcpcabmamiaa", sum := "115fd8c04c7cb148b11c32792a7bba3d5993a34b487637fe5a940ea94cbc26c6", func := "loop.example/g01222/laws.FnExactLongsOf", spec := "fnExactLongsOf", inPlace := ["math.sqrt"], unfollowed := true, recurses := true, plainKeys := false, apart := false, narrowed := true }
def FnExactLongsOfUptoSaid : Prop := fnExactLongsOfUptoRow.holds Try.pinned (OpenSpec.upto fnExactLongsOfSpec)

/-- 'laws.FnExactHoldBorder', WHERE WHAT IT READS IS OF BULK AT MOST 1048576: true; the input reads as it did. -/
def fnExactHoldBorderUptoRow : OpenClaim := { program := "ytiihcpcabmamiaa", sum := "115fd8c04c7cb148b11c32792a7bba3d5993a34b487637fe5a940ea94cbc26c6", func := "loop.example/g01222/laws.FnExactHoldBorder", spec := "fnExactHoldBorder", unfollowed := true, recurses := true, plainKeys := false, apart := false, narrowed := true }
def FnExactHoldBorderUptoSaid : Prop := fnExactHoldBorderUptoRow.holds Try.pinned (OpenSpec.upto fnExactHoldBorderSpec)

/-- 'laws.FnExactNeighboursOf', WHERE WHAT IT READS IS OF BULK AT MOST 1048576: true; the input reads as it did. -/
def fnExactNeighboursOfUptoRow : OpenClaim := { program := "ytiihcpcabmamiaa", sum := "115fd8c04c7cb148b11c32792a7bba3d5993a34b487637fe5a940ea94cbc26c6", func := "loop.example/g01222/laws.FnExactNeighboursOf", spec := "fnExactNeighboursOf", unfollowed := true, recurses := true, plainKeys := false, apart := false, narrowed := true }
def FnExactNeighboursOfUptoSaid : Prop := fnExactNeighboursOfUptoRow.holds Try.pinned (OpenSpec.upto fnExactNeighboursOfSpec)

/-- 'laws.FnExactEnergyOf', WHERE WHAT IT READS IS OF BULK AT MOST 1048576: true; the input reads as it did. -/
def fnExactEnergyOfUptoRow : OpenClaim := { program := "ytiihcpcabmamiaa", sum := "115fd8c04c7cb148b11c32792a7bba3d5993a34b487637fe5a940ea94cbc26c6", func := "loop.example/g01222/laws.FnExactEnergyOf", spec := "fnExactEnergyOf", inPlace := ["math.sqrt"], unfollowed := true, recurses := true, plainKeys := false, apart := false, narrowed := true }
def FnExactEnergyOfUptoSaid : Prop := fnExactEnergyOfUptoRow.holds Try.pinned (OpenSpec.upto fnExactEnergyOfSpec)

/-- 'laws.FnExactSpringEdges', WHERE WHAT IT READS IS OF BULK AT MOST 1048576: true; the input reads as it did. -/
def fnExactSpringEdgesUptoRow : OpenClaim := { program := "ytiihcpcabmamiaa", sum := "115fd8c04c7cb148b11c32792a7bba3d5993a34b487637fe5a940ea94cbc26c6", func := "loop.example/g01222/laws.FnExactSpringEdges", spec := "fnExactSpringEdges", inPlace := ["math.sqrt"], unfollowed := true, recurses := true, plainKeys := false, apart := false, narrowed := true }
def FnExactSpringEdgesUptoSaid : Prop := fnExactSpringEdgesUptoRow.holds Try.pinned (OpenSpec.upto fnExactSpringEdgesSpec)

/-- 'laws.FnExactPartsOf', WHERE WHAT IT READS IS OF BULK AT MOST 1048576: true; the input reads as it did. -/
def fnExactPartsOfUptoRow : OpenClaim := { program := "ytiihcpcabmamiaa", sum := "115fd8c04c7cb148b11c32792a7bba3d5993a34b487637fe5a940ea94cbc26c6", func := "loop.example/g01222/laws.FnExactPartsOf", spec := "fnExactPartsOf", inPlace := ["math.sqrt"], unfollowed := true, recurses := true, plainKeys := false, apart := false, narrowed := true }
def FnExactPartsOfUptoSaid : Prop := fnExactPartsOfUptoRow.holds Try.pinned (OpenSpec.upto fnExactPartsOfSpec)

end Rows
end Go.Proofs.Ytiihcpcabmamiaa
