/-
  No cell of these rows narrows 'for every input' (looked for: loops, veiled, ifaces, maps, wideKeys, modest, calm, conditions, laid).
  DERIVED. THE GIVEN ROWS OF THIS SEAT. 12 by the template 'for every input the law returns true; each argument reads behind the call as it read before'; 0 by the template 'total and deterministic' (their statements: YtiiijolkhbnblaaTotals.lean).
  GIVEN WITH THE SEED: the statements are not yours to turn. If you find one false, say at which input.
  Laid BY PROGRAM, IN A SANDBOX (cutbox-rows.mjs): the forced cells as the released guide's own fill.sh prints them over the translation 376e654ee956db4e… (all of the seat's roots in one cut). By AI agents, Wed Nov 11 2026. No macro, syntax, notation, axiom, sorry.
-/
import Derived.Test.YtiiijolkhbnblaaChecked
import GoSem.Claim
import GoSem.ClaimJoined
import GoSem.ClaimMapViews
import Derived.JoinedTies
import Derived.KernelRfl
namespace Go.Proofs.Ytiiijolkhbnblaa
/- THE CELL 'sum', in the pinned program and in every row, IS THE sha256 OF THE DUMP (.gsa) THAT YtiiijolkhbnblaaProg.lean LOADS. Nothing in Lean hashes anything: it is a label: what it is worth is what the hold of that sum in a sandbox is worth. -/
noncomputable def Try.pinned : Pinned := { name := "ytiiijolkhbnblaa", sum := "376e654ee956db4e8bfdfa709b148fb23100a7905f05bdbe24c70614bada728d", checked := Try.checked }
namespace Rows
def none {H : Type} : Left H := { results := [], args := [] }

/-- 'laws.FnExactGasEnergy': WHATEVER THE INPUT: true; the input reads as it did. -/
def fnExactGasEnergySpec : ChangeSpec := { name := "fnExactGasEnergy", fn := fun _ => fun
  | [d1, d2] => { results := [.lit (.bool true)], args := [d1, d2] }
  | _ => none }
def fnExactGasEnergyRow : OpenClaim := { program := "ytiiijolkhbnblaa", sum := "376e654ee956db4e8bfdfa709b148fb23100a7905f05bdbe24c70614bada728d", func := "loop.example/g01222/laws.FnExactGasEnergy", spec := "fnExactGasEnergy", inPlace := ["math.Float64frombits", "math.Float64bits"], plainKeys := false, apart := false }
def FnExactGasEnergySaid : Prop := fnExactGasEnergyRow.holds Try.pinned (OpenSpec.ofChange fnExactGasEnergySpec)

/-- ITS FALSE NEIGHBOUR: 'it returns false'. Refute it at one input. -/
def fnExactGasEnergyWrong : ChangeSpec := { name := "fnExactGasEnergy", fn := fun _ => fun
  | [d1, d2] => { results := [.lit (.bool false)], args := [d1, d2] }
  | _ => none }
def FnExactGasEnergyWrongFalsely : Prop := fnExactGasEnergyRow.holds Try.pinned (OpenSpec.ofChange fnExactGasEnergyWrong)

/-- 'laws.FnExactSameBody': WHATEVER THE INPUT: true; the input reads as it did. -/
def fnExactSameBodySpec : ChangeSpec := { name := "fnExactSameBody", fn := fun _ => fun
  | [d1, d2] => { results := [.lit (.bool true)], args := [d1, d2] }
  | _ => none }
def fnExactSameBodyRow : OpenClaim := { program := "ytiiijolkhbnblaa", sum := "376e654ee956db4e8bfdfa709b148fb23100a7905f05bdbe24c70614bada728d", func := "loop.example/g01222/laws.FnExactSameBody", spec := "fnExactSameBody", inPlace := ["math.Float32bits", "math.Float64bits"], unfollowed := true, recurses := true, plainKeys := false, apart := false }
def FnExactSameBodySaid : Prop := fnExactSameBodyRow.holds Try.pinned (OpenSpec.ofChange fnExactSameBodySpec)

/-- ITS FALSE NEIGHBOUR: 'it returns false'. Refute it at one input. -/
def fnExactSameBodyWrong : ChangeSpec := { name := "fnExactSameBody", fn := fun _ => fun
  | [d1, d2] => { results := [.lit (.bool false)], args := [d1, d2] }
  | _ => none }
def FnExactSameBodyWrongFalsely : Prop := fnExactSameBodyRow.holds Try.pinned (OpenSpec.ofChange fnExactSameBodyWrong)

/-- 'laws.FnExactFreePlaces': WHATEVER THE INPUT: true; the input reads as it did. -/
def fnExactFreePlacesSpec : ChangeSpec := { name := "fnExactFreePlaces", fn := fun _ => fun
  | [d1, d2] => { results := [.lit (.bool true)], args := [d1, d2] }
  | _ => none }
def fnExactFreePlacesRow : OpenClaim := { program := "ytiiijolkhbnblaa", sum := "376e654ee956db4e8bfdfa709b148fb23100a7905f05bdbe24c70614bada728d", func := "loop.example/g01222/laws.FnExactFreePlaces", spec := "fnExactFreePlaces", plainKeys := false, apart := false }
def FnExactFreePlacesSaid : Prop := fnExactFreePlacesRow.holds Try.pinned (OpenSpec.ofChange fnExactFreePlacesSpec)

/-- ITS FALSE NEIGHBOUR: 'it returns false'. Refute it at one input. -/
def fnExactFreePlacesWrong : ChangeSpec := { name := "fnExactFreePlaces", fn := fun _ => fun
  | [d1, d2] => { results := [.lit (.bool false)], args := [d1, d2] }
  | _ => none }
def FnExactFreePlacesWrongFalsely : Prop := fnExactFreePlacesRow.holds Try.pinned (OpenSpec.ofChange fnExactFreePlacesWrong)

/-- 'laws.FnExactHoldForces': WHATEVER THE INPUT: true; the input reads as it did. -/
def fnExactHoldForcesSpec : ChangeSpec := { name := "fnExactHoldForces", fn := fun _ => fun
  | [d1, d2, d3] => { results := [.lit (.bool true)], args := [d1, d2, d3] }
  | _ => none }
def fnExactHoldForcesRow : OpenClaim := { program := "ytiiijolkhbnblaa", sum := "376e654ee956db4e8bfdfa709b148fb23100a7905f05bdbe24c70614bada728d", func := "loop.example/g01222/laws.FnExactHoldForces", spec := "fnExactHoldForces", plainKeys := false, apart := false }
def FnExactHoldForcesSaid : Prop := fnExactHoldForcesRow.holds Try.pinned (OpenSpec.ofChange fnExactHoldForcesSpec)

/-- ITS FALSE NEIGHBOUR: 'it returns false'. Refute it at one input. -/
def fnExactHoldForcesWrong : ChangeSpec := { name := "fnExactHoldForces", fn := fun _ => fun
  | [d1, d2, d3] => { results := [.lit (.bool false)], args := [d1, d2, d3] }
  | _ => none }
def FnExactHoldForcesWrongFalsely : Prop := fnExactHoldForcesRow.holds Try.pinned (OpenSpec.ofChange fnExactHoldForcesWrong)

/-- 'laws.FnExactBareBody': WHATEVER THE INPUT: true; the input reads as it did. -/
def fnExactBareBodySpec : ChangeSpec := { name := "fnExactBareBody", fn := fun _ => fun
  | [d] => { results := [.lit (.bool true)], args := [d] }
  | _ => none }
def fnExactBareBodyRow : OpenClaim := { program := "ytiiijolkhbnblaa", sum := "376e654ee956db4e8bfdfa709b148fb23100a7905f05bdbe24c70614bada728d", func := "loop.example/g01222/laws.FnExactBareBody", spec := "fnExactBareBody", plainKeys := false, apart := false }
def FnExactBareBodySaid : Prop := fnExactBareBodyRow.holds Try.pinned (OpenSpec.ofChange fnExactBareBodySpec)

/-- ITS FALSE NEIGHBOUR: 'it returns false'. Refute it at one input. -/
def fnExactBareBodyWrong : ChangeSpec := { name := "fnExactBareBody", fn := fun _ => fun
  | [d] => { results := [.lit (.bool false)], args := [d] }
  | _ => none }
def FnExactBareBodyWrongFalsely : Prop := fnExactBareBodyRow.holds Try.pinned (OpenSpec.ofChange fnExactBareBodyWrong)

/-- 'laws.FnExactHoldMesh': WHATEVER THE INPUT: true; the input reads as it did. -/
def fnExactHoldMeshSpec : ChangeSpec := { name := "fnExactHoldMesh", fn := fun _ => fun
  | [d1, d2] => { results := [.lit (.bool true)], args := [d1, d2] }
  | _ => none }
def fnExactHoldMeshRow : OpenClaim := { program := "ytiiijolkhbnblaa", sum := "376e654ee956db4e8bfdfa709b148fb23100a7905f05bdbe24c70614bada728d", func := "loop.example/g01222/laws.FnExactHoldMesh", spec := "fnExactHoldMesh", plainKeys := false, apart := false }
def FnExactHoldMeshSaid : Prop := fnExactHoldMeshRow.holds Try.pinned (OpenSpec.ofChange fnExactHoldMeshSpec)

/-- ITS FALSE NEIGHBOUR: 'it returns false'. Refute it at one input. -/
def fnExactHoldMeshWrong : ChangeSpec := { name := "fnExactHoldMesh", fn := fun _ => fun
  | [d1, d2] => { results := [.lit (.bool false)], args := [d1, d2] }
  | _ => none }
def FnExactHoldMeshWrongFalsely : Prop := fnExactHoldMeshRow.holds Try.pinned (OpenSpec.ofChange fnExactHoldMeshWrong)

/-- 'laws.FnExactKeepVolume': WHATEVER THE INPUT: true; the input reads as it did. -/
def fnExactKeepVolumeSpec : ChangeSpec := { name := "fnExactKeepVolume", fn := fun _ => fun
  | [d1, d2] => { results := [.lit (.bool true)], args := [d1, d2] }
  | _ => none }
def fnExactKeepVolumeRow : OpenClaim := { program := "ytiiijolkhbnblaa", sum := "376e654ee956db4e8bfdfa709b148fb23100a7905f05bdbe24c70614bada728d", func := "loop.example/g01222/laws.FnExactKeepVolume", spec := "fnExactKeepVolume", inPlace := ["math.Float64frombits", "math.Float64bits"], unfollowed := true, recurses := true, plainKeys := false, apart := false }
def FnExactKeepVolumeSaid : Prop := fnExactKeepVolumeRow.holds Try.pinned (OpenSpec.ofChange fnExactKeepVolumeSpec)

/-- ITS FALSE NEIGHBOUR: 'it returns false'. Refute it at one input. -/
def fnExactKeepVolumeWrong : ChangeSpec := { name := "fnExactKeepVolume", fn := fun _ => fun
  | [d1, d2] => { results := [.lit (.bool false)], args := [d1, d2] }
  | _ => none }
def FnExactKeepVolumeWrongFalsely : Prop := fnExactKeepVolumeRow.holds Try.pinned (OpenSpec.ofChange fnExactKeepVolumeWrong)

/-- 'laws.FnExactStillMotion': WHATEVER THE INPUT: true; the input reads as it did. -/
def fnExactStillMotionSpec : ChangeSpec := { name := "fnExactStillMotion", fn := fun _ => fun
  | [d] => { results := [.lit (.bool true)], args := [d] }
  | _ => none }
def fnExactStillMotionRow : OpenClaim := { program := "ytiiijolkhbnblaa", sum := "376e654ee956db4e8bfdfa709b148fb23100a7905f05bdbe24c70614bada728d", func := "loop.example/g01222/laws.FnExactStillMotion", spec := "fnExactStillMotion", plainKeys := false, apart := false }
def FnExactStillMotionSaid : Prop := fnExactStillMotionRow.holds Try.pinned (OpenSpec.ofChange fnExactStillMotionSpec)

/-- ITS FALSE NEIGHBOUR: 'it returns false'. Refute it at one input. -/
def fnExactStillMotionWrong : ChangeSpec := { name := "fnExactStillMotion", fn := fun _ => fun
  | [d] => { results := [.lit (.bool false)], args := [d] }
  | _ => none }
def FnExactStillMotionWrongFalsely : Prop := fnExactStillMotionRow.holds Try.pinned (OpenSpec.ofChange fnExactStillMotionWrong)

/-- 'laws.FnExactMovePlaces': WHATEVER THE INPUT: true; the input reads as it did. -/
def fnExactMovePlacesSpec : ChangeSpec := { name := "fnExactMovePlaces", fn := fun _ => fun
  | [d1, d2, d3] => { results := [.lit (.bool true)], args := [d1, d2, d3] }
  | _ => none }
def fnExactMovePlacesRow : OpenClaim := { program := "ytiiijolkhbnblaa", sum := "376e654ee956db4e8bfdfa709b148fb23100a7905f05bdbe24c70614bada728d", func := "loop.example/g01222/laws.FnExactMovePlaces", spec := "fnExactMovePlaces", plainKeys := false, apart := false }
def FnExactMovePlacesSaid : Prop := fnExactMovePlacesRow.holds Try.pinned (OpenSpec.ofChange fnExactMovePlacesSpec)

/-- ITS FALSE NEIGHBOUR: 'it returns false'. Refute it at one input. -/
def fnExactMovePlacesWrong : ChangeSpec := { name := "fnExactMovePlaces", fn := fun _ => fun
  | [d1, d2, d3] => { results := [.lit (.bool false)], args := [d1, d2, d3] }
  | _ => none }
def FnExactMovePlacesWrongFalsely : Prop := fnExactMovePlacesRow.holds Try.pinned (OpenSpec.ofChange fnExactMovePlacesWrong)

/-- 'laws.FnExactEdgesOf': WHATEVER THE INPUT: true; the input reads as it did. -/
def fnExactEdgesOfSpec : ChangeSpec := { name := "fnExactEdgesOf", fn := fun _ => fun
  | [d] => { results := [.lit (.bool true)], args := [d] }
  | _ => none }
def fnExactEdgesOfRow : OpenClaim := { program := "ytiiijolkhbnblaa", sum := "376e654ee956db4e8bfdfa709b148fb23100a7905f05bdbe24c70614bada728d", func := "loop.example/g01222/laws.FnExactEdgesOf", spec := "fnExactEdgesOf", unfollowed := true, recurses := true, plainKeys := false, apart := false }
def FnExactEdgesOfSaid : Prop := fnExactEdgesOfRow.holds Try.pinned (OpenSpec.ofChange fnExactEdgesOfSpec)

/-- ITS FALSE NEIGHBOUR: 'it returns false'. Refute it at one input. -/
def fnExactEdgesOfWrong : ChangeSpec := { name := "fnExactEdgesOf", fn := fun _ => fun
  | [d] => { results := [.lit (.bool false)], args := [d] }
  | _ => none }
def FnExactEdgesOfWrongFalsely : Prop := fnExactEdgesOfRow.holds Try.pinned (OpenSpec.ofChange fnExactEdgesOfWrong)

/-- 'laws.FnExactIsClosed': WHATEVER THE INPUT: true; the input reads as it did. -/
def fnExactIsClosedSpec : ChangeSpec := { name := "fnExactIsClosed", fn := fun _ => fun
  | [d] => { results := [.lit (.bool true)], args := [d] }
  | _ => none }
def fnExactIsClosedRow : OpenClaim := { program := "ytiiijolkhbnblaa", sum := "376e654ee956db4e8bfdfa709b148fb23100a7905f05bdbe24c70614bada728d", func := "loop.example/g01222/laws.FnExactIsClosed", spec := "fnExactIsClosed", unfollowed := true, recurses := true, plainKeys := false, apart := false }
def FnExactIsClosedSaid : Prop := fnExactIsClosedRow.holds Try.pinned (OpenSpec.ofChange fnExactIsClosedSpec)

/-- ITS FALSE NEIGHBOUR: 'it returns false'. Refute it at one input. -/
def fnExactIsClosedWrong : ChangeSpec := { name := "fnExactIsClosed", fn := fun _ => fun
  | [d] => { results := [.lit (.bool false)], args := [d] }
  | _ => none }
def FnExactIsClosedWrongFalsely : Prop := fnExactIsClosedRow.holds Try.pinned (OpenSpec.ofChange fnExactIsClosedWrong)

/-- 'laws.FnExactBorderOf': WHATEVER THE INPUT: true; the input reads as it did. -/
def fnExactBorderOfSpec : ChangeSpec := { name := "fnExactBorderOf", fn := fun _ => fun
  | [d] => { results := [.lit (.bool true)], args := [d] }
  | _ => none }
def fnExactBorderOfRow : OpenClaim := { program := "ytiiijolkhbnblaa", sum := "376e654ee956db4e8bfdfa709b148fb23100a7905f05bdbe24c70614bada728d", func := "loop.example/g01222/laws.FnExactBorderOf", spec := "fnExactBorderOf", unfollowed := true, recurses := true, plainKeys := false, apart := false }
def FnExactBorderOfSaid : Prop := fnExactBorderOfRow.holds Try.pinned (OpenSpec.ofChange fnExactBorderOfSpec)

/-- ITS FALSE NEIGHBOUR: 'it returns false'. Refute it at one input. -/
def fnExactBorderOfWrong : ChangeSpec := { name := "fnExactBorderOf", fn := fun _ => fun
  | [d] => { results := [.lit (.bool false)], args := [d] }
  | _ => none }
def FnExactBorderOfWrongFalsely : Prop := fnExactBorderOfRow.holds Try.pinned (OpenSpec.ofChange fnExactBorderOfWrong)

/- THE SECOND FORM. 'bulk': how many values and letters a reading holds, each counted each time it is reached (what is shared counts as often as it is met; a slice's spare places count too). A statement '..UptoSaid' is the law's where the arguments, and the package variables that the reading takes, are together of bulk at most 1048576: NARROWER than '..Said'. Prove '..Said' where nothing that the law and all that it calls make is longer than what came in: it says more and counts as full. Else prove '..UptoSaid'. A law counts once. -/
mutual
def uptoBulk {H : Type} : DataW H → Nat
  | .lit (.string bytes) => bytes.length + 1
  | .lit _ => 1
  | .nil => 1
  | .ptr d => uptoBulk d + 1
  | .slice elems spare => uptoBulkAll elems + uptoBulkAll spare + 1
  | .agg parts => uptoBulkAll parts + 1
  | .iface _ d => uptoBulk d + 1
  | .map entries => uptoBulkEntries entries + 1
  | .held _ => 1
def uptoBulkAll {H : Type} : List (DataW H) → Nat
  | [] => 0
  | d :: r => uptoBulk d + uptoBulkAll r
def uptoBulkEntries {H : Type} : List (Lit × DataW H) → Nat
  | [] => 0
  | x :: r => uptoBulkEntry x + uptoBulkEntries r
def uptoBulkEntry {H : Type} : Lit × DataW H → Nat
  | (.string bytes, d) => bytes.length + uptoBulk d + 1
  | (_, d) => uptoBulk d + 1
 end
def uptoSmall : (H : Type) → List (DataW H) → Bool := fun _ ds => decide (uptoBulkAll ds ≤ 1048576)
def OpenSpec.upto (s : _root_.Go.ChangeSpec) : _root_.Go.OpenSpec := { _root_.Go.OpenSpec.ofChange s with cond := some uptoSmall }

/-- 'laws.FnExactGasEnergy', WHERE WHAT IT READS IS OF BULK AT MOST 1048576: true; the input reads as it did. -/
def fnExactGasEnergyUptoRow : OpenClaim := { program := "ytiiijolkhbnblaa", sum := "376e654ee956db4e8bfdfa709b148fb23100a7905f05bdbe24c70614bada728d", func := "loop.example/g01222/laws.FnExactGasEnergy", spec := "fnExactGasEnergy", inPlace := ["math.Float64frombits", "math.Float64bits"], plainKeys := false, apart := false, narrowed := true }
def FnExactGasEnergyUptoSaid : Prop := fnExactGasEnergyUptoRow.holds Try.pinned (OpenSpec.upto fnExactGasEnergySpec)

/-- 'laws.FnExactSameBody', WHERE WHAT IT READS IS OF BULK AT MOST 1048576: true; the input reads as it did. -/
def fnExactSameBodyUptoRow : OpenClaim := { program := "ytiiijolkhbnblaa", sum := "376e654ee956db4e8bfdfa709b148fb23100a7905f05bdbe24c70614bada728d", func := "loop.example/g01222/laws.FnExactSameBody", spec := "fnExactSameBody", inPlace := ["math.Float32bits", "math.Float64bits"], unfollowed := true, recurses := true, plainKeys := false, apart := false, narrowed := true }
def FnExactSameBodyUptoSaid : Prop := fnExactSameBodyUptoRow.holds Try.pinned (OpenSpec.upto fnExactSameBodySpec)

/-- 'laws.FnExactFreePlaces', WHERE WHAT IT READS IS OF BULK AT MOST 1048576: true; the input reads as it did. -/
def fnExactFreePlacesUptoRow : OpenClaim := { program := "ytiiijolkhbnblaa", sum := "376e654ee956db4e8bfdfa709b148fb23100a7905f05bdbe24c70614bada728d", func := "loop.example/g01222/laws.FnExactFreePlaces", spec := "fnExactFreePlaces", plainKeys := false, apart := false, narrowed := true }
def FnExactFreePlacesUptoSaid : Prop := fnExactFreePlacesUptoRow.holds Try.pinned (OpenSpec.upto fnExactFreePlacesSpec)

/-- 'laws.FnExactHoldForces', WHERE WHAT IT READS IS OF BULK AT MOST 1048576: true; the input reads as it did. -/
def fnExactHoldForcesUptoRow : OpenClaim := { program := "ytiiijolkhbnblaa", sum := "376e654ee956db4e8bfdfa709b148fb23100a7905f05bdbe24c70614bada728d", func := "loop.example/g01222/laws.FnExactHoldForces", spec := "fnExactHoldForces", plainKeys := false, apart := false, narrowed := true }
def FnExactHoldForcesUptoSaid : Prop := fnExactHoldForcesUptoRow.holds Try.pinned (OpenSpec.upto fnExactHoldForcesSpec)

/-- 'laws.FnExactBareBody', WHERE WHAT IT READS IS OF BULK AT MOST 1048576: true; the input reads as it did. -/
def fnExactBareBodyUptoRow : OpenClaim := { program := "ytiiijolkhbnblaa", sum := "376e654ee956db4e8bfdfa709b148fb23100a7905f05bdbe24c70614bada728d", func := "loop.example/g01222/laws.FnExactBareBody", spec := "fnExactBareBody", plainKeys := false, apart := false, narrowed := true }
def FnExactBareBodyUptoSaid : Prop := fnExactBareBodyUptoRow.holds Try.pinned (OpenSpec.upto fnExactBareBodySpec)

/-- 'laws.FnExactHoldMesh', WHERE WHAT IT READS IS OF BULK AT MOST 1048576: true; the input reads as it did. -/
def fnExactHoldMeshUptoRow : OpenClaim := { program := "ytiiijolkhbnblaa", sum := "376e654ee956db4e8bfdfa709b148fb23100a7905f05bdbe24c70614bada728d", func := "loop.example/g01222/laws.FnExactHoldMesh", spec := "fnExactHoldMesh", plainKeys := false, apart := false, narrowed := true }
def FnExactHoldMeshUptoSaid : Prop := fnExactHoldMeshUptoRow.holds Try.pinned (OpenSpec.upto fnExactHoldMeshSpec)

/-- 'laws.FnExactKeepVolume', WHERE WHAT IT READS IS OF BULK AT MOST 1048576: true; the input reads as it did. -/
def fnExactKeepVolumeUptoRow : OpenClaim := { program := "ytiiijolkhbnblaa", sum := "376e654ee956db4e8bfdfa709b148fb23100a7905f05bdbe24c70614bada728d", func := "loop.example/g01222/laws.FnExactKeepVolume", spec := "fnExactKeepVolume", inPlace := ["math.Float64frombits", "math.Float64bits"], unfollowed := true, recurses := true, plainKeys := false, apart := false, narrowed := true }
def FnExactKeepVolumeUptoSaid : Prop := fnExactKeepVolumeUptoRow.holds Try.pinned (OpenSpec.upto fnExactKeepVolumeSpec)

/-- 'laws.FnExactStillMotion', WHERE WHAT IT READS IS OF BULK AT MOST 1048576: true; the input reads as it did. -/
def fnExactStillMotionUptoRow : OpenClaim := { program := "ytiiijolkhbnblaa", sum := "376e654ee956db4e8bfdfa709b148fb23100a7905f05bdbe24c70614bada728d", func := "loop.example/g01222/laws.FnExactStillMotion", spec := "fnExactStillMotion", plainKeys := false, apart := false, narrowed := true }
def FnExactStillMotionUptoSaid : Prop := fnExactStillMotionUptoRow.holds Try.pinned (OpenSpec.upto fnExactStillMotionSpec)

/-- 'laws.FnExactMovePlaces', WHERE WHAT IT READS IS OF BULK AT MOST 1048576: true; the input reads as it did. -/
def fnExactMovePlacesUptoRow : OpenClaim := { program := "ytiiijolkhbnblaa", sum := "376e654ee956db4e8bfdfa709b148fb23100a7905f05bdbe24c70614bada728d", func := "loop.example/g01222/laws.FnExactMovePlaces", spec := "fnExactMovePlaces", plainKeys := false, apart := false, narrowed := true }
def FnExactMovePlacesUptoSaid : Prop := fnExactMovePlacesUptoRow.holds Try.pinned (OpenSpec.upto fnExactMovePlacesSpec)

/-- 'laws.FnExactEdgesOf', WHERE WHAT IT READS IS OF BULK AT MOST 1048576: true; the input reads as it did. -/
def fnExactEdgesOfUptoRow : OpenClaim := { program := "ytiiijolkhbnblaa", sum := "376e654ee956db4e8bfdfa709b148fb23100a7905f05bdbe24c70614bada728d", func := "loop.example/g01222/laws.FnExactEdgesOf", spec := "fnExactEdgesOf", unfollowed := true, recurses := true, plainKeys := false, apart := false, narrowed := true }
def FnExactEdgesOfUptoSaid : Prop := fnExactEdgesOfUptoRow.holds Try.pinned (OpenSpec.upto fnExactEdgesOfSpec)

/-- 'laws.FnExactIsClosed', WHERE WHAT IT READS IS OF BULK AT MOST 1048576: true; the input reads as it did. -/
def fnExactIsClosedUptoRow : OpenClaim := { program := "ytiiijolkhbnblaa", sum := "376e654ee956db4e8bfdfa709b148fb23100a7905f05bdbe24c70614bada728d", func := "loop.example/g01222/laws.FnExactIsClosed", spec := "fnExactIsClosed", unfollowed := true, recurses := true, plainKeys := false, apart := false, narrowed := true }
def FnExactIsClosedUptoSaid : Prop := fnExactIsClosedUptoRow.holds Try.pinned (OpenSpec.upto fnExactIsClosedSpec)

/-- 'laws.FnExactBorderOf', WHERE WHAT IT READS IS OF BULK AT MOST 1048576: true; the input reads as it did. -/
def fnExactBorderOfUptoRow : OpenClaim := { program := "ytiiijolkhbnblaa", sum := "376e654ee956db4e8bfdfa709b148fb23100a7905f05bdbe24c70614bada728d", func := "loop.example/g01222/laws.FnExactBorderOf", spec := "fnExactBorderOf", unfollowed := true, recurses := true, plainKeys := false, apart := false, narrowed := true }
def FnExactBorderOfUptoSaid : Prop := fnExactBorderOfUptoRow.holds Try.pinned (OpenSpec.upto fnExactBorderOfSpec)

end Rows
end Go.Proofs.Ytiiijolkhbnblaa
