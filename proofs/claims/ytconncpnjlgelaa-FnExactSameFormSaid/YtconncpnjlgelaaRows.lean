/-
  No cell of these rows narrows 'for every input' (looked for: loops, veiled, ifaces, maps, wideKeys, modest, calm, conditions, laid).
  DERIVED. THE GIVEN ROWS OF THIS SEAT. 12 by the template 'for every input the law returns true; each argument reads behind the call as it read before'; 0 by the template 'total and deterministic' (their statements: YtconncpnjlgelaaTotals.lean).
  GIVEN WITH THE SEED: the statements are not yours to turn. If you find one false, say at which input.
  Laid BY PROGRAM, IN A SANDBOX (cutbox-rows.mjs): the forced cells as the released guide's own fill.sh prints them over the translation 95aea4d365792016… (all of the seat's roots in one cut). By AI agents, Wed Nov 11 2026. No macro, syntax, notation, axiom, sorry.
-/
import Derived.Test.YtconncpnjlgelaaChecked
import GoSem.Claim
import GoSem.ClaimJoined
import GoSem.ClaimMapViews
import Derived.JoinedTies
import Derived.KernelRfl
namespace Go.Proofs.Ytconncpnjlgelaa
/- THE CELL 'sum', in the pinned program and in every row, IS THE sha256 OF THE DUMP (.gsa) THAT YtconncpnjlgelaaProg.lean LOADS. Nothing in Lean hashes anything: it is a label: what it is worth is what the hold of that sum in a sandbox is worth. -/
noncomputable def Try.pinned : Pinned := { name := "ytconncpnjlgelaa", sum := "95aea4d36579201654972b2b3a4303bb9dcd55e363217519e087a672048205d5", checked := Try.checked }
namespace Rows
def none {H : Type} : Left H := { results := [], args := [] }

/-- 'laws.FnExactGasEnergy': WHATEVER THE INPUT: true; the input reads as it did. -/
def fnExactGasEnergySpec : ChangeSpec := { name := "fnExactGasEnergy", fn := fun _ => fun
  | [d1, d2] => { results := [.lit (.bool true)], args := [d1, d2] }
  | _ => none }
def fnExactGasEnergyRow : OpenClaim := { program := "ytconncpnjlgelaa", sum := "95aea4d36579201654972b2b3a4303bb9dcd55e363217519e087a672048205d5", func := "loop.example/g01222/laws.FnExactGasEnergy", spec := "fnExactGasEnergy", inPlace := ["math.Float64frombits", "math.Float64bits"], apart := false }
def FnExactGasEnergySaid : Prop := fnExactGasEnergyRow.holds Try.pinned (OpenSpec.ofChange fnExactGasEnergySpec)

/-- ITS FALSE NEIGHBOUR: 'it returns false'. Refute it at one input. -/
def fnExactGasEnergyWrong : ChangeSpec := { name := "fnExactGasEnergy", fn := fun _ => fun
  | [d1, d2] => { results := [.lit (.bool false)], args := [d1, d2] }
  | _ => none }
def FnExactGasEnergyWrongFalsely : Prop := fnExactGasEnergyRow.holds Try.pinned (OpenSpec.ofChange fnExactGasEnergyWrong)

/-- 'laws.FnExactSameForm': WHATEVER THE INPUT: true; the input reads as it did. -/
def fnExactSameFormSpec : ChangeSpec := { name := "fnExactSameForm", fn := fun _ => fun
  | [d1, d2] => { results := [.lit (.bool true)], args := [d1, d2] }
  | _ => none }
def fnExactSameFormRow : OpenClaim := { program := "ytconncpnjlgelaa", sum := "95aea4d36579201654972b2b3a4303bb9dcd55e363217519e087a672048205d5", func := "loop.example/g01222/laws.FnExactSameForm", spec := "fnExactSameForm", unfollowed := true, recurses := true, apart := false }
def FnExactSameFormSaid : Prop := fnExactSameFormRow.holds Try.pinned (OpenSpec.ofChange fnExactSameFormSpec)

/-- ITS FALSE NEIGHBOUR: 'it returns false'. Refute it at one input. -/
def fnExactSameFormWrong : ChangeSpec := { name := "fnExactSameForm", fn := fun _ => fun
  | [d1, d2] => { results := [.lit (.bool false)], args := [d1, d2] }
  | _ => none }
def FnExactSameFormWrongFalsely : Prop := fnExactSameFormRow.holds Try.pinned (OpenSpec.ofChange fnExactSameFormWrong)

/-- 'laws.FnExactAreHolds': WHATEVER THE INPUT: true; the input reads as it did. -/
def fnExactAreHoldsSpec : ChangeSpec := { name := "fnExactAreHolds", fn := fun _ => fun
  | [d1, d2] => { results := [.lit (.bool true)], args := [d1, d2] }
  | _ => none }
def fnExactAreHoldsRow : OpenClaim := { program := "ytconncpnjlgelaa", sum := "95aea4d36579201654972b2b3a4303bb9dcd55e363217519e087a672048205d5", func := "loop.example/g01222/laws.FnExactAreHolds", spec := "fnExactAreHolds", apart := false }
def FnExactAreHoldsSaid : Prop := fnExactAreHoldsRow.holds Try.pinned (OpenSpec.ofChange fnExactAreHoldsSpec)

/-- ITS FALSE NEIGHBOUR: 'it returns false'. Refute it at one input. -/
def fnExactAreHoldsWrong : ChangeSpec := { name := "fnExactAreHolds", fn := fun _ => fun
  | [d1, d2] => { results := [.lit (.bool false)], args := [d1, d2] }
  | _ => none }
def FnExactAreHoldsWrongFalsely : Prop := fnExactAreHoldsRow.holds Try.pinned (OpenSpec.ofChange fnExactAreHoldsWrong)

/-- 'laws.FnExactGasForces': WHATEVER THE INPUT: true; the input reads as it did. -/
def fnExactGasForcesSpec : ChangeSpec := { name := "fnExactGasForces", fn := fun _ => fun
  | [d1, d2] => { results := [.lit (.bool true)], args := [d1, d2] }
  | _ => none }
def fnExactGasForcesRow : OpenClaim := { program := "ytconncpnjlgelaa", sum := "95aea4d36579201654972b2b3a4303bb9dcd55e363217519e087a672048205d5", func := "loop.example/g01222/laws.FnExactGasForces", spec := "fnExactGasForces", apart := false }
def FnExactGasForcesSaid : Prop := fnExactGasForcesRow.holds Try.pinned (OpenSpec.ofChange fnExactGasForcesSpec)

/-- ITS FALSE NEIGHBOUR: 'it returns false'. Refute it at one input. -/
def fnExactGasForcesWrong : ChangeSpec := { name := "fnExactGasForces", fn := fun _ => fun
  | [d1, d2] => { results := [.lit (.bool false)], args := [d1, d2] }
  | _ => none }
def FnExactGasForcesWrongFalsely : Prop := fnExactGasForcesRow.holds Try.pinned (OpenSpec.ofChange fnExactGasForcesWrong)

/-- 'laws.FnExactValidBody': WHATEVER THE INPUT: true; the input reads as it did. -/
def fnExactValidBodySpec : ChangeSpec := { name := "fnExactValidBody", fn := fun _ => fun
  | [d] => { results := [.lit (.bool true)], args := [d] }
  | _ => none }
def fnExactValidBodyRow : OpenClaim := { program := "ytconncpnjlgelaa", sum := "95aea4d36579201654972b2b3a4303bb9dcd55e363217519e087a672048205d5", func := "loop.example/g01222/laws.FnExactValidBody", spec := "fnExactValidBody", apart := false }
def FnExactValidBodySaid : Prop := fnExactValidBodyRow.holds Try.pinned (OpenSpec.ofChange fnExactValidBodySpec)

/-- ITS FALSE NEIGHBOUR: 'it returns false'. Refute it at one input. -/
def fnExactValidBodyWrong : ChangeSpec := { name := "fnExactValidBody", fn := fun _ => fun
  | [d] => { results := [.lit (.bool false)], args := [d] }
  | _ => none }
def FnExactValidBodyWrongFalsely : Prop := fnExactValidBodyRow.holds Try.pinned (OpenSpec.ofChange fnExactValidBodyWrong)

/-- 'laws.FnExactIsHeld': WHATEVER THE INPUT: true; the input reads as it did. -/
def fnExactIsHeldSpec : ChangeSpec := { name := "fnExactIsHeld", fn := fun _ => fun
  | [d1, d2] => { results := [.lit (.bool true)], args := [d1, d2] }
  | _ => none }
def fnExactIsHeldRow : OpenClaim := { program := "ytconncpnjlgelaa", sum := "95aea4d36579201654972b2b3a4303bb9dcd55e363217519e087a672048205d5", func := "loop.example/g01222/laws.FnExactIsHeld", spec := "fnExactIsHeld", apart := false }
def FnExactIsHeldSaid : Prop := fnExactIsHeldRow.holds Try.pinned (OpenSpec.ofChange fnExactIsHeldSpec)

/-- ITS FALSE NEIGHBOUR: 'it returns false'. Refute it at one input. -/
def fnExactIsHeldWrong : ChangeSpec := { name := "fnExactIsHeld", fn := fun _ => fun
  | [d1, d2] => { results := [.lit (.bool false)], args := [d1, d2] }
  | _ => none }
def FnExactIsHeldWrongFalsely : Prop := fnExactIsHeldRow.holds Try.pinned (OpenSpec.ofChange fnExactIsHeldWrong)

/-- 'laws.FnExactValidMotion': WHATEVER THE INPUT: true; the input reads as it did. -/
def fnExactValidMotionSpec : ChangeSpec := { name := "fnExactValidMotion", fn := fun _ => fun
  | [d] => { results := [.lit (.bool true)], args := [d] }
  | _ => none }
def fnExactValidMotionRow : OpenClaim := { program := "ytconncpnjlgelaa", sum := "95aea4d36579201654972b2b3a4303bb9dcd55e363217519e087a672048205d5", func := "loop.example/g01222/laws.FnExactValidMotion", spec := "fnExactValidMotion", apart := false }
def FnExactValidMotionSaid : Prop := fnExactValidMotionRow.holds Try.pinned (OpenSpec.ofChange fnExactValidMotionSpec)

/-- ITS FALSE NEIGHBOUR: 'it returns false'. Refute it at one input. -/
def fnExactValidMotionWrong : ChangeSpec := { name := "fnExactValidMotion", fn := fun _ => fun
  | [d] => { results := [.lit (.bool false)], args := [d] }
  | _ => none }
def FnExactValidMotionWrongFalsely : Prop := fnExactValidMotionRow.holds Try.pinned (OpenSpec.ofChange fnExactValidMotionWrong)

/-- 'laws.FnExactSameBody': WHATEVER THE INPUT: true; the input reads as it did. -/
def fnExactSameBodySpec : ChangeSpec := { name := "fnExactSameBody", fn := fun _ => fun
  | [d1, d2] => { results := [.lit (.bool true)], args := [d1, d2] }
  | _ => none }
def fnExactSameBodyRow : OpenClaim := { program := "ytconncpnjlgelaa", sum := "95aea4d36579201654972b2b3a4303bb9dcd55e363217519e087a672048205d5", func := "loop.example/g01222/laws.FnExactSameBody", spec := "fnExactSameBody", inPlace := ["math.Float32bits", "math.Float64bits"], unfollowed := true, recurses := true, apart := false }
def FnExactSameBodySaid : Prop := fnExactSameBodyRow.holds Try.pinned (OpenSpec.ofChange fnExactSameBodySpec)

/-- ITS FALSE NEIGHBOUR: 'it returns false'. Refute it at one input. -/
def fnExactSameBodyWrong : ChangeSpec := { name := "fnExactSameBody", fn := fun _ => fun
  | [d1, d2] => { results := [.lit (.bool false)], args := [d1, d2] }
  | _ => none }
def FnExactSameBodyWrongFalsely : Prop := fnExactSameBodyRow.holds Try.pinned (OpenSpec.ofChange fnExactSameBodyWrong)

/-- 'laws.FnExactFreePlaces': WHATEVER THE INPUT: true; the input reads as it did. -/
def fnExactFreePlacesSpec : ChangeSpec := { name := "fnExactFreePlaces", fn := fun _ => fun
  | [d1, d2] => { results := [.lit (.bool true)], args := [d1, d2] }
  | _ => none }
def fnExactFreePlacesRow : OpenClaim := { program := "ytconncpnjlgelaa", sum := "95aea4d36579201654972b2b3a4303bb9dcd55e363217519e087a672048205d5", func := "loop.example/g01222/laws.FnExactFreePlaces", spec := "fnExactFreePlaces", apart := false }
def FnExactFreePlacesSaid : Prop := fnExactFreePlacesRow.holds Try.pinned (OpenSpec.ofChange fnExactFreePlacesSpec)

/-- ITS FALSE NEIGHBOUR: 'it returns false'. Refute it at one input. -/
def fnExactFreePlacesWrong : ChangeSpec := { name := "fnExactFreePlaces", fn := fun _ => fun
  | [d1, d2] => { results := [.lit (.bool false)], args := [d1, d2] }
  | _ => none }
def FnExactFreePlacesWrongFalsely : Prop := fnExactFreePlacesRow.holds Try.pinned (OpenSpec.ofChange fnExactFreePlacesWrong)

/-- 'laws.FnExactSpeedEnergy': WHATEVER THE INPUT: true; the input reads as it did. -/
def fnExactSpeedEnergySpec : ChangeSpec := { name := "fnExactSpeedEnergy", fn := fun _ => fun
  | [d1, d2] => { results := [.lit (.bool true)], args := [d1, d2] }
  | _ => none }
def fnExactSpeedEnergyRow : OpenClaim := { program := "ytconncpnjlgelaa", sum := "95aea4d36579201654972b2b3a4303bb9dcd55e363217519e087a672048205d5", func := "loop.example/g01222/laws.FnExactSpeedEnergy", spec := "fnExactSpeedEnergy", apart := false }
def FnExactSpeedEnergySaid : Prop := fnExactSpeedEnergyRow.holds Try.pinned (OpenSpec.ofChange fnExactSpeedEnergySpec)

/-- ITS FALSE NEIGHBOUR: 'it returns false'. Refute it at one input. -/
def fnExactSpeedEnergyWrong : ChangeSpec := { name := "fnExactSpeedEnergy", fn := fun _ => fun
  | [d1, d2] => { results := [.lit (.bool false)], args := [d1, d2] }
  | _ => none }
def FnExactSpeedEnergyWrongFalsely : Prop := fnExactSpeedEnergyRow.holds Try.pinned (OpenSpec.ofChange fnExactSpeedEnergyWrong)

/-- 'laws.FnExactHoldForces': WHATEVER THE INPUT: true; the input reads as it did. -/
def fnExactHoldForcesSpec : ChangeSpec := { name := "fnExactHoldForces", fn := fun _ => fun
  | [d1, d2, d3] => { results := [.lit (.bool true)], args := [d1, d2, d3] }
  | _ => none }
def fnExactHoldForcesRow : OpenClaim := { program := "ytconncpnjlgelaa", sum := "95aea4d36579201654972b2b3a4303bb9dcd55e363217519e087a672048205d5", func := "loop.example/g01222/laws.FnExactHoldForces", spec := "fnExactHoldForces", apart := false }
def FnExactHoldForcesSaid : Prop := fnExactHoldForcesRow.holds Try.pinned (OpenSpec.ofChange fnExactHoldForcesSpec)

/-- ITS FALSE NEIGHBOUR: 'it returns false'. Refute it at one input. -/
def fnExactHoldForcesWrong : ChangeSpec := { name := "fnExactHoldForces", fn := fun _ => fun
  | [d1, d2, d3] => { results := [.lit (.bool false)], args := [d1, d2, d3] }
  | _ => none }
def FnExactHoldForcesWrongFalsely : Prop := fnExactHoldForcesRow.holds Try.pinned (OpenSpec.ofChange fnExactHoldForcesWrong)

/-- 'laws.FnExactBareBody': WHATEVER THE INPUT: true; the input reads as it did. -/
def fnExactBareBodySpec : ChangeSpec := { name := "fnExactBareBody", fn := fun _ => fun
  | [d] => { results := [.lit (.bool true)], args := [d] }
  | _ => none }
def fnExactBareBodyRow : OpenClaim := { program := "ytconncpnjlgelaa", sum := "95aea4d36579201654972b2b3a4303bb9dcd55e363217519e087a672048205d5", func := "loop.example/g01222/laws.FnExactBareBody", spec := "fnExactBareBody", apart := false }
def FnExactBareBodySaid : Prop := fnExactBareBodyRow.holds Try.pinned (OpenSpec.ofChange fnExactBareBodySpec)

/-- ITS FALSE NEIGHBOUR: 'it returns false'. Refute it at one input. -/
def fnExactBareBodyWrong : ChangeSpec := { name := "fnExactBareBody", fn := fun _ => fun
  | [d] => { results := [.lit (.bool false)], args := [d] }
  | _ => none }
def FnExactBareBodyWrongFalsely : Prop := fnExactBareBodyRow.holds Try.pinned (OpenSpec.ofChange fnExactBareBodyWrong)

/- THE SECOND FORM. 'bulk': how many values and letters a reading holds, each counted each time it is reached (what is shared counts as often as it is met; a slice's spare places count too). A statement '..UptoSaid' is the law's where the arguments, and the package variables that the reading takes, are together of bulk at most 1048576: NARROWER than '..Said'. Prove '..Said' where nothing that the law and all that it calls make is longer than what came in: it says more and counts as full. Else prove '..UptoSaid'. A law counts once. -/
mutual
def uptoBulk {H : Type} : DataW H → Nat
  | .lit (.string bytes) => bytes.length + 1
  | .lit _ => 1
  | .nil => 1
  | .ptr d => uptoBulk d + 1
  | .slice elems spare => uptoBulkAll elems + uptoBulkAll spare + 1
  | .agg parts => uptoBulkAll parts + 1
  | .iface _ d => uptoBulk d + 1
  | .map entries => uptoBulkEntries entries + 1
  | .held _ => 1
def uptoBulkAll {H : Type} : List (DataW H) → Nat
  | [] => 0
  | d :: r => uptoBulk d + uptoBulkAll r
def uptoBulkEntries {H : Type} : List (Lit × DataW H) → Nat
  | [] => 0
  | x :: r => uptoBulkEntry x + uptoBulkEntries r
def uptoBulkEntry {H : Type} : Lit × DataW H → Nat
  | (.string bytes, d) => bytes.length + uptoBulk d + 1
  | (_, d) => uptoBulk d + 1
 end
def uptoSmall : (H : Type) → List (DataW H) → Bool := fun _ ds => decide (uptoBulkAll ds ≤ 1048576)
def OpenSpec.upto (s : _root_.Go.ChangeSpec) : _root_.Go.OpenSpec := { _root_.Go.OpenSpec.ofChange s with cond := some uptoSmall }

/-- 'laws.FnExactGasEnergy', WHERE WHAT IT READS IS OF BULK AT MOST 1048576: true; the input reads as it did. -/
def fnExactGasEnergyUptoRow : OpenClaim := { program := "ytconncpnjlgelaa", sum := "95aea4d36579201654972b2b3a4303bb9dcd55e363217519e087a672048205d5", func := "loop.example/g01222/laws.FnExactGasEnergy", spec := "fnExactGasEnergy", inPlace := ["math.Float64frombits", "math.Float64bits"], apart := false, narrowed := true }
def FnExactGasEnergyUptoSaid : Prop := fnExactGasEnergyUptoRow.holds Try.pinned (OpenSpec.upto fnExactGasEnergySpec)

/-- 'laws.FnExactSameForm', WHERE WHAT IT READS IS OF BULK AT MOST 1048576: true; the input reads as it did. -/
def fnExactSameFormUptoRow : OpenClaim := { program := "ytconncpnjlgelaa", sum := "95aea4d36579201654972b2b3a4303bb9dcd55e363217519e087a672048205d5", func := "loop.example/g01222/laws.FnExactSameForm", spec := "fnExactSameForm", unfollowed := true, recurses := true, apart := false, narrowed := true }
def FnExactSameFormUptoSaid : Prop := fnExactSameFormUptoRow.holds Try.pinned (OpenSpec.upto fnExactSameFormSpec)

/-- 'laws.FnExactAreHolds', WHERE WHAT IT READS IS OF BULK AT MOST 1048576: true; the input reads as it did. -/
def fnExactAreHoldsUptoRow : OpenClaim := { program := "ytconncpnjlgelaa", sum := "95aea4d36579201654972b2b3a4303bb9dcd55e363217519e087a672048205d5", func := "loop.example/g01222/laws.FnExactAreHolds", spec := "fnExactAreHolds", apart := false, narrowed := true }
def FnExactAreHoldsUptoSaid : Prop := fnExactAreHoldsUptoRow.holds Try.pinned (OpenSpec.upto fnExactAreHoldsSpec)

/-- 'laws.FnExactGasForces', WHERE WHAT IT READS IS OF BULK AT MOST 1048576: true; the input reads as it did. -/
def fnExactGasForcesUptoRow : OpenClaim := { program := "ytconncpnjlgelaa", sum := "95aea4d36579201654972b2b3a4303bb9dcd55e363217519e087a672048205d5", func := "loop.example/g01222/laws.FnExactGasForces", spec := "fnExactGasForces", apart := false, narrowed := true }
def FnExactGasForcesUptoSaid : Prop := fnExactGasForcesUptoRow.holds Try.pinned (OpenSpec.upto fnExactGasForcesSpec)

/-- 'laws.FnExactValidBody', WHERE WHAT IT READS IS OF BULK AT MOST 1048576: true; the input reads as it did. -/
def fnExactValidBodyUptoRow : OpenClaim := { program := "ytconncpnjlgelaa", sum := "95aea4d36579201654972b2b3a4303bb9dcd55e363217519e087a672048205d5", func := "loop.example/g01222/laws.FnExactValidBody", spec := "fnExactValidBody", apart := false, narrowed := true }
def FnExactValidBodyUptoSaid : Prop := fnExactValidBodyUptoRow.holds Try.pinned (OpenSpec.upto fnExactValidBodySpec)

/-- 'laws.FnExactIsHeld', WHERE WHAT IT READS IS OF BULK AT MOST 1048576: true; the input reads as it did. -/
def fnExactIsHeldUptoRow : OpenClaim := { program := "ytconncpnjlgelaa", sum := "95aea4d36579201654972b2b3a4303bb9dcd55e363217519e087a672048205d5", func := "loop.example/g01222/laws.FnExactIsHeld", spec := "fnExactIsHeld", apart := false, narrowed := true }
def FnExactIsHeldUptoSaid : Prop := fnExactIsHeldUptoRow.holds Try.pinned (OpenSpec.upto fnExactIsHeldSpec)

/-- 'laws.FnExactValidMotion', WHERE WHAT IT READS IS OF BULK AT MOST 1048576: true; the input reads as it did. -/
def fnExactValidMotionUptoRow : OpenClaim := { program := "ytconncpnjlgelaa", sum := "95aea4d36579201654972b2b3a4303bb9dcd55e363217519e087a672048205d5", func := "loop.example/g01222/laws.FnExactValidMotion", spec := "fnExactValidMotion", apart := false, narrowed := true }
def FnExactValidMotionUptoSaid : Prop := fnExactValidMotionUptoRow.holds Try.pinned (OpenSpec.upto fnExactValidMotionSpec)

/-- 'laws.FnExactSameBody', WHERE WHAT IT READS IS OF BULK AT MOST 1048576: true; the input reads as it did. -/
def fnExactSameBodyUptoRow : OpenClaim := { program := "ytconncpnjlgelaa", sum := "95aea4d36579201654972b2b3a4303bb9dcd55e363217519e087a672048205d5", func := "loop.example/g01222/laws.FnExactSameBody", spec := "fnExactSameBody", inPlace := ["math.Float32bits", "math.Float64bits"], unfollowed := true, recurses := true, apart := false, narrowed := true }
def FnExactSameBodyUptoSaid : Prop := fnExactSameBodyUptoRow.holds Try.pinned (OpenSpec.upto fnExactSameBodySpec)

/-- 'laws.FnExactFreePlaces', WHERE WHAT IT READS IS OF BULK AT MOST 1048576: true; the input reads as it did. -/
def fnExactFreePlacesUptoRow : OpenClaim := { program := "ytconncpnjlgelaa", sum := "95aea4d36579201654972b2b3a4303bb9dcd55e363217519e087a672048205d5", func := "loop.example/g01222/laws.FnExactFreePlaces", spec := "fnExactFreePlaces", apart := false, narrowed := true }
def FnExactFreePlacesUptoSaid : Prop := fnExactFreePlacesUptoRow.holds Try.pinned (OpenSpec.upto fnExactFreePlacesSpec)

/-- 'laws.FnExactSpeedEnergy', WHERE WHAT IT READS IS OF BULK AT MOST 1048576: true; the input reads as it did. -/
def fnExactSpeedEnergyUptoRow : OpenClaim := { program := "ytconncpnjlgelaa", sum := "95aea4d36579201654972b2b3a4303bb9dcd55e363217519e087a672048205d5", func := "loop.example/g01222/laws.FnExactSpeedEnergy", spec := "fnExactSpeedEnergy", apart := false, narrowed := true }
def FnExactSpeedEnergyUptoSaid : Prop := fnExactSpeedEnergyUptoRow.holds Try.pinned (OpenSpec.upto fnExactSpeedEnergySpec)

/-- 'laws.FnExactHoldForces', WHERE WHAT IT READS IS OF BULK AT MOST 1048576: true; the input reads as it did. -/
def fnExactHoldForcesUptoRow : OpenClaim := { program := "ytconncpnjlgelaa", sum := "95aea4d36579201654972b2b3a4303bb9dcd55e363217519e087a672048205d5", func := "loop.example/g01222/laws.FnExactHoldForces", spec := "fnExactHoldForces", apart := false, narrowed := true }
def FnExactHoldForcesUptoSaid : Prop := fnExactHoldForcesUptoRow.holds Try.pinned (OpenSpec.upto fnExactHoldForcesSpec)

/-- 'laws.FnExactBareBody', WHERE WHAT IT READS IS OF BULK AT MOST 1048576: true; the input reads as it did. -/
def fnExactBareBodyUptoRow : OpenClaim := { program := "ytconncpnjlgelaa", sum := "95aea4d36579201654972b2b3a4303bb9dcd55e363217519e087a672048205d5", func := "loop.example/g01222/laws.FnExactBareBody", spec := "fnExactBareBody", apart := false, narrowed := true }
def FnExactBareBodyUptoSaid : Prop := fnExactBareBodyUptoRow.holds Try.pinned (OpenSpec.upto fnExactBareBodySpec)

end Rows
end Go.Proofs.Ytconncpnjlgelaa
