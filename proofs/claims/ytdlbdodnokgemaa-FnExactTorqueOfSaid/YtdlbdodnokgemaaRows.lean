/-
  No cell of these rows narrows 'for every input' (looked for: loops, veiled, ifaces, maps, wideKeys, modest, calm, conditions, laid).
  DERIVED. THE GIVEN ROWS OF THIS SEAT. 12 by the template 'for every input the law returns true; each argument reads behind the call as it read before'; 0 by the template 'total and deterministic' (their statements: YtdlbdodnokgemaaTotals.lean).
  GIVEN WITH THE SEED: the statements are not yours to turn. If you find one false, say at which input.
  Laid BY PROGRAM, IN A SANDBOX (cutbox-rows.mjs): the forced cells as the released guide's own fill.sh prints them over the translation 4e23f7a156fd3ee0… (all of the seat's roots in one cut). By AI agents, Wed Nov 11 2026. No macro, syntax, notation, axiom, sorry.
-/
import Derived.Test.YtdlbdodnokgemaaChecked
import GoSem.Claim
import GoSem.ClaimJoined
import GoSem.ClaimMapViews
import Derived.JoinedTies
import Derived.KernelRfl
namespace Go.Proofs.Ytdlbdodnokgemaa
/- THE CELL 'sum', in the pinned program and in every row, IS THE sha256 OF THE DUMP (.gsa) THAT YtdlbdodnokgemaaProg.lean LOADS. Nothing in Lean hashes anything: it is a label: what it is worth is what the hold of that sum in a sandbox is worth. -/
noncomputable def Try.pinned : Pinned := { name := "ytdlbdodnokgemaa", sum := "4e23f7a156fd3ee02574044f2491ba7f4ecc5b929798e12351147c57f1b2d60e", checked := Try.checked }
namespace Rows
def none {H : Type} : Left H := { results := [], args := [] }

/-- 'laws.FnExactPressureOf': WHATEVER THE INPUT: true; the input reads as it did. -/
def fnExactPressureOfSpec : ChangeSpec := { name := "fnExactPressureOf", fn := fun _ => fun
  | [d1, d2] => { results := [.lit (.bool true)], args := [d1, d2] }
  | _ => none }
def fnExactPressureOfRow : OpenClaim := { program := "ytdlbdodnokgemaa", sum := "4e23f7a156fd3ee02574044f2491ba7f4ecc5b929798e12351147c57f1b2d60e", func := "loop.example/g01222/laws.FnExactPressureOf", spec := "fnExactPressureOf", apart := false }
def FnExactPressureOfSaid : Prop := fnExactPressureOfRow.holds Try.pinned (OpenSpec.ofChange fnExactPressureOfSpec)

/-- ITS FALSE NEIGHBOUR: 'it returns false'. Refute it at one input. -/
def fnExactPressureOfWrong : ChangeSpec := { name := "fnExactPressureOf", fn := fun _ => fun
  | [d1, d2] => { results := [.lit (.bool false)], args := [d1, d2] }
  | _ => none }
def FnExactPressureOfWrongFalsely : Prop := fnExactPressureOfRow.holds Try.pinned (OpenSpec.ofChange fnExactPressureOfWrong)

/-- 'laws.FnExactIsHold': WHATEVER THE INPUT: true; the input reads as it did. -/
def fnExactIsHoldSpec : ChangeSpec := { name := "fnExactIsHold", fn := fun _ => fun
  | [d] => { results := [.lit (.bool true)], args := [d] }
  | _ => none }
def fnExactIsHoldRow : OpenClaim := { program := "ytdlbdodnokgemaa", sum := "4e23f7a156fd3ee02574044f2491ba7f4ecc5b929798e12351147c57f1b2d60e", func := "loop.example/g01222/laws.FnExactIsHold", spec := "fnExactIsHold", apart := false }
def FnExactIsHoldSaid : Prop := fnExactIsHoldRow.holds Try.pinned (OpenSpec.ofChange fnExactIsHoldSpec)

/-- ITS FALSE NEIGHBOUR: 'it returns false'. Refute it at one input. -/
def fnExactIsHoldWrong : ChangeSpec := { name := "fnExactIsHold", fn := fun _ => fun
  | [d] => { results := [.lit (.bool false)], args := [d] }
  | _ => none }
def FnExactIsHoldWrongFalsely : Prop := fnExactIsHoldRow.holds Try.pinned (OpenSpec.ofChange fnExactIsHoldWrong)

/-- 'laws.FnExactTotalOf': WHATEVER THE INPUT: true; the input reads as it did. -/
def fnExactTotalOfSpec : ChangeSpec := { name := "fnExactTotalOf", fn := fun _ => fun
  | [d] => { results := [.lit (.bool true)], args := [d] }
  | _ => none }
def fnExactTotalOfRow : OpenClaim := { program := "ytdlbdodnokgemaa", sum := "4e23f7a156fd3ee02574044f2491ba7f4ecc5b929798e12351147c57f1b2d60e", func := "loop.example/g01222/laws.FnExactTotalOf", spec := "fnExactTotalOf", apart := false }
def FnExactTotalOfSaid : Prop := fnExactTotalOfRow.holds Try.pinned (OpenSpec.ofChange fnExactTotalOfSpec)

/-- ITS FALSE NEIGHBOUR: 'it returns false'. Refute it at one input. -/
def fnExactTotalOfWrong : ChangeSpec := { name := "fnExactTotalOf", fn := fun _ => fun
  | [d] => { results := [.lit (.bool false)], args := [d] }
  | _ => none }
def FnExactTotalOfWrongFalsely : Prop := fnExactTotalOfRow.holds Try.pinned (OpenSpec.ofChange fnExactTotalOfWrong)

/-- 'laws.FnExactNetForce': WHATEVER THE INPUT: true; the input reads as it did. -/
def fnExactNetForceSpec : ChangeSpec := { name := "fnExactNetForce", fn := fun _ => fun
  | [d] => { results := [.lit (.bool true)], args := [d] }
  | _ => none }
def fnExactNetForceRow : OpenClaim := { program := "ytdlbdodnokgemaa", sum := "4e23f7a156fd3ee02574044f2491ba7f4ecc5b929798e12351147c57f1b2d60e", func := "loop.example/g01222/laws.FnExactNetForce", spec := "fnExactNetForce", apart := false }
def FnExactNetForceSaid : Prop := fnExactNetForceRow.holds Try.pinned (OpenSpec.ofChange fnExactNetForceSpec)

/-- ITS FALSE NEIGHBOUR: 'it returns false'. Refute it at one input. -/
def fnExactNetForceWrong : ChangeSpec := { name := "fnExactNetForce", fn := fun _ => fun
  | [d] => { results := [.lit (.bool false)], args := [d] }
  | _ => none }
def FnExactNetForceWrongFalsely : Prop := fnExactNetForceRow.holds Try.pinned (OpenSpec.ofChange fnExactNetForceWrong)

/-- 'laws.FnExactInnerAll': WHATEVER THE INPUT: true; the input reads as it did. -/
def fnExactInnerAllSpec : ChangeSpec := { name := "fnExactInnerAll", fn := fun _ => fun
  | [d1, d2] => { results := [.lit (.bool true)], args := [d1, d2] }
  | _ => none }
def fnExactInnerAllRow : OpenClaim := { program := "ytdlbdodnokgemaa", sum := "4e23f7a156fd3ee02574044f2491ba7f4ecc5b929798e12351147c57f1b2d60e", func := "loop.example/g01222/laws.FnExactInnerAll", spec := "fnExactInnerAll", apart := false }
def FnExactInnerAllSaid : Prop := fnExactInnerAllRow.holds Try.pinned (OpenSpec.ofChange fnExactInnerAllSpec)

/-- ITS FALSE NEIGHBOUR: 'it returns false'. Refute it at one input. -/
def fnExactInnerAllWrong : ChangeSpec := { name := "fnExactInnerAll", fn := fun _ => fun
  | [d1, d2] => { results := [.lit (.bool false)], args := [d1, d2] }
  | _ => none }
def FnExactInnerAllWrongFalsely : Prop := fnExactInnerAllRow.holds Try.pinned (OpenSpec.ofChange fnExactInnerAllWrong)

/-- 'laws.FnExactHoldForce': WHATEVER THE INPUT: true; the input reads as it did. -/
def fnExactHoldForceSpec : ChangeSpec := { name := "fnExactHoldForce", fn := fun _ => fun
  | [d1, d2] => { results := [.lit (.bool true)], args := [d1, d2] }
  | _ => none }
def fnExactHoldForceRow : OpenClaim := { program := "ytdlbdodnokgemaa", sum := "4e23f7a156fd3ee02574044f2491ba7f4ecc5b929798e12351147c57f1b2d60e", func := "loop.example/g01222/laws.FnExactHoldForce", spec := "fnExactHoldForce", apart := false }
def FnExactHoldForceSaid : Prop := fnExactHoldForceRow.holds Try.pinned (OpenSpec.ofChange fnExactHoldForceSpec)

/-- ITS FALSE NEIGHBOUR: 'it returns false'. Refute it at one input. -/
def fnExactHoldForceWrong : ChangeSpec := { name := "fnExactHoldForce", fn := fun _ => fun
  | [d1, d2] => { results := [.lit (.bool false)], args := [d1, d2] }
  | _ => none }
def FnExactHoldForceWrongFalsely : Prop := fnExactHoldForceRow.holds Try.pinned (OpenSpec.ofChange fnExactHoldForceWrong)

/-- 'laws.FnExactGasEnergy': WHATEVER THE INPUT: true; the input reads as it did. -/
def fnExactGasEnergySpec : ChangeSpec := { name := "fnExactGasEnergy", fn := fun _ => fun
  | [d1, d2] => { results := [.lit (.bool true)], args := [d1, d2] }
  | _ => none }
def fnExactGasEnergyRow : OpenClaim := { program := "ytdlbdodnokgemaa", sum := "4e23f7a156fd3ee02574044f2491ba7f4ecc5b929798e12351147c57f1b2d60e", func := "loop.example/g01222/laws.FnExactGasEnergy", spec := "fnExactGasEnergy", inPlace := ["math.Float64frombits", "math.Float64bits"], apart := false }
def FnExactGasEnergySaid : Prop := fnExactGasEnergyRow.holds Try.pinned (OpenSpec.ofChange fnExactGasEnergySpec)

/-- ITS FALSE NEIGHBOUR: 'it returns false'. Refute it at one input. -/
def fnExactGasEnergyWrong : ChangeSpec := { name := "fnExactGasEnergy", fn := fun _ => fun
  | [d1, d2] => { results := [.lit (.bool false)], args := [d1, d2] }
  | _ => none }
def FnExactGasEnergyWrongFalsely : Prop := fnExactGasEnergyRow.holds Try.pinned (OpenSpec.ofChange fnExactGasEnergyWrong)

/-- 'laws.FnExactHoldPlace': WHATEVER THE INPUT: true; the input reads as it did. -/
def fnExactHoldPlaceSpec : ChangeSpec := { name := "fnExactHoldPlace", fn := fun _ => fun
  | [d1, d2] => { results := [.lit (.bool true)], args := [d1, d2] }
  | _ => none }
def fnExactHoldPlaceRow : OpenClaim := { program := "ytdlbdodnokgemaa", sum := "4e23f7a156fd3ee02574044f2491ba7f4ecc5b929798e12351147c57f1b2d60e", func := "loop.example/g01222/laws.FnExactHoldPlace", spec := "fnExactHoldPlace", apart := false }
def FnExactHoldPlaceSaid : Prop := fnExactHoldPlaceRow.holds Try.pinned (OpenSpec.ofChange fnExactHoldPlaceSpec)

/-- ITS FALSE NEIGHBOUR: 'it returns false'. Refute it at one input. -/
def fnExactHoldPlaceWrong : ChangeSpec := { name := "fnExactHoldPlace", fn := fun _ => fun
  | [d1, d2] => { results := [.lit (.bool false)], args := [d1, d2] }
  | _ => none }
def FnExactHoldPlaceWrongFalsely : Prop := fnExactHoldPlaceRow.holds Try.pinned (OpenSpec.ofChange fnExactHoldPlaceWrong)

/-- 'laws.FnExactLongestOf': WHATEVER THE INPUT: true; the input reads as it did. -/
def fnExactLongestOfSpec : ChangeSpec := { name := "fnExactLongestOf", fn := fun _ => fun
  | [d] => { results := [.lit (.bool true)], args := [d] }
  | _ => none }
def fnExactLongestOfRow : OpenClaim := { program := "ytdlbdodnokgemaa", sum := "4e23f7a156fd3ee02574044f2491ba7f4ecc5b929798e12351147c57f1b2d60e", func := "loop.example/g01222/laws.FnExactLongestOf", spec := "fnExactLongestOf", inPlace := ["math.sqrt"], apart := false }
def FnExactLongestOfSaid : Prop := fnExactLongestOfRow.holds Try.pinned (OpenSpec.ofChange fnExactLongestOfSpec)

/-- ITS FALSE NEIGHBOUR: 'it returns false'. Refute it at one input. -/
def fnExactLongestOfWrong : ChangeSpec := { name := "fnExactLongestOf", fn := fun _ => fun
  | [d] => { results := [.lit (.bool false)], args := [d] }
  | _ => none }
def FnExactLongestOfWrongFalsely : Prop := fnExactLongestOfRow.holds Try.pinned (OpenSpec.ofChange fnExactLongestOfWrong)

/-- 'laws.FnExactCentreOf': WHATEVER THE INPUT: true; the input reads as it did. -/
def fnExactCentreOfSpec : ChangeSpec := { name := "fnExactCentreOf", fn := fun _ => fun
  | [d] => { results := [.lit (.bool true)], args := [d] }
  | _ => none }
def fnExactCentreOfRow : OpenClaim := { program := "ytdlbdodnokgemaa", sum := "4e23f7a156fd3ee02574044f2491ba7f4ecc5b929798e12351147c57f1b2d60e", func := "loop.example/g01222/laws.FnExactCentreOf", spec := "fnExactCentreOf", apart := false }
def FnExactCentreOfSaid : Prop := fnExactCentreOfRow.holds Try.pinned (OpenSpec.ofChange fnExactCentreOfSpec)

/-- ITS FALSE NEIGHBOUR: 'it returns false'. Refute it at one input. -/
def fnExactCentreOfWrong : ChangeSpec := { name := "fnExactCentreOf", fn := fun _ => fun
  | [d] => { results := [.lit (.bool false)], args := [d] }
  | _ => none }
def FnExactCentreOfWrongFalsely : Prop := fnExactCentreOfRow.holds Try.pinned (OpenSpec.ofChange fnExactCentreOfWrong)

/-- 'laws.FnExactTorqueOf': WHATEVER THE INPUT: true; the input reads as it did. -/
def fnExactTorqueOfSpec : ChangeSpec := { name := "fnExactTorqueOf", fn := fun _ => fun
  | [d1, d2] => { results := [.lit (.bool true)], args := [d1, d2] }
  | _ => none }
def fnExactTorqueOfRow : OpenClaim := { program := "ytdlbdodnokgemaa", sum := "4e23f7a156fd3ee02574044f2491ba7f4ecc5b929798e12351147c57f1b2d60e", func := "loop.example/g01222/laws.FnExactTorqueOf", spec := "fnExactTorqueOf", apart := false }
def FnExactTorqueOfSaid : Prop := fnExactTorqueOfRow.holds Try.pinned (OpenSpec.ofChange fnExactTorqueOfSpec)

/-- ITS FALSE NEIGHBOUR: 'it returns false'. Refute it at one input. -/
def fnExactTorqueOfWrong : ChangeSpec := { name := "fnExactTorqueOf", fn := fun _ => fun
  | [d1, d2] => { results := [.lit (.bool false)], args := [d1, d2] }
  | _ => none }
def FnExactTorqueOfWrongFalsely : Prop := fnExactTorqueOfRow.holds Try.pinned (OpenSpec.ofChange fnExactTorqueOfWrong)

/-- 'laws.FnExactVolumeOf': WHATEVER THE INPUT: true; the input reads as it did. -/
def fnExactVolumeOfSpec : ChangeSpec := { name := "fnExactVolumeOf", fn := fun _ => fun
  | [d] => { results := [.lit (.bool true)], args := [d] }
  | _ => none }
def fnExactVolumeOfRow : OpenClaim := { program := "ytdlbdodnokgemaa", sum := "4e23f7a156fd3ee02574044f2491ba7f4ecc5b929798e12351147c57f1b2d60e", func := "loop.example/g01222/laws.FnExactVolumeOf", spec := "fnExactVolumeOf", apart := false }
def FnExactVolumeOfSaid : Prop := fnExactVolumeOfRow.holds Try.pinned (OpenSpec.ofChange fnExactVolumeOfSpec)

/-- ITS FALSE NEIGHBOUR: 'it returns false'. Refute it at one input. -/
def fnExactVolumeOfWrong : ChangeSpec := { name := "fnExactVolumeOf", fn := fun _ => fun
  | [d] => { results := [.lit (.bool false)], args := [d] }
  | _ => none }
def FnExactVolumeOfWrongFalsely : Prop := fnExactVolumeOfRow.holds Try.pinned (OpenSpec.ofChange fnExactVolumeOfWrong)

/- THE SECOND FORM. 'bulk': how many values and letters a reading holds, each counted each time it is reached (what is shared counts as often as it is met; a slice's spare places count too). A statement '..UptoSaid' is the law's where the arguments, and the package variables that the reading takes, are together of bulk at most 1048576: NARROWER than '..Said'. Prove '..Said' where nothing that the law and all that it calls make is longer than what came in: it says more and counts as full. Else prove '..UptoSaid'. A law counts once. -/
mutual
def uptoBulk {H : Type} : DataW H → Nat
  | .lit (.string bytes) => bytes.length + 1
  | .lit _ => 1
  | .nil => 1
  | .ptr d => uptoBulk d + 1
  | .slice elems spare => uptoBulkAll elems + uptoBulkAll spare + 1
  | .agg parts => uptoBulkAll parts + 1
  | .iface _ d => uptoBulk d + 1
  | .map entries => uptoBulkEntries entries + 1
  | .held _ => 1
def uptoBulkAll {H : Type} : List (DataW H) → Nat
  | [] => 0
  | d :: r => uptoBulk d + uptoBulkAll r
def uptoBulkEntries {H : Type} : List (Lit × DataW H) → Nat
  | [] => 0
  | x :: r => uptoBulkEntry x + uptoBulkEntries r
def uptoBulkEntry {H : Type} : Lit × DataW H → Nat
  | (.string bytes, d) => bytes.length + uptoBulk d + 1
  | (_, d) => uptoBulk d + 1
 end
def uptoSmall : (H : Type) → List (DataW H) → Bool := fun _ ds => decide (uptoBulkAll ds ≤ 1048576)
def OpenSpec.upto (s : _root_.Go.ChangeSpec) : _root_.Go.OpenSpec := { _root_.Go.OpenSpec.ofChange s with cond := some uptoSmall }

/-- 'laws.FnExactPressureOf', WHERE WHAT IT READS IS OF BULK AT MOST 1048576: true; the input reads as it did. -/
def fnExactPressureOfUptoRow : OpenClaim := { program := "ytdlbdodnokgemaa", sum := "4e23f7a156fd3ee02574044f2491ba7f4ecc5b929798e12351147c57f1b2d60e", func := "loop.example/g01222/laws.FnExactPressureOf", spec := "fnExactPressureOf", apart := false, narrowed := true }
def FnExactPressureOfUptoSaid : Prop := fnExactPressureOfUptoRow.holds Try.pinned (OpenSpec.upto fnExactPressureOfSpec)

/-- 'laws.FnExactIsHold', WHERE WHAT IT READS IS OF BULK AT MOST 1048576: true; the input reads as it did. -/
def fnExactIsHoldUptoRow : OpenClaim := { program := "ytdlbdodnokgemaa", sum := "4e23f7a156fd3ee02574044f2491ba7f4ecc5b929798e12351147c57f1b2d60e", func := "loop.example/g01222/laws.FnExactIsHold", spec := "fnExactIsHold", apart := false, narrowed := true }
def FnExactIsHoldUptoSaid : Prop := fnExactIsHoldUptoRow.holds Try.pinned (OpenSpec.upto fnExactIsHoldSpec)

/-- 'laws.FnExactTotalOf', WHERE WHAT IT READS IS OF BULK AT MOST 1048576: true; the input reads as it did. -/
def fnExactTotalOfUptoRow : OpenClaim := { program := "ytdlbdodnokgemaa", sum := "4e23f7a156fd3ee02574044f2491ba7f4ecc5b929798e12351147c57f1b2d60e", func := "loop.example/g01222/laws.FnExactTotalOf", spec := "fnExactTotalOf", apart := false, narrowed := true }
def FnExactTotalOfUptoSaid : Prop := fnExactTotalOfUptoRow.holds Try.pinned (OpenSpec.upto fnExactTotalOfSpec)

/-- 'laws.FnExactNetForce', WHERE WHAT IT READS IS OF BULK AT MOST 1048576: true; the input reads as it did. -/
def fnExactNetForceUptoRow : OpenClaim := { program := "ytdlbdodnokgemaa", sum := "4e23f7a156fd3ee02574044f2491ba7f4ecc5b929798e12351147c57f1b2d60e", func := "loop.example/g01222/laws.FnExactNetForce", spec := "fnExactNetForce", apart := false, narrowed := true }
def FnExactNetForceUptoSaid : Prop := fnExactNetForceUptoRow.holds Try.pinned (OpenSpec.upto fnExactNetForceSpec)

/-- 'laws.FnExactInnerAll', WHERE WHAT IT READS IS OF BULK AT MOST 1048576: true; the input reads as it did. -/
def fnExactInnerAllUptoRow : OpenClaim := { program := "ytdlbdodnokgemaa", sum := "4e23f7a156fd3ee02574044f2491ba7f4ecc5b929798e12351147c57f1b2d60e", func := "loop.example/g01222/laws.FnExactInnerAll", spec := "fnExactInnerAll", apart := false, narrowed := true }
def FnExactInnerAllUptoSaid : Prop := fnExactInnerAllUptoRow.holds Try.pinned (OpenSpec.upto fnExactInnerAllSpec)

/-- 'laws.FnExactHoldForce', WHERE WHAT IT READS IS OF BULK AT MOST 1048576: true; the input reads as it did. -/
def fnExactHoldForceUptoRow : OpenClaim := { program := "ytdlbdodnokgemaa", sum := "4e23f7a156fd3ee02574044f2491ba7f4ecc5b929798e12351147c57f1b2d60e", func := "loop.example/g01222/laws.FnExactHoldForce", spec := "fnExactHoldForce", apart := false, narrowed := true }
def FnExactHoldForceUptoSaid : Prop := fnExactHoldForceUptoRow.holds Try.pinned (OpenSpec.upto fnExactHoldForceSpec)

/-- 'laws.FnExactGasEnergy', WHERE WHAT IT READS IS OF BULK AT MOST 1048576: true; the input reads as it did. -/
def fnExactGasEnergyUptoRow : OpenClaim := { program := "ytdlbdodnokgemaa", sum := "4e23f7a156fd3ee02574044f2491ba7f4ecc5b929798e12351147c57f1b2d60e", func := "loop.example/g01222/laws.FnExactGasEnergy", spec := "fnExactGasEnergy", inPlace := ["math.Float64frombits", "math.Float64bits"], apart := false, narrowed := true }
def FnExactGasEnergyUptoSaid : Prop := fnExactGasEnergyUptoRow.holds Try.pinned (OpenSpec.upto fnExactGasEnergySpec)

/-- 'laws.FnExactHoldPlace', WHERE WHAT IT READS IS OF BULK AT MOST 1048576: true; the input reads as it did. -/
def fnExactHoldPlaceUptoRow : OpenClaim := { program := "ytdlbdodnokgemaa", sum := "4e23f7a156fd3ee02574044f2491ba7f4ecc5b929798e12351147c57f1b2d60e", func := "loop.example/g01222/laws.FnExactHoldPlace", spec := "fnExactHoldPlace", apart := false, narrowed := true }
def FnExactHoldPlaceUptoSaid : Prop := fnExactHoldPlaceUptoRow.holds Try.pinned (OpenSpec.upto fnExactHoldPlaceSpec)

/-- 'laws.FnExactLongestOf', WHERE WHAT IT READS IS OF BULK AT MOST 1048576: true; the input reads as it did. -/
def fnExactLongestOfUptoRow : OpenClaim := { program := "ytdlbdodnokgemaa", sum := "4e23f7a156fd3ee02574044f2491ba7f4ecc5b929798e12351147c57f1b2d60e", func := "loop.example/g01222/laws.FnExactLongestOf", spec := "fnExactLongestOf", inPlace := ["math.sqrt"], apart := false, narrowed := true }
def FnExactLongestOfUptoSaid : Prop := fnExactLongestOfUptoRow.holds Try.pinned (OpenSpec.upto fnExactLongestOfSpec)

/-- 'laws.FnExactCentreOf', WHERE WHAT IT READS IS OF BULK AT MOST 1048576: true; the input reads as it did. -/
def fnExactCentreOfUptoRow : OpenClaim := { program := "ytdlbdodnokgemaa", sum := "4e23f7a156fd3ee02574044f2491ba7f4ecc5b929798e12351147c57f1b2d60e", func := "loop.example/g01222/laws.FnExactCentreOf", spec := "fnExactCentreOf", apart := false, narrowed := true }
def FnExactCentreOfUptoSaid : Prop := fnExactCentreOfUptoRow.holds Try.pinned (OpenSpec.upto fnExactCentreOfSpec)

/-- 'laws.FnExactTorqueOf', WHERE WHAT IT READS IS OF BULK AT MOST 1048576: true; the input reads as it did. -/
def fnExactTorqueOfUptoRow : OpenClaim := { program := "ytdlbdodnokgemaa", sum := "4e23f7a156fd3ee02574044f2491ba7f4ecc5b929798e12351147c57f1b2d60e", func := "loop.example/g01222/laws.FnExactTorqueOf", spec := "fnExactTorqueOf", apart := false, narrowed := true }
def FnExactTorqueOfUptoSaid : Prop := fnExactTorqueOfUptoRow.holds Try.pinned (OpenSpec.upto fnExactTorqueOfSpec)

/-- 'laws.FnExactVolumeOf', WHERE WHAT IT READS IS OF BULK AT MOST 1048576: true; the input reads as it did. -/
def fnExactVolumeOfUptoRow : OpenClaim := { program := "ytdlbdodnokgemaa", sum := "4e23f7a156fd3ee02574044f2491ba7f4ecc5b929798e12351147c57f1b2d60e", func := "loop.example/g01222/laws.FnExactVolumeOf", spec := "fnExactVolumeOf", apart := false, narrowed := true }
def FnExactVolumeOfUptoSaid : Prop := fnExactVolumeOfUptoRow.holds Try.pinned (OpenSpec.upto fnExactVolumeOfSpec)

end Rows
end Go.Proofs.Ytdlbdodnokgemaa
