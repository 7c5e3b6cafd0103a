/-
  No cell of these rows narrows 'for every input' (looked for: loops, veiled, ifaces, maps, wideKeys, modest, calm, conditions, laid).
  DERIVED. THE GIVEN ROWS OF THIS SEAT. 6 by the template 'for every input the law returns true; each argument reads behind the call as it read before'; 0 by the template 'total and deterministic' (their statements: YtiddhiepmakopaaTotals.lean).
  GIVEN WITH THE SEED: the statements are not yours to turn. If you find one false, say at which input.
  Laid BY PROGRAM, IN A SANDBOX (cutbox-rows.mjs): the forced cells as the released guide's own fill.sh prints them over the translation 6a52b094ee43fcba… (all of the seat's roots in one cut). By AI agents, Wed Nov 11 2026. No macro, syntax, notation, axiom, sorry.
-/
import Derived.Test.YtiddhiepmakopaaChecked
import GoSem.Claim
import GoSem.ClaimJoined
import GoSem.ClaimMapViews
import Derived.JoinedTies
import Derived.KernelRfl
namespace Go.Proofs.Ytiddhiepmakopaa
/- THE CELL 'sum', in the pinned program and in every row, IS THE sha256 OF THE DUMP (.gsa) THAT YtiddhiepmakopaaProg.lean LOADS. Nothing in Lean hashes anything: it is a label: what it is worth is what the hold of that sum in a sandbox is worth. -/
noncomputable def Try.pinned : Pinned := { name := "ytiddhiepmakopaa", sum := "6a52b094ee43fcbae9826796b1f7052f8f6af3e028ee9274d5fa49963dd2d4f8", checked := Try.checked }
namespace Rows
def none {H : Type} : Left H := { results := [], args := [] }

/-- 'laws.FnExactGasEnergy': WHATEVER THE INPUT: true; the input reads as it did. -/
def fnExactGasEnergySpec : ChangeSpec := { name := "fnExactGasEnergy", fn := fun _ => fun
  | [d1, d2] => { results := [.lit (.bool true)], args := [d1, d2] }
  | _ => none }
def fnExactGasEnergyRow : OpenClaim := { program := "ytiddhiepmakopaa", sum := "6a52b094ee43fcbae9826796b1f7052f8f6af3e028ee9274d5fa49963dd2d4f8", func := "loop.example/g01222/laws.FnExactGasEnergy", spec := "fnExactGasEnergy", inPlace := ["math.Float64frombits", "math.Float64bits"], plainKeys := false, apart := false }
def FnExactGasEnergySaid : Prop := fnExactGasEnergyRow.holds Try.pinned (OpenSpec.ofChange fnExactGasEnergySpec)

/-- ITS FALSE NEIGHBOUR: 'it returns false'. Refute it at one input. -/
def fnExactGasEnergyWrong : ChangeSpec := { name := "fnExactGasEnergy", fn := fun _ => fun
  | [d1, d2] => { results := [.lit (.bool false)], args := [d1, d2] }
  | _ => none }
def FnExactGasEnergyWrongFalsely : Prop := fnExactGasEnergyRow.holds Try.pinned (OpenSpec.ofChange fnExactGasEnergyWrong)

/-- 'laws.FnExactKeepVolume': WHATEVER THE INPUT: true; the input reads as it did. -/
def fnExactKeepVolumeSpec : ChangeSpec := { name := "fnExactKeepVolume", fn := fun _ => fun
  | [d1, d2] => { results := [.lit (.bool true)], args := [d1, d2] }
  | _ => none }
def fnExactKeepVolumeRow : OpenClaim := { program := "ytiddhiepmakopaa", sum := "6a52b094ee43fcbae9826796b1f7052f8f6af3e028ee9274d5fa49963dd2d4f8", func := "loop.example/g01222/laws.FnExactKeepVolume", spec := "fnExactKeepVolume", inPlace := ["math.Float64frombits", "math.Float64bits"], unfollowed := true, recurses := true, plainKeys := false, apart := false }
def FnExactKeepVolumeSaid : Prop := fnExactKeepVolumeRow.holds Try.pinned (OpenSpec.ofChange fnExactKeepVolumeSpec)

/-- ITS FALSE NEIGHBOUR: 'it returns false'. Refute it at one input. -/
def fnExactKeepVolumeWrong : ChangeSpec := { name := "fnExactKeepVolume", fn := fun _ => fun
  | [d1, d2] => { results := [.lit (.bool false)], args := [d1, d2] }
  | _ => none }
def FnExactKeepVolumeWrongFalsely : Prop := fnExactKeepVolumeRow.holds Try.pinned (OpenSpec.ofChange fnExactKeepVolumeWrong)

/-- 'laws.FnExactIsClosed': WHATEVER THE INPUT: true; the input reads as it did. -/
def fnExactIsClosedSpec : ChangeSpec := { name := "fnExactIsClosed", fn := fun _ => fun
  | [d] => { results := [.lit (.bool true)], args := [d] }
  | _ => none }
def fnExactIsClosedRow : OpenClaim := { program := "ytiddhiepmakopaa", sum := "6a52b094ee43fcbae9826796b1f7052f8f6af3e028ee9274d5fa49963dd2d4f8", func := "loop.example/g01222/laws.FnExactIsClosed", spec := "fnExactIsClosed", unfollowed := true, recurses := true, plainKeys := false, apart := false }
def FnExactIsClosedSaid : Prop := fnExactIsClosedRow.holds Try.pinned (OpenSpec.ofChange fnExactIsClosedSpec)

/-- ITS FALSE NEIGHBOUR: 'it returns false'. Refute it at one input. -/
def fnExactIsClosedWrong : ChangeSpec := { name := "fnExactIsClosed", fn := fun _ => fun
  | [d] => { results := [.lit (.bool false)], args := [d] }
  | _ => none }
def FnExactIsClosedWrongFalsely : Prop := fnExactIsClosedRow.holds Try.pinned (OpenSpec.ofChange fnExactIsClosedWrong)

/-- 'laws.FnExactBorderOf': WHATEVER THE INPUT: true; the input reads as it did. -/
def fnExactBorderOfSpec : ChangeSpec := { name := "fnExactBorderOf", fn := fun _ => fun
  | [d] => { results := [.lit (.bool true)], args := [d] }
  | _ => none }
def fnExactBorderOfRow : OpenClaim := { program := "ytiddhiepmakopaa", sum := "6a52b094ee43fcbae9826796b1f7052f8f6af3e028ee9274d5fa49963dd2d4f8", func := "loop.example/g01222/laws.FnExactBorderOf", spec := "fnExactBorderOf", unfollowed := true, recurses := true, plainKeys := false, apart := false }
def FnExactBorderOfSaid : Prop := fnExactBorderOfRow.holds Try.pinned (OpenSpec.ofChange fnExactBorderOfSpec)

/-- ITS FALSE NEIGHBOUR: 'it returns false'. Refute it at one input. -/
def fnExactBorderOfWrong : ChangeSpec := { name := "fnExactBorderOf", fn := fun _ => fun
  | [d] => { results := [.lit (.bool false)], args := [d] }
  | _ => none }
def FnExactBorderOfWrongFalsely : Prop := fnExactBorderOfRow.holds Try.pinned (OpenSpec.ofChange fnExactBorderOfWrong)

/-- 'laws.FnExactBallMesh': WHATEVER THE INPUT: true; the input reads as it did. -/
def fnExactBallMeshSpec : ChangeSpec := { name := "fnExactBallMesh", fn := fun _ => fun
  | [d1, d2] => { results := [.lit (.bool true)], args := [d1, d2] }
  | _ => none }
def fnExactBallMeshRow : OpenClaim := { program := "ytiddhiepmakopaa", sum := "6a52b094ee43fcbae9826796b1f7052f8f6af3e028ee9274d5fa49963dd2d4f8", func := "loop.example/g01222/laws.FnExactBallMesh", spec := "fnExactBallMesh", inPlace := ["math.sqrt"], unfollowed := true, recurses := true, plainKeys := false, apart := false }
def FnExactBallMeshSaid : Prop := fnExactBallMeshRow.holds Try.pinned (OpenSpec.ofChange fnExactBallMeshSpec)

/-- ITS FALSE NEIGHBOUR: 'it returns false'. Refute it at one input. -/
def fnExactBallMeshWrong : ChangeSpec := { name := "fnExactBallMesh", fn := fun _ => fun
  | [d1, d2] => { results := [.lit (.bool false)], args := [d1, d2] }
  | _ => none }
def FnExactBallMeshWrongFalsely : Prop := fnExactBallMeshRow.holds Try.pinned (OpenSpec.ofChange fnExactBallMeshWrong)

/-- 'laws.FnExactHoldBorder': WHATEVER THE INPUT: true; the input reads as it did. -/
def fnExactHoldBorderSpec : ChangeSpec := { name := "fnExactHoldBorder", fn := fun _ => fun
  | [d] => { results := [.lit (.bool true)], args := [d] }
  | _ => none }
def fnExactHoldBorderRow : OpenClaim := { program := "ytiddhiepmakopaa", sum := "6a52b094ee43fcbae9826796b1f7052f8f6af3e028ee9274d5fa49963dd2d4f8", func := "loop.example/g01222/laws.FnExactHoldBorder", spec := "fnExactHoldBorder", unfollowed := true, recurses := true, plainKeys := false, apart := false }
def FnExactHoldBorderSaid : Prop := fnExactHoldBorderRow.holds Try.pinned (OpenSpec.ofChange fnExactHoldBorderSpec)

/-- ITS FALSE NEIGHBOUR: 'it returns false'. Refute it at one input. -/
def fnExactHoldBorderWrong : ChangeSpec := { name := "fnExactHoldBorder", fn := fun _ => fun
  | [d] => { results := [.lit (.bool false)], args := [d] }
  | _ => none }
def FnExactHoldBorderWrongFalsely : Prop := fnExactHoldBorderRow.holds Try.pinned (OpenSpec.ofChange fnExactHoldBorderWrong)

/- THE SECOND FORM. 'bulk': how many values and letters a reading holds, each counted each time it is reached (what is shared counts as often as it is met; a slice's spare places count too). A statement '..UptoSaid' is the law's where the arguments, and the package variables that the reading takes, are together of bulk at most 1048576: NARROWER than '..Said'. Prove '..Said' where nothing that the law and all that it calls make is longer than what came in: it says more and counts as full. Else prove '..UptoSaid'. A law counts once. -/
mutual
def uptoBulk {H : Type} : DataW H → Nat
  | .lit (.string bytes) => bytes.length + 1
  | .lit _ => 1
  | .nil => 1
  | .ptr d => uptoBulk d + 1
  | .slice elems spare => uptoBulkAll elems + uptoBulkAll spare + 1
  | .agg parts => uptoBulkAll parts + 1
  | .iface _ d => uptoBulk d + 1
  | .map entries => uptoBulkEntries entries + 1
  | .held _ => 1
def uptoBulkAll {H : Type} : List (DataW H) → Nat
  | [] => 0
  | d :: r => uptoBulk d + uptoBulkAll r
def uptoBulkEntries {H : Type} : List (Lit × DataW H) → Nat
  | [] => 0
  | x :: r => uptoBulkEntry x + uptoBulkEntries r
def uptoBulkEntry {H : Type} : Lit × DataW H → Nat
  | (.string bytes, d) => bytes.length + uptoBulk d + 1
  | (_, d) => uptoBulk d + 1
 end
def uptoSmall : (H : Type) → List (DataW H) → Bool := fun _ ds => decide (uptoBulkAll ds ≤ 1048576)
def OpenSpec.upto (s : _root_.Go.ChangeSpec) : _root_.Go.OpenSpec := { _root_.Go.OpenSpec.ofChange s with cond := some uptoSmall }

/-- 'laws.FnExactGasEnergy', WHERE WHAT IT READS IS OF BULK AT MOST 1048576: true; the input reads as it did. -/
def fnExactGasEnergyUptoRow : OpenClaim := { program := "ytiddhiepmakopaa", sum := "6a52b094ee43fcbae9826796b1f7052f8f6af3e028ee9274d5fa49963dd2d4f8", func := "loop.example/g01222/laws.FnExactGasEnergy", spec := "fnExactGasEnergy", inPlace := ["math.Float64frombits", "math.Float64bits"], plainKeys := false, apart := false, narrowed := true }
def FnExactGasEnergyUptoSaid : Prop := fnExactGasEnergyUptoRow.holds Try.pinned (OpenSpec.upto fnExactGasEnergySpec)

/-- 'laws.FnExactKeepVolume', WHERE WHAT IT READS IS OF BULK AT MOST 1048576: true; the input reads as it did. -/
def fnExactKeepVolumeUptoRow : OpenClaim := { program := "ytiddhiepmakopaa", sum := "6a52b094ee43fcbae9826796b1f7052f8f6af3e028ee9274d5fa49963dd2d4f8", func := "loop.example/g01222/laws.FnExactKeepVolume", spec := "fnExactKeepVolume", inPlace := ["math.Float64frombits", "math.Float64bits"], unfollowed := true, recurses := true, plainKeys := false, apart := false, narrowed := true }
def FnExactKeepVolumeUptoSaid : Prop := fnExactKeepVolumeUptoRow.holds Try.pinned (OpenSpec.upto fnExactKeepVolumeSpec)

/-- 'laws.FnExactIsClosed', WHERE WHAT IT READS IS OF BULK AT MOST 1048576: true; the input reads as it did. -/
def fnExactIsClosedUptoRow : OpenClaim := { program := "ytiddhiepmakopaa", sum := "6a52b094ee43fcbae9826796b1f7052f8f6af3e028ee9274d5fa49963dd2d4f8", func := "loop.example/g01222/laws.FnExactIsClosed", spec := "fnExactIsClosed", unfollowed := true, recurses := true, plainKeys := false, apart := false, narrowed := true }
def FnExactIsClosedUptoSaid : Prop := fnExactIsClosedUptoRow.holds Try.pinned (OpenSpec.upto fnExactIsClosedSpec)

/-- 'laws.FnExactBorderOf', WHERE WHAT IT READS IS OF BULK AT MOST 1048576: true; the input reads as it did. -/
def fnExactBorderOfUptoRow : OpenClaim := { program := "ytiddhiepmakopaa", sum := "6a52b094ee43fcbae9826796b1f7052f8f6af3e028ee9274d5fa49963dd2d4f8", func := "loop.example/g01222/laws.FnExactBorderOf", spec := "fnExactBorderOf", unfollowed := true, recurses := true, plainKeys := false, apart := false, narrowed := true }
def FnExactBorderOfUptoSaid : Prop := fnExactBorderOfUptoRow.holds Try.pinned (OpenSpec.upto fnExactBorderOfSpec)

/-- 'laws.FnExactBallMesh', WHERE WHAT IT READS IS OF BULK AT MOST 1048576: true; the input reads as it did. -/
def fnExactBallMeshUptoRow : OpenClaim := { program := "ytiddhiepmakopaa", sum := "6a52b094ee43fcbae9826796b1f7052f8f6af3e028ee9274d5fa49963dd2d4f8", func := "loop.example/g01222/laws.FnExactBallMesh", spec := "fnExactBallMesh", inPlace := ["math.sqrt"], unfollowed := true, recurses := true, plainKeys := false, apart := false, narrowed := true }
def FnExactBallMeshUptoSaid : Prop := fnExactBallMeshUptoRow.holds Try.pinned (OpenSpec.upto fnExactBallMeshSpec)

/-- 'laws.FnExactHoldBorder', WHERE WHAT IT READS IS OF BULK AT MOST 1048576: true; the input reads as it did. -/
def fnExactHoldBorderUptoRow : OpenClaim := { program := "ytiddhiepmakopaa", sum := "6a52b094ee43fcbae9826796b1f7052f8f6af3e028ee9274d5fa49963dd2d4f8", func := "loop.example/g01222/laws.FnExactHoldBorder", spec := "fnExactHoldBorder", unfollowed := true, recurses := true, plainKeys := false, apart := false, narrowed := true }
def FnExactHoldBorderUptoSaid : Prop := fnExactHoldBorderUptoRow.holds Try.pinned (OpenSpec.upto fnExactHoldBorderSpec)

end Rows
end Go.Proofs.Ytiddhiepmakopaa
