/-
  No cell of these rows narrows 'for every input' (looked for: loops, veiled, ifaces, maps, wideKeys, modest, calm, conditions, laid).
  DERIVED. THE GIVEN ROWS OF THIS SEAT. 8 by the template 'for every input the law returns true; each argument reads behind the call as it read before'; 0 by the template 'total and deterministic' (their statements: YtceihfmhaojohaaTotals.lean).
  GIVEN WITH THE SEED: the statements are not yours to turn. If you find one false, say at which input.
  Laid BY PROGRAM, IN A SANDBOX (cutbox-rows.mjs): the forced cells as the released guide's own fill.sh prints them over the translation 7e41a8edd12b3308… (all of the seat's roots in one cut). By AI agents, Wed Nov 11 2026. No macro, syntax, notation, axiom, sorry.
-/
import Derived.Test.YtceihfmhaojohaaChecked
import GoSem.Claim
import GoSem.ClaimJoined
import GoSem.ClaimMapViews
import Derived.JoinedTies
import Derived.KernelRfl
namespace Go.Proofs.Ytceihfmhaojohaa
/- THE CELL 'sum', in the pinned program and in every row, IS THE sha256 OF THE DUMP (.gsa) THAT YtceihfmhaojohaaProg.lean LOADS. Nothing in Lean hashes anything: it is a label: what it is worth is what the hold of that sum in a sandbox is worth. -/
noncomputable def Try.pinned : Pinned := { name := "ytceihfmhaojohaa", sum := "7e41a8edd12b330816c67f5ce910c436e07f0bbee20ce82c270c7d5d8fdc8652", checked := Try.checked }
namespace Rows
def none {H : Type} : Left H := { results := [], args := [] }

/-- 'laws.FnExactOffHolds': WHATEVER THE INPUT: true; the input reads as it did. -/
def fnExactOffHoldsSpec : ChangeSpec := { name := "fnExactOffHolds", fn := fun _ => fun
  | [d1, d2] => { results := [.lit (.bool true)], args := [d1, d2] }
  | _ => none }
def fnExactOffHoldsRow : OpenClaim := { program := "ytceihfmhaojohaa", sum := "7e41a8edd12b330816c67f5ce910c436e07f0bbee20ce82c270c7d5d8fdc8652", func := "loop.example/g01222/laws.FnExactOffHolds", spec := "fnExactOffHolds", inPlace := ["math.sqrt"], plainKeys := false, apart := false }
def FnExactOffHoldsSaid : Prop := fnExactOffHoldsRow.holds Try.pinned (OpenSpec.ofChange fnExactOffHoldsSpec)

/-- ITS FALSE NEIGHBOUR: 'it returns false'. Refute it at one input. -/
def fnExactOffHoldsWrong : ChangeSpec := { name := "fnExactOffHolds", fn := fun _ => fun
  | [d1, d2] => { results := [.lit (.bool false)], args := [d1, d2] }
  | _ => none }
def FnExactOffHoldsWrongFalsely : Prop := fnExactOffHoldsRow.holds Try.pinned (OpenSpec.ofChange fnExactOffHoldsWrong)

/-- 'laws.FnExactHoldMesh': WHATEVER THE INPUT: true; the input reads as it did. -/
def fnExactHoldMeshSpec : ChangeSpec := { name := "fnExactHoldMesh", fn := fun _ => fun
  | [d1, d2] => { results := [.lit (.bool true)], args := [d1, d2] }
  | _ => none }
def fnExactHoldMeshRow : OpenClaim := { program := "ytceihfmhaojohaa", sum := "7e41a8edd12b330816c67f5ce910c436e07f0bbee20ce82c270c7d5d8fdc8652", func := "loop.example/g01222/laws.FnExactHoldMesh", spec := "fnExactHoldMesh", plainKeys := false, apart := false }
def FnExactHoldMeshSaid : Prop := fnExactHoldMeshRow.holds Try.pinned (OpenSpec.ofChange fnExactHoldMeshSpec)

/-- ITS FALSE NEIGHBOUR: 'it returns false'. Refute it at one input. -/
def fnExactHoldMeshWrong : ChangeSpec := { name := "fnExactHoldMesh", fn := fun _ => fun
  | [d1, d2] => { results := [.lit (.bool false)], args := [d1, d2] }
  | _ => none }
def FnExactHoldMeshWrongFalsely : Prop := fnExactHoldMeshRow.holds Try.pinned (OpenSpec.ofChange fnExactHoldMeshWrong)

/-- 'laws.FnExactPullOf': WHATEVER THE INPUT: true; the input reads as it did. -/
def fnExactPullOfSpec : ChangeSpec := { name := "fnExactPullOf", fn := fun _ => fun
  | [d1, d2] => { results := [.lit (.bool true)], args := [d1, d2] }
  | _ => none }
def fnExactPullOfRow : OpenClaim := { program := "ytceihfmhaojohaa", sum := "7e41a8edd12b330816c67f5ce910c436e07f0bbee20ce82c270c7d5d8fdc8652", func := "loop.example/g01222/laws.FnExactPullOf", spec := "fnExactPullOf", inPlace := ["math.sqrt"], plainKeys := false, apart := false }
def FnExactPullOfSaid : Prop := fnExactPullOfRow.holds Try.pinned (OpenSpec.ofChange fnExactPullOfSpec)

/-- ITS FALSE NEIGHBOUR: 'it returns false'. Refute it at one input. -/
def fnExactPullOfWrong : ChangeSpec := { name := "fnExactPullOf", fn := fun _ => fun
  | [d1, d2] => { results := [.lit (.bool false)], args := [d1, d2] }
  | _ => none }
def FnExactPullOfWrongFalsely : Prop := fnExactPullOfRow.holds Try.pinned (OpenSpec.ofChange fnExactPullOfWrong)

/-- 'laws.FnExactKeepVolume': WHATEVER THE INPUT: true; the input reads as it did. -/
def fnExactKeepVolumeSpec : ChangeSpec := { name := "fnExactKeepVolume", fn := fun _ => fun
  | [d1, d2] => { results := [.lit (.bool true)], args := [d1, d2] }
  | _ => none }
def fnExactKeepVolumeRow : OpenClaim := { program := "ytceihfmhaojohaa", sum := "7e41a8edd12b330816c67f5ce910c436e07f0bbee20ce82c270c7d5d8fdc8652", func := "loop.example/g01222/laws.FnExactKeepVolume", spec := "fnExactKeepVolume", inPlace := ["math.Float64frombits", "math.Float64bits"], unfollowed := true, recurses := true, plainKeys := false, apart := false }
def FnExactKeepVolumeSaid : Prop := fnExactKeepVolumeRow.holds Try.pinned (OpenSpec.ofChange fnExactKeepVolumeSpec)

/-- ITS FALSE NEIGHBOUR: 'it returns false'. Refute it at one input. -/
def fnExactKeepVolumeWrong : ChangeSpec := { name := "fnExactKeepVolume", fn := fun _ => fun
  | [d1, d2] => { results := [.lit (.bool false)], args := [d1, d2] }
  | _ => none }
def FnExactKeepVolumeWrongFalsely : Prop := fnExactKeepVolumeRow.holds Try.pinned (OpenSpec.ofChange fnExactKeepVolumeWrong)

/-- 'laws.FnExactStretchesOf': WHATEVER THE INPUT: true; the input reads as it did. -/
def fnExactStretchesOfSpec : ChangeSpec := { name := "fnExactStretchesOf", fn := fun _ => fun
  | [d] => { results := [.lit (.bool true)], args := [d] }
  | _ => none }
def fnExactStretchesOfRow : OpenClaim := { program := "ytceihfmhaojohaa", sum := "7e41a8edd12b330816c67f5ce910c436e07f0bbee20ce82c270c7d5d8fdc8652", func := "loop.example/g01222/laws.FnExactStretchesOf", spec := "fnExactStretchesOf", inPlace := ["math.sqrt"], plainKeys := false, apart := false }
def FnExactStretchesOfSaid : Prop := fnExactStretchesOfRow.holds Try.pinned (OpenSpec.ofChange fnExactStretchesOfSpec)

/-- ITS FALSE NEIGHBOUR: 'it returns false'. Refute it at one input. -/
def fnExactStretchesOfWrong : ChangeSpec := { name := "fnExactStretchesOf", fn := fun _ => fun
  | [d] => { results := [.lit (.bool false)], args := [d] }
  | _ => none }
def FnExactStretchesOfWrongFalsely : Prop := fnExactStretchesOfRow.holds Try.pinned (OpenSpec.ofChange fnExactStretchesOfWrong)

/-- 'laws.FnExactStillMotion': WHATEVER THE INPUT: true; the input reads as it did. -/
def fnExactStillMotionSpec : ChangeSpec := { name := "fnExactStillMotion", fn := fun _ => fun
  | [d] => { results := [.lit (.bool true)], args := [d] }
  | _ => none }
def fnExactStillMotionRow : OpenClaim := { program := "ytceihfmhaojohaa", sum := "7e41a8edd12b330816c67f5ce910c436e07f0bbee20ce82c270c7d5d8fdc8652", func := "loop.example/g01222/laws.FnExactStillMotion", spec := "fnExactStillMotion", plainKeys := false, apart := false }
def FnExactStillMotionSaid : Prop := fnExactStillMotionRow.holds Try.pinned (OpenSpec.ofChange fnExactStillMotionSpec)

/-- ITS FALSE NEIGHBOUR: 'it returns false'. Refute it at one input. -/
def fnExactStillMotionWrong : ChangeSpec := { name := "fnExactStillMotion", fn := fun _ => fun
  | [d] => { results := [.lit (.bool false)], args := [d] }
  | _ => none }
def FnExactStillMotionWrongFalsely : Prop := fnExactStillMotionRow.holds Try.pinned (OpenSpec.ofChange fnExactStillMotionWrong)

/-- 'laws.FnExactMovePlaces': WHATEVER THE INPUT: true; the input reads as it did. -/
def fnExactMovePlacesSpec : ChangeSpec := { name := "fnExactMovePlaces", fn := fun _ => fun
  | [d1, d2, d3] => { results := [.lit (.bool true)], args := [d1, d2, d3] }
  | _ => none }
def fnExactMovePlacesRow : OpenClaim := { program := "ytceihfmhaojohaa", sum := "7e41a8edd12b330816c67f5ce910c436e07f0bbee20ce82c270c7d5d8fdc8652", func := "loop.example/g01222/laws.FnExactMovePlaces", spec := "fnExactMovePlaces", plainKeys := false, apart := false }
def FnExactMovePlacesSaid : Prop := fnExactMovePlacesRow.holds Try.pinned (OpenSpec.ofChange fnExactMovePlacesSpec)

/-- ITS FALSE NEIGHBOUR: 'it returns false'. Refute it at one input. -/
def fnExactMovePlacesWrong : ChangeSpec := { name := "fnExactMovePlaces", fn := fun _ => fun
  | [d1, d2, d3] => { results := [.lit (.bool false)], args := [d1, d2, d3] }
  | _ => none }
def FnExactMovePlacesWrongFalsely : Prop := fnExactMovePlacesRow.holds Try.pinned (OpenSpec.ofChange fnExactMovePlacesWrong)

/-- 'laws.FnExactEnergyOf': WHATEVER THE INPUT: true; the input reads as it did. -/
def fnExactEnergyOfSpec : ChangeSpec := { name := "fnExactEnergyOf", fn := fun _ => fun
  | [d] => { results := [.lit (.bool true)], args := [d] }
  | _ => none }
def fnExactEnergyOfRow : OpenClaim := { program := "ytceihfmhaojohaa", sum := "7e41a8edd12b330816c67f5ce910c436e07f0bbee20ce82c270c7d5d8fdc8652", func := "loop.example/g01222/laws.FnExactEnergyOf", spec := "fnExactEnergyOf", inPlace := ["math.sqrt"], unfollowed := true, recurses := true, plainKeys := false, apart := false }
def FnExactEnergyOfSaid : Prop := fnExactEnergyOfRow.holds Try.pinned (OpenSpec.ofChange fnExactEnergyOfSpec)

/-- ITS FALSE NEIGHBOUR: 'it returns false'. Refute it at one input. -/
def fnExactEnergyOfWrong : ChangeSpec := { name := "fnExactEnergyOf", fn := fun _ => fun
  | [d] => { results := [.lit (.bool false)], args := [d] }
  | _ => none }
def FnExactEnergyOfWrongFalsely : Prop := fnExactEnergyOfRow.holds Try.pinned (OpenSpec.ofChange fnExactEnergyOfWrong)

/- THE SECOND FORM. 'bulk': how many values and letters a reading holds, each counted each time it is reached (what is shared counts as often as it is met; a slice's spare places count too). A statement '..UptoSaid' is the law's where the arguments, and the package variables that the reading takes, are together of bulk at most 1048576: NARROWER than '..Said'. Prove '..Said' where nothing that the law and all that it calls make is longer than what came in: it says more and counts as full. Else prove '..UptoSaid'. A law counts once. -/
mutual
def uptoBulk {H : Type} : DataW H → Nat
  | .lit (.string bytes) => bytes.length + 1
  | .lit _ => 1
  | .nil => 1
  | .ptr d => uptoBulk d + 1
  | .slice elems spare => uptoBulkAll elems + uptoBulkAll spare + 1
  | .agg parts => uptoBulkAll parts + 1
  | .iface _ d => uptoBulk d + 1
  | .map entries => uptoBulkEntries entries + 1
  | .held _ => 1
def uptoBulkAll {H : Type} : List (DataW H) → Nat
  | [] => 0
  | d :: r => uptoBulk d + uptoBulkAll r
def uptoBulkEntries {H : Type} : List (Lit × DataW H) → Nat
  | [] => 0
  | x :: r => uptoBulkEntry x + uptoBulkEntries r
def uptoBulkEntry {H : Type} : Lit × DataW H → Nat
  | (.string bytes, d) => bytes.length + uptoBulk d + 1
  | (_, d) => uptoBulk d + 1
 end
def uptoSmall : (H : Type) → List (DataW H) → Bool := fun _ ds => decide (uptoBulkAll ds ≤ 1048576)
def OpenSpec.upto (s : _root_.Go.ChangeSpec) : _root_.Go.OpenSpec := { _root_.Go.OpenSpec.ofChange s with cond := some uptoSmall }

/-- 'laws.FnExactOffHolds', WHERE WHAT IT READS IS OF BULK AT MOST 1048576: true; the input reads as it did. -/
def fnExactOffHoldsUptoRow : OpenClaim := { program := "ytceihfmhaojohaa", sum := "7e41a8edd12b330816c67f5ce910c436e07f0bbee20ce82c270c7d5d8fdc8652", func := "loop.example/g01222/laws.FnExactOffHolds", spec := "fnExactOffHolds", inPlace := ["math.sqrt"], plainKeys := false, apart := false, narrowed := true }
def FnExactOffHoldsUptoSaid : Prop := fnExactOffHoldsUptoRow.holds Try.pinned (OpenSpec.upto fnExactOffHoldsSpec)

/-- 'laws.FnExactHoldMesh', WHERE WHAT IT READS IS OF BULK AT MOST 1048576: true; the input reads as it did. -/
def fnExactHoldMeshUptoRow : OpenClaim := { program := "ytceihfmhaojohaa", sum := "7e41a8edd12b330816c67f5ce910c436e07f0bbee20ce82c270c7d5d8fdc8652", func := "loop.example/g01222/laws.FnExactHoldMesh", spec := "fnExactHoldMesh", plainKeys := false, apart := false, narrowed := true }
def FnExactHoldMeshUptoSaid : Prop := fnExactHoldMeshUptoRow.holds Try.pinned (OpenSpec.upto fnExactHoldMeshSpec)

/-- 'laws.FnExactPullOf', WHERE WHAT IT READS IS OF BULK AT MOST 1048576: true; the input reads as it did. -/
def fnExactPullOfUptoRow : OpenClaim := { program := "ytceihfmhaojohaa", sum := "7e41a8edd12b330816c67f5ce910c436e07f0bbee20ce82c270c7d5d8fdc8652", func := "loop.example/g01222/laws.FnExactPullOf", spec := "fnExactPullOf", inPlace := ["math.sqrt"], plainKeys := false, apart := false, narrowed := true }
def FnExactPullOfUptoSaid : Prop := fnExactPullOfUptoRow.holds Try.pinned (OpenSpec.upto fnExactPullOfSpec)

/-- 'laws.FnExactKeepVolume', WHERE WHAT IT READS IS OF BULK AT MOST 1048576: true; the input reads as it did. -/
def fnExactKeepVolumeUptoRow : OpenClaim := { program := "ytceihfmhaojohaa", sum := "7e41a8edd12b330816c67f5ce910c436e07f0bbee20ce82c270c7d5d8fdc8652", func := "loop.example/g01222/laws.FnExactKeepVolume", spec := "fnExactKeepVolume", inPlace := ["math.Float64frombits", "math.Float64bits"], unfollowed := true, recurses := true, plainKeys := false, apart := false, narrowed := true }
def FnExactKeepVolumeUptoSaid : Prop := fnExactKeepVolumeUptoRow.holds Try.pinned (OpenSpec.upto fnExactKeepVolumeSpec)

/-- 'laws.FnExactStretchesOf', WHERE WHAT IT READS IS OF BULK AT MOST 1048576: true; the input reads as it did. -/
def fnExactStretchesOfUptoRow : OpenClaim := { program := "ytceihfmhaojohaa", sum := "7e41a8edd12b330816c67f5ce910c436e07f0bbee20ce82c270c7d5d8fdc8652", func := "loop.example/g01222/laws.FnExactStretchesOf", spec := "fnExactStretchesOf", inPlace := ["math.sqrt"], plainKeys := false, apart := false, narrowed := true }
def FnExactStretchesOfUptoSaid : Prop := fnExactStretchesOfUptoRow.holds Try.pinned (OpenSpec.upto fnExactStretchesOfSpec)

/-- 'laws.FnExactStillMotion', WHERE WHAT IT READS IS OF BULK AT MOST 1048576: true; the input reads as it did. -/
def fnExactStillMotionUptoRow : OpenClaim := { program := "ytceihfmhaojohaa", sum := "7e41a8edd12b330816c67f5ce910c436e07f0bbee20ce82c270c7d5d8fdc8652", func := "loop.example/g01222/laws.FnExactStillMotion", spec := "fnExactStillMotion", plainKeys := false, apart := false, narrowed := true }
def FnExactStillMotionUptoSaid : Prop := fnExactStillMotionUptoRow.holds Try.pinned (OpenSpec.upto fnExactStillMotionSpec)

/-- 'laws.FnExactMovePlaces', WHERE WHAT IT READS IS OF BULK AT MOST 1048576: true; the input reads as it did. -/
def fnExactMovePlacesUptoRow : OpenClaim := { program := "ytceihfmhaojohaa", sum := "7e41a8edd12b330816c67f5ce910c436e07f0bbee20ce82c270c7d5d8fdc8652", func := "loop.example/g01222/laws.FnExactMovePlaces", spec := "fnExactMovePlaces", plainKeys := false, apart := false, narrowed := true }
def FnExactMovePlacesUptoSaid : Prop := fnExactMovePlacesUptoRow.holds Try.pinned (OpenSpec.upto fnExactMovePlacesSpec)

/-- 'laws.FnExactEnergyOf', WHERE WHAT IT READS IS OF BULK AT MOST 1048576: true; the input reads as it did. -/
def fnExactEnergyOfUptoRow : OpenClaim := { program := "ytceihfmhaojohaa", sum := "7e41a8edd12b330816c67f5ce910c436e07f0bbee20ce82c270c7d5d8fdc8652", func := "loop.example/g01222/laws.FnExactEnergyOf", spec := "fnExactEnergyOf", inPlace := ["math.sqrt"], unfollowed := true, recurses := true, plainKeys := false, apart := false, narrowed := true }
def FnExactEnergyOfUptoSaid : Prop := fnExactEnergyOfUptoRow.holds Try.pinned (OpenSpec.upto fnExactEnergyOfSpec)

end Rows
end Go.Proofs.Ytceihfmhaojohaa
