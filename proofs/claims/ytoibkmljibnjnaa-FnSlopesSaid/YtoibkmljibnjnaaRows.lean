/-
  No cell of these rows narrows 'for every input' (looked for: loops, veiled, ifaces, maps, wideKeys, modest, calm, conditions, laid).
  DERIVED. THE GIVEN ROWS OF THIS SEAT. 5 by the template 'for every input the law returns true; each argument reads behind the call as it read before'; 0 by the template 'total and deterministic' (their statements: YtoibkmljibnjnaaTotals.lean).
  GIVEN WITH THE SEED: the statements are not yours to turn. If you find one false, say at which input.
  Laid BY PROGRAM, IN A SANDBOX (cutbox-rows.mjs): the forced cells as the released guide's own fill.sh prints them over the translation ea90904752689b46… (all of the seat's roots in one cut). By AI agents, Wed Nov 11 2026. No macro, syntax, notation, axiom, sorry.
-/
import Derived.Test.YtoibkmljibnjnaaChecked
import GoSem.Claim
import GoSem.ClaimJoined
import GoSem.ClaimMapViews
import Derived.JoinedTies
import Derived.KernelRfl
namespace Go.Proofs.Ytoibkmljibnjnaa
/- THE CELL 'sum', in the pinned program and in every row, IS THE sha256 OF THE DUMP (.gsa) THAT YtoibkmljibnjnaaProg.lean LOADS. Nothing in Lean hashes anything: it is a label: what it is worth is what the hold of that sum in a sandbox is worth. -/
noncomputable def Try.pinned : Pinned := { name := "ytoibkmljibnjnaa", sum := "ea90904752689b46a47cf143f42e2fa27fd4cddf5d77418f474dc42360ecfc0e", checked := Try.checked }
namespace Rows
def none {H : Type} : Left H := { results := [], args := [] }

/-- 'laws.FnSlopes': WHATEVER THE INPUT: true; the input reads as it did. -/
def fnSlopesSpec : ChangeSpec := { name := "fnSlopes", fn := fun _ => fun
  | [d1, d2] => { results := [.lit (.bool true)], args := [d1, d2] }
  | _ => none }
def fnSlopesRow : OpenClaim := { program := "ytoibkmljibnjnaa", sum := "ea90904752689b46a47cf143f42e2fa27fd4cddf5d77418f474dc42360ecfc0e", func := "loop.example/g01222/laws.FnSlopes", spec := "fnSlopes", inPlace := ["math.sqrt"], unfollowed := true, recurses := true, plainKeys := false, apart := false }
def FnSlopesSaid : Prop := fnSlopesRow.holds Try.pinned (OpenSpec.ofChange fnSlopesSpec)

/-- ITS FALSE NEIGHBOUR: 'it returns false'. Refute it at one input. -/
def fnSlopesWrong : ChangeSpec := { name := "fnSlopes", fn := fun _ => fun
  | [d1, d2] => { results := [.lit (.bool false)], args := [d1, d2] }
  | _ => none }
def FnSlopesWrongFalsely : Prop := fnSlopesRow.holds Try.pinned (OpenSpec.ofChange fnSlopesWrong)

/-- 'laws.FnVolumes': WHATEVER THE INPUT: true; the input reads as it did. -/
def fnVolumesSpec : ChangeSpec := { name := "fnVolumes", fn := fun _ => fun
  | [d1, d2] => { results := [.lit (.bool true)], args := [d1, d2] }
  | _ => none }
def fnVolumesRow : OpenClaim := { program := "ytoibkmljibnjnaa", sum := "ea90904752689b46a47cf143f42e2fa27fd4cddf5d77418f474dc42360ecfc0e", func := "loop.example/g01222/laws.FnVolumes", spec := "fnVolumes", inPlace := ["math.Float64frombits", "math.sqrt"], unfollowed := true, recurses := true, plainKeys := false, apart := false }
def FnVolumesSaid : Prop := fnVolumesRow.holds Try.pinned (OpenSpec.ofChange fnVolumesSpec)

/-- ITS FALSE NEIGHBOUR: 'it returns false'. Refute it at one input. -/
def fnVolumesWrong : ChangeSpec := { name := "fnVolumes", fn := fun _ => fun
  | [d1, d2] => { results := [.lit (.bool false)], args := [d1, d2] }
  | _ => none }
def FnVolumesWrongFalsely : Prop := fnVolumesRow.holds Try.pinned (OpenSpec.ofChange fnVolumesWrong)

/-- 'laws.FnForms': WHATEVER THE INPUT: true; the input reads as it did. -/
def fnFormsSpec : ChangeSpec := { name := "fnForms", fn := fun _ => fun
  | [d1, d2] => { results := [.lit (.bool true)], args := [d1, d2] }
  | _ => none }
def fnFormsRow : OpenClaim := { program := "ytoibkmljibnjnaa", sum := "ea90904752689b46a47cf143f42e2fa27fd4cddf5d77418f474dc42360ecfc0e", func := "loop.example/g01222/laws.FnForms", spec := "fnForms", inPlace := ["math.Float64frombits", "math.Float64bits", "math.sqrt"], unfollowed := true, recurses := true, plainKeys := false, apart := false }
def FnFormsSaid : Prop := fnFormsRow.holds Try.pinned (OpenSpec.ofChange fnFormsSpec)

/-- ITS FALSE NEIGHBOUR: 'it returns false'. Refute it at one input. -/
def fnFormsWrong : ChangeSpec := { name := "fnForms", fn := fun _ => fun
  | [d1, d2] => { results := [.lit (.bool false)], args := [d1, d2] }
  | _ => none }
def FnFormsWrongFalsely : Prop := fnFormsRow.holds Try.pinned (OpenSpec.ofChange fnFormsWrong)

/-- 'laws.FnEnergies': WHATEVER THE INPUT: true; the input reads as it did. -/
def fnEnergiesSpec : ChangeSpec := { name := "fnEnergies", fn := fun _ => fun
  | [d1, d2] => { results := [.lit (.bool true)], args := [d1, d2] }
  | _ => none }
def fnEnergiesRow : OpenClaim := { program := "ytoibkmljibnjnaa", sum := "ea90904752689b46a47cf143f42e2fa27fd4cddf5d77418f474dc42360ecfc0e", func := "loop.example/g01222/laws.FnEnergies", spec := "fnEnergies", inPlace := ["math.sqrt"], unfollowed := true, recurses := true, plainKeys := false, apart := false }
def FnEnergiesSaid : Prop := fnEnergiesRow.holds Try.pinned (OpenSpec.ofChange fnEnergiesSpec)

/-- ITS FALSE NEIGHBOUR: 'it returns false'. Refute it at one input. -/
def fnEnergiesWrong : ChangeSpec := { name := "fnEnergies", fn := fun _ => fun
  | [d1, d2] => { results := [.lit (.bool false)], args := [d1, d2] }
  | _ => none }
def FnEnergiesWrongFalsely : Prop := fnEnergiesRow.holds Try.pinned (OpenSpec.ofChange fnEnergiesWrong)

/-- 'laws.FnGases': WHATEVER THE INPUT: true; the input reads as it did. -/
def fnGasesSpec : ChangeSpec := { name := "fnGases", fn := fun _ => fun
  | [d1, d2] => { results := [.lit (.bool true)], args := [d1, d2] }
  | _ => none }
def fnGasesRow : OpenClaim := { program := "ytoibkmljibnjnaa", sum := "ea90904752689b46a47cf143f42e2fa27fd4cddf5d77418f474dc42360ecfc0e", func := "loop.example/g01222/laws.FnGases", spec := "fnGases", inPlace := ["math.Float64frombits", "math.sqrt"], unfollowed := true, recurses := true, plainKeys := false, apart := false }
def FnGasesSaid : Prop := fnGasesRow.holds Try.pinned (OpenSpec.ofChange fnGasesSpec)

/-- ITS FALSE NEIGHBOUR: 'it returns false'. Refute it at one input. -/
def fnGasesWrong : ChangeSpec := { name := "fnGases", fn := fun _ => fun
  | [d1, d2] => { results := [.lit (.bool false)], args := [d1, d2] }
  | _ => none }
def FnGasesWrongFalsely : Prop := fnGasesRow.holds Try.pinned (OpenSpec.ofChange fnGasesWrong)

/- THE SECOND FORM. 'bulk': how many values and letters a reading holds, each counted each time it is reached (what is shared counts as often as it is met; a slice's spare places count too). A statement '..UptoSaid' is the law's where the arguments, and the package variables that the reading takes, are together of bulk at most 1048576: NARROWER than '..Said'. Prove '..Said' where nothing that the law and all that it calls make is longer than what came in: it says more and counts as full. Else prove '..UptoSaid'. A law counts once. -/
mutual
def uptoBulk {H : Type} : DataW H → Nat
  | .lit (.string bytes) => bytes.length + 1
  | .lit _ => 1
  | .nil => 1
  | .ptr d => uptoBulk d + 1
  | .slice elems spare => uptoBulkAll elems + uptoBulkAll spare + 1
  | .agg parts => uptoBulkAll parts + 1
  | .iface _ d => uptoBulk d + 1
  | .map entries => uptoBulkEntries entries + 1
  | .held _ => 1
def uptoBulkAll {H : Type} : List (DataW H) → Nat
  | [] => 0
  | d :: r => uptoBulk d + uptoBulkAll r
def uptoBulkEntries {H : Type} : List (Lit × DataW H) → Nat
  | [] => 0
  | x :: r => uptoBulkEntry x + uptoBulkEntries r
def uptoBulkEntry {H : Type} : Lit × DataW H → Nat
  | (.string bytes, d) => bytes.length + uptoBulk d + 1
  | (_, d) => uptoBulk d + 1
 end
def uptoSmall : (H : Type) → List (DataW H) → Bool := fun _ ds => decide (uptoBulkAll ds ≤ 1048576)
def OpenSpec.upto (s : _root_.Go.ChangeSpec) : _root_.Go.OpenSpec := { _root_.Go.OpenSpec.ofChange s with cond := some uptoSmall }

/-- 'laws.FnSlopes', WHERE WHAT IT READS IS OF BULK AT MOST 1048576: true; the input reads as it did. -/
def fnSlopesUptoRow : OpenClaim := { program := "ytoibkmljibnjnaa", sum := "ea90904752689b46a47cf143f42e2fa27fd4cddf5d77418f474dc42360ecfc0e", func := "loop.example/g01222/laws.FnSlopes", spec := "fnSlopes", inPlace := ["math.sqrt"], unfollowed := true, recurses := true, plainKeys := false, apart := false, narrowed := true }
def FnSlopesUptoSaid : Prop := fnSlopesUptoRow.holds Try.pinned (OpenSpec.upto fnSlopesSpec)

/-- 'laws.FnVolumes', WHERE WHAT IT READS IS OF BULK AT MOST 1048576: true; the input reads as it did. -/
def fnVolumesUptoRow : OpenClaim := { program := "ytoibkmljibnjnaa", sum := "ea90904752689b46a47cf143f42e2fa27fd4cddf5d77418f474dc42360ecfc0e", func := "loop.example/g01222/laws.FnVolumes", spec := "fnVolumes", inPlace := ["math.Float64frombits", "math.sqrt"], unfollowed := true, recurses := true, plainKeys := false, apart := false, narrowed := true }
def FnVolumesUptoSaid : Prop := fnVolumesUptoRow.holds Try.pinned (OpenSpec.upto fnVolumesSpec)

/-- 'laws.FnForms', WHERE WHAT IT READS IS OF BULK AT MOST 1048576: true; the input reads as it did. -/
def fnFormsUptoRow : OpenClaim := { program := "ytoibkmljibnjnaa", sum := "ea90904752689b46a47cf143f42e2fa27fd4cddf5d77418f474dc42360ecfc0e", func := "loop.example/g01222/laws.FnForms", spec := "fnForms", inPlace := ["math.Float64frombits", "math.Float64bits", "math.sqrt"], unfollowed := true, recurses := true, plainKeys := false, apart := false, narrowed := true }
def FnFormsUptoSaid : Prop := fnFormsUptoRow.holds Try.pinned (OpenSpec.upto fnFormsSpec)

/-- 'laws.FnEnergies', WHERE WHAT IT READS IS OF BULK AT MOST 1048576: true; the input reads as it did. -/
def fnEnergiesUptoRow : OpenClaim := { program := "ytoibkmljibnjnaa", sum := "ea90904752689b46a47cf143f42e2fa27fd4cddf5d77418f474dc42360ecfc0e", func := "loop.example/g01222/laws.FnEnergies", spec := "fnEnergies", inPlace := ["math.sqrt"], unfollowed := true, recurses := true, plainKeys := false, apart := false, narrowed := true }
def FnEnergiesUptoSaid : Prop := fnEnergiesUptoRow.holds Try.pinned (OpenSpec.upto fnEnergiesSpec)

/-- 'laws.FnGases', WHERE WHAT IT READS IS OF BULK AT MOST 1048576: true; the input reads as it did. -/
def fnGasesUptoRow : OpenClaim := { program := "ytoibkmljibnjnaa", sum := "ea90904752689b46a47cf143f42e2fa27fd4cddf5d77418f474dc42360ecfc0e", func := "loop.example/g01222/laws.FnGases", spec := "fnGases", inPlace := ["math.Float64frombits", "math.sqrt"], unfollowed := true, recurses := true, plainKeys := false, apart := false, narrowed := true }
def FnGasesUptoSaid : Prop := fnGasesUptoRow.holds Try.pinned (OpenSpec.upto fnGasesSpec)

end Rows
end Go.Proofs.Ytoibkmljibnjnaa
