/-
  No cell of these rows narrows 'for every input' (looked for: loops, veiled, ifaces, maps, wideKeys, modest, calm, conditions, laid).
  DERIVED. THE GIVEN ROWS OF THIS SEAT. 8 by the template 'for every input the law returns true; each argument reads behind the call as it read before'; 0 by the template 'total and deterministic' (their statements: YtpndflbllggeiaaGreatTotals.lean).
  GIVEN WITH THE SEED: the statements are not yours to turn. If you find one false, say at which input.
  Laid BY PROGRAM, IN A SANDBOX (cutbox-rows.mjs): the forced cells as the released guide's own fill.sh prints them over the translation 6db51783bd6ec97a… (all of the seat's roots in one cut). By AI agents, Wed Nov 11 2026. No macro, syntax, notation, axiom, sorry.
-/
import Derived.Test.YtpndflbllggeiaaGreatChecked
import GoSem.Claim
import GoSem.ClaimJoined
import GoSem.ClaimMapViews
import Derived.JoinedTies
import Derived.KernelRfl
namespace Go.Proofs.YtpndflbllggeiaaGreat
/- THE CELL 'sum', in the pinned program and in every row, IS THE sha256 OF THE DUMP (.gsa) THAT YtpndflbllggeiaaGreatProg.lean LOADS. Nothing in Lean hashes anything: it is a label: what it is worth is what the hold of that sum in a sandbox is worth. -/
noncomputable def Tryz.pinned : Pinned := { name := "ytpndflbllggeiaagreat", sum := "6db51783bd6ec97a210aeb305310daa1afec6ef7652f179723e8733d8ed4ab78", checked := Tryz.checked }
namespace Rows
def none {H : Type} : Left H := { results := [], args := [] }

/-- 'laws.FnExactForcesOf': WHATEVER THE INPUT: true; the input reads as it did. -/
def fnExactForcesOfSpec : ChangeSpec := { name := "fnExactForcesOf", fn := fun _ => fun
  | [d] => { results := [.lit (.bool true)], args := [d] }
  | _ => none }
def fnExactForcesOfRow : OpenClaim := { program := "ytpndflbllggeiaagreat", sum := "6db51783bd6ec97a210aeb305310daa1afec6ef7652f179723e8733d8ed4ab78", func := "loop.example/g01222/laws.FnExactForcesOf", spec := "fnExactForcesOf", inPlace := ["math.sqrt"], unfollowed := true, recurses := true, plainKeys := false, apart := false }
def FnExactForcesOfSaid : Prop := fnExactForcesOfRow.holds Tryz.pinned (OpenSpec.ofChange fnExactForcesOfSpec)

/-- ITS FALSE NEIGHBOUR: 'it returns false'. Refute it at one input. -/
def fnExactForcesOfWrong : ChangeSpec := { name := "fnExactForcesOf", fn := fun _ => fun
  | [d] => { results := [.lit (.bool false)], args := [d] }
  | _ => none }
def FnExactForcesOfWrongFalsely : Prop := fnExactForcesOfRow.holds Tryz.pinned (OpenSpec.ofChange fnExactForcesOfWrong)

/-- 'laws.FnExactRestOf': WHATEVER THE INPUT: true; the input reads as it did. -/
def fnExactRestOfSpec : ChangeSpec := { name := "fnExactRestOf", fn := fun _ => fun
  | [d1, d2] => { results := [.lit (.bool true)], args := [d1, d2] }
  | _ => none }
def fnExactRestOfRow : OpenClaim := { program := "ytpndflbllggeiaagreat", sum := "6db51783bd6ec97a210aeb305310daa1afec6ef7652f179723e8733d8ed4ab78", func := "loop.example/g01222/laws.FnExactRestOf", spec := "fnExactRestOf", inPlace := ["math.sqrt"], unfollowed := true, recurses := true, plainKeys := false, apart := false }
def FnExactRestOfSaid : Prop := fnExactRestOfRow.holds Tryz.pinned (OpenSpec.ofChange fnExactRestOfSpec)

/-- ITS FALSE NEIGHBOUR: 'it returns false'. Refute it at one input. -/
def fnExactRestOfWrong : ChangeSpec := { name := "fnExactRestOf", fn := fun _ => fun
  | [d1, d2] => { results := [.lit (.bool false)], args := [d1, d2] }
  | _ => none }
def FnExactRestOfWrongFalsely : Prop := fnExactRestOfRow.holds Tryz.pinned (OpenSpec.ofChange fnExactRestOfWrong)

/-- 'laws.FnExactFreeForces': WHATEVER THE INPUT: true; the input reads as it did. -/
def fnExactFreeForcesSpec : ChangeSpec := { name := "fnExactFreeForces", fn := fun _ => fun
  | [d1, d2] => { results := [.lit (.bool true)], args := [d1, d2] }
  | _ => none }
def fnExactFreeForcesRow : OpenClaim := { program := "ytpndflbllggeiaagreat", sum := "6db51783bd6ec97a210aeb305310daa1afec6ef7652f179723e8733d8ed4ab78", func := "loop.example/g01222/laws.FnExactFreeForces", spec := "fnExactFreeForces", inPlace := ["math.sqrt"], unfollowed := true, recurses := true, plainKeys := false, apart := false }
def FnExactFreeForcesSaid : Prop := fnExactFreeForcesRow.holds Tryz.pinned (OpenSpec.ofChange fnExactFreeForcesSpec)

/-- ITS FALSE NEIGHBOUR: 'it returns false'. Refute it at one input. -/
def fnExactFreeForcesWrong : ChangeSpec := { name := "fnExactFreeForces", fn := fun _ => fun
  | [d1, d2] => { results := [.lit (.bool false)], args := [d1, d2] }
  | _ => none }
def FnExactFreeForcesWrongFalsely : Prop := fnExactFreeForcesRow.holds Tryz.pinned (OpenSpec.ofChange fnExactFreeForcesWrong)

/-- 'laws.FnExactStepDown': WHATEVER THE INPUT: true; the input reads as it did. -/
def fnExactStepDownSpec : ChangeSpec := { name := "fnExactStepDown", fn := fun _ => fun
  | [d1, d2, d3] => { results := [.lit (.bool true)], args := [d1, d2, d3] }
  | _ => none }
def fnExactStepDownRow : OpenClaim := { program := "ytpndflbllggeiaagreat", sum := "6db51783bd6ec97a210aeb305310daa1afec6ef7652f179723e8733d8ed4ab78", func := "loop.example/g01222/laws.FnExactStepDown", spec := "fnExactStepDown", inPlace := ["math.sqrt"], unfollowed := true, recurses := true, plainKeys := false, apart := false }
def FnExactStepDownSaid : Prop := fnExactStepDownRow.holds Tryz.pinned (OpenSpec.ofChange fnExactStepDownSpec)

/-- ITS FALSE NEIGHBOUR: 'it returns false'. Refute it at one input. -/
def fnExactStepDownWrong : ChangeSpec := { name := "fnExactStepDown", fn := fun _ => fun
  | [d1, d2, d3] => { results := [.lit (.bool false)], args := [d1, d2, d3] }
  | _ => none }
def FnExactStepDownWrongFalsely : Prop := fnExactStepDownRow.holds Tryz.pinned (OpenSpec.ofChange fnExactStepDownWrong)

/-- 'laws.FnExactStepMotion': WHATEVER THE INPUT: true; the input reads as it did. -/
def fnExactStepMotionSpec : ChangeSpec := { name := "fnExactStepMotion", fn := fun _ => fun
  | [d1, d2, d3, d4, d5] => { results := [.lit (.bool true)], args := [d1, d2, d3, d4, d5] }
  | _ => none }
def fnExactStepMotionRow : OpenClaim := { program := "ytpndflbllggeiaagreat", sum := "6db51783bd6ec97a210aeb305310daa1afec6ef7652f179723e8733d8ed4ab78", func := "loop.example/g01222/laws.FnExactStepMotion", spec := "fnExactStepMotion", inPlace := ["math.sqrt"], unfollowed := true, recurses := true, plainKeys := false, apart := false }
def FnExactStepMotionSaid : Prop := fnExactStepMotionRow.holds Tryz.pinned (OpenSpec.ofChange fnExactStepMotionSpec)

/-- ITS FALSE NEIGHBOUR: 'it returns false'. Refute it at one input. -/
def fnExactStepMotionWrong : ChangeSpec := { name := "fnExactStepMotion", fn := fun _ => fun
  | [d1, d2, d3, d4, d5] => { results := [.lit (.bool false)], args := [d1, d2, d3, d4, d5] }
  | _ => none }
def FnExactStepMotionWrongFalsely : Prop := fnExactStepMotionRow.holds Tryz.pinned (OpenSpec.ofChange fnExactStepMotionWrong)

/-- 'laws.FnExactRunDown': WHATEVER THE INPUT: true; the input reads as it did. -/
def fnExactRunDownSpec : ChangeSpec := { name := "fnExactRunDown", fn := fun _ => fun
  | [d1, d2, d3, d4] => { results := [.lit (.bool true)], args := [d1, d2, d3, d4] }
  | _ => none }
def fnExactRunDownRow : OpenClaim := { program := "ytpndflbllggeiaagreat", sum := "6db51783bd6ec97a210aeb305310daa1afec6ef7652f179723e8733d8ed4ab78", func := "loop.example/g01222/laws.FnExactRunDown", spec := "fnExactRunDown", inPlace := ["math.sqrt"], unfollowed := true, recurses := true, plainKeys := false, apart := false }
def FnExactRunDownSaid : Prop := fnExactRunDownRow.holds Tryz.pinned (OpenSpec.ofChange fnExactRunDownSpec)

/-- ITS FALSE NEIGHBOUR: 'it returns false'. Refute it at one input. -/
def fnExactRunDownWrong : ChangeSpec := { name := "fnExactRunDown", fn := fun _ => fun
  | [d1, d2, d3, d4] => { results := [.lit (.bool false)], args := [d1, d2, d3, d4] }
  | _ => none }
def FnExactRunDownWrongFalsely : Prop := fnExactRunDownRow.holds Tryz.pinned (OpenSpec.ofChange fnExactRunDownWrong)

/-- 'laws.FnExactTurnDown': WHATEVER THE INPUT: true; the input reads as it did. -/
def fnExactTurnDownSpec : ChangeSpec := { name := "fnExactTurnDown", fn := fun _ => fun
  | [d1, d2, d3, d4] => { results := [.lit (.bool true)], args := [d1, d2, d3, d4] }
  | _ => none }
def fnExactTurnDownRow : OpenClaim := { program := "ytpndflbllggeiaagreat", sum := "6db51783bd6ec97a210aeb305310daa1afec6ef7652f179723e8733d8ed4ab78", func := "loop.example/g01222/laws.FnExactTurnDown", spec := "fnExactTurnDown", inPlace := ["math.sqrt"], unfollowed := true, recurses := true, plainKeys := false, apart := false }
def FnExactTurnDownSaid : Prop := fnExactTurnDownRow.holds Tryz.pinned (OpenSpec.ofChange fnExactTurnDownSpec)

/-- ITS FALSE NEIGHBOUR: 'it returns false'. Refute it at one input. -/
def fnExactTurnDownWrong : ChangeSpec := { name := "fnExactTurnDown", fn := fun _ => fun
  | [d1, d2, d3, d4] => { results := [.lit (.bool false)], args := [d1, d2, d3, d4] }
  | _ => none }
def FnExactTurnDownWrongFalsely : Prop := fnExactTurnDownRow.holds Tryz.pinned (OpenSpec.ofChange fnExactTurnDownWrong)

/-- 'laws.FnExactRunMotion': WHATEVER THE INPUT: true; the input reads as it did. -/
def fnExactRunMotionSpec : ChangeSpec := { name := "fnExactRunMotion", fn := fun _ => fun
  | [d1, d2, d3, d4, d5, d6] => { results := [.lit (.bool true)], args := [d1, d2, d3, d4, d5, d6] }
  | _ => none }
def fnExactRunMotionRow : OpenClaim := { program := "ytpndflbllggeiaagreat", sum := "6db51783bd6ec97a210aeb305310daa1afec6ef7652f179723e8733d8ed4ab78", func := "loop.example/g01222/laws.FnExactRunMotion", spec := "fnExactRunMotion", inPlace := ["math.sqrt"], unfollowed := true, recurses := true, plainKeys := false, apart := false }
def FnExactRunMotionSaid : Prop := fnExactRunMotionRow.holds Tryz.pinned (OpenSpec.ofChange fnExactRunMotionSpec)

/-- ITS FALSE NEIGHBOUR: 'it returns false'. Refute it at one input. -/
def fnExactRunMotionWrong : ChangeSpec := { name := "fnExactRunMotion", fn := fun _ => fun
  | [d1, d2, d3, d4, d5, d6] => { results := [.lit (.bool false)], args := [d1, d2, d3, d4, d5, d6] }
  | _ => none }
def FnExactRunMotionWrongFalsely : Prop := fnExactRunMotionRow.holds Tryz.pinned (OpenSpec.ofChange fnExactRunMotionWrong)

/- THE SECOND FORM. 'bulk': how many values and letters a reading holds, each counted each time it is reached (what is shared counts as often as it is met; a slice's spare places count too). A statement '..UptoSaid' is the law's where the arguments, and the package variables that the reading takes, are together of bulk at most 1048576: NARROWER than '..Said'. Prove '..Said' where nothing that the law and all that it calls make is longer than what came in: it says more and counts as full. Else prove '..UptoSaid'. A law counts once. -/
mutual
def uptoBulk {H : Type} : DataW H → Nat
  | .lit (.string bytes) => bytes.length + 1
  | .lit _ => 1
  | .nil => 1
  | .ptr d => uptoBulk d + 1
  | .slice elems spare => uptoBulkAll elems + uptoBulkAll spare + 1
  | .agg parts => uptoBulkAll parts + 1
  | .iface _ d => uptoBulk d + 1
  | .map entries => uptoBulkEntries entries + 1
  | .held _ => 1
def uptoBulkAll {H : Type} : List (DataW H) → Nat
  | [] => 0
  | d :: r => uptoBulk d + uptoBulkAll r
def uptoBulkEntries {H : Type} : List (Lit × DataW H) → Nat
  | [] => 0
  | x :: r => uptoBulkEntry x + uptoBulkEntries r
def uptoBulkEntry {H : Type} : Lit × DataW H → Nat
  | (.string bytes, d) => bytes.length + uptoBulk d + 1
  | (_, d) => uptoBulk d + 1
 end
def uptoSmall : (H : Type) → List (DataW H) → Bool := fun _ ds => decide (uptoBulkAll ds ≤ 1048576)
def OpenSpec.upto (s : _root_.Go.ChangeSpec) : _root_.Go.OpenSpec := { _root_.Go.OpenSpec.ofChange s with cond := some uptoSmall }

/-- 'laws.FnExactForcesOf', WHERE WHAT IT READS IS OF BULK AT MOST 1048576: true; the input reads as it did. -/
def fnExactForcesOfUptoRow : OpenClaim := { program := "ytpndflbllggeiaagreat", sum := "6db51783bd6ec97a210aeb305310daa1afec6ef7652f179723e8733d8ed4ab78", func := "loop.example/g01222/laws.FnExactForcesOf", spec := "fnExactForcesOf", inPlace := ["math.sqrt"], unfollowed := true, recurses := true, plainKeys := false, apart := false, narrowed := true }
def FnExactForcesOfUptoSaid : Prop := fnExactForcesOfUptoRow.holds Tryz.pinned (OpenSpec.upto fnExactForcesOfSpec)

/-- 'laws.FnExactRestOf', WHERE WHAT IT READS IS OF BULK AT MOST 1048576: true; the input reads as it did. -/
def fnExactRestOfUptoRow : OpenClaim := { program := "ytpndflbllggeiaagreat", sum := "6db51783bd6ec97a210aeb305310daa1afec6ef7652f179723e8733d8ed4ab78", func := "loop.example/g01222/laws.FnExactRestOf", spec := "fnExactRestOf", inPlace := ["math.sqrt"], unfollowed := true, recurses := true, plainKeys := false, apart := false, narrowed := true }
def FnExactRestOfUptoSaid : Prop := fnExactRestOfUptoRow.holds Tryz.pinned (OpenSpec.upto fnExactRestOfSpec)

/-- 'laws.FnExactFreeForces', WHERE WHAT IT READS IS OF BULK AT MOST 1048576: true; the input reads as it did. -/
def fnExactFreeForcesUptoRow : OpenClaim := { program := "ytpndflbllggeiaagreat", sum := "6db51783bd6ec97a210aeb305310daa1afec6ef7652f179723e8733d8ed4ab78", func := "loop.example/g01222/laws.FnExactFreeForces", spec := "fnExactFreeForces", inPlace := ["math.sqrt"], unfollowed := true, recurses := true, plainKeys := false, apart := false, narrowed := true }
def FnExactFreeForcesUptoSaid : Prop := fnExactFreeForcesUptoRow.holds Tryz.pinned (OpenSpec.upto fnExactFreeForcesSpec)

/-- 'laws.FnExactStepDown', WHERE WHAT IT READS IS OF BULK AT MOST 1048576: true; the input reads as it did. -/
def fnExactStepDownUptoRow : OpenClaim := { program := "ytpndflbllggeiaagreat", sum := "6db51783bd6ec97a210aeb305310daa1afec6ef7652f179723e8733d8ed4ab78", func := "loop.example/g01222/laws.FnExactStepDown", spec := "fnExactStepDown", inPlace := ["math.sqrt"], unfollowed := true, recurses := true, plainKeys := false, apart := false, narrowed := true }
def FnExactStepDownUptoSaid : Prop := fnExactStepDownUptoRow.holds Tryz.pinned (OpenSpec.upto fnExactStepDownSpec)

/-- 'laws.FnExactStepMotion', WHERE WHAT IT READS IS OF BULK AT MOST 1048576: true; the input reads as it did. -/
def fnExactStepMotionUptoRow : OpenClaim := { program := "ytpndflbllggeiaagreat", sum := "6db51783bd6ec97a210aeb305310daa1afec6ef7652f179723e8733d8ed4ab78", func := "loop.example/g01222/laws.FnExactStepMotion", spec := "fnExactStepMotion", inPlace := ["math.sqrt"], unfollowed := true, recurses := true, plainKeys := false, apart := false, narrowed := true }
def FnExactStepMotionUptoSaid : Prop := fnExactStepMotionUptoRow.holds Tryz.pinned (OpenSpec.upto fnExactStepMotionSpec)

/-- 'laws.FnExactRunDown', WHERE WHAT IT READS IS OF BULK AT MOST 1048576: true; the input reads as it did. -/
def fnExactRunDownUptoRow : OpenClaim := { program := "ytpndflbllggeiaagreat", sum := "6db51783bd6ec97a210aeb305310daa1afec6ef7652f179723e8733d8ed4ab78", func := "loop.example/g01222/laws.FnExactRunDown", spec := "fnExactRunDown", inPlace := ["math.sqrt"], unfollowed := true, recurses := true, plainKeys := false, apart := false, narrowed := true }
def FnExactRunDownUptoSaid : Prop := fnExactRunDownUptoRow.holds Tryz.pinned (OpenSpec.upto fnExactRunDownSpec)

/-- 'laws.FnExactTurnDown', WHERE WHAT IT READS IS OF BULK AT MOST 1048576: true; the input reads as it did. -/
def fnExactTurnDownUptoRow : OpenClaim := { program := "ytpndflbllggeiaagreat", sum := "6db51783bd6ec97a210aeb305310daa1afec6ef7652f179723e8733d8ed4ab78", func := "loop.example/g01222/laws.FnExactTurnDown", spec := "fnExactTurnDown", inPlace := ["math.sqrt"], unfollowed := true, recurses := true, plainKeys := false, apart := false, narrowed := true }
def FnExactTurnDownUptoSaid : Prop := fnExactTurnDownUptoRow.holds Tryz.pinned (OpenSpec.upto fnExactTurnDownSpec)

/-- 'laws.FnExactRunMotion', WHERE WHAT IT READS IS OF BULK AT MOST 1048576: true; the input reads as it did. -/
def fnExactRunMotionUptoRow : OpenClaim := { program := "ytpndflbllggeiaagreat", sum := "6db51783bd6ec97a210aeb305310daa1afec6ef7652f179723e8733d8ed4ab78", func := "loop.example/g01222/laws.FnExactRunMotion", spec := "fnExactRunMotion", inPlace := ["math.sqrt"], unfollowed := true, recurses := true, plainKeys := false, apart := false, narrowed := true }
def FnExactRunMotionUptoSaid : Prop := fnExactRunMotionUptoRow.holds Tryz.pinned (OpenSpec.upto fnExactRunMotionSpec)

end Rows
end Go.Proofs.YtpndflbllggeiaaGreat
