/- The functions of this seat as plain Lean, and that the program's are these. Printed by a program of the prover's own. -/
import Derived.Test.YtdlbdodnokgemaaA21
import Derived.Test.YtdlbdodnokgemaaRows
set_option linter.unusedVariables false
set_option maxRecDepth 100000
namespace Go.Ab
open Go.RowKit

structure GVector where
  X : Nat
  Y : Nat
  Z : Nat
  deriving Inhabited, DecidableEq

def GVector.cells (v : GVector) : List AV := [.f .f32 v.X, .f .f32 v.Y, .f .f32 v.Z]

structure GHold where
  Place : Int
  Kind : Int
  At : GVector
  Way : GVector
  deriving Inhabited, DecidableEq

def GHold.cells (v : GHold) : List AV := [.i .i64 v.Place, .i .i64 v.Kind, .f .f32 v.At.X, .f .f32 v.At.Y, .f .f32 v.At.Z, .f .f32 v.Way.X, .f .f32 v.Way.Y, .f .f32 v.Way.Z]

def tab : List (Nat × TD) := [(2, ⟨false, 1, 8, [.i .i64 0], .int .i64⟩),
  (4, ⟨false, 1, 1, [.b false], .bool⟩),
  (22, ⟨false, 1, 4, [.f .f32 0], .float .f32⟩),
  (26, ⟨false, 1, 8, [.f .f64 0], .float .f64⟩),
  (29, ⟨true, 3, 12, [.f .f32 0, .f .f32 0, .f .f32 0], .struct [(0, 1), (1, 1), (2, 1)]⟩),
  (31, ⟨true, 8, 40, [.i .i64 0, .i .i64 0, .f .f32 0, .f .f32 0, .f .f32 0, .f .f32 0, .f .f32 0, .f .f32 0], .struct [(0, 1), (1, 1), (2, 3), (5, 3)]⟩),
  (33, ⟨true, 3, 12, [.f .f32 0, .f .f32 0, .f .f32 0], .struct [(0, 1), (1, 1), (2, 1)]⟩),
  (35, ⟨true, 8, 40, [.i .i64 0, .i .i64 0, .f .f32 0, .f .f32 0, .f .f32 0, .f .f32 0, .f .f32 0, .f .f32 0], .struct [(0, 1), (1, 1), (2, 3), (5, 3)]⟩),
  (68, ⟨false, 1, 8, [.any], .other⟩)]

theorem tabOk : TOk Go.Proofs.Try.prog (look tab) := tOk_of (by kernel_rfl)

def E0 : Env := ⟨look tab, look []⟩

theorem E0Ok : EOk Go.Proofs.Try.prog E0 := ⟨tabOk, fun g x h => by
  simp only [E0, look] at h
  cases h⟩

theorem hMixed : Go.Proofs.Try.prog.follows .mixedOrders = true := by kernel_rfl

end Go.Ab
