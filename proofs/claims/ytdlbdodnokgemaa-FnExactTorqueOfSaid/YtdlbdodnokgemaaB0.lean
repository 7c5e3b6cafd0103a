/- The functions of this seat as plain Lean, and that the program's are these. Printed by a program of the prover's own. -/
import Derived.Test.YtdlbdodnokgemaaA23
import Derived.Test.YtdlbdodnokgemaaRows
set_option linter.unusedVariables false
set_option maxRecDepth 100000
namespace Go.Ab
open Go.RowKit

structure GVector where
  X : Nat
  Y : Nat
  Z : Nat
  deriving Inhabited, DecidableEq

def GVector.cells (v : GVector) : List AV := [.f .f32 v.X, .f .f32 v.Y, .f .f32 v.Z]

structure GMesh where
  Places : (List GVector)
  Triangles : (List (List Int))
  deriving Inhabited, DecidableEq

def GMesh.cells (v : GMesh) : List AV := [.sl (v.Places.map GVector.cells), .sl (v.Triangles.map (cL (cI .i64)))]

def tab : List (Nat × TD) := [(2, ⟨false, 1, 8, [.i .i64 0], .int .i64⟩),
  (3, ⟨false, 1, 8, [.i .i64 0], .int .i64⟩),
  (4, ⟨false, 1, 1, [.b false], .bool⟩),
  (22, ⟨false, 1, 4, [.f .f32 0], .float .f32⟩),
  (26, ⟨false, 1, 8, [.f .f64 0], .float .f64⟩),
  (29, ⟨true, 3, 12, [.f .f32 0, .f .f32 0, .f .f32 0], .struct [(0, 1), (1, 1), (2, 1)]⟩),
  (33, ⟨true, 3, 12, [.f .f32 0, .f .f32 0, .f .f32 0], .struct [(0, 1), (1, 1), (2, 1)]⟩),
  (38, ⟨false, 1, 24, [.nils], .slice 29⟩),
  (42, ⟨false, 1, 24, [.nils], .slice 33⟩),
  (53, ⟨false, 1, 24, [.nils], .slice 95⟩),
  (55, ⟨true, 2, 48, [.nils, .nils], .struct [(0, 1), (1, 1)]⟩),
  (59, ⟨true, 2, 48, [.nils, .nils], .struct [(0, 1), (1, 1)]⟩),
  (82, ⟨false, 1, 8, [.any], .other⟩),
  (95, ⟨false, 1, 24, [.nils], .slice 2⟩)]

theorem tabOk : TOk Go.Proofs.Try.prog (look tab) := tOk_of (by kernel_rfl)

def E0 : Env := ⟨look tab, look []⟩

theorem E0Ok : EOk Go.Proofs.Try.prog E0 := ⟨tabOk, fun g x h => by
  simp only [E0, look] at h
  cases h⟩

theorem hMixed : Go.Proofs.Try.prog.follows .mixedOrders = true := by kernel_rfl

end Go.Ab
