/- The functions of this seat as plain Lean, and that the program's are these. Printed by a program of the prover's own. -/
import Derived.Test.YtiihcpcabmamiaaA37
import Derived.Test.YtiihcpcabmamiaaA35
import Derived.Test.YtiihcpcabmamiaaRows
set_option linter.unusedVariables false
set_option linter.unusedSimpArgs false
set_option maxRecDepth 100000
namespace Go.Ab
open Go.RowKit Go.Proofs.Try

structure GVector where
  X : Nat
  Y : Nat
  Z : Nat
  deriving Inhabited, DecidableEq

def GVector.cells (v : GVector) : List AV := [.f .f32 v.X, .f .f32 v.Y, .f .f32 v.Z]

structure GMesh where
  Places : (List GVector)
  Triangles : (List (List Int))
  deriving Inhabited, DecidableEq

def GMesh.cells (v : GMesh) : List AV := [.sl (v.Places.map GVector.cells), .sl (v.Triangles.map (cL (cI .i64)))]

structure GSpring where
  A : Int
  B : Int
  Long : Nat
  Stiff : Nat
  deriving Inhabited, DecidableEq

def GSpring.cells (v : GSpring) : List AV := [.i .i64 v.A, .i .i64 v.B, .f .f32 v.Long, .f .f32 v.Stiff]

structure GBody where
  Mesh : GMesh
  Springs : (List GSpring)
  Film : Nat
  Bend : Nat
  Weights : (List Nat)
  Fall : GVector
  deriving Inhabited, DecidableEq

def GBody.cells (v : GBody) : List AV := [.sl (v.Mesh.Places.map GVector.cells), .sl (v.Mesh.Triangles.map (cL (cI .i64))), .sl (v.Springs.map GSpring.cells), .f .f32 v.Film, .f .f32 v.Bend, .sl (v.Weights.map (cF .f32)), .f .f32 v.Fall.X, .f .f32 v.Fall.Y, .f .f32 v.Fall.Z]

def tab : List (Nat × TD) := [(2, ⟨false, 1, 8, [.i .i64 0], .int .i64⟩),
  (3, ⟨false, 1, 8, [.i .i64 0], .int .i64⟩),
  (4, ⟨false, 1, 1, [.b false], .bool⟩),
  (5, ⟨false, 1, 1, [.i .u8 0], .int .u8⟩),
  (22, ⟨false, 1, 24, [.nils], .slice 60⟩),
  (23, ⟨false, 1, 24, [.nils], .slice 52⟩),
  (25, ⟨true, 2, 48, [.nils, .nils], .struct [(0, 1), (1, 1)]⟩),
  (29, ⟨false, 1, 24, [.nils], .slice 67⟩),
  (31, ⟨true, 2, 48, [.nils, .nils], .struct [(0, 1), (1, 1)]⟩),
  (38, ⟨false, 1, 4, [.f .f32 0], .float .f32⟩),
  (42, ⟨false, 1, 24, [.nils], .slice 38⟩),
  (52, ⟨false, 1, 24, [.nils], .slice 2⟩),
  (60, ⟨true, 3, 12, [.f .f32 0, .f .f32 0, .f .f32 0], .struct [(0, 1), (1, 1), (2, 1)]⟩),
  (66, ⟨false, 1, 24, [.nils], .slice 132⟩),
  (67, ⟨true, 3, 12, [.f .f32 0, .f .f32 0, .f .f32 0], .struct [(0, 1), (1, 1), (2, 1)]⟩),
  (69, ⟨true, 9, 120, [.nils, .nils, .nils, .f .f32 0, .f .f32 0, .nils, .f .f32 0, .f .f32 0, .f .f32 0], .struct [(0, 2), (2, 1), (3, 1), (4, 1), (5, 1), (6, 3)]⟩),
  (72, ⟨false, 1, 8, [.f .f64 0], .float .f64⟩),
  (82, ⟨false, 1, 8, [.any], .other⟩),
  (94, ⟨false, 1, 8, [.any], .map 2⟩),
  (95, ⟨false, 1, 24, [.nils], .slice 100⟩),
  (100, ⟨true, 2, 16, [.i .i64 0, .i .i64 0], .arr 2 2⟩),
  (111, ⟨false, 1, 24, [.nils], .slice 4⟩),
  (121, ⟨false, 1, 8, [.any], .other⟩),
  (132, ⟨true, 4, 24, [.i .i64 0, .i .i64 0, .f .f32 0, .f .f32 0], .struct [(0, 1), (1, 1), (2, 1), (3, 1)]⟩),
  (153, ⟨false, 1, 8, [.i .u64 0], .int .u64⟩),
  (155, ⟨false, 1, 8, [.any], .other⟩),
  (177, ⟨false, 1, 4, [.i .u32 0], .int .u32⟩),
  (179, ⟨false, 1, 8, [.i .u64 0], .int .u64⟩),
  (186, ⟨false, 1, 8, [.i .u64 0], .int .u64⟩),
  (190, ⟨false, 1, 8, [.any], .other⟩)]

theorem tabOk : TOk Go.Proofs.Try.prog (look tab) := tOk_of (by kernel_rfl)

def E0 : Env := ⟨look tab, look [(167, .sqrt)], 0⟩

theorem E0Ok : EOk Go.Proofs.Try.prog E0 := ⟨tabOk, fun g x h => by
  simp only [E0, look] at h
  split at h
  · rename_i hg; simp only [beq_iff_eq] at hg; subst hg; cases h
    exact ⟨⟨Go.Proofs.Try.f167, Go.Proofs.Try.func167, by kernel_rfl, by kernel_rfl, by kernel_rfl, by kernel_rfl⟩⟩
  · skip
    cases h⟩

def Ep (n : Nat) : Env := { E0 with np := n }
theorem EpOk (n : Nat) : EOk Go.Proofs.Try.prog (Ep n) := ⟨E0Ok.T, E0Ok.X⟩

theorem hMixed : Go.Proofs.Try.prog.follows .mixedOrders = true := by kernel_rfl

end Go.Ab
