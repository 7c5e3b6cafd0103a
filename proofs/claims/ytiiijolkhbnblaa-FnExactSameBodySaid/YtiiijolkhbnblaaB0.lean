/- The functions of this seat as plain Lean, and that the program's are these. Printed by a program of the prover's own. -/
import Derived.Test.YtiiijolkhbnblaaA38
import Derived.Test.YtiiijolkhbnblaaA34
import Derived.Test.YtiiijolkhbnblaaRows
set_option linter.unusedVariables false
set_option linter.unusedSimpArgs false
set_option maxRecDepth 100000
namespace Go.Ab
open Go.RowKit Go.Proofs.Try

structure GVector where
  X : Nat
  Y : Nat
  Z : Nat
  deriving Inhabited, DecidableEq

def GVector.cells (v : GVector) : List AV := [.f .f32 v.X, .f .f32 v.Y, .f .f32 v.Z]

structure GMesh where
  Places : (List GVector)
  Triangles : (List (List Int))
  deriving Inhabited, DecidableEq

def GMesh.cells (v : GMesh) : List AV := [.sl (v.Places.map GVector.cells), .sl (v.Triangles.map (cL (cI .i64)))]

structure GSpring where
  A : Int
  B : Int
  Long : Nat
  Stiff : Nat
  deriving Inhabited, DecidableEq

def GSpring.cells (v : GSpring) : List AV := [.i .i64 v.A, .i .i64 v.B, .f .f32 v.Long, .f .f32 v.Stiff]

structure GBody where
  Mesh : GMesh
  Springs : (List GSpring)
  Film : Nat
  Bend : Nat
  Weights : (List Nat)
  Fall : GVector
  deriving Inhabited, DecidableEq

def GBody.cells (v : GBody) : List AV := [.sl (v.Mesh.Places.map GVector.cells), .sl (v.Mesh.Triangles.map (cL (cI .i64))), .sl (v.Springs.map GSpring.cells), .f .f32 v.Film, .f .f32 v.Bend, .sl (v.Weights.map (cF .f32)), .f .f32 v.Fall.X, .f .f32 v.Fall.Y, .f .f32 v.Fall.Z]

def tab : List (Nat × TD) := [(2, ⟨false, 1, 8, [.i .i64 0], .int .i64⟩),
  (3, ⟨false, 1, 8, [.i .i64 0], .int .i64⟩),
  (4, ⟨false, 1, 1, [.b false], .bool⟩),
  (22, ⟨false, 1, 4, [.f .f32 0], .float .f32⟩),
  (26, ⟨false, 1, 8, [.f .f64 0], .float .f64⟩),
  (28, ⟨false, 1, 24, [.nils], .slice 35⟩),
  (29, ⟨false, 1, 24, [.nils], .slice 52⟩),
  (31, ⟨true, 2, 48, [.nils, .nils], .struct [(0, 1), (1, 1)]⟩),
  (32, ⟨false, 1, 24, [.nils], .slice 159⟩),
  (33, ⟨false, 1, 24, [.nils], .slice 22⟩),
  (35, ⟨true, 3, 12, [.f .f32 0, .f .f32 0, .f .f32 0], .struct [(0, 1), (1, 1), (2, 1)]⟩),
  (37, ⟨true, 9, 120, [.nils, .nils, .nils, .f .f32 0, .f .f32 0, .nils, .f .f32 0, .f .f32 0, .f .f32 0], .struct [(0, 2), (2, 1), (3, 1), (4, 1), (5, 1), (6, 3)]⟩),
  (40, ⟨false, 1, 24, [.nils], .slice 44⟩),
  (42, ⟨true, 2, 48, [.nils, .nils], .struct [(0, 1), (1, 1)]⟩),
  (43, ⟨false, 1, 24, [.nils], .slice 105⟩),
  (44, ⟨true, 3, 12, [.f .f32 0, .f .f32 0, .f .f32 0], .struct [(0, 1), (1, 1), (2, 1)]⟩),
  (46, ⟨true, 9, 120, [.nils, .nils, .nils, .f .f32 0, .f .f32 0, .nils, .f .f32 0, .f .f32 0, .f .f32 0], .struct [(0, 2), (2, 1), (3, 1), (4, 1), (5, 1), (6, 3)]⟩),
  (52, ⟨false, 1, 24, [.nils], .slice 2⟩),
  (99, ⟨false, 1, 8, [.any], .other⟩),
  (105, ⟨true, 4, 24, [.i .i64 0, .i .i64 0, .f .f32 0, .f .f32 0], .struct [(0, 1), (1, 1), (2, 1), (3, 1)]⟩),
  (159, ⟨true, 4, 24, [.i .i64 0, .i .i64 0, .f .f32 0, .f .f32 0], .struct [(0, 1), (1, 1), (2, 1), (3, 1)]⟩),
  (184, ⟨false, 1, 8, [.i .u64 0], .int .u64⟩),
  (196, ⟨false, 1, 4, [.i .u32 0], .int .u32⟩)]

theorem tabOk : TOk Go.Proofs.Try.prog (look tab) := tOk_of (by kernel_rfl)

def E0 : Env := ⟨look tab, look [(198, .to32), (186, .to64)], 0⟩

theorem E0Ok : EOk Go.Proofs.Try.prog E0 := ⟨tabOk, fun g x h => by
  simp only [E0, look] at h
  split at h
  · rename_i hg; simp only [beq_iff_eq] at hg; subst hg; cases h
    exact ⟨⟨Go.Proofs.Try.f198, Go.Proofs.Try.func198, by kernel_rfl, by kernel_rfl, by kernel_rfl, by kernel_rfl⟩⟩
  · skip
    split at h
    · rename_i hg; simp only [beq_iff_eq] at hg; subst hg; cases h
      exact ⟨⟨Go.Proofs.Try.f186, Go.Proofs.Try.func186, by kernel_rfl, by kernel_rfl, by kernel_rfl, by kernel_rfl⟩⟩
    · skip
      cases h⟩

def Ep (n : Nat) : Env := { E0 with np := n }
theorem EpOk (n : Nat) : EOk Go.Proofs.Try.prog (Ep n) := ⟨E0Ok.T, E0Ok.X⟩

theorem hMixed : Go.Proofs.Try.prog.follows .mixedOrders = true := by kernel_rfl

end Go.Ab
