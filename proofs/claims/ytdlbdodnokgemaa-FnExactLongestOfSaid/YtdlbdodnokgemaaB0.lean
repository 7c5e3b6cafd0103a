/- The functions of this seat as plain Lean, and that the program's are these. Printed by a program of the prover's own. -/
import Derived.Test.YtdlbdodnokgemaaA22
import Derived.Test.YtdlbdodnokgemaaRows
set_option linter.unusedVariables false
set_option maxRecDepth 100000
namespace Go.Ab
open Go.RowKit

structure GVector where
  X : Nat
  Y : Nat
  Z : Nat
  deriving Inhabited, DecidableEq

def GVector.cells (v : GVector) : List AV := [.f .f32 v.X, .f .f32 v.Y, .f .f32 v.Z]

def tab : List (Nat × TD) := [(3, ⟨false, 1, 8, [.i .i64 0], .int .i64⟩),
  (4, ⟨false, 1, 1, [.b false], .bool⟩),
  (22, ⟨false, 1, 4, [.f .f32 0], .float .f32⟩),
  (26, ⟨false, 1, 8, [.f .f64 0], .float .f64⟩),
  (29, ⟨true, 3, 12, [.f .f32 0, .f .f32 0, .f .f32 0], .struct [(0, 1), (1, 1), (2, 1)]⟩),
  (33, ⟨true, 3, 12, [.f .f32 0, .f .f32 0, .f .f32 0], .struct [(0, 1), (1, 1), (2, 1)]⟩),
  (38, ⟨false, 1, 24, [.nils], .slice 29⟩),
  (42, ⟨false, 1, 24, [.nils], .slice 33⟩)]

theorem tabOk : TOk Go.Proofs.Try.prog (look tab) := tOk_of (by kernel_rfl)

def E0 : Env := ⟨look tab, look [(106, .sqrt)]⟩

theorem E0Ok : EOk Go.Proofs.Try.prog E0 := ⟨tabOk, fun g x h => by
  simp only [E0, look] at h
  split at h
  · rename_i hg; simp only [beq_iff_eq] at hg; subst hg; cases h
    exact ⟨⟨Go.Proofs.Try.f106, Go.Proofs.Try.func106, by kernel_rfl, by kernel_rfl, by kernel_rfl, by kernel_rfl⟩⟩
  · skip
    cases h⟩

theorem hMixed : Go.Proofs.Try.prog.follows .mixedOrders = true := by kernel_rfl

end Go.Ab
