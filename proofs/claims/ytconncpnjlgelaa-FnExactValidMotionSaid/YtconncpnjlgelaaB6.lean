/- The functions of this seat as plain Lean, and that the program's are these. Printed by a program of the prover's own. -/
import Derived.Test.YtconncpnjlgelaaB5
set_option linter.unusedVariables false
set_option maxRecDepth 100000
namespace Go.Ab
open Go.RowKit

theorem true_laws_FnExactValidMotion (a : GMotion) (h0_0 : a.Body.Mesh.Places.length ≤ 9223372036854775807) (h0_1 : a.Body.Mesh.Triangles.length ≤ 9223372036854775807) (h0_2 : ∀ t ∈ a.Body.Mesh.Triangles, t.length ≤ 9223372036854775807) (h0_3 : a.Body.Springs.length ≤ 9223372036854775807) (h0_4 : a.Body.Weights.length ≤ 9223372036854775807) (h0_5 : a.Speeds.length ≤ 9223372036854775807) : v_laws_FnExactValidMotion a = true := by
  unfold v_laws_FnExactValidMotion v_spec_ValidMotion
  rw [eq_ValidMotion]
  simp [eqMotion_self]

end Go.Ab
