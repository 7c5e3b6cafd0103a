/- The functions of this seat as plain Lean, and that the program's are these. Printed by a program of the prover's own. -/
import Derived.Test.YtconncpnjlgelaaB5
set_option linter.unusedVariables false
set_option maxRecDepth 100000
namespace Go.Ab
open Go.RowKit

theorem true_laws_FnExactValidBody (a : GBody) (h0_0 : a.Mesh.Places.length ≤ 9223372036854775807) (h0_1 : a.Mesh.Triangles.length ≤ 9223372036854775807) (h0_2 : ∀ t ∈ a.Mesh.Triangles, t.length ≤ 9223372036854775807) (h0_3 : a.Springs.length ≤ 9223372036854775807) (h0_4 : a.Weights.length ≤ 9223372036854775807) : v_laws_FnExactValidBody a = true := by
  unfold v_laws_FnExactValidBody v_spec_ValidBody
  rw [eq_ValidBody]
  simp [eqBody_self]

end Go.Ab
