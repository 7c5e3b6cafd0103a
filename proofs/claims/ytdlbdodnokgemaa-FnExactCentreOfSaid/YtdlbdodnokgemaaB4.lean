/- The functions of this seat as plain Lean, and that the program's are these. Printed by a program of the prover's own. -/
import Derived.Test.YtdlbdodnokgemaaB3
set_option linter.unusedVariables false
set_option maxRecDepth 100000
namespace Go.Ab
open Go.RowKit

theorem lo_CentreOf (l : List GVector) : ∀ k i a b c, lo_impl_sumOf_1 l k i a b c = lo_spec_l04Sum_1 l k i a b c := by
  intro k
  induction k with
  | zero => intros; rfl
  | succ k ih => intro i a b c; simp only [lo_impl_sumOf_1, lo_spec_l04Sum_1, ih]; rfl
theorem eq_CentreOf (m : GMesh) : v_impl_CentreOf m = v_spec_CentreOf m := by
  unfold v_impl_CentreOf v_spec_CentreOf v_spec_l04Centre v_impl_sumOf v_spec_l04Sum lr_impl_sumOf_1_0 lr_spec_l04Sum_1_0
  rw [eq_ValidMesh, lo_CentreOf]
  rfl
theorem true_laws_FnExactCentreOf (a : GMesh) (h : a.Places.length ≤ 9223372036854775807) (h' : a.Triangles.length ≤ 9223372036854775807) (h2 : ∀ t ∈ a.Triangles, t.length ≤ 9223372036854775807) : v_laws_FnExactCentreOf a = true := by
  simp [v_laws_FnExactCentreOf, eq_CentreOf, eqVector_self, eqMesh_self]

end Go.Ab
