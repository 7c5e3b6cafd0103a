/- The functions of this seat as plain Lean, and that the program's are these. Printed by a program of the prover's own. -/
import Derived.Test.YtdlbdodnokgemaaB3
set_option linter.unusedVariables false
set_option maxRecDepth 100000
namespace Go.Ab
open Go.RowKit

theorem lo_VolumeOf (m : GMesh) : ∀ k s i, lo_impl_volumeOf_1 m k s i = lo_spec_l04Volume_1 m k s i := by
  intro k
  induction k with
  | zero => intros; rfl
  | succ k ih => intro s i; simp only [lo_impl_volumeOf_1, lo_spec_l04Volume_1, ih]; rfl
theorem eq_VolumeOf (m : GMesh) : v_impl_VolumeOf m = v_spec_VolumeOf m := by
  unfold v_impl_VolumeOf v_spec_VolumeOf v_impl_volumeOf v_spec_l04Volume lr_impl_volumeOf_1_0 lr_spec_l04Volume_1_0
  rw [lo_VolumeOf, eq_ValidMesh]
theorem true_laws_FnExactVolumeOf (a : GMesh) (h : a.Places.length ≤ 9223372036854775807) (h' : a.Triangles.length ≤ 9223372036854775807) (h2 : ∀ t ∈ a.Triangles, t.length ≤ 9223372036854775807) : v_laws_FnExactVolumeOf a = true := by
  simp [v_laws_FnExactVolumeOf, eq_VolumeOf, same_self, eqMesh_self]

end Go.Ab
