/- The functions of this seat as plain Lean, and that the program's are these. Printed by a program of the prover's own. -/
import Derived.Test.YtdlbdodnokgemaaB3
set_option linter.unusedVariables false
set_option maxRecDepth 100000
namespace Go.Ab
open Go.RowKit

theorem lo_TorqueOf (m : GMesh) (f : List GVector) (hl : f.length = m.Places.length) : ∀ k i a b c, 0 ≤ i → lo_impl_sumOf_1 (lr_impl_TorqueOf_1_0 m f) k i a b c = lo_spec_TorqueOf_1 m f k i a b c := by
  intro k
  induction k with
  | zero => intros; rfl
  | succ k ih =>
    intro i a b c h0
    simp only [lo_impl_sumOf_1, lo_spec_TorqueOf_1, len_TorqueOf, hl]
    by_cases hi : i < (m.Places.length : Int)
    · have hn : i.toNat < m.Places.length := by omega
      have hg : (lr_impl_TorqueOf_1_0 m f).getD i.toNat default = v_spec_l01Cross (m.Places.getD i.toNat default) (f.getD i.toNat default) := by
        rw [app_TorqueOf, List.getD_eq_getElem?_getD, List.getElem?_map, List.getElem?_range hn]; rfl
      rw [hg, ih _ _ _ _ (by omega)]
      rfl
    · rw [decide_eq_false hi]; rfl
theorem eq_TorqueOf (m : GMesh) (f : List GVector) : v_impl_TorqueOf m f = v_spec_TorqueOf m f := by
  unfold v_impl_TorqueOf v_spec_TorqueOf
  rw [eq_ValidMesh]
  cases v_spec_l02Is m with
  | false => rfl
  | true =>
    cases hl : ((f.length : Int) != (m.Places.length : Int)) with
    | true => rfl
    | false =>
      have hl' : f.length = m.Places.length := by simp at hl; omega
      simp only [cond_true, cond_false]
      unfold v_impl_sumOf lr_impl_sumOf_1_0 lr_spec_TorqueOf_1_0
      rw [lo_TorqueOf m f hl' _ _ _ _ _ (Int.le_refl 0), len_TorqueOf, hl']
theorem true_laws_FnExactTorqueOf (a : GMesh) (f : List GVector) (h : a.Places.length ≤ 9223372036854775807) (h' : a.Triangles.length ≤ 9223372036854775807) (h2 : ∀ t ∈ a.Triangles, t.length ≤ 9223372036854775807) (h3 : f.length ≤ 9223372036854775807) : v_laws_FnExactTorqueOf a f = true := by
  simp [v_laws_FnExactTorqueOf, nd_laws_FnExactTorqueOf_0, eq_TorqueOf, eqVector_self, eqVectorS_self, eqMesh_self]

end Go.Ab
