/- The functions of this seat as plain Lean, and that the program's are these. Printed by a program of the prover's own. -/
import Derived.Test.YtconncpnjlgelaaB4
set_option linter.unusedVariables false
set_option maxRecDepth 100000
namespace Go.Ab
open Go.RowKit

theorem held_Vector_mon (a : List GVector) (c : Int) : v_laws_heldVectorS (v_laws_markVectorS_mon a c).2 c = (v_laws_markVectorS_mon a c).1 := by
  rw [hdeq_Vector, mkeq_Vector_mon, hdL_mkL (fun x c => by simp [hp_Vector, mk_Vector_mon, ofInt_self]) (fun x c => rfl)]

theorem lo_GasForces2 (m : GMesh) (p : Nat) (i : Int) (r0 : List GVector) (h : (m.Triangles.getD i.toNat default).length = 3) : ∀ k j r, lo_impl_GasForces_2 m p i r0 k j r = lo_spec_l04Gas_2 m p i r0 k j r := by
  intro k
  induction k with
  | zero => intros; rfl
  | succ k ih =>
    intro j r
    rw [lo_impl_GasForces_2, lo_spec_l04Gas_2, ih, show nd_impl_GasForces_0 m p i j r = nd_spec_l04Gas_0 m p i j r from by kernel_rfl, h]
    rfl
theorem lo_GasForces1 (m : GMesh) (p : Nat) (hT : OkTris m.Places.length m.Triangles) : ∀ k i r, 0 ≤ i → lo_impl_GasForces_1 m p k i r = lo_spec_l04Gas_1 m p k i r := by
  intro k
  induction k with
  | zero => intros; rfl
  | succ k ih =>
    intro i r h0
    rw [lo_impl_GasForces_1, lo_spec_l04Gas_1]
    by_cases hi : i < (m.Triangles.length : Int)
    · rw [decide_eq_true hi, cond_true, cond_true, ih _ _ (by omega)]
      have h := (OkTris.at hT h0 hi).1
      unfold lr_impl_GasForces_2_0 lr_spec_l04Gas_2_0
      rw [lo_GasForces2 m p i r h, h]
      rfl
    · rw [decide_eq_false hi]; rfl
theorem eq_GasForces (m : GMesh) (p : Nat) : v_impl_GasForces m p = v_spec_GasForces m p := by
  unfold v_impl_GasForces v_spec_GasForces v_spec_l04Gas
  rw [eq_ValidMesh]
  cases h : v_spec_l02Is m with
  | false => rfl
  | true =>
    unfold lr_impl_GasForces_1_1 lr_spec_l04Gas_1_1
    rw [lo_GasForces1 m p (okTris_is m h) _ _ _ (Int.le_refl 0)]
theorem true_laws_FnExactGasForces (a : GMesh) (p : Nat) (h1 : a.Places.length ≤ 9223372036854775807) (h2 : a.Triangles.length ≤ 9223372036854775807) (h3 : ∀ t ∈ a.Triangles, t.length ≤ 9223372036854775807) : v_laws_FnExactGasForces a p = true := by
  have z := ok_laws_szMesh a 1048576 h1 h2 h3 (by omega) (by omega)
  unfold v_laws_FnExactGasForces
  cases hc : decide (v_laws_szMesh a 1048576 < 0) with
  | true => rfl
  | false =>
    simp only [decide_eq_false_iff_not] at hc
    have hm := markge_Mesh_mAooZn a 1 (by omega) (by omega) (fun t ht => by have q := z.2.2.2.2 t ht; omega) (by omega) (by omega)
    have hl := le_v_impl_GasForces_0 a p
    have hv := markge_Vector_mon (v_impl_GasForces a p).1 1 (by omega) (by omega) (by omega)
    simp only [eq_laws_toMesh, eq_GasForces, eqVectorS_self, eqMesh_self, held_Vector_mon, beq_self_eq_true, cond_true, cond_false, bne_self_eq_false] at *
    rw [decide_eq_false (by omega), decide_eq_false (by omega)]
    rfl

end Go.Ab
