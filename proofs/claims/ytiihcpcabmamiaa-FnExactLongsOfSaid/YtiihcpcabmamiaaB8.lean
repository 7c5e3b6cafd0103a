/- The functions of this seat as plain Lean, and that the program's are these. Printed by a program of the prover's own. -/
import Derived.Test.YtiihcpcabmamiaaB7
set_option linter.unusedVariables false
set_option linter.unusedSimpArgs false
set_option maxRecDepth 100000
namespace Go.Ab
open Go.RowKit Go.Proofs.Try

theorem held_Float32_mon (a : List Nat) (c : Int) : v_laws_heldFloat32S (v_laws_markFloat32S_mon a c).2 c = (v_laws_markFloat32S_mon a c).1 := by
  rw [hdeq_Float32, mkeq_Float32_mon, hdL_mkL (fun x c => by simp [hp_Float32, mk_Float32_mon, ofInt_self]) (fun x c => rfl)]

theorem true_laws_FnExactLongsOf (a : GMesh) (h0_0 : a.Places.length ≤ 9223372036854775807) (h0_1 : a.Triangles.length ≤ 9223372036854775807) (h0_2 : ∀ t ∈ a.Triangles, t.length ≤ 9223372036854775807) : v_laws_FnExactLongsOf a = true := by
  unfold v_laws_FnExactLongsOf
  have z0 := ok_laws_szMesh a 1048576 h0_0 h0_1 h0_2 (by omega) (by omega)
  cases hc0 : decide (v_laws_szMesh a 1048576 < 0) with
  | true => rfl
  | false =>
    simp only [decide_eq_false_iff_not] at hc0
    have hm0 := markge_Mesh_mAooZn a 1 (by omega) (by omega) (fun t ht => by have q := z0.2.2.2.2 t ht; omega) (by omega) (by omega)
    have l0 := le_impl_LongsOf a
    have v0 := markge_Float32_mon (v_impl_LongsOf a).1 1 (by omega) (by omega) (by omega)
    simp only [eq_LongsOf] at *
    simp only [eqMesh_self, eqFloat32S_self, held_Float32_mon, beq_self_eq_true, Bool.not_true, cond_true, cond_false, bne_self_eq_false]
    rw [decide_eq_false (by omega)]
    rw [decide_eq_false (by omega)]
    rfl

end Go.Ab
