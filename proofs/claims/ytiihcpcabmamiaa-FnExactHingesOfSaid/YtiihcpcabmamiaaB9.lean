/- The functions of this seat as plain Lean, and that the program's are these. Printed by a program of the prover's own. -/
import Derived.Test.YtiihcpcabmamiaaB8
set_option linter.unusedVariables false
set_option linter.unusedSimpArgs false
set_option maxRecDepth 100000
namespace Go.Ab
open Go.RowKit Go.Proofs.Try

theorem held_Int64_min (a : List Int) (c : Int) : v_laws_heldInt64S (v_laws_markInt64S_min a c).2 c = (v_laws_markInt64S_min a c).1 := by
  rw [hdeq_Int64, mkeq_Int64_min, hdL_mkL (fun x c => by simp [hp_Int64, mk_Int64_min, ofInt_self]) (fun x c => rfl)]

theorem held_Int64SS_mon (a : List (List Int)) (c : Int) (g0 : a.length ≤ 1073741824) (g1 : ∀ t ∈ a, t.length ≤ 1073741824) (h0 : 0 ≤ c) (h1 : c ≤ 3458764513820540928) : v_laws_heldInt64SS (v_laws_markInt64SS_mon a c).2 c = (v_laws_markInt64SS_mon a c).1 := by
  rw [hdeq_Int64SS, mkeq_Int64SS, hdL_mkL_b (W := 1073741824) (M := 4611686018427387904) a c (fun x hx c k0 k1 => by
    have q := markge_Int64_min x c (g1 x hx) k0 (by omega)
    have q2 := held_Int64_min x c
    refine ⟨?_, q2, q.1, q.2⟩
    rw [q2]
    simp; omega) h0 (by omega)]

theorem true_laws_FnExactHingesOf (a : GMesh) (h0_0 : a.Places.length ≤ 9223372036854775807) (h0_1 : a.Triangles.length ≤ 9223372036854775807) (h0_2 : ∀ t ∈ a.Triangles, t.length ≤ 9223372036854775807) : v_laws_FnExactHingesOf a = true := by
  unfold v_laws_FnExactHingesOf
  have z0 := ok_laws_szMesh a 1048576 h0_0 h0_1 h0_2 (by omega) (by omega)
  cases hc0 : decide (v_laws_szMesh a 1048576 < 0) with
  | true => rfl
  | false =>
    simp only [decide_eq_false_iff_not] at hc0
    have hm0 := markge_Mesh_mAooZn a 1 (by omega) (by omega) (fun t ht => by have q := z0.2.2.2.2 t ht; omega) (by omega) (by omega)
    have l0 := le_impl_HingesOf a
    have v0 := markge_Int64SS_mon (v_impl_HingesOf a).1 1 (by omega) (fun t ht => by have q := len2_impl_HingesOf a t ht; omega) (by omega) (by omega)
    have w0 := held_Int64SS_mon (v_impl_HingesOf a).1 1 (by omega) (fun t ht => by have q := len2_impl_HingesOf a t ht; omega) (by omega) (by omega)
    simp only [eq_HingesOf] at *
    simp only [eqMesh_self, eqInt64SS_self, w0, beq_self_eq_true, Bool.not_true, cond_true, cond_false, bne_self_eq_false]
    rw [decide_eq_false (by omega)]
    rw [decide_eq_false (by omega)]
    rfl

end Go.Ab
