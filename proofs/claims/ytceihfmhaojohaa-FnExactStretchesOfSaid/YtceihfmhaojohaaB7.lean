/- The functions of this seat as plain Lean, and that the program's are these. Printed by a program of the prover's own. -/
import Derived.Test.YtceihfmhaojohaaB6
set_option linter.unusedVariables false
set_option maxRecDepth 100000
namespace Go.Ab
open Go.Proofs.Try
open Go.RowKit

theorem held_Float32_mon (a : List Nat) (c : Int) : v_laws_heldFloat32S (v_laws_markFloat32S_mon a c).2 c = (v_laws_markFloat32S_mon a c).1 := by
  rw [hdeq_Float32, mkeq_Float32_mon, hdL_mkL (fun x c => by simp [hp_Float32, mk_Float32_mon, ofInt_self]) (fun x c => rfl)]

theorem eq_StretchesOf (b : GBody) : v_impl_StretchesOf b = v_spec_StretchesOf b := by
  unfold v_impl_StretchesOf v_spec_StretchesOf
  rw [eq_ValidBody, show lr_impl_StretchesOf_1_0 b = lr_spec_StretchesOf_1_0 b from by kernel_rfl]
theorem true_laws_FnExactStretchesOf (a : GBody) (h0_0 : a.Mesh.Places.length ≤ 9223372036854775807) (h0_1 : a.Mesh.Triangles.length ≤ 9223372036854775807) (h0_2 : ∀ t ∈ a.Mesh.Triangles, t.length ≤ 9223372036854775807) (h0_3 : a.Springs.length ≤ 9223372036854775807) (h0_4 : a.Weights.length ≤ 9223372036854775807) : v_laws_FnExactStretchesOf a = true := by
  have z := ok_laws_szBody a 1048576 h0_0 h0_1 h0_2 h0_3 h0_4 (by omega) (by omega)
  unfold v_laws_FnExactStretchesOf
  cases hc : decide (v_laws_szBody a 1048576 < 0) with
  | true => rfl
  | false =>
    simp only [decide_eq_false_iff_not] at hc
    have hm := markge_Body_mAooonnonnnZn a 1 (by omega) (by omega) (fun t ht => by have q := z.2.2.2.2.2.2 t ht; omega) (by omega) (by omega) (by omega) (by omega)
    have hl := le_impl_StretchesOf a
    have hv := markge_Float32_mon (v_impl_StretchesOf a).1 1 (by omega) (by omega) (by omega)
    simp only [eq_laws_toBody, eq_StretchesOf, eqFloat32S_self, eqBody_self, held_Float32_mon, beq_self_eq_true, cond_true, cond_false, bne_self_eq_false] at *
    rw [decide_eq_false (by omega), decide_eq_false (by omega)]
    rfl

end Go.Ab
