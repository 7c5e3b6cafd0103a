/- The functions of this seat as plain Lean, and that the program's are these. Printed by a program of the prover's own. -/
import Derived.Test.YtceihfmhaojohaaB5
set_option linter.unusedVariables false
set_option maxRecDepth 100000
namespace Go.Ab
open Go.RowKit

theorem kind_of_is2 (h : GHold) (hs : v_spec_l04Is h = true) : h.Kind = 0 ∨ h.Kind = 1 ∨ h.Kind = 2 := by
  cases hk : v_spec_l00In h.Kind 0 2 with
  | false => simp [v_spec_l04Is, hk] at hs
  | true => simp [v_spec_l00In] at hk; omega
theorem holdPlace_eq (h : GHold) (p : GVector) (hs : v_spec_l04Is h = true) : v_impl_holdPlace h p = v_spec_l04Put h p := by
  rcases kind_of_is2 h hs with hk | hk | hk <;> simp [v_impl_holdPlace, v_spec_l04Put, hk] <;> rfl
theorem lo_OffHolds (m : GMesh) (hs : List GHold) (h : ∀ x ∈ hs, v_spec_l04Is x = true) : ∀ k c i, 0 ≤ i → lo_impl_OffHolds_1 m hs k c i = lo_spec_OffHolds_1 m hs k c i := by
  intro k
  induction k with
  | zero => intros; rfl
  | succ k ih =>
    intro c i h0
    rw [lo_impl_OffHolds_1, lo_spec_OffHolds_1]
    by_cases hi : i < (hs.length : Int)
    · have hx : v_spec_l04Is (hs.getD i.toNat default) = true := by
        have hn : i.toNat < hs.length := by omega
        rw [List.getD_eq_getElem?_getD, List.getElem?_eq_getElem hn]; exact h _ (List.getElem_mem hn)
      rw [decide_eq_true hi, cond_true, cond_true, ih _ _ (by omega), ih _ _ (by omega)]
      unfold nd_impl_OffHolds_0 nd_spec_OffHolds_0
      rw [holdPlace_eq _ _ hx]
      rfl
    · rw [decide_eq_false hi]; rfl
theorem eq_OffHolds (m : GMesh) (hs : List GHold) : v_impl_OffHolds m hs = v_spec_OffHolds m hs := by
  unfold v_impl_OffHolds v_spec_OffHolds
  rw [eq_AreHolds]
  cases h : v_spec_l04Are m hs with
  | false => rfl
  | true =>
    unfold lr_impl_OffHolds_1_0 lr_spec_OffHolds_1_0
    rw [lo_OffHolds m hs (okH_is m hs h).2.2 _ _ _ (Int.le_refl 0)]
theorem true_laws_FnExactOffHolds (a : GMesh) (hs : List GHold) (h0_0 : a.Places.length ≤ 9223372036854775807) (h0_1 : a.Triangles.length ≤ 9223372036854775807) (h0_2 : ∀ t ∈ a.Triangles, t.length ≤ 9223372036854775807) (h1_0 : hs.length ≤ 9223372036854775807) : v_laws_FnExactOffHolds a hs = true := by
  unfold v_laws_FnExactOffHolds
  simp [nd_laws_FnExactOffHolds_0, eqMesh_self, eqHoldS_self, eq_OffHolds, same_self]

end Go.Ab
