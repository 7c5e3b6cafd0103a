/- The functions of this seat as plain Lean, and that the program's are these. Printed by a program of the prover's own. -/
import Derived.Test.YtpndflbllggeiaaGreatB11
set_option linter.unusedVariables false
set_option linter.unusedSimpArgs false
set_option maxRecDepth 100000
namespace Go.Ab
open Go.RowKit Go.Proofs.Tryz
theorem Zbv (a : Gb) (c : (List Int)) (x : Nat) (y : Int) (h0_0 : a.Me.Pq.length ≤ 9223372036854775807) (h0_1 : a.Me.Tr.length ≤ 9223372036854775807) (h0_2 : ∀ t ∈ a.Me.Tr, t.length ≤ 9223372036854775807) (h0_3 : a.Sp.length ≤ 9223372036854775807) (h0_4 : a.We.length ≤ 9223372036854775807) (h1_0 : c.length ≤ 9223372036854775807) : Z1e a c x y = true := by
  unfold Z1e
  cases hc1 : decide ((c.length : Int) > 1048576) with
  | true => rfl
  | false =>
    simp only [decide_eq_false_iff_not] at hc1
    have z0 := Zc1 a 1048576 h0_0 h0_1 h0_2 h0_3 h0_4 (by omega) (by omega)
    cases hc0 : decide (Z2y a 1048576 < 0) with
    | true => rfl
    | false =>
      simp only [decide_eq_false_iff_not] at hc0
      have hm0 := Z6Y a 1 (by omega) (by omega) (fun t ht => by have q := z0.2.2.2.2.2.2 t ht; omega) (by omega) (by omega) (by omega) (by omega)
      have hm1 := Zf2 c ((Z3 a 1).1) (by omega) (by omega) (by omega)
      have l0 := Zbj a c x y
      have l1 := Zbk a c x y
      have l2 := Zbl a c x y
      have l3 := Zbm a c x y
      have l4 := Zbn a c x y
      have v0 := Z6Y (Z2 a c x y).1 1 (by omega) (by omega) (fun t ht => by have q := z0.2.2.2.2.2.2 t (Z84 a c x y t ht); omega) (by omega) (by omega) (by omega) (by omega)
      have w0 := Zbx (Z2 a c x y).1 1 (by omega) (by omega) (fun t ht => by have q := z0.2.2.2.2.2.2 t (Z84 a c x y t ht); omega) (by omega) (by omega) (by omega) (by omega)
      have v1 := Z7q (Z2 a c x y).2.1 ((Z3 (Z2 a c x y).1 1).1) (by omega) (by omega) (by omega)
      simp only [Z3r, Z3Y, Z6g] at *
      simp only [Zh0, ZcX, Zan, ZbN, w0, Zbu, beq_self_eq_true, Bool.not_true, cond_true, cond_false, bne_self_eq_false]
      rw [decide_eq_false (by omega)]
      rw [decide_eq_false (by omega)]
      rw [decide_eq_false (by omega)]
      rfl
end Go.Ab
