/- The functions of this seat as plain Lean, and that the program's are these. Printed by a program of the prover's own. -/
import Derived.Test.YtpndflbllggeiaaGreatB10
set_option linter.unusedVariables false
set_option linter.unusedSimpArgs false
set_option maxRecDepth 100000
namespace Go.Ab
open Go.RowKit Go.Proofs.Tryz
theorem ZeW (a : List GVector) (c : Int) : Z1Y (Zq a c).2 c = (Zq a c).1 := by
  rw [Zgp, Zb2, hdL_mkL (fun x c => by simp [Z9K, Z6a, ofInt_self]) (fun x c => rfl)]
theorem Zfl (a : List Int) (c : Int) : Z1j (Zi a c).2 c = (Zi a c).1 := by
  rw [ZgQ, Zbw, hdL_mkL (fun x c => by simp [ZaH, Z6V, ofInt_self]) (fun x c => rfl)]
theorem Zeu (a : List (List Int)) (c : Int) (g0 : a.length ≤ 1073741824) (g1 : ∀ t ∈ a, t.length ≤ 1073741824) (h0 : 0 ≤ c) (h1 : c ≤ 3458764513820540928) : Z2O (ZW a c).2 c = (ZW a c).1 := by
  rw [Zg9, ZaD, hdL_mkL_b (W := 1073741824) (M := 4611686018427387904) a c (fun x hx c k0 k1 => by
    have q := ZaC x c (g1 x hx) k0 (by omega)
    have q2 := Zfl x c
    refine ⟨?_, q2, q.1, q.2⟩
    rw [q2]
    simp; omega) h0 (by omega)]
theorem Zev (a : GMesh) (c : Int) (g0 : a.Places.length ≤ 1073741824) (g1 : a.Triangles.length ≤ 1073741824) (g2 : ∀ t ∈ a.Triangles, t.length ≤ 1073741824) (h0 : 0 ≤ c) (h1 : c ≤ 1152921504606846976) : Z1T ⟨(Ze a c).2.1, (Ze a c).2.2⟩ c = (Ze a c).1 := by
  have p0 := Za5 a.Places c g0 (by omega) (by omega)
  have q0 := ZeW a.Places c
  have p1 := Z9G a.Triangles ((Zq a.Places c).1) g1 g2 (by omega) (by omega)
  have q1 := Zeu a.Triangles ((Zq a.Places c).1) g1 g2 (by omega) (by omega)
  unfold Z1T
  simp only [Ze, true_and] at *
  simp only [q0, q1]
  repeat (rw [decide_eq_false (by omega), cond_false])
  try rfl
theorem ZeX (a : List GSpring) (c : Int) : Z1Z (Zr a c).2 c = (Zr a c).1 := by
  rw [Zgq, Zb3, hdL_mkL (fun x c => by simp [Z9L, Z6d, ofInt_self]) (fun x c => rfl)]
theorem Zew (a : List Nat) (c : Int) : Z2F (ZX a c).2 c = (ZX a c).1 := by
  rw [Zga, ZaE, hdL_mkL (fun x c => by simp [Z8M, Z5I, ofInt_self]) (fun x c => rfl)]
theorem ZaK (a : GBody) (c : Int) (g0 : a.Mesh.Places.length ≤ 1073741824) (g1 : a.Mesh.Triangles.length ≤ 1073741824) (g2 : ∀ t ∈ a.Mesh.Triangles, t.length ≤ 1073741824) (g3 : a.Springs.length ≤ 1073741824) (g4 : a.Weights.length ≤ 1073741824) (h0 : 0 ≤ c) (h1 : c ≤ 1152921504606846976) : Z40 ⟨⟨(Z5 a c).2.1, (Z5 a c).2.2.1⟩, (Z5 a c).2.2.2.1, a.Film, a.Bend, (Z5 a c).2.2.2.2, a.Fall⟩ c = (Z5 a c).1 := by
  have p0 := Z9H a.Mesh c g0 g1 g2 (by omega) (by omega)
  have q0 := Zev a.Mesh c g0 g1 g2 (by omega) (by omega)
  have p1 := Za6 a.Springs ((Ze a.Mesh c).1) g3 (by omega) (by omega)
  have q1 := ZeX a.Springs ((Ze a.Mesh c).1)
  have p2 := Z9J a.Weights ((Zr a.Springs ((Ze a.Mesh c).1)).1) g4 (by omega) (by omega)
  have q2 := Zew a.Weights ((Zr a.Springs ((Ze a.Mesh c).1)).1)
  unfold Z40
  simp only [Z5, Ze] at *
  simp only [q0, q1, q2]
  repeat (rw [decide_eq_false (by omega), cond_false])
  try rfl
theorem Zal (a : GBody) (c : (List Int)) (x : Nat) (h0_0 : a.Mesh.Places.length ≤ 9223372036854775807) (h0_1 : a.Mesh.Triangles.length ≤ 9223372036854775807) (h0_2 : ∀ t ∈ a.Mesh.Triangles, t.length ≤ 9223372036854775807) (h0_3 : a.Springs.length ≤ 9223372036854775807) (h0_4 : a.Weights.length ≤ 9223372036854775807) (h1_0 : c.length ≤ 9223372036854775807) : Z12 a c x = true := by
  unfold Z12
  cases hc1 : decide ((c.length : Int) > 1048576) with
  | true => rfl
  | false =>
    simp only [decide_eq_false_iff_not] at hc1
    have z0 := Zbg a 1048576 h0_0 h0_1 h0_2 h0_3 h0_4 (by omega) (by omega)
    cases hc0 : decide (Z2p a 1048576 < 0) with
    | true => rfl
    | false =>
      simp only [decide_eq_false_iff_not] at hc0
      have hm0 := Z6A a 1 (by omega) (by omega) (fun t ht => by have q := z0.2.2.2.2.2.2 t ht; omega) (by omega) (by omega) (by omega) (by omega)
      have hm1 := Zet c ((Z5 a 1).1) (by omega) (by omega) (by omega)
      have l0 := Za1 a c x
      have l1 := Za2 a c x
      have l2 := Za3 a c x
      have l3 := Za4 a c x
      have v0 := Z6A (Z2 a c x).1 1 (by omega) (by omega) (fun t ht => by have q := z0.2.2.2.2.2.2 t (Z7d a c x t ht); omega) (by omega) (by omega) (by omega) (by omega)
      have w0 := ZaK (Z2 a c x).1 1 (by omega) (by omega) (fun t ht => by have q := z0.2.2.2.2.2.2 t (Z7d a c x t ht); omega) (by omega) (by omega) (by omega) (by omega)
      simp only [Z3I, Z6g] at *
      simp only [Zgo, Zca, Z9C, w0, beq_self_eq_true, Bool.not_true, cond_true, cond_false, bne_self_eq_false]
      rw [decide_eq_false (by omega)]
      rw [decide_eq_false (by omega)]
      rfl
end Go.Ab
