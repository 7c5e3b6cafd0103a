/- The functions of this seat as plain Lean, and that the program's are these. Printed by a program of the prover's own. -/
import Derived.Test.YtpndflbllggeiaaGreatB9
set_option linter.unusedVariables false
set_option linter.unusedSimpArgs false
set_option maxRecDepth 100000
namespace Go.Ab
open Go.RowKit Go.Proofs.Tryz
theorem Zas (a : List GVector) (c : Int) : Z1h (Zk a c).2 c = (Zk a c).1 := by
  rw [Zfw, Zao, hdL_mkL (fun x c => by simp [Z9i, Z5U, ofInt_self]) (fun x c => rfl)]
theorem Zen (a : List Int) (c : Int) : Z1k (Zl a c).2 c = (Zl a c).1 := by
  rw [ZfW, ZaY, hdL_mkL (fun x c => by simp [Zab, Z6O, ofInt_self]) (fun x c => rfl)]
theorem Zdt (a : List (List Int)) (c : Int) (g0 : a.length ≤ 1073741824) (g1 : ∀ t ∈ a, t.length ≤ 1073741824) (h0 : 0 ≤ c) (h1 : c ≤ 3458764513820540928) : Z2H (ZW a c).2 c = (ZW a c).1 := by
  rw [Zfg, Za8, hdL_mkL_b (W := 1073741824) (M := 4611686018427387904) a c (fun x hx c k0 k1 => by
    have q := Za7 x c (g1 x hx) k0 (by omega)
    have q2 := Zen x c
    refine ⟨?_, q2, q.1, q.2⟩
    rw [q2]
    simp; omega) h0 (by omega)]
theorem Zdu (a : GMesh) (c : Int) (g0 : a.Places.length ≤ 1073741824) (g1 : a.Triangles.length ≤ 1073741824) (g2 : ∀ t ∈ a.Triangles, t.length ≤ 1073741824) (h0 : 0 ≤ c) (h1 : c ≤ 1152921504606846976) : Z1R ⟨(Zd a c).2.1, (Zd a c).2.2⟩ c = (Zd a c).1 := by
  have p0 := Z5i a.Places c g0 (by omega) (by omega)
  have q0 := Zas a.Places c
  have p1 := Z9d a.Triangles ((Zk a.Places c).1) g1 g2 (by omega) (by omega)
  have q1 := Zdt a.Triangles ((Zk a.Places c).1) g1 g2 (by omega) (by omega)
  unfold Z1R
  simp only [Zd, true_and] at *
  simp only [q0, q1]
  repeat (rw [decide_eq_false (by omega), cond_false])
  try rfl
theorem ZdZ (a : List GSpring) (c : Int) : Z1W (Zq a c).2 c = (Zq a c).1 := by
  rw [Zfx, Zap, hdL_mkL (fun x c => by simp [Z9j, Z5X, ofInt_self]) (fun x c => rfl)]
theorem Zdv (a : List Nat) (c : Int) : Z2y (ZZ a c).2 c = (ZZ a c).1 := by
  rw [Zfh, Za9, hdL_mkL (fun x c => by simp [Z8p, Z5q, ofInt_self]) (fun x c => rfl)]
theorem Zaf (a : GBody) (c : Int) (g0 : a.Mesh.Places.length ≤ 1073741824) (g1 : a.Mesh.Triangles.length ≤ 1073741824) (g2 : ∀ t ∈ a.Mesh.Triangles, t.length ≤ 1073741824) (g3 : a.Springs.length ≤ 1073741824) (g4 : a.Weights.length ≤ 1073741824) (h0 : 0 ≤ c) (h1 : c ≤ 1152921504606846976) : Z2c ⟨⟨(Za a c).2.1, (Za a c).2.2.1⟩, (Za a c).2.2.2.1, a.Film, a.Bend, (Za a c).2.2.2.2, a.Fall⟩ c = (Za a c).1 := by
  have p0 := Z9e a.Mesh c g0 g1 g2 (by omega) (by omega)
  have q0 := Zdu a.Mesh c g0 g1 g2 (by omega) (by omega)
  have p1 := Z9E a.Springs ((Zd a.Mesh c).1) g3 (by omega) (by omega)
  have q1 := ZdZ a.Springs ((Zd a.Mesh c).1)
  have p2 := Z9g a.Weights ((Zq a.Springs ((Zd a.Mesh c).1)).1) g4 (by omega) (by omega)
  have q2 := Zdv a.Weights ((Zq a.Springs ((Zd a.Mesh c).1)).1)
  unfold Z2c
  simp only [Za, Zd] at *
  simp only [q0, q1, q2]
  repeat (rw [decide_eq_false (by omega), cond_false])
  try rfl
theorem Z9s (a : GMotion) (c : Int) (g0 : a.Body.Mesh.Places.length ≤ 1073741824) (g1 : a.Body.Mesh.Triangles.length ≤ 1073741824) (g2 : ∀ t ∈ a.Body.Mesh.Triangles, t.length ≤ 1073741824) (g3 : a.Body.Springs.length ≤ 1073741824) (g4 : a.Body.Weights.length ≤ 1073741824) (g5 : a.Speeds.length ≤ 1073741824) (h0 : 0 ≤ c) (h1 : c ≤ 1152921504606846976) : Z3N ⟨⟨⟨(Z3 a c).2.1, (Z3 a c).2.2.1⟩, (Z3 a c).2.2.2.1, a.Body.Film, a.Body.Bend, (Z3 a c).2.2.2.2.1, a.Body.Fall⟩, (Z3 a c).2.2.2.2.2⟩ c = (Z3 a c).1 := by
  have p0 := Z6v a.Body c g0 g1 g2 g3 g4 (by omega) (by omega)
  have q0 := Zaf a.Body c g0 g1 g2 g3 g4 (by omega) (by omega)
  have p1 := Z5i a.Speeds ((Za a.Body c).1) g5 (by omega) (by omega)
  have q1 := Zas a.Speeds ((Za a.Body c).1)
  unfold Z3N
  simp only [Z3, Za] at *
  simp only [q0, q1]
  repeat (rw [decide_eq_false (by omega), cond_false])
  try rfl
theorem Z9k (a : GMotion) (c : (List Int)) (x : Nat) (y : Nat) (z : Nat) (h0_0 : a.Body.Mesh.Places.length ≤ 9223372036854775807) (h0_1 : a.Body.Mesh.Triangles.length ≤ 9223372036854775807) (h0_2 : ∀ t ∈ a.Body.Mesh.Triangles, t.length ≤ 9223372036854775807) (h0_3 : a.Body.Springs.length ≤ 9223372036854775807) (h0_4 : a.Body.Weights.length ≤ 9223372036854775807) (h0_5 : a.Speeds.length ≤ 9223372036854775807) (h1_0 : c.length ≤ 9223372036854775807) : Z19 a c x y z = true := by
  unfold Z19
  cases hc1 : decide ((c.length : Int) > 1048576) with
  | true => rfl
  | false =>
    simp only [decide_eq_false_iff_not] at hc1
    have z0 := Z9O a 1048576 h0_0 h0_1 h0_2 h0_3 h0_4 h0_5 (by omega) (by omega)
    cases hc0 : decide (Z1Q a 1048576 < 0) with
    | true => rfl
    | false =>
      simp only [decide_eq_false_iff_not] at hc0
      have hm0 := Z5r a 1 (by omega) (by omega) (fun t ht => by have q := z0.2.2.2.2.2.2.2 t ht; omega) (by omega) (by omega) (by omega) (by omega) (by omega)
      have hm1 := Zds c ((Z3 a 1).1) (by omega) (by omega) (by omega)
      have l0 := Z8K a c x y z
      have l1 := Z8L a c x y z
      have l2 := Z8M a c x y z
      have l3 := Z8N a c x y z
      have l4 := Z8O a c x y z
      have v0 := Z5r (Z2 a c x y z).1 1 (by omega) (by omega) (fun t ht => by have q := z0.2.2.2.2.2.2.2 t (Z6j a c x y z t ht); omega) (by omega) (by omega) (by omega) (by omega) (by omega)
      have w0 := Z9s (Z2 a c x y z).1 1 (by omega) (by omega) (fun t ht => by have q := z0.2.2.2.2.2.2.2 t (Z6j a c x y z t ht); omega) (by omega) (by omega) (by omega) (by omega) (by omega)
      simp only [Z3s, Z4v] at *
      simp only [Zf2, Zbu, Z7K, w0, beq_self_eq_true, Bool.not_true, cond_true, cond_false, bne_self_eq_false]
      rw [decide_eq_false (by omega)]
      rw [decide_eq_false (by omega)]
      rfl
end Go.Ab
