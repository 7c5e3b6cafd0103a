/- The functions of this seat as plain Lean, and that the program's are these. Printed by a program of the prover's own. -/
import Derived.Test.YtpndflbllggeiaaGreatB6
set_option linter.unusedVariables false
set_option linter.unusedSimpArgs false
set_option maxRecDepth 100000
namespace Go.Ab
open Go.RowKit Go.Proofs.Tryz
theorem Z7p (arr_0 : GBody) : ∀ (k : Nat) (x_l0 : Int) (r2_l1 : (List GVector)) (hk : ((arr_0.Mesh.Triangles.length : Int) - x_l0).toNat < k), (Zj arr_0 k x_l0 r2_l1).length = r2_l1.length := by
  intro k
  induction k with
  | zero => intro x_l0 r2_l1 hk; exact absurd hk (Nat.not_lt_zero _)
  | succ k ih =>
    intro x_l0 r2_l1 hk
    cases h_0 : (decide (x_l0 < (arr_0.Mesh.Triangles.length : Int))) with
    | true =>
      cases h_1 : (fcmp .gtr .f32 (Zd (Z7 arr_0.Mesh (arr_0.Mesh.Triangles.getD x_l0.toNat default))) 0) with
      | true =>
        have e : Zj arr_0 (k + 1) x_l0 r2_l1 = (Zj arr_0 k (x_l0 + 1) (Z1P arr_0 x_l0 r2_l1)) := by simp only [Zj, h_0, h_1, cond_true]
        rw [e, ih (x_l0 + 1) (Z1P arr_0 x_l0 r2_l1) (by simp_all <;> omega)]; simp
      | false =>
        have e : Zj arr_0 (k + 1) x_l0 r2_l1 = (Zj arr_0 k (x_l0 + 1) (Z1Q arr_0 x_l0 r2_l1)) := by simp only [Zj, h_0, h_1, cond_true, cond_false]
        rw [e, ih (x_l0 + 1) (Z1Q arr_0 x_l0 r2_l1) (by simp_all <;> omega)]; simp
    | false =>
      have e : Zj arr_0 (k + 1) x_l0 r2_l1 = r2_l1 := by simp only [Zj, h_0, cond_false]
      first | (rw [e]; done) | (rw [e]; rfl)
def Z2b (arr_0 : GBody) : (List GVector) := (Zj arr_0 (((arr_0.Mesh.Triangles.length : Int) - 0).toNat + 1) 0 (Z2a arr_0))
@[simp] theorem Za4 (arr_0 : GBody) : (Z2b arr_0).length = ((Z2a arr_0) : (List GVector)).length := Z7p arr_0 (((arr_0.Mesh.Triangles.length : Int) - 0).toNat + 1) 0 (Z2a arr_0) (by exact Nat.lt_succ_self _)
def Z2c (arr_0 : GBody) (x_l0 : Int) (r2_l1 : (List GVector)) : (List GVector) := (Zh (((Z5 arr_0.Mesh).getD x_l0.toNat default).getD 0 default) (Zi arr_0.Mesh ((Z5 arr_0.Mesh).getD x_l0.toNat default)) arr_0.Bend r2_l1)
@[simp] theorem Z2y (arr_0 : GBody) (x_l0 : Int) (r2_l1 : (List GVector)) : (Z2c arr_0 x_l0 r2_l1).length = r2_l1.length := by unfold Z2c; simp
def Z20 (arr_0 : GBody) (x_l0 : Int) (r2_l1 : (List GVector)) : (List GVector) := (Zh (((Z5 arr_0.Mesh).getD x_l0.toNat default).getD 1 default) (Zi arr_0.Mesh ((Z5 arr_0.Mesh).getD x_l0.toNat default)) arr_0.Bend (Z2c arr_0 x_l0 r2_l1))
@[simp] theorem Z2t (arr_0 : GBody) (x_l0 : Int) (r2_l1 : (List GVector)) : (Z20 arr_0 x_l0 r2_l1).length = (Z2c arr_0 x_l0 r2_l1).length := by unfold Z20; simp
def Z21 (arr_0 : GBody) (x_l0 : Int) (r2_l1 : (List GVector)) : (List GVector) := (Zh (((Z5 arr_0.Mesh).getD x_l0.toNat default).getD 2 default) (Zi arr_0.Mesh ((Z5 arr_0.Mesh).getD x_l0.toNat default)) (fneg .f32 arr_0.Bend) (Z20 arr_0 x_l0 r2_l1))
@[simp] theorem Z2u (arr_0 : GBody) (x_l0 : Int) (r2_l1 : (List GVector)) : (Z21 arr_0 x_l0 r2_l1).length = (Z20 arr_0 x_l0 r2_l1).length := by unfold Z21; simp
def Z22 (arr_0 : GBody) (x_l0 : Int) (r2_l1 : (List GVector)) : (List GVector) := (Zh (((Z5 arr_0.Mesh).getD x_l0.toNat default).getD 3 default) (Zi arr_0.Mesh ((Z5 arr_0.Mesh).getD x_l0.toNat default)) (fneg .f32 arr_0.Bend) (Z21 arr_0 x_l0 r2_l1))
@[simp] theorem Zap (arr_0 : GBody) (x_l0 : Int) (r2_l1 : (List GVector)) : (Z22 arr_0 x_l0 r2_l1).length = (Z21 arr_0 x_l0 r2_l1).length := by unfold Z22; simp
def ZD (arr_0 : GBody) : Nat → Int → (List GVector) → (List GVector)
  | 0, _, _ => default
  | k + 1, x_l0, r2_l1 => (cond (decide (x_l0 < ((Z5 arr_0.Mesh).length : Int)))
    (ZD arr_0 k (x_l0 + 1) (Z22 arr_0 x_l0 r2_l1))
    r2_l1)
def Z4L (arr_0 : GBody) (r : (List GVector)) : Ex × St := ((.exit 6), ⟨.agg [.sl (arr_0.Mesh.Places.map GVector.cells), .sl (arr_0.Mesh.Triangles.map (cL (cI .i64))), .sl (arr_0.Springs.map GSpring.cells), .f .f32 arr_0.Film, .f .f32 arr_0.Bend, .sl (arr_0.Weights.map (cF .f32)), .f .f32 arr_0.Fall.X, .f .f32 arr_0.Fall.Y, .f .f32 arr_0.Fall.Z] :: .ptr 0 0 0 :: .nils :: .ptr 1 0 0 :: .fn 106 [.ptr 1 0 0] :: an 18 (.ptr 0 0 0 :: .ptr 0 0 0 :: .sl (arr_0.Mesh.Places.map GVector.cells) :: .i .i64 (arr_0.Mesh.Places.length : Int) :: .own 2 :: .fn 106 [.ptr 1 0 0] :: .ptr 0 0 2 :: .sl (arr_0.Springs.map GSpring.cells) :: an 25 (.ptr 0 0 0 :: .ptr 0 0 0 :: .sl (arr_0.Mesh.Places.map GVector.cells) :: .ptr 0 0 0 :: .ptr 0 0 1 :: .sl (arr_0.Mesh.Triangles.map (cL (cI .i64))) :: an 54 (.ptr 0 0 0 :: .agg [.sl (arr_0.Mesh.Places.map GVector.cells), .sl (arr_0.Mesh.Triangles.map (cL (cI .i64)))] :: .own 3 :: an 60 []))), [.box 42 [.sl (arr_0.Mesh.Places.map GVector.cells), .sl (arr_0.Mesh.Triangles.map (cL (cI .i64))), .sl (arr_0.Springs.map GSpring.cells), .f .f32 arr_0.Film, .f .f32 arr_0.Bend, .sl (arr_0.Weights.map (cF .f32)), .f .f32 arr_0.Fall.X, .f .f32 arr_0.Fall.Y, .f .f32 arr_0.Fall.Z], .box 34 [.own 2], .vec 40 3 (r.map GVector.cells) false, .nest 49 ((Z5 arr_0.Mesh).map fun l => l.map (cI .i64)) false]⟩)
def Z8l (arr_0 : GBody) (x_l0 : Int) (r2_l1 : (List GVector)) : St := ⟨.agg [.sl (arr_0.Mesh.Places.map GVector.cells), .sl (arr_0.Mesh.Triangles.map (cL (cI .i64))), .sl (arr_0.Springs.map GSpring.cells), .f .f32 arr_0.Film, .f .f32 arr_0.Bend, .sl (arr_0.Weights.map (cF .f32)), .f .f32 arr_0.Fall.X, .f .f32 arr_0.Fall.Y, .f .f32 arr_0.Fall.Z] :: .ptr 0 0 0 :: .nils :: .ptr 1 0 0 :: .fn 106 [.ptr 1 0 0] :: an 18 (.ptr 0 0 0 :: .ptr 0 0 0 :: .sl (arr_0.Mesh.Places.map GVector.cells) :: .i .i64 (arr_0.Mesh.Places.length : Int) :: .own 2 :: .fn 106 [.ptr 1 0 0] :: .ptr 0 0 2 :: .sl (arr_0.Springs.map GSpring.cells) :: an 25 (.ptr 0 0 0 :: .ptr 0 0 0 :: .sl (arr_0.Mesh.Places.map GVector.cells) :: .ptr 0 0 0 :: .ptr 0 0 1 :: .sl (arr_0.Mesh.Triangles.map (cL (cI .i64))) :: an 54 (.ptr 0 0 0 :: .agg [.sl (arr_0.Mesh.Places.map GVector.cells), .sl (arr_0.Mesh.Triangles.map (cL (cI .i64)))] :: .own 3 :: .i .i64 ((Z5 arr_0.Mesh).length : Int) :: .i .i64 x_l0 :: an 58 []))), [.box 42 [.sl (arr_0.Mesh.Places.map GVector.cells), .sl (arr_0.Mesh.Triangles.map (cL (cI .i64))), .sl (arr_0.Springs.map GSpring.cells), .f .f32 arr_0.Film, .f .f32 arr_0.Bend, .sl (arr_0.Weights.map (cF .f32)), .f .f32 arr_0.Fall.X, .f .f32 arr_0.Fall.Y, .f .f32 arr_0.Fall.Z], .box 34 [.own 2], .vec 40 3 (r2_l1.map GVector.cells) false, .nest 49 ((Z5 arr_0.Mesh).map fun l => l.map (cI .i64)) false]⟩
def Z5Q : List Bool := (mR false [0, 5, 18, 8, 25, 6, 54, 5, 58])
def Z7q : List Bool := (mR false [0, 5, 18, 8, 25, 6, 54, 3, 60])
set_option maxHeartbeats 1000000 in
theorem Z8m (arr_0 : GBody) (hp0 : arr_0.Mesh.Places.length ≤ 1073741824) (hp1 : arr_0.Mesh.Triangles.length ≤ 1073741824) (hp2 : ∀ t ∈ arr_0.Mesh.Triangles, t.length ≤ 1073741824) (hp3 : arr_0.Springs.length ≤ 1073741824) (hp4 : arr_0.Weights.length ≤ 1073741824) (hp5 : OkBd arr_0) : ∀ (k : Nat) (x_l0 : Int) (r2_l1 : (List GVector)) (Z5R : 0 ≤ x_l0) (Z5S : r2_l1.length = arr_0.Mesh.Places.length) (hk : (((Z5 arr_0.Mesh).length : Int) - x_l0).toNat < k), Lp prog 0 (sub (bodyOf f57) [1, 1, 1, 1, 1, 1, 0, 1, 0, 0]) (Z8l arr_0 x_l0 r2_l1) (Z4L arr_0 (ZD arr_0 k x_l0 r2_l1)).1 (Z4L arr_0 (ZD arr_0 k x_l0 r2_l1)).2 := by
 intro k
 induction k with
 | zero => intro x_l0 r2_l1 Z5R Z5S hk; exact absurd hk (Nat.not_lt_zero _)
 | succ k ih =>
  intro x_l0 r2_l1 Z5R Z5S hk
  cases h_0 : (decide (x_l0 < ((Z5 arr_0.Mesh).length : Int))) with
  | true =>
   have gh_0 := of_decide_eq_true h_0
   have y_0 : (0 : Int) ≤ x_l0 := (by assumption)
   have y_1 : Int.toNat x_l0 < (Z5 arr_0.Mesh).length := (by omega)
   have y_2 : x_l0.toNat < (Z5 arr_0.Mesh).length := (by assumption)
   have y_3 : ((Z5 arr_0.Mesh).getD x_l0.toNat default).length ≤ 1073741824 := (by exact Zbt hp5.e (by assumption) h_0)
   have y_4 : ((Z5 arr_0.Mesh).getD x_l0.toNat default).length = 4 ∧ ∀ x ∈ ((Z5 arr_0.Mesh).getD x_l0.toNat default), 0 ≤ x ∧ x < (arr_0.Mesh.Places.length : Int) := (by exact Z4O hp5.e (by assumption) h_0)
   have y_5 : (0 : Int) ≤ 0 := (by omega)
   have y_6 : 0 < (((Z5 arr_0.Mesh).getD x_l0.toNat default).length : Int) := (by omega)
   have y_7 : 0 < ((Z5 arr_0.Mesh).getD x_l0.toNat default).length := (by omega)
   have y_8 : r2_l1.length ≤ 1073741824 := (by omega)
   have y_9 : 0 ≤ (((Z5 arr_0.Mesh).getD x_l0.toNat default).getD 0 default) := (by (have q := Okh.at (Z4O hp5.e (by assumption) h_0); omega))
   have y_10 : (((Z5 arr_0.Mesh).getD x_l0.toNat default).getD 0 default) < (r2_l1.length : Int) := (by (have q := Okh.at (Z4O hp5.e (by assumption) h_0); omega))
   have y_11 : (0 : Int) ≤ 1 := (by omega)
   have y_12 : 1 < (((Z5 arr_0.Mesh).getD x_l0.toNat default).length : Int) := (by omega)
   have y_13 : 1 < ((Z5 arr_0.Mesh).getD x_l0.toNat default).length := (by omega)
   have y_14 : (Z2c arr_0 x_l0 r2_l1).length ≤ 1073741824 := (by (have q := Okh.at (Z4O hp5.e (by assumption) h_0); (simp only [Z2y, Z2t, Z2u]; omega)))
   have y_15 : 0 ≤ (((Z5 arr_0.Mesh).getD x_l0.toNat default).getD 1 default) := (by (have q := Okh.at (Z4O hp5.e (by assumption) h_0); omega))
   have y_16 : (((Z5 arr_0.Mesh).getD x_l0.toNat default).getD 1 default) < ((Z2c arr_0 x_l0 r2_l1).length : Int) := (by (have q := Okh.at (Z4O hp5.e (by assumption) h_0); (simp only [Z2y, Z2t, Z2u]; omega)))
   have y_17 : (0 : Int) ≤ 2 := (by omega)
   have y_18 : 2 < (((Z5 arr_0.Mesh).getD x_l0.toNat default).length : Int) := (by omega)
   have y_19 : 2 < ((Z5 arr_0.Mesh).getD x_l0.toNat default).length := (by omega)
   have y_20 : (Z20 arr_0 x_l0 r2_l1).length ≤ 1073741824 := (by (have q := Okh.at (Z4O hp5.e (by assumption) h_0); (simp only [Z2y, Z2t, Z2u]; omega)))
   have y_21 : 0 ≤ (((Z5 arr_0.Mesh).getD x_l0.toNat default).getD 2 default) := (by (have q := Okh.at (Z4O hp5.e (by assumption) h_0); omega))
   have y_22 : (((Z5 arr_0.Mesh).getD x_l0.toNat default).getD 2 default) < ((Z20 arr_0 x_l0 r2_l1).length : Int) := (by (have q := Okh.at (Z4O hp5.e (by assumption) h_0); (simp only [Z2y, Z2t, Z2u]; omega)))
   have y_23 : (0 : Int) ≤ 3 := (by omega)
   have y_24 : 3 < (((Z5 arr_0.Mesh).getD x_l0.toNat default).length : Int) := (by omega)
   have y_25 : 3 < ((Z5 arr_0.Mesh).getD x_l0.toNat default).length := (by omega)
   have y_26 : (Z21 arr_0 x_l0 r2_l1).length ≤ 1073741824 := (by (have q := Okh.at (Z4O hp5.e (by assumption) h_0); (simp only [Z2y, Z2t, Z2u]; omega)))
   have y_27 : 0 ≤ (((Z5 arr_0.Mesh).getD x_l0.toNat default).getD 3 default) := (by (have q := Okh.at (Z4O hp5.e (by assumption) h_0); omega))
   have y_28 : (((Z5 arr_0.Mesh).getD x_l0.toNat default).getD 3 default) < ((Z21 arr_0 x_l0 r2_l1).length : Int) := (by (have q := Okh.at (Z4O hp5.e (by assumption) h_0); (simp only [Z2y, Z2t, Z2u]; omega)))
   have y_29 : (-9223372036854775808 : Int) ≤ (x_l0 + 1) := (by omega)
   have y_30 : (x_l0 + 1) ≤ (9223372036854775807 : Int) := (by have q := Z8D _ hp5.e; omega)
   have e : ZD arr_0 (k + 1) x_l0 r2_l1 = (ZD arr_0 k (x_l0 + 1) (Z22 arr_0 x_l0 r2_l1)) := by simp only [ZD, h_0, cond_true]
   rw [e]
   exact nextR E0Ok Z3 [] Z5Q [0, 1, 2, 3] (ih (x_l0 + 1) (Z22 arr_0 x_l0 r2_l1) (show 0 ≤ (x_l0 + 1) from (by omega)) (show (Z22 arr_0 x_l0 r2_l1).length = arr_0.Mesh.Places.length from (by simp_all <;> omega)) (by omega)) (sB h_0 <| sC (nestix (c := (cI .i64)) (l := (Z5 arr_0.Mesh)) (i := x_l0) y_0 y_1) <| sC (nestlt (c := (cI .i64)) (l := (Z5 arr_0.Mesh)) y_2) <| sF (Fn.castA (args' := [.agg [.sl (arr_0.Mesh.Places.map GVector.cells), .sl (arr_0.Mesh.Triangles.map (cL (cI .i64)))], .sl (((Z5 arr_0.Mesh).map fun l => l.map (cI .i64)).getD x_l0.toNat [])]) (Za0 arr_0.Mesh ((Z5 arr_0.Mesh).getD x_l0.toNat default) hp0 hp1 hp2 y_3 y_4) (by simp [cI]; done)) <| sK [7, 7] <| sC (iidx_ok (c := (cI .i64)) (l := (Z5 arr_0.Mesh)) (j := x_l0.toNat) (i := 0) y_5 y_6) <| sE (iget_ok (c := (cI .i64)) (l := (Z5 arr_0.Mesh)) (j := x_l0.toNat) (k := 0) y_7) <| sS (CallSt.frame (Z1i (((Z5 arr_0.Mesh).getD x_l0.toNat default).getD 0 default) (Zi arr_0.Mesh ((Z5 arr_0.Mesh).getD x_l0.toNat default)) arr_0.Bend r2_l1 y_8 y_9 y_10) [1, 2] (R := [.box 42 [.sl (arr_0.Mesh.Places.map GVector.cells), .sl (arr_0.Mesh.Triangles.map (cL (cI .i64))), .sl (arr_0.Springs.map GSpring.cells), .f .f32 arr_0.Film, .f .f32 arr_0.Bend, .sl (arr_0.Weights.map (cF .f32)), .f .f32 arr_0.Fall.X, .f .f32 arr_0.Fall.Y, .f .f32 arr_0.Fall.Z], .box 34 [.own 2], .vec 40 3 (r2_l1.map GVector.cells) false, .nest 49 ((Z5 arr_0.Mesh).map fun l => l.map (cI .i64)) false, .box 40 [.f .f32 ((Zi arr_0.Mesh ((Z5 arr_0.Mesh).getD x_l0.toNat default)).X), .f .f32 ((Zi arr_0.Mesh ((Z5 arr_0.Mesh).getD x_l0.toNat default)).Y), .f .f32 ((Zi arr_0.Mesh ((Z5 arr_0.Mesh).getD x_l0.toNat default)).Z)]]) (args' := [.i .i64 (((Z5 arr_0.Mesh).getD x_l0.toNat default).getD 0 default), .agg [.f .f32 ((Zi arr_0.Mesh ((Z5 arr_0.Mesh).getD x_l0.toNat default)).X), .f .f32 ((Zi arr_0.Mesh ((Z5 arr_0.Mesh).getD x_l0.toNat default)).Y), .f .f32 ((Zi arr_0.Mesh ((Z5 arr_0.Mesh).getD x_l0.toNat default)).Z)], .f .f32 arr_0.Bend, .ptr 1 0 0]) rfl rfl rfl rfl rfl rfl) <| sK [7, 7] <| sC (iidx_ok (c := (cI .i64)) (l := (Z5 arr_0.Mesh)) (j := x_l0.toNat) (i := 1) y_11 y_12) <| sE (iget_ok (c := (cI .i64)) (l := (Z5 arr_0.Mesh)) (j := x_l0.toNat) (k := 1) y_13) <| sS (CallSt.frame (Z1i (((Z5 arr_0.Mesh).getD x_l0.toNat default).getD 1 default) (Zi arr_0.Mesh ((Z5 arr_0.Mesh).getD x_l0.toNat default)) arr_0.Bend (Z2c arr_0 x_l0 r2_l1) y_14 y_15 y_16) [1, 2] (R := [.box 42 [.sl (arr_0.Mesh.Places.map GVector.cells), .sl (arr_0.Mesh.Triangles.map (cL (cI .i64))), .sl (arr_0.Springs.map GSpring.cells), .f .f32 arr_0.Film, .f .f32 arr_0.Bend, .sl (arr_0.Weights.map (cF .f32)), .f .f32 arr_0.Fall.X, .f .f32 arr_0.Fall.Y, .f .f32 arr_0.Fall.Z], .box 34 [.own 2], .vec 40 3 ((Z2c arr_0 x_l0 r2_l1).map GVector.cells) false, .nest 49 ((Z5 arr_0.Mesh).map fun l => l.map (cI .i64)) false, .box 40 [.f .f32 ((Zi arr_0.Mesh ((Z5 arr_0.Mesh).getD x_l0.toNat default)).X), .f .f32 ((Zi arr_0.Mesh ((Z5 arr_0.Mesh).getD x_l0.toNat default)).Y), .f .f32 ((Zi arr_0.Mesh ((Z5 arr_0.Mesh).getD x_l0.toNat default)).Z)]]) (args' := [.i .i64 (((Z5 arr_0.Mesh).getD x_l0.toNat default).getD 1 default), .agg [.f .f32 ((Zi arr_0.Mesh ((Z5 arr_0.Mesh).getD x_l0.toNat default)).X), .f .f32 ((Zi arr_0.Mesh ((Z5 arr_0.Mesh).getD x_l0.toNat default)).Y), .f .f32 ((Zi arr_0.Mesh ((Z5 arr_0.Mesh).getD x_l0.toNat default)).Z)], .f .f32 arr_0.Bend, .ptr 1 0 0]) rfl rfl rfl rfl rfl rfl) <| sK [8, 8] <| sC (iidx_ok (c := (cI .i64)) (l := (Z5 arr_0.Mesh)) (j := x_l0.toNat) (i := 2) y_17 y_18) <| sE (iget_ok (c := (cI .i64)) (l := (Z5 arr_0.Mesh)) (j := x_l0.toNat) (k := 2) y_19) <| sS (CallSt.frame (Z1i (((Z5 arr_0.Mesh).getD x_l0.toNat default).getD 2 default) (Zi arr_0.Mesh ((Z5 arr_0.Mesh).getD x_l0.toNat default)) (fneg .f32 arr_0.Bend) (Z20 arr_0 x_l0 r2_l1) y_20 y_21 y_22) [1, 2] (R := [.box 42 [.sl (arr_0.Mesh.Places.map GVector.cells), .sl (arr_0.Mesh.Triangles.map (cL (cI .i64))), .sl (arr_0.Springs.map GSpring.cells), .f .f32 arr_0.Film, .f .f32 arr_0.Bend, .sl (arr_0.Weights.map (cF .f32)), .f .f32 arr_0.Fall.X, .f .f32 arr_0.Fall.Y, .f .f32 arr_0.Fall.Z], .box 34 [.own 2], .vec 40 3 ((Z20 arr_0 x_l0 r2_l1).map GVector.cells) false, .nest 49 ((Z5 arr_0.Mesh).map fun l => l.map (cI .i64)) false, .box 40 [.f .f32 ((Zi arr_0.Mesh ((Z5 arr_0.Mesh).getD x_l0.toNat default)).X), .f .f32 ((Zi arr_0.Mesh ((Z5 arr_0.Mesh).getD x_l0.toNat default)).Y), .f .f32 ((Zi arr_0.Mesh ((Z5 arr_0.Mesh).getD x_l0.toNat default)).Z)]]) (args' := [.i .i64 (((Z5 arr_0.Mesh).getD x_l0.toNat default).getD 2 default), .agg [.f .f32 ((Zi arr_0.Mesh ((Z5 arr_0.Mesh).getD x_l0.toNat default)).X), .f .f32 ((Zi arr_0.Mesh ((Z5 arr_0.Mesh).getD x_l0.toNat default)).Y), .f .f32 ((Zi arr_0.Mesh ((Z5 arr_0.Mesh).getD x_l0.toNat default)).Z)], .f .f32 (fneg .f32 arr_0.Bend), .ptr 1 0 0]) rfl rfl rfl rfl rfl rfl) <| sK [8, 8] <| sC (iidx_ok (c := (cI .i64)) (l := (Z5 arr_0.Mesh)) (j := x_l0.toNat) (i := 3) y_23 y_24) <| sE (iget_ok (c := (cI .i64)) (l := (Z5 arr_0.Mesh)) (j := x_l0.toNat) (k := 3) y_25) <| sS (CallSt.frame (Z1i (((Z5 arr_0.Mesh).getD x_l0.toNat default).getD 3 default) (Zi arr_0.Mesh ((Z5 arr_0.Mesh).getD x_l0.toNat default)) (fneg .f32 arr_0.Bend) (Z21 arr_0 x_l0 r2_l1) y_26 y_27 y_28) [1, 2] (R := [.box 42 [.sl (arr_0.Mesh.Places.map GVector.cells), .sl (arr_0.Mesh.Triangles.map (cL (cI .i64))), .sl (arr_0.Springs.map GSpring.cells), .f .f32 arr_0.Film, .f .f32 arr_0.Bend, .sl (arr_0.Weights.map (cF .f32)), .f .f32 arr_0.Fall.X, .f .f32 arr_0.Fall.Y, .f .f32 arr_0.Fall.Z], .box 34 [.own 2], .vec 40 3 ((Z21 arr_0 x_l0 r2_l1).map GVector.cells) false, .nest 49 ((Z5 arr_0.Mesh).map fun l => l.map (cI .i64)) false, .box 40 [.f .f32 ((Zi arr_0.Mesh ((Z5 arr_0.Mesh).getD x_l0.toNat default)).X), .f .f32 ((Zi arr_0.Mesh ((Z5 arr_0.Mesh).getD x_l0.toNat default)).Y), .f .f32 ((Zi arr_0.Mesh ((Z5 arr_0.Mesh).getD x_l0.toNat default)).Z)]]) (args' := [.i .i64 (((Z5 arr_0.Mesh).getD x_l0.toNat default).getD 3 default), .agg [.f .f32 ((Zi arr_0.Mesh ((Z5 arr_0.Mesh).getD x_l0.toNat default)).X), .f .f32 ((Zi arr_0.Mesh ((Z5 arr_0.Mesh).getD x_l0.toNat default)).Y), .f .f32 ((Zi arr_0.Mesh ((Z5 arr_0.Mesh).getD x_l0.toNat default)).Z)], .f .f32 (fneg .f32 arr_0.Bend), .ptr 1 0 0]) rfl rfl rfl rfl rfl rfl) <| sI (x_l0 + 1) y_29 y_30 <| sN) (by kernel_rfl)
  | false =>
   have gh_0 := of_decide_eq_false h_0
   have e : ZD arr_0 (k + 1) x_l0 r2_l1 = r2_l1 := by simp only [ZD, h_0, cond_false]
   rw [e]
   exact outR (e := (.exit 6)) E0Ok Z3 [] Z7q [0, 1, 2, 3] (sB h_0 <| sN) (by kernel_rfl) (by intro h; cases h)
theorem Z7r (arr_0 : GBody) : ∀ (k : Nat) (x_l0 : Int) (r2_l1 : (List GVector)) (hk : (((Z5 arr_0.Mesh).length : Int) - x_l0).toNat < k), (ZD arr_0 k x_l0 r2_l1).length = r2_l1.length := by
  intro k
  induction k with
  | zero => intro x_l0 r2_l1 hk; exact absurd hk (Nat.not_lt_zero _)
  | succ k ih =>
    intro x_l0 r2_l1 hk
    cases h_0 : (decide (x_l0 < ((Z5 arr_0.Mesh).length : Int))) with
    | true =>
      have e : ZD arr_0 (k + 1) x_l0 r2_l1 = (ZD arr_0 k (x_l0 + 1) (Z22 arr_0 x_l0 r2_l1)) := by simp only [ZD, h_0, cond_true]
      rw [e, ih (x_l0 + 1) (Z22 arr_0 x_l0 r2_l1) (by simp_all <;> omega)]; simp
    | false =>
      have e : ZD arr_0 (k + 1) x_l0 r2_l1 = r2_l1 := by simp only [ZD, h_0, cond_false]
      first | (rw [e]; done) | (rw [e]; rfl)
def Z2d (arr_0 : GBody) : (List GVector) := (ZD arr_0 ((((Z5 arr_0.Mesh).length : Int) - 0).toNat + 1) 0 (Z2b arr_0))
@[simp] theorem Za5 (arr_0 : GBody) : (Z2d arr_0).length = ((Z2b arr_0) : (List GVector)).length := Z7r arr_0 ((((Z5 arr_0.Mesh).length : Int) - 0).toNat + 1) 0 (Z2b arr_0) (by exact Nat.lt_succ_self _)
def ZE (arr_0 : GBody) : Nat → Int → (List GVector) → (List GVector)
  | 0, _, _ => default
  | k + 1, x_l0, r2_l1 => (cond (decide (x_l0 < (arr_0.Weights.length : Int)))
    (ZE arr_0 k (x_l0 + 1) (Zh x_l0 arr_0.Fall (arr_0.Weights.getD x_l0.toNat default) r2_l1))
    r2_l1)
def Z4M (arr_0 : GBody) (r : (List GVector)) : Ex × St := ((.exit 8), ⟨.agg [.sl (arr_0.Mesh.Places.map GVector.cells), .sl (arr_0.Mesh.Triangles.map (cL (cI .i64))), .sl (arr_0.Springs.map GSpring.cells), .f .f32 arr_0.Film, .f .f32 arr_0.Bend, .sl (arr_0.Weights.map (cF .f32)), .f .f32 arr_0.Fall.X, .f .f32 arr_0.Fall.Y, .f .f32 arr_0.Fall.Z] :: .ptr 0 0 0 :: .nils :: .ptr 1 0 0 :: .fn 106 [.ptr 1 0 0] :: an 18 (.ptr 0 0 0 :: .ptr 0 0 0 :: .sl (arr_0.Mesh.Places.map GVector.cells) :: .i .i64 (arr_0.Mesh.Places.length : Int) :: .own 2 :: .fn 106 [.ptr 1 0 0] :: .ptr 0 0 2 :: .sl (arr_0.Springs.map GSpring.cells) :: an 25 (.ptr 0 0 0 :: .ptr 0 0 0 :: .sl (arr_0.Mesh.Places.map GVector.cells) :: .ptr 0 0 0 :: .ptr 0 0 1 :: .sl (arr_0.Mesh.Triangles.map (cL (cI .i64))) :: an 54 (.ptr 0 0 0 :: .agg [.sl (arr_0.Mesh.Places.map GVector.cells), .sl (arr_0.Mesh.Triangles.map (cL (cI .i64)))] :: .own 3 :: an 44 (.ptr 0 0 5 :: .sl (arr_0.Weights.map (cF .f32)) :: an 14 [])))), [.box 42 [.sl (arr_0.Mesh.Places.map GVector.cells), .sl (arr_0.Mesh.Triangles.map (cL (cI .i64))), .sl (arr_0.Springs.map GSpring.cells), .f .f32 arr_0.Film, .f .f32 arr_0.Bend, .sl (arr_0.Weights.map (cF .f32)), .f .f32 arr_0.Fall.X, .f .f32 arr_0.Fall.Y, .f .f32 arr_0.Fall.Z], .box 34 [.own 2], .vec 40 3 (r.map GVector.cells) false, .nest 49 ((Z5 arr_0.Mesh).map fun l => l.map (cI .i64)) false]⟩)
def Z8n (arr_0 : GBody) (x_l0 : Int) (r2_l1 : (List GVector)) : St := ⟨.agg [.sl (arr_0.Mesh.Places.map GVector.cells), .sl (arr_0.Mesh.Triangles.map (cL (cI .i64))), .sl (arr_0.Springs.map GSpring.cells), .f .f32 arr_0.Film, .f .f32 arr_0.Bend, .sl (arr_0.Weights.map (cF .f32)), .f .f32 arr_0.Fall.X, .f .f32 arr_0.Fall.Y, .f .f32 arr_0.Fall.Z] :: .ptr 0 0 0 :: .nils :: .ptr 1 0 0 :: .fn 106 [.ptr 1 0 0] :: an 18 (.ptr 0 0 0 :: .ptr 0 0 0 :: .sl (arr_0.Mesh.Places.map GVector.cells) :: .i .i64 (arr_0.Mesh.Places.length : Int) :: .own 2 :: .fn 106 [.ptr 1 0 0] :: .ptr 0 0 2 :: .sl (arr_0.Springs.map GSpring.cells) :: an 25 (.ptr 0 0 0 :: .ptr 0 0 0 :: .sl (arr_0.Mesh.Places.map GVector.cells) :: .ptr 0 0 0 :: .ptr 0 0 1 :: .sl (arr_0.Mesh.Triangles.map (cL (cI .i64))) :: an 54 (.ptr 0 0 0 :: .agg [.sl (arr_0.Mesh.Places.map GVector.cells), .sl (arr_0.Mesh.Triangles.map (cL (cI .i64)))] :: .own 3 :: an 44 (.ptr 0 0 5 :: .sl (arr_0.Weights.map (cF .f32)) :: .i .i64 (arr_0.Weights.length : Int) :: .i .i64 x_l0 :: an 12 [])))), [.box 42 [.sl (arr_0.Mesh.Places.map GVector.cells), .sl (arr_0.Mesh.Triangles.map (cL (cI .i64))), .sl (arr_0.Springs.map GSpring.cells), .f .f32 arr_0.Film, .f .f32 arr_0.Bend, .sl (arr_0.Weights.map (cF .f32)), .f .f32 arr_0.Fall.X, .f .f32 arr_0.Fall.Y, .f .f32 arr_0.Fall.Z], .box 34 [.own 2], .vec 40 3 (r2_l1.map GVector.cells) false, .nest 49 ((Z5 arr_0.Mesh).map fun l => l.map (cI .i64)) false]⟩
def Z5T : List Bool := (mR false [0, 5, 18, 8, 25, 6, 54, 3, 44, 4, 12])
def Z7s : List Bool := (mR false [0, 5, 18, 8, 25, 6, 54, 3, 44, 2, 14])
theorem Z8o (arr_0 : GBody) (hp0 : arr_0.Mesh.Places.length ≤ 1073741824) (hp1 : arr_0.Mesh.Triangles.length ≤ 1073741824) (hp2 : ∀ t ∈ arr_0.Mesh.Triangles, t.length ≤ 1073741824) (hp3 : arr_0.Springs.length ≤ 1073741824) (hp4 : arr_0.Weights.length ≤ 1073741824) (hp5 : OkBd arr_0) : ∀ (k : Nat) (x_l0 : Int) (r2_l1 : (List GVector)) (Z4e : 0 ≤ x_l0) (Z5U : r2_l1.length = arr_0.Mesh.Places.length) (hk : ((arr_0.Weights.length : Int) - x_l0).toNat < k), Lp prog 0 (sub (bodyOf f57) [1, 1, 1, 1, 1, 1, 1, 0, 1, 0, 0]) (Z8n arr_0 x_l0 r2_l1) (Z4M arr_0 (ZE arr_0 k x_l0 r2_l1)).1 (Z4M arr_0 (ZE arr_0 k x_l0 r2_l1)).2 := by
 intro k
 induction k with
 | zero => intro x_l0 r2_l1 Z4e Z5U hk; exact absurd hk (Nat.not_lt_zero _)
 | succ k ih =>
  intro x_l0 r2_l1 Z4e Z5U hk
  cases h_0 : (decide (x_l0 < (arr_0.Weights.length : Int))) with
  | true =>
   have gh_0 := of_decide_eq_true h_0
   have y_0 : (0 : Int) ≤ x_l0 := (by assumption)
   have y_1 : x_l0 < (arr_0.Weights.length : Int) := (by assumption)
   have y_2 : r2_l1.length ≤ 1073741824 := (by omega)
   have y_3 : x_l0 < (r2_l1.length : Int) := (by have q := hp5.w; omega)
   have y_4 : (-9223372036854775808 : Int) ≤ (x_l0 + 1) := (by omega)
   have y_5 : (x_l0 + 1) ≤ (9223372036854775807 : Int) := (by omega)
   have e : ZE arr_0 (k + 1) x_l0 r2_l1 = (ZE arr_0 k (x_l0 + 1) (Zh x_l0 arr_0.Fall (arr_0.Weights.getD x_l0.toNat default) r2_l1)) := by simp only [ZE, h_0, cond_true]
   rw [e]
   exact nextR E0Ok Z3 [] Z5T [0, 1, 2, 3] (ih (x_l0 + 1) (Zh x_l0 arr_0.Fall (arr_0.Weights.getD x_l0.toNat default) r2_l1) (show 0 ≤ (x_l0 + 1) from (by omega)) (show (Zh x_l0 arr_0.Fall (arr_0.Weights.getD x_l0.toNat default) r2_l1).length = arr_0.Mesh.Places.length from (by simp_all <;> omega)) (by omega)) (sB h_0 <| sG (cF .f32) arr_0.Weights x_l0 y_0 y_1 <| sS (CallSt.frame (Z1i x_l0 arr_0.Fall (arr_0.Weights.getD x_l0.toNat default) r2_l1 y_2 Z4e y_3) [1, 2] (R := [.box 42 [.sl (arr_0.Mesh.Places.map GVector.cells), .sl (arr_0.Mesh.Triangles.map (cL (cI .i64))), .sl (arr_0.Springs.map GSpring.cells), .f .f32 arr_0.Film, .f .f32 arr_0.Bend, .sl (arr_0.Weights.map (cF .f32)), .f .f32 arr_0.Fall.X, .f .f32 arr_0.Fall.Y, .f .f32 arr_0.Fall.Z], .box 34 [.own 2], .vec 40 3 (r2_l1.map GVector.cells) false, .nest 49 ((Z5 arr_0.Mesh).map fun l => l.map (cI .i64)) false]) (args' := [.i .i64 x_l0, .agg [.f .f32 arr_0.Fall.X, .f .f32 arr_0.Fall.Y, .f .f32 arr_0.Fall.Z], .f .f32 (arr_0.Weights.getD x_l0.toNat default), .ptr 1 0 0]) rfl rfl rfl rfl rfl rfl) <| sI (x_l0 + 1) y_4 y_5 <| sN) (by kernel_rfl)
  | false =>
   have gh_0 := of_decide_eq_false h_0
   have e : ZE arr_0 (k + 1) x_l0 r2_l1 = r2_l1 := by simp only [ZE, h_0, cond_false]
   rw [e]
   exact outR (e := (.exit 8)) E0Ok Z3 [] Z7s [0, 1, 2, 3] (sB h_0 <| sN) (by kernel_rfl) (by intro h; cases h)
theorem Z7t (arr_0 : GBody) : ∀ (k : Nat) (x_l0 : Int) (r2_l1 : (List GVector)) (hk : ((arr_0.Weights.length : Int) - x_l0).toNat < k), (ZE arr_0 k x_l0 r2_l1).length = r2_l1.length := by
  intro k
  induction k with
  | zero => intro x_l0 r2_l1 hk; exact absurd hk (Nat.not_lt_zero _)
  | succ k ih =>
    intro x_l0 r2_l1 hk
    cases h_0 : (decide (x_l0 < (arr_0.Weights.length : Int))) with
    | true =>
      have e : ZE arr_0 (k + 1) x_l0 r2_l1 = (ZE arr_0 k (x_l0 + 1) (Zh x_l0 arr_0.Fall (arr_0.Weights.getD x_l0.toNat default) r2_l1)) := by simp only [ZE, h_0, cond_true]
      rw [e, ih (x_l0 + 1) (Zh x_l0 arr_0.Fall (arr_0.Weights.getD x_l0.toNat default) r2_l1) (by simp_all <;> omega)]; simp
    | false =>
      have e : ZE arr_0 (k + 1) x_l0 r2_l1 = r2_l1 := by simp only [ZE, h_0, cond_false]
      first | (rw [e]; done) | (rw [e]; rfl)
def Z37 (arr_0 : GBody) : (List GVector) := (ZE arr_0 (((arr_0.Weights.length : Int) - 0).toNat + 1) 0 (Z2d arr_0))
@[simp] theorem Za6 (arr_0 : GBody) : (Z37 arr_0).length = ((Z2d arr_0) : (List GVector)).length := Z7t arr_0 (((arr_0.Weights.length : Int) - 0).toNat + 1) 0 (Z2d arr_0) (by exact Nat.lt_succ_self _)
def Z2e (arr_0 : GBody) : (List GVector) := (Z37 arr_0)
@[simp] theorem ZaM (arr_0 : GBody) : (Z2e arr_0).length = arr_0.Mesh.Places.length := by
  first | (simp [Z2e]; done)
theorem ZaT (b : GBody) : ZW b = ZP b := by kernel_rfl
theorem ZaU (b : GBody) (x : Int) (r : List GVector) (h : fcmp .gtr .f32 (Zg (Z9 b.Mesh (b.Mesh.Triangles.getD x.toNat default))) 0 = true) : ∀ (k : Nat) (y : Int) (s : List GVector), ZM b x r k y s = Zt b x r k y s := by
  intro k
  induction k with
  | zero => intro y s; rfl
  | succ k ih =>
    intro y s
    rw [ZM, Zt, ih]
    unfold Z1l Z3H Z1k Z3c
    rw [h]
    kernel_rfl
theorem ZaV (b : GBody) (x : Int) (r : List GVector) (h : fcmp .gtr .f32 (Zg (Z9 b.Mesh (b.Mesh.Triangles.getD x.toNat default))) 0 = false) : ∀ (k : Nat) (y : Int) (s : List GVector), ZN b x r k y s = Zt b x r k y s := by
  intro k
  induction k with
  | zero => intro y s; rfl
  | succ k ih =>
    intro y s
    rw [ZN, Zt, ih]
    unfold Z1l Z3H Z1k Z3c
    rw [h]
    kernel_rfl
theorem ZaW (b : GBody) : ∀ (k : Nat) (x : Int) (r : List GVector), Zj b k x r = Zz b k x r := by
  intro k
  induction k with
  | zero => intro x r; rfl
  | succ k ih =>
    intro x r
    rw [Zj, Zz]
    rw [show fcmp .gtr .f32 (Zd (Z7 b.Mesh (b.Mesh.Triangles.getD x.toNat default))) 0 = fcmp .gtr .f32 (Zg (Z9 b.Mesh (b.Mesh.Triangles.getD x.toNat default))) 0 from by kernel_rfl]
    unfold Z1P Z1Q Z1G
    cases h : fcmp .gtr .f32 (Zg (Z9 b.Mesh (b.Mesh.Triangles.getD x.toNat default))) 0 with
    | true => rw [cond_true, ih, ZaU b x r h]
    | false => rw [cond_false, ih, ZaV b x r h]
theorem ZaX (b : GBody) (h : Z5 b.Mesh = Z0 b.Mesh) : ∀ (k : Nat) (x : Int) (r : List GVector), ZD b k x r = ZA b k x r := by
  intro k
  induction k with
  | zero => intro x r; rfl
  | succ k ih =>
    intro x r
    rw [ZD, ZA, ih]
    unfold Z22 Z21 Z20 Z2c
    rw [h]
    kernel_rfl
theorem ZaY (b : GBody) (h : b.Weights.length = b.Mesh.Places.length) : ∀ (k : Nat) (x : Int) (r : List GVector), ZE b k x r = ZB b k x r := by
  intro k
  induction k with
  | zero => intro x r; rfl
  | succ k ih =>
    intro x r
    rw [ZE, ZB, ih, h]
    kernel_rfl
theorem Zax (b : GBody) (ok : OkBd b) : Z2e b = Z1Y b := by
  have h : Z5 b.Mesh = Z0 b.Mesh := by rw [Z52 _ ok.e, Z6J _ ok.e]
  unfold Z2e Z1Y Z37 Z2U Z2d Z25 Z2b Z24 Z2a Z23
  have e2 : Zj b = Zz b := by funext k x r; exact ZaW b k x r
  have e5 : ZD b = ZA b := by funext k x r; exact ZaX b h k x r
  have e6 : ZE b = ZB b := by funext k x r; exact ZaY b ok.w k x r
  rw [ZaT, e2, e5, e6, h, ok.w]
theorem Z9n (arr_0 : GBody) (hp0 : arr_0.Mesh.Places.length ≤ 1073741824) (hp1 : arr_0.Mesh.Triangles.length ≤ 1073741824) (hp2 : ∀ t ∈ arr_0.Mesh.Triangles, t.length ≤ 1073741824) (hp3 : arr_0.Springs.length ≤ 1073741824) (hp4 : arr_0.Weights.length ≤ 1073741824) (hp5 : OkBd arr_0)  : Fn prog 57 [.agg [.sl (arr_0.Mesh.Places.map GVector.cells), .sl (arr_0.Mesh.Triangles.map (cL (cI .i64))), .sl (arr_0.Springs.map GSpring.cells), .f .f32 arr_0.Film, .f .f32 arr_0.Bend, .sl (arr_0.Weights.map (cF .f32)), .f .f32 arr_0.Fall.X, .f .f32 arr_0.Fall.Y, .f .f32 arr_0.Fall.Z]] (.own 0) [.vec 40 3 ((Z2e arr_0).map GVector.cells) false] := by
 have y0 : (0 : Int) ≤ (arr_0.Mesh.Places.length : Int) := (by omega)
 have y1 : ((arr_0.Mesh.Places.length : Int) : Int) ≤ 2147483648 := (by omega)
 have y2 : OkE arr_0.Mesh.Places.length arr_0.Mesh.Triangles := (by exact hp5.e)
 refine fnS E0Ok Z3 (c := bodyOf f57) [] (.own 0) [.vec 40 3 ((Z37 arr_0).map GVector.cells) false] func57 (sZ GVector.cells arr_0.Mesh.Places <| sC (show (arr_0.Mesh.Places.length : Int) = (arr_0.Mesh.Places.length : Int) from rfl) <| sC y0 <| sC y1 <| sZ GSpring.cells arr_0.Springs <| sL (mR false [0, 5, 18, 10, 146]) 3 (lp_cast (st2 := ⟨.agg [.sl (arr_0.Mesh.Places.map GVector.cells), .sl (arr_0.Mesh.Triangles.map (cL (cI .i64))), .sl (arr_0.Springs.map GSpring.cells), .f .f32 arr_0.Film, .f .f32 arr_0.Bend, .sl (arr_0.Weights.map (cF .f32)), .f .f32 arr_0.Fall.X, .f .f32 arr_0.Fall.Y, .f .f32 arr_0.Fall.Z] :: .ptr 0 0 0 :: .nils :: .ptr 2 0 0 :: .fn 106 [.ptr 2 0 0] :: an 18 (.ptr 0 0 0 :: .ptr 0 0 0 :: .sl (arr_0.Mesh.Places.map GVector.cells) :: .i .i64 (arr_0.Mesh.Places.length : Int) :: .own 1 :: .fn 106 [.ptr 2 0 0] :: .ptr 0 0 2 :: .sl (arr_0.Springs.map GSpring.cells) :: .i .i64 (arr_0.Springs.length : Int) :: .i .i64 0 :: an 146 []), [.box 42 [.sl (arr_0.Mesh.Places.map GVector.cells), .sl (arr_0.Mesh.Triangles.map (cL (cI .i64))), .sl (arr_0.Springs.map GSpring.cells), .f .f32 arr_0.Film, .f .f32 arr_0.Bend, .sl (arr_0.Weights.map (cF .f32)), .f .f32 arr_0.Fall.X, .f .f32 arr_0.Fall.Y, .f .f32 arr_0.Fall.Z], .vec 40 3 (List.replicate (Int.toNat (arr_0.Mesh.Places.length : Int)) [.f .f32 0, .f .f32 0, .f .f32 0]) false, .box 34 [.own 1]]⟩) (lp_val (Z4H arr_0) (x := (Z2a arr_0)) (Z8e arr_0 hp0 hp1 hp2 hp3 hp4 hp5 (((arr_0.Springs.length : Int) - 0).toNat + 1) 0 (List.replicate (arr_0.Mesh.Places.length : Int).toNat (⟨0, 0, 0⟩ : GVector)) (show 0 ≤ 0 from (by omega)) (show (List.replicate (arr_0.Mesh.Places.length : Int).toNat (⟨0, 0, 0⟩ : GVector)).length = arr_0.Mesh.Places.length from (by simp; done)) (Nat.lt_succ_self _)) rfl) (by simp [Z6s, GVector.cells])) <| sZ (cL (cI .i64)) arr_0.Mesh.Triangles <| sL Z4d 3 (lp_val (Z4K arr_0) (x := (Z2b arr_0)) (Z8k arr_0 hp0 hp1 hp2 hp3 hp4 hp5 (((arr_0.Mesh.Triangles.length : Int) - 0).toNat + 1) 0 (Z2a arr_0) (show 0 ≤ 0 from (by omega)) (show (Z2a arr_0).length = arr_0.Mesh.Places.length from (by simp; done)) (Nat.lt_succ_self _)) rfl) <| sF (Z9m arr_0.Mesh hp0 hp1 hp2 y2) <| sM (nlen_ok (l := (Z5 arr_0.Mesh)) (f := fun l => l.map (cI .i64))) <| sL Z5Q 4 (lp_val (Z4L arr_0) (x := (Z2d arr_0)) (Z8m arr_0 hp0 hp1 hp2 hp3 hp4 hp5 ((((Z5 arr_0.Mesh).length : Int) - 0).toNat + 1) 0 (Z2b arr_0) (show 0 ≤ 0 from (by omega)) (show (Z2b arr_0).length = arr_0.Mesh.Places.length from (by simp; done)) (Nat.lt_succ_self _)) rfl) <| sZ (cF .f32) arr_0.Weights <| sL Z5T 4 (lp_val (Z4M arr_0) (x := (Z37 arr_0)) (Z8o arr_0 hp0 hp1 hp2 hp3 hp4 hp5 (((arr_0.Weights.length : Int) - 0).toNat + 1) 0 (Z2d arr_0) (show 0 ≤ 0 from (by omega)) (show (Z2d arr_0).length = arr_0.Mesh.Places.length from (by simp; done)) (Nat.lt_succ_self _)) rfl) <| sK [2] sN) rfl (by kernel_rfl) (by kernel_rfl) rfl ?_ ?_
 · rfl
 · simp [Z2e]
def ZF (b_0 : GBody) (held_1 : (List Int)) : Nat → Int → (List GVector) → (List GVector)
  | 0, _, _ => default
  | k + 1, x_l0, r1_l1 => (cond (decide (x_l0 < (held_1.length : Int)))
    (ZF b_0 held_1 k (x_l0 + 1) (r1_l1.set ((held_1.getD x_l0.toNat default).toNat) (⟨0, 0, 0⟩ : GVector)))
    r1_l1)
def Z4f (b_0 : GBody) (held_1 : (List Int)) (r : (List GVector)) : Ex × St := ((.exit 0), ⟨.agg [.sl (b_0.Mesh.Places.map GVector.cells), .sl (b_0.Mesh.Triangles.map (cL (cI .i64))), .sl (b_0.Springs.map GSpring.cells), .f .f32 b_0.Film, .f .f32 b_0.Bend, .sl (b_0.Weights.map (cF .f32)), .f .f32 b_0.Fall.X, .f .f32 b_0.Fall.Y, .f .f32 b_0.Fall.Z] :: .sl (held_1.map (cI .i64)) :: .ptr 0 0 0 :: .any :: .nils :: .own 1 :: .any :: .any :: .agg [.sl (b_0.Mesh.Places.map GVector.cells), .sl (b_0.Mesh.Triangles.map (cL (cI .i64))), .sl (b_0.Springs.map GSpring.cells), .f .f32 b_0.Film, .f .f32 b_0.Bend, .sl (b_0.Weights.map (cF .f32)), .f .f32 b_0.Fall.X, .f .f32 b_0.Fall.Y, .f .f32 b_0.Fall.Z] :: .own 1 :: .sl (held_1.map (cI .i64)) :: an 11 [], [.box 42 [.sl (b_0.Mesh.Places.map GVector.cells), .sl (b_0.Mesh.Triangles.map (cL (cI .i64))), .sl (b_0.Springs.map GSpring.cells), .f .f32 b_0.Film, .f .f32 b_0.Bend, .sl (b_0.Weights.map (cF .f32)), .f .f32 b_0.Fall.X, .f .f32 b_0.Fall.Y, .f .f32 b_0.Fall.Z], .vec 40 3 (r.map GVector.cells) false]⟩)
def Z7u (b_0 : GBody) (held_1 : (List Int)) (x_l0 : Int) (r1_l1 : (List GVector)) : St := ⟨.agg [.sl (b_0.Mesh.Places.map GVector.cells), .sl (b_0.Mesh.Triangles.map (cL (cI .i64))), .sl (b_0.Springs.map GSpring.cells), .f .f32 b_0.Film, .f .f32 b_0.Bend, .sl (b_0.Weights.map (cF .f32)), .f .f32 b_0.Fall.X, .f .f32 b_0.Fall.Y, .f .f32 b_0.Fall.Z] :: .sl (held_1.map (cI .i64)) :: .ptr 0 0 0 :: .any :: .nils :: .own 1 :: .any :: .any :: .agg [.sl (b_0.Mesh.Places.map GVector.cells), .sl (b_0.Mesh.Triangles.map (cL (cI .i64))), .sl (b_0.Springs.map GSpring.cells), .f .f32 b_0.Film, .f .f32 b_0.Bend, .sl (b_0.Weights.map (cF .f32)), .f .f32 b_0.Fall.X, .f .f32 b_0.Fall.Y, .f .f32 b_0.Fall.Z] :: .own 1 :: .sl (held_1.map (cI .i64)) :: .i .i64 (held_1.length : Int) :: .i .i64 x_l0 :: an 9 [], [.box 42 [.sl (b_0.Mesh.Places.map GVector.cells), .sl (b_0.Mesh.Triangles.map (cL (cI .i64))), .sl (b_0.Springs.map GSpring.cells), .f .f32 b_0.Film, .f .f32 b_0.Bend, .sl (b_0.Weights.map (cF .f32)), .f .f32 b_0.Fall.X, .f .f32 b_0.Fall.Y, .f .f32 b_0.Fall.Z], .vec 40 3 (r1_l1.map GVector.cells) false]⟩
theorem Z7v (b_0 : GBody) (held_1 : (List Int)) (hp0 : b_0.Mesh.Places.length ≤ 1073741824) (hp1 : b_0.Mesh.Triangles.length ≤ 1073741824) (hp2 : ∀ t ∈ b_0.Mesh.Triangles, t.length ≤ 1073741824) (hp3 : b_0.Springs.length ≤ 1073741824) (hp4 : b_0.Weights.length ≤ 1073741824) (hp5 : held_1.length ≤ 1073741824) (hp6 : OkBd b_0) (hp7 : OkIx b_0.Mesh.Places.length (fun x => x) held_1) : ∀ (k : Nat) (x_l0 : Int) (r1_l1 : (List GVector)) (Z4X : 0 ≤ x_l0) (Z4Y : r1_l1.length = b_0.Mesh.Places.length) (hk : ((held_1.length : Int) - x_l0).toNat < k), Lp prog 0 (sub (bodyOf f68) [1, 1, 0, 1, 0, 0]) (Z7u b_0 held_1 x_l0 r1_l1) (Z4f b_0 held_1 (ZF b_0 held_1 k x_l0 r1_l1)).1 (Z4f b_0 held_1 (ZF b_0 held_1 k x_l0 r1_l1)).2 := by
 intro k
 induction k with
 | zero => intro x_l0 r1_l1 Z4X Z4Y hk; exact absurd hk (Nat.not_lt_zero _)
 | succ k ih =>
  intro x_l0 r1_l1 Z4X Z4Y hk
  cases h_0 : (decide (x_l0 < (held_1.length : Int))) with
  | true =>
   have gh_0 := of_decide_eq_true h_0
   have y_0 : (0 : Int) ≤ x_l0 := (by assumption)
   have y_1 : x_l0 < (held_1.length : Int) := (by assumption)
   have y_2 : (0 : Int) ≤ (held_1.getD x_l0.toNat default) := (by have q := OkIx.at hp7 (by assumption) gh_0; omega)
   have y_3 : (held_1.getD x_l0.toNat default) < (r1_l1.length : Int) := (by have q := OkIx.at hp7 (by assumption) gh_0; omega)
   have y_4 : (held_1.getD x_l0.toNat default).toNat < r1_l1.length := (by omega)
   have y_5 : (-9223372036854775808 : Int) ≤ (x_l0 + 1) := (by omega)
   have y_6 : (x_l0 + 1) ≤ (9223372036854775807 : Int) := (by omega)
   have e : ZF b_0 held_1 (k + 1) x_l0 r1_l1 = (ZF b_0 held_1 k (x_l0 + 1) (r1_l1.set ((held_1.getD x_l0.toNat default).toNat) (⟨0, 0, 0⟩ : GVector))) := by simp only [ZF, h_0, cond_true]
   rw [e]
   exact nextS E0Ok Z3 [] (mR false [0, 3, 1, 2, 2, 5, 9]) [0, 1] (⟨.agg [.sl (b_0.Mesh.Places.map GVector.cells), .sl (b_0.Mesh.Triangles.map (cL (cI .i64))), .sl (b_0.Springs.map GSpring.cells), .f .f32 b_0.Film, .f .f32 b_0.Bend, .sl (b_0.Weights.map (cF .f32)), .f .f32 b_0.Fall.X, .f .f32 b_0.Fall.Y, .f .f32 b_0.Fall.Z] :: .sl (held_1.map (cI .i64)) :: .ptr 0 0 0 :: .any :: .nils :: .own 1 :: .any :: .any :: .agg [.sl (b_0.Mesh.Places.map GVector.cells), .sl (b_0.Mesh.Triangles.map (cL (cI .i64))), .sl (b_0.Springs.map GSpring.cells), .f .f32 b_0.Film, .f .f32 b_0.Bend, .sl (b_0.Weights.map (cF .f32)), .f .f32 b_0.Fall.X, .f .f32 b_0.Fall.Y, .f .f32 b_0.Fall.Z] :: .own 1 :: .sl (held_1.map (cI .i64)) :: .i .i64 (held_1.length : Int) :: .i .i64 (x_l0 + 1) :: an 9 [], [.box 42 [.sl (b_0.Mesh.Places.map GVector.cells), .sl (b_0.Mesh.Triangles.map (cL (cI .i64))), .sl (b_0.Springs.map GSpring.cells), .f .f32 b_0.Film, .f .f32 b_0.Bend, .sl (b_0.Weights.map (cF .f32)), .f .f32 b_0.Fall.X, .f .f32 b_0.Fall.Y, .f .f32 b_0.Fall.Z], .vec 40 3 ((r1_l1.map GVector.cells).set ((held_1.getD x_l0.toNat default).toNat) [.f .f32 0, .f .f32 0, .f .f32 0]) false]⟩) (sB h_0 <| sG (cI .i64) held_1 x_l0 y_0 y_1 <| sX GVector.cells r1_l1 (held_1.getD x_l0.toNat default) y_2 y_3 <| sC (maplt (c := GVector.cells) (l := r1_l1) y_4) <| sI (x_l0 + 1) y_5 y_6 <| sN) (by kernel_rfl) (show _ = ⟨.agg [.sl (b_0.Mesh.Places.map GVector.cells), .sl (b_0.Mesh.Triangles.map (cL (cI .i64))), .sl (b_0.Springs.map GSpring.cells), .f .f32 b_0.Film, .f .f32 b_0.Bend, .sl (b_0.Weights.map (cF .f32)), .f .f32 b_0.Fall.X, .f .f32 b_0.Fall.Y, .f .f32 b_0.Fall.Z] :: .sl (held_1.map (cI .i64)) :: .ptr 0 0 0 :: .any :: .nils :: .own 1 :: .any :: .any :: .agg [.sl (b_0.Mesh.Places.map GVector.cells), .sl (b_0.Mesh.Triangles.map (cL (cI .i64))), .sl (b_0.Springs.map GSpring.cells), .f .f32 b_0.Film, .f .f32 b_0.Bend, .sl (b_0.Weights.map (cF .f32)), .f .f32 b_0.Fall.X, .f .f32 b_0.Fall.Y, .f .f32 b_0.Fall.Z] :: .own 1 :: .sl (held_1.map (cI .i64)) :: .i .i64 (held_1.length : Int) :: .i .i64 (x_l0 + 1) :: an 9 [], [.box 42 [.sl (b_0.Mesh.Places.map GVector.cells), .sl (b_0.Mesh.Triangles.map (cL (cI .i64))), .sl (b_0.Springs.map GSpring.cells), .f .f32 b_0.Film, .f .f32 b_0.Bend, .sl (b_0.Weights.map (cF .f32)), .f .f32 b_0.Fall.X, .f .f32 b_0.Fall.Y, .f .f32 b_0.Fall.Z], .vec 40 3 ((r1_l1.set ((held_1.getD x_l0.toNat default).toNat) (⟨0, 0, 0⟩ : GVector)).map GVector.cells) false]⟩ from (by simp [List.map_set, GVector.cells])) (ih (x_l0 + 1) (r1_l1.set ((held_1.getD x_l0.toNat default).toNat) (⟨0, 0, 0⟩ : GVector)) (show 0 ≤ (x_l0 + 1) from (by omega)) (show (r1_l1.set ((held_1.getD x_l0.toNat default).toNat) (⟨0, 0, 0⟩ : GVector)).length = b_0.Mesh.Places.length from (by have q := OkIx.at hp7 (by assumption) gh_0; (simp only [List.length_set]; omega))) (by omega))
  | false =>
   have gh_0 := of_decide_eq_false h_0
   have e : ZF b_0 held_1 (k + 1) x_l0 r1_l1 = r1_l1 := by simp only [ZF, h_0, cond_false]
   rw [e]
   exact outR (e := (.exit 0)) E0Ok Z3 [] (mR false [0, 3, 1, 2, 2, 3, 11]) [0, 1] (sB h_0 <| sN) (by kernel_rfl) (by intro h; cases h)
theorem Z6X (b_0 : GBody) (held_1 : (List Int)) : ∀ (k : Nat) (x_l0 : Int) (r1_l1 : (List GVector)) (hk : ((held_1.length : Int) - x_l0).toNat < k), (ZF b_0 held_1 k x_l0 r1_l1).length = r1_l1.length := by
  intro k
  induction k with
  | zero => intro x_l0 r1_l1 hk; exact absurd hk (Nat.not_lt_zero _)
  | succ k ih =>
    intro x_l0 r1_l1 hk
    cases h_0 : (decide (x_l0 < (held_1.length : Int))) with
    | true =>
      have e : ZF b_0 held_1 (k + 1) x_l0 r1_l1 = (ZF b_0 held_1 k (x_l0 + 1) (r1_l1.set ((held_1.getD x_l0.toNat default).toNat) (⟨0, 0, 0⟩ : GVector))) := by simp only [ZF, h_0, cond_true]
      rw [e, ih (x_l0 + 1) (r1_l1.set ((held_1.getD x_l0.toNat default).toNat) (⟨0, 0, 0⟩ : GVector)) (by simp_all <;> omega)]; simp
    | false =>
      have e : ZF b_0 held_1 (k + 1) x_l0 r1_l1 = r1_l1 := by simp only [ZF, h_0, cond_false]
      first | (rw [e]; done) | (rw [e]; rfl)
def Z2Q (b_0 : GBody) (held_1 : (List Int)) : (List GVector) := (ZF b_0 held_1 (((held_1.length : Int) - 0).toNat + 1) 0 (Z2e b_0))
@[simp] theorem Z9B (b_0 : GBody) (held_1 : (List Int)) : (Z2Q b_0 held_1).length = ((Z2e b_0) : (List GVector)).length := Z6X b_0 held_1 (((held_1.length : Int) - 0).toNat + 1) 0 (Z2e b_0) (by exact Nat.lt_succ_self _)
def Z2z (b_0 : GBody) (held_1 : (List Int)) : (List GVector) := (Z2Q b_0 held_1)
@[simp] theorem Zaq (b_0 : GBody) (held_1 : (List Int)) : (Z2z b_0 held_1).length = b_0.Mesh.Places.length := by
  first | (simp [Z2z]; done)
theorem Za7 (b : GBody) (l : List Int) (ok : OkBd b) : Z2z b l = Z2x b l := by
  unfold Z2z Z2x Z2Q Z3b
  rw [Zax b ok, show ZF b l = ZY b l from by kernel_rfl]
theorem Z9N (b : GBody) (hs : List Int) (h : Z2H b hs = true) : Z17 b = true ∧ Z2J b hs = true := by
  rw [Z9M] at h
  cases h1 : Z17 b <;> rw [h1] at h <;> (try (cases h; done))
  exact ⟨rfl, h⟩
theorem Z8E (b_0 : GBody) (held_1 : (List Int)) (hp0 : b_0.Mesh.Places.length ≤ 1073741824) (hp1 : b_0.Mesh.Triangles.length ≤ 1073741824) (hp2 : ∀ t ∈ b_0.Mesh.Triangles, t.length ≤ 1073741824) (hp3 : b_0.Springs.length ≤ 1073741824) (hp4 : b_0.Weights.length ≤ 1073741824) (hp5 : held_1.length ≤ 1073741824) (hp6 : OkBd b_0) (hp7 : OkIx b_0.Mesh.Places.length (fun x => x) held_1)  : Fn prog 68 [.agg [.sl (b_0.Mesh.Places.map GVector.cells), .sl (b_0.Mesh.Triangles.map (cL (cI .i64))), .sl (b_0.Springs.map GSpring.cells), .f .f32 b_0.Film, .f .f32 b_0.Bend, .sl (b_0.Weights.map (cF .f32)), .f .f32 b_0.Fall.X, .f .f32 b_0.Fall.Y, .f .f32 b_0.Fall.Z], .sl (held_1.map (cI .i64))] (.own 0) [.vec 40 3 ((Z2z b_0 held_1).map GVector.cells) false] := by
 refine fnS E0Ok Z3 (c := bodyOf f68) [] (.own 0) [.vec 40 3 ((Z2Q b_0 held_1).map GVector.cells) false] func68 (sF (Z9n b_0 hp0 hp1 hp2 hp3 hp4 hp6) <| sZ (cI .i64) held_1 <| sL (mR false [0, 3, 1, 2, 2, 5, 9]) 2 (lp_val (Z4f b_0 held_1) (x := (Z2Q b_0 held_1)) (Z7v b_0 held_1 hp0 hp1 hp2 hp3 hp4 hp5 hp6 hp7 (((held_1.length : Int) - 0).toNat + 1) 0 (Z2e b_0) (show 0 ≤ 0 from (by omega)) (show (Z2e b_0).length = b_0.Mesh.Places.length from (by simp; done)) (Nat.lt_succ_self _)) rfl) <| sK [1] sN) rfl (by kernel_rfl) (by kernel_rfl) rfl ?_ ?_
 · rfl
 · simp [Z2z]
def ZQ (b_0 : GBody) (held_1 : (List Int)) : (List GVector) × Bool := (cond (Z2H b_0 held_1)
  ((Z2z b_0 held_1), true)
  (([] : List GVector), false))
theorem Z6Y (b_0 : GBody) (held_1 : (List Int)) : (ZQ b_0 held_1).1.length ≤ b_0.Mesh.Places.length := by
  cases h0 : (Z2H b_0 held_1) with
  | true =>
    first | (simp [ZQ, h0]; done)
  | false =>
    first | (simp [ZQ, h0]; done)
theorem Z8F (b_0 : GBody) (held_1 : (List Int)) (hp0 : b_0.Mesh.Places.length ≤ 1073741824) (hp1 : b_0.Mesh.Triangles.length ≤ 1073741824) (hp2 : ∀ t ∈ b_0.Mesh.Triangles, t.length ≤ 1073741824) (hp3 : b_0.Springs.length ≤ 1073741824) (hp4 : b_0.Weights.length ≤ 1073741824) (hp5 : held_1.length ≤ 1073741824)  : Fn prog 26 [.agg [.sl (b_0.Mesh.Places.map GVector.cells), .sl (b_0.Mesh.Triangles.map (cL (cI .i64))), .sl (b_0.Springs.map GSpring.cells), .f .f32 b_0.Film, .f .f32 b_0.Bend, .sl (b_0.Weights.map (cF .f32)), .f .f32 b_0.Fall.X, .f .f32 b_0.Fall.Y, .f .f32 b_0.Fall.Z], .sl (held_1.map (cI .i64))] (.tup [.own 0, .b ((ZQ b_0 held_1).2)]) [.vec 40 3 (((ZQ b_0 held_1).1).map GVector.cells) false] := by
 have p {a C} (s : Scr a C) := sF (Z9X b_0 held_1 hp0 hp1 hp2 hp3 hp4 hp5) <| s
 cases h0 : (Z2H b_0 held_1) with
 | true =>
  have y0 : OkBd b_0 := by clear p; exact (by exact Z9u _ (Z9N _ _ (by assumption)).1)
  have y1 : OkIx b_0.Mesh.Places.length (fun x => x) held_1 := by clear p; exact (by exact ZaC _ _ (by assumption) (Z9N _ _ (by assumption)).2)
  refine fnS E0Ok Z3 (c := bodyOf f26) [] (.tup [.own 0, .b true]) [.vec 40 3 ((Z2z b_0 held_1).map GVector.cells) false] func26 (p (sB' h0 <| sF (Z8E b_0 held_1 hp0 hp1 hp2 hp3 hp4 hp5 y0 y1) <| sK [1] sN)) rfl (by kernel_rfl) (by kernel_rfl) rfl ?_ ?_
  · simp only [ZQ, h0, cond_true]
  · simp [ZQ, h0]
 | false =>
  refine fnS E0Ok Z3 (c := bodyOf f26) [(.tm 4, .vec 40 3 [] false)] (.tup [.own 0, .b false]) [.vec 40 3 [] false] func26 (p (sB' h0 <| sK [1] sN)) rfl (by kernel_rfl) (by kernel_rfl) rfl ?_ ?_
  · simp only [ZQ, h0, cond_false]
  · simp [ZQ, h0, GVector.cells]
def Z15 (list_0 : (List GVector)) : Nat → Nat → Int → (Nat) ⊕ (Nat)
  | 0, _, _ => .inl default
  | k + 1, most_l0, x_l1 => (cond (decide (x_l1 < (list_0.length : Int)))
    (cond (fcmp .neq .f32 (Zd (list_0.getD x_l1.toNat default)) (Zd (list_0.getD x_l1.toNat default)))
      (.inl (Zd (list_0.getD x_l1.toNat default)))
      (Z15 list_0 k (fmax .f32 most_l0 (Zd (list_0.getD x_l1.toNat default))) (x_l1 + 1)))
    (.inr most_l0))
def Z3L (list_0 : (List GVector)) : (Nat) ⊕ (Nat) → Ex × St
  | .inl r => (.ret, ⟨.any :: .any :: .f .f32 r :: .b true :: an 24 [], []⟩)
  | .inr r => ((.exit 0), ⟨.sl (list_0.map GVector.cells) :: .any :: .any :: .any :: .f .f32 r :: .any :: .any :: .any :: .sl (list_0.map GVector.cells) :: .i .i64 (list_0.length : Int) :: .b (decide ((list_0.length : Int) > 256)) :: .sl (list_0.map GVector.cells) :: an 16 [], []⟩)
def Z7U (list_0 : (List GVector)) (most_l0 : Nat) (x_l1 : Int) : St := ⟨.sl (list_0.map GVector.cells) :: .any :: .any :: .any :: .f .f32 most_l0 :: .any :: .any :: .any :: .sl (list_0.map GVector.cells) :: .i .i64 (list_0.length : Int) :: .b (decide ((list_0.length : Int) > 256)) :: .sl (list_0.map GVector.cells) :: .i .i64 (list_0.length : Int) :: .i .i64 x_l1 :: an 14 [], []⟩
theorem Z6b (list_0 : (List GVector)) (hp0 : list_0.length ≤ 1073741824) (ZaN : (decide ((list_0.length : Int) > 256)) = false) : ∀ (k : Nat) (most_l0 : Nat) (x_l1 : Int) (Z5r : 0 ≤ x_l1) (hk : ((list_0.length : Int) - x_l1).toNat < k), Lp prog 0 (sub (bodyOf f66) [1, 1, 1, 0, 1, 0, 0]) (Z7U list_0 most_l0 x_l1) (Z3L list_0 (Z15 list_0 k most_l0 x_l1)).1 (Z3L list_0 (Z15 list_0 k most_l0 x_l1)).2 := by
 intro k
 induction k with
 | zero => intro most_l0 x_l1 Z5r hk; exact absurd hk (Nat.not_lt_zero _)
 | succ k ih =>
  intro most_l0 x_l1 Z5r hk
  cases h_0 : (decide (x_l1 < (list_0.length : Int))) with
  | true =>
   have gh_0 := of_decide_eq_true h_0
   have y_0 : (0 : Int) ≤ x_l1 := (by assumption)
   have y_1 : x_l1 < (list_0.length : Int) := (by assumption)
   have p {a C} (s : Scr a C) := sB h_0 <| sG GVector.cells list_0 x_l1 y_0 y_1 <| sF (Z6y (list_0.getD x_l1.toNat default)) <| s
   cases h_1 : (fcmp .neq .f32 (Zd (list_0.getD x_l1.toNat default)) (Zd (list_0.getD x_l1.toNat default))) with
   | true =>
    have e : Z15 list_0 (k + 1) most_l0 x_l1 = (.inl (Zd (list_0.getD x_l1.toNat default))) := by simp only [Z15, h_0, h_1, cond_true]
    rw [e]
    exact outR (e := .ret) E0Ok Z3 [] (mR false [2, 2, 24]) [] (p (sB h_1 <| sN)) (by kernel_rfl) (by intro h; cases h)
   | false =>
    have y_2 : (-9223372036854775808 : Int) ≤ (x_l1 + 1) := by clear p; exact (by omega)
    have y_3 : (x_l1 + 1) ≤ (9223372036854775807 : Int) := by clear p; exact (by omega)
    have e : Z15 list_0 (k + 1) most_l0 x_l1 = (Z15 list_0 k (fmax .f32 most_l0 (Zd (list_0.getD x_l1.toNat default))) (x_l1 + 1)) := by simp only [Z15, h_0, h_1, cond_true, cond_false]
    rw [e]
    exact nextR E0Ok Z3 [] (mR false [0, 1, 3, 1, 3, 6, 14]) [] (ih (fmax .f32 most_l0 (Zd (list_0.getD x_l1.toNat default))) (x_l1 + 1) (show 0 ≤ (x_l1 + 1) from (by omega)) (by omega)) (p (sB h_1 <| sI (x_l1 + 1) y_2 y_3 <| sN)) (by kernel_rfl)
  | false =>
   have gh_0 := of_decide_eq_false h_0
   have e : Z15 list_0 (k + 1) most_l0 x_l1 = (.inr most_l0) := by simp only [Z15, h_0, cond_false]
   rw [e]
   exact outR (e := (.exit 0)) E0Ok Z3 [] (mR false [0, 1, 3, 1, 3, 4, 16]) [] (sB h_0 <| sN) (by kernel_rfl) (by intro h; cases h)
def Z31 (list_0 : (List GVector)) : (Nat) ⊕ (Nat) := (Z15 list_0 (((list_0.length : Int) - 0).toNat + 1) 0 0)
def Z1Z (list_0 : (List GVector)) : Nat × Bool := (cond (decide ((list_0.length : Int) > 256))
  (0, false)
  (match (Z31 list_0) with
    | .inl r2 => (r2, true)
    | .inr r2 => (r2, true)))
theorem Z95 (list_0 : (List GVector)) (hp0 : list_0.length ≤ 1073741824)  : Fn prog 66 [.sl (list_0.map GVector.cells)] (.tup [.f .f32 ((Z1Z list_0).1), .b ((Z1Z list_0).2)]) [] := by
 have p {a C} (s : Scr a C) := sZ GVector.cells list_0 <| s
 cases h0 : (decide ((list_0.length : Int) > 256)) with
 | true =>
  have gh0 := of_decide_eq_true h0
  refine fnS E0Ok Z3 (c := bodyOf f66) [] (.tup [.f .f32 0, .b false]) [] func66 (p (sB h0 <| sK [] sN)) rfl (by kernel_rfl) (by kernel_rfl) rfl ?_ ?_
  · simp only [Z1Z, h0, cond_true]
  · rfl
 | false =>
  have gh0 := of_decide_eq_false h0
  have q {a C} (s : Scr a C) := p (sB h0 <| sZ GVector.cells list_0 <| s)
  clear p
  cases h1 : (Z31 list_0) with
  | inl r2 =>
   refine fnS E0Ok Z3 (c := bodyOf f66) [] (.tup [.f .f32 r2, .b true]) [] func66 (q (sL (mR false [0, 1, 3, 1, 3, 6, 14]) 0 (lp_val (Z3L list_0) (x := (Z31 list_0)) (Z6b list_0 hp0 h0 (((list_0.length : Int) - 0).toNat + 1) 0 0 (show 0 ≤ 0 from (by omega)) (Nat.lt_succ_self _)) h1) <| sK [] sN)) rfl (by kernel_rfl) (by kernel_rfl) rfl ?_ ?_
   · simp only [Z1Z, h0, h1, cond_false]
   · rfl
  | inr r2 =>
   refine fnS E0Ok Z3 (c := bodyOf f66) [] (.tup [.f .f32 r2, .b true]) [] func66 (q (sL (mR false [0, 1, 3, 1, 3, 6, 14]) 0 (lp_val (Z3L list_0) (x := (Z31 list_0)) (Z6b list_0 hp0 h0 (((list_0.length : Int) - 0).toNat + 1) 0 0 (show 0 ≤ 0 from (by omega)) (Nat.lt_succ_self _)) h1) <| sK [] sN)) rfl (by kernel_rfl) (by kernel_rfl) rfl ?_ ?_
   · simp only [Z1Z, h0, h1, cond_false]
   · rfl
def Z2j (b_0 : GBody) (held_1 : (List Int)) : Nat × Bool := (cond (ZQ b_0 held_1).2
  ((Z1Z ((ZQ b_0 held_1).1)).1, (Z1Z ((ZQ b_0 held_1).1)).2)
  (0, false))
theorem Za8 (b_0 : GBody) (held_1 : (List Int)) (hp0 : b_0.Mesh.Places.length ≤ 1073741824) (hp1 : b_0.Mesh.Triangles.length ≤ 1073741824) (hp2 : ∀ t ∈ b_0.Mesh.Triangles, t.length ≤ 1073741824) (hp3 : b_0.Springs.length ≤ 1073741824) (hp4 : b_0.Weights.length ≤ 1073741824) (hp5 : held_1.length ≤ 1073741824)  : Fn prog 22 [.agg [.sl (b_0.Mesh.Places.map GVector.cells), .sl (b_0.Mesh.Triangles.map (cL (cI .i64))), .sl (b_0.Springs.map GSpring.cells), .f .f32 b_0.Film, .f .f32 b_0.Bend, .sl (b_0.Weights.map (cF .f32)), .f .f32 b_0.Fall.X, .f .f32 b_0.Fall.Y, .f .f32 b_0.Fall.Z], .sl (held_1.map (cI .i64))] (.tup [.f .f32 ((Z2j b_0 held_1).1), .b ((Z2j b_0 held_1).2)]) [] := by
 have l1 := (Z6Y b_0 held_1)
 have p {a C} (s : Scr a C) := sF (Z8F b_0 held_1 hp0 hp1 hp2 hp3 hp4 hp5) <| s
 cases h0 : (ZQ b_0 held_1).2 with
 | true =>
  have y0 : ((ZQ b_0 held_1).1).length ≤ 1073741824 := by clear p; exact (by omega)
  refine fnS E0Ok Z3 (c := bodyOf f22) [] (.tup [.f .f32 ((Z1Z ((ZQ b_0 held_1).1)).1), .b ((Z1Z ((ZQ b_0 held_1).1)).2)]) [] func22 (p (sB' h0 <| sF (Z95 ((ZQ b_0 held_1).1) y0) <| sK [] sN)) rfl (by kernel_rfl) (by kernel_rfl) rfl ?_ ?_
  · simp only [Z2j, h0, cond_true]
  · rfl
 | false =>
  refine fnS E0Ok Z3 (c := bodyOf f22) [] (.tup [.f .f32 0, .b false]) [] func22 (p (sB' h0 <| sK [] sN)) rfl (by kernel_rfl) (by kernel_rfl) rfl ?_ ?_
  · simp only [Z2j, h0, cond_false]
  · rfl
def Zk (a_0 : Nat) (b_1 : Nat) : Bool := (cond (fcmp .neq .f64 a_0 a_0)
  (fcmp .neq .f64 b_1 b_1)
  (cond (fcmp .neq .f64 b_1 b_1)
    false
    (cond (fcmp .eql .f64 a_0 0)
      (cond (fcmp .eql .f64 b_1 0)
        ((fcmp .gtr .f64 (fop .quo .f64 4607182418800017408 a_0) 0) == (fcmp .gtr .f64 (fop .quo .f64 4607182418800017408 b_1) 0))
        (fcmp .eql .f64 a_0 b_1))
      (fcmp .eql .f64 a_0 b_1))))
theorem Z2w (a_0 : Nat) (b_1 : Nat)   : Fn prog 23 [.f .f64 a_0, .f .f64 b_1] (.b (Zk a_0 b_1)) [] := by
 cases h0 : (fcmp .neq .f64 a_0 a_0) with
 | true =>
  refine fnS E0Ok Z3 (c := bodyOf f23) [] (.b (fcmp .neq .f64 b_1 b_1)) [] func23 (sB h0 <| sB h0 <| sB h0 <| sB h0 <| sB (show true = true from rfl) <| sB h0 <| sB h0 <| sB h0 <| sB h0 <| sK [] sN) rfl (by kernel_rfl) (by kernel_rfl) rfl ?_ ?_
  · simp only [Zk, h0, cond_true]
  · rfl
 | false =>
  have p {a C} (s : Scr a C) := sB h0 <| sB h0 <| sB h0 <| sB h0 <| s
  cases h1 : (fcmp .neq .f64 b_1 b_1) with
  | true =>
   refine fnS E0Ok Z3 (c := bodyOf f23) [] (.b false) [] func23 (p (sB h1 <| sB h0 <| sB h0 <| sB h0 <| sB h0 <| sK [] sN)) rfl (by kernel_rfl) (by kernel_rfl) rfl ?_ ?_
   · simp only [Zk, h0, h1, cond_true, cond_false]
   · rfl
  | false =>
   have q {a C} (s : Scr a C) := p (sB h1 <| s)
   clear p
   cases h2 : (fcmp .eql .f64 a_0 0) with
   | true =>
    have p {a C} (s : Scr a C) := q (sB h2 <| sB h2 <| sB h2 <| s)
    clear q
    cases h3 : (fcmp .eql .f64 b_1 0) with
    | true =>
     refine fnS E0Ok Z3 (c := bodyOf f23) [] (.b ((fcmp .gtr .f64 (fop .quo .f64 4607182418800017408 a_0) 0) == (fcmp .gtr .f64 (fop .quo .f64 4607182418800017408 b_1) 0))) [] func23 (p (sB h3 <| sK [] sN)) rfl (by kernel_rfl) (by kernel_rfl) rfl ?_ ?_
     · simp only [Zk, h0, h1, h2, h3, cond_true, cond_false]
     · rfl
    | false =>
     refine fnS E0Ok Z3 (c := bodyOf f23) [] (.b (fcmp .eql .f64 a_0 b_1)) [] func23 (p (sB h3 <| sK [] sN)) rfl (by kernel_rfl) (by kernel_rfl) rfl ?_ ?_
     · simp only [Zk, h0, h1, h2, h3, cond_true, cond_false]
     · rfl
   | false =>
    refine fnS E0Ok Z3 (c := bodyOf f23) [] (.b (fcmp .eql .f64 a_0 b_1)) [] func23 (q (sB h2 <| sB h2 <| sB h2 <| sB (show false = false from rfl) <| sK [] sN)) rfl (by kernel_rfl) (by kernel_rfl) rfl ?_ ?_
    · simp only [Zk, h0, h1, h2, cond_false]
    · rfl
theorem Z6t (x : Nat) : Zk x x = true := by
  unfold Zk
  cases h : fcmp .neq .f64 x x
  · simp only [cond_false]
    have h2 : fcmp .eql .f64 x x = true := by
      unfold fcmp at h ⊢
      simpa using h
    cases fcmp .eql .f64 x 0 <;> simp [h2]
  · rfl
def Z1V (a_0 : GVector) (b_1 : GVector) : Bool := (cond (Zk (fcv .f32 .f64 a_0.X) (fcv .f32 .f64 b_1.X))
  (cond (Zk (fcv .f32 .f64 a_0.Y) (fcv .f32 .f64 b_1.Y))
    (cond (Zk (fcv .f32 .f64 a_0.Z) (fcv .f32 .f64 b_1.Z))
      true
      false)
    false)
  false)
theorem Z6T (a_0 : GVector) (b_1 : GVector)   : Fn prog 58 [.agg [.f .f32 a_0.X, .f .f32 a_0.Y, .f .f32 a_0.Z], .agg [.f .f32 b_1.X, .f .f32 b_1.Y, .f .f32 b_1.Z]] (.b (Z1V a_0 b_1)) [] := by
 have p {a C} (s : Scr a C) := sC (widenOk a_0.X) <| sC (widenOk b_1.X) <| sF (Z2w (fcv .f32 .f64 a_0.X) (fcv .f32 .f64 b_1.X)) <| s
 cases h0 : (Zk (fcv .f32 .f64 a_0.X) (fcv .f32 .f64 b_1.X)) with
 | true =>
  have q {a C} (s : Scr a C) := p (sB' h0 <| sC (widenOk a_0.Y) <| sC (widenOk b_1.Y) <| sF (Z2w (fcv .f32 .f64 a_0.Y) (fcv .f32 .f64 b_1.Y)) <| s)
  clear p
  cases h1 : (Zk (fcv .f32 .f64 a_0.Y) (fcv .f32 .f64 b_1.Y)) with
  | true =>
   have p {a C} (s : Scr a C) := q (sB' h1 <| sC (widenOk a_0.Z) <| sC (widenOk b_1.Z) <| sF (Z2w (fcv .f32 .f64 a_0.Z) (fcv .f32 .f64 b_1.Z)) <| s)
   clear q
   cases h2 : (Zk (fcv .f32 .f64 a_0.Z) (fcv .f32 .f64 b_1.Z)) with
   | true =>
    refine fnS E0Ok Z3 (c := bodyOf f58) [] (.b true) [] func58 (p (sB' h2 <| sK [] sN)) rfl (by kernel_rfl) (by kernel_rfl) rfl ?_ ?_
    · simp only [Z1V, h0, h1, h2, cond_true]
    · rfl
   | false =>
    refine fnS E0Ok Z3 (c := bodyOf f58) [] (.b false) [] func58 (p (sB' h2 <| sK [] sN)) rfl (by kernel_rfl) (by kernel_rfl) rfl ?_ ?_
    · simp only [Z1V, h0, h1, h2, cond_true, cond_false]
    · rfl
  | false =>
   refine fnS E0Ok Z3 (c := bodyOf f58) [] (.b false) [] func58 (q (sB' h1 <| sK [] sN)) rfl (by kernel_rfl) (by kernel_rfl) rfl ?_ ?_
   · simp only [Z1V, h0, h1, cond_true, cond_false]
   · rfl
 | false =>
  refine fnS E0Ok Z3 (c := bodyOf f58) [] (.b false) [] func58 (p (sB' h0 <| sK [] sN)) rfl (by kernel_rfl) (by kernel_rfl) rfl ?_ ?_
  · simp only [Z1V, h0, cond_false]
  · rfl
theorem Z7z (a : GVector) : Z1V a a = true := by
  simp [Z1V, Z6t]
def Z1n (a_0 : (List GVector)) (b_1 : (List GVector)) : Nat → Int → (Unit) ⊕ (Unit)
  | 0, _ => .inl default
  | k + 1, i_l0 => (cond (decide (i_l0 < (a_0.length : Int)))
    (cond (Z1V (a_0.getD i_l0.toNat default) (b_1.getD i_l0.toNat default))
      (Z1n a_0 b_1 k (i_l0 + 1))
      (.inl ()))
    (.inr ()))
def Z3M (a_0 : (List GVector)) (b_1 : (List GVector)) : (Unit) ⊕ (Unit) → Ex × St
  | .inl r => (.ret, ⟨an 4 (.b false :: an 22 []), []⟩)
  | .inr r => ((.exit 0), ⟨.sl (a_0.map GVector.cells) :: .sl (b_1.map GVector.cells) :: an 4 (.sl (a_0.map GVector.cells) :: .i .i64 (a_0.length : Int) :: .sl (b_1.map GVector.cells) :: .i .i64 (b_1.length : Int) :: .b ((a_0.length : Int) != (b_1.length : Int)) :: an 16 []), []⟩)
def Z7V (a_0 : (List GVector)) (b_1 : (List GVector)) (i_l0 : Int) : St := ⟨.sl (a_0.map GVector.cells) :: .sl (b_1.map GVector.cells) :: .any :: .any :: .any :: .i .i64 i_l0 :: .sl (a_0.map GVector.cells) :: .i .i64 (a_0.length : Int) :: .sl (b_1.map GVector.cells) :: .i .i64 (b_1.length : Int) :: .b ((a_0.length : Int) != (b_1.length : Int)) :: an 16 [], []⟩
theorem Z6c (a_0 : (List GVector)) (b_1 : (List GVector)) (hp0 : a_0.length ≤ 1073741824) (hp1 : b_1.length ≤ 1073741824) (ZaO : ((a_0.length : Int) != (b_1.length : Int)) = false) : ∀ (k : Nat) (i_l0 : Int) (Z5s : 0 ≤ i_l0) (hk : ((a_0.length : Int) - i_l0).toNat < k), Lp prog 0 (sub (bodyOf f15) [1, 1, 0, 1, 0, 0]) (Z7V a_0 b_1 i_l0) (Z3M a_0 b_1 (Z1n a_0 b_1 k i_l0)).1 (Z3M a_0 b_1 (Z1n a_0 b_1 k i_l0)).2 := by
 intro k
 induction k with
 | zero => intro i_l0 Z5s hk; exact absurd hk (Nat.not_lt_zero _)
 | succ k ih =>
  intro i_l0 Z5s hk
  have p {a C} (s : Scr a C) := sZ GVector.cells a_0 <| s
  cases h_0 : (decide (i_l0 < (a_0.length : Int))) with
  | true =>
   have gh_0 := of_decide_eq_true h_0
   have y_0 : (0 : Int) ≤ i_l0 := by clear p; exact (by assumption)
   have y_1 : i_l0 < (a_0.length : Int) := by clear p; exact (by assumption)
   have y_2 : i_l0 < (b_1.length : Int) := by clear p; exact (by simp_all <;> omega)
   have q {a C} (s : Scr a C) := p (sB h_0 <| sK [8, 8] <| sG GVector.cells a_0 i_l0 y_0 y_1 <| sG GVector.cells b_1 i_l0 y_0 y_2 <| sF (Z6T (a_0.getD i_l0.toNat default) (b_1.getD i_l0.toNat default)) <| s)
   clear p
   cases h_1 : (Z1V (a_0.getD i_l0.toNat default) (b_1.getD i_l0.toNat default)) with
   | true =>
    have y_3 : (-9223372036854775808 : Int) ≤ (i_l0 + 1) := by clear q; exact (by omega)
    have y_4 : (i_l0 + 1) ≤ (9223372036854775807 : Int) := by clear q; exact (by omega)
    have e : Z1n a_0 b_1 (k + 1) i_l0 = (Z1n a_0 b_1 k (i_l0 + 1)) := by simp only [Z1n, h_0, h_1, cond_true]
    rw [e]
    exact nextR E0Ok Z3 [] (mR false [0, 2, 3, 6, 16]) [] (ih (i_l0 + 1) (show 0 ≤ (i_l0 + 1) from (by omega)) (by omega)) (q (sB' h_1 <| sI (i_l0 + 1) y_3 y_4 <| sN)) (by kernel_rfl)
   | false =>
    have e : Z1n a_0 b_1 (k + 1) i_l0 = (.inl ()) := by simp only [Z1n, h_0, h_1, cond_true, cond_false]
    rw [e]
    exact outR (e := .ret) E0Ok Z3 [] (mR false [4, 1, 22]) [] (q (sB' h_1 <| sN)) (by kernel_rfl) (by intro h; cases h)
  | false =>
   have gh_0 := of_decide_eq_false h_0
   have e : Z1n a_0 b_1 (k + 1) i_l0 = (.inr ()) := by simp only [Z1n, h_0, cond_false]
   rw [e]
   exact outR (e := (.exit 0)) E0Ok Z3 [] (mR false [0, 2, 4, 5, 16]) [] (p (sB h_0 <| sN)) (by kernel_rfl) (by intro h; cases h)
def Z32 (a_0 : (List GVector)) (b_1 : (List GVector)) : (Unit) ⊕ (Unit) := (Z1n a_0 b_1 (((a_0.length : Int) - 0).toNat + 1) 0)
def Z2C (a_0 : (List GVector)) (b_1 : (List GVector)) : Bool := (cond ((a_0.length : Int) != (b_1.length : Int))
  false
  (match (Z32 a_0 b_1) with
    | .inl r2 => false
    | .inr r2 => true))
theorem Z96 (a_0 : (List GVector)) (b_1 : (List GVector)) (hp0 : a_0.length ≤ 1073741824) (hp1 : b_1.length ≤ 1073741824)  : Fn prog 15 [.sl (a_0.map GVector.cells), .sl (b_1.map GVector.cells)] (.b (Z2C a_0 b_1)) [] := by
 have p {a C} (s : Scr a C) := sZ GVector.cells a_0 <| sZ GVector.cells b_1 <| s
 cases h0 : ((a_0.length : Int) != (b_1.length : Int)) with
 | true =>
  have gh0 := bne_iff_ne.1 h0
  refine fnS E0Ok Z3 (c := bodyOf f15) [] (.b false) [] func15 (p (sB h0 <| sK [] sN)) rfl (by kernel_rfl) (by kernel_rfl) rfl ?_ ?_
  · simp only [Z2C, h0, cond_true]
  · rfl
 | false =>
  have gh0 := bne_eq_false_iff_eq.1 h0
  have q {a C} (s : Scr a C) := p (sB h0 <| s)
  clear p
  cases h1 : (Z32 a_0 b_1) with
  | inl r2 =>
   refine fnS E0Ok Z3 (c := bodyOf f15) [] (.b false) [] func15 (q (sL (mR false [0, 2, 3, 6, 16]) 0 (lp_val (Z3M a_0 b_1) (x := (Z32 a_0 b_1)) (Z6c a_0 b_1 hp0 hp1 h0 (((a_0.length : Int) - 0).toNat + 1) 0 (show 0 ≤ 0 from (by omega)) (Nat.lt_succ_self _)) h1) <| sK [] sN)) rfl (by kernel_rfl) (by kernel_rfl) rfl ?_ ?_
   · simp only [Z2C, h0, h1, cond_false]
   · rfl
  | inr r2 =>
   refine fnS E0Ok Z3 (c := bodyOf f15) [] (.b true) [] func15 (q (sL (mR false [0, 2, 3, 6, 16]) 0 (lp_val (Z3M a_0 b_1) (x := (Z32 a_0 b_1)) (Z6c a_0 b_1 hp0 hp1 h0 (((a_0.length : Int) - 0).toNat + 1) 0 (show 0 ≤ 0 from (by omega)) (Nat.lt_succ_self _)) h1) <| sK [] sN)) rfl (by kernel_rfl) (by kernel_rfl) rfl ?_ ?_
   · simp only [Z2C, h0, h1, cond_false]
   · rfl
theorem Z9C (a : List GVector) : Z2C a a = true := by
  unfold Z2C Z32
  rw [all_loop (a := a) (p := fun v => Z1V v v) (lo := Z1n a a) (x := ()) (y := ()) (fun k i => rfl) (fun v _ => Z7z v) _ _ (Int.le_refl 0) (Nat.lt_succ_self _)]
  simp
def Z1h (a_0 : (List Int)) (b_1 : (List Int)) : Nat → Int → (Unit) ⊕ (Unit)
  | 0, _ => .inl default
  | k + 1, i_l0 => (cond (decide (i_l0 < (a_0.length : Int)))
    (cond ((a_0.getD i_l0.toNat default) != (b_1.getD i_l0.toNat default))
      (.inl ())
      (Z1h a_0 b_1 k (i_l0 + 1)))
    (.inr ()))
def Z3T (a_0 : (List Int)) (b_1 : (List Int)) : (Unit) ⊕ (Unit) → Ex × St
  | .inl r => (.ret, ⟨an 4 (.b false :: an 21 []), []⟩)
  | .inr r => ((.exit 0), ⟨.sl (a_0.map (cI .i64)) :: .sl (b_1.map (cI .i64)) :: an 4 (.sl (a_0.map (cI .i64)) :: .i .i64 (a_0.length : Int) :: .sl (b_1.map (cI .i64)) :: .i .i64 (b_1.length : Int) :: .b ((a_0.length : Int) != (b_1.length : Int)) :: an 15 []), []⟩)
def Z8p (a_0 : (List Int)) (b_1 : (List Int)) (i_l0 : Int) : St := ⟨.sl (a_0.map (cI .i64)) :: .sl (b_1.map (cI .i64)) :: .any :: .any :: .any :: .i .i64 i_l0 :: .sl (a_0.map (cI .i64)) :: .i .i64 (a_0.length : Int) :: .sl (b_1.map (cI .i64)) :: .i .i64 (b_1.length : Int) :: .b ((a_0.length : Int) != (b_1.length : Int)) :: an 15 [], []⟩
theorem Z6u (a_0 : (List Int)) (b_1 : (List Int)) (hp0 : a_0.length ≤ 1073741824) (hp1 : b_1.length ≤ 1073741824) (ZaZ : ((a_0.length : Int) != (b_1.length : Int)) = false) : ∀ (k : Nat) (i_l0 : Int) (Z5V : 0 ≤ i_l0) (hk : ((a_0.length : Int) - i_l0).toNat < k), Lp prog 0 (sub (bodyOf f24) [1, 1, 0, 1, 0, 0]) (Z8p a_0 b_1 i_l0) (Z3T a_0 b_1 (Z1h a_0 b_1 k i_l0)).1 (Z3T a_0 b_1 (Z1h a_0 b_1 k i_l0)).2 := by
 intro k
 induction k with
 | zero => intro i_l0 Z5V hk; exact absurd hk (Nat.not_lt_zero _)
 | succ k ih =>
  intro i_l0 Z5V hk
  have p {a C} (s : Scr a C) := sZ (cI .i64) a_0 <| s
  cases h_0 : (decide (i_l0 < (a_0.length : Int))) with
  | true =>
   have gh_0 := of_decide_eq_true h_0
   have y_0 : (0 : Int) ≤ i_l0 := by clear p; exact (by assumption)
   have y_1 : i_l0 < (a_0.length : Int) := by clear p; exact (by assumption)
   have y_2 : i_l0 < (b_1.length : Int) := by clear p; exact (by simp_all <;> omega)
   have q {a C} (s : Scr a C) := p (sB h_0 <| sK [8, 8] <| sG (cI .i64) a_0 i_l0 y_0 y_1 <| sG (cI .i64) b_1 i_l0 y_0 y_2 <| s)
   clear p
   cases h_1 : ((a_0.getD i_l0.toNat default) != (b_1.getD i_l0.toNat default)) with
   | true =>
    have gh_1 := bne_iff_ne.1 h_1
    have e : Z1h a_0 b_1 (k + 1) i_l0 = (.inl ()) := by simp only [Z1h, h_0, h_1, cond_true]
    rw [e]
    exact outR (e := .ret) E0Ok Z3 [] (mR false [4, 1, 21]) [] (q (sB h_1 <| sN)) (by kernel_rfl) (by intro h; cases h)
   | false =>
    have gh_1 := bne_eq_false_iff_eq.1 h_1
    have y_3 : (-9223372036854775808 : Int) ≤ (i_l0 + 1) := by clear q; exact (by omega)
    have y_4 : (i_l0 + 1) ≤ (9223372036854775807 : Int) := by clear q; exact (by omega)
    have e : Z1h a_0 b_1 (k + 1) i_l0 = (Z1h a_0 b_1 k (i_l0 + 1)) := by simp only [Z1h, h_0, h_1, cond_true, cond_false]
    rw [e]
    exact nextR E0Ok Z3 [] (mR false [0, 2, 3, 6, 15]) [] (ih (i_l0 + 1) (show 0 ≤ (i_l0 + 1) from (by omega)) (by omega)) (q (sB h_1 <| sI (i_l0 + 1) y_3 y_4 <| sN)) (by kernel_rfl)
  | false =>
   have gh_0 := of_decide_eq_false h_0
   have e : Z1h a_0 b_1 (k + 1) i_l0 = (.inr ()) := by simp only [Z1h, h_0, cond_false]
   rw [e]
   exact outR (e := (.exit 0)) E0Ok Z3 [] (mR false [0, 2, 4, 5, 15]) [] (p (sB h_0 <| sN)) (by kernel_rfl) (by intro h; cases h)
def Z38 (a_0 : (List Int)) (b_1 : (List Int)) : (Unit) ⊕ (Unit) := (Z1h a_0 b_1 (((a_0.length : Int) - 0).toNat + 1) 0)
def Z1W (a_0 : (List Int)) (b_1 : (List Int)) : Bool := (cond ((a_0.length : Int) != (b_1.length : Int))
  false
  (match (Z38 a_0 b_1) with
    | .inl r2 => false
    | .inr r2 => true))
theorem Z6U (a_0 : (List Int)) (b_1 : (List Int)) (hp0 : a_0.length ≤ 1073741824) (hp1 : b_1.length ≤ 1073741824)  : Fn prog 24 [.sl (a_0.map (cI .i64)), .sl (b_1.map (cI .i64))] (.b (Z1W a_0 b_1)) [] := by
 have p {a C} (s : Scr a C) := sZ (cI .i64) a_0 <| sZ (cI .i64) b_1 <| s
 cases h0 : ((a_0.length : Int) != (b_1.length : Int)) with
 | true =>
  have gh0 := bne_iff_ne.1 h0
  refine fnS E0Ok Z3 (c := bodyOf f24) [] (.b false) [] func24 (p (sB h0 <| sK [] sN)) rfl (by kernel_rfl) (by kernel_rfl) rfl ?_ ?_
  · simp only [Z1W, h0, cond_true]
  · rfl
 | false =>
  have gh0 := bne_eq_false_iff_eq.1 h0
  have q {a C} (s : Scr a C) := p (sB h0 <| s)
  clear p
  cases h1 : (Z38 a_0 b_1) with
  | inl r2 =>
   refine fnS E0Ok Z3 (c := bodyOf f24) [] (.b false) [] func24 (q (sL (mR false [0, 2, 3, 6, 15]) 0 (lp_val (Z3T a_0 b_1) (x := (Z38 a_0 b_1)) (Z6u a_0 b_1 hp0 hp1 h0 (((a_0.length : Int) - 0).toNat + 1) 0 (show 0 ≤ 0 from (by omega)) (Nat.lt_succ_self _)) h1) <| sK [] sN)) rfl (by kernel_rfl) (by kernel_rfl) rfl ?_ ?_
   · simp only [Z1W, h0, h1, cond_false]
   · rfl
  | inr r2 =>
   refine fnS E0Ok Z3 (c := bodyOf f24) [] (.b true) [] func24 (q (sL (mR false [0, 2, 3, 6, 15]) 0 (lp_val (Z3T a_0 b_1) (x := (Z38 a_0 b_1)) (Z6u a_0 b_1 hp0 hp1 h0 (((a_0.length : Int) - 0).toNat + 1) 0 (show 0 ≤ 0 from (by omega)) (Nat.lt_succ_self _)) h1) <| sK [] sN)) rfl (by kernel_rfl) (by kernel_rfl) rfl ?_ ?_
   · simp only [Z1W, h0, h1, cond_false]
   · rfl
theorem Z7A (a : List Int) : Z1W a a = true := by
  unfold Z1W Z38
  rw [all_from (a := a) (p := fun v => !(v != v)) (lo := Z1h a a) (x := ()) (y := ()) (fun k i => by rw [Z1h]; cases (a.getD i.toNat default != a.getD i.toNat default) <;> rfl)]
  rw [show (a.all fun v => !(v != v)) = true from by rw [List.all_eq_true]; intro v _; simp]
  simp
def Z1o (a_0 : (List (List Int))) (b_1 : (List (List Int))) : Nat → Int → (Unit) ⊕ (Unit)
  | 0, _ => .inl default
  | k + 1, i_l0 => (cond (decide (i_l0 < (a_0.length : Int)))
    (cond (Z1W (a_0.getD i_l0.toNat default) (b_1.getD i_l0.toNat default))
      (Z1o a_0 b_1 k (i_l0 + 1))
      (.inl ()))
    (.inr ()))
def Z3N (a_0 : (List (List Int))) (b_1 : (List (List Int))) : (Unit) ⊕ (Unit) → Ex × St
  | .inl r => (.ret, ⟨an 4 (.b false :: an 22 []), []⟩)
  | .inr r => ((.exit 0), ⟨.sl (a_0.map (cL (cI .i64))) :: .sl (b_1.map (cL (cI .i64))) :: an 4 (.sl (a_0.map (cL (cI .i64))) :: .i .i64 (a_0.length : Int) :: .sl (b_1.map (cL (cI .i64))) :: .i .i64 (b_1.length : Int) :: .b ((a_0.length : Int) != (b_1.length : Int)) :: an 16 []), []⟩)
def Z7W (a_0 : (List (List Int))) (b_1 : (List (List Int))) (i_l0 : Int) : St := ⟨.sl (a_0.map (cL (cI .i64))) :: .sl (b_1.map (cL (cI .i64))) :: .any :: .any :: .any :: .i .i64 i_l0 :: .sl (a_0.map (cL (cI .i64))) :: .i .i64 (a_0.length : Int) :: .sl (b_1.map (cL (cI .i64))) :: .i .i64 (b_1.length : Int) :: .b ((a_0.length : Int) != (b_1.length : Int)) :: an 16 [], []⟩
theorem Z6d (a_0 : (List (List Int))) (b_1 : (List (List Int))) (hp0 : a_0.length ≤ 1073741824) (hp1 : ∀ t ∈ a_0, t.length ≤ 1073741824) (hp2 : b_1.length ≤ 1073741824) (hp3 : ∀ t ∈ b_1, t.length ≤ 1073741824) (ZaP : ((a_0.length : Int) != (b_1.length : Int)) = false) : ∀ (k : Nat) (i_l0 : Int) (Z5t : 0 ≤ i_l0) (hk : ((a_0.length : Int) - i_l0).toNat < k), Lp prog 0 (sub (bodyOf f117) [1, 1, 0, 1, 0, 0]) (Z7W a_0 b_1 i_l0) (Z3N a_0 b_1 (Z1o a_0 b_1 k i_l0)).1 (Z3N a_0 b_1 (Z1o a_0 b_1 k i_l0)).2 := by
 intro k
 induction k with
 | zero => intro i_l0 Z5t hk; exact absurd hk (Nat.not_lt_zero _)
 | succ k ih =>
  intro i_l0 Z5t hk
  have p {a C} (s : Scr a C) := sZ (cL (cI .i64)) a_0 <| s
  cases h_0 : (decide (i_l0 < (a_0.length : Int))) with
  | true =>
   have gh_0 := of_decide_eq_true h_0
   have y_0 : (0 : Int) ≤ i_l0 := by clear p; exact (by assumption)
   have y_1 : i_l0 < (a_0.length : Int) := by clear p; exact (by assumption)
   have y_2 : i_l0 < (b_1.length : Int) := by clear p; exact (by simp_all <;> omega)
   have y_3 : (a_0.getD i_l0.toNat default).length ≤ 1073741824 := by clear p; exact (by simp_all <;> omega)
   have y_4 : (b_1.getD i_l0.toNat default).length ≤ 1073741824 := by clear p; exact (by simp_all <;> omega)
   have q {a C} (s : Scr a C) := p (sB h_0 <| sK [8, 8] <| sG (cL (cI .i64)) a_0 i_l0 y_0 y_1 <| sG (cL (cI .i64)) b_1 i_l0 y_0 y_2 <| sF (Z6U (a_0.getD i_l0.toNat default) (b_1.getD i_l0.toNat default) y_3 y_4) <| s)
   clear p
   cases h_1 : (Z1W (a_0.getD i_l0.toNat default) (b_1.getD i_l0.toNat default)) with
   | true =>
    have y_5 : (-9223372036854775808 : Int) ≤ (i_l0 + 1) := by clear q; exact (by omega)
    have y_6 : (i_l0 + 1) ≤ (9223372036854775807 : Int) := by clear q; exact (by omega)
    have e : Z1o a_0 b_1 (k + 1) i_l0 = (Z1o a_0 b_1 k (i_l0 + 1)) := by simp only [Z1o, h_0, h_1, cond_true]
    rw [e]
    exact nextR E0Ok Z3 [] (mR false [0, 2, 3, 6, 16]) [] (ih (i_l0 + 1) (show 0 ≤ (i_l0 + 1) from (by omega)) (by omega)) (q (sB' h_1 <| sI (i_l0 + 1) y_5 y_6 <| sN)) (by kernel_rfl)
   | false =>
    have e : Z1o a_0 b_1 (k + 1) i_l0 = (.inl ()) := by simp only [Z1o, h_0, h_1, cond_true, cond_false]
    rw [e]
    exact outR (e := .ret) E0Ok Z3 [] (mR false [4, 1, 22]) [] (q (sB' h_1 <| sN)) (by kernel_rfl) (by intro h; cases h)
  | false =>
   have gh_0 := of_decide_eq_false h_0
   have e : Z1o a_0 b_1 (k + 1) i_l0 = (.inr ()) := by simp only [Z1o, h_0, cond_false]
   rw [e]
   exact outR (e := (.exit 0)) E0Ok Z3 [] (mR false [0, 2, 4, 5, 16]) [] (p (sB h_0 <| sN)) (by kernel_rfl) (by intro h; cases h)
def Z33 (a_0 : (List (List Int))) (b_1 : (List (List Int))) : (Unit) ⊕ (Unit) := (Z1o a_0 b_1 (((a_0.length : Int) - 0).toNat + 1) 0)
def Z2D (a_0 : (List (List Int))) (b_1 : (List (List Int))) : Bool := (cond ((a_0.length : Int) != (b_1.length : Int))
  false
  (match (Z33 a_0 b_1) with
    | .inl r2 => false
    | .inr r2 => true))
theorem Z97 (a_0 : (List (List Int))) (b_1 : (List (List Int))) (hp0 : a_0.length ≤ 1073741824) (hp1 : ∀ t ∈ a_0, t.length ≤ 1073741824) (hp2 : b_1.length ≤ 1073741824) (hp3 : ∀ t ∈ b_1, t.length ≤ 1073741824)  : Fn prog 117 [.sl (a_0.map (cL (cI .i64))), .sl (b_1.map (cL (cI .i64)))] (.b (Z2D a_0 b_1)) [] := by
 have p {a C} (s : Scr a C) := sZ (cL (cI .i64)) a_0 <| sZ (cL (cI .i64)) b_1 <| s
 cases h0 : ((a_0.length : Int) != (b_1.length : Int)) with
 | true =>
  have gh0 := bne_iff_ne.1 h0
  refine fnS E0Ok Z3 (c := bodyOf f117) [] (.b false) [] func117 (p (sB h0 <| sK [] sN)) rfl (by kernel_rfl) (by kernel_rfl) rfl ?_ ?_
  · simp only [Z2D, h0, cond_true]
  · rfl
 | false =>
  have gh0 := bne_eq_false_iff_eq.1 h0
  have q {a C} (s : Scr a C) := p (sB h0 <| s)
  clear p
  cases h1 : (Z33 a_0 b_1) with
  | inl r2 =>
   refine fnS E0Ok Z3 (c := bodyOf f117) [] (.b false) [] func117 (q (sL (mR false [0, 2, 3, 6, 16]) 0 (lp_val (Z3N a_0 b_1) (x := (Z33 a_0 b_1)) (Z6d a_0 b_1 hp0 hp1 hp2 hp3 h0 (((a_0.length : Int) - 0).toNat + 1) 0 (show 0 ≤ 0 from (by omega)) (Nat.lt_succ_self _)) h1) <| sK [] sN)) rfl (by kernel_rfl) (by kernel_rfl) rfl ?_ ?_
   · simp only [Z2D, h0, h1, cond_false]
   · rfl
  | inr r2 =>
   refine fnS E0Ok Z3 (c := bodyOf f117) [] (.b true) [] func117 (q (sL (mR false [0, 2, 3, 6, 16]) 0 (lp_val (Z3N a_0 b_1) (x := (Z33 a_0 b_1)) (Z6d a_0 b_1 hp0 hp1 hp2 hp3 h0 (((a_0.length : Int) - 0).toNat + 1) 0 (show 0 ≤ 0 from (by omega)) (Nat.lt_succ_self _)) h1) <| sK [] sN)) rfl (by kernel_rfl) (by kernel_rfl) rfl ?_ ?_
   · simp only [Z2D, h0, h1, cond_false]
   · rfl
theorem Z9D (a : List (List Int)) : Z2D a a = true := by
  unfold Z2D Z33
  rw [all_from (a := a) (p := fun v => Z1W v v) (lo := Z1o a a) (x := ()) (y := ()) (fun k i => rfl)]
  rw [show (a.all fun v => Z1W v v) = true from by rw [List.all_eq_true]; intro v _; exact Z7A v]
  simp
def Z3a (a_0 : GMesh) (b_1 : GMesh) : Bool := (cond (Z2C a_0.Places b_1.Places)
  (cond (Z2D a_0.Triangles b_1.Triangles)
    true
    false)
  false)
theorem Za9 (a_0 : GMesh) (b_1 : GMesh) (hp0 : a_0.Places.length ≤ 1073741824) (hp1 : a_0.Triangles.length ≤ 1073741824) (hp2 : ∀ t ∈ a_0.Triangles, t.length ≤ 1073741824) (hp3 : b_1.Places.length ≤ 1073741824) (hp4 : b_1.Triangles.length ≤ 1073741824) (hp5 : ∀ t ∈ b_1.Triangles, t.length ≤ 1073741824)  : Fn prog 59 [.agg [.sl (a_0.Places.map GVector.cells), .sl (a_0.Triangles.map (cL (cI .i64)))], .agg [.sl (b_1.Places.map GVector.cells), .sl (b_1.Triangles.map (cL (cI .i64)))]] (.b (Z3a a_0 b_1)) [] := by
 have p {a C} (s : Scr a C) := sF (Z96 a_0.Places b_1.Places hp0 hp3) <| s
 cases h0 : (Z2C a_0.Places b_1.Places) with
 | true =>
  have q {a C} (s : Scr a C) := p (sB' h0 <| sF (Z97 a_0.Triangles b_1.Triangles hp1 hp2 hp4 hp5) <| s)
  clear p
  cases h1 : (Z2D a_0.Triangles b_1.Triangles) with
  | true =>
   refine fnS E0Ok Z3 (c := bodyOf f59) [] (.b true) [] func59 (q (sB' h1 <| sK [] sN)) rfl (by kernel_rfl) (by kernel_rfl) rfl ?_ ?_
   · simp only [Z3a, h0, h1, cond_true]
   · rfl
  | false =>
   refine fnS E0Ok Z3 (c := bodyOf f59) [] (.b false) [] func59 (q (sB' h1 <| sK [] sN)) rfl (by kernel_rfl) (by kernel_rfl) rfl ?_ ?_
   · simp only [Z3a, h0, h1, cond_true, cond_false]
   · rfl
 | false =>
  refine fnS E0Ok Z3 (c := bodyOf f59) [] (.b false) [] func59 (p (sB' h0 <| sK [] sN)) rfl (by kernel_rfl) (by kernel_rfl) rfl ?_ ?_
  · simp only [Z3a, h0, cond_false]
  · rfl
theorem Zay (a : GMesh) : Z3a a a = true := by
  simp [Z3a, Z9C, Z9D]
def Z1X (a_0 : GSpring) (b_1 : GSpring) : Bool := (cond (a_0.A != b_1.A)
  false
  (cond (a_0.B != b_1.B)
    false
    (cond (Zk (fcv .f32 .f64 a_0.Long) (fcv .f32 .f64 b_1.Long))
      (cond (Zk (fcv .f32 .f64 a_0.Stiff) (fcv .f32 .f64 b_1.Stiff))
        true
        false)
      false)))
theorem Z9o (a_0 : GSpring) (b_1 : GSpring)   : Fn prog 118 [.agg [.i .i64 a_0.A, .i .i64 a_0.B, .f .f32 a_0.Long, .f .f32 a_0.Stiff], .agg [.i .i64 b_1.A, .i .i64 b_1.B, .f .f32 b_1.Long, .f .f32 b_1.Stiff]] (.b (Z1X a_0 b_1)) [] := by
 cases h0 : (a_0.A != b_1.A) with
 | true =>
  have gh0 := bne_iff_ne.1 h0
  refine fnS E0Ok Z3 (c := bodyOf f118) [] (.b false) [] func118 (sB h0 <| sK [] sN) rfl (by kernel_rfl) (by kernel_rfl) rfl ?_ ?_
  · simp only [Z1X, h0, cond_true]
  · rfl
 | false =>
  have gh0 := bne_eq_false_iff_eq.1 h0
  have p {a C} (s : Scr a C) := sB h0 <| s
  cases h1 : (a_0.B != b_1.B) with
  | true =>
   have gh1 := bne_iff_ne.1 h1
   refine fnS E0Ok Z3 (c := bodyOf f118) [] (.b false) [] func118 (p (sB h1 <| sK [] sN)) rfl (by kernel_rfl) (by kernel_rfl) rfl ?_ ?_
   · simp only [Z1X, h0, h1, cond_true, cond_false]
   · rfl
  | false =>
   have gh1 := bne_eq_false_iff_eq.1 h1
   have q {a C} (s : Scr a C) := p (sB h1 <| sC (widenOk a_0.Long) <| sC (widenOk b_1.Long) <| sF (Z2w (fcv .f32 .f64 a_0.Long) (fcv .f32 .f64 b_1.Long)) <| s)
   clear p
   cases h2 : (Zk (fcv .f32 .f64 a_0.Long) (fcv .f32 .f64 b_1.Long)) with
   | true =>
    have p {a C} (s : Scr a C) := q (sB' h2 <| sC (widenOk a_0.Stiff) <| sC (widenOk b_1.Stiff) <| sF (Z2w (fcv .f32 .f64 a_0.Stiff) (fcv .f32 .f64 b_1.Stiff)) <| s)
    clear q
    cases h3 : (Zk (fcv .f32 .f64 a_0.Stiff) (fcv .f32 .f64 b_1.Stiff)) with
    | true =>
     refine fnS E0Ok Z3 (c := bodyOf f118) [] (.b true) [] func118 (p (sB' h3 <| sK [] sN)) rfl (by kernel_rfl) (by kernel_rfl) rfl ?_ ?_
     · simp only [Z1X, h0, h1, h2, h3, cond_true, cond_false]
     · rfl
    | false =>
     refine fnS E0Ok Z3 (c := bodyOf f118) [] (.b false) [] func118 (p (sB' h3 <| sK [] sN)) rfl (by kernel_rfl) (by kernel_rfl) rfl ?_ ?_
     · simp only [Z1X, h0, h1, h2, h3, cond_true, cond_false]
     · rfl
   | false =>
    refine fnS E0Ok Z3 (c := bodyOf f118) [] (.b false) [] func118 (q (sB' h2 <| sK [] sN)) rfl (by kernel_rfl) (by kernel_rfl) rfl ?_ ?_
    · simp only [Z1X, h0, h1, h2, cond_false]
    · rfl
theorem Zaa (a : GSpring) : Z1X a a = true := by
  simp [Z1X, Z6t]
def Z1p (a_0 : (List GSpring)) (b_1 : (List GSpring)) : Nat → Int → (Unit) ⊕ (Unit)
  | 0, _ => .inl default
  | k + 1, i_l0 => (cond (decide (i_l0 < (a_0.length : Int)))
    (cond (Z1X (a_0.getD i_l0.toNat default) (b_1.getD i_l0.toNat default))
      (Z1p a_0 b_1 k (i_l0 + 1))
      (.inl ()))
    (.inr ()))
def Z3O (a_0 : (List GSpring)) (b_1 : (List GSpring)) : (Unit) ⊕ (Unit) → Ex × St
  | .inl r => (.ret, ⟨an 4 (.b false :: an 22 []), []⟩)
  | .inr r => ((.exit 0), ⟨.sl (a_0.map GSpring.cells) :: .sl (b_1.map GSpring.cells) :: an 4 (.sl (a_0.map GSpring.cells) :: .i .i64 (a_0.length : Int) :: .sl (b_1.map GSpring.cells) :: .i .i64 (b_1.length : Int) :: .b ((a_0.length : Int) != (b_1.length : Int)) :: an 16 []), []⟩)
def Z7X (a_0 : (List GSpring)) (b_1 : (List GSpring)) (i_l0 : Int) : St := ⟨.sl (a_0.map GSpring.cells) :: .sl (b_1.map GSpring.cells) :: .any :: .any :: .any :: .i .i64 i_l0 :: .sl (a_0.map GSpring.cells) :: .i .i64 (a_0.length : Int) :: .sl (b_1.map GSpring.cells) :: .i .i64 (b_1.length : Int) :: .b ((a_0.length : Int) != (b_1.length : Int)) :: an 16 [], []⟩
theorem Z6e (a_0 : (List GSpring)) (b_1 : (List GSpring)) (hp0 : a_0.length ≤ 1073741824) (hp1 : b_1.length ≤ 1073741824) (ZaQ : ((a_0.length : Int) != (b_1.length : Int)) = false) : ∀ (k : Nat) (i_l0 : Int) (Z5u : 0 ≤ i_l0) (hk : ((a_0.length : Int) - i_l0).toNat < k), Lp prog 0 (sub (bodyOf f60) [1, 1, 0, 1, 0, 0]) (Z7X a_0 b_1 i_l0) (Z3O a_0 b_1 (Z1p a_0 b_1 k i_l0)).1 (Z3O a_0 b_1 (Z1p a_0 b_1 k i_l0)).2 := by
 intro k
 induction k with
 | zero => intro i_l0 Z5u hk; exact absurd hk (Nat.not_lt_zero _)
 | succ k ih =>
  intro i_l0 Z5u hk
  have p {a C} (s : Scr a C) := sZ GSpring.cells a_0 <| s
  cases h_0 : (decide (i_l0 < (a_0.length : Int))) with
  | true =>
   have gh_0 := of_decide_eq_true h_0
   have y_0 : (0 : Int) ≤ i_l0 := by clear p; exact (by assumption)
   have y_1 : i_l0 < (a_0.length : Int) := by clear p; exact (by assumption)
   have y_2 : i_l0 < (b_1.length : Int) := by clear p; exact (by simp_all <;> omega)
   have q {a C} (s : Scr a C) := p (sB h_0 <| sK [8, 8] <| sG GSpring.cells a_0 i_l0 y_0 y_1 <| sG GSpring.cells b_1 i_l0 y_0 y_2 <| sF (Z9o (a_0.getD i_l0.toNat default) (b_1.getD i_l0.toNat default)) <| s)
   clear p
   cases h_1 : (Z1X (a_0.getD i_l0.toNat default) (b_1.getD i_l0.toNat default)) with
   | true =>
    have y_3 : (-9223372036854775808 : Int) ≤ (i_l0 + 1) := by clear q; exact (by omega)
    have y_4 : (i_l0 + 1) ≤ (9223372036854775807 : Int) := by clear q; exact (by omega)
    have e : Z1p a_0 b_1 (k + 1) i_l0 = (Z1p a_0 b_1 k (i_l0 + 1)) := by simp only [Z1p, h_0, h_1, cond_true]
    rw [e]
    exact nextR E0Ok Z3 [] (mR false [0, 2, 3, 6, 16]) [] (ih (i_l0 + 1) (show 0 ≤ (i_l0 + 1) from (by omega)) (by omega)) (q (sB' h_1 <| sI (i_l0 + 1) y_3 y_4 <| sN)) (by kernel_rfl)
   | false =>
    have e : Z1p a_0 b_1 (k + 1) i_l0 = (.inl ()) := by simp only [Z1p, h_0, h_1, cond_true, cond_false]
    rw [e]
    exact outR (e := .ret) E0Ok Z3 [] (mR false [4, 1, 22]) [] (q (sB' h_1 <| sN)) (by kernel_rfl) (by intro h; cases h)
  | false =>
   have gh_0 := of_decide_eq_false h_0
   have e : Z1p a_0 b_1 (k + 1) i_l0 = (.inr ()) := by simp only [Z1p, h_0, cond_false]
   rw [e]
   exact outR (e := (.exit 0)) E0Ok Z3 [] (mR false [0, 2, 4, 5, 16]) [] (p (sB h_0 <| sN)) (by kernel_rfl) (by intro h; cases h)
def Z34 (a_0 : (List GSpring)) (b_1 : (List GSpring)) : (Unit) ⊕ (Unit) := (Z1p a_0 b_1 (((a_0.length : Int) - 0).toNat + 1) 0)
def Z2E (a_0 : (List GSpring)) (b_1 : (List GSpring)) : Bool := (cond ((a_0.length : Int) != (b_1.length : Int))
  false
  (match (Z34 a_0 b_1) with
    | .inl r2 => false
    | .inr r2 => true))
theorem Z98 (a_0 : (List GSpring)) (b_1 : (List GSpring)) (hp0 : a_0.length ≤ 1073741824) (hp1 : b_1.length ≤ 1073741824)  : Fn prog 60 [.sl (a_0.map GSpring.cells), .sl (b_1.map GSpring.cells)] (.b (Z2E a_0 b_1)) [] := by
 have p {a C} (s : Scr a C) := sZ GSpring.cells a_0 <| sZ GSpring.cells b_1 <| s
 cases h0 : ((a_0.length : Int) != (b_1.length : Int)) with
 | true =>
  have gh0 := bne_iff_ne.1 h0
  refine fnS E0Ok Z3 (c := bodyOf f60) [] (.b false) [] func60 (p (sB h0 <| sK [] sN)) rfl (by kernel_rfl) (by kernel_rfl) rfl ?_ ?_
  · simp only [Z2E, h0, cond_true]
  · rfl
 | false =>
  have gh0 := bne_eq_false_iff_eq.1 h0
  have q {a C} (s : Scr a C) := p (sB h0 <| s)
  clear p
  cases h1 : (Z34 a_0 b_1) with
  | inl r2 =>
   refine fnS E0Ok Z3 (c := bodyOf f60) [] (.b false) [] func60 (q (sL (mR false [0, 2, 3, 6, 16]) 0 (lp_val (Z3O a_0 b_1) (x := (Z34 a_0 b_1)) (Z6e a_0 b_1 hp0 hp1 h0 (((a_0.length : Int) - 0).toNat + 1) 0 (show 0 ≤ 0 from (by omega)) (Nat.lt_succ_self _)) h1) <| sK [] sN)) rfl (by kernel_rfl) (by kernel_rfl) rfl ?_ ?_
   · simp only [Z2E, h0, h1, cond_false]
   · rfl
  | inr r2 =>
   refine fnS E0Ok Z3 (c := bodyOf f60) [] (.b true) [] func60 (q (sL (mR false [0, 2, 3, 6, 16]) 0 (lp_val (Z3O a_0 b_1) (x := (Z34 a_0 b_1)) (Z6e a_0 b_1 hp0 hp1 h0 (((a_0.length : Int) - 0).toNat + 1) 0 (show 0 ≤ 0 from (by omega)) (Nat.lt_succ_self _)) h1) <| sK [] sN)) rfl (by kernel_rfl) (by kernel_rfl) rfl ?_ ?_
   · simp only [Z2E, h0, h1, cond_false]
   · rfl
theorem Z9E (a : List GSpring) : Z2E a a = true := by
  unfold Z2E Z34
  rw [all_from (a := a) (p := fun v => Z1X v v) (lo := Z1p a a) (x := ()) (y := ()) (fun k i => rfl)]
  rw [show (a.all fun v => Z1X v v) = true from by rw [List.all_eq_true]; intro v _; exact Zaa v]
  simp
def Z1c (a_0 : (List Nat)) (b_1 : (List Nat)) : Nat → Int → (Unit) ⊕ (Unit)
  | 0, _ => .inl default
  | k + 1, i_l0 => (cond (decide (i_l0 < (a_0.length : Int)))
    (cond (Zk (fcv .f32 .f64 (a_0.getD i_l0.toNat default)) (fcv .f32 .f64 (b_1.getD i_l0.toNat default)))
      (Z1c a_0 b_1 k (i_l0 + 1))
      (.inl ()))
    (.inr ()))
def Z3C (a_0 : (List Nat)) (b_1 : (List Nat)) : (Unit) ⊕ (Unit) → Ex × St
  | .inl r => (.ret, ⟨an 4 (.b false :: an 24 []), []⟩)
  | .inr r => ((.exit 0), ⟨.sl (a_0.map (cF .f32)) :: .sl (b_1.map (cF .f32)) :: an 4 (.sl (a_0.map (cF .f32)) :: .i .i64 (a_0.length : Int) :: .sl (b_1.map (cF .f32)) :: .i .i64 (b_1.length : Int) :: .b ((a_0.length : Int) != (b_1.length : Int)) :: an 18 []), []⟩)
def Z7w (a_0 : (List Nat)) (b_1 : (List Nat)) (i_l0 : Int) : St := ⟨.sl (a_0.map (cF .f32)) :: .sl (b_1.map (cF .f32)) :: .any :: .any :: .any :: .i .i64 i_l0 :: .sl (a_0.map (cF .f32)) :: .i .i64 (a_0.length : Int) :: .sl (b_1.map (cF .f32)) :: .i .i64 (b_1.length : Int) :: .b ((a_0.length : Int) != (b_1.length : Int)) :: an 18 [], []⟩
theorem Z5W (a_0 : (List Nat)) (b_1 : (List Nat)) (hp0 : a_0.length ≤ 1073741824) (hp1 : b_1.length ≤ 1073741824) (Zaz : ((a_0.length : Int) != (b_1.length : Int)) = false) : ∀ (k : Nat) (i_l0 : Int) (Z4Z : 0 ≤ i_l0) (hk : ((a_0.length : Int) - i_l0).toNat < k), Lp prog 0 (sub (bodyOf f40) [1, 1, 0, 1, 0, 0]) (Z7w a_0 b_1 i_l0) (Z3C a_0 b_1 (Z1c a_0 b_1 k i_l0)).1 (Z3C a_0 b_1 (Z1c a_0 b_1 k i_l0)).2 := by
 intro k
 induction k with
 | zero => intro i_l0 Z4Z hk; exact absurd hk (Nat.not_lt_zero _)
 | succ k ih =>
  intro i_l0 Z4Z hk
  have p {a C} (s : Scr a C) := sZ (cF .f32) a_0 <| s
  cases h_0 : (decide (i_l0 < (a_0.length : Int))) with
  | true =>
   have gh_0 := of_decide_eq_true h_0
   have y_0 : (0 : Int) ≤ i_l0 := by clear p; exact (by assumption)
   have y_1 : i_l0 < (a_0.length : Int) := by clear p; exact (by assumption)
   have y_2 : i_l0 < (b_1.length : Int) := by clear p; exact (by simp_all <;> omega)
   have q {a C} (s : Scr a C) := p (sB h_0 <| sK [10, 10] <| sG (cF .f32) a_0 i_l0 y_0 y_1 <| sC (widenOk (a_0.getD i_l0.toNat default)) <| sG (cF .f32) b_1 i_l0 y_0 y_2 <| sC (widenOk (b_1.getD i_l0.toNat default)) <| sF (Z2w (fcv .f32 .f64 (a_0.getD i_l0.toNat default)) (fcv .f32 .f64 (b_1.getD i_l0.toNat default))) <| s)
   clear p
   cases h_1 : (Zk (fcv .f32 .f64 (a_0.getD i_l0.toNat default)) (fcv .f32 .f64 (b_1.getD i_l0.toNat default))) with
   | true =>
    have y_3 : (-9223372036854775808 : Int) ≤ (i_l0 + 1) := by clear q; exact (by omega)
    have y_4 : (i_l0 + 1) ≤ (9223372036854775807 : Int) := by clear q; exact (by omega)
    have e : Z1c a_0 b_1 (k + 1) i_l0 = (Z1c a_0 b_1 k (i_l0 + 1)) := by simp only [Z1c, h_0, h_1, cond_true]
    rw [e]
    exact nextR E0Ok Z3 [] (mR false [0, 2, 3, 6, 18]) [] (ih (i_l0 + 1) (show 0 ≤ (i_l0 + 1) from (by omega)) (by omega)) (q (sB' h_1 <| sI (i_l0 + 1) y_3 y_4 <| sN)) (by kernel_rfl)
   | false =>
    have e : Z1c a_0 b_1 (k + 1) i_l0 = (.inl ()) := by simp only [Z1c, h_0, h_1, cond_true, cond_false]
    rw [e]
    exact outR (e := .ret) E0Ok Z3 [] (mR false [4, 1, 24]) [] (q (sB' h_1 <| sN)) (by kernel_rfl) (by intro h; cases h)
  | false =>
   have gh_0 := of_decide_eq_false h_0
   have e : Z1c a_0 b_1 (k + 1) i_l0 = (.inr ()) := by simp only [Z1c, h_0, cond_false]
   rw [e]
   exact outR (e := (.exit 0)) E0Ok Z3 [] (mR false [0, 2, 4, 5, 18]) [] (p (sB h_0 <| sN)) (by kernel_rfl) (by intro h; cases h)
end Go.Ab
