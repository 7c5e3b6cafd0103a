/- The functions of this seat as plain Lean, and that the program's are these. Printed by a program of the prover's own. -/
import Derived.Test.YtpndflbllggeiaaGreatB6
set_option linter.unusedVariables false
set_option linter.unusedSimpArgs false
set_option maxRecDepth 100000
namespace Go.Ab
open Go.RowKit Go.Proofs.Tryz
theorem Z8x (arr_0 : GBody) : ∀ (k : Nat) (x_l0 : Int) (r2_l1 : (List GVector)) (hk : ((arr_0.Mesh.Triangles.length : Int) - x_l0).toNat < k), (Zn arr_0 k x_l0 r2_l1).length = r2_l1.length := by
  intro k
  induction k with
  | zero => intro x_l0 r2_l1 hk; exact absurd hk (Nat.not_lt_zero _)
  | succ k ih =>
    intro x_l0 r2_l1 hk
    cases h_0 : (decide (x_l0 < (arr_0.Mesh.Triangles.length : Int))) with
    | true =>
      cases h_1 : (fcmp .gtr .f32 (Zk (Z7 arr_0.Mesh (arr_0.Mesh.Triangles.getD x_l0.toNat default))) 0) with
      | true =>
        have e : Zn arr_0 (k + 1) x_l0 r2_l1 = (Zn arr_0 k (x_l0 + 1) (Z25 arr_0 x_l0 r2_l1)) := by simp only [Zn, h_0, h_1, cond_true]
        rw [e, ih (x_l0 + 1) (Z25 arr_0 x_l0 r2_l1) (by simp_all <;> omega)]; simp
      | false =>
        have e : Zn arr_0 (k + 1) x_l0 r2_l1 = (Zn arr_0 k (x_l0 + 1) (Z26 arr_0 x_l0 r2_l1)) := by simp only [Zn, h_0, h_1, cond_true, cond_false]
        rw [e, ih (x_l0 + 1) (Z26 arr_0 x_l0 r2_l1) (by simp_all <;> omega)]; simp
    | false =>
      have e : Zn arr_0 (k + 1) x_l0 r2_l1 = r2_l1 := by simp only [Zn, h_0, cond_false]
      first | (rw [e]; done) | (rw [e]; rfl)
def Z2u (arr_0 : GBody) : (List GVector) := (Zn arr_0 (((arr_0.Mesh.Triangles.length : Int) - 0).toNat + 1) 0 (Z2t arr_0))
@[simp] theorem Zbh (arr_0 : GBody) : (Z2u arr_0).length = ((Z2t arr_0) : (List GVector)).length := Z8x arr_0 (((arr_0.Mesh.Triangles.length : Int) - 0).toNat + 1) 0 (Z2t arr_0) (by exact Nat.lt_succ_self _)
def Z2v (arr_0 : GBody) (x_l0 : Int) (r2_l1 : (List GVector)) : (List GVector) := (Zl (((Z5 arr_0.Mesh).getD x_l0.toNat default).getD 0 default) (Zm arr_0.Mesh ((Z5 arr_0.Mesh).getD x_l0.toNat default)) arr_0.Bend r2_l1)
@[simp] theorem Z2Q (arr_0 : GBody) (x_l0 : Int) (r2_l1 : (List GVector)) : (Z2v arr_0 x_l0 r2_l1).length = r2_l1.length := by unfold Z2v; simp
def Z2h (arr_0 : GBody) (x_l0 : Int) (r2_l1 : (List GVector)) : (List GVector) := (Zl (((Z5 arr_0.Mesh).getD x_l0.toNat default).getD 1 default) (Zm arr_0.Mesh ((Z5 arr_0.Mesh).getD x_l0.toNat default)) arr_0.Bend (Z2v arr_0 x_l0 r2_l1))
@[simp] theorem Z2N (arr_0 : GBody) (x_l0 : Int) (r2_l1 : (List GVector)) : (Z2h arr_0 x_l0 r2_l1).length = (Z2v arr_0 x_l0 r2_l1).length := by unfold Z2h; simp
def Z2i (arr_0 : GBody) (x_l0 : Int) (r2_l1 : (List GVector)) : (List GVector) := (Zl (((Z5 arr_0.Mesh).getD x_l0.toNat default).getD 2 default) (Zm arr_0.Mesh ((Z5 arr_0.Mesh).getD x_l0.toNat default)) (fneg .f32 arr_0.Bend) (Z2h arr_0 x_l0 r2_l1))
@[simp] theorem Z2O (arr_0 : GBody) (x_l0 : Int) (r2_l1 : (List GVector)) : (Z2i arr_0 x_l0 r2_l1).length = (Z2h arr_0 x_l0 r2_l1).length := by unfold Z2i; simp
def Z2j (arr_0 : GBody) (x_l0 : Int) (r2_l1 : (List GVector)) : (List GVector) := (Zl (((Z5 arr_0.Mesh).getD x_l0.toNat default).getD 3 default) (Zm arr_0.Mesh ((Z5 arr_0.Mesh).getD x_l0.toNat default)) (fneg .f32 arr_0.Bend) (Z2i arr_0 x_l0 r2_l1))
@[simp] theorem ZbC (arr_0 : GBody) (x_l0 : Int) (r2_l1 : (List GVector)) : (Z2j arr_0 x_l0 r2_l1).length = (Z2i arr_0 x_l0 r2_l1).length := by unfold Z2j; simp
def ZL (arr_0 : GBody) : Nat → Int → (List GVector) → (List GVector)
  | 0, _, _ => default
  | k + 1, x_l0, r2_l1 => (cond (decide (x_l0 < ((Z5 arr_0.Mesh).length : Int)))
    (ZL arr_0 k (x_l0 + 1) (Z2j arr_0 x_l0 r2_l1))
    r2_l1)
def Z5l (arr_0 : GBody) (r : (List GVector)) : Ex × St := ((.exit 6), ⟨.agg [.sl (arr_0.Mesh.Places.map GVector.cells), .sl (arr_0.Mesh.Triangles.map (cL (cI .i64))), .sl (arr_0.Springs.map GSpring.cells), .f .f32 arr_0.Film, .f .f32 arr_0.Bend, .sl (arr_0.Weights.map (cF .f32)), .f .f32 arr_0.Fall.X, .f .f32 arr_0.Fall.Y, .f .f32 arr_0.Fall.Z] :: .ptr 0 0 0 :: .nils :: .ptr 1 0 0 :: .fn 106 [.ptr 1 0 0] :: an 18 (.ptr 0 0 0 :: .ptr 0 0 0 :: .sl (arr_0.Mesh.Places.map GVector.cells) :: .i .i64 (arr_0.Mesh.Places.length : Int) :: .own 2 :: .fn 106 [.ptr 1 0 0] :: .ptr 0 0 2 :: .sl (arr_0.Springs.map GSpring.cells) :: an 25 (.ptr 0 0 0 :: .ptr 0 0 0 :: .sl (arr_0.Mesh.Places.map GVector.cells) :: .ptr 0 0 0 :: .ptr 0 0 1 :: .sl (arr_0.Mesh.Triangles.map (cL (cI .i64))) :: an 54 (.ptr 0 0 0 :: .agg [.sl (arr_0.Mesh.Places.map GVector.cells), .sl (arr_0.Mesh.Triangles.map (cL (cI .i64)))] :: .own 3 :: an 60 []))), [.box 42 [.sl (arr_0.Mesh.Places.map GVector.cells), .sl (arr_0.Mesh.Triangles.map (cL (cI .i64))), .sl (arr_0.Springs.map GSpring.cells), .f .f32 arr_0.Film, .f .f32 arr_0.Bend, .sl (arr_0.Weights.map (cF .f32)), .f .f32 arr_0.Fall.X, .f .f32 arr_0.Fall.Y, .f .f32 arr_0.Fall.Z], .box 34 [.own 2], .vec 40 3 (r.map GVector.cells) false, .nest 49 ((Z5 arr_0.Mesh).map fun l => l.map (cI .i64)) false]⟩)
def Z9s (arr_0 : GBody) (x_l0 : Int) (r2_l1 : (List GVector)) : St := ⟨.agg [.sl (arr_0.Mesh.Places.map GVector.cells), .sl (arr_0.Mesh.Triangles.map (cL (cI .i64))), .sl (arr_0.Springs.map GSpring.cells), .f .f32 arr_0.Film, .f .f32 arr_0.Bend, .sl (arr_0.Weights.map (cF .f32)), .f .f32 arr_0.Fall.X, .f .f32 arr_0.Fall.Y, .f .f32 arr_0.Fall.Z] :: .ptr 0 0 0 :: .nils :: .ptr 1 0 0 :: .fn 106 [.ptr 1 0 0] :: an 18 (.ptr 0 0 0 :: .ptr 0 0 0 :: .sl (arr_0.Mesh.Places.map GVector.cells) :: .i .i64 (arr_0.Mesh.Places.length : Int) :: .own 2 :: .fn 106 [.ptr 1 0 0] :: .ptr 0 0 2 :: .sl (arr_0.Springs.map GSpring.cells) :: an 25 (.ptr 0 0 0 :: .ptr 0 0 0 :: .sl (arr_0.Mesh.Places.map GVector.cells) :: .ptr 0 0 0 :: .ptr 0 0 1 :: .sl (arr_0.Mesh.Triangles.map (cL (cI .i64))) :: an 54 (.ptr 0 0 0 :: .agg [.sl (arr_0.Mesh.Places.map GVector.cells), .sl (arr_0.Mesh.Triangles.map (cL (cI .i64)))] :: .own 3 :: .i .i64 ((Z5 arr_0.Mesh).length : Int) :: .i .i64 x_l0 :: an 58 []))), [.box 42 [.sl (arr_0.Mesh.Places.map GVector.cells), .sl (arr_0.Mesh.Triangles.map (cL (cI .i64))), .sl (arr_0.Springs.map GSpring.cells), .f .f32 arr_0.Film, .f .f32 arr_0.Bend, .sl (arr_0.Weights.map (cF .f32)), .f .f32 arr_0.Fall.X, .f .f32 arr_0.Fall.Y, .f .f32 arr_0.Fall.Z], .box 34 [.own 2], .vec 40 3 (r2_l1.map GVector.cells) false, .nest 49 ((Z5 arr_0.Mesh).map fun l => l.map (cI .i64)) false]⟩
def Z6t : List Bool := (mR false [0, 5, 18, 8, 25, 6, 54, 5, 58])
def Z8y : List Bool := (mR false [0, 5, 18, 8, 25, 6, 54, 3, 60])
set_option maxHeartbeats 1000000 in
theorem Z9t (arr_0 : GBody) (hp0 : arr_0.Mesh.Places.length ≤ 1073741824) (hp1 : arr_0.Mesh.Triangles.length ≤ 1073741824) (hp2 : ∀ t ∈ arr_0.Mesh.Triangles, t.length ≤ 1073741824) (hp3 : arr_0.Springs.length ≤ 1073741824) (hp4 : arr_0.Weights.length ≤ 1073741824) (hp5 : OkBd arr_0) : ∀ (k : Nat) (x_l0 : Int) (r2_l1 : (List GVector)) (Z6u : 0 ≤ x_l0) (Z6v : r2_l1.length = arr_0.Mesh.Places.length) (hk : (((Z5 arr_0.Mesh).length : Int) - x_l0).toNat < k), Lp prog 0 (sub (bodyOf f57) [1, 1, 1, 1, 1, 1, 0, 1, 0, 0]) (Z9s arr_0 x_l0 r2_l1) (Z5l arr_0 (ZL arr_0 k x_l0 r2_l1)).1 (Z5l arr_0 (ZL arr_0 k x_l0 r2_l1)).2 := by
 intro k
 induction k with
 | zero => intro x_l0 r2_l1 Z6u Z6v hk; exact absurd hk (Nat.not_lt_zero _)
 | succ k ih =>
  intro x_l0 r2_l1 Z6u Z6v hk
  cases h_0 : (decide (x_l0 < ((Z5 arr_0.Mesh).length : Int))) with
  | true =>
   have gh_0 := of_decide_eq_true h_0
   have y_0 : (0 : Int) ≤ x_l0 := (by assumption)
   have y_1 : Int.toNat x_l0 < (Z5 arr_0.Mesh).length := (by omega)
   have y_2 : x_l0.toNat < (Z5 arr_0.Mesh).length := (by assumption)
   have y_3 : ((Z5 arr_0.Mesh).getD x_l0.toNat default).length ≤ 1073741824 := (by exact ZcH hp5.e (by assumption) h_0)
   have y_4 : ((Z5 arr_0.Mesh).getD x_l0.toNat default).length = 4 ∧ ∀ x ∈ ((Z5 arr_0.Mesh).getD x_l0.toNat default), 0 ≤ x ∧ x < (arr_0.Mesh.Places.length : Int) := (by exact Z5o hp5.e (by assumption) h_0)
   have y_5 : (0 : Int) ≤ 0 := (by omega)
   have y_6 : 0 < (((Z5 arr_0.Mesh).getD x_l0.toNat default).length : Int) := (by omega)
   have y_7 : 0 < ((Z5 arr_0.Mesh).getD x_l0.toNat default).length := (by omega)
   have y_8 : r2_l1.length ≤ 1073741824 := (by omega)
   have y_9 : 0 ≤ (((Z5 arr_0.Mesh).getD x_l0.toNat default).getD 0 default) := (by (have q := Okh.at (Z5o hp5.e (by assumption) h_0); omega))
   have y_10 : (((Z5 arr_0.Mesh).getD x_l0.toNat default).getD 0 default) < (r2_l1.length : Int) := (by (have q := Okh.at (Z5o hp5.e (by assumption) h_0); omega))
   have y_11 : (0 : Int) ≤ 1 := (by omega)
   have y_12 : 1 < (((Z5 arr_0.Mesh).getD x_l0.toNat default).length : Int) := (by omega)
   have y_13 : 1 < ((Z5 arr_0.Mesh).getD x_l0.toNat default).length := (by omega)
   have y_14 : (Z2v arr_0 x_l0 r2_l1).length ≤ 1073741824 := (by (have q := Okh.at (Z5o hp5.e (by assumption) h_0); (simp only [Z2Q, Z2N, Z2O]; omega)))
   have y_15 : 0 ≤ (((Z5 arr_0.Mesh).getD x_l0.toNat default).getD 1 default) := (by (have q := Okh.at (Z5o hp5.e (by assumption) h_0); omega))
   have y_16 : (((Z5 arr_0.Mesh).getD x_l0.toNat default).getD 1 default) < ((Z2v arr_0 x_l0 r2_l1).length : Int) := (by (have q := Okh.at (Z5o hp5.e (by assumption) h_0); (simp only [Z2Q, Z2N, Z2O]; omega)))
   have y_17 : (0 : Int) ≤ 2 := (by omega)
   have y_18 : 2 < (((Z5 arr_0.Mesh).getD x_l0.toNat default).length : Int) := (by omega)
   have y_19 : 2 < ((Z5 arr_0.Mesh).getD x_l0.toNat default).length := (by omega)
   have y_20 : (Z2h arr_0 x_l0 r2_l1).length ≤ 1073741824 := (by (have q := Okh.at (Z5o hp5.e (by assumption) h_0); (simp only [Z2Q, Z2N, Z2O]; omega)))
   have y_21 : 0 ≤ (((Z5 arr_0.Mesh).getD x_l0.toNat default).getD 2 default) := (by (have q := Okh.at (Z5o hp5.e (by assumption) h_0); omega))
   have y_22 : (((Z5 arr_0.Mesh).getD x_l0.toNat default).getD 2 default) < ((Z2h arr_0 x_l0 r2_l1).length : Int) := (by (have q := Okh.at (Z5o hp5.e (by assumption) h_0); (simp only [Z2Q, Z2N, Z2O]; omega)))
   have y_23 : (0 : Int) ≤ 3 := (by omega)
   have y_24 : 3 < (((Z5 arr_0.Mesh).getD x_l0.toNat default).length : Int) := (by omega)
   have y_25 : 3 < ((Z5 arr_0.Mesh).getD x_l0.toNat default).length := (by omega)
   have y_26 : (Z2i arr_0 x_l0 r2_l1).length ≤ 1073741824 := (by (have q := Okh.at (Z5o hp5.e (by assumption) h_0); (simp only [Z2Q, Z2N, Z2O]; omega)))
   have y_27 : 0 ≤ (((Z5 arr_0.Mesh).getD x_l0.toNat default).getD 3 default) := (by (have q := Okh.at (Z5o hp5.e (by assumption) h_0); omega))
   have y_28 : (((Z5 arr_0.Mesh).getD x_l0.toNat default).getD 3 default) < ((Z2i arr_0 x_l0 r2_l1).length : Int) := (by (have q := Okh.at (Z5o hp5.e (by assumption) h_0); (simp only [Z2Q, Z2N, Z2O]; omega)))
   have y_29 : (-9223372036854775808 : Int) ≤ (x_l0 + 1) := (by omega)
   have y_30 : (x_l0 + 1) ≤ (9223372036854775807 : Int) := (by have q := Z9N _ hp5.e; omega)
   have e : ZL arr_0 (k + 1) x_l0 r2_l1 = (ZL arr_0 k (x_l0 + 1) (Z2j arr_0 x_l0 r2_l1)) := by simp only [ZL, h_0, cond_true]
   rw [e]
   exact nextR E0Ok Z3 [] Z6t [0, 1, 2, 3] (ih (x_l0 + 1) (Z2j arr_0 x_l0 r2_l1) (show 0 ≤ (x_l0 + 1) from (by omega)) (show (Z2j arr_0 x_l0 r2_l1).length = arr_0.Mesh.Places.length from (by simp_all <;> omega)) (by omega)) (sB h_0 <| sC (nestix (c := (cI .i64)) (l := (Z5 arr_0.Mesh)) (i := x_l0) y_0 y_1) <| sC (nestlt (c := (cI .i64)) (l := (Z5 arr_0.Mesh)) y_2) <| sF (Fn.castA (args' := [.agg [.sl (arr_0.Mesh.Places.map GVector.cells), .sl (arr_0.Mesh.Triangles.map (cL (cI .i64)))], .sl (((Z5 arr_0.Mesh).map fun l => l.map (cI .i64)).getD x_l0.toNat [])]) (Zbd arr_0.Mesh ((Z5 arr_0.Mesh).getD x_l0.toNat default) hp0 hp1 hp2 y_3 y_4) (by simp [cI]; done)) <| sK [7, 7] <| sC (iidx_ok (c := (cI .i64)) (l := (Z5 arr_0.Mesh)) (j := x_l0.toNat) (i := 0) y_5 y_6) <| sE (iget_ok (c := (cI .i64)) (l := (Z5 arr_0.Mesh)) (j := x_l0.toNat) (k := 0) y_7) <| sS (CallSt.frame (Z1v (((Z5 arr_0.Mesh).getD x_l0.toNat default).getD 0 default) (Zm arr_0.Mesh ((Z5 arr_0.Mesh).getD x_l0.toNat default)) arr_0.Bend r2_l1 y_8 y_9 y_10) [1, 2] (R := [.box 42 [.sl (arr_0.Mesh.Places.map GVector.cells), .sl (arr_0.Mesh.Triangles.map (cL (cI .i64))), .sl (arr_0.Springs.map GSpring.cells), .f .f32 arr_0.Film, .f .f32 arr_0.Bend, .sl (arr_0.Weights.map (cF .f32)), .f .f32 arr_0.Fall.X, .f .f32 arr_0.Fall.Y, .f .f32 arr_0.Fall.Z], .box 34 [.own 2], .vec 40 3 (r2_l1.map GVector.cells) false, .nest 49 ((Z5 arr_0.Mesh).map fun l => l.map (cI .i64)) false, .box 40 [.f .f32 ((Zm arr_0.Mesh ((Z5 arr_0.Mesh).getD x_l0.toNat default)).X), .f .f32 ((Zm arr_0.Mesh ((Z5 arr_0.Mesh).getD x_l0.toNat default)).Y), .f .f32 ((Zm arr_0.Mesh ((Z5 arr_0.Mesh).getD x_l0.toNat default)).Z)]]) (args' := [.i .i64 (((Z5 arr_0.Mesh).getD x_l0.toNat default).getD 0 default), .agg [.f .f32 ((Zm arr_0.Mesh ((Z5 arr_0.Mesh).getD x_l0.toNat default)).X), .f .f32 ((Zm arr_0.Mesh ((Z5 arr_0.Mesh).getD x_l0.toNat default)).Y), .f .f32 ((Zm arr_0.Mesh ((Z5 arr_0.Mesh).getD x_l0.toNat default)).Z)], .f .f32 arr_0.Bend, .ptr 1 0 0]) rfl rfl rfl rfl rfl rfl) <| sK [7, 7] <| sC (iidx_ok (c := (cI .i64)) (l := (Z5 arr_0.Mesh)) (j := x_l0.toNat) (i := 1) y_11 y_12) <| sE (iget_ok (c := (cI .i64)) (l := (Z5 arr_0.Mesh)) (j := x_l0.toNat) (k := 1) y_13) <| sS (CallSt.frame (Z1v (((Z5 arr_0.Mesh).getD x_l0.toNat default).getD 1 default) (Zm arr_0.Mesh ((Z5 arr_0.Mesh).getD x_l0.toNat default)) arr_0.Bend (Z2v arr_0 x_l0 r2_l1) y_14 y_15 y_16) [1, 2] (R := [.box 42 [.sl (arr_0.Mesh.Places.map GVector.cells), .sl (arr_0.Mesh.Triangles.map (cL (cI .i64))), .sl (arr_0.Springs.map GSpring.cells), .f .f32 arr_0.Film, .f .f32 arr_0.Bend, .sl (arr_0.Weights.map (cF .f32)), .f .f32 arr_0.Fall.X, .f .f32 arr_0.Fall.Y, .f .f32 arr_0.Fall.Z], .box 34 [.own 2], .vec 40 3 ((Z2v arr_0 x_l0 r2_l1).map GVector.cells) false, .nest 49 ((Z5 arr_0.Mesh).map fun l => l.map (cI .i64)) false, .box 40 [.f .f32 ((Zm arr_0.Mesh ((Z5 arr_0.Mesh).getD x_l0.toNat default)).X), .f .f32 ((Zm arr_0.Mesh ((Z5 arr_0.Mesh).getD x_l0.toNat default)).Y), .f .f32 ((Zm arr_0.Mesh ((Z5 arr_0.Mesh).getD x_l0.toNat default)).Z)]]) (args' := [.i .i64 (((Z5 arr_0.Mesh).getD x_l0.toNat default).getD 1 default), .agg [.f .f32 ((Zm arr_0.Mesh ((Z5 arr_0.Mesh).getD x_l0.toNat default)).X), .f .f32 ((Zm arr_0.Mesh ((Z5 arr_0.Mesh).getD x_l0.toNat default)).Y), .f .f32 ((Zm arr_0.Mesh ((Z5 arr_0.Mesh).getD x_l0.toNat default)).Z)], .f .f32 arr_0.Bend, .ptr 1 0 0]) rfl rfl rfl rfl rfl rfl) <| sK [8, 8] <| sC (iidx_ok (c := (cI .i64)) (l := (Z5 arr_0.Mesh)) (j := x_l0.toNat) (i := 2) y_17 y_18) <| sE (iget_ok (c := (cI .i64)) (l := (Z5 arr_0.Mesh)) (j := x_l0.toNat) (k := 2) y_19) <| sS (CallSt.frame (Z1v (((Z5 arr_0.Mesh).getD x_l0.toNat default).getD 2 default) (Zm arr_0.Mesh ((Z5 arr_0.Mesh).getD x_l0.toNat default)) (fneg .f32 arr_0.Bend) (Z2h arr_0 x_l0 r2_l1) y_20 y_21 y_22) [1, 2] (R := [.box 42 [.sl (arr_0.Mesh.Places.map GVector.cells), .sl (arr_0.Mesh.Triangles.map (cL (cI .i64))), .sl (arr_0.Springs.map GSpring.cells), .f .f32 arr_0.Film, .f .f32 arr_0.Bend, .sl (arr_0.Weights.map (cF .f32)), .f .f32 arr_0.Fall.X, .f .f32 arr_0.Fall.Y, .f .f32 arr_0.Fall.Z], .box 34 [.own 2], .vec 40 3 ((Z2h arr_0 x_l0 r2_l1).map GVector.cells) false, .nest 49 ((Z5 arr_0.Mesh).map fun l => l.map (cI .i64)) false, .box 40 [.f .f32 ((Zm arr_0.Mesh ((Z5 arr_0.Mesh).getD x_l0.toNat default)).X), .f .f32 ((Zm arr_0.Mesh ((Z5 arr_0.Mesh).getD x_l0.toNat default)).Y), .f .f32 ((Zm arr_0.Mesh ((Z5 arr_0.Mesh).getD x_l0.toNat default)).Z)]]) (args' := [.i .i64 (((Z5 arr_0.Mesh).getD x_l0.toNat default).getD 2 default), .agg [.f .f32 ((Zm arr_0.Mesh ((Z5 arr_0.Mesh).getD x_l0.toNat default)).X), .f .f32 ((Zm arr_0.Mesh ((Z5 arr_0.Mesh).getD x_l0.toNat default)).Y), .f .f32 ((Zm arr_0.Mesh ((Z5 arr_0.Mesh).getD x_l0.toNat default)).Z)], .f .f32 (fneg .f32 arr_0.Bend), .ptr 1 0 0]) rfl rfl rfl rfl rfl rfl) <| sK [8, 8] <| sC (iidx_ok (c := (cI .i64)) (l := (Z5 arr_0.Mesh)) (j := x_l0.toNat) (i := 3) y_23 y_24) <| sE (iget_ok (c := (cI .i64)) (l := (Z5 arr_0.Mesh)) (j := x_l0.toNat) (k := 3) y_25) <| sS (CallSt.frame (Z1v (((Z5 arr_0.Mesh).getD x_l0.toNat default).getD 3 default) (Zm arr_0.Mesh ((Z5 arr_0.Mesh).getD x_l0.toNat default)) (fneg .f32 arr_0.Bend) (Z2i arr_0 x_l0 r2_l1) y_26 y_27 y_28) [1, 2] (R := [.box 42 [.sl (arr_0.Mesh.Places.map GVector.cells), .sl (arr_0.Mesh.Triangles.map (cL (cI .i64))), .sl (arr_0.Springs.map GSpring.cells), .f .f32 arr_0.Film, .f .f32 arr_0.Bend, .sl (arr_0.Weights.map (cF .f32)), .f .f32 arr_0.Fall.X, .f .f32 arr_0.Fall.Y, .f .f32 arr_0.Fall.Z], .box 34 [.own 2], .vec 40 3 ((Z2i arr_0 x_l0 r2_l1).map GVector.cells) false, .nest 49 ((Z5 arr_0.Mesh).map fun l => l.map (cI .i64)) false, .box 40 [.f .f32 ((Zm arr_0.Mesh ((Z5 arr_0.Mesh).getD x_l0.toNat default)).X), .f .f32 ((Zm arr_0.Mesh ((Z5 arr_0.Mesh).getD x_l0.toNat default)).Y), .f .f32 ((Zm arr_0.Mesh ((Z5 arr_0.Mesh).getD x_l0.toNat default)).Z)]]) (args' := [.i .i64 (((Z5 arr_0.Mesh).getD x_l0.toNat default).getD 3 default), .agg [.f .f32 ((Zm arr_0.Mesh ((Z5 arr_0.Mesh).getD x_l0.toNat default)).X), .f .f32 ((Zm arr_0.Mesh ((Z5 arr_0.Mesh).getD x_l0.toNat default)).Y), .f .f32 ((Zm arr_0.Mesh ((Z5 arr_0.Mesh).getD x_l0.toNat default)).Z)], .f .f32 (fneg .f32 arr_0.Bend), .ptr 1 0 0]) rfl rfl rfl rfl rfl rfl) <| sI (x_l0 + 1) y_29 y_30 <| sN) (by kernel_rfl)
  | false =>
   have gh_0 := of_decide_eq_false h_0
   have e : ZL arr_0 (k + 1) x_l0 r2_l1 = r2_l1 := by simp only [ZL, h_0, cond_false]
   rw [e]
   exact outR (e := (.exit 6)) E0Ok Z3 [] Z8y [0, 1, 2, 3] (sB h_0 <| sN) (by kernel_rfl) (by intro h; cases h)
theorem Z8z (arr_0 : GBody) : ∀ (k : Nat) (x_l0 : Int) (r2_l1 : (List GVector)) (hk : (((Z5 arr_0.Mesh).length : Int) - x_l0).toNat < k), (ZL arr_0 k x_l0 r2_l1).length = r2_l1.length := by
  intro k
  induction k with
  | zero => intro x_l0 r2_l1 hk; exact absurd hk (Nat.not_lt_zero _)
  | succ k ih =>
    intro x_l0 r2_l1 hk
    cases h_0 : (decide (x_l0 < ((Z5 arr_0.Mesh).length : Int))) with
    | true =>
      have e : ZL arr_0 (k + 1) x_l0 r2_l1 = (ZL arr_0 k (x_l0 + 1) (Z2j arr_0 x_l0 r2_l1)) := by simp only [ZL, h_0, cond_true]
      rw [e, ih (x_l0 + 1) (Z2j arr_0 x_l0 r2_l1) (by simp_all <;> omega)]; simp
    | false =>
      have e : ZL arr_0 (k + 1) x_l0 r2_l1 = r2_l1 := by simp only [ZL, h_0, cond_false]
      first | (rw [e]; done) | (rw [e]; rfl)
def Z2w (arr_0 : GBody) : (List GVector) := (ZL arr_0 ((((Z5 arr_0.Mesh).length : Int) - 0).toNat + 1) 0 (Z2u arr_0))
@[simp] theorem Zbi (arr_0 : GBody) : (Z2w arr_0).length = ((Z2u arr_0) : (List GVector)).length := Z8z arr_0 ((((Z5 arr_0.Mesh).length : Int) - 0).toNat + 1) 0 (Z2u arr_0) (by exact Nat.lt_succ_self _)
def ZM (arr_0 : GBody) : Nat → Int → (List GVector) → (List GVector)
  | 0, _, _ => default
  | k + 1, x_l0, r2_l1 => (cond (decide (x_l0 < (arr_0.Weights.length : Int)))
    (ZM arr_0 k (x_l0 + 1) (Zl x_l0 arr_0.Fall (arr_0.Weights.getD x_l0.toNat default) r2_l1))
    r2_l1)
def Z5m (arr_0 : GBody) (r : (List GVector)) : Ex × St := ((.exit 8), ⟨.agg [.sl (arr_0.Mesh.Places.map GVector.cells), .sl (arr_0.Mesh.Triangles.map (cL (cI .i64))), .sl (arr_0.Springs.map GSpring.cells), .f .f32 arr_0.Film, .f .f32 arr_0.Bend, .sl (arr_0.Weights.map (cF .f32)), .f .f32 arr_0.Fall.X, .f .f32 arr_0.Fall.Y, .f .f32 arr_0.Fall.Z] :: .ptr 0 0 0 :: .nils :: .ptr 1 0 0 :: .fn 106 [.ptr 1 0 0] :: an 18 (.ptr 0 0 0 :: .ptr 0 0 0 :: .sl (arr_0.Mesh.Places.map GVector.cells) :: .i .i64 (arr_0.Mesh.Places.length : Int) :: .own 2 :: .fn 106 [.ptr 1 0 0] :: .ptr 0 0 2 :: .sl (arr_0.Springs.map GSpring.cells) :: an 25 (.ptr 0 0 0 :: .ptr 0 0 0 :: .sl (arr_0.Mesh.Places.map GVector.cells) :: .ptr 0 0 0 :: .ptr 0 0 1 :: .sl (arr_0.Mesh.Triangles.map (cL (cI .i64))) :: an 54 (.ptr 0 0 0 :: .agg [.sl (arr_0.Mesh.Places.map GVector.cells), .sl (arr_0.Mesh.Triangles.map (cL (cI .i64)))] :: .own 3 :: an 44 (.ptr 0 0 5 :: .sl (arr_0.Weights.map (cF .f32)) :: an 14 [])))), [.box 42 [.sl (arr_0.Mesh.Places.map GVector.cells), .sl (arr_0.Mesh.Triangles.map (cL (cI .i64))), .sl (arr_0.Springs.map GSpring.cells), .f .f32 arr_0.Film, .f .f32 arr_0.Bend, .sl (arr_0.Weights.map (cF .f32)), .f .f32 arr_0.Fall.X, .f .f32 arr_0.Fall.Y, .f .f32 arr_0.Fall.Z], .box 34 [.own 2], .vec 40 3 (r.map GVector.cells) false, .nest 49 ((Z5 arr_0.Mesh).map fun l => l.map (cI .i64)) false]⟩)
def Z9u (arr_0 : GBody) (x_l0 : Int) (r2_l1 : (List GVector)) : St := ⟨.agg [.sl (arr_0.Mesh.Places.map GVector.cells), .sl (arr_0.Mesh.Triangles.map (cL (cI .i64))), .sl (arr_0.Springs.map GSpring.cells), .f .f32 arr_0.Film, .f .f32 arr_0.Bend, .sl (arr_0.Weights.map (cF .f32)), .f .f32 arr_0.Fall.X, .f .f32 arr_0.Fall.Y, .f .f32 arr_0.Fall.Z] :: .ptr 0 0 0 :: .nils :: .ptr 1 0 0 :: .fn 106 [.ptr 1 0 0] :: an 18 (.ptr 0 0 0 :: .ptr 0 0 0 :: .sl (arr_0.Mesh.Places.map GVector.cells) :: .i .i64 (arr_0.Mesh.Places.length : Int) :: .own 2 :: .fn 106 [.ptr 1 0 0] :: .ptr 0 0 2 :: .sl (arr_0.Springs.map GSpring.cells) :: an 25 (.ptr 0 0 0 :: .ptr 0 0 0 :: .sl (arr_0.Mesh.Places.map GVector.cells) :: .ptr 0 0 0 :: .ptr 0 0 1 :: .sl (arr_0.Mesh.Triangles.map (cL (cI .i64))) :: an 54 (.ptr 0 0 0 :: .agg [.sl (arr_0.Mesh.Places.map GVector.cells), .sl (arr_0.Mesh.Triangles.map (cL (cI .i64)))] :: .own 3 :: an 44 (.ptr 0 0 5 :: .sl (arr_0.Weights.map (cF .f32)) :: .i .i64 (arr_0.Weights.length : Int) :: .i .i64 x_l0 :: an 12 [])))), [.box 42 [.sl (arr_0.Mesh.Places.map GVector.cells), .sl (arr_0.Mesh.Triangles.map (cL (cI .i64))), .sl (arr_0.Springs.map GSpring.cells), .f .f32 arr_0.Film, .f .f32 arr_0.Bend, .sl (arr_0.Weights.map (cF .f32)), .f .f32 arr_0.Fall.X, .f .f32 arr_0.Fall.Y, .f .f32 arr_0.Fall.Z], .box 34 [.own 2], .vec 40 3 (r2_l1.map GVector.cells) false, .nest 49 ((Z5 arr_0.Mesh).map fun l => l.map (cI .i64)) false]⟩
def Z6w : List Bool := (mR false [0, 5, 18, 8, 25, 6, 54, 3, 44, 4, 12])
def Z8A : List Bool := (mR false [0, 5, 18, 8, 25, 6, 54, 3, 44, 2, 14])
theorem Z9v (arr_0 : GBody) (hp0 : arr_0.Mesh.Places.length ≤ 1073741824) (hp1 : arr_0.Mesh.Triangles.length ≤ 1073741824) (hp2 : ∀ t ∈ arr_0.Mesh.Triangles, t.length ≤ 1073741824) (hp3 : arr_0.Springs.length ≤ 1073741824) (hp4 : arr_0.Weights.length ≤ 1073741824) (hp5 : OkBd arr_0) : ∀ (k : Nat) (x_l0 : Int) (r2_l1 : (List GVector)) (Z4J : 0 ≤ x_l0) (Z6x : r2_l1.length = arr_0.Mesh.Places.length) (hk : ((arr_0.Weights.length : Int) - x_l0).toNat < k), Lp prog 0 (sub (bodyOf f57) [1, 1, 1, 1, 1, 1, 1, 0, 1, 0, 0]) (Z9u arr_0 x_l0 r2_l1) (Z5m arr_0 (ZM arr_0 k x_l0 r2_l1)).1 (Z5m arr_0 (ZM arr_0 k x_l0 r2_l1)).2 := by
 intro k
 induction k with
 | zero => intro x_l0 r2_l1 Z4J Z6x hk; exact absurd hk (Nat.not_lt_zero _)
 | succ k ih =>
  intro x_l0 r2_l1 Z4J Z6x hk
  cases h_0 : (decide (x_l0 < (arr_0.Weights.length : Int))) with
  | true =>
   have gh_0 := of_decide_eq_true h_0
   have y_0 : (0 : Int) ≤ x_l0 := (by assumption)
   have y_1 : x_l0 < (arr_0.Weights.length : Int) := (by assumption)
   have y_2 : r2_l1.length ≤ 1073741824 := (by omega)
   have y_3 : x_l0 < (r2_l1.length : Int) := (by have q := hp5.w; omega)
   have y_4 : (-9223372036854775808 : Int) ≤ (x_l0 + 1) := (by omega)
   have y_5 : (x_l0 + 1) ≤ (9223372036854775807 : Int) := (by omega)
   have e : ZM arr_0 (k + 1) x_l0 r2_l1 = (ZM arr_0 k (x_l0 + 1) (Zl x_l0 arr_0.Fall (arr_0.Weights.getD x_l0.toNat default) r2_l1)) := by simp only [ZM, h_0, cond_true]
   rw [e]
   exact nextR E0Ok Z3 [] Z6w [0, 1, 2, 3] (ih (x_l0 + 1) (Zl x_l0 arr_0.Fall (arr_0.Weights.getD x_l0.toNat default) r2_l1) (show 0 ≤ (x_l0 + 1) from (by omega)) (show (Zl x_l0 arr_0.Fall (arr_0.Weights.getD x_l0.toNat default) r2_l1).length = arr_0.Mesh.Places.length from (by simp_all <;> omega)) (by omega)) (sB h_0 <| sG (cF .f32) arr_0.Weights x_l0 y_0 y_1 <| sS (CallSt.frame (Z1v x_l0 arr_0.Fall (arr_0.Weights.getD x_l0.toNat default) r2_l1 y_2 Z4J y_3) [1, 2] (R := [.box 42 [.sl (arr_0.Mesh.Places.map GVector.cells), .sl (arr_0.Mesh.Triangles.map (cL (cI .i64))), .sl (arr_0.Springs.map GSpring.cells), .f .f32 arr_0.Film, .f .f32 arr_0.Bend, .sl (arr_0.Weights.map (cF .f32)), .f .f32 arr_0.Fall.X, .f .f32 arr_0.Fall.Y, .f .f32 arr_0.Fall.Z], .box 34 [.own 2], .vec 40 3 (r2_l1.map GVector.cells) false, .nest 49 ((Z5 arr_0.Mesh).map fun l => l.map (cI .i64)) false]) (args' := [.i .i64 x_l0, .agg [.f .f32 arr_0.Fall.X, .f .f32 arr_0.Fall.Y, .f .f32 arr_0.Fall.Z], .f .f32 (arr_0.Weights.getD x_l0.toNat default), .ptr 1 0 0]) rfl rfl rfl rfl rfl rfl) <| sI (x_l0 + 1) y_4 y_5 <| sN) (by kernel_rfl)
  | false =>
   have gh_0 := of_decide_eq_false h_0
   have e : ZM arr_0 (k + 1) x_l0 r2_l1 = r2_l1 := by simp only [ZM, h_0, cond_false]
   rw [e]
   exact outR (e := (.exit 8)) E0Ok Z3 [] Z8A [0, 1, 2, 3] (sB h_0 <| sN) (by kernel_rfl) (by intro h; cases h)
theorem Z8B (arr_0 : GBody) : ∀ (k : Nat) (x_l0 : Int) (r2_l1 : (List GVector)) (hk : ((arr_0.Weights.length : Int) - x_l0).toNat < k), (ZM arr_0 k x_l0 r2_l1).length = r2_l1.length := by
  intro k
  induction k with
  | zero => intro x_l0 r2_l1 hk; exact absurd hk (Nat.not_lt_zero _)
  | succ k ih =>
    intro x_l0 r2_l1 hk
    cases h_0 : (decide (x_l0 < (arr_0.Weights.length : Int))) with
    | true =>
      have e : ZM arr_0 (k + 1) x_l0 r2_l1 = (ZM arr_0 k (x_l0 + 1) (Zl x_l0 arr_0.Fall (arr_0.Weights.getD x_l0.toNat default) r2_l1)) := by simp only [ZM, h_0, cond_true]
      rw [e, ih (x_l0 + 1) (Zl x_l0 arr_0.Fall (arr_0.Weights.getD x_l0.toNat default) r2_l1) (by simp_all <;> omega)]; simp
    | false =>
      have e : ZM arr_0 (k + 1) x_l0 r2_l1 = r2_l1 := by simp only [ZM, h_0, cond_false]
      first | (rw [e]; done) | (rw [e]; rfl)
def Z3o (arr_0 : GBody) : (List GVector) := (ZM arr_0 (((arr_0.Weights.length : Int) - 0).toNat + 1) 0 (Z2w arr_0))
@[simp] theorem Zbj (arr_0 : GBody) : (Z3o arr_0).length = ((Z2w arr_0) : (List GVector)).length := Z8B arr_0 (((arr_0.Weights.length : Int) - 0).toNat + 1) 0 (Z2w arr_0) (by exact Nat.lt_succ_self _)
def Z2x (arr_0 : GBody) : (List GVector) := (Z3o arr_0)
@[simp] theorem Zc0 (arr_0 : GBody) : (Z2x arr_0).length = arr_0.Mesh.Places.length := by
  first | (simp [Z2x]; done)
theorem Zc7 (b : GBody) : Z14 b = ZY b := by kernel_rfl
theorem Zc8 (b : GBody) (x : Int) (r : List GVector) (h : fcmp .gtr .f32 (Z1V (Z9 b.Mesh (b.Mesh.Triangles.getD x.toNat default))) 0 = true) : ∀ (k : Nat) (y : Int) (s : List GVector), ZV b x r k y s = ZA b x r k y s := by
  intro k
  induction k with
  | zero => intro y s; rfl
  | succ k ih =>
    intro y s
    rw [ZV, ZA, ih]
    unfold Z1y Z44 Z1x Z3t
    rw [h]
    kernel_rfl
theorem Zc9 (b : GBody) (x : Int) (r : List GVector) (h : fcmp .gtr .f32 (Z1V (Z9 b.Mesh (b.Mesh.Triangles.getD x.toNat default))) 0 = false) : ∀ (k : Nat) (y : Int) (s : List GVector), ZW b x r k y s = ZA b x r k y s := by
  intro k
  induction k with
  | zero => intro y s; rfl
  | succ k ih =>
    intro y s
    rw [ZW, ZA, ih]
    unfold Z1y Z44 Z1x Z3t
    rw [h]
    kernel_rfl
theorem Zca (b : GBody) : ∀ (k : Nat) (x : Int) (r : List GVector), Zn b k x r = ZH b k x r := by
  intro k
  induction k with
  | zero => intro x r; rfl
  | succ k ih =>
    intro x r
    rw [Zn, ZH]
    rw [show fcmp .gtr .f32 (Zk (Z7 b.Mesh (b.Mesh.Triangles.getD x.toNat default))) 0 = fcmp .gtr .f32 (Z1V (Z9 b.Mesh (b.Mesh.Triangles.getD x.toNat default))) 0 from by kernel_rfl]
    unfold Z25 Z26 Z1W
    cases h : fcmp .gtr .f32 (Z1V (Z9 b.Mesh (b.Mesh.Triangles.getD x.toNat default))) 0 with
    | true => rw [cond_true, ih, Zc8 b x r h]
    | false => rw [cond_false, ih, Zc9 b x r h]
theorem Zcb (b : GBody) (h : Z5 b.Mesh = Z0 b.Mesh) : ∀ (k : Nat) (x : Int) (r : List GVector), ZL b k x r = ZI b k x r := by
  intro k
  induction k with
  | zero => intro x r; rfl
  | succ k ih =>
    intro x r
    rw [ZL, ZI, ih]
    unfold Z2j Z2i Z2h Z2v
    rw [h]
    kernel_rfl
theorem Zcc (b : GBody) (h : b.Weights.length = b.Mesh.Places.length) : ∀ (k : Nat) (x : Int) (r : List GVector), ZM b k x r = ZJ b k x r := by
  intro k
  induction k with
  | zero => intro x r; rfl
  | succ k ih =>
    intro x r
    rw [ZM, ZJ, ih, h]
    kernel_rfl
theorem ZbK (b : GBody) (ok : OkBd b) : Z2x b = Z2g b := by
  have h : Z5 b.Mesh = Z0 b.Mesh := by rw [Z5H _ ok.e, Z7B _ ok.e]
  unfold Z2x Z2g Z3o Z3b Z2w Z2m Z2u Z2l Z2t Z2k
  have e2 : Zn b = ZH b := by funext k x r; exact Zca b k x r
  have e5 : ZL b = ZI b := by funext k x r; exact Zcb b h k x r
  have e6 : ZM b = ZJ b := by funext k x r; exact Zcc b ok.w k x r
  rw [Zc7, e2, e5, e6, h, ok.w]
theorem ZaA (arr_0 : GBody) (hp0 : arr_0.Mesh.Places.length ≤ 1073741824) (hp1 : arr_0.Mesh.Triangles.length ≤ 1073741824) (hp2 : ∀ t ∈ arr_0.Mesh.Triangles, t.length ≤ 1073741824) (hp3 : arr_0.Springs.length ≤ 1073741824) (hp4 : arr_0.Weights.length ≤ 1073741824) (hp5 : OkBd arr_0)  : Fn prog 57 [.agg [.sl (arr_0.Mesh.Places.map GVector.cells), .sl (arr_0.Mesh.Triangles.map (cL (cI .i64))), .sl (arr_0.Springs.map GSpring.cells), .f .f32 arr_0.Film, .f .f32 arr_0.Bend, .sl (arr_0.Weights.map (cF .f32)), .f .f32 arr_0.Fall.X, .f .f32 arr_0.Fall.Y, .f .f32 arr_0.Fall.Z]] (.own 0) [.vec 40 3 ((Z2x arr_0).map GVector.cells) false] := by
 have y0 : (0 : Int) ≤ (arr_0.Mesh.Places.length : Int) := (by omega)
 have y1 : ((arr_0.Mesh.Places.length : Int) : Int) ≤ 2147483648 := (by omega)
 have y2 : OkE arr_0.Mesh.Places.length arr_0.Mesh.Triangles := (by exact hp5.e)
 refine fnS E0Ok Z3 (c := bodyOf f57) [] (.own 0) [.vec 40 3 ((Z3o arr_0).map GVector.cells) false] func57 (sZ GVector.cells arr_0.Mesh.Places <| sC (show (arr_0.Mesh.Places.length : Int) = (arr_0.Mesh.Places.length : Int) from rfl) <| sC y0 <| sC y1 <| sZ GSpring.cells arr_0.Springs <| sL (mR false [0, 5, 18, 10, 146]) 3 (lp_cast (st2 := ⟨.agg [.sl (arr_0.Mesh.Places.map GVector.cells), .sl (arr_0.Mesh.Triangles.map (cL (cI .i64))), .sl (arr_0.Springs.map GSpring.cells), .f .f32 arr_0.Film, .f .f32 arr_0.Bend, .sl (arr_0.Weights.map (cF .f32)), .f .f32 arr_0.Fall.X, .f .f32 arr_0.Fall.Y, .f .f32 arr_0.Fall.Z] :: .ptr 0 0 0 :: .nils :: .ptr 2 0 0 :: .fn 106 [.ptr 2 0 0] :: an 18 (.ptr 0 0 0 :: .ptr 0 0 0 :: .sl (arr_0.Mesh.Places.map GVector.cells) :: .i .i64 (arr_0.Mesh.Places.length : Int) :: .own 1 :: .fn 106 [.ptr 2 0 0] :: .ptr 0 0 2 :: .sl (arr_0.Springs.map GSpring.cells) :: .i .i64 (arr_0.Springs.length : Int) :: .i .i64 0 :: an 146 []), [.box 42 [.sl (arr_0.Mesh.Places.map GVector.cells), .sl (arr_0.Mesh.Triangles.map (cL (cI .i64))), .sl (arr_0.Springs.map GSpring.cells), .f .f32 arr_0.Film, .f .f32 arr_0.Bend, .sl (arr_0.Weights.map (cF .f32)), .f .f32 arr_0.Fall.X, .f .f32 arr_0.Fall.Y, .f .f32 arr_0.Fall.Z], .vec 40 3 (List.replicate (Int.toNat (arr_0.Mesh.Places.length : Int)) [.f .f32 0, .f .f32 0, .f .f32 0]) false, .box 34 [.own 1]]⟩) (lp_val (Z5h arr_0) (x := (Z2t arr_0)) (Z9l arr_0 hp0 hp1 hp2 hp3 hp4 hp5 (((arr_0.Springs.length : Int) - 0).toNat + 1) 0 (List.replicate (arr_0.Mesh.Places.length : Int).toNat (⟨0, 0, 0⟩ : GVector)) (show 0 ≤ 0 from (by omega)) (show (List.replicate (arr_0.Mesh.Places.length : Int).toNat (⟨0, 0, 0⟩ : GVector)).length = arr_0.Mesh.Places.length from (by simp; done)) (Nat.lt_succ_self _)) rfl) (by simp [Z76, GVector.cells])) <| sZ (cL (cI .i64)) arr_0.Mesh.Triangles <| sL Z4I 3 (lp_val (Z5k arr_0) (x := (Z2u arr_0)) (Z9r arr_0 hp0 hp1 hp2 hp3 hp4 hp5 (((arr_0.Mesh.Triangles.length : Int) - 0).toNat + 1) 0 (Z2t arr_0) (show 0 ≤ 0 from (by omega)) (show (Z2t arr_0).length = arr_0.Mesh.Places.length from (by simp; done)) (Nat.lt_succ_self _)) rfl) <| sF (Zaz arr_0.Mesh hp0 hp1 hp2 y2) <| sM (nlen_ok (l := (Z5 arr_0.Mesh)) (f := fun l => l.map (cI .i64))) <| sL Z6t 4 (lp_val (Z5l arr_0) (x := (Z2w arr_0)) (Z9t arr_0 hp0 hp1 hp2 hp3 hp4 hp5 ((((Z5 arr_0.Mesh).length : Int) - 0).toNat + 1) 0 (Z2u arr_0) (show 0 ≤ 0 from (by omega)) (show (Z2u arr_0).length = arr_0.Mesh.Places.length from (by simp; done)) (Nat.lt_succ_self _)) rfl) <| sZ (cF .f32) arr_0.Weights <| sL Z6w 4 (lp_val (Z5m arr_0) (x := (Z3o arr_0)) (Z9v arr_0 hp0 hp1 hp2 hp3 hp4 hp5 (((arr_0.Weights.length : Int) - 0).toNat + 1) 0 (Z2w arr_0) (show 0 ≤ 0 from (by omega)) (show (Z2w arr_0).length = arr_0.Mesh.Places.length from (by simp; done)) (Nat.lt_succ_self _)) rfl) <| sK [2] sN) rfl (by kernel_rfl) (by kernel_rfl) rfl ?_ ?_
 · rfl
 · simp [Z2x]
def ZN (b_0 : GBody) (held_1 : (List Int)) : Nat → Int → (List GVector) → (List GVector)
  | 0, _, _ => default
  | k + 1, x_l0, r1_l1 => (cond (decide (x_l0 < (held_1.length : Int)))
    (ZN b_0 held_1 k (x_l0 + 1) (r1_l1.set ((held_1.getD x_l0.toNat default).toNat) (⟨0, 0, 0⟩ : GVector)))
    r1_l1)
def Z4K (b_0 : GBody) (held_1 : (List Int)) (r : (List GVector)) : Ex × St := ((.exit 0), ⟨.agg [.sl (b_0.Mesh.Places.map GVector.cells), .sl (b_0.Mesh.Triangles.map (cL (cI .i64))), .sl (b_0.Springs.map GSpring.cells), .f .f32 b_0.Film, .f .f32 b_0.Bend, .sl (b_0.Weights.map (cF .f32)), .f .f32 b_0.Fall.X, .f .f32 b_0.Fall.Y, .f .f32 b_0.Fall.Z] :: .sl (held_1.map (cI .i64)) :: .ptr 0 0 0 :: .any :: .nils :: .own 1 :: .any :: .any :: .agg [.sl (b_0.Mesh.Places.map GVector.cells), .sl (b_0.Mesh.Triangles.map (cL (cI .i64))), .sl (b_0.Springs.map GSpring.cells), .f .f32 b_0.Film, .f .f32 b_0.Bend, .sl (b_0.Weights.map (cF .f32)), .f .f32 b_0.Fall.X, .f .f32 b_0.Fall.Y, .f .f32 b_0.Fall.Z] :: .own 1 :: .sl (held_1.map (cI .i64)) :: an 11 [], [.box 42 [.sl (b_0.Mesh.Places.map GVector.cells), .sl (b_0.Mesh.Triangles.map (cL (cI .i64))), .sl (b_0.Springs.map GSpring.cells), .f .f32 b_0.Film, .f .f32 b_0.Bend, .sl (b_0.Weights.map (cF .f32)), .f .f32 b_0.Fall.X, .f .f32 b_0.Fall.Y, .f .f32 b_0.Fall.Z], .vec 40 3 (r.map GVector.cells) false]⟩)
def Z8C (b_0 : GBody) (held_1 : (List Int)) (x_l0 : Int) (r1_l1 : (List GVector)) : St := ⟨.agg [.sl (b_0.Mesh.Places.map GVector.cells), .sl (b_0.Mesh.Triangles.map (cL (cI .i64))), .sl (b_0.Springs.map GSpring.cells), .f .f32 b_0.Film, .f .f32 b_0.Bend, .sl (b_0.Weights.map (cF .f32)), .f .f32 b_0.Fall.X, .f .f32 b_0.Fall.Y, .f .f32 b_0.Fall.Z] :: .sl (held_1.map (cI .i64)) :: .ptr 0 0 0 :: .any :: .nils :: .own 1 :: .any :: .any :: .agg [.sl (b_0.Mesh.Places.map GVector.cells), .sl (b_0.Mesh.Triangles.map (cL (cI .i64))), .sl (b_0.Springs.map GSpring.cells), .f .f32 b_0.Film, .f .f32 b_0.Bend, .sl (b_0.Weights.map (cF .f32)), .f .f32 b_0.Fall.X, .f .f32 b_0.Fall.Y, .f .f32 b_0.Fall.Z] :: .own 1 :: .sl (held_1.map (cI .i64)) :: .i .i64 (held_1.length : Int) :: .i .i64 x_l0 :: an 9 [], [.box 42 [.sl (b_0.Mesh.Places.map GVector.cells), .sl (b_0.Mesh.Triangles.map (cL (cI .i64))), .sl (b_0.Springs.map GSpring.cells), .f .f32 b_0.Film, .f .f32 b_0.Bend, .sl (b_0.Weights.map (cF .f32)), .f .f32 b_0.Fall.X, .f .f32 b_0.Fall.Y, .f .f32 b_0.Fall.Z], .vec 40 3 (r1_l1.map GVector.cells) false]⟩
theorem Z8D (b_0 : GBody) (held_1 : (List Int)) (hp0 : b_0.Mesh.Places.length ≤ 1073741824) (hp1 : b_0.Mesh.Triangles.length ≤ 1073741824) (hp2 : ∀ t ∈ b_0.Mesh.Triangles, t.length ≤ 1073741824) (hp3 : b_0.Springs.length ≤ 1073741824) (hp4 : b_0.Weights.length ≤ 1073741824) (hp5 : held_1.length ≤ 1073741824) (hp6 : OkBd b_0) (hp7 : OkIx b_0.Mesh.Places.length (fun x => x) held_1) : ∀ (k : Nat) (x_l0 : Int) (r1_l1 : (List GVector)) (Z5y : 0 ≤ x_l0) (Z5z : r1_l1.length = b_0.Mesh.Places.length) (hk : ((held_1.length : Int) - x_l0).toNat < k), Lp prog 0 (sub (bodyOf f68) [1, 1, 0, 1, 0, 0]) (Z8C b_0 held_1 x_l0 r1_l1) (Z4K b_0 held_1 (ZN b_0 held_1 k x_l0 r1_l1)).1 (Z4K b_0 held_1 (ZN b_0 held_1 k x_l0 r1_l1)).2 := by
 intro k
 induction k with
 | zero => intro x_l0 r1_l1 Z5y Z5z hk; exact absurd hk (Nat.not_lt_zero _)
 | succ k ih =>
  intro x_l0 r1_l1 Z5y Z5z hk
  cases h_0 : (decide (x_l0 < (held_1.length : Int))) with
  | true =>
   have gh_0 := of_decide_eq_true h_0
   have y_0 : (0 : Int) ≤ x_l0 := (by assumption)
   have y_1 : x_l0 < (held_1.length : Int) := (by assumption)
   have y_2 : (0 : Int) ≤ (held_1.getD x_l0.toNat default) := (by have q := OkIx.at hp7 (by assumption) gh_0; omega)
   have y_3 : (held_1.getD x_l0.toNat default) < (r1_l1.length : Int) := (by have q := OkIx.at hp7 (by assumption) gh_0; omega)
   have y_4 : (held_1.getD x_l0.toNat default).toNat < r1_l1.length := (by omega)
   have y_5 : (-9223372036854775808 : Int) ≤ (x_l0 + 1) := (by omega)
   have y_6 : (x_l0 + 1) ≤ (9223372036854775807 : Int) := (by omega)
   have e : ZN b_0 held_1 (k + 1) x_l0 r1_l1 = (ZN b_0 held_1 k (x_l0 + 1) (r1_l1.set ((held_1.getD x_l0.toNat default).toNat) (⟨0, 0, 0⟩ : GVector))) := by simp only [ZN, h_0, cond_true]
   rw [e]
   exact nextS E0Ok Z3 [] (mR false [0, 3, 1, 2, 2, 5, 9]) [0, 1] (⟨.agg [.sl (b_0.Mesh.Places.map GVector.cells), .sl (b_0.Mesh.Triangles.map (cL (cI .i64))), .sl (b_0.Springs.map GSpring.cells), .f .f32 b_0.Film, .f .f32 b_0.Bend, .sl (b_0.Weights.map (cF .f32)), .f .f32 b_0.Fall.X, .f .f32 b_0.Fall.Y, .f .f32 b_0.Fall.Z] :: .sl (held_1.map (cI .i64)) :: .ptr 0 0 0 :: .any :: .nils :: .own 1 :: .any :: .any :: .agg [.sl (b_0.Mesh.Places.map GVector.cells), .sl (b_0.Mesh.Triangles.map (cL (cI .i64))), .sl (b_0.Springs.map GSpring.cells), .f .f32 b_0.Film, .f .f32 b_0.Bend, .sl (b_0.Weights.map (cF .f32)), .f .f32 b_0.Fall.X, .f .f32 b_0.Fall.Y, .f .f32 b_0.Fall.Z] :: .own 1 :: .sl (held_1.map (cI .i64)) :: .i .i64 (held_1.length : Int) :: .i .i64 (x_l0 + 1) :: an 9 [], [.box 42 [.sl (b_0.Mesh.Places.map GVector.cells), .sl (b_0.Mesh.Triangles.map (cL (cI .i64))), .sl (b_0.Springs.map GSpring.cells), .f .f32 b_0.Film, .f .f32 b_0.Bend, .sl (b_0.Weights.map (cF .f32)), .f .f32 b_0.Fall.X, .f .f32 b_0.Fall.Y, .f .f32 b_0.Fall.Z], .vec 40 3 ((r1_l1.map GVector.cells).set ((held_1.getD x_l0.toNat default).toNat) [.f .f32 0, .f .f32 0, .f .f32 0]) false]⟩) (sB h_0 <| sG (cI .i64) held_1 x_l0 y_0 y_1 <| sX GVector.cells r1_l1 (held_1.getD x_l0.toNat default) y_2 y_3 <| sC (maplt (c := GVector.cells) (l := r1_l1) y_4) <| sI (x_l0 + 1) y_5 y_6 <| sN) (by kernel_rfl) (show _ = ⟨.agg [.sl (b_0.Mesh.Places.map GVector.cells), .sl (b_0.Mesh.Triangles.map (cL (cI .i64))), .sl (b_0.Springs.map GSpring.cells), .f .f32 b_0.Film, .f .f32 b_0.Bend, .sl (b_0.Weights.map (cF .f32)), .f .f32 b_0.Fall.X, .f .f32 b_0.Fall.Y, .f .f32 b_0.Fall.Z] :: .sl (held_1.map (cI .i64)) :: .ptr 0 0 0 :: .any :: .nils :: .own 1 :: .any :: .any :: .agg [.sl (b_0.Mesh.Places.map GVector.cells), .sl (b_0.Mesh.Triangles.map (cL (cI .i64))), .sl (b_0.Springs.map GSpring.cells), .f .f32 b_0.Film, .f .f32 b_0.Bend, .sl (b_0.Weights.map (cF .f32)), .f .f32 b_0.Fall.X, .f .f32 b_0.Fall.Y, .f .f32 b_0.Fall.Z] :: .own 1 :: .sl (held_1.map (cI .i64)) :: .i .i64 (held_1.length : Int) :: .i .i64 (x_l0 + 1) :: an 9 [], [.box 42 [.sl (b_0.Mesh.Places.map GVector.cells), .sl (b_0.Mesh.Triangles.map (cL (cI .i64))), .sl (b_0.Springs.map GSpring.cells), .f .f32 b_0.Film, .f .f32 b_0.Bend, .sl (b_0.Weights.map (cF .f32)), .f .f32 b_0.Fall.X, .f .f32 b_0.Fall.Y, .f .f32 b_0.Fall.Z], .vec 40 3 ((r1_l1.set ((held_1.getD x_l0.toNat default).toNat) (⟨0, 0, 0⟩ : GVector)).map GVector.cells) false]⟩ from (by simp [List.map_set, GVector.cells])) (ih (x_l0 + 1) (r1_l1.set ((held_1.getD x_l0.toNat default).toNat) (⟨0, 0, 0⟩ : GVector)) (show 0 ≤ (x_l0 + 1) from (by omega)) (show (r1_l1.set ((held_1.getD x_l0.toNat default).toNat) (⟨0, 0, 0⟩ : GVector)).length = b_0.Mesh.Places.length from (by have q := OkIx.at hp7 (by assumption) gh_0; (simp only [List.length_set]; omega))) (by omega))
  | false =>
   have gh_0 := of_decide_eq_false h_0
   have e : ZN b_0 held_1 (k + 1) x_l0 r1_l1 = r1_l1 := by simp only [ZN, h_0, cond_false]
   rw [e]
   exact outR (e := (.exit 0)) E0Ok Z3 [] (mR false [0, 3, 1, 2, 2, 3, 11]) [0, 1] (sB h_0 <| sN) (by kernel_rfl) (by intro h; cases h)
theorem Z7Y (b_0 : GBody) (held_1 : (List Int)) : ∀ (k : Nat) (x_l0 : Int) (r1_l1 : (List GVector)) (hk : ((held_1.length : Int) - x_l0).toNat < k), (ZN b_0 held_1 k x_l0 r1_l1).length = r1_l1.length := by
  intro k
  induction k with
  | zero => intro x_l0 r1_l1 hk; exact absurd hk (Nat.not_lt_zero _)
  | succ k ih =>
    intro x_l0 r1_l1 hk
    cases h_0 : (decide (x_l0 < (held_1.length : Int))) with
    | true =>
      have e : ZN b_0 held_1 (k + 1) x_l0 r1_l1 = (ZN b_0 held_1 k (x_l0 + 1) (r1_l1.set ((held_1.getD x_l0.toNat default).toNat) (⟨0, 0, 0⟩ : GVector))) := by simp only [ZN, h_0, cond_true]
      rw [e, ih (x_l0 + 1) (r1_l1.set ((held_1.getD x_l0.toNat default).toNat) (⟨0, 0, 0⟩ : GVector)) (by simp_all <;> omega)]; simp
    | false =>
      have e : ZN b_0 held_1 (k + 1) x_l0 r1_l1 = r1_l1 := by simp only [ZN, h_0, cond_false]
      first | (rw [e]; done) | (rw [e]; rfl)
def Z37 (b_0 : GBody) (held_1 : (List Int)) : (List GVector) := (ZN b_0 held_1 (((held_1.length : Int) - 0).toNat + 1) 0 (Z2x b_0))
@[simp] theorem ZaP (b_0 : GBody) (held_1 : (List Int)) : (Z37 b_0 held_1).length = ((Z2x b_0) : (List GVector)).length := Z7Y b_0 held_1 (((held_1.length : Int) - 0).toNat + 1) 0 (Z2x b_0) (by exact Nat.lt_succ_self _)
def Z2R (b_0 : GBody) (held_1 : (List Int)) : (List GVector) := (Z37 b_0 held_1)
@[simp] theorem ZbD (b_0 : GBody) (held_1 : (List Int)) : (Z2R b_0 held_1).length = b_0.Mesh.Places.length := by
  first | (simp [Z2R]; done)
theorem Zbk (b : GBody) (l : List Int) (ok : OkBd b) : Z2R b l = Z3c b l := by
  unfold Z2R Z3c Z37 Z3s
  rw [ZbK b ok, show ZN b l = Z16 b l from by kernel_rfl]
theorem Zb1 (b : GBody) (hs : List Int) (h : Z2Z b hs = true) : Z1a b = true ∧ Z31 b hs = true := by
  rw [Zb0] at h
  cases h1 : Z1a b <;> rw [h1] at h <;> (try (cases h; done))
  exact ⟨rfl, h⟩
theorem Z9O (b_0 : GBody) (held_1 : (List Int)) (hp0 : b_0.Mesh.Places.length ≤ 1073741824) (hp1 : b_0.Mesh.Triangles.length ≤ 1073741824) (hp2 : ∀ t ∈ b_0.Mesh.Triangles, t.length ≤ 1073741824) (hp3 : b_0.Springs.length ≤ 1073741824) (hp4 : b_0.Weights.length ≤ 1073741824) (hp5 : held_1.length ≤ 1073741824) (hp6 : OkBd b_0) (hp7 : OkIx b_0.Mesh.Places.length (fun x => x) held_1)  : Fn prog 68 [.agg [.sl (b_0.Mesh.Places.map GVector.cells), .sl (b_0.Mesh.Triangles.map (cL (cI .i64))), .sl (b_0.Springs.map GSpring.cells), .f .f32 b_0.Film, .f .f32 b_0.Bend, .sl (b_0.Weights.map (cF .f32)), .f .f32 b_0.Fall.X, .f .f32 b_0.Fall.Y, .f .f32 b_0.Fall.Z], .sl (held_1.map (cI .i64))] (.own 0) [.vec 40 3 ((Z2R b_0 held_1).map GVector.cells) false] := by
 refine fnS E0Ok Z3 (c := bodyOf f68) [] (.own 0) [.vec 40 3 ((Z37 b_0 held_1).map GVector.cells) false] func68 (sF (ZaA b_0 hp0 hp1 hp2 hp3 hp4 hp6) <| sZ (cI .i64) held_1 <| sL (mR false [0, 3, 1, 2, 2, 5, 9]) 2 (lp_val (Z4K b_0 held_1) (x := (Z37 b_0 held_1)) (Z8D b_0 held_1 hp0 hp1 hp2 hp3 hp4 hp5 hp6 hp7 (((held_1.length : Int) - 0).toNat + 1) 0 (Z2x b_0) (show 0 ≤ 0 from (by omega)) (show (Z2x b_0).length = b_0.Mesh.Places.length from (by simp; done)) (Nat.lt_succ_self _)) rfl) <| sK [1] sN) rfl (by kernel_rfl) (by kernel_rfl) rfl ?_ ?_
 · rfl
 · simp [Z2R]
def Zg (b_0 : GBody) (held_1 : (List Int)) : (List GVector) × Bool := (cond (Z2Z b_0 held_1)
  ((Z2R b_0 held_1), true)
  (([] : List GVector), false))
theorem Z5A (b_0 : GBody) (held_1 : (List Int)) : (Zg b_0 held_1).1.length ≤ b_0.Mesh.Places.length := by
  cases h0 : (Z2Z b_0 held_1) with
  | true =>
    first | (simp [Zg, h0]; done)
  | false =>
    first | (simp [Zg, h0]; done)
theorem Z7k (b_0 : GBody) (held_1 : (List Int)) (hp0 : b_0.Mesh.Places.length ≤ 1073741824) (hp1 : b_0.Mesh.Triangles.length ≤ 1073741824) (hp2 : ∀ t ∈ b_0.Mesh.Triangles, t.length ≤ 1073741824) (hp3 : b_0.Springs.length ≤ 1073741824) (hp4 : b_0.Weights.length ≤ 1073741824) (hp5 : held_1.length ≤ 1073741824)  : Fn prog 26 [.agg [.sl (b_0.Mesh.Places.map GVector.cells), .sl (b_0.Mesh.Triangles.map (cL (cI .i64))), .sl (b_0.Springs.map GSpring.cells), .f .f32 b_0.Film, .f .f32 b_0.Bend, .sl (b_0.Weights.map (cF .f32)), .f .f32 b_0.Fall.X, .f .f32 b_0.Fall.Y, .f .f32 b_0.Fall.Z], .sl (held_1.map (cI .i64))] (.tup [.own 0, .b ((Zg b_0 held_1).2)]) [.vec 40 3 (((Zg b_0 held_1).1).map GVector.cells) false] := by
 have p {a C} (s : Scr a C) := sF (Zba b_0 held_1 hp0 hp1 hp2 hp3 hp4 hp5) <| s
 cases h0 : (Z2Z b_0 held_1) with
 | true =>
  have y0 : OkBd b_0 := by clear p; exact (by exact ZaI _ (Zb1 _ _ (by assumption)).1)
  have y1 : OkIx b_0.Mesh.Places.length (fun x => x) held_1 := by clear p; exact (by exact ZbQ _ _ (by assumption) (Zb1 _ _ (by assumption)).2)
  refine fnS E0Ok Z3 (c := bodyOf f26) [] (.tup [.own 0, .b true]) [.vec 40 3 ((Z2R b_0 held_1).map GVector.cells) false] func26 (p (sB' h0 <| sF (Z9O b_0 held_1 hp0 hp1 hp2 hp3 hp4 hp5 y0 y1) <| sK [1] sN)) rfl (by kernel_rfl) (by kernel_rfl) rfl ?_ ?_
  · simp only [Zg, h0, cond_true]
  · simp [Zg, h0]
 | false =>
  refine fnS E0Ok Z3 (c := bodyOf f26) [(.tm 4, .vec 40 3 [] false)] (.tup [.own 0, .b false]) [.vec 40 3 [] false] func26 (p (sB' h0 <| sK [1] sN)) rfl (by kernel_rfl) (by kernel_rfl) rfl ?_ ?_
  · simp only [Zg, h0, cond_false]
  · simp [Zg, h0, GVector.cells]
def Zs (a_0 : Nat) (b_1 : Nat) : Bool := (cond (fcmp .neq .f64 a_0 a_0)
  (fcmp .neq .f64 b_1 b_1)
  (cond (fcmp .neq .f64 b_1 b_1)
    false
    (cond (fcmp .eql .f64 a_0 0)
      (cond (fcmp .eql .f64 b_1 0)
        ((fcmp .gtr .f64 (fop .quo .f64 4607182418800017408 a_0) 0) == (fcmp .gtr .f64 (fop .quo .f64 4607182418800017408 b_1) 0))
        (fcmp .eql .f64 a_0 b_1))
      (fcmp .eql .f64 a_0 b_1))))
theorem Z2U (a_0 : Nat) (b_1 : Nat)   : Fn prog 23 [.f .f64 a_0, .f .f64 b_1] (.b (Zs a_0 b_1)) [] := by
 cases h0 : (fcmp .neq .f64 a_0 a_0) with
 | true =>
  refine fnS E0Ok Z3 (c := bodyOf f23) [] (.b (fcmp .neq .f64 b_1 b_1)) [] func23 (sB h0 <| sB h0 <| sB h0 <| sB h0 <| sB (show true = true from rfl) <| sB h0 <| sB h0 <| sB h0 <| sB h0 <| sK [] sN) rfl (by kernel_rfl) (by kernel_rfl) rfl ?_ ?_
  · simp only [Zs, h0, cond_true]
  · rfl
 | false =>
  have p {a C} (s : Scr a C) := sB h0 <| sB h0 <| sB h0 <| sB h0 <| s
  cases h1 : (fcmp .neq .f64 b_1 b_1) with
  | true =>
   refine fnS E0Ok Z3 (c := bodyOf f23) [] (.b false) [] func23 (p (sB h1 <| sB h0 <| sB h0 <| sB h0 <| sB h0 <| sK [] sN)) rfl (by kernel_rfl) (by kernel_rfl) rfl ?_ ?_
   · simp only [Zs, h0, h1, cond_true, cond_false]
   · rfl
  | false =>
   have q {a C} (s : Scr a C) := p (sB h1 <| s)
   clear p
   cases h2 : (fcmp .eql .f64 a_0 0) with
   | true =>
    have p {a C} (s : Scr a C) := q (sB h2 <| sB h2 <| sB h2 <| s)
    clear q
    cases h3 : (fcmp .eql .f64 b_1 0) with
    | true =>
     refine fnS E0Ok Z3 (c := bodyOf f23) [] (.b ((fcmp .gtr .f64 (fop .quo .f64 4607182418800017408 a_0) 0) == (fcmp .gtr .f64 (fop .quo .f64 4607182418800017408 b_1) 0))) [] func23 (p (sB h3 <| sK [] sN)) rfl (by kernel_rfl) (by kernel_rfl) rfl ?_ ?_
     · simp only [Zs, h0, h1, h2, h3, cond_true, cond_false]
     · rfl
    | false =>
     refine fnS E0Ok Z3 (c := bodyOf f23) [] (.b (fcmp .eql .f64 a_0 b_1)) [] func23 (p (sB h3 <| sK [] sN)) rfl (by kernel_rfl) (by kernel_rfl) rfl ?_ ?_
     · simp only [Zs, h0, h1, h2, h3, cond_true, cond_false]
     · rfl
   | false =>
    refine fnS E0Ok Z3 (c := bodyOf f23) [] (.b (fcmp .eql .f64 a_0 b_1)) [] func23 (q (sB h2 <| sB h2 <| sB h2 <| sB (show false = false from rfl) <| sK [] sN)) rfl (by kernel_rfl) (by kernel_rfl) rfl ?_ ?_
    · simp only [Zs, h0, h1, h2, cond_false]
    · rfl
theorem Z7Q (x : Nat) : Zs x x = true := by
  unfold Zs
  cases h : fcmp .neq .f64 x x
  · simp only [cond_false]
    have h2 : fcmp .eql .f64 x x = true := by
      unfold fcmp at h ⊢
      simpa using h
    cases fcmp .eql .f64 x 0 <;> simp [h2]
  · rfl
def Z2d (a_0 : GVector) (b_1 : GVector) : Bool := (cond (Zs (fcv .f32 .f64 a_0.X) (fcv .f32 .f64 b_1.X))
  (cond (Zs (fcv .f32 .f64 a_0.Y) (fcv .f32 .f64 b_1.Y))
    (cond (Zs (fcv .f32 .f64 a_0.Z) (fcv .f32 .f64 b_1.Z))
      true
      false)
    false)
  false)
theorem Z7R (a_0 : GVector) (b_1 : GVector)   : Fn prog 58 [.agg [.f .f32 a_0.X, .f .f32 a_0.Y, .f .f32 a_0.Z], .agg [.f .f32 b_1.X, .f .f32 b_1.Y, .f .f32 b_1.Z]] (.b (Z2d a_0 b_1)) [] := by
 have p {a C} (s : Scr a C) := sC (widenOk a_0.X) <| sC (widenOk b_1.X) <| sF (Z2U (fcv .f32 .f64 a_0.X) (fcv .f32 .f64 b_1.X)) <| s
 cases h0 : (Zs (fcv .f32 .f64 a_0.X) (fcv .f32 .f64 b_1.X)) with
 | true =>
  have q {a C} (s : Scr a C) := p (sB' h0 <| sC (widenOk a_0.Y) <| sC (widenOk b_1.Y) <| sF (Z2U (fcv .f32 .f64 a_0.Y) (fcv .f32 .f64 b_1.Y)) <| s)
  clear p
  cases h1 : (Zs (fcv .f32 .f64 a_0.Y) (fcv .f32 .f64 b_1.Y)) with
  | true =>
   have p {a C} (s : Scr a C) := q (sB' h1 <| sC (widenOk a_0.Z) <| sC (widenOk b_1.Z) <| sF (Z2U (fcv .f32 .f64 a_0.Z) (fcv .f32 .f64 b_1.Z)) <| s)
   clear q
   cases h2 : (Zs (fcv .f32 .f64 a_0.Z) (fcv .f32 .f64 b_1.Z)) with
   | true =>
    refine fnS E0Ok Z3 (c := bodyOf f58) [] (.b true) [] func58 (p (sB' h2 <| sK [] sN)) rfl (by kernel_rfl) (by kernel_rfl) rfl ?_ ?_
    · simp only [Z2d, h0, h1, h2, cond_true]
    · rfl
   | false =>
    refine fnS E0Ok Z3 (c := bodyOf f58) [] (.b false) [] func58 (p (sB' h2 <| sK [] sN)) rfl (by kernel_rfl) (by kernel_rfl) rfl ?_ ?_
    · simp only [Z2d, h0, h1, h2, cond_true, cond_false]
    · rfl
  | false =>
   refine fnS E0Ok Z3 (c := bodyOf f58) [] (.b false) [] func58 (q (sB' h1 <| sK [] sN)) rfl (by kernel_rfl) (by kernel_rfl) rfl ?_ ?_
   · simp only [Z2d, h0, h1, cond_true, cond_false]
   · rfl
 | false =>
  refine fnS E0Ok Z3 (c := bodyOf f58) [] (.b false) [] func58 (p (sB' h0 <| sK [] sN)) rfl (by kernel_rfl) (by kernel_rfl) rfl ?_ ?_
  · simp only [Z2d, h0, cond_false]
  · rfl
theorem Z8H (a : GVector) : Z2d a a = true := by
  simp [Z2d, Z7Q]
def Z1A (a_0 : (List GVector)) (b_1 : (List GVector)) : Nat → Int → (Unit) ⊕ (Unit)
  | 0, _ => .inl default
  | k + 1, i_l0 => (cond (decide (i_l0 < (a_0.length : Int)))
    (cond (Z2d (a_0.getD i_l0.toNat default) (b_1.getD i_l0.toNat default))
      (Z1A a_0 b_1 k (i_l0 + 1))
      (.inl ()))
    (.inr ()))
def Z48 (a_0 : (List GVector)) (b_1 : (List GVector)) : (Unit) ⊕ (Unit) → Ex × St
  | .inl r => (.ret, ⟨an 4 (.b false :: an 22 []), []⟩)
  | .inr r => ((.exit 0), ⟨.sl (a_0.map GVector.cells) :: .sl (b_1.map GVector.cells) :: an 4 (.sl (a_0.map GVector.cells) :: .i .i64 (a_0.length : Int) :: .sl (b_1.map GVector.cells) :: .i .i64 (b_1.length : Int) :: .b ((a_0.length : Int) != (b_1.length : Int)) :: an 16 []), []⟩)
def Z92 (a_0 : (List GVector)) (b_1 : (List GVector)) (i_l0 : Int) : St := ⟨.sl (a_0.map GVector.cells) :: .sl (b_1.map GVector.cells) :: .any :: .any :: .any :: .i .i64 i_l0 :: .sl (a_0.map GVector.cells) :: .i .i64 (a_0.length : Int) :: .sl (b_1.map GVector.cells) :: .i .i64 (b_1.length : Int) :: .b ((a_0.length : Int) != (b_1.length : Int)) :: an 16 [], []⟩
theorem Z6R (a_0 : (List GVector)) (b_1 : (List GVector)) (hp0 : a_0.length ≤ 1073741824) (hp1 : b_1.length ≤ 1073741824) (Zc1 : ((a_0.length : Int) != (b_1.length : Int)) = false) : ∀ (k : Nat) (i_l0 : Int) (Z66 : 0 ≤ i_l0) (hk : ((a_0.length : Int) - i_l0).toNat < k), Lp prog 0 (sub (bodyOf f15) [1, 1, 0, 1, 0, 0]) (Z92 a_0 b_1 i_l0) (Z48 a_0 b_1 (Z1A a_0 b_1 k i_l0)).1 (Z48 a_0 b_1 (Z1A a_0 b_1 k i_l0)).2 := by
 intro k
 induction k with
 | zero => intro i_l0 Z66 hk; exact absurd hk (Nat.not_lt_zero _)
 | succ k ih =>
  intro i_l0 Z66 hk
  have p {a C} (s : Scr a C) := sZ GVector.cells a_0 <| s
  cases h_0 : (decide (i_l0 < (a_0.length : Int))) with
  | true =>
   have gh_0 := of_decide_eq_true h_0
   have y_0 : (0 : Int) ≤ i_l0 := by clear p; exact (by assumption)
   have y_1 : i_l0 < (a_0.length : Int) := by clear p; exact (by assumption)
   have y_2 : i_l0 < (b_1.length : Int) := by clear p; exact (by simp_all <;> omega)
   have q {a C} (s : Scr a C) := p (sB h_0 <| sK [8, 8] <| sG GVector.cells a_0 i_l0 y_0 y_1 <| sG GVector.cells b_1 i_l0 y_0 y_2 <| sF (Z7R (a_0.getD i_l0.toNat default) (b_1.getD i_l0.toNat default)) <| s)
   clear p
   cases h_1 : (Z2d (a_0.getD i_l0.toNat default) (b_1.getD i_l0.toNat default)) with
   | true =>
    have y_3 : (-9223372036854775808 : Int) ≤ (i_l0 + 1) := by clear q; exact (by omega)
    have y_4 : (i_l0 + 1) ≤ (9223372036854775807 : Int) := by clear q; exact (by omega)
    have e : Z1A a_0 b_1 (k + 1) i_l0 = (Z1A a_0 b_1 k (i_l0 + 1)) := by simp only [Z1A, h_0, h_1, cond_true]
    rw [e]
    exact nextR E0Ok Z3 [] (mR false [0, 2, 3, 6, 16]) [] (ih (i_l0 + 1) (show 0 ≤ (i_l0 + 1) from (by omega)) (by omega)) (q (sB' h_1 <| sI (i_l0 + 1) y_3 y_4 <| sN)) (by kernel_rfl)
   | false =>
    have e : Z1A a_0 b_1 (k + 1) i_l0 = (.inl ()) := by simp only [Z1A, h_0, h_1, cond_true, cond_false]
    rw [e]
    exact outR (e := .ret) E0Ok Z3 [] (mR false [4, 1, 22]) [] (q (sB' h_1 <| sN)) (by kernel_rfl) (by intro h; cases h)
  | false =>
   have gh_0 := of_decide_eq_false h_0
   have e : Z1A a_0 b_1 (k + 1) i_l0 = (.inr ()) := by simp only [Z1A, h_0, cond_false]
   rw [e]
   exact outR (e := (.exit 0)) E0Ok Z3 [] (mR false [0, 2, 4, 5, 16]) [] (p (sB h_0 <| sN)) (by kernel_rfl) (by intro h; cases h)
def Z3j (a_0 : (List GVector)) (b_1 : (List GVector)) : (Unit) ⊕ (Unit) := (Z1A a_0 b_1 (((a_0.length : Int) - 0).toNat + 1) 0)
def Z2y (a_0 : (List GVector)) (b_1 : (List GVector)) : Bool := (cond ((a_0.length : Int) != (b_1.length : Int))
  false
  (match (Z3j a_0 b_1) with
    | .inl r2 => false
    | .inr r2 => true))
theorem Z4L (a_0 : (List GVector)) (b_1 : (List GVector)) (hp0 : a_0.length ≤ 1073741824) (hp1 : b_1.length ≤ 1073741824)  : Fn prog 15 [.sl (a_0.map GVector.cells), .sl (b_1.map GVector.cells)] (.b (Z2y a_0 b_1)) [] := by
 have p {a C} (s : Scr a C) := sZ GVector.cells a_0 <| sZ GVector.cells b_1 <| s
 cases h0 : ((a_0.length : Int) != (b_1.length : Int)) with
 | true =>
  have gh0 := bne_iff_ne.1 h0
  refine fnS E0Ok Z3 (c := bodyOf f15) [] (.b false) [] func15 (p (sB h0 <| sK [] sN)) rfl (by kernel_rfl) (by kernel_rfl) rfl ?_ ?_
  · simp only [Z2y, h0, cond_true]
  · rfl
 | false =>
  have gh0 := bne_eq_false_iff_eq.1 h0
  have q {a C} (s : Scr a C) := p (sB h0 <| s)
  clear p
  cases h1 : (Z3j a_0 b_1) with
  | inl r2 =>
   refine fnS E0Ok Z3 (c := bodyOf f15) [] (.b false) [] func15 (q (sL (mR false [0, 2, 3, 6, 16]) 0 (lp_val (Z48 a_0 b_1) (x := (Z3j a_0 b_1)) (Z6R a_0 b_1 hp0 hp1 h0 (((a_0.length : Int) - 0).toNat + 1) 0 (show 0 ≤ 0 from (by omega)) (Nat.lt_succ_self _)) h1) <| sK [] sN)) rfl (by kernel_rfl) (by kernel_rfl) rfl ?_ ?_
   · simp only [Z2y, h0, h1, cond_false]
   · rfl
  | inr r2 =>
   refine fnS E0Ok Z3 (c := bodyOf f15) [] (.b true) [] func15 (q (sL (mR false [0, 2, 3, 6, 16]) 0 (lp_val (Z48 a_0 b_1) (x := (Z3j a_0 b_1)) (Z6R a_0 b_1 hp0 hp1 h0 (((a_0.length : Int) - 0).toNat + 1) 0 (show 0 ≤ 0 from (by omega)) (Nat.lt_succ_self _)) h1) <| sK [] sN)) rfl (by kernel_rfl) (by kernel_rfl) rfl ?_ ?_
   · simp only [Z2y, h0, h1, cond_false]
   · rfl
theorem Z8h (a : List GVector) : Z2y a a = true := by
  unfold Z2y Z3j
  rw [all_loop (a := a) (p := fun v => Z2d v v) (lo := Z1A a a) (x := ()) (y := ()) (fun k i => rfl) (fun v _ => Z8H v) _ _ (Int.le_refl 0) (Nat.lt_succ_self _)]
  simp
def Z1u (a_0 : (List Int)) (b_1 : (List Int)) : Nat → Int → (Unit) ⊕ (Unit)
  | 0, _ => .inl default
  | k + 1, i_l0 => (cond (decide (i_l0 < (a_0.length : Int)))
    (cond ((a_0.getD i_l0.toNat default) != (b_1.getD i_l0.toNat default))
      (.inl ())
      (Z1u a_0 b_1 k (i_l0 + 1)))
    (.inr ()))
def Z4g (a_0 : (List Int)) (b_1 : (List Int)) : (Unit) ⊕ (Unit) → Ex × St
  | .inl r => (.ret, ⟨an 4 (.b false :: an 21 []), []⟩)
  | .inr r => ((.exit 0), ⟨.sl (a_0.map (cI .i64)) :: .sl (b_1.map (cI .i64)) :: an 4 (.sl (a_0.map (cI .i64)) :: .i .i64 (a_0.length : Int) :: .sl (b_1.map (cI .i64)) :: .i .i64 (b_1.length : Int) :: .b ((a_0.length : Int) != (b_1.length : Int)) :: an 15 []), []⟩)
def Z9w (a_0 : (List Int)) (b_1 : (List Int)) (i_l0 : Int) : St := ⟨.sl (a_0.map (cI .i64)) :: .sl (b_1.map (cI .i64)) :: .any :: .any :: .any :: .i .i64 i_l0 :: .sl (a_0.map (cI .i64)) :: .i .i64 (a_0.length : Int) :: .sl (b_1.map (cI .i64)) :: .i .i64 (b_1.length : Int) :: .b ((a_0.length : Int) != (b_1.length : Int)) :: an 15 [], []⟩
theorem Z77 (a_0 : (List Int)) (b_1 : (List Int)) (hp0 : a_0.length ≤ 1073741824) (hp1 : b_1.length ≤ 1073741824) (Zcd : ((a_0.length : Int) != (b_1.length : Int)) = false) : ∀ (k : Nat) (i_l0 : Int) (Z6y : 0 ≤ i_l0) (hk : ((a_0.length : Int) - i_l0).toNat < k), Lp prog 0 (sub (bodyOf f24) [1, 1, 0, 1, 0, 0]) (Z9w a_0 b_1 i_l0) (Z4g a_0 b_1 (Z1u a_0 b_1 k i_l0)).1 (Z4g a_0 b_1 (Z1u a_0 b_1 k i_l0)).2 := by
 intro k
 induction k with
 | zero => intro i_l0 Z6y hk; exact absurd hk (Nat.not_lt_zero _)
 | succ k ih =>
  intro i_l0 Z6y hk
  have p {a C} (s : Scr a C) := sZ (cI .i64) a_0 <| s
  cases h_0 : (decide (i_l0 < (a_0.length : Int))) with
  | true =>
   have gh_0 := of_decide_eq_true h_0
   have y_0 : (0 : Int) ≤ i_l0 := by clear p; exact (by assumption)
   have y_1 : i_l0 < (a_0.length : Int) := by clear p; exact (by assumption)
   have y_2 : i_l0 < (b_1.length : Int) := by clear p; exact (by simp_all <;> omega)
   have q {a C} (s : Scr a C) := p (sB h_0 <| sK [8, 8] <| sG (cI .i64) a_0 i_l0 y_0 y_1 <| sG (cI .i64) b_1 i_l0 y_0 y_2 <| s)
   clear p
   cases h_1 : ((a_0.getD i_l0.toNat default) != (b_1.getD i_l0.toNat default)) with
   | true =>
    have gh_1 := bne_iff_ne.1 h_1
    have e : Z1u a_0 b_1 (k + 1) i_l0 = (.inl ()) := by simp only [Z1u, h_0, h_1, cond_true]
    rw [e]
    exact outR (e := .ret) E0Ok Z3 [] (mR false [4, 1, 21]) [] (q (sB h_1 <| sN)) (by kernel_rfl) (by intro h; cases h)
   | false =>
    have gh_1 := bne_eq_false_iff_eq.1 h_1
    have y_3 : (-9223372036854775808 : Int) ≤ (i_l0 + 1) := by clear q; exact (by omega)
    have y_4 : (i_l0 + 1) ≤ (9223372036854775807 : Int) := by clear q; exact (by omega)
    have e : Z1u a_0 b_1 (k + 1) i_l0 = (Z1u a_0 b_1 k (i_l0 + 1)) := by simp only [Z1u, h_0, h_1, cond_true, cond_false]
    rw [e]
    exact nextR E0Ok Z3 [] (mR false [0, 2, 3, 6, 15]) [] (ih (i_l0 + 1) (show 0 ≤ (i_l0 + 1) from (by omega)) (by omega)) (q (sB h_1 <| sI (i_l0 + 1) y_3 y_4 <| sN)) (by kernel_rfl)
  | false =>
   have gh_0 := of_decide_eq_false h_0
   have e : Z1u a_0 b_1 (k + 1) i_l0 = (.inr ()) := by simp only [Z1u, h_0, cond_false]
   rw [e]
   exact outR (e := (.exit 0)) E0Ok Z3 [] (mR false [0, 2, 4, 5, 15]) [] (p (sB h_0 <| sN)) (by kernel_rfl) (by intro h; cases h)
def Z3p (a_0 : (List Int)) (b_1 : (List Int)) : (Unit) ⊕ (Unit) := (Z1u a_0 b_1 (((a_0.length : Int) - 0).toNat + 1) 0)
def Z2e (a_0 : (List Int)) (b_1 : (List Int)) : Bool := (cond ((a_0.length : Int) != (b_1.length : Int))
  false
  (match (Z3p a_0 b_1) with
    | .inl r2 => false
    | .inr r2 => true))
theorem Z7S (a_0 : (List Int)) (b_1 : (List Int)) (hp0 : a_0.length ≤ 1073741824) (hp1 : b_1.length ≤ 1073741824)  : Fn prog 24 [.sl (a_0.map (cI .i64)), .sl (b_1.map (cI .i64))] (.b (Z2e a_0 b_1)) [] := by
 have p {a C} (s : Scr a C) := sZ (cI .i64) a_0 <| sZ (cI .i64) b_1 <| s
 cases h0 : ((a_0.length : Int) != (b_1.length : Int)) with
 | true =>
  have gh0 := bne_iff_ne.1 h0
  refine fnS E0Ok Z3 (c := bodyOf f24) [] (.b false) [] func24 (p (sB h0 <| sK [] sN)) rfl (by kernel_rfl) (by kernel_rfl) rfl ?_ ?_
  · simp only [Z2e, h0, cond_true]
  · rfl
 | false =>
  have gh0 := bne_eq_false_iff_eq.1 h0
  have q {a C} (s : Scr a C) := p (sB h0 <| s)
  clear p
  cases h1 : (Z3p a_0 b_1) with
  | inl r2 =>
   refine fnS E0Ok Z3 (c := bodyOf f24) [] (.b false) [] func24 (q (sL (mR false [0, 2, 3, 6, 15]) 0 (lp_val (Z4g a_0 b_1) (x := (Z3p a_0 b_1)) (Z77 a_0 b_1 hp0 hp1 h0 (((a_0.length : Int) - 0).toNat + 1) 0 (show 0 ≤ 0 from (by omega)) (Nat.lt_succ_self _)) h1) <| sK [] sN)) rfl (by kernel_rfl) (by kernel_rfl) rfl ?_ ?_
   · simp only [Z2e, h0, h1, cond_false]
   · rfl
  | inr r2 =>
   refine fnS E0Ok Z3 (c := bodyOf f24) [] (.b true) [] func24 (q (sL (mR false [0, 2, 3, 6, 15]) 0 (lp_val (Z4g a_0 b_1) (x := (Z3p a_0 b_1)) (Z77 a_0 b_1 hp0 hp1 h0 (((a_0.length : Int) - 0).toNat + 1) 0 (show 0 ≤ 0 from (by omega)) (Nat.lt_succ_self _)) h1) <| sK [] sN)) rfl (by kernel_rfl) (by kernel_rfl) rfl ?_ ?_
   · simp only [Z2e, h0, h1, cond_false]
   · rfl
theorem Z8I (a : List Int) : Z2e a a = true := by
  unfold Z2e Z3p
  rw [all_from (a := a) (p := fun v => !(v != v)) (lo := Z1u a a) (x := ()) (y := ()) (fun k i => by rw [Z1u]; cases (a.getD i.toNat default != a.getD i.toNat default) <;> rfl)]
  rw [show (a.all fun v => !(v != v)) = true from by rw [List.all_eq_true]; intro v _; simp]
  simp
def Z1B (a_0 : (List (List Int))) (b_1 : (List (List Int))) : Nat → Int → (Unit) ⊕ (Unit)
  | 0, _ => .inl default
  | k + 1, i_l0 => (cond (decide (i_l0 < (a_0.length : Int)))
    (cond (Z2e (a_0.getD i_l0.toNat default) (b_1.getD i_l0.toNat default))
      (Z1B a_0 b_1 k (i_l0 + 1))
      (.inl ()))
    (.inr ()))
def Z49 (a_0 : (List (List Int))) (b_1 : (List (List Int))) : (Unit) ⊕ (Unit) → Ex × St
  | .inl r => (.ret, ⟨an 4 (.b false :: an 22 []), []⟩)
  | .inr r => ((.exit 0), ⟨.sl (a_0.map (cL (cI .i64))) :: .sl (b_1.map (cL (cI .i64))) :: an 4 (.sl (a_0.map (cL (cI .i64))) :: .i .i64 (a_0.length : Int) :: .sl (b_1.map (cL (cI .i64))) :: .i .i64 (b_1.length : Int) :: .b ((a_0.length : Int) != (b_1.length : Int)) :: an 16 []), []⟩)
def Z93 (a_0 : (List (List Int))) (b_1 : (List (List Int))) (i_l0 : Int) : St := ⟨.sl (a_0.map (cL (cI .i64))) :: .sl (b_1.map (cL (cI .i64))) :: .any :: .any :: .any :: .i .i64 i_l0 :: .sl (a_0.map (cL (cI .i64))) :: .i .i64 (a_0.length : Int) :: .sl (b_1.map (cL (cI .i64))) :: .i .i64 (b_1.length : Int) :: .b ((a_0.length : Int) != (b_1.length : Int)) :: an 16 [], []⟩
theorem Z6S (a_0 : (List (List Int))) (b_1 : (List (List Int))) (hp0 : a_0.length ≤ 1073741824) (hp1 : ∀ t ∈ a_0, t.length ≤ 1073741824) (hp2 : b_1.length ≤ 1073741824) (hp3 : ∀ t ∈ b_1, t.length ≤ 1073741824) (Zc2 : ((a_0.length : Int) != (b_1.length : Int)) = false) : ∀ (k : Nat) (i_l0 : Int) (Z67 : 0 ≤ i_l0) (hk : ((a_0.length : Int) - i_l0).toNat < k), Lp prog 0 (sub (bodyOf f117) [1, 1, 0, 1, 0, 0]) (Z93 a_0 b_1 i_l0) (Z49 a_0 b_1 (Z1B a_0 b_1 k i_l0)).1 (Z49 a_0 b_1 (Z1B a_0 b_1 k i_l0)).2 := by
 intro k
 induction k with
 | zero => intro i_l0 Z67 hk; exact absurd hk (Nat.not_lt_zero _)
 | succ k ih =>
  intro i_l0 Z67 hk
  have p {a C} (s : Scr a C) := sZ (cL (cI .i64)) a_0 <| s
  cases h_0 : (decide (i_l0 < (a_0.length : Int))) with
  | true =>
   have gh_0 := of_decide_eq_true h_0
   have y_0 : (0 : Int) ≤ i_l0 := by clear p; exact (by assumption)
   have y_1 : i_l0 < (a_0.length : Int) := by clear p; exact (by assumption)
   have y_2 : i_l0 < (b_1.length : Int) := by clear p; exact (by simp_all <;> omega)
   have y_3 : (a_0.getD i_l0.toNat default).length ≤ 1073741824 := by clear p; exact (by simp_all <;> omega)
   have y_4 : (b_1.getD i_l0.toNat default).length ≤ 1073741824 := by clear p; exact (by simp_all <;> omega)
   have q {a C} (s : Scr a C) := p (sB h_0 <| sK [8, 8] <| sG (cL (cI .i64)) a_0 i_l0 y_0 y_1 <| sG (cL (cI .i64)) b_1 i_l0 y_0 y_2 <| sF (Z7S (a_0.getD i_l0.toNat default) (b_1.getD i_l0.toNat default) y_3 y_4) <| s)
   clear p
   cases h_1 : (Z2e (a_0.getD i_l0.toNat default) (b_1.getD i_l0.toNat default)) with
   | true =>
    have y_5 : (-9223372036854775808 : Int) ≤ (i_l0 + 1) := by clear q; exact (by omega)
    have y_6 : (i_l0 + 1) ≤ (9223372036854775807 : Int) := by clear q; exact (by omega)
    have e : Z1B a_0 b_1 (k + 1) i_l0 = (Z1B a_0 b_1 k (i_l0 + 1)) := by simp only [Z1B, h_0, h_1, cond_true]
    rw [e]
    exact nextR E0Ok Z3 [] (mR false [0, 2, 3, 6, 16]) [] (ih (i_l0 + 1) (show 0 ≤ (i_l0 + 1) from (by omega)) (by omega)) (q (sB' h_1 <| sI (i_l0 + 1) y_5 y_6 <| sN)) (by kernel_rfl)
   | false =>
    have e : Z1B a_0 b_1 (k + 1) i_l0 = (.inl ()) := by simp only [Z1B, h_0, h_1, cond_true, cond_false]
    rw [e]
    exact outR (e := .ret) E0Ok Z3 [] (mR false [4, 1, 22]) [] (q (sB' h_1 <| sN)) (by kernel_rfl) (by intro h; cases h)
  | false =>
   have gh_0 := of_decide_eq_false h_0
   have e : Z1B a_0 b_1 (k + 1) i_l0 = (.inr ()) := by simp only [Z1B, h_0, cond_false]
   rw [e]
   exact outR (e := (.exit 0)) E0Ok Z3 [] (mR false [0, 2, 4, 5, 16]) [] (p (sB h_0 <| sN)) (by kernel_rfl) (by intro h; cases h)
def Z3k (a_0 : (List (List Int))) (b_1 : (List (List Int))) : (Unit) ⊕ (Unit) := (Z1B a_0 b_1 (((a_0.length : Int) - 0).toNat + 1) 0)
def Z2V (a_0 : (List (List Int))) (b_1 : (List (List Int))) : Bool := (cond ((a_0.length : Int) != (b_1.length : Int))
  false
  (match (Z3k a_0 b_1) with
    | .inl r2 => false
    | .inr r2 => true))
theorem Zag (a_0 : (List (List Int))) (b_1 : (List (List Int))) (hp0 : a_0.length ≤ 1073741824) (hp1 : ∀ t ∈ a_0, t.length ≤ 1073741824) (hp2 : b_1.length ≤ 1073741824) (hp3 : ∀ t ∈ b_1, t.length ≤ 1073741824)  : Fn prog 117 [.sl (a_0.map (cL (cI .i64))), .sl (b_1.map (cL (cI .i64)))] (.b (Z2V a_0 b_1)) [] := by
 have p {a C} (s : Scr a C) := sZ (cL (cI .i64)) a_0 <| sZ (cL (cI .i64)) b_1 <| s
 cases h0 : ((a_0.length : Int) != (b_1.length : Int)) with
 | true =>
  have gh0 := bne_iff_ne.1 h0
  refine fnS E0Ok Z3 (c := bodyOf f117) [] (.b false) [] func117 (p (sB h0 <| sK [] sN)) rfl (by kernel_rfl) (by kernel_rfl) rfl ?_ ?_
  · simp only [Z2V, h0, cond_true]
  · rfl
 | false =>
  have gh0 := bne_eq_false_iff_eq.1 h0
  have q {a C} (s : Scr a C) := p (sB h0 <| s)
  clear p
  cases h1 : (Z3k a_0 b_1) with
  | inl r2 =>
   refine fnS E0Ok Z3 (c := bodyOf f117) [] (.b false) [] func117 (q (sL (mR false [0, 2, 3, 6, 16]) 0 (lp_val (Z49 a_0 b_1) (x := (Z3k a_0 b_1)) (Z6S a_0 b_1 hp0 hp1 hp2 hp3 h0 (((a_0.length : Int) - 0).toNat + 1) 0 (show 0 ≤ 0 from (by omega)) (Nat.lt_succ_self _)) h1) <| sK [] sN)) rfl (by kernel_rfl) (by kernel_rfl) rfl ?_ ?_
   · simp only [Z2V, h0, h1, cond_false]
   · rfl
  | inr r2 =>
   refine fnS E0Ok Z3 (c := bodyOf f117) [] (.b true) [] func117 (q (sL (mR false [0, 2, 3, 6, 16]) 0 (lp_val (Z49 a_0 b_1) (x := (Z3k a_0 b_1)) (Z6S a_0 b_1 hp0 hp1 hp2 hp3 h0 (((a_0.length : Int) - 0).toNat + 1) 0 (show 0 ≤ 0 from (by omega)) (Nat.lt_succ_self _)) h1) <| sK [] sN)) rfl (by kernel_rfl) (by kernel_rfl) rfl ?_ ?_
   · simp only [Z2V, h0, h1, cond_false]
   · rfl
theorem ZaQ (a : List (List Int)) : Z2V a a = true := by
  unfold Z2V Z3k
  rw [all_from (a := a) (p := fun v => Z2e v v) (lo := Z1B a a) (x := ()) (y := ()) (fun k i => rfl)]
  rw [show (a.all fun v => Z2e v v) = true from by rw [List.all_eq_true]; intro v _; exact Z8I v]
  simp
def Z3r (a_0 : GMesh) (b_1 : GMesh) : Bool := (cond (Z2y a_0.Places b_1.Places)
  (cond (Z2V a_0.Triangles b_1.Triangles)
    true
    false)
  false)
theorem Zbl (a_0 : GMesh) (b_1 : GMesh) (hp0 : a_0.Places.length ≤ 1073741824) (hp1 : a_0.Triangles.length ≤ 1073741824) (hp2 : ∀ t ∈ a_0.Triangles, t.length ≤ 1073741824) (hp3 : b_1.Places.length ≤ 1073741824) (hp4 : b_1.Triangles.length ≤ 1073741824) (hp5 : ∀ t ∈ b_1.Triangles, t.length ≤ 1073741824)  : Fn prog 59 [.agg [.sl (a_0.Places.map GVector.cells), .sl (a_0.Triangles.map (cL (cI .i64)))], .agg [.sl (b_1.Places.map GVector.cells), .sl (b_1.Triangles.map (cL (cI .i64)))]] (.b (Z3r a_0 b_1)) [] := by
 have p {a C} (s : Scr a C) := sF (Z4L a_0.Places b_1.Places hp0 hp3) <| s
 cases h0 : (Z2y a_0.Places b_1.Places) with
 | true =>
  have q {a C} (s : Scr a C) := p (sB' h0 <| sF (Zag a_0.Triangles b_1.Triangles hp1 hp2 hp4 hp5) <| s)
  clear p
  cases h1 : (Z2V a_0.Triangles b_1.Triangles) with
  | true =>
   refine fnS E0Ok Z3 (c := bodyOf f59) [] (.b true) [] func59 (q (sB' h1 <| sK [] sN)) rfl (by kernel_rfl) (by kernel_rfl) rfl ?_ ?_
   · simp only [Z3r, h0, h1, cond_true]
   · rfl
  | false =>
   refine fnS E0Ok Z3 (c := bodyOf f59) [] (.b false) [] func59 (q (sB' h1 <| sK [] sN)) rfl (by kernel_rfl) (by kernel_rfl) rfl ?_ ?_
   · simp only [Z3r, h0, h1, cond_true, cond_false]
   · rfl
 | false =>
  refine fnS E0Ok Z3 (c := bodyOf f59) [] (.b false) [] func59 (p (sB' h0 <| sK [] sN)) rfl (by kernel_rfl) (by kernel_rfl) rfl ?_ ?_
  · simp only [Z3r, h0, cond_false]
  · rfl
theorem ZbL (a : GMesh) : Z3r a a = true := by
  simp [Z3r, Z8h, ZaQ]
def Z2f (a_0 : GSpring) (b_1 : GSpring) : Bool := (cond (a_0.A != b_1.A)
  false
  (cond (a_0.B != b_1.B)
    false
    (cond (Zs (fcv .f32 .f64 a_0.Long) (fcv .f32 .f64 b_1.Long))
      (cond (Zs (fcv .f32 .f64 a_0.Stiff) (fcv .f32 .f64 b_1.Stiff))
        true
        false)
      false)))
theorem ZaB (a_0 : GSpring) (b_1 : GSpring)   : Fn prog 118 [.agg [.i .i64 a_0.A, .i .i64 a_0.B, .f .f32 a_0.Long, .f .f32 a_0.Stiff], .agg [.i .i64 b_1.A, .i .i64 b_1.B, .f .f32 b_1.Long, .f .f32 b_1.Stiff]] (.b (Z2f a_0 b_1)) [] := by
 cases h0 : (a_0.A != b_1.A) with
 | true =>
  have gh0 := bne_iff_ne.1 h0
  refine fnS E0Ok Z3 (c := bodyOf f118) [] (.b false) [] func118 (sB h0 <| sK [] sN) rfl (by kernel_rfl) (by kernel_rfl) rfl ?_ ?_
  · simp only [Z2f, h0, cond_true]
  · rfl
 | false =>
  have gh0 := bne_eq_false_iff_eq.1 h0
  have p {a C} (s : Scr a C) := sB h0 <| s
  cases h1 : (a_0.B != b_1.B) with
  | true =>
   have gh1 := bne_iff_ne.1 h1
   refine fnS E0Ok Z3 (c := bodyOf f118) [] (.b false) [] func118 (p (sB h1 <| sK [] sN)) rfl (by kernel_rfl) (by kernel_rfl) rfl ?_ ?_
   · simp only [Z2f, h0, h1, cond_true, cond_false]
   · rfl
  | false =>
   have gh1 := bne_eq_false_iff_eq.1 h1
   have q {a C} (s : Scr a C) := p (sB h1 <| sC (widenOk a_0.Long) <| sC (widenOk b_1.Long) <| sF (Z2U (fcv .f32 .f64 a_0.Long) (fcv .f32 .f64 b_1.Long)) <| s)
   clear p
   cases h2 : (Zs (fcv .f32 .f64 a_0.Long) (fcv .f32 .f64 b_1.Long)) with
   | true =>
    have p {a C} (s : Scr a C) := q (sB' h2 <| sC (widenOk a_0.Stiff) <| sC (widenOk b_1.Stiff) <| sF (Z2U (fcv .f32 .f64 a_0.Stiff) (fcv .f32 .f64 b_1.Stiff)) <| s)
    clear q
    cases h3 : (Zs (fcv .f32 .f64 a_0.Stiff) (fcv .f32 .f64 b_1.Stiff)) with
    | true =>
     refine fnS E0Ok Z3 (c := bodyOf f118) [] (.b true) [] func118 (p (sB' h3 <| sK [] sN)) rfl (by kernel_rfl) (by kernel_rfl) rfl ?_ ?_
     · simp only [Z2f, h0, h1, h2, h3, cond_true, cond_false]
     · rfl
    | false =>
     refine fnS E0Ok Z3 (c := bodyOf f118) [] (.b false) [] func118 (p (sB' h3 <| sK [] sN)) rfl (by kernel_rfl) (by kernel_rfl) rfl ?_ ?_
     · simp only [Z2f, h0, h1, h2, h3, cond_true, cond_false]
     · rfl
   | false =>
    refine fnS E0Ok Z3 (c := bodyOf f118) [] (.b false) [] func118 (q (sB' h2 <| sK [] sN)) rfl (by kernel_rfl) (by kernel_rfl) rfl ?_ ?_
    · simp only [Z2f, h0, h1, h2, cond_false]
    · rfl
theorem Zbm (a : GSpring) : Z2f a a = true := by
  simp [Z2f, Z7Q]
def Z1C (a_0 : (List GSpring)) (b_1 : (List GSpring)) : Nat → Int → (Unit) ⊕ (Unit)
  | 0, _ => .inl default
  | k + 1, i_l0 => (cond (decide (i_l0 < (a_0.length : Int)))
    (cond (Z2f (a_0.getD i_l0.toNat default) (b_1.getD i_l0.toNat default))
      (Z1C a_0 b_1 k (i_l0 + 1))
      (.inl ()))
    (.inr ()))
def Z4a (a_0 : (List GSpring)) (b_1 : (List GSpring)) : (Unit) ⊕ (Unit) → Ex × St
  | .inl r => (.ret, ⟨an 4 (.b false :: an 22 []), []⟩)
  | .inr r => ((.exit 0), ⟨.sl (a_0.map GSpring.cells) :: .sl (b_1.map GSpring.cells) :: an 4 (.sl (a_0.map GSpring.cells) :: .i .i64 (a_0.length : Int) :: .sl (b_1.map GSpring.cells) :: .i .i64 (b_1.length : Int) :: .b ((a_0.length : Int) != (b_1.length : Int)) :: an 16 []), []⟩)
def Z94 (a_0 : (List GSpring)) (b_1 : (List GSpring)) (i_l0 : Int) : St := ⟨.sl (a_0.map GSpring.cells) :: .sl (b_1.map GSpring.cells) :: .any :: .any :: .any :: .i .i64 i_l0 :: .sl (a_0.map GSpring.cells) :: .i .i64 (a_0.length : Int) :: .sl (b_1.map GSpring.cells) :: .i .i64 (b_1.length : Int) :: .b ((a_0.length : Int) != (b_1.length : Int)) :: an 16 [], []⟩
theorem Z6T (a_0 : (List GSpring)) (b_1 : (List GSpring)) (hp0 : a_0.length ≤ 1073741824) (hp1 : b_1.length ≤ 1073741824) (Zc3 : ((a_0.length : Int) != (b_1.length : Int)) = false) : ∀ (k : Nat) (i_l0 : Int) (Z68 : 0 ≤ i_l0) (hk : ((a_0.length : Int) - i_l0).toNat < k), Lp prog 0 (sub (bodyOf f60) [1, 1, 0, 1, 0, 0]) (Z94 a_0 b_1 i_l0) (Z4a a_0 b_1 (Z1C a_0 b_1 k i_l0)).1 (Z4a a_0 b_1 (Z1C a_0 b_1 k i_l0)).2 := by
 intro k
 induction k with
 | zero => intro i_l0 Z68 hk; exact absurd hk (Nat.not_lt_zero _)
 | succ k ih =>
  intro i_l0 Z68 hk
  have p {a C} (s : Scr a C) := sZ GSpring.cells a_0 <| s
  cases h_0 : (decide (i_l0 < (a_0.length : Int))) with
  | true =>
   have gh_0 := of_decide_eq_true h_0
   have y_0 : (0 : Int) ≤ i_l0 := by clear p; exact (by assumption)
   have y_1 : i_l0 < (a_0.length : Int) := by clear p; exact (by assumption)
   have y_2 : i_l0 < (b_1.length : Int) := by clear p; exact (by simp_all <;> omega)
   have q {a C} (s : Scr a C) := p (sB h_0 <| sK [8, 8] <| sG GSpring.cells a_0 i_l0 y_0 y_1 <| sG GSpring.cells b_1 i_l0 y_0 y_2 <| sF (ZaB (a_0.getD i_l0.toNat default) (b_1.getD i_l0.toNat default)) <| s)
   clear p
   cases h_1 : (Z2f (a_0.getD i_l0.toNat default) (b_1.getD i_l0.toNat default)) with
   | true =>
    have y_3 : (-9223372036854775808 : Int) ≤ (i_l0 + 1) := by clear q; exact (by omega)
    have y_4 : (i_l0 + 1) ≤ (9223372036854775807 : Int) := by clear q; exact (by omega)
    have e : Z1C a_0 b_1 (k + 1) i_l0 = (Z1C a_0 b_1 k (i_l0 + 1)) := by simp only [Z1C, h_0, h_1, cond_true]
    rw [e]
    exact nextR E0Ok Z3 [] (mR false [0, 2, 3, 6, 16]) [] (ih (i_l0 + 1) (show 0 ≤ (i_l0 + 1) from (by omega)) (by omega)) (q (sB' h_1 <| sI (i_l0 + 1) y_3 y_4 <| sN)) (by kernel_rfl)
   | false =>
    have e : Z1C a_0 b_1 (k + 1) i_l0 = (.inl ()) := by simp only [Z1C, h_0, h_1, cond_true, cond_false]
    rw [e]
    exact outR (e := .ret) E0Ok Z3 [] (mR false [4, 1, 22]) [] (q (sB' h_1 <| sN)) (by kernel_rfl) (by intro h; cases h)
  | false =>
   have gh_0 := of_decide_eq_false h_0
   have e : Z1C a_0 b_1 (k + 1) i_l0 = (.inr ()) := by simp only [Z1C, h_0, cond_false]
   rw [e]
   exact outR (e := (.exit 0)) E0Ok Z3 [] (mR false [0, 2, 4, 5, 16]) [] (p (sB h_0 <| sN)) (by kernel_rfl) (by intro h; cases h)
def Z3l (a_0 : (List GSpring)) (b_1 : (List GSpring)) : (Unit) ⊕ (Unit) := (Z1C a_0 b_1 (((a_0.length : Int) - 0).toNat + 1) 0)
def Z2W (a_0 : (List GSpring)) (b_1 : (List GSpring)) : Bool := (cond ((a_0.length : Int) != (b_1.length : Int))
  false
  (match (Z3l a_0 b_1) with
    | .inl r2 => false
    | .inr r2 => true))
theorem Zah (a_0 : (List GSpring)) (b_1 : (List GSpring)) (hp0 : a_0.length ≤ 1073741824) (hp1 : b_1.length ≤ 1073741824)  : Fn prog 60 [.sl (a_0.map GSpring.cells), .sl (b_1.map GSpring.cells)] (.b (Z2W a_0 b_1)) [] := by
 have p {a C} (s : Scr a C) := sZ GSpring.cells a_0 <| sZ GSpring.cells b_1 <| s
 cases h0 : ((a_0.length : Int) != (b_1.length : Int)) with
 | true =>
  have gh0 := bne_iff_ne.1 h0
  refine fnS E0Ok Z3 (c := bodyOf f60) [] (.b false) [] func60 (p (sB h0 <| sK [] sN)) rfl (by kernel_rfl) (by kernel_rfl) rfl ?_ ?_
  · simp only [Z2W, h0, cond_true]
  · rfl
 | false =>
  have gh0 := bne_eq_false_iff_eq.1 h0
  have q {a C} (s : Scr a C) := p (sB h0 <| s)
  clear p
  cases h1 : (Z3l a_0 b_1) with
  | inl r2 =>
   refine fnS E0Ok Z3 (c := bodyOf f60) [] (.b false) [] func60 (q (sL (mR false [0, 2, 3, 6, 16]) 0 (lp_val (Z4a a_0 b_1) (x := (Z3l a_0 b_1)) (Z6T a_0 b_1 hp0 hp1 h0 (((a_0.length : Int) - 0).toNat + 1) 0 (show 0 ≤ 0 from (by omega)) (Nat.lt_succ_self _)) h1) <| sK [] sN)) rfl (by kernel_rfl) (by kernel_rfl) rfl ?_ ?_
   · simp only [Z2W, h0, h1, cond_false]
   · rfl
  | inr r2 =>
   refine fnS E0Ok Z3 (c := bodyOf f60) [] (.b true) [] func60 (q (sL (mR false [0, 2, 3, 6, 16]) 0 (lp_val (Z4a a_0 b_1) (x := (Z3l a_0 b_1)) (Z6T a_0 b_1 hp0 hp1 h0 (((a_0.length : Int) - 0).toNat + 1) 0 (show 0 ≤ 0 from (by omega)) (Nat.lt_succ_self _)) h1) <| sK [] sN)) rfl (by kernel_rfl) (by kernel_rfl) rfl ?_ ?_
   · simp only [Z2W, h0, h1, cond_false]
   · rfl
theorem ZaR (a : List GSpring) : Z2W a a = true := by
  unfold Z2W Z3l
  rw [all_from (a := a) (p := fun v => Z2f v v) (lo := Z1C a a) (x := ()) (y := ()) (fun k i => rfl)]
  rw [show (a.all fun v => Z2f v v) = true from by rw [List.all_eq_true]; intro v _; exact Zbm v]
  simp
def Z1p (a_0 : (List Nat)) (b_1 : (List Nat)) : Nat → Int → (Unit) ⊕ (Unit)
  | 0, _ => .inl default
  | k + 1, i_l0 => (cond (decide (i_l0 < (a_0.length : Int)))
    (cond (Zs (fcv .f32 .f64 (a_0.getD i_l0.toNat default)) (fcv .f32 .f64 (b_1.getD i_l0.toNat default)))
      (Z1p a_0 b_1 k (i_l0 + 1))
      (.inl ()))
    (.inr ()))
def Z3U (a_0 : (List Nat)) (b_1 : (List Nat)) : (Unit) ⊕ (Unit) → Ex × St
  | .inl r => (.ret, ⟨an 4 (.b false :: an 24 []), []⟩)
  | .inr r => ((.exit 0), ⟨.sl (a_0.map (cF .f32)) :: .sl (b_1.map (cF .f32)) :: an 4 (.sl (a_0.map (cF .f32)) :: .i .i64 (a_0.length : Int) :: .sl (b_1.map (cF .f32)) :: .i .i64 (b_1.length : Int) :: .b ((a_0.length : Int) != (b_1.length : Int)) :: an 18 []), []⟩)
def Z8E (a_0 : (List Nat)) (b_1 : (List Nat)) (i_l0 : Int) : St := ⟨.sl (a_0.map (cF .f32)) :: .sl (b_1.map (cF .f32)) :: .any :: .any :: .any :: .i .i64 i_l0 :: .sl (a_0.map (cF .f32)) :: .i .i64 (a_0.length : Int) :: .sl (b_1.map (cF .f32)) :: .i .i64 (b_1.length : Int) :: .b ((a_0.length : Int) != (b_1.length : Int)) :: an 18 [], []⟩
theorem Z6z (a_0 : (List Nat)) (b_1 : (List Nat)) (hp0 : a_0.length ≤ 1073741824) (hp1 : b_1.length ≤ 1073741824) (ZbM : ((a_0.length : Int) != (b_1.length : Int)) = false) : ∀ (k : Nat) (i_l0 : Int) (Z5B : 0 ≤ i_l0) (hk : ((a_0.length : Int) - i_l0).toNat < k), Lp prog 0 (sub (bodyOf f40) [1, 1, 0, 1, 0, 0]) (Z8E a_0 b_1 i_l0) (Z3U a_0 b_1 (Z1p a_0 b_1 k i_l0)).1 (Z3U a_0 b_1 (Z1p a_0 b_1 k i_l0)).2 := by
 intro k
 induction k with
 | zero => intro i_l0 Z5B hk; exact absurd hk (Nat.not_lt_zero _)
 | succ k ih =>
  intro i_l0 Z5B hk
  have p {a C} (s : Scr a C) := sZ (cF .f32) a_0 <| s
  cases h_0 : (decide (i_l0 < (a_0.length : Int))) with
  | true =>
   have gh_0 := of_decide_eq_true h_0
   have y_0 : (0 : Int) ≤ i_l0 := by clear p; exact (by assumption)
   have y_1 : i_l0 < (a_0.length : Int) := by clear p; exact (by assumption)
   have y_2 : i_l0 < (b_1.length : Int) := by clear p; exact (by simp_all <;> omega)
   have q {a C} (s : Scr a C) := p (sB h_0 <| sK [10, 10] <| sG (cF .f32) a_0 i_l0 y_0 y_1 <| sC (widenOk (a_0.getD i_l0.toNat default)) <| sG (cF .f32) b_1 i_l0 y_0 y_2 <| sC (widenOk (b_1.getD i_l0.toNat default)) <| sF (Z2U (fcv .f32 .f64 (a_0.getD i_l0.toNat default)) (fcv .f32 .f64 (b_1.getD i_l0.toNat default))) <| s)
   clear p
   cases h_1 : (Zs (fcv .f32 .f64 (a_0.getD i_l0.toNat default)) (fcv .f32 .f64 (b_1.getD i_l0.toNat default))) with
   | true =>
    have y_3 : (-9223372036854775808 : Int) ≤ (i_l0 + 1) := by clear q; exact (by omega)
    have y_4 : (i_l0 + 1) ≤ (9223372036854775807 : Int) := by clear q; exact (by omega)
    have e : Z1p a_0 b_1 (k + 1) i_l0 = (Z1p a_0 b_1 k (i_l0 + 1)) := by simp only [Z1p, h_0, h_1, cond_true]
    rw [e]
    exact nextR E0Ok Z3 [] (mR false [0, 2, 3, 6, 18]) [] (ih (i_l0 + 1) (show 0 ≤ (i_l0 + 1) from (by omega)) (by omega)) (q (sB' h_1 <| sI (i_l0 + 1) y_3 y_4 <| sN)) (by kernel_rfl)
   | false =>
    have e : Z1p a_0 b_1 (k + 1) i_l0 = (.inl ()) := by simp only [Z1p, h_0, h_1, cond_true, cond_false]
    rw [e]
    exact outR (e := .ret) E0Ok Z3 [] (mR false [4, 1, 24]) [] (q (sB' h_1 <| sN)) (by kernel_rfl) (by intro h; cases h)
  | false =>
   have gh_0 := of_decide_eq_false h_0
   have e : Z1p a_0 b_1 (k + 1) i_l0 = (.inr ()) := by simp only [Z1p, h_0, cond_false]
   rw [e]
   exact outR (e := (.exit 0)) E0Ok Z3 [] (mR false [0, 2, 4, 5, 18]) [] (p (sB h_0 <| sN)) (by kernel_rfl) (by intro h; cases h)
def Z38 (a_0 : (List Nat)) (b_1 : (List Nat)) : (Unit) ⊕ (Unit) := (Z1p a_0 b_1 (((a_0.length : Int) - 0).toNat + 1) 0)
def Z2S (a_0 : (List Nat)) (b_1 : (List Nat)) : Bool := (cond ((a_0.length : Int) != (b_1.length : Int))
  false
  (match (Z38 a_0 b_1) with
    | .inl r2 => false
    | .inr r2 => true))
theorem Z9P (a_0 : (List Nat)) (b_1 : (List Nat)) (hp0 : a_0.length ≤ 1073741824) (hp1 : b_1.length ≤ 1073741824)  : Fn prog 40 [.sl (a_0.map (cF .f32)), .sl (b_1.map (cF .f32))] (.b (Z2S a_0 b_1)) [] := by
 have p {a C} (s : Scr a C) := sZ (cF .f32) a_0 <| sZ (cF .f32) b_1 <| s
 cases h0 : ((a_0.length : Int) != (b_1.length : Int)) with
 | true =>
  have gh0 := bne_iff_ne.1 h0
  refine fnS E0Ok Z3 (c := bodyOf f40) [] (.b false) [] func40 (p (sB h0 <| sK [] sN)) rfl (by kernel_rfl) (by kernel_rfl) rfl ?_ ?_
  · simp only [Z2S, h0, cond_true]
  · rfl
 | false =>
  have gh0 := bne_eq_false_iff_eq.1 h0
  have q {a C} (s : Scr a C) := p (sB h0 <| s)
  clear p
  cases h1 : (Z38 a_0 b_1) with
  | inl r2 =>
   refine fnS E0Ok Z3 (c := bodyOf f40) [] (.b false) [] func40 (q (sL (mR false [0, 2, 3, 6, 18]) 0 (lp_val (Z3U a_0 b_1) (x := (Z38 a_0 b_1)) (Z6z a_0 b_1 hp0 hp1 h0 (((a_0.length : Int) - 0).toNat + 1) 0 (show 0 ≤ 0 from (by omega)) (Nat.lt_succ_self _)) h1) <| sK [] sN)) rfl (by kernel_rfl) (by kernel_rfl) rfl ?_ ?_
   · simp only [Z2S, h0, h1, cond_false]
   · rfl
  | inr r2 =>
   refine fnS E0Ok Z3 (c := bodyOf f40) [] (.b true) [] func40 (q (sL (mR false [0, 2, 3, 6, 18]) 0 (lp_val (Z3U a_0 b_1) (x := (Z38 a_0 b_1)) (Z6z a_0 b_1 hp0 hp1 h0 (((a_0.length : Int) - 0).toNat + 1) 0 (show 0 ≤ 0 from (by omega)) (Nat.lt_succ_self _)) h1) <| sK [] sN)) rfl (by kernel_rfl) (by kernel_rfl) rfl ?_ ?_
   · simp only [Z2S, h0, h1, cond_false]
   · rfl
theorem ZaC (a : List Nat) : Z2S a a = true := by
  unfold Z2S Z38
  rw [all_from (a := a) (p := fun v => Zs (fcv .f32 .f64 v) (fcv .f32 .f64 v)) (lo := Z1p a a) (x := ()) (y := ()) (fun k i => rfl)]
  rw [show (a.all fun v => Zs (fcv .f32 .f64 v) (fcv .f32 .f64 v)) = true from by rw [List.all_eq_true]; intro v _; exact Z7Q _]
  simp
def Z2D (a_0 : GBody) (b_1 : GBody) : Bool := (cond (Z3r a_0.Mesh b_1.Mesh)
  (cond (Z2W a_0.Springs b_1.Springs)
    (cond (Zs (fcv .f32 .f64 a_0.Film) (fcv .f32 .f64 b_1.Film))
      (cond (Zs (fcv .f32 .f64 a_0.Bend) (fcv .f32 .f64 b_1.Bend))
        (cond (Z2S a_0.Weights b_1.Weights)
          (cond (Z2d a_0.Fall b_1.Fall)
            true
            false)
          false)
        false)
      false)
    false)
  false)
theorem Zbn (a_0 : GBody) (b_1 : GBody) (hp0 : a_0.Mesh.Places.length ≤ 1073741824) (hp1 : a_0.Mesh.Triangles.length ≤ 1073741824) (hp2 : ∀ t ∈ a_0.Mesh.Triangles, t.length ≤ 1073741824) (hp3 : a_0.Springs.length ≤ 1073741824) (hp4 : a_0.Weights.length ≤ 1073741824) (hp5 : b_1.Mesh.Places.length ≤ 1073741824) (hp6 : b_1.Mesh.Triangles.length ≤ 1073741824) (hp7 : ∀ t ∈ b_1.Mesh.Triangles, t.length ≤ 1073741824) (hp8 : b_1.Springs.length ≤ 1073741824) (hp9 : b_1.Weights.length ≤ 1073741824)  : Fn prog 16 [.agg [.sl (a_0.Mesh.Places.map GVector.cells), .sl (a_0.Mesh.Triangles.map (cL (cI .i64))), .sl (a_0.Springs.map GSpring.cells), .f .f32 a_0.Film, .f .f32 a_0.Bend, .sl (a_0.Weights.map (cF .f32)), .f .f32 a_0.Fall.X, .f .f32 a_0.Fall.Y, .f .f32 a_0.Fall.Z], .agg [.sl (b_1.Mesh.Places.map GVector.cells), .sl (b_1.Mesh.Triangles.map (cL (cI .i64))), .sl (b_1.Springs.map GSpring.cells), .f .f32 b_1.Film, .f .f32 b_1.Bend, .sl (b_1.Weights.map (cF .f32)), .f .f32 b_1.Fall.X, .f .f32 b_1.Fall.Y, .f .f32 b_1.Fall.Z]] (.b (Z2D a_0 b_1)) [] := by
 have p {a C} (s : Scr a C) := sF (Zbl a_0.Mesh b_1.Mesh hp0 hp1 hp2 hp5 hp6 hp7) <| s
 cases h0 : (Z3r a_0.Mesh b_1.Mesh) with
 | true =>
  have q {a C} (s : Scr a C) := p (sB' h0 <| sF (Zah a_0.Springs b_1.Springs hp3 hp8) <| s)
  clear p
  cases h1 : (Z2W a_0.Springs b_1.Springs) with
  | true =>
   have p {a C} (s : Scr a C) := q (sB' h1 <| sC (widenOk a_0.Film) <| sC (widenOk b_1.Film) <| sF (Z2U (fcv .f32 .f64 a_0.Film) (fcv .f32 .f64 b_1.Film)) <| s)
   clear q
   cases h2 : (Zs (fcv .f32 .f64 a_0.Film) (fcv .f32 .f64 b_1.Film)) with
   | true =>
    have q {a C} (s : Scr a C) := p (sB' h2 <| sC (widenOk a_0.Bend) <| sC (widenOk b_1.Bend) <| sF (Z2U (fcv .f32 .f64 a_0.Bend) (fcv .f32 .f64 b_1.Bend)) <| s)
    clear p
    cases h3 : (Zs (fcv .f32 .f64 a_0.Bend) (fcv .f32 .f64 b_1.Bend)) with
    | true =>
     have p {a C} (s : Scr a C) := q (sB' h3 <| sF (Z9P a_0.Weights b_1.Weights hp4 hp9) <| s)
     clear q
     cases h4 : (Z2S a_0.Weights b_1.Weights) with
     | true =>
      have q {a C} (s : Scr a C) := p (sB' h4 <| sF (Z7R a_0.Fall b_1.Fall) <| s)
      clear p
      cases h5 : (Z2d a_0.Fall b_1.Fall) with
      | true =>
       refine fnS E0Ok Z3 (c := bodyOf f16) [] (.b true) [] func16 (q (sB' h5 <| sK [] sN)) rfl (by kernel_rfl) (by kernel_rfl) rfl ?_ ?_
       · simp only [Z2D, h0, h1, h2, h3, h4, h5, cond_true]
       · rfl
      | false =>
       refine fnS E0Ok Z3 (c := bodyOf f16) [] (.b false) [] func16 (q (sB' h5 <| sK [] sN)) rfl (by kernel_rfl) (by kernel_rfl) rfl ?_ ?_
       · simp only [Z2D, h0, h1, h2, h3, h4, h5, cond_true, cond_false]
       · rfl
     | false =>
      refine fnS E0Ok Z3 (c := bodyOf f16) [] (.b false) [] func16 (p (sB' h4 <| sK [] sN)) rfl (by kernel_rfl) (by kernel_rfl) rfl ?_ ?_
      · simp only [Z2D, h0, h1, h2, h3, h4, cond_true, cond_false]
      · rfl
    | false =>
     refine fnS E0Ok Z3 (c := bodyOf f16) [] (.b false) [] func16 (q (sB' h3 <| sK [] sN)) rfl (by kernel_rfl) (by kernel_rfl) rfl ?_ ?_
     · simp only [Z2D, h0, h1, h2, h3, cond_true, cond_false]
     · rfl
   | false =>
    refine fnS E0Ok Z3 (c := bodyOf f16) [] (.b false) [] func16 (p (sB' h2 <| sK [] sN)) rfl (by kernel_rfl) (by kernel_rfl) rfl ?_ ?_
    · simp only [Z2D, h0, h1, h2, cond_true, cond_false]
    · rfl
  | false =>
   refine fnS E0Ok Z3 (c := bodyOf f16) [] (.b false) [] func16 (q (sB' h1 <| sK [] sN)) rfl (by kernel_rfl) (by kernel_rfl) rfl ?_ ?_
   · simp only [Z2D, h0, h1, cond_true, cond_false]
   · rfl
 | false =>
  refine fnS E0Ok Z3 (c := bodyOf f16) [] (.b false) [] func16 (p (sB' h0 <| sK [] sN)) rfl (by kernel_rfl) (by kernel_rfl) rfl ?_ ?_
  · simp only [Z2D, h0, cond_false]
  · rfl
end Go.Ab
