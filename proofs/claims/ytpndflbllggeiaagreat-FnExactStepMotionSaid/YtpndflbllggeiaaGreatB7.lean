/- The functions of this seat as plain Lean, and that the program's are these. Printed by a program of the prover's own. -/
import Derived.Test.YtpndflbllggeiaaGreatB6
set_option linter.unusedVariables false
set_option linter.unusedSimpArgs false
set_option maxRecDepth 100000
namespace Go.Ab
open Go.RowKit Go.Proofs.Tryz
theorem Zbg (Y0 : GBody) (Y1 : Int) (Yb : (List GVector)) : ∀ (k : Nat) (Y6 : Int) (Yp : (List GVector)) (hk : ((3 : Int) - Y6).toNat < k), (Z1g Y0 Y1 Yb k Y6 Yp).length = Yp.length := by
  intro k
  induction k with
  | zero => intro Y6 Yp hk; exact absurd hk (Nat.not_lt_zero _)
  | succ k ih =>
    intro Y6 Yp hk
    cases YD : (decide (Y6 < 3)) with
    | true =>
      have e : Z1g Y0 Y1 Yb (k + 1) Y6 Yp = (Z1g Y0 Y1 Yb k (Y6 + 1) (Z3q Y0 Y1 Y6 Yp)) := by simp only [Z1g, YD, cond_true]
      rw [e, ih (Y6 + 1) (Z3q Y0 Y1 Y6 Yp) (by simp_all <;> omega)]; simp
    | false =>
      have e : Z1g Y0 Y1 Yb (k + 1) Y6 Yp = Yp := by simp only [Z1g, YD, cond_false]
      first | (rw [e]; done) | (rw [e]; rfl)
def Z2D (Y0 : GBody) (Y1 : Int) (Yb : (List GVector)) : (List GVector) := (Z1g Y0 Y1 Yb (((3 : Int) - 0).toNat + 1) 0 Yb)
@[simp] theorem ZeT (Y0 : GBody) (Y1 : Int) (Yb : (List GVector)) : (Z2D Y0 Y1 Yb).length = (Yb : (List GVector)).length := Zbg Y0 Y1 Yb (((3 : Int) - 0).toNat + 1) 0 Yb (by exact Nat.lt_succ_self _)
def Zx (Y0 : GBody) : Nat → Int → (List GVector) → (List GVector)
  | 0, _, _ => default
  | k + 1, Y1, Yb => (cond (decide (Y1 < (Y0.Mesh.Triangles.length : Int)))
    (cond (fcmp .gtr .f32 (Zu (Zb Y0.Mesh (Y0.Mesh.Triangles.getD Y1.toNat default))) 0)
      (Zx Y0 k (Y1 + 1) (Z2C Y0 Y1 Yb))
      (Zx Y0 k (Y1 + 1) (Z2D Y0 Y1 Yb)))
    Yb)
def Z6I (Y0 : GBody) (r : (List GVector)) : Ex × St := ((.exit 2), ⟨.agg [.sl (Y0.Mesh.Places.map GVector.cells), .sl (Y0.Mesh.Triangles.map (cL (cI .i64))), .sl (Y0.Springs.map GSpring.cells), .f .f32 Y0.Film, .f .f32 Y0.Bend, .sl (Y0.Weights.map (cF .f32)), .f .f32 Y0.Fall.X, .f .f32 Y0.Fall.Y, .f .f32 Y0.Fall.Z] :: .ptr 0 0 0 :: .nils :: .ptr 1 0 0 :: .fn 106 [.ptr 1 0 0] :: an 18 (.ptr 0 0 0 :: .ptr 0 0 0 :: .sl (Y0.Mesh.Places.map GVector.cells) :: .i .i64 (Y0.Mesh.Places.length : Int) :: .own 2 :: .fn 106 [.ptr 1 0 0] :: .ptr 0 0 2 :: .sl (Y0.Springs.map GSpring.cells) :: an 25 (.ptr 0 0 0 :: .ptr 0 0 0 :: .sl (Y0.Mesh.Places.map GVector.cells) :: .ptr 0 0 0 :: .ptr 0 0 1 :: .sl (Y0.Mesh.Triangles.map (cL (cI .i64))) :: an 117 [])), [.box 42 [.sl (Y0.Mesh.Places.map GVector.cells), .sl (Y0.Mesh.Triangles.map (cL (cI .i64))), .sl (Y0.Springs.map GSpring.cells), .f .f32 Y0.Film, .f .f32 Y0.Bend, .sl (Y0.Weights.map (cF .f32)), .f .f32 Y0.Fall.X, .f .f32 Y0.Fall.Y, .f .f32 Y0.Fall.Z], .box 34 [.own 2], .vec 40 3 (r.map GVector.cells) false]⟩)
def Zcm (Y0 : GBody) (Y1 : Int) (Yb : (List GVector)) : St := ⟨.agg [.sl (Y0.Mesh.Places.map GVector.cells), .sl (Y0.Mesh.Triangles.map (cL (cI .i64))), .sl (Y0.Springs.map GSpring.cells), .f .f32 Y0.Film, .f .f32 Y0.Bend, .sl (Y0.Weights.map (cF .f32)), .f .f32 Y0.Fall.X, .f .f32 Y0.Fall.Y, .f .f32 Y0.Fall.Z] :: .ptr 0 0 0 :: .nils :: .ptr 1 0 0 :: .fn 106 [.ptr 1 0 0] :: an 4 (.sl (Y0.Mesh.Places.map GVector.cells) :: an 13 (.ptr 0 0 0 :: .ptr 0 0 0 :: .sl (Y0.Mesh.Places.map GVector.cells) :: .i .i64 (Y0.Mesh.Places.length : Int) :: .own 2 :: .fn 106 [.ptr 1 0 0] :: .ptr 0 0 2 :: .sl (Y0.Springs.map GSpring.cells) :: an 25 (.ptr 0 0 0 :: .ptr 0 0 0 :: .sl (Y0.Mesh.Places.map GVector.cells) :: .ptr 0 0 0 :: .ptr 0 0 1 :: .sl (Y0.Mesh.Triangles.map (cL (cI .i64))) :: .i .i64 (Y0.Mesh.Triangles.length : Int) :: .i .i64 Y1 :: an 115 []))), [.box 42 [.sl (Y0.Mesh.Places.map GVector.cells), .sl (Y0.Mesh.Triangles.map (cL (cI .i64))), .sl (Y0.Springs.map GSpring.cells), .f .f32 Y0.Film, .f .f32 Y0.Bend, .sl (Y0.Weights.map (cF .f32)), .f .f32 Y0.Fall.X, .f .f32 Y0.Fall.Y, .f .f32 Y0.Fall.Z], .box 34 [.own 2], .vec 40 3 (Yb.map GVector.cells) false]⟩
def Z5K : List Bool := (mR false [0, 5, 4, 1, 13, 8, 25, 8, 115])
theorem Zcn (Y0 : GBody) (hp0 : Y0.Mesh.Places.length ≤ 1073741824) (hp1 : Y0.Mesh.Triangles.length ≤ 1073741824) (hp2 : ∀ t ∈ Y0.Mesh.Triangles, t.length ≤ 1073741824) (hp3 : Y0.Springs.length ≤ 1073741824) (hp4 : Y0.Weights.length ≤ 1073741824) (hp5 : OkBd Y0) : ∀ (k : Nat) (Y1 : Int) (Yb : (List GVector)) (Z3I : 0 ≤ Y1) (Z3J : Yb.length = Y0.Mesh.Places.length) (hk : ((Y0.Mesh.Triangles.length : Int) - Y1).toNat < k), Lp prog 0 (sub (bodyOf f57) [1, 1, 1, 1, 1, 0, 1, 0, 0]) (Zcm Y0 Y1 Yb) (Z6I Y0 (Zx Y0 k Y1 Yb)).1 (Z6I Y0 (Zx Y0 k Y1 Yb)).2 := by
 intro k
 induction k with
 | zero => intro Y1 Yb Z3I Z3J hk; exact absurd hk (Nat.not_lt_zero _)
 | succ k ih =>
  intro Y1 Yb Z3I Z3J hk
  cases Yl : (decide (Y1 < (Y0.Mesh.Triangles.length : Int))) with
  | true =>
   have Yw := of_decide_eq_true Yl
   have YF : (0 : Int) ≤ Y1 := (by assumption)
   have YG : Y1 < (Y0.Mesh.Triangles.length : Int) := (by assumption)
   have YH : (Y0.Mesh.Triangles.getD Y1.toNat default).length ≤ 1073741824 := (by exact tri3L hp5.e (by assumption) Yl)
   have YI : (Y0.Mesh.Triangles.getD Y1.toNat default).length = 3 ∧ ∀ x ∈ (Y0.Mesh.Triangles.getD Y1.toNat default), 0 ≤ x ∧ x < (Y0.Mesh.Places.length : Int) := (by exact tri3 hp5.e (by assumption) Yl)
   have p {a C} (s : Scr a C) := sB Yl <| sG (cL (cI .i64)) Y0.Mesh.Triangles Y1 YF YG <| sF (ZdN Y0.Mesh (Y0.Mesh.Triangles.getD Y1.toNat default) hp0 hp1 hp2 YH YI) <| sF (Zbt (Zb Y0.Mesh (Y0.Mesh.Triangles.getD Y1.toNat default))) <| s
   cases Yr : (fcmp .gtr .f32 (Zu (Zb Y0.Mesh (Y0.Mesh.Triangles.getD Y1.toNat default))) 0) with
   | true =>
    have YP : (-9223372036854775808 : Int) ≤ (Y1 + 1) := by clear p; exact (by omega)
    have YS : (Y1 + 1) ≤ (9223372036854775807 : Int) := by clear p; exact (by omega)
    have e : Zx Y0 (k + 1) Y1 Yb = (Zx Y0 k (Y1 + 1) (Z2C Y0 Y1 Yb)) := by simp only [Zx, Yl, Yr, cond_true]
    rw [e]
    exact nextR E0Ok Z5 [] Z5K [0, 1, 3] (ih (Y1 + 1) (Z2C Y0 Y1 Yb) (show 0 ≤ (Y1 + 1) from (by omega)) (show (Z2C Y0 Y1 Yb).length = Y0.Mesh.Places.length from (by simp_all <;> omega)) (by omega)) (p (sB Yr <| sL Z86 4 (lp_val (Z6G Y0 Y1 Yb) (x := (Z2C Y0 Y1 Yb)) (Zcj Y0 Y1 Yb hp0 hp1 hp2 hp3 hp4 hp5 Z3I Z3J Yl (((3 : Int) - 0).toNat + 1) 0 Yb (show 0 ≤ 0 from (by omega)) (show Yb.length = Yb.length from (by omega)) (Nat.lt_succ_self _)) rfl) <| sI (Y1 + 1) YP YS <| sN)) (by kernel_rfl)
   | false =>
    have YP : (-9223372036854775808 : Int) ≤ (Y1 + 1) := by clear p; exact (by omega)
    have YS : (Y1 + 1) ≤ (9223372036854775807 : Int) := by clear p; exact (by omega)
    have e : Zx Y0 (k + 1) Y1 Yb = (Zx Y0 k (Y1 + 1) (Z2D Y0 Y1 Yb)) := by simp only [Zx, Yl, Yr, cond_true, cond_false]
    rw [e]
    exact nextR E0Ok Z5 [] Z5K [0, 1, 3] (ih (Y1 + 1) (Z2D Y0 Y1 Yb) (show 0 ≤ (Y1 + 1) from (by omega)) (show (Z2D Y0 Y1 Yb).length = Y0.Mesh.Places.length from (by simp_all <;> omega)) (by omega)) (p (sB Yr <| sL Z89 4 (lp_val (Z6H Y0 Y1 Yb) (x := (Z2D Y0 Y1 Yb)) (Zcl Y0 Y1 Yb hp0 hp1 hp2 hp3 hp4 hp5 Z3I Z3J Yl (((3 : Int) - 0).toNat + 1) 0 Yb (show 0 ≤ 0 from (by omega)) (show Yb.length = Yb.length from (by omega)) (Nat.lt_succ_self _)) rfl) <| sI (Y1 + 1) YP YS <| sN)) (by kernel_rfl)
  | false =>
   have Yw := of_decide_eq_false Yl
   have e : Zx Y0 (k + 1) Y1 Yb = Yb := by simp only [Zx, Yl, cond_false]
   rw [e]
   exact outR (e := (.exit 2)) E0Ok Z5 [] (mR false [0, 5, 18, 8, 25, 6, 117]) [0, 1, 2] (sB Yl <| sN) (by kernel_rfl) (by intro h; cases h)
theorem Zbh (Y0 : GBody) : ∀ (k : Nat) (Y1 : Int) (Yb : (List GVector)) (hk : ((Y0.Mesh.Triangles.length : Int) - Y1).toNat < k), (Zx Y0 k Y1 Yb).length = Yb.length := by
  intro k
  induction k with
  | zero => intro Y1 Yb hk; exact absurd hk (Nat.not_lt_zero _)
  | succ k ih =>
    intro Y1 Yb hk
    cases Yl : (decide (Y1 < (Y0.Mesh.Triangles.length : Int))) with
    | true =>
      cases Yr : (fcmp .gtr .f32 (Zu (Zb Y0.Mesh (Y0.Mesh.Triangles.getD Y1.toNat default))) 0) with
      | true =>
        have e : Zx Y0 (k + 1) Y1 Yb = (Zx Y0 k (Y1 + 1) (Z2C Y0 Y1 Yb)) := by simp only [Zx, Yl, Yr, cond_true]
        rw [e, ih (Y1 + 1) (Z2C Y0 Y1 Yb) (by simp_all <;> omega)]; simp
      | false =>
        have e : Zx Y0 (k + 1) Y1 Yb = (Zx Y0 k (Y1 + 1) (Z2D Y0 Y1 Yb)) := by simp only [Zx, Yl, Yr, cond_true, cond_false]
        rw [e, ih (Y1 + 1) (Z2D Y0 Y1 Yb) (by simp_all <;> omega)]; simp
    | false =>
      have e : Zx Y0 (k + 1) Y1 Yb = Yb := by simp only [Zx, Yl, cond_false]
      first | (rw [e]; done) | (rw [e]; rfl)
def Z33 (Y0 : GBody) : (List GVector) := (Zx Y0 (((Y0.Mesh.Triangles.length : Int) - 0).toNat + 1) 0 (Z32 Y0))
@[simp] theorem ZeU (Y0 : GBody) : (Z33 Y0).length = ((Z32 Y0) : (List GVector)).length := Zbh Y0 (((Y0.Mesh.Triangles.length : Int) - 0).toNat + 1) 0 (Z32 Y0) (by exact Nat.lt_succ_self _)
def Z34 (Y0 : GBody) (Y1 : Int) (Yb : (List GVector)) : (List GVector) := (Zv (((Z7 Y0.Mesh).getD Y1.toNat default).getD 0 default) (Zw Y0.Mesh ((Z7 Y0.Mesh).getD Y1.toNat default)) Y0.Bend Yb)
@[simp] theorem Z3x (Y0 : GBody) (Y1 : Int) (Yb : (List GVector)) : (Z34 Y0 Y1 Yb).length = Yb.length := by unfold Z34; simp
def Z2R (Y0 : GBody) (Y1 : Int) (Yb : (List GVector)) : (List GVector) := (Zv (((Z7 Y0.Mesh).getD Y1.toNat default).getD 1 default) (Zw Y0.Mesh ((Z7 Y0.Mesh).getD Y1.toNat default)) Y0.Bend (Z34 Y0 Y1 Yb))
@[simp] theorem Z3t (Y0 : GBody) (Y1 : Int) (Yb : (List GVector)) : (Z2R Y0 Y1 Yb).length = (Z34 Y0 Y1 Yb).length := by unfold Z2R; simp
def Z2S (Y0 : GBody) (Y1 : Int) (Yb : (List GVector)) : (List GVector) := (Zv (((Z7 Y0.Mesh).getD Y1.toNat default).getD 2 default) (Zw Y0.Mesh ((Z7 Y0.Mesh).getD Y1.toNat default)) (fneg .f32 Y0.Bend) (Z2R Y0 Y1 Yb))
@[simp] theorem Z3u (Y0 : GBody) (Y1 : Int) (Yb : (List GVector)) : (Z2S Y0 Y1 Yb).length = (Z2R Y0 Y1 Yb).length := by unfold Z2S; simp
def Z2T (Y0 : GBody) (Y1 : Int) (Yb : (List GVector)) : (List GVector) := (Zv (((Z7 Y0.Mesh).getD Y1.toNat default).getD 3 default) (Zw Y0.Mesh ((Z7 Y0.Mesh).getD Y1.toNat default)) (fneg .f32 Y0.Bend) (Z2S Y0 Y1 Yb))
@[simp] theorem Zfi (Y0 : GBody) (Y1 : Int) (Yb : (List GVector)) : (Z2T Y0 Y1 Yb).length = (Z2S Y0 Y1 Yb).length := by unfold Z2T; simp
def Z14 (Y0 : GBody) : Nat → Int → (List GVector) → (List GVector)
  | 0, _, _ => default
  | k + 1, Y1, Yb => (cond (decide (Y1 < ((Z7 Y0.Mesh).length : Int)))
    (Z14 Y0 k (Y1 + 1) (Z2T Y0 Y1 Yb))
    Yb)
def Z6J (Y0 : GBody) (r : (List GVector)) : Ex × St := ((.exit 6), ⟨.agg [.sl (Y0.Mesh.Places.map GVector.cells), .sl (Y0.Mesh.Triangles.map (cL (cI .i64))), .sl (Y0.Springs.map GSpring.cells), .f .f32 Y0.Film, .f .f32 Y0.Bend, .sl (Y0.Weights.map (cF .f32)), .f .f32 Y0.Fall.X, .f .f32 Y0.Fall.Y, .f .f32 Y0.Fall.Z] :: .ptr 0 0 0 :: .nils :: .ptr 1 0 0 :: .fn 106 [.ptr 1 0 0] :: an 18 (.ptr 0 0 0 :: .ptr 0 0 0 :: .sl (Y0.Mesh.Places.map GVector.cells) :: .i .i64 (Y0.Mesh.Places.length : Int) :: .own 2 :: .fn 106 [.ptr 1 0 0] :: .ptr 0 0 2 :: .sl (Y0.Springs.map GSpring.cells) :: an 25 (.ptr 0 0 0 :: .ptr 0 0 0 :: .sl (Y0.Mesh.Places.map GVector.cells) :: .ptr 0 0 0 :: .ptr 0 0 1 :: .sl (Y0.Mesh.Triangles.map (cL (cI .i64))) :: an 54 (.ptr 0 0 0 :: .agg [.sl (Y0.Mesh.Places.map GVector.cells), .sl (Y0.Mesh.Triangles.map (cL (cI .i64)))] :: .own 3 :: an 60 []))), [.box 42 [.sl (Y0.Mesh.Places.map GVector.cells), .sl (Y0.Mesh.Triangles.map (cL (cI .i64))), .sl (Y0.Springs.map GSpring.cells), .f .f32 Y0.Film, .f .f32 Y0.Bend, .sl (Y0.Weights.map (cF .f32)), .f .f32 Y0.Fall.X, .f .f32 Y0.Fall.Y, .f .f32 Y0.Fall.Z], .box 34 [.own 2], .vec 40 3 (r.map GVector.cells) false, .nest 49 ((Z7 Y0.Mesh).map fun l => l.map (cI .i64)) false]⟩)
def Zco (Y0 : GBody) (Y1 : Int) (Yb : (List GVector)) : St := ⟨.agg [.sl (Y0.Mesh.Places.map GVector.cells), .sl (Y0.Mesh.Triangles.map (cL (cI .i64))), .sl (Y0.Springs.map GSpring.cells), .f .f32 Y0.Film, .f .f32 Y0.Bend, .sl (Y0.Weights.map (cF .f32)), .f .f32 Y0.Fall.X, .f .f32 Y0.Fall.Y, .f .f32 Y0.Fall.Z] :: .ptr 0 0 0 :: .nils :: .ptr 1 0 0 :: .fn 106 [.ptr 1 0 0] :: an 18 (.ptr 0 0 0 :: .ptr 0 0 0 :: .sl (Y0.Mesh.Places.map GVector.cells) :: .i .i64 (Y0.Mesh.Places.length : Int) :: .own 2 :: .fn 106 [.ptr 1 0 0] :: .ptr 0 0 2 :: .sl (Y0.Springs.map GSpring.cells) :: an 25 (.ptr 0 0 0 :: .ptr 0 0 0 :: .sl (Y0.Mesh.Places.map GVector.cells) :: .ptr 0 0 0 :: .ptr 0 0 1 :: .sl (Y0.Mesh.Triangles.map (cL (cI .i64))) :: an 54 (.ptr 0 0 0 :: .agg [.sl (Y0.Mesh.Places.map GVector.cells), .sl (Y0.Mesh.Triangles.map (cL (cI .i64)))] :: .own 3 :: .i .i64 ((Z7 Y0.Mesh).length : Int) :: .i .i64 Y1 :: an 58 []))), [.box 42 [.sl (Y0.Mesh.Places.map GVector.cells), .sl (Y0.Mesh.Triangles.map (cL (cI .i64))), .sl (Y0.Springs.map GSpring.cells), .f .f32 Y0.Film, .f .f32 Y0.Bend, .sl (Y0.Weights.map (cF .f32)), .f .f32 Y0.Fall.X, .f .f32 Y0.Fall.Y, .f .f32 Y0.Fall.Z], .box 34 [.own 2], .vec 40 3 (Yb.map GVector.cells) false, .nest 49 ((Z7 Y0.Mesh).map fun l => l.map (cI .i64)) false]⟩
def Z8c : List Bool := (mR false [0, 5, 18, 8, 25, 6, 54, 5, 58])
def Zbi : List Bool := (mR false [0, 5, 18, 8, 25, 6, 54, 3, 60])
set_option maxHeartbeats 1000000 in
theorem Zcp (Y0 : GBody) (hp0 : Y0.Mesh.Places.length ≤ 1073741824) (hp1 : Y0.Mesh.Triangles.length ≤ 1073741824) (hp2 : ∀ t ∈ Y0.Mesh.Triangles, t.length ≤ 1073741824) (hp3 : Y0.Springs.length ≤ 1073741824) (hp4 : Y0.Weights.length ≤ 1073741824) (hp5 : OkBd Y0) : ∀ (k : Nat) (Y1 : Int) (Yb : (List GVector)) (Z8d : 0 ≤ Y1) (Z8e : Yb.length = Y0.Mesh.Places.length) (hk : (((Z7 Y0.Mesh).length : Int) - Y1).toNat < k), Lp prog 0 (sub (bodyOf f57) [1, 1, 1, 1, 1, 1, 0, 1, 0, 0]) (Zco Y0 Y1 Yb) (Z6J Y0 (Z14 Y0 k Y1 Yb)).1 (Z6J Y0 (Z14 Y0 k Y1 Yb)).2 := by
 intro k
 induction k with
 | zero => intro Y1 Yb Z8d Z8e hk; exact absurd hk (Nat.not_lt_zero _)
 | succ k ih =>
  intro Y1 Yb Z8d Z8e hk
  cases Yl : (decide (Y1 < ((Z7 Y0.Mesh).length : Int))) with
  | true =>
   have Yw := of_decide_eq_true Yl
   have YF : (0 : Int) ≤ Y1 := (by assumption)
   have YG : Int.toNat Y1 < (Z7 Y0.Mesh).length := (by omega)
   have YH : Y1.toNat < (Z7 Y0.Mesh).length := (by assumption)
   have YI : ((Z7 Y0.Mesh).getD Y1.toNat default).length ≤ 1073741824 := (by exact Zgy hp5.e (by assumption) Yl)
   have YP : ((Z7 Y0.Mesh).getD Y1.toNat default).length = 4 ∧ ∀ x ∈ ((Z7 Y0.Mesh).getD Y1.toNat default), 0 ≤ x ∧ x < (Y0.Mesh.Places.length : Int) := (by exact Z6S hp5.e (by assumption) Yl)
   have YS : (0 : Int) ≤ 0 := (by omega)
   have y_6 : 0 < (((Z7 Y0.Mesh).getD Y1.toNat default).length : Int) := (by omega)
   have y_7 : 0 < ((Z7 Y0.Mesh).getD Y1.toNat default).length := (by omega)
   have y_8 : Yb.length ≤ 1073741824 := (by omega)
   have y_9 : 0 ≤ (((Z7 Y0.Mesh).getD Y1.toNat default).getD 0 default) := (by (have q := Okh.at (Z6S hp5.e (by assumption) Yl); omega))
   have Y18 : (((Z7 Y0.Mesh).getD Y1.toNat default).getD 0 default) < (Yb.length : Int) := (by (have q := Okh.at (Z6S hp5.e (by assumption) Yl); omega))
   have Y1c : (0 : Int) ≤ 1 := (by omega)
   have Y1g : 1 < (((Z7 Y0.Mesh).getD Y1.toNat default).length : Int) := (by omega)
   have Y1h : 1 < ((Z7 Y0.Mesh).getD Y1.toNat default).length := (by omega)
   have Y1q : (Z34 Y0 Y1 Yb).length ≤ 1073741824 := (by (have q := Okh.at (Z6S hp5.e (by assumption) Yl); (simp only [Z3x, Z3t, Z3u]; omega)))
   have Y1r : 0 ≤ (((Z7 Y0.Mesh).getD Y1.toNat default).getD 1 default) := (by (have q := Okh.at (Z6S hp5.e (by assumption) Yl); omega))
   have Y1s : (((Z7 Y0.Mesh).getD Y1.toNat default).getD 1 default) < ((Z34 Y0 Y1 Yb).length : Int) := (by (have q := Okh.at (Z6S hp5.e (by assumption) Yl); (simp only [Z3x, Z3t, Z3u]; omega)))
   have Y1t : (0 : Int) ≤ 2 := (by omega)
   have Y1u : 2 < (((Z7 Y0.Mesh).getD Y1.toNat default).length : Int) := (by omega)
   have Y1v : 2 < ((Z7 Y0.Mesh).getD Y1.toNat default).length := (by omega)
   have Y1z : (Z2R Y0 Y1 Yb).length ≤ 1073741824 := (by (have q := Okh.at (Z6S hp5.e (by assumption) Yl); (simp only [Z3x, Z3t, Z3u]; omega)))
   have Y1A : 0 ≤ (((Z7 Y0.Mesh).getD Y1.toNat default).getD 2 default) := (by (have q := Okh.at (Z6S hp5.e (by assumption) Yl); omega))
   have Y1B : (((Z7 Y0.Mesh).getD Y1.toNat default).getD 2 default) < ((Z2R Y0 Y1 Yb).length : Int) := (by (have q := Okh.at (Z6S hp5.e (by assumption) Yl); (simp only [Z3x, Z3t, Z3u]; omega)))
   have Y1C : (0 : Int) ≤ 3 := (by omega)
   have Y1D : 3 < (((Z7 Y0.Mesh).getD Y1.toNat default).length : Int) := (by omega)
   have Y1E : 3 < ((Z7 Y0.Mesh).getD Y1.toNat default).length := (by omega)
   have Y1F : (Z2S Y0 Y1 Yb).length ≤ 1073741824 := (by (have q := Okh.at (Z6S hp5.e (by assumption) Yl); (simp only [Z3x, Z3t, Z3u]; omega)))
   have Y1G : 0 ≤ (((Z7 Y0.Mesh).getD Y1.toNat default).getD 3 default) := (by (have q := Okh.at (Z6S hp5.e (by assumption) Yl); omega))
   have Y1H : (((Z7 Y0.Mesh).getD Y1.toNat default).getD 3 default) < ((Z2S Y0 Y1 Yb).length : Int) := (by (have q := Okh.at (Z6S hp5.e (by assumption) Yl); (simp only [Z3x, Z3t, Z3u]; omega)))
   have Y1K : (-9223372036854775808 : Int) ≤ (Y1 + 1) := (by omega)
   have Y1L : (Y1 + 1) ≤ (9223372036854775807 : Int) := (by have q := ZcN _ hp5.e; omega)
   have e : Z14 Y0 (k + 1) Y1 Yb = (Z14 Y0 k (Y1 + 1) (Z2T Y0 Y1 Yb)) := by simp only [Z14, Yl, cond_true]
   rw [e]
   exact nextR E0Ok Z5 [] Z8c [0, 1, 2, 3] (ih (Y1 + 1) (Z2T Y0 Y1 Yb) (show 0 ≤ (Y1 + 1) from (by omega)) (show (Z2T Y0 Y1 Yb).length = Y0.Mesh.Places.length from (by simp_all <;> omega)) (by omega)) (sB Yl <| sC (nestix (c := (cI .i64)) (l := (Z7 Y0.Mesh)) (i := Y1) YF YG) <| sC (nestlt (c := (cI .i64)) (l := (Z7 Y0.Mesh)) YH) <| sF (Fn.castA (args' := [.agg [.sl (Y0.Mesh.Places.map GVector.cells), .sl (Y0.Mesh.Triangles.map (cL (cI .i64)))], .sl (((Z7 Y0.Mesh).map fun l => l.map (cI .i64)).getD Y1.toNat [])]) (ZeQ Y0.Mesh ((Z7 Y0.Mesh).getD Y1.toNat default) hp0 hp1 hp2 YI YP) (by simp [cI]; done)) <| sK [7, 7] <| sC (iidx_ok (c := (cI .i64)) (l := (Z7 Y0.Mesh)) (j := Y1.toNat) (i := 0) YS y_6) <| sE (iget_ok (c := (cI .i64)) (l := (Z7 Y0.Mesh)) (j := Y1.toNat) (k := 0) y_7) <| sS (CallSt.frame (Z1X (((Z7 Y0.Mesh).getD Y1.toNat default).getD 0 default) (Zw Y0.Mesh ((Z7 Y0.Mesh).getD Y1.toNat default)) Y0.Bend Yb y_8 y_9 Y18) [1, 2] (R := [.box 42 [.sl (Y0.Mesh.Places.map GVector.cells), .sl (Y0.Mesh.Triangles.map (cL (cI .i64))), .sl (Y0.Springs.map GSpring.cells), .f .f32 Y0.Film, .f .f32 Y0.Bend, .sl (Y0.Weights.map (cF .f32)), .f .f32 Y0.Fall.X, .f .f32 Y0.Fall.Y, .f .f32 Y0.Fall.Z], .box 34 [.own 2], .vec 40 3 (Yb.map GVector.cells) false, .nest 49 ((Z7 Y0.Mesh).map fun l => l.map (cI .i64)) false, .box 40 [.f .f32 ((Zw Y0.Mesh ((Z7 Y0.Mesh).getD Y1.toNat default)).X), .f .f32 ((Zw Y0.Mesh ((Z7 Y0.Mesh).getD Y1.toNat default)).Y), .f .f32 ((Zw Y0.Mesh ((Z7 Y0.Mesh).getD Y1.toNat default)).Z)]]) (args' := [.i .i64 (((Z7 Y0.Mesh).getD Y1.toNat default).getD 0 default), .agg [.f .f32 ((Zw Y0.Mesh ((Z7 Y0.Mesh).getD Y1.toNat default)).X), .f .f32 ((Zw Y0.Mesh ((Z7 Y0.Mesh).getD Y1.toNat default)).Y), .f .f32 ((Zw Y0.Mesh ((Z7 Y0.Mesh).getD Y1.toNat default)).Z)], .f .f32 Y0.Bend, .ptr 1 0 0]) rfl rfl rfl rfl rfl rfl) <| sK [7, 7] <| sC (iidx_ok (c := (cI .i64)) (l := (Z7 Y0.Mesh)) (j := Y1.toNat) (i := 1) Y1c Y1g) <| sE (iget_ok (c := (cI .i64)) (l := (Z7 Y0.Mesh)) (j := Y1.toNat) (k := 1) Y1h) <| sS (CallSt.frame (Z1X (((Z7 Y0.Mesh).getD Y1.toNat default).getD 1 default) (Zw Y0.Mesh ((Z7 Y0.Mesh).getD Y1.toNat default)) Y0.Bend (Z34 Y0 Y1 Yb) Y1q Y1r Y1s) [1, 2] (R := [.box 42 [.sl (Y0.Mesh.Places.map GVector.cells), .sl (Y0.Mesh.Triangles.map (cL (cI .i64))), .sl (Y0.Springs.map GSpring.cells), .f .f32 Y0.Film, .f .f32 Y0.Bend, .sl (Y0.Weights.map (cF .f32)), .f .f32 Y0.Fall.X, .f .f32 Y0.Fall.Y, .f .f32 Y0.Fall.Z], .box 34 [.own 2], .vec 40 3 ((Z34 Y0 Y1 Yb).map GVector.cells) false, .nest 49 ((Z7 Y0.Mesh).map fun l => l.map (cI .i64)) false, .box 40 [.f .f32 ((Zw Y0.Mesh ((Z7 Y0.Mesh).getD Y1.toNat default)).X), .f .f32 ((Zw Y0.Mesh ((Z7 Y0.Mesh).getD Y1.toNat default)).Y), .f .f32 ((Zw Y0.Mesh ((Z7 Y0.Mesh).getD Y1.toNat default)).Z)]]) (args' := [.i .i64 (((Z7 Y0.Mesh).getD Y1.toNat default).getD 1 default), .agg [.f .f32 ((Zw Y0.Mesh ((Z7 Y0.Mesh).getD Y1.toNat default)).X), .f .f32 ((Zw Y0.Mesh ((Z7 Y0.Mesh).getD Y1.toNat default)).Y), .f .f32 ((Zw Y0.Mesh ((Z7 Y0.Mesh).getD Y1.toNat default)).Z)], .f .f32 Y0.Bend, .ptr 1 0 0]) rfl rfl rfl rfl rfl rfl) <| sK [8, 8] <| sC (iidx_ok (c := (cI .i64)) (l := (Z7 Y0.Mesh)) (j := Y1.toNat) (i := 2) Y1t Y1u) <| sE (iget_ok (c := (cI .i64)) (l := (Z7 Y0.Mesh)) (j := Y1.toNat) (k := 2) Y1v) <| sS (CallSt.frame (Z1X (((Z7 Y0.Mesh).getD Y1.toNat default).getD 2 default) (Zw Y0.Mesh ((Z7 Y0.Mesh).getD Y1.toNat default)) (fneg .f32 Y0.Bend) (Z2R Y0 Y1 Yb) Y1z Y1A Y1B) [1, 2] (R := [.box 42 [.sl (Y0.Mesh.Places.map GVector.cells), .sl (Y0.Mesh.Triangles.map (cL (cI .i64))), .sl (Y0.Springs.map GSpring.cells), .f .f32 Y0.Film, .f .f32 Y0.Bend, .sl (Y0.Weights.map (cF .f32)), .f .f32 Y0.Fall.X, .f .f32 Y0.Fall.Y, .f .f32 Y0.Fall.Z], .box 34 [.own 2], .vec 40 3 ((Z2R Y0 Y1 Yb).map GVector.cells) false, .nest 49 ((Z7 Y0.Mesh).map fun l => l.map (cI .i64)) false, .box 40 [.f .f32 ((Zw Y0.Mesh ((Z7 Y0.Mesh).getD Y1.toNat default)).X), .f .f32 ((Zw Y0.Mesh ((Z7 Y0.Mesh).getD Y1.toNat default)).Y), .f .f32 ((Zw Y0.Mesh ((Z7 Y0.Mesh).getD Y1.toNat default)).Z)]]) (args' := [.i .i64 (((Z7 Y0.Mesh).getD Y1.toNat default).getD 2 default), .agg [.f .f32 ((Zw Y0.Mesh ((Z7 Y0.Mesh).getD Y1.toNat default)).X), .f .f32 ((Zw Y0.Mesh ((Z7 Y0.Mesh).getD Y1.toNat default)).Y), .f .f32 ((Zw Y0.Mesh ((Z7 Y0.Mesh).getD Y1.toNat default)).Z)], .f .f32 (fneg .f32 Y0.Bend), .ptr 1 0 0]) rfl rfl rfl rfl rfl rfl) <| sK [8, 8] <| sC (iidx_ok (c := (cI .i64)) (l := (Z7 Y0.Mesh)) (j := Y1.toNat) (i := 3) Y1C Y1D) <| sE (iget_ok (c := (cI .i64)) (l := (Z7 Y0.Mesh)) (j := Y1.toNat) (k := 3) Y1E) <| sS (CallSt.frame (Z1X (((Z7 Y0.Mesh).getD Y1.toNat default).getD 3 default) (Zw Y0.Mesh ((Z7 Y0.Mesh).getD Y1.toNat default)) (fneg .f32 Y0.Bend) (Z2S Y0 Y1 Yb) Y1F Y1G Y1H) [1, 2] (R := [.box 42 [.sl (Y0.Mesh.Places.map GVector.cells), .sl (Y0.Mesh.Triangles.map (cL (cI .i64))), .sl (Y0.Springs.map GSpring.cells), .f .f32 Y0.Film, .f .f32 Y0.Bend, .sl (Y0.Weights.map (cF .f32)), .f .f32 Y0.Fall.X, .f .f32 Y0.Fall.Y, .f .f32 Y0.Fall.Z], .box 34 [.own 2], .vec 40 3 ((Z2S Y0 Y1 Yb).map GVector.cells) false, .nest 49 ((Z7 Y0.Mesh).map fun l => l.map (cI .i64)) false, .box 40 [.f .f32 ((Zw Y0.Mesh ((Z7 Y0.Mesh).getD Y1.toNat default)).X), .f .f32 ((Zw Y0.Mesh ((Z7 Y0.Mesh).getD Y1.toNat default)).Y), .f .f32 ((Zw Y0.Mesh ((Z7 Y0.Mesh).getD Y1.toNat default)).Z)]]) (args' := [.i .i64 (((Z7 Y0.Mesh).getD Y1.toNat default).getD 3 default), .agg [.f .f32 ((Zw Y0.Mesh ((Z7 Y0.Mesh).getD Y1.toNat default)).X), .f .f32 ((Zw Y0.Mesh ((Z7 Y0.Mesh).getD Y1.toNat default)).Y), .f .f32 ((Zw Y0.Mesh ((Z7 Y0.Mesh).getD Y1.toNat default)).Z)], .f .f32 (fneg .f32 Y0.Bend), .ptr 1 0 0]) rfl rfl rfl rfl rfl rfl) <| sI (Y1 + 1) Y1K Y1L <| sN) (by kernel_rfl)
  | false =>
   have Yw := of_decide_eq_false Yl
   have e : Z14 Y0 (k + 1) Y1 Yb = Yb := by simp only [Z14, Yl, cond_false]
   rw [e]
   exact outR (e := (.exit 6)) E0Ok Z5 [] Zbi [0, 1, 2, 3] (sB Yl <| sN) (by kernel_rfl) (by intro h; cases h)
theorem Zbj (Y0 : GBody) : ∀ (k : Nat) (Y1 : Int) (Yb : (List GVector)) (hk : (((Z7 Y0.Mesh).length : Int) - Y1).toNat < k), (Z14 Y0 k Y1 Yb).length = Yb.length := by
  intro k
  induction k with
  | zero => intro Y1 Yb hk; exact absurd hk (Nat.not_lt_zero _)
  | succ k ih =>
    intro Y1 Yb hk
    cases Yl : (decide (Y1 < ((Z7 Y0.Mesh).length : Int))) with
    | true =>
      have e : Z14 Y0 (k + 1) Y1 Yb = (Z14 Y0 k (Y1 + 1) (Z2T Y0 Y1 Yb)) := by simp only [Z14, Yl, cond_true]
      rw [e, ih (Y1 + 1) (Z2T Y0 Y1 Yb) (by simp_all <;> omega)]; simp
    | false =>
      have e : Z14 Y0 (k + 1) Y1 Yb = Yb := by simp only [Z14, Yl, cond_false]
      first | (rw [e]; done) | (rw [e]; rfl)
def Z35 (Y0 : GBody) : (List GVector) := (Z14 Y0 ((((Z7 Y0.Mesh).length : Int) - 0).toNat + 1) 0 (Z33 Y0))
@[simp] theorem ZeV (Y0 : GBody) : (Z35 Y0).length = ((Z33 Y0) : (List GVector)).length := Zbj Y0 ((((Z7 Y0.Mesh).length : Int) - 0).toNat + 1) 0 (Z33 Y0) (by exact Nat.lt_succ_self _)
def Z15 (Y0 : GBody) : Nat → Int → (List GVector) → (List GVector)
  | 0, _, _ => default
  | k + 1, Y1, Yb => (cond (decide (Y1 < (Y0.Weights.length : Int)))
    (Z15 Y0 k (Y1 + 1) (Zv Y1 Y0.Fall (Y0.Weights.getD Y1.toNat default) Yb))
    Yb)
def Z6K (Y0 : GBody) (r : (List GVector)) : Ex × St := ((.exit 8), ⟨.agg [.sl (Y0.Mesh.Places.map GVector.cells), .sl (Y0.Mesh.Triangles.map (cL (cI .i64))), .sl (Y0.Springs.map GSpring.cells), .f .f32 Y0.Film, .f .f32 Y0.Bend, .sl (Y0.Weights.map (cF .f32)), .f .f32 Y0.Fall.X, .f .f32 Y0.Fall.Y, .f .f32 Y0.Fall.Z] :: .ptr 0 0 0 :: .nils :: .ptr 1 0 0 :: .fn 106 [.ptr 1 0 0] :: an 18 (.ptr 0 0 0 :: .ptr 0 0 0 :: .sl (Y0.Mesh.Places.map GVector.cells) :: .i .i64 (Y0.Mesh.Places.length : Int) :: .own 2 :: .fn 106 [.ptr 1 0 0] :: .ptr 0 0 2 :: .sl (Y0.Springs.map GSpring.cells) :: an 25 (.ptr 0 0 0 :: .ptr 0 0 0 :: .sl (Y0.Mesh.Places.map GVector.cells) :: .ptr 0 0 0 :: .ptr 0 0 1 :: .sl (Y0.Mesh.Triangles.map (cL (cI .i64))) :: an 54 (.ptr 0 0 0 :: .agg [.sl (Y0.Mesh.Places.map GVector.cells), .sl (Y0.Mesh.Triangles.map (cL (cI .i64)))] :: .own 3 :: an 44 (.ptr 0 0 5 :: .sl (Y0.Weights.map (cF .f32)) :: an 14 [])))), [.box 42 [.sl (Y0.Mesh.Places.map GVector.cells), .sl (Y0.Mesh.Triangles.map (cL (cI .i64))), .sl (Y0.Springs.map GSpring.cells), .f .f32 Y0.Film, .f .f32 Y0.Bend, .sl (Y0.Weights.map (cF .f32)), .f .f32 Y0.Fall.X, .f .f32 Y0.Fall.Y, .f .f32 Y0.Fall.Z], .box 34 [.own 2], .vec 40 3 (r.map GVector.cells) false, .nest 49 ((Z7 Y0.Mesh).map fun l => l.map (cI .i64)) false]⟩)
def Zcq (Y0 : GBody) (Y1 : Int) (Yb : (List GVector)) : St := ⟨.agg [.sl (Y0.Mesh.Places.map GVector.cells), .sl (Y0.Mesh.Triangles.map (cL (cI .i64))), .sl (Y0.Springs.map GSpring.cells), .f .f32 Y0.Film, .f .f32 Y0.Bend, .sl (Y0.Weights.map (cF .f32)), .f .f32 Y0.Fall.X, .f .f32 Y0.Fall.Y, .f .f32 Y0.Fall.Z] :: .ptr 0 0 0 :: .nils :: .ptr 1 0 0 :: .fn 106 [.ptr 1 0 0] :: an 18 (.ptr 0 0 0 :: .ptr 0 0 0 :: .sl (Y0.Mesh.Places.map GVector.cells) :: .i .i64 (Y0.Mesh.Places.length : Int) :: .own 2 :: .fn 106 [.ptr 1 0 0] :: .ptr 0 0 2 :: .sl (Y0.Springs.map GSpring.cells) :: an 25 (.ptr 0 0 0 :: .ptr 0 0 0 :: .sl (Y0.Mesh.Places.map GVector.cells) :: .ptr 0 0 0 :: .ptr 0 0 1 :: .sl (Y0.Mesh.Triangles.map (cL (cI .i64))) :: an 54 (.ptr 0 0 0 :: .agg [.sl (Y0.Mesh.Places.map GVector.cells), .sl (Y0.Mesh.Triangles.map (cL (cI .i64)))] :: .own 3 :: an 44 (.ptr 0 0 5 :: .sl (Y0.Weights.map (cF .f32)) :: .i .i64 (Y0.Weights.length : Int) :: .i .i64 Y1 :: an 12 [])))), [.box 42 [.sl (Y0.Mesh.Places.map GVector.cells), .sl (Y0.Mesh.Triangles.map (cL (cI .i64))), .sl (Y0.Springs.map GSpring.cells), .f .f32 Y0.Film, .f .f32 Y0.Bend, .sl (Y0.Weights.map (cF .f32)), .f .f32 Y0.Fall.X, .f .f32 Y0.Fall.Y, .f .f32 Y0.Fall.Z], .box 34 [.own 2], .vec 40 3 (Yb.map GVector.cells) false, .nest 49 ((Z7 Y0.Mesh).map fun l => l.map (cI .i64)) false]⟩
def Z8f : List Bool := (mR false [0, 5, 18, 8, 25, 6, 54, 3, 44, 4, 12])
def Zbk : List Bool := (mR false [0, 5, 18, 8, 25, 6, 54, 3, 44, 2, 14])
theorem Zcr (Y0 : GBody) (hp0 : Y0.Mesh.Places.length ≤ 1073741824) (hp1 : Y0.Mesh.Triangles.length ≤ 1073741824) (hp2 : ∀ t ∈ Y0.Mesh.Triangles, t.length ≤ 1073741824) (hp3 : Y0.Springs.length ≤ 1073741824) (hp4 : Y0.Weights.length ≤ 1073741824) (hp5 : OkBd Y0) : ∀ (k : Nat) (Y1 : Int) (Yb : (List GVector)) (Z5L : 0 ≤ Y1) (Z8g : Yb.length = Y0.Mesh.Places.length) (hk : ((Y0.Weights.length : Int) - Y1).toNat < k), Lp prog 0 (sub (bodyOf f57) [1, 1, 1, 1, 1, 1, 1, 0, 1, 0, 0]) (Zcq Y0 Y1 Yb) (Z6K Y0 (Z15 Y0 k Y1 Yb)).1 (Z6K Y0 (Z15 Y0 k Y1 Yb)).2 := by
 intro k
 induction k with
 | zero => intro Y1 Yb Z5L Z8g hk; exact absurd hk (Nat.not_lt_zero _)
 | succ k ih =>
  intro Y1 Yb Z5L Z8g hk
  cases Yl : (decide (Y1 < (Y0.Weights.length : Int))) with
  | true =>
   have Yw := of_decide_eq_true Yl
   have YF : (0 : Int) ≤ Y1 := (by assumption)
   have YG : Y1 < (Y0.Weights.length : Int) := (by assumption)
   have YH : Yb.length ≤ 1073741824 := (by omega)
   have YI : Y1 < (Yb.length : Int) := (by have q := hp5.w; omega)
   have YP : (-9223372036854775808 : Int) ≤ (Y1 + 1) := (by omega)
   have YS : (Y1 + 1) ≤ (9223372036854775807 : Int) := (by omega)
   have e : Z15 Y0 (k + 1) Y1 Yb = (Z15 Y0 k (Y1 + 1) (Zv Y1 Y0.Fall (Y0.Weights.getD Y1.toNat default) Yb)) := by simp only [Z15, Yl, cond_true]
   rw [e]
   exact nextR E0Ok Z5 [] Z8f [0, 1, 2, 3] (ih (Y1 + 1) (Zv Y1 Y0.Fall (Y0.Weights.getD Y1.toNat default) Yb) (show 0 ≤ (Y1 + 1) from (by omega)) (show (Zv Y1 Y0.Fall (Y0.Weights.getD Y1.toNat default) Yb).length = Y0.Mesh.Places.length from (by simp_all <;> omega)) (by omega)) (sB Yl <| sG (cF .f32) Y0.Weights Y1 YF YG <| sS (CallSt.frame (Z1X Y1 Y0.Fall (Y0.Weights.getD Y1.toNat default) Yb YH Z5L YI) [1, 2] (R := [.box 42 [.sl (Y0.Mesh.Places.map GVector.cells), .sl (Y0.Mesh.Triangles.map (cL (cI .i64))), .sl (Y0.Springs.map GSpring.cells), .f .f32 Y0.Film, .f .f32 Y0.Bend, .sl (Y0.Weights.map (cF .f32)), .f .f32 Y0.Fall.X, .f .f32 Y0.Fall.Y, .f .f32 Y0.Fall.Z], .box 34 [.own 2], .vec 40 3 (Yb.map GVector.cells) false, .nest 49 ((Z7 Y0.Mesh).map fun l => l.map (cI .i64)) false]) (args' := [.i .i64 Y1, .agg [.f .f32 Y0.Fall.X, .f .f32 Y0.Fall.Y, .f .f32 Y0.Fall.Z], .f .f32 (Y0.Weights.getD Y1.toNat default), .ptr 1 0 0]) rfl rfl rfl rfl rfl rfl) <| sI (Y1 + 1) YP YS <| sN) (by kernel_rfl)
  | false =>
   have Yw := of_decide_eq_false Yl
   have e : Z15 Y0 (k + 1) Y1 Yb = Yb := by simp only [Z15, Yl, cond_false]
   rw [e]
   exact outR (e := (.exit 8)) E0Ok Z5 [] Zbk [0, 1, 2, 3] (sB Yl <| sN) (by kernel_rfl) (by intro h; cases h)
theorem Zbl (Y0 : GBody) : ∀ (k : Nat) (Y1 : Int) (Yb : (List GVector)) (hk : ((Y0.Weights.length : Int) - Y1).toNat < k), (Z15 Y0 k Y1 Yb).length = Yb.length := by
  intro k
  induction k with
  | zero => intro Y1 Yb hk; exact absurd hk (Nat.not_lt_zero _)
  | succ k ih =>
    intro Y1 Yb hk
    cases Yl : (decide (Y1 < (Y0.Weights.length : Int))) with
    | true =>
      have e : Z15 Y0 (k + 1) Y1 Yb = (Z15 Y0 k (Y1 + 1) (Zv Y1 Y0.Fall (Y0.Weights.getD Y1.toNat default) Yb)) := by simp only [Z15, Yl, cond_true]
      rw [e, ih (Y1 + 1) (Zv Y1 Y0.Fall (Y0.Weights.getD Y1.toNat default) Yb) (by simp_all <;> omega)]; simp
    | false =>
      have e : Z15 Y0 (k + 1) Y1 Yb = Yb := by simp only [Z15, Yl, cond_false]
      first | (rw [e]; done) | (rw [e]; rfl)
def Z48 (Y0 : GBody) : (List GVector) := (Z15 Y0 (((Y0.Weights.length : Int) - 0).toNat + 1) 0 (Z35 Y0))
@[simp] theorem ZeW (Y0 : GBody) : (Z48 Y0).length = ((Z35 Y0) : (List GVector)).length := Zbl Y0 (((Y0.Weights.length : Int) - 0).toNat + 1) 0 (Z35 Y0) (by exact Nat.lt_succ_self _)
def Z36 (Y0 : GBody) : (List GVector) := (Z48 Y0)
@[simp] theorem ZfJ (Y0 : GBody) : (Z36 Y0).length = Y0.Mesh.Places.length := by
  first | (simp [Z36]; done)
theorem ZfP (b : GBody) : Z1s b = Z1j b := by kernel_rfl
theorem ZfQ (b : GBody) (x : Int) (r : List GVector) (h : fcmp .gtr .f32 (Z2I (Ze b.Mesh (b.Mesh.Triangles.getD x.toNat default))) 0 = true) : ∀ (k : Nat) (y : Int) (s : List GVector), Z1f b x r k y s = ZN b x r k y s := by
  intro k
  induction k with
  | zero => intro y s; rfl
  | succ k ih =>
    intro y s
    rw [Z1f, ZN, ih]
    unfold Z2a Z4X Z2x Z4d
    rw [h]
    kernel_rfl
theorem ZfR (b : GBody) (x : Int) (r : List GVector) (h : fcmp .gtr .f32 (Z2I (Ze b.Mesh (b.Mesh.Triangles.getD x.toNat default))) 0 = false) : ∀ (k : Nat) (y : Int) (s : List GVector), Z1g b x r k y s = ZN b x r k y s := by
  intro k
  induction k with
  | zero => intro y s; rfl
  | succ k ih =>
    intro y s
    rw [Z1g, ZN, ih]
    unfold Z2a Z4X Z2x Z4d
    rw [h]
    kernel_rfl
theorem ZfS (b : GBody) : ∀ (k : Nat) (x : Int) (r : List GVector), Zx b k x r = Z10 b k x r := by
  intro k
  induction k with
  | zero => intro x r; rfl
  | succ k ih =>
    intro x r
    rw [Zx, Z10]
    rw [show fcmp .gtr .f32 (Zu (Zb b.Mesh (b.Mesh.Triangles.getD x.toNat default))) 0 = fcmp .gtr .f32 (Z2I (Ze b.Mesh (b.Mesh.Triangles.getD x.toNat default))) 0 from by kernel_rfl]
    unfold Z2C Z2D Z2s
    cases h : fcmp .gtr .f32 (Z2I (Ze b.Mesh (b.Mesh.Triangles.getD x.toNat default))) 0 with
    | true => rw [cond_true, ih, ZfQ b x r h]
    | false => rw [cond_false, ih, ZfR b x r h]
theorem ZfT (b : GBody) (h : Z7 b.Mesh = Z0 b.Mesh) : ∀ (k : Nat) (x : Int) (r : List GVector), Z14 b k x r = Z11 b k x r := by
  intro k
  induction k with
  | zero => intro x r; rfl
  | succ k ih =>
    intro x r
    rw [Z14, Z11, ih]
    unfold Z2T Z2S Z2R Z34
    rw [h]
    kernel_rfl
theorem ZfU (b : GBody) (h : b.Weights.length = b.Mesh.Places.length) : ∀ (k : Nat) (x : Int) (r : List GVector), Z15 b k x r = Z12 b k x r := by
  intro k
  induction k with
  | zero => intro x r; rfl
  | succ k ih =>
    intro x r
    rw [Z15, Z12, ih, h]
    kernel_rfl
theorem Zfq (b : GBody) (ok : OkBd b) : Z36 b = Z2P b := by
  have h : Z7 b.Mesh = Z0 b.Mesh := by rw [Z7l _ ok.e, Z9V _ ok.e]
  unfold Z36 Z2P Z48 Z3V Z35 Z2W Z33 Z2V Z32 Z2U
  have e2 : Zx b = Z10 b := by funext k x r; exact ZfS b k x r
  have e5 : Z14 b = Z11 b := by funext k x r; exact ZfT b h k x r
  have e6 : Z15 b = Z12 b := by funext k x r; exact ZfU b ok.w k x r
  rw [ZfP, e2, e5, e6, h, ok.w]
theorem ZdP (Y0 : GBody) (hp0 : Y0.Mesh.Places.length ≤ 1073741824) (hp1 : Y0.Mesh.Triangles.length ≤ 1073741824) (hp2 : ∀ t ∈ Y0.Mesh.Triangles, t.length ≤ 1073741824) (hp3 : Y0.Springs.length ≤ 1073741824) (hp4 : Y0.Weights.length ≤ 1073741824) (hp5 : OkBd Y0)  : Fn prog 57 [.agg [.sl (Y0.Mesh.Places.map GVector.cells), .sl (Y0.Mesh.Triangles.map (cL (cI .i64))), .sl (Y0.Springs.map GSpring.cells), .f .f32 Y0.Film, .f .f32 Y0.Bend, .sl (Y0.Weights.map (cF .f32)), .f .f32 Y0.Fall.X, .f .f32 Y0.Fall.Y, .f .f32 Y0.Fall.Z]] (.own 0) [.vec 40 3 ((Z36 Y0).map GVector.cells) false] := by
 have y0 : (0 : Int) ≤ (Y0.Mesh.Places.length : Int) := (by omega)
 have y1 : ((Y0.Mesh.Places.length : Int) : Int) ≤ 2147483648 := (by omega)
 have y2 : OkE Y0.Mesh.Places.length Y0.Mesh.Triangles := (by exact hp5.e)
 refine fnS E0Ok Z5 (c := bodyOf f57) [] (.own 0) [.vec 40 3 ((Z48 Y0).map GVector.cells) false] func57 (sZ GVector.cells Y0.Mesh.Places <| sC (show (Y0.Mesh.Places.length : Int) = (Y0.Mesh.Places.length : Int) from rfl) <| sC y0 <| sC y1 <| sZ GSpring.cells Y0.Springs <| sL (mR false [0, 5, 18, 10, 146]) 3 (lp_cast (st2 := ⟨.agg [.sl (Y0.Mesh.Places.map GVector.cells), .sl (Y0.Mesh.Triangles.map (cL (cI .i64))), .sl (Y0.Springs.map GSpring.cells), .f .f32 Y0.Film, .f .f32 Y0.Bend, .sl (Y0.Weights.map (cF .f32)), .f .f32 Y0.Fall.X, .f .f32 Y0.Fall.Y, .f .f32 Y0.Fall.Z] :: .ptr 0 0 0 :: .nils :: .ptr 2 0 0 :: .fn 106 [.ptr 2 0 0] :: an 18 (.ptr 0 0 0 :: .ptr 0 0 0 :: .sl (Y0.Mesh.Places.map GVector.cells) :: .i .i64 (Y0.Mesh.Places.length : Int) :: .own 1 :: .fn 106 [.ptr 2 0 0] :: .ptr 0 0 2 :: .sl (Y0.Springs.map GSpring.cells) :: .i .i64 (Y0.Springs.length : Int) :: .i .i64 0 :: an 146 []), [.box 42 [.sl (Y0.Mesh.Places.map GVector.cells), .sl (Y0.Mesh.Triangles.map (cL (cI .i64))), .sl (Y0.Springs.map GSpring.cells), .f .f32 Y0.Film, .f .f32 Y0.Bend, .sl (Y0.Weights.map (cF .f32)), .f .f32 Y0.Fall.X, .f .f32 Y0.Fall.Y, .f .f32 Y0.Fall.Z], .vec 40 3 (List.replicate (Int.toNat (Y0.Mesh.Places.length : Int)) [.f .f32 0, .f .f32 0, .f .f32 0]) false, .box 34 [.own 1]]⟩) (lp_val (Z6F Y0) (x := (Z32 Y0)) (Zch Y0 hp0 hp1 hp2 hp3 hp4 hp5 (((Y0.Springs.length : Int) - 0).toNat + 1) 0 (List.replicate (Y0.Mesh.Places.length : Int).toNat (⟨0, 0, 0⟩ : GVector)) (show 0 ≤ 0 from (by omega)) (show (List.replicate (Y0.Mesh.Places.length : Int).toNat (⟨0, 0, 0⟩ : GVector)).length = Y0.Mesh.Places.length from (by simp; done)) (Nat.lt_succ_self _)) rfl) (by simp [Z99, GVector.cells])) <| sZ (cL (cI .i64)) Y0.Mesh.Triangles <| sL Z5K 3 (lp_val (Z6I Y0) (x := (Z33 Y0)) (Zcn Y0 hp0 hp1 hp2 hp3 hp4 hp5 (((Y0.Mesh.Triangles.length : Int) - 0).toNat + 1) 0 (Z32 Y0) (show 0 ≤ 0 from (by omega)) (show (Z32 Y0).length = Y0.Mesh.Places.length from (by simp; done)) (Nat.lt_succ_self _)) rfl) <| sF (ZdO Y0.Mesh hp0 hp1 hp2 y2) <| sM (nlen_ok (l := (Z7 Y0.Mesh)) (f := fun l => l.map (cI .i64))) <| sL Z8c 4 (lp_val (Z6J Y0) (x := (Z35 Y0)) (Zcp Y0 hp0 hp1 hp2 hp3 hp4 hp5 ((((Z7 Y0.Mesh).length : Int) - 0).toNat + 1) 0 (Z33 Y0) (show 0 ≤ 0 from (by omega)) (show (Z33 Y0).length = Y0.Mesh.Places.length from (by simp; done)) (Nat.lt_succ_self _)) rfl) <| sZ (cF .f32) Y0.Weights <| sL Z8f 4 (lp_val (Z6K Y0) (x := (Z48 Y0)) (Zcr Y0 hp0 hp1 hp2 hp3 hp4 hp5 (((Y0.Weights.length : Int) - 0).toNat + 1) 0 (Z35 Y0) (show 0 ≤ 0 from (by omega)) (show (Z35 Y0).length = Y0.Mesh.Places.length from (by simp; done)) (Nat.lt_succ_self _)) rfl) <| sK [2] sN) rfl (by kernel_rfl) (by kernel_rfl) rfl ?_ ?_
 · rfl
 · simp [Z36]
def Z16 (Ya : GBody) (Y3 : (List Int)) : Nat → Int → (List GVector) → (List GVector)
  | 0, _, _ => default
  | k + 1, Y1, Yh => (cond (decide (Y1 < (Y3.length : Int)))
    (Z16 Ya Y3 k (Y1 + 1) (Yh.set ((Y3.getD Y1.toNat default).toNat) (⟨0, 0, 0⟩ : GVector)))
    Yh)
def Z5M (Ya : GBody) (Y3 : (List Int)) (r : (List GVector)) : Ex × St := ((.exit 0), ⟨.agg [.sl (Ya.Mesh.Places.map GVector.cells), .sl (Ya.Mesh.Triangles.map (cL (cI .i64))), .sl (Ya.Springs.map GSpring.cells), .f .f32 Ya.Film, .f .f32 Ya.Bend, .sl (Ya.Weights.map (cF .f32)), .f .f32 Ya.Fall.X, .f .f32 Ya.Fall.Y, .f .f32 Ya.Fall.Z] :: .sl (Y3.map (cI .i64)) :: .ptr 0 0 0 :: .any :: .nils :: .own 1 :: .any :: .any :: .agg [.sl (Ya.Mesh.Places.map GVector.cells), .sl (Ya.Mesh.Triangles.map (cL (cI .i64))), .sl (Ya.Springs.map GSpring.cells), .f .f32 Ya.Film, .f .f32 Ya.Bend, .sl (Ya.Weights.map (cF .f32)), .f .f32 Ya.Fall.X, .f .f32 Ya.Fall.Y, .f .f32 Ya.Fall.Z] :: .own 1 :: .sl (Y3.map (cI .i64)) :: an 11 [], [.box 42 [.sl (Ya.Mesh.Places.map GVector.cells), .sl (Ya.Mesh.Triangles.map (cL (cI .i64))), .sl (Ya.Springs.map GSpring.cells), .f .f32 Ya.Film, .f .f32 Ya.Bend, .sl (Ya.Weights.map (cF .f32)), .f .f32 Ya.Fall.X, .f .f32 Ya.Fall.Y, .f .f32 Ya.Fall.Z], .vec 40 3 (r.map GVector.cells) false]⟩)
def Z8h (Ya : GBody) (Y3 : (List Int)) (Y1 : Int) (Yh : (List GVector)) : St := ⟨.agg [.sl (Ya.Mesh.Places.map GVector.cells), .sl (Ya.Mesh.Triangles.map (cL (cI .i64))), .sl (Ya.Springs.map GSpring.cells), .f .f32 Ya.Film, .f .f32 Ya.Bend, .sl (Ya.Weights.map (cF .f32)), .f .f32 Ya.Fall.X, .f .f32 Ya.Fall.Y, .f .f32 Ya.Fall.Z] :: .sl (Y3.map (cI .i64)) :: .ptr 0 0 0 :: .any :: .nils :: .own 1 :: .any :: .any :: .agg [.sl (Ya.Mesh.Places.map GVector.cells), .sl (Ya.Mesh.Triangles.map (cL (cI .i64))), .sl (Ya.Springs.map GSpring.cells), .f .f32 Ya.Film, .f .f32 Ya.Bend, .sl (Ya.Weights.map (cF .f32)), .f .f32 Ya.Fall.X, .f .f32 Ya.Fall.Y, .f .f32 Ya.Fall.Z] :: .own 1 :: .sl (Y3.map (cI .i64)) :: .i .i64 (Y3.length : Int) :: .i .i64 Y1 :: an 9 [], [.box 42 [.sl (Ya.Mesh.Places.map GVector.cells), .sl (Ya.Mesh.Triangles.map (cL (cI .i64))), .sl (Ya.Springs.map GSpring.cells), .f .f32 Ya.Film, .f .f32 Ya.Bend, .sl (Ya.Weights.map (cF .f32)), .f .f32 Ya.Fall.X, .f .f32 Ya.Fall.Y, .f .f32 Ya.Fall.Z], .vec 40 3 (Yh.map GVector.cells) false]⟩
theorem Zbm (Ya : GBody) (Y3 : (List Int)) (hp0 : Ya.Mesh.Places.length ≤ 1073741824) (hp1 : Ya.Mesh.Triangles.length ≤ 1073741824) (hp2 : ∀ t ∈ Ya.Mesh.Triangles, t.length ≤ 1073741824) (hp3 : Ya.Springs.length ≤ 1073741824) (hp4 : Ya.Weights.length ≤ 1073741824) (hp5 : Y3.length ≤ 1073741824) (hp6 : OkBd Ya) (hp7 : OkIx Ya.Mesh.Places.length (fun x => x) Y3) : ∀ (k : Nat) (Y1 : Int) (Yh : (List GVector)) (Z74 : 0 ≤ Y1) (Z75 : Yh.length = Ya.Mesh.Places.length) (hk : ((Y3.length : Int) - Y1).toNat < k), Lp prog 0 (sub (bodyOf f68) [1, 1, 0, 1, 0, 0]) (Z8h Ya Y3 Y1 Yh) (Z5M Ya Y3 (Z16 Ya Y3 k Y1 Yh)).1 (Z5M Ya Y3 (Z16 Ya Y3 k Y1 Yh)).2 := by
 intro k
 induction k with
 | zero => intro Y1 Yh Z74 Z75 hk; exact absurd hk (Nat.not_lt_zero _)
 | succ k ih =>
  intro Y1 Yh Z74 Z75 hk
  cases Yl : (decide (Y1 < (Y3.length : Int))) with
  | true =>
   have Yw := of_decide_eq_true Yl
   have YF : (0 : Int) ≤ Y1 := (by assumption)
   have YG : Y1 < (Y3.length : Int) := (by assumption)
   have YH : (0 : Int) ≤ (Y3.getD Y1.toNat default) := (by have q := OkIx.at hp7 (by assumption) Yw; omega)
   have YI : (Y3.getD Y1.toNat default) < (Yh.length : Int) := (by have q := OkIx.at hp7 (by assumption) Yw; omega)
   have YP : (Y3.getD Y1.toNat default).toNat < Yh.length := (by omega)
   have YS : (-9223372036854775808 : Int) ≤ (Y1 + 1) := (by omega)
   have y_6 : (Y1 + 1) ≤ (9223372036854775807 : Int) := (by omega)
   have e : Z16 Ya Y3 (k + 1) Y1 Yh = (Z16 Ya Y3 k (Y1 + 1) (Yh.set ((Y3.getD Y1.toNat default).toNat) (⟨0, 0, 0⟩ : GVector))) := by simp only [Z16, Yl, cond_true]
   rw [e]
   exact nextS E0Ok Z5 [] (mR false [0, 3, 1, 2, 2, 5, 9]) [0, 1] (⟨.agg [.sl (Ya.Mesh.Places.map GVector.cells), .sl (Ya.Mesh.Triangles.map (cL (cI .i64))), .sl (Ya.Springs.map GSpring.cells), .f .f32 Ya.Film, .f .f32 Ya.Bend, .sl (Ya.Weights.map (cF .f32)), .f .f32 Ya.Fall.X, .f .f32 Ya.Fall.Y, .f .f32 Ya.Fall.Z] :: .sl (Y3.map (cI .i64)) :: .ptr 0 0 0 :: .any :: .nils :: .own 1 :: .any :: .any :: .agg [.sl (Ya.Mesh.Places.map GVector.cells), .sl (Ya.Mesh.Triangles.map (cL (cI .i64))), .sl (Ya.Springs.map GSpring.cells), .f .f32 Ya.Film, .f .f32 Ya.Bend, .sl (Ya.Weights.map (cF .f32)), .f .f32 Ya.Fall.X, .f .f32 Ya.Fall.Y, .f .f32 Ya.Fall.Z] :: .own 1 :: .sl (Y3.map (cI .i64)) :: .i .i64 (Y3.length : Int) :: .i .i64 (Y1 + 1) :: an 9 [], [.box 42 [.sl (Ya.Mesh.Places.map GVector.cells), .sl (Ya.Mesh.Triangles.map (cL (cI .i64))), .sl (Ya.Springs.map GSpring.cells), .f .f32 Ya.Film, .f .f32 Ya.Bend, .sl (Ya.Weights.map (cF .f32)), .f .f32 Ya.Fall.X, .f .f32 Ya.Fall.Y, .f .f32 Ya.Fall.Z], .vec 40 3 ((Yh.map GVector.cells).set ((Y3.getD Y1.toNat default).toNat) [.f .f32 0, .f .f32 0, .f .f32 0]) false]⟩) (sB Yl <| sG (cI .i64) Y3 Y1 YF YG <| sX GVector.cells Yh (Y3.getD Y1.toNat default) YH YI <| sC (maplt (c := GVector.cells) (l := Yh) YP) <| sI (Y1 + 1) YS y_6 <| sN) (by kernel_rfl) (by simp [Z8h, List.map_set, GVector.cells]) (ih (Y1 + 1) (Yh.set ((Y3.getD Y1.toNat default).toNat) (⟨0, 0, 0⟩ : GVector)) (show 0 ≤ (Y1 + 1) from (by omega)) (show (Yh.set ((Y3.getD Y1.toNat default).toNat) (⟨0, 0, 0⟩ : GVector)).length = Ya.Mesh.Places.length from (by have q := OkIx.at hp7 (by assumption) Yw; (simp only [List.length_set]; omega))) (by omega))
  | false =>
   have Yw := of_decide_eq_false Yl
   have e : Z16 Ya Y3 (k + 1) Y1 Yh = Yh := by simp only [Z16, Yl, cond_false]
   rw [e]
   exact outR (e := (.exit 0)) E0Ok Z5 [] (mR false [0, 3, 1, 2, 2, 3, 11]) [0, 1] (sB Yl <| sN) (by kernel_rfl) (by intro h; cases h)
theorem Zav (Ya : GBody) (Y3 : (List Int)) : ∀ (k : Nat) (Y1 : Int) (Yh : (List GVector)) (hk : ((Y3.length : Int) - Y1).toNat < k), (Z16 Ya Y3 k Y1 Yh).length = Yh.length := by
  intro k
  induction k with
  | zero => intro Y1 Yh hk; exact absurd hk (Nat.not_lt_zero _)
  | succ k ih =>
    intro Y1 Yh hk
    cases Yl : (decide (Y1 < (Y3.length : Int))) with
    | true =>
      have e : Z16 Ya Y3 (k + 1) Y1 Yh = (Z16 Ya Y3 k (Y1 + 1) (Yh.set ((Y3.getD Y1.toNat default).toNat) (⟨0, 0, 0⟩ : GVector))) := by simp only [Z16, Yl, cond_true]
      rw [e, ih (Y1 + 1) (Yh.set ((Y3.getD Y1.toNat default).toNat) (⟨0, 0, 0⟩ : GVector)) (by simp_all <;> omega)]; simp
    | false =>
      have e : Z16 Ya Y3 (k + 1) Y1 Yh = Yh := by simp only [Z16, Yl, cond_false]
      first | (rw [e]; done) | (rw [e]; rfl)
def Z3P (Ya : GBody) (Y3 : (List Int)) : (List GVector) := (Z16 Ya Y3 (((Y3.length : Int) - 0).toNat + 1) 0 (Z36 Ya))
@[simp] theorem Zee (Ya : GBody) (Y3 : (List Int)) : (Z3P Ya Y3).length = ((Z36 Ya) : (List GVector)).length := Zav Ya Y3 (((Y3.length : Int) - 0).toNat + 1) 0 (Z36 Ya) (by exact Nat.lt_succ_self _)
def Zr (Ya : GBody) (Y3 : (List Int)) : (List GVector) := (Z3P Ya Y3)
@[simp] theorem Z6T (Ya : GBody) (Y3 : (List Int)) : (Zr Ya Y3).length = Ya.Mesh.Places.length := by
  first | (simp [Zr]; done)
theorem ZeX (b : GBody) (l : List Int) (ok : OkBd b) : Zr b l = Z1w b l := by
  unfold Zr Z1w Z3P Z4c
  rw [Zfq b ok, show Z16 b l = Z1y b l from by kernel_rfl]
theorem Zev (b : GBody) (hs : List Int) (h : Z3w b hs = true) : Z1o b = true ∧ Z3g b hs = true := by
  rw [Zcd] at h
  cases h1 : Z1o b <;> rw [h1] at h <;> (try (cases h; done))
  exact ⟨rfl, h⟩
theorem ZcO (Ya : GBody) (Y3 : (List Int)) (hp0 : Ya.Mesh.Places.length ≤ 1073741824) (hp1 : Ya.Mesh.Triangles.length ≤ 1073741824) (hp2 : ∀ t ∈ Ya.Mesh.Triangles, t.length ≤ 1073741824) (hp3 : Ya.Springs.length ≤ 1073741824) (hp4 : Ya.Weights.length ≤ 1073741824) (hp5 : Y3.length ≤ 1073741824) (hp6 : OkBd Ya) (hp7 : OkIx Ya.Mesh.Places.length (fun x => x) Y3)  : Fn prog 68 [.agg [.sl (Ya.Mesh.Places.map GVector.cells), .sl (Ya.Mesh.Triangles.map (cL (cI .i64))), .sl (Ya.Springs.map GSpring.cells), .f .f32 Ya.Film, .f .f32 Ya.Bend, .sl (Ya.Weights.map (cF .f32)), .f .f32 Ya.Fall.X, .f .f32 Ya.Fall.Y, .f .f32 Ya.Fall.Z], .sl (Y3.map (cI .i64))] (.own 0) [.vec 40 3 ((Zr Ya Y3).map GVector.cells) false] := by
 refine fnS E0Ok Z5 (c := bodyOf f68) [] (.own 0) [.vec 40 3 ((Z3P Ya Y3).map GVector.cells) false] func68 (sF (ZdP Ya hp0 hp1 hp2 hp3 hp4 hp6) <| sZ (cI .i64) Y3 <| sL (mR false [0, 3, 1, 2, 2, 5, 9]) 2 (lp_val (Z5M Ya Y3) (x := (Z3P Ya Y3)) (Zbm Ya Y3 hp0 hp1 hp2 hp3 hp4 hp5 hp6 hp7 (((Y3.length : Int) - 0).toNat + 1) 0 (Z36 Ya) (show 0 ≤ 0 from (by omega)) (show (Z36 Ya).length = Ya.Mesh.Places.length from (by simp; done)) (Nat.lt_succ_self _)) rfl) <| sK [1] sN) rfl (by kernel_rfl) (by kernel_rfl) rfl ?_ ?_
 · rfl
 · simp [Zr]
def Z2G (Y2 : GMesh) : Nat → Int → (List (List Int)) → (List (List Int))
  | 0, _, _ => default
  | k + 1, Y1, YU => (cond (decide (Y1 < (Y2.Triangles.length : Int)))
    (Z2G Y2 k (Y1 + 1) (YU ++ [(([] : List Int) ++ (Y2.Triangles.getD Y1.toNat default))]))
    YU)
def Z6L (Y2 : GMesh) (r : (List (List Int))) : Ex × St := ((.exit 0), ⟨.agg [.sl (Y2.Places.map GVector.cells), .sl (Y2.Triangles.map (cL (cI .i64)))] :: .ptr 0 0 0 :: .ptr 1 0 0 :: .ptr 2 0 0 :: .any :: .any :: .any :: .ptr 0 0 0 :: .sl (Y2.Places.map GVector.cells) :: .own 3 :: .agg [.own 3, .nils] :: .ptr 0 0 1 :: .sl (Y2.Triangles.map (cL (cI .i64))) :: an 15 [], [.box 38 [.sl (Y2.Places.map GVector.cells), .sl (Y2.Triangles.map (cL (cI .i64)))], .box 38 [.nils, .nils], .box 38 [.own 3, .own 4], .vec 40 3 (([] : List (List AV)) ++ (Y2.Places.map GVector.cells)) false, .nest 49 (r.map fun l => l.map (cI .i64)) false]⟩)
def Z6M (Y2 : GMesh) (Y1 : Int) (YU : (List (List Int))) : St := ⟨.agg [.sl (Y2.Places.map GVector.cells), .sl (Y2.Triangles.map (cL (cI .i64)))] :: .ptr 0 0 0 :: .ptr 1 0 0 :: .ptr 3 0 0 :: .any :: .any :: .any :: .ptr 0 0 0 :: .sl (Y2.Places.map GVector.cells) :: .own 2 :: .agg [.own 2, .nils] :: .ptr 0 0 1 :: .sl (Y2.Triangles.map (cL (cI .i64))) :: .i .i64 (Y2.Triangles.length : Int) :: .i .i64 Y1 :: an 13 [], [.box 38 [.sl (Y2.Places.map GVector.cells), .sl (Y2.Triangles.map (cL (cI .i64)))], .box 38 [.nils, .nils], .vec 40 3 (([] : List (List AV)) ++ (Y2.Places.map GVector.cells)) false, .box 38 [.own 2, .own 4], .nest 49 (YU.map fun l => l.map (cI .i64)) false]⟩
theorem Zcs (Y2 : GMesh) (hp0 : Y2.Places.length ≤ 1073741824) (hp1 : Y2.Triangles.length ≤ 1073741824) (hp2 : ∀ t ∈ Y2.Triangles, t.length ≤ 1073741824) (hp3 : OkTris Y2.Places.length Y2.Triangles) : ∀ (k : Nat) (Y1 : Int) (YU : (List (List Int))) (Z5N : 0 ≤ Y1) (Z8i : (YU.length : Int) = Y1) (hk : ((Y2.Triangles.length : Int) - Y1).toNat < k), Lp prog 0 (sub (bodyOf f128) [1, 1, 0, 1, 0, 0]) (Z6M Y2 Y1 YU) (Z6L Y2 (Z2G Y2 k Y1 YU)).1 (Z6L Y2 (Z2G Y2 k Y1 YU)).2 := by
 intro k
 induction k with
 | zero => intro Y1 YU Z5N Z8i hk; exact absurd hk (Nat.not_lt_zero _)
 | succ k ih =>
  intro Y1 YU Z5N Z8i hk
  cases Yl : (decide (Y1 < (Y2.Triangles.length : Int))) with
  | true =>
   have Yw := of_decide_eq_true Yl
   have YF : (0 : Int) ≤ Y1 := (by assumption)
   have YG : Y1 < (Y2.Triangles.length : Int) := (by assumption)
   have YH : ([] : List Int).length + (Y2.Triangles.getD Y1.toNat default).length ≤ 1073741824 := (by simp_all <;> omega)
   have YI : YU.length + [(([] : List Int) ++ (Y2.Triangles.getD Y1.toNat default))].length ≤ 1073741824 := (by simp_all <;> omega)
   have YP : (-9223372036854775808 : Int) ≤ (Y1 + 1) := (by omega)
   have YS : (Y1 + 1) ≤ (9223372036854775807 : Int) := (by omega)
   have e : Z2G Y2 (k + 1) Y1 YU = (Z2G Y2 k (Y1 + 1) (YU ++ [(([] : List Int) ++ (Y2.Triangles.getD Y1.toNat default))])) := by simp only [Z2G, Yl, cond_true]
   rw [e]
   exact nextS E0Ok Z5 [] (mR false [0, 4, 3, 8, 13]) [0, 1, 2, 3, 4] (⟨.agg [.sl (Y2.Places.map GVector.cells), .sl (Y2.Triangles.map (cL (cI .i64)))] :: .ptr 0 0 0 :: .ptr 1 0 0 :: .ptr 3 0 0 :: .any :: .any :: .any :: .ptr 0 0 0 :: .sl (Y2.Places.map GVector.cells) :: .own 2 :: .agg [.own 2, .nils] :: .ptr 0 0 1 :: .sl (Y2.Triangles.map (cL (cI .i64))) :: .i .i64 (Y2.Triangles.length : Int) :: .i .i64 (Y1 + 1) :: an 13 [], [.box 38 [.sl (Y2.Places.map GVector.cells), .sl (Y2.Triangles.map (cL (cI .i64)))], .box 38 [.nils, .nils], .vec 40 3 (([] : List (List AV)) ++ (Y2.Places.map GVector.cells)) false, .box 38 [.own 2, .own 4], .nest 49 ((YU.map fun l => l.map (cI .i64)) ++ [(([] : List (List AV)) ++ ((Y2.Triangles.getD Y1.toNat default).map (cI .i64)))]) false]⟩) (sB Yl <| sG (cL (cI .i64)) Y2.Triangles Y1 YF YG <| sK [6, 6] <| sC (show ((Y2.Triangles.getD Y1.toNat default).map (cI .i64)) ≠ [] from (by have q := (OkTris.at hp3 Z5N (of_decide_eq_true (by assumption))).1; have q2 : (Y2.Triangles.getD Y1.toNat default) ≠ [] := (by intro hq; rw [hq] at q; simp at q); simpa using q2)) <| sC (show ([] : List (List AV)).length + ((Y2.Triangles.getD Y1.toNat default).map (cI .i64)).length ≤ 1073741824 from (by simpa using YH)) <| sC (show ((Y2.Triangles.getD Y1.toNat default).map (cI .i64)).all (fun cs => cs.length == 1 && cs.all isS) = true from (src_ok (fun _ => rfl))) <| sC (show (YU.map fun l => l.map (cI .i64)).length + [(([] : List (List AV)) ++ ((Y2.Triangles.getD Y1.toNat default).map (cI .i64)))].length ≤ 1073741824 from (by simpa using YI)) <| sI (Y1 + 1) YP YS <| sN) (by kernel_rfl) (by simp [Z6M, GVector.cells, cL, cI]) (ih (Y1 + 1) (YU ++ [(([] : List Int) ++ (Y2.Triangles.getD Y1.toNat default))]) (show 0 ≤ (Y1 + 1) from (by omega)) (show ((YU ++ [(([] : List Int) ++ (Y2.Triangles.getD Y1.toNat default))]).length : Int) = (Y1 + 1) from (by simp_all <;> omega)) (by omega))
  | false =>
   have Yw := of_decide_eq_false Yl
   have e : Z2G Y2 (k + 1) Y1 YU = YU := by simp only [Z2G, Yl, cond_false]
   rw [e]
   exact outR (e := (.exit 0)) E0Ok Z5 [] (mR false [0, 4, 3, 6, 15]) [0, 1, 3, 2, 4] (sB Yl <| sN) (by kernel_rfl) (by intro h; cases h)
def Z4K (Y2 : GMesh) : (List (List Int)) := (Z2G Y2 (((Y2.Triangles.length : Int) - 0).toNat + 1) 0 ([] : List (List Int)))
def Z5b (Y2 : GMesh) : GMesh := (⟨(([] : List GVector) ++ Y2.Places), (Z4K Y2)⟩ : GMesh)
theorem ZdQ (Y2 : GMesh) (hp0 : Y2.Places.length ≤ 1073741824) (hp1 : Y2.Triangles.length ≤ 1073741824) (hp2 : ∀ t ∈ Y2.Triangles, t.length ≤ 1073741824) (hp3 : OkTris Y2.Places.length Y2.Triangles)  : Fn prog 128 [.agg [.sl (Y2.Places.map GVector.cells), .sl (Y2.Triangles.map (cL (cI .i64)))]] (.agg [.own 0, .own 1]) [.vec 40 3 (((Z5b Y2).Places).map GVector.cells) false, .nest 49 (((Z5b Y2).Triangles).map fun l => l.map (cI .i64)) false] := by
 have y0 : ([] : List GVector).length + Y2.Places.length ≤ 1073741824 := (by simp_all <;> omega)
 refine fnS E0Ok Z5 (c := bodyOf f128) [] (.agg [.own 0, .own 1]) [.vec 40 3 (([] : List (List AV)) ++ (Y2.Places.map GVector.cells)) false, .nest 49 ((Z4K Y2).map fun l => l.map (cI .i64)) false] func128 (sC (show ([] : List (List AV)).length + (Y2.Places.map GVector.cells).length ≤ 1073741824 from (by simpa using y0)) <| sC (show (Y2.Places.map GVector.cells).all (fun cs => cs.length == 3 && cs.all isS) = true from (src_ok (fun _ => rfl))) <| sZ (cL (cI .i64)) Y2.Triangles <| sL (mR false [0, 4, 3, 8, 13]) 4 (Lp.nil (st := ⟨.agg [.sl (Y2.Places.map GVector.cells), .sl (Y2.Triangles.map (cL (cI .i64)))] :: .ptr 0 0 0 :: .ptr 1 0 0 :: .ptr 3 0 0 :: .any :: .any :: .any :: .ptr 0 0 0 :: .sl (Y2.Places.map GVector.cells) :: .own 2 :: .agg [.own 2, .nils] :: .ptr 0 0 1 :: .sl (Y2.Triangles.map (cL (cI .i64))) :: .i .i64 (Y2.Triangles.length : Int) :: .i .i64 0 :: an 13 [], [.box 38 [.sl (Y2.Places.map GVector.cells), .sl (Y2.Triangles.map (cL (cI .i64)))], .box 38 [.nils, .nils], .vec 40 3 (([] : List (List AV)) ++ (Y2.Places.map GVector.cells)) false, .box 38 [.own 2, .nils]]⟩) (st2 := ⟨.agg [.sl (Y2.Places.map GVector.cells), .sl (Y2.Triangles.map (cL (cI .i64)))] :: .ptr 0 0 0 :: .ptr 1 0 0 :: .ptr 3 0 0 :: .any :: .any :: .any :: .ptr 0 0 0 :: .sl (Y2.Places.map GVector.cells) :: .own 2 :: .agg [.own 2, .nils] :: .ptr 0 0 1 :: .sl (Y2.Triangles.map (cL (cI .i64))) :: .i .i64 (Y2.Triangles.length : Int) :: .i .i64 0 :: an 13 [], [.box 38 [.sl (Y2.Places.map GVector.cells), .sl (Y2.Triangles.map (cL (cI .i64)))], .box 38 [.nils, .nils], .vec 40 3 (([] : List (List AV)) ++ (Y2.Places.map GVector.cells)) false, .box 38 [.own 2, .own 4], .nest 49 [] false]⟩) (ps := [(.row 3 1, .nest 49 [] false)]) rfl (lp_cast (st2 := ⟨.agg [.sl (Y2.Places.map GVector.cells), .sl (Y2.Triangles.map (cL (cI .i64)))] :: .ptr 0 0 0 :: .ptr 1 0 0 :: .ptr 3 0 0 :: .any :: .any :: .any :: .ptr 0 0 0 :: .sl (Y2.Places.map GVector.cells) :: .own 2 :: .agg [.own 2, .nils] :: .ptr 0 0 1 :: .sl (Y2.Triangles.map (cL (cI .i64))) :: .i .i64 (Y2.Triangles.length : Int) :: .i .i64 0 :: an 13 [], [.box 38 [.sl (Y2.Places.map GVector.cells), .sl (Y2.Triangles.map (cL (cI .i64)))], .box 38 [.nils, .nils], .vec 40 3 (([] : List (List AV)) ++ (Y2.Places.map GVector.cells)) false, .box 38 [.own 2, .own 4], .nest 49 [] false]⟩) (lp_val (Z6L Y2) (x := (Z4K Y2)) (Zcs Y2 hp0 hp1 hp2 hp3 (((Y2.Triangles.length : Int) - 0).toNat + 1) 0 ([] : List (List Int)) (show 0 ≤ 0 from (by omega)) (show (([] : List (List Int)).length : Int) = 0 from (by simp)) (Nat.lt_succ_self _)) rfl) (by simp [Z6M, GVector.cells, cL, cI]))) <| sK [3, 4] sN) rfl (by kernel_rfl) (by kernel_rfl) rfl ?_ ?_
 · rfl
 · simp [Z5b, GVector.cells]
@[simp] theorem Zfr (m : GMesh) : Z5b m = m := by
  unfold Z5b Z4K
  rw [app_loop (f := fun i => (m.Triangles.getD i.toNat default)) (n := (m.Triangles.length : Int)) (lo := Z2G m) (fun k i r => rfl) _ _ _ (Nat.lt_succ_self _)]
  simp [getD_range2]
theorem ZdR (Y2 : GMesh) (hp0 : Y2.Places.length ≤ 1073741824) (hp1 : Y2.Triangles.length ≤ 1073741824) (hp2 : ∀ t ∈ Y2.Triangles, t.length ≤ 1073741824) (hp3 : OkTris Y2.Places.length Y2.Triangles) : Fn prog 128 [.agg [.sl (Y2.Places.map GVector.cells), .sl (Y2.Triangles.map (cL (cI .i64)))]] (.agg [.own 0, .own 1]) [.vec 40 3 (Y2.Places.map GVector.cells) false, .nest 49 (Y2.Triangles.map fun l => l.map (cI .i64)) false] := by
 simpa only [Zfr] using ZdQ  Y2 hp0 hp1 hp2 hp3
def Z2L (Ya : GBody) : GBody := (⟨Ya.Mesh, (([] : List GSpring) ++ Ya.Springs), Ya.Film, Ya.Bend, (([] : List Nat) ++ Ya.Weights), Ya.Fall⟩ : GBody)
theorem ZdS (Ya : GBody) (hp0 : Ya.Mesh.Places.length ≤ 1073741824) (hp1 : Ya.Mesh.Triangles.length ≤ 1073741824) (hp2 : ∀ t ∈ Ya.Mesh.Triangles, t.length ≤ 1073741824) (hp3 : Ya.Springs.length ≤ 1073741824) (hp4 : Ya.Weights.length ≤ 1073741824) (hp5 : OkTris Ya.Mesh.Places.length Ya.Mesh.Triangles)  : Fn prog 84 [.agg [.sl (Ya.Mesh.Places.map GVector.cells), .sl (Ya.Mesh.Triangles.map (cL (cI .i64))), .sl (Ya.Springs.map GSpring.cells), .f .f32 Ya.Film, .f .f32 Ya.Bend, .sl (Ya.Weights.map (cF .f32)), .f .f32 Ya.Fall.X, .f .f32 Ya.Fall.Y, .f .f32 Ya.Fall.Z]] (.agg [.own 0, .own 1, .own 2, .f .f32 ((Z2L Ya).Film), .f .f32 ((Z2L Ya).Bend), .own 3, .f .f32 ((Z2L Ya).Fall.X), .f .f32 ((Z2L Ya).Fall.Y), .f .f32 ((Z2L Ya).Fall.Z)]) [.vec 40 3 (((Z2L Ya).Mesh.Places).map GVector.cells) false, .nest 49 (((Z2L Ya).Mesh.Triangles).map fun l => l.map (cI .i64)) false, .vec 133 4 (((Z2L Ya).Springs).map GSpring.cells) false, .vec 27 1 (((Z2L Ya).Weights).map (cF .f32)) false] := by
 have y0 : ([] : List GSpring).length + Ya.Springs.length ≤ 1073741824 := (by simp_all <;> omega)
 have y1 : ([] : List Nat).length + Ya.Weights.length ≤ 1073741824 := (by simp_all <;> omega)
 refine fnS E0Ok Z5 (c := bodyOf f84) [] (.agg [.own 0, .own 1, .own 2, .f .f32 Ya.Film, .f .f32 Ya.Bend, .own 3, .f .f32 Ya.Fall.X, .f .f32 Ya.Fall.Y, .f .f32 Ya.Fall.Z]) [.vec 40 3 (Ya.Mesh.Places.map GVector.cells) false, .nest 49 (Ya.Mesh.Triangles.map fun l => l.map (cI .i64)) false, .vec 133 4 (([] : List (List AV)) ++ (Ya.Springs.map GSpring.cells)) false, .vec 27 1 (([] : List (List AV)) ++ (Ya.Weights.map (cF .f32))) false] func84 (sF (ZdR Ya.Mesh hp0 hp1 hp2 hp5) <| sC (show ([] : List (List AV)).length + (Ya.Springs.map GSpring.cells).length ≤ 1073741824 from (by simpa using y0)) <| sC (show (Ya.Springs.map GSpring.cells).all (fun cs => cs.length == 4 && cs.all isS) = true from (src_ok (fun _ => rfl))) <| sC (show ([] : List (List AV)).length + (Ya.Weights.map (cF .f32)).length ≤ 1073741824 from (by simpa using y1)) <| sC (show (Ya.Weights.map (cF .f32)).all (fun cs => cs.length == 1 && cs.all isS) = true from (src_ok (fun _ => rfl))) <| sK [2, 3, 4, 5] sN) rfl (by kernel_rfl) (by kernel_rfl) rfl ?_ ?_
 · rfl
 · simp [Z2L, GSpring.cells, cF]
@[simp] theorem Zfs (b : GBody) : Z2L b = b := by simp [Z2L]
theorem ZdT (Ya : GBody) (hp0 : Ya.Mesh.Places.length ≤ 1073741824) (hp1 : Ya.Mesh.Triangles.length ≤ 1073741824) (hp2 : ∀ t ∈ Ya.Mesh.Triangles, t.length ≤ 1073741824) (hp3 : Ya.Springs.length ≤ 1073741824) (hp4 : Ya.Weights.length ≤ 1073741824) (hp5 : OkTris Ya.Mesh.Places.length Ya.Mesh.Triangles) : Fn prog 84 [.agg [.sl (Ya.Mesh.Places.map GVector.cells), .sl (Ya.Mesh.Triangles.map (cL (cI .i64))), .sl (Ya.Springs.map GSpring.cells), .f .f32 Ya.Film, .f .f32 Ya.Bend, .sl (Ya.Weights.map (cF .f32)), .f .f32 Ya.Fall.X, .f .f32 Ya.Fall.Y, .f .f32 Ya.Fall.Z]] (.agg [.own 0, .own 1, .own 2, .f .f32 Ya.Film, .f .f32 Ya.Bend, .own 3, .f .f32 Ya.Fall.X, .f .f32 Ya.Fall.Y, .f .f32 Ya.Fall.Z]) [.vec 40 3 (Ya.Mesh.Places.map GVector.cells) false, .nest 49 (Ya.Mesh.Triangles.map fun l => l.map (cI .i64)) false, .vec 133 4 (Ya.Springs.map GSpring.cells) false, .vec 27 1 (Ya.Weights.map (cF .f32)) false] := by
 simpa only [Zfs] using ZdS  Ya hp0 hp1 hp2 hp3 hp4 hp5
def Z1L (Ya : GBody) (Yq : (List GVector)) (Yj : Nat) : Nat → Int → (List GVector) → (List GVector)
  | 0, _, _ => default
  | k + 1, Y1, Yb => (cond (decide (Y1 < (Yq.length : Int)))
    (Z1L Ya Yq Yj k (Y1 + 1) (Yb.set Y1.toNat (ZV (Yb.getD Y1.toNat default) (Zj (Yq.getD Y1.toNat default) Yj))))
    Yb)
def Z8j (Ya : GBody) (Yq : (List GVector)) (Yj : Nat) (r : (List GVector)) : Ex × St := ((.exit 0), ⟨.agg [.sl (Ya.Mesh.Places.map GVector.cells), .sl (Ya.Mesh.Triangles.map (cL (cI .i64))), .sl (Ya.Springs.map GSpring.cells), .f .f32 Ya.Film, .f .f32 Ya.Bend, .sl (Ya.Weights.map (cF .f32)), .f .f32 Ya.Fall.X, .f .f32 Ya.Fall.Y, .f .f32 Ya.Fall.Z] :: .sl (Yq.map GVector.cells) :: .any :: .ptr 0 0 0 :: .any :: .any :: .ptr 1 0 0 :: .ptr 2 0 0 :: .any :: .any :: .agg [.sl (Ya.Mesh.Places.map GVector.cells), .sl (Ya.Mesh.Triangles.map (cL (cI .i64))), .sl (Ya.Springs.map GSpring.cells), .f .f32 Ya.Film, .f .f32 Ya.Bend, .sl (Ya.Weights.map (cF .f32)), .f .f32 Ya.Fall.X, .f .f32 Ya.Fall.Y, .f .f32 Ya.Fall.Z] :: .agg [.own 3, .own 4, .own 5, .f .f32 Ya.Film, .f .f32 Ya.Bend, .own 6, .f .f32 Ya.Fall.X, .f .f32 Ya.Fall.Y, .f .f32 Ya.Fall.Z] :: .sl (Yq.map GVector.cells) :: an 23 [], [.box 42 [.sl (Ya.Mesh.Places.map GVector.cells), .sl (Ya.Mesh.Triangles.map (cL (cI .i64))), .sl (Ya.Springs.map GSpring.cells), .f .f32 Ya.Film, .f .f32 Ya.Bend, .sl (Ya.Weights.map (cF .f32)), .f .f32 Ya.Fall.X, .f .f32 Ya.Fall.Y, .f .f32 Ya.Fall.Z], .box 42 [.nils, .nils, .nils, .f .f32 0, .f .f32 0, .nils, .f .f32 0, .f .f32 0, .f .f32 0], .box 42 [.own 3, .own 4, .own 5, .f .f32 Ya.Film, .f .f32 Ya.Bend, .own 6, .f .f32 Ya.Fall.X, .f .f32 Ya.Fall.Y, .f .f32 Ya.Fall.Z], .vec 40 3 (r.map GVector.cells) false, .nest 49 (Ya.Mesh.Triangles.map fun l => l.map (cI .i64)) false, .vec 133 4 (Ya.Springs.map GSpring.cells) false, .vec 27 1 (Ya.Weights.map (cF .f32)) false]⟩)
def Zal (Ya : GBody) (Yq : (List GVector)) (Yj : Nat) (Y1 : Int) (Yb : (List GVector)) : St := ⟨.agg [.sl (Ya.Mesh.Places.map GVector.cells), .sl (Ya.Mesh.Triangles.map (cL (cI .i64))), .sl (Ya.Springs.map GSpring.cells), .f .f32 Ya.Film, .f .f32 Ya.Bend, .sl (Ya.Weights.map (cF .f32)), .f .f32 Ya.Fall.X, .f .f32 Ya.Fall.Y, .f .f32 Ya.Fall.Z] :: .sl (Yq.map GVector.cells) :: .f .f32 Yj :: .ptr 0 0 0 :: .any :: .any :: .ptr 1 0 0 :: .ptr 6 0 0 :: .any :: .any :: .agg [.sl (Ya.Mesh.Places.map GVector.cells), .sl (Ya.Mesh.Triangles.map (cL (cI .i64))), .sl (Ya.Springs.map GSpring.cells), .f .f32 Ya.Film, .f .f32 Ya.Bend, .sl (Ya.Weights.map (cF .f32)), .f .f32 Ya.Fall.X, .f .f32 Ya.Fall.Y, .f .f32 Ya.Fall.Z] :: .agg [.own 2, .own 3, .own 4, .f .f32 Ya.Film, .f .f32 Ya.Bend, .own 5, .f .f32 Ya.Fall.X, .f .f32 Ya.Fall.Y, .f .f32 Ya.Fall.Z] :: .sl (Yq.map GVector.cells) :: .i .i64 (Yq.length : Int) :: .i .i64 Y1 :: an 21 [], [.box 42 [.sl (Ya.Mesh.Places.map GVector.cells), .sl (Ya.Mesh.Triangles.map (cL (cI .i64))), .sl (Ya.Springs.map GSpring.cells), .f .f32 Ya.Film, .f .f32 Ya.Bend, .sl (Ya.Weights.map (cF .f32)), .f .f32 Ya.Fall.X, .f .f32 Ya.Fall.Y, .f .f32 Ya.Fall.Z], .box 42 [.nils, .nils, .nils, .f .f32 0, .f .f32 0, .nils, .f .f32 0, .f .f32 0, .f .f32 0], .vec 40 3 (Yb.map GVector.cells) false, .nest 49 (Ya.Mesh.Triangles.map fun l => l.map (cI .i64)) false, .vec 133 4 (Ya.Springs.map GSpring.cells) false, .vec 27 1 (Ya.Weights.map (cF .f32)) false, .box 42 [.own 2, .own 3, .own 4, .f .f32 Ya.Film, .f .f32 Ya.Bend, .own 5, .f .f32 Ya.Fall.X, .f .f32 Ya.Fall.Y, .f .f32 Ya.Fall.Z]]⟩
theorem ZdU (Ya : GBody) (Yq : (List GVector)) (Yj : Nat) (hp0 : Ya.Mesh.Places.length ≤ 1073741824) (hp1 : Ya.Mesh.Triangles.length ≤ 1073741824) (hp2 : ∀ t ∈ Ya.Mesh.Triangles, t.length ≤ 1073741824) (hp3 : Ya.Springs.length ≤ 1073741824) (hp4 : Ya.Weights.length ≤ 1073741824) (hp5 : Yq.length ≤ 1073741824) (hp6 : OkTris Ya.Mesh.Places.length Ya.Mesh.Triangles) (hp7 : Yq.length ≤ Ya.Mesh.Places.length) : ∀ (k : Nat) (Y1 : Int) (Yb : (List GVector)) (Z9B : 0 ≤ Y1) (Z9C : Yb.length = Ya.Mesh.Places.length) (hk : ((Yq.length : Int) - Y1).toNat < k), Lp prog 0 (sub (bodyOf f124) [1, 1, 0, 1, 0, 0]) (Zal Ya Yq Yj Y1 Yb) (Z8j Ya Yq Yj (Z1L Ya Yq Yj k Y1 Yb)).1 (Z8j Ya Yq Yj (Z1L Ya Yq Yj k Y1 Yb)).2 := by
 intro k
 induction k with
 | zero => intro Y1 Yb Z9B Z9C hk; exact absurd hk (Nat.not_lt_zero _)
 | succ k ih =>
  intro Y1 Yb Z9B Z9C hk
  cases Yl : (decide (Y1 < (Yq.length : Int))) with
  | true =>
   have Yw := of_decide_eq_true Yl
   have YF : (0 : Int) ≤ Y1 := (by assumption)
   have YG : Y1 < (Yq.length : Int) := (by assumption)
   have YH : Y1 < (Yb.length : Int) := (by omega)
   have YI : Y1.toNat < Yb.length := (by omega)
   have YP : (-9223372036854775808 : Int) ≤ (Y1 + 1) := (by omega)
   have YS : (Y1 + 1) ≤ (9223372036854775807 : Int) := (by omega)
   have e : Z1L Ya Yq Yj (k + 1) Y1 Yb = (Z1L Ya Yq Yj k (Y1 + 1) (Yb.set Y1.toNat (ZV (Yb.getD Y1.toNat default) (Zj (Yq.getD Y1.toNat default) Yj)))) := by simp only [Z1L, Yl, cond_true]
   rw [e]
   exact nextS E0Ok Z5 [] (mR false [0, 4, 2, 2, 2, 5, 21]) [0, 1, 2, 3, 4, 5, 6] (⟨.agg [.sl (Ya.Mesh.Places.map GVector.cells), .sl (Ya.Mesh.Triangles.map (cL (cI .i64))), .sl (Ya.Springs.map GSpring.cells), .f .f32 Ya.Film, .f .f32 Ya.Bend, .sl (Ya.Weights.map (cF .f32)), .f .f32 Ya.Fall.X, .f .f32 Ya.Fall.Y, .f .f32 Ya.Fall.Z] :: .sl (Yq.map GVector.cells) :: .f .f32 Yj :: .ptr 0 0 0 :: .any :: .any :: .ptr 1 0 0 :: .ptr 6 0 0 :: .any :: .any :: .agg [.sl (Ya.Mesh.Places.map GVector.cells), .sl (Ya.Mesh.Triangles.map (cL (cI .i64))), .sl (Ya.Springs.map GSpring.cells), .f .f32 Ya.Film, .f .f32 Ya.Bend, .sl (Ya.Weights.map (cF .f32)), .f .f32 Ya.Fall.X, .f .f32 Ya.Fall.Y, .f .f32 Ya.Fall.Z] :: .agg [.own 2, .own 3, .own 4, .f .f32 Ya.Film, .f .f32 Ya.Bend, .own 5, .f .f32 Ya.Fall.X, .f .f32 Ya.Fall.Y, .f .f32 Ya.Fall.Z] :: .sl (Yq.map GVector.cells) :: .i .i64 (Yq.length : Int) :: .i .i64 (Y1 + 1) :: an 21 [], [.box 42 [.sl (Ya.Mesh.Places.map GVector.cells), .sl (Ya.Mesh.Triangles.map (cL (cI .i64))), .sl (Ya.Springs.map GSpring.cells), .f .f32 Ya.Film, .f .f32 Ya.Bend, .sl (Ya.Weights.map (cF .f32)), .f .f32 Ya.Fall.X, .f .f32 Ya.Fall.Y, .f .f32 Ya.Fall.Z], .box 42 [.nils, .nils, .nils, .f .f32 0, .f .f32 0, .nils, .f .f32 0, .f .f32 0, .f .f32 0], .vec 40 3 ((Yb.map GVector.cells).set Y1.toNat [.f .f32 ((ZV (Yb.getD Y1.toNat default) (Zj (Yq.getD Y1.toNat default) Yj)).X), .f .f32 ((ZV (Yb.getD Y1.toNat default) (Zj (Yq.getD Y1.toNat default) Yj)).Y), .f .f32 ((ZV (Yb.getD Y1.toNat default) (Zj (Yq.getD Y1.toNat default) Yj)).Z)]) false, .nest 49 (Ya.Mesh.Triangles.map fun l => l.map (cI .i64)) false, .vec 133 4 (Ya.Springs.map GSpring.cells) false, .vec 27 1 (Ya.Weights.map (cF .f32)) false, .box 42 [.own 2, .own 3, .own 4, .f .f32 Ya.Film, .f .f32 Ya.Bend, .own 5, .f .f32 Ya.Fall.X, .f .f32 Ya.Fall.Y, .f .f32 Ya.Fall.Z]]⟩) (sB Yl <| sG GVector.cells Yq Y1 YF YG <| sK [14, 14] <| sX GVector.cells Yb Y1 YF YH <| sV GVector.cells Yb Y1.toNat YI <| sF (Z59 (Yq.getD Y1.toNat default) Yj) <| sF (Z4y (Yb.getD Y1.toNat default) (Zj (Yq.getD Y1.toNat default) Yj)) <| sX GVector.cells Yb Y1 YF YH <| sC (maplt (c := GVector.cells) (l := Yb) YI) <| sI (Y1 + 1) YP YS <| sN) (by kernel_rfl) (by simp [Zal, List.map_set, GVector.cells]) (ih (Y1 + 1) (Yb.set Y1.toNat (ZV (Yb.getD Y1.toNat default) (Zj (Yq.getD Y1.toNat default) Yj))) (show 0 ≤ (Y1 + 1) from (by omega)) (show (Yb.set Y1.toNat (ZV (Yb.getD Y1.toNat default) (Zj (Yq.getD Y1.toNat default) Yj))).length = Ya.Mesh.Places.length from (by simp_all <;> omega)) (by omega))
  | false =>
   have Yw := of_decide_eq_false Yl
   have e : Z1L Ya Yq Yj (k + 1) Y1 Yb = Yb := by simp only [Z1L, Yl, cond_false]
   rw [e]
   exact outR (e := (.exit 0)) E0Ok Z5 [] (mR false [0, 2, 1, 1, 2, 2, 2, 3, 23]) [0, 1, 6, 2, 3, 4, 5] (sB Yl <| sN) (by kernel_rfl) (by intro h; cases h)
theorem ZcP (Ya : GBody) (Yq : (List GVector)) (Yj : Nat) : ∀ (k : Nat) (Y1 : Int) (Yb : (List GVector)) (hk : ((Yq.length : Int) - Y1).toNat < k), (Z1L Ya Yq Yj k Y1 Yb).length = Yb.length := by
  intro k
  induction k with
  | zero => intro Y1 Yb hk; exact absurd hk (Nat.not_lt_zero _)
  | succ k ih =>
    intro Y1 Yb hk
    cases Yl : (decide (Y1 < (Yq.length : Int))) with
    | true =>
      have e : Z1L Ya Yq Yj (k + 1) Y1 Yb = (Z1L Ya Yq Yj k (Y1 + 1) (Yb.set Y1.toNat (ZV (Yb.getD Y1.toNat default) (Zj (Yq.getD Y1.toNat default) Yj)))) := by simp only [Z1L, Yl, cond_true]
      rw [e, ih (Y1 + 1) (Yb.set Y1.toNat (ZV (Yb.getD Y1.toNat default) (Zj (Yq.getD Y1.toNat default) Yj))) (by simp_all <;> omega)]; simp
    | false =>
      have e : Z1L Ya Yq Yj (k + 1) Y1 Yb = Yb := by simp only [Z1L, Yl, cond_false]
      first | (rw [e]; done) | (rw [e]; rfl)
def Z4A (Ya : GBody) (Yq : (List GVector)) (Yj : Nat) : (List GVector) := (Z1L Ya Yq Yj (((Yq.length : Int) - 0).toNat + 1) 0 Ya.Mesh.Places)
@[simp] theorem Zfj (Ya : GBody) (Yq : (List GVector)) (Yj : Nat) : (Z4A Ya Yq Yj).length = (Ya.Mesh.Places : (List GVector)).length := ZcP Ya Yq Yj (((Yq.length : Int) - 0).toNat + 1) 0 Ya.Mesh.Places (by exact Nat.lt_succ_self _)
def ZX (Ya : GBody) (Yq : (List GVector)) (Yj : Nat) : GBody := (⟨(⟨(Z4A Ya Yq Yj), Ya.Mesh.Triangles⟩ : GMesh), Ya.Springs, Ya.Film, Ya.Bend, Ya.Weights, Ya.Fall⟩ : GBody)
theorem ZaR (b : GBody) (v : List GVector) (s : Nat) : (ZX b v s).Mesh.Places.length ≤ b.Mesh.Places.length := by
  unfold ZX
  simp
theorem ZaS (b : GBody) (v : List GVector) (s : Nat) : (ZX b v s).Mesh.Triangles.length ≤ b.Mesh.Triangles.length := by
  unfold ZX
  simp
theorem ZaT (b : GBody) (v : List GVector) (s : Nat) : (ZX b v s).Weights.length ≤ b.Weights.length := by
  unfold ZX
  simp
theorem ZaU (b : GBody) (v : List GVector) (s : Nat) : (ZX b v s).Springs.length ≤ b.Springs.length := by
  unfold ZX
  simp
theorem Zff (Ya : GBody) (Yq : (List GVector)) (Yj : Nat) (hp0 : Ya.Mesh.Places.length ≤ 1073741824) (hp1 : Ya.Mesh.Triangles.length ≤ 1073741824) (hp2 : ∀ t ∈ Ya.Mesh.Triangles, t.length ≤ 1073741824) (hp3 : Ya.Springs.length ≤ 1073741824) (hp4 : Ya.Weights.length ≤ 1073741824) (hp5 : Yq.length ≤ 1073741824) (hp6 : OkTris Ya.Mesh.Places.length Ya.Mesh.Triangles) (hp7 : Yq.length ≤ Ya.Mesh.Places.length)  : Fn prog 124 [.agg [.sl (Ya.Mesh.Places.map GVector.cells), .sl (Ya.Mesh.Triangles.map (cL (cI .i64))), .sl (Ya.Springs.map GSpring.cells), .f .f32 Ya.Film, .f .f32 Ya.Bend, .sl (Ya.Weights.map (cF .f32)), .f .f32 Ya.Fall.X, .f .f32 Ya.Fall.Y, .f .f32 Ya.Fall.Z], .sl (Yq.map GVector.cells), .f .f32 Yj] (.agg [.own 0, .own 1, .own 2, .f .f32 ((ZX Ya Yq Yj).Film), .f .f32 ((ZX Ya Yq Yj).Bend), .own 3, .f .f32 ((ZX Ya Yq Yj).Fall.X), .f .f32 ((ZX Ya Yq Yj).Fall.Y), .f .f32 ((ZX Ya Yq Yj).Fall.Z)]) [.vec 40 3 (((ZX Ya Yq Yj).Mesh.Places).map GVector.cells) false, .nest 49 (((ZX Ya Yq Yj).Mesh.Triangles).map fun l => l.map (cI .i64)) false, .vec 133 4 (((ZX Ya Yq Yj).Springs).map GSpring.cells) false, .vec 27 1 (((ZX Ya Yq Yj).Weights).map (cF .f32)) false] := by
 refine fnS E0Ok Z5 (c := bodyOf f124) [] (.agg [.own 0, .own 1, .own 2, .f .f32 Ya.Film, .f .f32 Ya.Bend, .own 3, .f .f32 Ya.Fall.X, .f .f32 Ya.Fall.Y, .f .f32 Ya.Fall.Z]) [.vec 40 3 ((Z4A Ya Yq Yj).map GVector.cells) false, .nest 49 (Ya.Mesh.Triangles.map fun l => l.map (cI .i64)) false, .vec 133 4 (Ya.Springs.map GSpring.cells) false, .vec 27 1 (Ya.Weights.map (cF .f32)) false] func124 (sF (ZdT Ya hp0 hp1 hp2 hp3 hp4 hp6) <| sZ GVector.cells Yq <| sL (mR false [0, 4, 2, 2, 2, 5, 21]) 7 (lp_val (Z8j Ya Yq Yj) (x := (Z4A Ya Yq Yj)) (ZdU Ya Yq Yj hp0 hp1 hp2 hp3 hp4 hp5 hp6 hp7 (((Yq.length : Int) - 0).toNat + 1) 0 Ya.Mesh.Places (show 0 ≤ 0 from (by omega)) (show Ya.Mesh.Places.length = Ya.Mesh.Places.length from (by simp)) (Nat.lt_succ_self _)) rfl) <| sK [3, 4, 5, 6] sN) rfl (by kernel_rfl) (by kernel_rfl) rfl ?_ ?_
 · rfl
 · simp [ZX]
theorem Zgk (b : GBody) (v : List GVector) (s : Nat) : ∀ (k : Nat) (i : Int) (r : List GVector), 0 ≤ i → (∀ j, i.toNat ≤ j → r.getD j default = b.Mesh.Places.getD j default) → Z1L b v s k i r = Z1e b v s k i r := by
  intro k
  induction k with
  | zero => intros; rfl
  | succ k ih =>
    intro i r h0 hr
    rw [Z1L, Z1e, hr _ (Nat.le_refl _)]
    cases decide (i < (v.length : Int)) with
    | false => rfl
    | true =>
      rw [cond_true, cond_true]
      rw [ih (i + 1) _ (by omega) (fun j hj => by rw [List.getD_eq_getElem?_getD, List.getElem?_set_ne (by omega), ← List.getD_eq_getElem?_getD]; exact hr j (by omega))]
      rfl
theorem Zgl (b : GBody) (v : List GVector) (s : Nat) : ZX b v s = Zi b v s := by
  unfold ZX Zi Z4A Z47
  rw [Zgk b v s _ _ _ (Int.le_refl 0) (fun _ _ => rfl)]
def Z17 (Y2 : GMotion) (Y3 : (List Int)) (Yc : Nat) (Y8 : Nat) (Y1 : Int) : GVector := (ZV (Y2.Speeds.getD Y1.toNat default) (Zj ((Zr Y2.Body Y3).getD Y1.toNat default) (fop .quo .f32 Y8 Yc)))
def Z2i (Y2 : GMotion) (Y3 : (List Int)) (Yc : Nat) (Yd : Nat) (Y8 : Nat) : Nat → Int → (List GVector) → (List GVector)
  | 0, _, _ => default
  | k + 1, Y1, Yb => (cond (decide (Y1 < ((Zr Y2.Body Y3).length : Int)))
    (Z2i Y2 Y3 Yc Yd Y8 k (Y1 + 1) (Yb ++ [(Zj (Z17 Y2 Y3 Yc Y8 Y1) Yd)]))
    Yb)
def Z5O (Y2 : GMotion) (Y3 : (List Int)) (Yc : Nat) (Yd : Nat) (Y8 : Nat) (r : (List GVector)) : Ex × St := ((.exit 0), ⟨.agg [.sl (Y2.Body.Mesh.Places.map GVector.cells), .sl (Y2.Body.Mesh.Triangles.map (cL (cI .i64))), .sl (Y2.Body.Springs.map GSpring.cells), .f .f32 Y2.Body.Film, .f .f32 Y2.Body.Bend, .sl (Y2.Body.Weights.map (cF .f32)), .f .f32 Y2.Body.Fall.X, .f .f32 Y2.Body.Fall.Y, .f .f32 Y2.Body.Fall.Z, .sl (Y2.Speeds.map GVector.cells)] :: .sl (Y3.map (cI .i64)) :: .any :: .any :: .f .f32 Y8 :: .ptr 0 0 0 :: an 4 (.ptr 1 0 0 :: .own 2 :: an 5 (.ptr 0 0 0 :: .agg [.sl (Y2.Body.Mesh.Places.map GVector.cells), .sl (Y2.Body.Mesh.Triangles.map (cL (cI .i64))), .sl (Y2.Body.Springs.map GSpring.cells), .f .f32 Y2.Body.Film, .f .f32 Y2.Body.Bend, .sl (Y2.Body.Weights.map (cF .f32)), .f .f32 Y2.Body.Fall.X, .f .f32 Y2.Body.Fall.Y, .f .f32 Y2.Body.Fall.Z] :: .sl (Y3.map (cI .i64)) :: .own 3 :: an 41 [])), [.box 66 [.sl (Y2.Body.Mesh.Places.map GVector.cells), .sl (Y2.Body.Mesh.Triangles.map (cL (cI .i64))), .sl (Y2.Body.Springs.map GSpring.cells), .f .f32 Y2.Body.Film, .f .f32 Y2.Body.Bend, .sl (Y2.Body.Weights.map (cF .f32)), .f .f32 Y2.Body.Fall.X, .f .f32 Y2.Body.Fall.Y, .f .f32 Y2.Body.Fall.Z, .sl (Y2.Speeds.map GVector.cells)], .box 66 [.nils, .nils, .nils, .f .f32 0, .f .f32 0, .nils, .f .f32 0, .f .f32 0, .f .f32 0, .nils], .vec 40 3 (r.map GVector.cells) false, .vec 40 3 ((Zr Y2.Body Y3).map GVector.cells) false]⟩)
def Z5P (Y2 : GMotion) (Y3 : (List Int)) (Yc : Nat) (Yd : Nat) (Y8 : Nat) (Y1 : Int) (Yb : (List GVector)) : St := ⟨.agg [.sl (Y2.Body.Mesh.Places.map GVector.cells), .sl (Y2.Body.Mesh.Triangles.map (cL (cI .i64))), .sl (Y2.Body.Springs.map GSpring.cells), .f .f32 Y2.Body.Film, .f .f32 Y2.Body.Bend, .sl (Y2.Body.Weights.map (cF .f32)), .f .f32 Y2.Body.Fall.X, .f .f32 Y2.Body.Fall.Y, .f .f32 Y2.Body.Fall.Z, .sl (Y2.Speeds.map GVector.cells)] :: .sl (Y3.map (cI .i64)) :: .f .f32 Yc :: .f .f32 Yd :: .f .f32 Y8 :: .ptr 0 0 0 :: an 4 (.ptr 1 0 0 :: .own 2 :: an 5 (.ptr 0 0 0 :: .agg [.sl (Y2.Body.Mesh.Places.map GVector.cells), .sl (Y2.Body.Mesh.Triangles.map (cL (cI .i64))), .sl (Y2.Body.Springs.map GSpring.cells), .f .f32 Y2.Body.Film, .f .f32 Y2.Body.Bend, .sl (Y2.Body.Weights.map (cF .f32)), .f .f32 Y2.Body.Fall.X, .f .f32 Y2.Body.Fall.Y, .f .f32 Y2.Body.Fall.Z] :: .sl (Y3.map (cI .i64)) :: .own 3 :: .i .i64 ((Zr Y2.Body Y3).length : Int) :: .i .i64 Y1 :: an 39 [])), [.box 66 [.sl (Y2.Body.Mesh.Places.map GVector.cells), .sl (Y2.Body.Mesh.Triangles.map (cL (cI .i64))), .sl (Y2.Body.Springs.map GSpring.cells), .f .f32 Y2.Body.Film, .f .f32 Y2.Body.Bend, .sl (Y2.Body.Weights.map (cF .f32)), .f .f32 Y2.Body.Fall.X, .f .f32 Y2.Body.Fall.Y, .f .f32 Y2.Body.Fall.Z, .sl (Y2.Speeds.map GVector.cells)], .box 66 [.nils, .nils, .nils, .f .f32 0, .f .f32 0, .nils, .f .f32 0, .f .f32 0, .f .f32 0, .nils], .vec 40 3 (Yb.map GVector.cells) false, .vec 40 3 ((Zr Y2.Body Y3).map GVector.cells) false]⟩
theorem Zbn (Y2 : GMotion) (Y3 : (List Int)) (Yc : Nat) (Yd : Nat) (Y8 : Nat) (hp0 : Y2.Body.Mesh.Places.length ≤ 1073741824) (hp1 : Y2.Body.Mesh.Triangles.length ≤ 1073741824) (hp2 : ∀ t ∈ Y2.Body.Mesh.Triangles, t.length ≤ 1073741824) (hp3 : Y2.Body.Springs.length ≤ 1073741824) (hp4 : Y2.Body.Weights.length ≤ 1073741824) (hp5 : Y2.Speeds.length ≤ 1073741824) (hp6 : Y3.length ≤ 1073741824) (hp7 : OkBd Y2.Body) (hp8 : Y2.Speeds.length = Y2.Body.Mesh.Places.length) (hp9 : OkIx Y2.Body.Mesh.Places.length (fun x => x) Y3) : ∀ (k : Nat) (Y1 : Int) (Yb : (List GVector)) (Z76 : 0 ≤ Y1) (Z77 : (Yb.length : Int) = Y1) (hk : (((Zr Y2.Body Y3).length : Int) - Y1).toNat < k), Lp prog 0 (sub (bodyOf f80) [1, 1, 0, 1, 0, 0]) (Z5P Y2 Y3 Yc Yd Y8 Y1 Yb) (Z5O Y2 Y3 Yc Yd Y8 (Z2i Y2 Y3 Yc Yd Y8 k Y1 Yb)).1 (Z5O Y2 Y3 Yc Yd Y8 (Z2i Y2 Y3 Yc Yd Y8 k Y1 Yb)).2 := by
 intro k
 induction k with
 | zero => intro Y1 Yb Z76 Z77 hk; exact absurd hk (Nat.not_lt_zero _)
 | succ k ih =>
  intro Y1 Yb Z76 Z77 hk
  cases Yl : (decide (Y1 < ((Zr Y2.Body Y3).length : Int))) with
  | true =>
   have Yw := of_decide_eq_true Yl
   have YF : (0 : Int) ≤ Y1 := (by assumption)
   have YG : Y1 < ((Zr Y2.Body Y3).length : Int) := (by assumption)
   have YH : Y1.toNat < (Zr Y2.Body Y3).length := (by omega)
   have YI : Y1 < (Y2.Speeds.length : Int) := (by have q := Z6T Y2.Body Y3; omega)
   have YP : Yb.length + ([(Zj (Z17 Y2 Y3 Yc Y8 Y1) Yd)]).length ≤ 1073741824 := (by simp_all <;> omega)
   have YS : (-9223372036854775808 : Int) ≤ (Y1 + 1) := (by omega)
   have y_6 : (Y1 + 1) ≤ (9223372036854775807 : Int) := (by omega)
   have e : Z2i Y2 Y3 Yc Yd Y8 (k + 1) Y1 Yb = (Z2i Y2 Y3 Yc Yd Y8 k (Y1 + 1) (Yb ++ [(Zj (Z17 Y2 Y3 Yc Y8 Y1) Yd)])) := by simp only [Z2i, Yl, cond_true]
   rw [e]
   exact nextS E0Ok Z5 [] (mR false [0, 6, 4, 2, 5, 6, 39]) [0, 1, 2, 3] (⟨.agg [.sl (Y2.Body.Mesh.Places.map GVector.cells), .sl (Y2.Body.Mesh.Triangles.map (cL (cI .i64))), .sl (Y2.Body.Springs.map GSpring.cells), .f .f32 Y2.Body.Film, .f .f32 Y2.Body.Bend, .sl (Y2.Body.Weights.map (cF .f32)), .f .f32 Y2.Body.Fall.X, .f .f32 Y2.Body.Fall.Y, .f .f32 Y2.Body.Fall.Z, .sl (Y2.Speeds.map GVector.cells)] :: .sl (Y3.map (cI .i64)) :: .f .f32 Yc :: .f .f32 Yd :: .f .f32 Y8 :: .ptr 0 0 0 :: an 4 (.ptr 1 0 0 :: .own 2 :: an 5 (.ptr 0 0 0 :: .agg [.sl (Y2.Body.Mesh.Places.map GVector.cells), .sl (Y2.Body.Mesh.Triangles.map (cL (cI .i64))), .sl (Y2.Body.Springs.map GSpring.cells), .f .f32 Y2.Body.Film, .f .f32 Y2.Body.Bend, .sl (Y2.Body.Weights.map (cF .f32)), .f .f32 Y2.Body.Fall.X, .f .f32 Y2.Body.Fall.Y, .f .f32 Y2.Body.Fall.Z] :: .sl (Y3.map (cI .i64)) :: .own 3 :: .i .i64 ((Zr Y2.Body Y3).length : Int) :: .i .i64 (Y1 + 1) :: an 39 [])), [.box 66 [.sl (Y2.Body.Mesh.Places.map GVector.cells), .sl (Y2.Body.Mesh.Triangles.map (cL (cI .i64))), .sl (Y2.Body.Springs.map GSpring.cells), .f .f32 Y2.Body.Film, .f .f32 Y2.Body.Bend, .sl (Y2.Body.Weights.map (cF .f32)), .f .f32 Y2.Body.Fall.X, .f .f32 Y2.Body.Fall.Y, .f .f32 Y2.Body.Fall.Z, .sl (Y2.Speeds.map GVector.cells)], .box 66 [.nils, .nils, .nils, .f .f32 0, .f .f32 0, .nils, .f .f32 0, .f .f32 0, .f .f32 0, .nils], .vec 40 3 ((Yb.map GVector.cells) ++ ([[.f .f32 ((Zj (Z17 Y2 Y3 Yc Y8 Y1) Yd).X), .f .f32 ((Zj (Z17 Y2 Y3 Yc Y8 Y1) Yd).Y), .f .f32 ((Zj (Z17 Y2 Y3 Yc Y8 Y1) Yd).Z)]] : List (List AV))) false, .vec 40 3 ((Zr Y2.Body Y3).map GVector.cells) false]⟩) (sB Yl <| sX GVector.cells (Zr Y2.Body Y3) Y1 YF YG <| sV GVector.cells (Zr Y2.Body Y3) Y1.toNat YH <| sK [15, 15] <| sG GVector.cells Y2.Speeds Y1 YF YI <| sF (Z59 ((Zr Y2.Body Y3).getD Y1.toNat default) (fop .quo .f32 Y8 Yc)) <| sF (Z4y (Y2.Speeds.getD Y1.toNat default) (Zj ((Zr Y2.Body Y3).getD Y1.toNat default) (fop .quo .f32 Y8 Yc))) <| sF (Z59 (Z17 Y2 Y3 Yc Y8 Y1) Yd) <| sC (show (Yb.map GVector.cells).length + ([[.f .f32 ((Zj (Z17 Y2 Y3 Yc Y8 Y1) Yd).X), .f .f32 ((Zj (Z17 Y2 Y3 Yc Y8 Y1) Yd).Y), .f .f32 ((Zj (Z17 Y2 Y3 Yc Y8 Y1) Yd).Z)]] : List (List AV)).length ≤ 1073741824 from (by simpa using YP)) <| sI (Y1 + 1) YS y_6 <| sN) (by kernel_rfl) (by simp [Z5P, GVector.cells]) (ih (Y1 + 1) (Yb ++ [(Zj (Z17 Y2 Y3 Yc Y8 Y1) Yd)]) (show 0 ≤ (Y1 + 1) from (by omega)) (show ((Yb ++ [(Zj (Z17 Y2 Y3 Yc Y8 Y1) Yd)]).length : Int) = (Y1 + 1) from (by simp_all <;> omega)) (by omega))
  | false =>
   have Yw := of_decide_eq_false Yl
   have e : Z2i Y2 Y3 Yc Yd Y8 (k + 1) Y1 Yb = Yb := by simp only [Z2i, Yl, cond_false]
   rw [e]
   exact outR (e := (.exit 0)) E0Ok Z5 [] (mR false [0, 2, 2, 2, 4, 2, 5, 4, 41]) [0, 1, 2, 3] (sB Yl <| sN) (by kernel_rfl) (by intro h; cases h)
end Go.Ab
