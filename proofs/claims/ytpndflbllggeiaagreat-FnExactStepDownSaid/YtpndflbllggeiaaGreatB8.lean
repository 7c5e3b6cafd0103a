/- The functions of this seat as plain Lean, and that the program's are these. Printed by a program of the prover's own. -/
import Derived.Test.YtpndflbllggeiaaGreatB7
set_option linter.unusedVariables false
set_option linter.unusedSimpArgs false
set_option maxRecDepth 100000
namespace Go.Ab
open Go.RowKit Go.Proofs.Tryz
theorem ZbY (Y0 : GBody) : ∀ (k : Nat) (Y1 : Int) (Yd : (List GVector)) (hk : (((Z6 Y0.Mesh).length : Int) - Y1).toNat < k), (Z14 Y0 k Y1 Yd).length = Yd.length := by
  intro k
  induction k with
  | zero => intro Y1 Yd hk; exact absurd hk (Nat.not_lt_zero _)
  | succ k ih =>
    intro Y1 Yd hk
    cases Yg : (decide (Y1 < ((Z6 Y0.Mesh).length : Int))) with
    | true =>
      have e : Z14 Y0 (k + 1) Y1 Yd = (Z14 Y0 k (Y1 + 1) (Z30 Y0 Y1 Yd)) := by simp only [Z14, Yg, cond_true]
      rw [e, ih (Y1 + 1) (Z30 Y0 Y1 Yd) (by simp_all <;> omega)]; simp
    | false =>
      have e : Z14 Y0 (k + 1) Y1 Yd = Yd := by simp only [Z14, Yg, cond_false]
      first | (rw [e]; done) | (rw [e]; rfl)
def Z3c (Y0 : GBody) : (List GVector) := (Z14 Y0 ((((Z6 Y0.Mesh).length : Int) - 0).toNat + 1) 0 (Z3a Y0))
@[simp] theorem ZfQ (Y0 : GBody) : (Z3c Y0).length = ((Z3a Y0) : (List GVector)).length := ZbY Y0 ((((Z6 Y0.Mesh).length : Int) - 0).toNat + 1) 0 (Z3a Y0) (by exact Nat.lt_succ_self _)
def Z15 (Y0 : GBody) : Nat → Int → (List GVector) → (List GVector)
  | 0, _, _ => default
  | k + 1, Y1, Yd => (cond (decide (Y1 < (Y0.Weights.length : Int)))
    (Z15 Y0 k (Y1 + 1) (Zu Y1 Y0.Fall (Y0.Weights.getD Y1.toNat default) Yd))
    Yd)
def Z6S (Y0 : GBody) (r : (List GVector)) : Ex × St := ((.exit 8), ⟨.agg [.sl (Y0.Mesh.Places.map GVector.cells), .sl (Y0.Mesh.Triangles.map (cL (cI .i64))), .sl (Y0.Springs.map GSpring.cells), .f .f32 Y0.Film, .f .f32 Y0.Bend, .sl (Y0.Weights.map (cF .f32)), .f .f32 Y0.Fall.X, .f .f32 Y0.Fall.Y, .f .f32 Y0.Fall.Z] :: .ptr 0 0 0 :: .nils :: .ptr 1 0 0 :: .fn 106 [.ptr 1 0 0] :: an 18 (.ptr 0 0 0 :: .ptr 0 0 0 :: .sl (Y0.Mesh.Places.map GVector.cells) :: .i .i64 (Y0.Mesh.Places.length : Int) :: .own 2 :: .fn 106 [.ptr 1 0 0] :: .ptr 0 0 2 :: .sl (Y0.Springs.map GSpring.cells) :: an 25 (.ptr 0 0 0 :: .ptr 0 0 0 :: .sl (Y0.Mesh.Places.map GVector.cells) :: .ptr 0 0 0 :: .ptr 0 0 1 :: .sl (Y0.Mesh.Triangles.map (cL (cI .i64))) :: an 54 (.ptr 0 0 0 :: .agg [.sl (Y0.Mesh.Places.map GVector.cells), .sl (Y0.Mesh.Triangles.map (cL (cI .i64)))] :: .own 3 :: an 44 (.ptr 0 0 5 :: .sl (Y0.Weights.map (cF .f32)) :: an 14 [])))), [.box 42 [.sl (Y0.Mesh.Places.map GVector.cells), .sl (Y0.Mesh.Triangles.map (cL (cI .i64))), .sl (Y0.Springs.map GSpring.cells), .f .f32 Y0.Film, .f .f32 Y0.Bend, .sl (Y0.Weights.map (cF .f32)), .f .f32 Y0.Fall.X, .f .f32 Y0.Fall.Y, .f .f32 Y0.Fall.Z], .box 34 [.own 2], .vec 40 3 (r.map GVector.cells) false, .nest 49 ((Z6 Y0.Mesh).map fun l => l.map (cI .i64)) false]⟩)
def Zdd (Y0 : GBody) (Y1 : Int) (Yd : (List GVector)) : St := ⟨.agg [.sl (Y0.Mesh.Places.map GVector.cells), .sl (Y0.Mesh.Triangles.map (cL (cI .i64))), .sl (Y0.Springs.map GSpring.cells), .f .f32 Y0.Film, .f .f32 Y0.Bend, .sl (Y0.Weights.map (cF .f32)), .f .f32 Y0.Fall.X, .f .f32 Y0.Fall.Y, .f .f32 Y0.Fall.Z] :: .ptr 0 0 0 :: .nils :: .ptr 1 0 0 :: .fn 106 [.ptr 1 0 0] :: an 18 (.ptr 0 0 0 :: .ptr 0 0 0 :: .sl (Y0.Mesh.Places.map GVector.cells) :: .i .i64 (Y0.Mesh.Places.length : Int) :: .own 2 :: .fn 106 [.ptr 1 0 0] :: .ptr 0 0 2 :: .sl (Y0.Springs.map GSpring.cells) :: an 25 (.ptr 0 0 0 :: .ptr 0 0 0 :: .sl (Y0.Mesh.Places.map GVector.cells) :: .ptr 0 0 0 :: .ptr 0 0 1 :: .sl (Y0.Mesh.Triangles.map (cL (cI .i64))) :: an 54 (.ptr 0 0 0 :: .agg [.sl (Y0.Mesh.Places.map GVector.cells), .sl (Y0.Mesh.Triangles.map (cL (cI .i64)))] :: .own 3 :: an 44 (.ptr 0 0 5 :: .sl (Y0.Weights.map (cF .f32)) :: .i .i64 (Y0.Weights.length : Int) :: .i .i64 Y1 :: an 12 [])))), [.box 42 [.sl (Y0.Mesh.Places.map GVector.cells), .sl (Y0.Mesh.Triangles.map (cL (cI .i64))), .sl (Y0.Springs.map GSpring.cells), .f .f32 Y0.Film, .f .f32 Y0.Bend, .sl (Y0.Weights.map (cF .f32)), .f .f32 Y0.Fall.X, .f .f32 Y0.Fall.Y, .f .f32 Y0.Fall.Z], .box 34 [.own 2], .vec 40 3 (Yd.map GVector.cells) false, .nest 49 ((Z6 Y0.Mesh).map fun l => l.map (cI .i64)) false]⟩
def Z8E : List Bool := (mR false [0, 5, 18, 8, 25, 6, 54, 3, 44, 4, 12])
def ZbZ : List Bool := (mR false [0, 5, 18, 8, 25, 6, 54, 3, 44, 2, 14])
theorem Zde (Y0 : GBody) (hp0 : Y0.Mesh.Places.length ≤ 1073741824) (hp1 : Y0.Mesh.Triangles.length ≤ 1073741824) (hp2 : ∀ t ∈ Y0.Mesh.Triangles, t.length ≤ 1073741824) (hp3 : Y0.Springs.length ≤ 1073741824) (hp4 : Y0.Weights.length ≤ 1073741824) (hp5 : OkBd Y0) : ∀ (k : Nat) (Y1 : Int) (Yd : (List GVector)) (Z63 : 0 ≤ Y1) (Z8F : Yd.length = Y0.Mesh.Places.length) (hk : ((Y0.Weights.length : Int) - Y1).toNat < k), Lp prog 0 (sub (bodyOf f57) [1, 1, 1, 1, 1, 1, 1, 0, 1, 0, 0]) (Zdd Y0 Y1 Yd) (Z6S Y0 (Z15 Y0 k Y1 Yd)).1 (Z6S Y0 (Z15 Y0 k Y1 Yd)).2 := by
 intro k
 induction k with
 | zero => intro Y1 Yd Z63 Z8F hk; exact absurd hk (Nat.not_lt_zero _)
 | succ k ih =>
  intro Y1 Yd Z63 Z8F hk
  cases Yg : (decide (Y1 < (Y0.Weights.length : Int))) with
  | true =>
   have Yt := of_decide_eq_true Yg
   have YA : (0 : Int) ≤ Y1 := (by assumption)
   have YE : Y1 < (Y0.Weights.length : Int) := (by assumption)
   have YG : Yd.length ≤ 1073741824 := (by omega)
   have YH : Y1 < (Yd.length : Int) := (by have q := hp5.w; omega)
   have YL : (-9223372036854775808 : Int) ≤ (Y1 + 1) := (by omega)
   have YQ : (Y1 + 1) ≤ (9223372036854775807 : Int) := (by omega)
   have e : Z15 Y0 (k + 1) Y1 Yd = (Z15 Y0 k (Y1 + 1) (Zu Y1 Y0.Fall (Y0.Weights.getD Y1.toNat default) Yd)) := by simp only [Z15, Yg, cond_true]
   rw [e]
   exact nextR E0Ok Z4 [] Z8E [0, 1, 2, 3] (ih (Y1 + 1) (Zu Y1 Y0.Fall (Y0.Weights.getD Y1.toNat default) Yd) (show 0 ≤ (Y1 + 1) from (by omega)) (show (Zu Y1 Y0.Fall (Y0.Weights.getD Y1.toNat default) Yd).length = Y0.Mesh.Places.length from (by simp_all <;> omega)) (by omega)) (sB Yg <| sG (cF .f32) Y0.Weights Y1 YA YE <| sS (CallSt.frame (Z20 Y1 Y0.Fall (Y0.Weights.getD Y1.toNat default) Yd YG Z63 YH) [1, 2] (R := [.box 42 [.sl (Y0.Mesh.Places.map GVector.cells), .sl (Y0.Mesh.Triangles.map (cL (cI .i64))), .sl (Y0.Springs.map GSpring.cells), .f .f32 Y0.Film, .f .f32 Y0.Bend, .sl (Y0.Weights.map (cF .f32)), .f .f32 Y0.Fall.X, .f .f32 Y0.Fall.Y, .f .f32 Y0.Fall.Z], .box 34 [.own 2], .vec 40 3 (Yd.map GVector.cells) false, .nest 49 ((Z6 Y0.Mesh).map fun l => l.map (cI .i64)) false]) (args' := [.i .i64 Y1, .agg [.f .f32 Y0.Fall.X, .f .f32 Y0.Fall.Y, .f .f32 Y0.Fall.Z], .f .f32 (Y0.Weights.getD Y1.toNat default), .ptr 1 0 0]) rfl rfl rfl rfl rfl rfl) <| sI (Y1 + 1) YL YQ <| sN) (by kernel_rfl)
  | false =>
   have Yt := of_decide_eq_false Yg
   have e : Z15 Y0 (k + 1) Y1 Yd = Yd := by simp only [Z15, Yg, cond_false]
   rw [e]
   exact outR (e := (.exit 8)) E0Ok Z4 [] ZbZ [0, 1, 2, 3] (sB Yg <| sN) (by kernel_rfl) (by intro h; cases h)
theorem Zc0 (Y0 : GBody) : ∀ (k : Nat) (Y1 : Int) (Yd : (List GVector)) (hk : ((Y0.Weights.length : Int) - Y1).toNat < k), (Z15 Y0 k Y1 Yd).length = Yd.length := by
  intro k
  induction k with
  | zero => intro Y1 Yd hk; exact absurd hk (Nat.not_lt_zero _)
  | succ k ih =>
    intro Y1 Yd hk
    cases Yg : (decide (Y1 < (Y0.Weights.length : Int))) with
    | true =>
      have e : Z15 Y0 (k + 1) Y1 Yd = (Z15 Y0 k (Y1 + 1) (Zu Y1 Y0.Fall (Y0.Weights.getD Y1.toNat default) Yd)) := by simp only [Z15, Yg, cond_true]
      rw [e, ih (Y1 + 1) (Zu Y1 Y0.Fall (Y0.Weights.getD Y1.toNat default) Yd) (by simp_all <;> omega)]; simp
    | false =>
      have e : Z15 Y0 (k + 1) Y1 Yd = Yd := by simp only [Z15, Yg, cond_false]
      first | (rw [e]; done) | (rw [e]; rfl)
def Z4l (Y0 : GBody) : (List GVector) := (Z15 Y0 (((Y0.Weights.length : Int) - 0).toNat + 1) 0 (Z3c Y0))
@[simp] theorem ZfR (Y0 : GBody) : (Z4l Y0).length = ((Z3c Y0) : (List GVector)).length := Zc0 Y0 (((Y0.Weights.length : Int) - 0).toNat + 1) 0 (Z3c Y0) (by exact Nat.lt_succ_self _)
def Z3d (Y0 : GBody) : (List GVector) := (Z4l Y0)
@[simp] theorem ZgC (Y0 : GBody) : (Z3d Y0).length = Y0.Mesh.Places.length := by
  first | (simp [Z3d]; done)
theorem ZgI (b : GBody) : Z1t b = Z1h b := by kernel_rfl
theorem ZgJ (b : GBody) (x : Int) (r : List GVector) (h : fcmp .gtr .f32 (Z1U (Zc b.Mesh (b.Mesh.Triangles.getD x.toNat default))) 0 = true) : ∀ (k : Nat) (y : Int) (s : List GVector), Z1e b x r k y s = ZM b x r k y s := by
  intro k
  induction k with
  | zero => intro y s; rfl
  | succ k ih =>
    intro y s
    rw [Z1e, ZM, ih]
    unfold Z23 Z5f Z22 Z4w
    rw [h]
    kernel_rfl
theorem ZgK (b : GBody) (x : Int) (r : List GVector) (h : fcmp .gtr .f32 (Z1U (Zc b.Mesh (b.Mesh.Triangles.getD x.toNat default))) 0 = false) : ∀ (k : Nat) (y : Int) (s : List GVector), Z1f b x r k y s = ZM b x r k y s := by
  intro k
  induction k with
  | zero => intro y s; rfl
  | succ k ih =>
    intro y s
    rw [Z1f, ZM, ih]
    unfold Z23 Z5f Z22 Z4w
    rw [h]
    kernel_rfl
theorem ZgL (b : GBody) : ∀ (k : Nat) (x : Int) (r : List GVector), Zv b k x r = ZY b k x r := by
  intro k
  induction k with
  | zero => intro x r; rfl
  | succ k ih =>
    intro x r
    rw [Zv, ZY]
    rw [show fcmp .gtr .f32 (Zs (Za b.Mesh (b.Mesh.Triangles.getD x.toNat default))) 0 = fcmp .gtr .f32 (Z1U (Zc b.Mesh (b.Mesh.Triangles.getD x.toNat default))) 0 from by kernel_rfl]
    unfold Z2J Z2K Z2z
    cases h : fcmp .gtr .f32 (Z1U (Zc b.Mesh (b.Mesh.Triangles.getD x.toNat default))) 0 with
    | true => rw [cond_true, ih, ZgJ b x r h]
    | false => rw [cond_false, ih, ZgK b x r h]
theorem ZgM (b : GBody) (h : Z6 b.Mesh = Z0 b.Mesh) : ∀ (k : Nat) (x : Int) (r : List GVector), Z14 b k x r = ZZ b k x r := by
  intro k
  induction k with
  | zero => intro x r; rfl
  | succ k ih =>
    intro x r
    rw [Z14, ZZ, ih]
    unfold Z30 Z2Z Z2Y Z3b
    rw [h]
    kernel_rfl
theorem ZgN (b : GBody) (h : b.Weights.length = b.Mesh.Places.length) : ∀ (k : Nat) (x : Int) (r : List GVector), Z15 b k x r = Z10 b k x r := by
  intro k
  induction k with
  | zero => intro x r; rfl
  | succ k ih =>
    intro x r
    rw [Z15, Z10, ih, h]
    kernel_rfl
theorem Zgj (b : GBody) (ok : OkBd b) : Z3d b = Z2X b := by
  have h : Z6 b.Mesh = Z0 b.Mesh := by rw [Z60 _ ok.e, Z8a _ ok.e]
  unfold Z3d Z2X Z4l Z47 Z3c Z33 Z3a Z32 Z39 Z31
  have e2 : Zv b = ZY b := by funext k x r; exact ZgL b k x r
  have e5 : Z14 b = ZZ b := by funext k x r; exact ZgM b h k x r
  have e6 : Z15 b = Z10 b := by funext k x r; exact ZgN b ok.w k x r
  rw [ZgI, e2, e5, e6, h, ok.w]
theorem ZeN (Y0 : GBody) (hp0 : Y0.Mesh.Places.length ≤ 1073741824) (hp1 : Y0.Mesh.Triangles.length ≤ 1073741824) (hp2 : ∀ t ∈ Y0.Mesh.Triangles, t.length ≤ 1073741824) (hp3 : Y0.Springs.length ≤ 1073741824) (hp4 : Y0.Weights.length ≤ 1073741824) (hp5 : OkBd Y0)  : Fn prog 57 [.agg [.sl (Y0.Mesh.Places.map GVector.cells), .sl (Y0.Mesh.Triangles.map (cL (cI .i64))), .sl (Y0.Springs.map GSpring.cells), .f .f32 Y0.Film, .f .f32 Y0.Bend, .sl (Y0.Weights.map (cF .f32)), .f .f32 Y0.Fall.X, .f .f32 Y0.Fall.Y, .f .f32 Y0.Fall.Z]] (.own 0) [.vec 40 3 ((Z3d Y0).map GVector.cells) false] := by
 have y0 : (0 : Int) ≤ (Y0.Mesh.Places.length : Int) := (by omega)
 have y1 : ((Y0.Mesh.Places.length : Int) : Int) ≤ 2147483648 := (by omega)
 have y2 : OkE Y0.Mesh.Places.length Y0.Mesh.Triangles := (by exact hp5.e)
 refine fnS E0Ok Z4 (c := bodyOf f57) [] (.own 0) [.vec 40 3 ((Z4l Y0).map GVector.cells) false] func57 (sZ GVector.cells Y0.Mesh.Places <| sC (show (Y0.Mesh.Places.length : Int) = (Y0.Mesh.Places.length : Int) from rfl) <| sC y0 <| sC y1 <| sZ GSpring.cells Y0.Springs <| sL (mR false [0, 5, 18, 10, 146]) 3 (lp_cast (st2 := ⟨.agg [.sl (Y0.Mesh.Places.map GVector.cells), .sl (Y0.Mesh.Triangles.map (cL (cI .i64))), .sl (Y0.Springs.map GSpring.cells), .f .f32 Y0.Film, .f .f32 Y0.Bend, .sl (Y0.Weights.map (cF .f32)), .f .f32 Y0.Fall.X, .f .f32 Y0.Fall.Y, .f .f32 Y0.Fall.Z] :: .ptr 0 0 0 :: .nils :: .ptr 2 0 0 :: .fn 106 [.ptr 2 0 0] :: an 18 (.ptr 0 0 0 :: .ptr 0 0 0 :: .sl (Y0.Mesh.Places.map GVector.cells) :: .i .i64 (Y0.Mesh.Places.length : Int) :: .own 1 :: .fn 106 [.ptr 2 0 0] :: .ptr 0 0 2 :: .sl (Y0.Springs.map GSpring.cells) :: .i .i64 (Y0.Springs.length : Int) :: .i .i64 0 :: an 146 []), [.box 42 [.sl (Y0.Mesh.Places.map GVector.cells), .sl (Y0.Mesh.Triangles.map (cL (cI .i64))), .sl (Y0.Springs.map GSpring.cells), .f .f32 Y0.Film, .f .f32 Y0.Bend, .sl (Y0.Weights.map (cF .f32)), .f .f32 Y0.Fall.X, .f .f32 Y0.Fall.Y, .f .f32 Y0.Fall.Z], .vec 40 3 (List.replicate (Int.toNat (Y0.Mesh.Places.length : Int)) [.f .f32 0, .f .f32 0, .f .f32 0]) false, .box 34 [.own 1]]⟩) (lp_val (Z6N Y0) (x := (Z39 Y0)) (Zd4 Y0 hp0 hp1 hp2 hp3 hp4 hp5 (((Y0.Springs.length : Int) - 0).toNat + 1) 0 (List.replicate (Y0.Mesh.Places.length : Int).toNat (⟨0, 0, 0⟩ : GVector)) (show 0 ≤ 0 from (by omega)) (show (List.replicate (Y0.Mesh.Places.length : Int).toNat (⟨0, 0, 0⟩ : GVector)).length = Y0.Mesh.Places.length from (by simp; done)) (Nat.lt_succ_self _)) rfl) (by simp [Z9A, GVector.cells])) <| sZ (cL (cI .i64)) Y0.Mesh.Triangles <| sL Z62 3 (lp_val (Z6Q Y0) (x := (Z3a Y0)) (Zda Y0 hp0 hp1 hp2 hp3 hp4 hp5 (((Y0.Mesh.Triangles.length : Int) - 0).toNat + 1) 0 (Z39 Y0) (show 0 ≤ 0 from (by omega)) (show (Z39 Y0).length = Y0.Mesh.Places.length from (by simp; done)) (Nat.lt_succ_self _)) rfl) <| sF (ZaV Y0.Mesh hp0 hp1 hp2 y2) <| sM (nlen_ok (l := (Z6 Y0.Mesh)) (f := fun l => l.map (cI .i64))) <| sL Z8B 4 (lp_val (Z6R Y0) (x := (Z3c Y0)) (Zdc Y0 hp0 hp1 hp2 hp3 hp4 hp5 ((((Z6 Y0.Mesh).length : Int) - 0).toNat + 1) 0 (Z3a Y0) (show 0 ≤ 0 from (by omega)) (show (Z3a Y0).length = Y0.Mesh.Places.length from (by simp; done)) (Nat.lt_succ_self _)) rfl) <| sZ (cF .f32) Y0.Weights <| sL Z8E 4 (lp_val (Z6S Y0) (x := (Z4l Y0)) (Zde Y0 hp0 hp1 hp2 hp3 hp4 hp5 (((Y0.Weights.length : Int) - 0).toNat + 1) 0 (Z3c Y0) (show 0 ≤ 0 from (by omega)) (show (Z3c Y0).length = Y0.Mesh.Places.length from (by simp; done)) (Nat.lt_succ_self _)) rfl) <| sK [2] sN) rfl (by kernel_rfl) (by kernel_rfl) rfl ?_ ?_
 · rfl
 · simp [Z3d]
def Z16 (Y3 : GBody) (Ya : (List Int)) : Nat → Int → (List GVector) → (List GVector)
  | 0, _, _ => default
  | k + 1, Y1, Y8 => (cond (decide (Y1 < (Ya.length : Int)))
    (Z16 Y3 Ya k (Y1 + 1) (Y8.set ((Ya.getD Y1.toNat default).toNat) (⟨0, 0, 0⟩ : GVector)))
    Y8)
def Z64 (Y3 : GBody) (Ya : (List Int)) (r : (List GVector)) : Ex × St := ((.exit 0), ⟨.agg [.sl (Y3.Mesh.Places.map GVector.cells), .sl (Y3.Mesh.Triangles.map (cL (cI .i64))), .sl (Y3.Springs.map GSpring.cells), .f .f32 Y3.Film, .f .f32 Y3.Bend, .sl (Y3.Weights.map (cF .f32)), .f .f32 Y3.Fall.X, .f .f32 Y3.Fall.Y, .f .f32 Y3.Fall.Z] :: .sl (Ya.map (cI .i64)) :: .ptr 0 0 0 :: .any :: .nils :: .own 1 :: .any :: .any :: .agg [.sl (Y3.Mesh.Places.map GVector.cells), .sl (Y3.Mesh.Triangles.map (cL (cI .i64))), .sl (Y3.Springs.map GSpring.cells), .f .f32 Y3.Film, .f .f32 Y3.Bend, .sl (Y3.Weights.map (cF .f32)), .f .f32 Y3.Fall.X, .f .f32 Y3.Fall.Y, .f .f32 Y3.Fall.Z] :: .own 1 :: .sl (Ya.map (cI .i64)) :: an 11 [], [.box 42 [.sl (Y3.Mesh.Places.map GVector.cells), .sl (Y3.Mesh.Triangles.map (cL (cI .i64))), .sl (Y3.Springs.map GSpring.cells), .f .f32 Y3.Film, .f .f32 Y3.Bend, .sl (Y3.Weights.map (cF .f32)), .f .f32 Y3.Fall.X, .f .f32 Y3.Fall.Y, .f .f32 Y3.Fall.Z], .vec 40 3 (r.map GVector.cells) false]⟩)
def Zc1 (Y3 : GBody) (Ya : (List Int)) (Y1 : Int) (Y8 : (List GVector)) : St := ⟨.agg [.sl (Y3.Mesh.Places.map GVector.cells), .sl (Y3.Mesh.Triangles.map (cL (cI .i64))), .sl (Y3.Springs.map GSpring.cells), .f .f32 Y3.Film, .f .f32 Y3.Bend, .sl (Y3.Weights.map (cF .f32)), .f .f32 Y3.Fall.X, .f .f32 Y3.Fall.Y, .f .f32 Y3.Fall.Z] :: .sl (Ya.map (cI .i64)) :: .ptr 0 0 0 :: .any :: .nils :: .own 1 :: .any :: .any :: .agg [.sl (Y3.Mesh.Places.map GVector.cells), .sl (Y3.Mesh.Triangles.map (cL (cI .i64))), .sl (Y3.Springs.map GSpring.cells), .f .f32 Y3.Film, .f .f32 Y3.Bend, .sl (Y3.Weights.map (cF .f32)), .f .f32 Y3.Fall.X, .f .f32 Y3.Fall.Y, .f .f32 Y3.Fall.Z] :: .own 1 :: .sl (Ya.map (cI .i64)) :: .i .i64 (Ya.length : Int) :: .i .i64 Y1 :: an 9 [], [.box 42 [.sl (Y3.Mesh.Places.map GVector.cells), .sl (Y3.Mesh.Triangles.map (cL (cI .i64))), .sl (Y3.Springs.map GSpring.cells), .f .f32 Y3.Film, .f .f32 Y3.Bend, .sl (Y3.Weights.map (cF .f32)), .f .f32 Y3.Fall.X, .f .f32 Y3.Fall.Y, .f .f32 Y3.Fall.Z], .vec 40 3 (Y8.map GVector.cells) false]⟩
theorem Zc2 (Y3 : GBody) (Ya : (List Int)) (hp0 : Y3.Mesh.Places.length ≤ 1073741824) (hp1 : Y3.Mesh.Triangles.length ≤ 1073741824) (hp2 : ∀ t ∈ Y3.Mesh.Triangles, t.length ≤ 1073741824) (hp3 : Y3.Springs.length ≤ 1073741824) (hp4 : Y3.Weights.length ≤ 1073741824) (hp5 : Ya.length ≤ 1073741824) (hp6 : OkBd Y3) (hp7 : OkIx Y3.Mesh.Places.length (fun x => x) Ya) : ∀ (k : Nat) (Y1 : Int) (Y8 : (List GVector)) (Z7h : 0 ≤ Y1) (Z7i : Y8.length = Y3.Mesh.Places.length) (hk : ((Ya.length : Int) - Y1).toNat < k), Lp prog 0 (sub (bodyOf f68) [1, 1, 0, 1, 0, 0]) (Zc1 Y3 Ya Y1 Y8) (Z64 Y3 Ya (Z16 Y3 Ya k Y1 Y8)).1 (Z64 Y3 Ya (Z16 Y3 Ya k Y1 Y8)).2 := by
 intro k
 induction k with
 | zero => intro Y1 Y8 Z7h Z7i hk; exact absurd hk (Nat.not_lt_zero _)
 | succ k ih =>
  intro Y1 Y8 Z7h Z7i hk
  cases Yg : (decide (Y1 < (Ya.length : Int))) with
  | true =>
   have Yt := of_decide_eq_true Yg
   have YA : (0 : Int) ≤ Y1 := (by assumption)
   have YE : Y1 < (Ya.length : Int) := (by assumption)
   have YG : (0 : Int) ≤ (Ya.getD Y1.toNat default) := (by have q := OkIx.at hp7 (by assumption) Yt; omega)
   have YH : (Ya.getD Y1.toNat default) < (Y8.length : Int) := (by have q := OkIx.at hp7 (by assumption) Yt; omega)
   have YL : (Ya.getD Y1.toNat default).toNat < Y8.length := (by omega)
   have YQ : (-9223372036854775808 : Int) ≤ (Y1 + 1) := (by omega)
   have YW : (Y1 + 1) ≤ (9223372036854775807 : Int) := (by omega)
   have e : Z16 Y3 Ya (k + 1) Y1 Y8 = (Z16 Y3 Ya k (Y1 + 1) (Y8.set ((Ya.getD Y1.toNat default).toNat) (⟨0, 0, 0⟩ : GVector))) := by simp only [Z16, Yg, cond_true]
   rw [e]
   exact nextS E0Ok Z4 [] (mR false [0, 3, 1, 2, 2, 5, 9]) [0, 1] (⟨.agg [.sl (Y3.Mesh.Places.map GVector.cells), .sl (Y3.Mesh.Triangles.map (cL (cI .i64))), .sl (Y3.Springs.map GSpring.cells), .f .f32 Y3.Film, .f .f32 Y3.Bend, .sl (Y3.Weights.map (cF .f32)), .f .f32 Y3.Fall.X, .f .f32 Y3.Fall.Y, .f .f32 Y3.Fall.Z] :: .sl (Ya.map (cI .i64)) :: .ptr 0 0 0 :: .any :: .nils :: .own 1 :: .any :: .any :: .agg [.sl (Y3.Mesh.Places.map GVector.cells), .sl (Y3.Mesh.Triangles.map (cL (cI .i64))), .sl (Y3.Springs.map GSpring.cells), .f .f32 Y3.Film, .f .f32 Y3.Bend, .sl (Y3.Weights.map (cF .f32)), .f .f32 Y3.Fall.X, .f .f32 Y3.Fall.Y, .f .f32 Y3.Fall.Z] :: .own 1 :: .sl (Ya.map (cI .i64)) :: .i .i64 (Ya.length : Int) :: .i .i64 (Y1 + 1) :: an 9 [], [.box 42 [.sl (Y3.Mesh.Places.map GVector.cells), .sl (Y3.Mesh.Triangles.map (cL (cI .i64))), .sl (Y3.Springs.map GSpring.cells), .f .f32 Y3.Film, .f .f32 Y3.Bend, .sl (Y3.Weights.map (cF .f32)), .f .f32 Y3.Fall.X, .f .f32 Y3.Fall.Y, .f .f32 Y3.Fall.Z], .vec 40 3 ((Y8.map GVector.cells).set ((Ya.getD Y1.toNat default).toNat) [.f .f32 0, .f .f32 0, .f .f32 0]) false]⟩) (sB Yg <| sG (cI .i64) Ya Y1 YA YE <| sX GVector.cells Y8 (Ya.getD Y1.toNat default) YG YH <| sC (maplt (c := GVector.cells) (l := Y8) YL) <| sI (Y1 + 1) YQ YW <| sN) (by kernel_rfl) (show _ = ⟨.agg [.sl (Y3.Mesh.Places.map GVector.cells), .sl (Y3.Mesh.Triangles.map (cL (cI .i64))), .sl (Y3.Springs.map GSpring.cells), .f .f32 Y3.Film, .f .f32 Y3.Bend, .sl (Y3.Weights.map (cF .f32)), .f .f32 Y3.Fall.X, .f .f32 Y3.Fall.Y, .f .f32 Y3.Fall.Z] :: .sl (Ya.map (cI .i64)) :: .ptr 0 0 0 :: .any :: .nils :: .own 1 :: .any :: .any :: .agg [.sl (Y3.Mesh.Places.map GVector.cells), .sl (Y3.Mesh.Triangles.map (cL (cI .i64))), .sl (Y3.Springs.map GSpring.cells), .f .f32 Y3.Film, .f .f32 Y3.Bend, .sl (Y3.Weights.map (cF .f32)), .f .f32 Y3.Fall.X, .f .f32 Y3.Fall.Y, .f .f32 Y3.Fall.Z] :: .own 1 :: .sl (Ya.map (cI .i64)) :: .i .i64 (Ya.length : Int) :: .i .i64 (Y1 + 1) :: an 9 [], [.box 42 [.sl (Y3.Mesh.Places.map GVector.cells), .sl (Y3.Mesh.Triangles.map (cL (cI .i64))), .sl (Y3.Springs.map GSpring.cells), .f .f32 Y3.Film, .f .f32 Y3.Bend, .sl (Y3.Weights.map (cF .f32)), .f .f32 Y3.Fall.X, .f .f32 Y3.Fall.Y, .f .f32 Y3.Fall.Z], .vec 40 3 ((Y8.set ((Ya.getD Y1.toNat default).toNat) (⟨0, 0, 0⟩ : GVector)).map GVector.cells) false]⟩ from (by simp [List.map_set, GVector.cells])) (ih (Y1 + 1) (Y8.set ((Ya.getD Y1.toNat default).toNat) (⟨0, 0, 0⟩ : GVector)) (show 0 ≤ (Y1 + 1) from (by omega)) (show (Y8.set ((Ya.getD Y1.toNat default).toNat) (⟨0, 0, 0⟩ : GVector)).length = Y3.Mesh.Places.length from (by have q := OkIx.at hp7 (by assumption) Yt; (simp only [List.length_set]; omega))) (by omega))
  | false =>
   have Yt := of_decide_eq_false Yg
   have e : Z16 Y3 Ya (k + 1) Y1 Y8 = Y8 := by simp only [Z16, Yg, cond_false]
   rw [e]
   exact outR (e := (.exit 0)) E0Ok Z4 [] (mR false [0, 3, 1, 2, 2, 3, 11]) [0, 1] (sB Yg <| sN) (by kernel_rfl) (by intro h; cases h)
theorem Zb9 (Y3 : GBody) (Ya : (List Int)) : ∀ (k : Nat) (Y1 : Int) (Y8 : (List GVector)) (hk : ((Ya.length : Int) - Y1).toNat < k), (Z16 Y3 Ya k Y1 Y8).length = Y8.length := by
  intro k
  induction k with
  | zero => intro Y1 Y8 hk; exact absurd hk (Nat.not_lt_zero _)
  | succ k ih =>
    intro Y1 Y8 hk
    cases Yg : (decide (Y1 < (Ya.length : Int))) with
    | true =>
      have e : Z16 Y3 Ya (k + 1) Y1 Y8 = (Z16 Y3 Ya k (Y1 + 1) (Y8.set ((Ya.getD Y1.toNat default).toNat) (⟨0, 0, 0⟩ : GVector))) := by simp only [Z16, Yg, cond_true]
      rw [e, ih (Y1 + 1) (Y8.set ((Ya.getD Y1.toNat default).toNat) (⟨0, 0, 0⟩ : GVector)) (by simp_all <;> omega)]; simp
    | false =>
      have e : Z16 Y3 Ya (k + 1) Y1 Y8 = Y8 := by simp only [Z16, Yg, cond_false]
      first | (rw [e]; done) | (rw [e]; rfl)
def Z41 (Y3 : GBody) (Ya : (List Int)) : (List GVector) := (Z16 Y3 Ya (((Ya.length : Int) - 0).toNat + 1) 0 (Z3d Y3))
@[simp] theorem Zf6 (Y3 : GBody) (Ya : (List Int)) : (Z41 Y3 Ya).length = ((Z3d Y3) : (List GVector)).length := Zb9 Y3 Ya (((Ya.length : Int) - 0).toNat + 1) 0 (Z3d Y3) (by exact Nat.lt_succ_self _)
def Zt (Y3 : GBody) (Ya : (List Int)) : (List GVector) := (Z41 Y3 Ya)
@[simp] theorem Z6Y (Y3 : GBody) (Ya : (List Int)) : (Zt Y3 Ya).length = Y3.Mesh.Places.length := by
  first | (simp [Zt]; done)
theorem ZfS (b : GBody) (l : List Int) (ok : OkBd b) : Zt b l = ZI b l := by
  unfold Zt ZI Z41 Z4u
  rw [Zgj b ok, show Z16 b l = Z1x b l from by kernel_rfl]
theorem Zfs (b : GBody) (hs : List Int) (h : Z44 b hs = true) : Z1E b = true ∧ Z3S b hs = true := by
  rw [Zfr] at h
  cases h1 : Z1E b <;> rw [h1] at h <;> (try (cases h; done))
  exact ⟨rfl, h⟩
theorem ZdG (Y3 : GBody) (Ya : (List Int)) (hp0 : Y3.Mesh.Places.length ≤ 1073741824) (hp1 : Y3.Mesh.Triangles.length ≤ 1073741824) (hp2 : ∀ t ∈ Y3.Mesh.Triangles, t.length ≤ 1073741824) (hp3 : Y3.Springs.length ≤ 1073741824) (hp4 : Y3.Weights.length ≤ 1073741824) (hp5 : Ya.length ≤ 1073741824) (hp6 : OkBd Y3) (hp7 : OkIx Y3.Mesh.Places.length (fun x => x) Ya)  : Fn prog 68 [.agg [.sl (Y3.Mesh.Places.map GVector.cells), .sl (Y3.Mesh.Triangles.map (cL (cI .i64))), .sl (Y3.Springs.map GSpring.cells), .f .f32 Y3.Film, .f .f32 Y3.Bend, .sl (Y3.Weights.map (cF .f32)), .f .f32 Y3.Fall.X, .f .f32 Y3.Fall.Y, .f .f32 Y3.Fall.Z], .sl (Ya.map (cI .i64))] (.own 0) [.vec 40 3 ((Zt Y3 Ya).map GVector.cells) false] := by
 refine fnS E0Ok Z4 (c := bodyOf f68) [] (.own 0) [.vec 40 3 ((Z41 Y3 Ya).map GVector.cells) false] func68 (sF (ZeN Y3 hp0 hp1 hp2 hp3 hp4 hp6) <| sZ (cI .i64) Ya <| sL (mR false [0, 3, 1, 2, 2, 5, 9]) 2 (lp_val (Z64 Y3 Ya) (x := (Z41 Y3 Ya)) (Zc2 Y3 Ya hp0 hp1 hp2 hp3 hp4 hp5 hp6 hp7 (((Ya.length : Int) - 0).toNat + 1) 0 (Z3d Y3) (show 0 ≤ 0 from (by omega)) (show (Z3d Y3).length = Y3.Mesh.Places.length from (by simp; done)) (Nat.lt_succ_self _)) rfl) <| sK [1] sN) rfl (by kernel_rfl) (by kernel_rfl) rfl ?_ ?_
 · rfl
 · simp [Zt]
def Z3D (Y3 : GBody) (Y1 : Int) : Nat := (fop .mul .f32 (fop .sub .f32 (Zs (Zn Y3 (Y3.Springs.getD Y1.toNat default))) ((Y3.Springs.getD Y1.toNat default).Long)) (fop .sub .f32 (Zs (Zn Y3 (Y3.Springs.getD Y1.toNat default))) ((Y3.Springs.getD Y1.toNat default).Long)))
def Z1y (Y3 : GBody) : Nat → Int → (List Nat) → (List Nat)
  | 0, _, _ => default
  | k + 1, Y1, Y8 => (cond (decide (Y1 < (Y3.Springs.length : Int)))
    (Z1y Y3 k (Y1 + 1) (Y8.set 0 (fop .add .f32 (Y8.getD 0 default) (fop .mul .f32 (fop .mul .f32 1056964608 ((Y3.Springs.getD Y1.toNat default).Stiff)) (Z3D Y3 Y1)))))
    Y8)
def Z79 (Y3 : GBody) (r : (List Nat)) : Ex × St := ((.exit 0), ⟨.agg [.sl (Y3.Mesh.Places.map GVector.cells), .sl (Y3.Mesh.Triangles.map (cL (cI .i64))), .sl (Y3.Springs.map GSpring.cells), .f .f32 Y3.Film, .f .f32 Y3.Bend, .sl (Y3.Weights.map (cF .f32)), .f .f32 Y3.Fall.X, .f .f32 Y3.Fall.Y, .f .f32 Y3.Fall.Z] :: .ptr 0 0 0 :: .nils :: .own 1 :: an 10 (.own 1 :: .ptr 0 0 2 :: .sl (Y3.Springs.map GSpring.cells) :: an 100 []), [.box 42 [.sl (Y3.Mesh.Places.map GVector.cells), .sl (Y3.Mesh.Triangles.map (cL (cI .i64))), .sl (Y3.Springs.map GSpring.cells), .f .f32 Y3.Film, .f .f32 Y3.Bend, .sl (Y3.Weights.map (cF .f32)), .f .f32 Y3.Fall.X, .f .f32 Y3.Fall.Y, .f .f32 Y3.Fall.Z], .vec 27 1 (r.map (cF .f32)) false]⟩)
def Z9Y (Y3 : GBody) (Y1 : Int) (Y8 : (List Nat)) : St := ⟨.agg [.sl (Y3.Mesh.Places.map GVector.cells), .sl (Y3.Mesh.Triangles.map (cL (cI .i64))), .sl (Y3.Springs.map GSpring.cells), .f .f32 Y3.Film, .f .f32 Y3.Bend, .sl (Y3.Weights.map (cF .f32)), .f .f32 Y3.Fall.X, .f .f32 Y3.Fall.Y, .f .f32 Y3.Fall.Z] :: .ptr 0 0 0 :: .nils :: .own 1 :: an 10 (.own 1 :: .ptr 0 0 2 :: .sl (Y3.Springs.map GSpring.cells) :: .i .i64 (Y3.Springs.length : Int) :: .i .i64 Y1 :: an 98 []), [.box 42 [.sl (Y3.Mesh.Places.map GVector.cells), .sl (Y3.Mesh.Triangles.map (cL (cI .i64))), .sl (Y3.Springs.map GSpring.cells), .f .f32 Y3.Film, .f .f32 Y3.Bend, .sl (Y3.Weights.map (cF .f32)), .f .f32 Y3.Fall.X, .f .f32 Y3.Fall.Y, .f .f32 Y3.Fall.Z], .vec 27 1 (Y8.map (cF .f32)) false]⟩
theorem ZdH (Y3 : GBody) (hp0 : Y3.Mesh.Places.length ≤ 1073741824) (hp1 : Y3.Mesh.Triangles.length ≤ 1073741824) (hp2 : ∀ t ∈ Y3.Mesh.Triangles, t.length ≤ 1073741824) (hp3 : Y3.Springs.length ≤ 1073741824) (hp4 : Y3.Weights.length ≤ 1073741824) (hp5 : OkBd Y3) : ∀ (k : Nat) (Y1 : Int) (Y8 : (List Nat)) (Z91 : 0 ≤ Y1) (Z92 : Y8.length = 4) (hk : ((Y3.Springs.length : Int) - Y1).toNat < k), Lp prog 0 (sub (bodyOf f129) [1, 1, 0, 1, 0, 0]) (Z9Y Y3 Y1 Y8) (Z79 Y3 (Z1y Y3 k Y1 Y8)).1 (Z79 Y3 (Z1y Y3 k Y1 Y8)).2 := by
 intro k
 induction k with
 | zero => intro Y1 Y8 Z91 Z92 hk; exact absurd hk (Nat.not_lt_zero _)
 | succ k ih =>
  intro Y1 Y8 Z91 Z92 hk
  cases Yg : (decide (Y1 < (Y3.Springs.length : Int))) with
  | true =>
   have Yt := of_decide_eq_true Yg
   have YA : (0 : Int) ≤ Y1 := (by assumption)
   have YE : Y1 < (Y3.Springs.length : Int) := (by assumption)
   have YG : 0 ≤ (Y3.Springs.getD Y1.toNat default).A := (by have q := Z3l hp5 (by assumption) Yg; omega)
   have YH : (Y3.Springs.getD Y1.toNat default).A < (Y3.Mesh.Places.length : Int) := (by have q := Z3l hp5 (by assumption) Yg; omega)
   have YL : 0 ≤ (Y3.Springs.getD Y1.toNat default).B := (by have q := Z3l hp5 (by assumption) Yg; omega)
   have YQ : (Y3.Springs.getD Y1.toNat default).B < (Y3.Mesh.Places.length : Int) := (by have q := Z3l hp5 (by assumption) Yg; omega)
   have YW : (0 : Int) ≤ 0 := (by omega)
   have y_7 : 0 < (Y8.length : Int) := (by omega)
   have y_8 : 0 < Y8.length := (by omega)
   have y_9 : (-9223372036854775808 : Int) ≤ (Y1 + 1) := (by omega)
   have Y13 : (Y1 + 1) ≤ (9223372036854775807 : Int) := (by omega)
   have e : Z1y Y3 (k + 1) Y1 Y8 = (Z1y Y3 k (Y1 + 1) (Y8.set 0 (fop .add .f32 (Y8.getD 0 default) (fop .mul .f32 (fop .mul .f32 1056964608 ((Y3.Springs.getD Y1.toNat default).Stiff)) (Z3D Y3 Y1))))) := by simp only [Z1y, Yg, cond_true]
   rw [e]
   exact nextS E0Ok Z4 [] (mR false [0, 4, 10, 5, 98]) [0, 1] (⟨.agg [.sl (Y3.Mesh.Places.map GVector.cells), .sl (Y3.Mesh.Triangles.map (cL (cI .i64))), .sl (Y3.Springs.map GSpring.cells), .f .f32 Y3.Film, .f .f32 Y3.Bend, .sl (Y3.Weights.map (cF .f32)), .f .f32 Y3.Fall.X, .f .f32 Y3.Fall.Y, .f .f32 Y3.Fall.Z] :: .ptr 0 0 0 :: .nils :: .own 1 :: an 10 (.own 1 :: .ptr 0 0 2 :: .sl (Y3.Springs.map GSpring.cells) :: .i .i64 (Y3.Springs.length : Int) :: .i .i64 (Y1 + 1) :: an 98 []), [.box 42 [.sl (Y3.Mesh.Places.map GVector.cells), .sl (Y3.Mesh.Triangles.map (cL (cI .i64))), .sl (Y3.Springs.map GSpring.cells), .f .f32 Y3.Film, .f .f32 Y3.Bend, .sl (Y3.Weights.map (cF .f32)), .f .f32 Y3.Fall.X, .f .f32 Y3.Fall.Y, .f .f32 Y3.Fall.Z], .vec 27 1 ((Y8.map (cF .f32)).set 0 [.f .f32 (fop .add .f32 (Y8.getD 0 default) (fop .mul .f32 (fop .mul .f32 1056964608 ((Y3.Springs.getD Y1.toNat default).Stiff)) (Z3D Y3 Y1)))]) false]⟩) (sB Yg <| sG GSpring.cells Y3.Springs Y1 YA YE <| sK [6, 6] <| sF (Z9w Y3 (Y3.Springs.getD Y1.toNat default) hp0 hp1 hp2 hp3 hp4 YG YH YL YQ) <| sF (Z7p (Zn Y3 (Y3.Springs.getD Y1.toNat default))) <| sK [10, 10] <| sX (cF .f32) Y8 0 YW y_7 <| sV (cF .f32) Y8 0 y_8 <| sX (cF .f32) Y8 0 YW y_7 <| sC (maplt (c := (cF .f32)) (l := Y8) y_8) <| sI (Y1 + 1) y_9 Y13 <| sN) (by kernel_rfl) (show _ = ⟨.agg [.sl (Y3.Mesh.Places.map GVector.cells), .sl (Y3.Mesh.Triangles.map (cL (cI .i64))), .sl (Y3.Springs.map GSpring.cells), .f .f32 Y3.Film, .f .f32 Y3.Bend, .sl (Y3.Weights.map (cF .f32)), .f .f32 Y3.Fall.X, .f .f32 Y3.Fall.Y, .f .f32 Y3.Fall.Z] :: .ptr 0 0 0 :: .nils :: .own 1 :: an 10 (.own 1 :: .ptr 0 0 2 :: .sl (Y3.Springs.map GSpring.cells) :: .i .i64 (Y3.Springs.length : Int) :: .i .i64 (Y1 + 1) :: an 98 []), [.box 42 [.sl (Y3.Mesh.Places.map GVector.cells), .sl (Y3.Mesh.Triangles.map (cL (cI .i64))), .sl (Y3.Springs.map GSpring.cells), .f .f32 Y3.Film, .f .f32 Y3.Bend, .sl (Y3.Weights.map (cF .f32)), .f .f32 Y3.Fall.X, .f .f32 Y3.Fall.Y, .f .f32 Y3.Fall.Z], .vec 27 1 ((Y8.set 0 (fop .add .f32 (Y8.getD 0 default) (fop .mul .f32 (fop .mul .f32 1056964608 ((Y3.Springs.getD Y1.toNat default).Stiff)) (Z3D Y3 Y1)))).map (cF .f32)) false]⟩ from (by simp [List.map_set, cF])) (ih (Y1 + 1) (Y8.set 0 (fop .add .f32 (Y8.getD 0 default) (fop .mul .f32 (fop .mul .f32 1056964608 ((Y3.Springs.getD Y1.toNat default).Stiff)) (Z3D Y3 Y1)))) (show 0 ≤ (Y1 + 1) from (by omega)) (show (Y8.set 0 (fop .add .f32 (Y8.getD 0 default) (fop .mul .f32 (fop .mul .f32 1056964608 ((Y3.Springs.getD Y1.toNat default).Stiff)) (Z3D Y3 Y1)))).length = 4 from (by simp_all <;> omega)) (by omega))
  | false =>
   have Yt := of_decide_eq_false Yg
   have e : Z1y Y3 (k + 1) Y1 Y8 = Y8 := by simp only [Z1y, Yg, cond_false]
   rw [e]
   exact outR (e := (.exit 0)) E0Ok Z4 [] (mR false [0, 4, 10, 3, 100]) [0, 1] (sB Yg <| sN) (by kernel_rfl) (by intro h; cases h)
theorem Zcu (Y3 : GBody) : ∀ (k : Nat) (Y1 : Int) (Y8 : (List Nat)) (hk : ((Y3.Springs.length : Int) - Y1).toNat < k), (Z1y Y3 k Y1 Y8).length = Y8.length := by
  intro k
  induction k with
  | zero => intro Y1 Y8 hk; exact absurd hk (Nat.not_lt_zero _)
  | succ k ih =>
    intro Y1 Y8 hk
    cases Yg : (decide (Y1 < (Y3.Springs.length : Int))) with
    | true =>
      have e : Z1y Y3 (k + 1) Y1 Y8 = (Z1y Y3 k (Y1 + 1) (Y8.set 0 (fop .add .f32 (Y8.getD 0 default) (fop .mul .f32 (fop .mul .f32 1056964608 ((Y3.Springs.getD Y1.toNat default).Stiff)) (Z3D Y3 Y1))))) := by simp only [Z1y, Yg, cond_true]
      rw [e, ih (Y1 + 1) (Y8.set 0 (fop .add .f32 (Y8.getD 0 default) (fop .mul .f32 (fop .mul .f32 1056964608 ((Y3.Springs.getD Y1.toNat default).Stiff)) (Z3D Y3 Y1)))) (by simp_all <;> omega)]; simp
    | false =>
      have e : Z1y Y3 (k + 1) Y1 Y8 = Y8 := by simp only [Z1y, Yg, cond_false]
      first | (rw [e]; done) | (rw [e]; rfl)
def Z2g (Y3 : GBody) : (List Nat) := (Z1y Y3 (((Y3.Springs.length : Int) - 0).toNat + 1) 0 (List.replicate 4 0))
@[simp] theorem Zaa (Y3 : GBody) : (Z2g Y3).length = ((List.replicate 4 0) : (List Nat)).length := Zcu Y3 (((Y3.Springs.length : Int) - 0).toNat + 1) 0 (List.replicate 4 0) (by exact Nat.lt_succ_self _)
def Z3E (Y3 : GBody) (Y1 : Int) (Y8 : (List Nat)) : Nat := (fop .add .f32 (Y8.getD 1 default) (fop .mul .f32 Y3.Film (fop .mul .f32 1056964608 (Zs (Za Y3.Mesh (Y3.Mesh.Triangles.getD Y1.toNat default))))))
def Z1z (Y3 : GBody) : Nat → Int → (List Nat) → (List Nat)
  | 0, _, _ => default
  | k + 1, Y1, Y8 => (cond (decide (Y1 < (Y3.Mesh.Triangles.length : Int)))
    (Z1z Y3 k (Y1 + 1) (Y8.set 1 (Z3E Y3 Y1 Y8)))
    Y8)
def Z7a (Y3 : GBody) (r : (List Nat)) : Ex × St := ((.exit 2), ⟨.agg [.sl (Y3.Mesh.Places.map GVector.cells), .sl (Y3.Mesh.Triangles.map (cL (cI .i64))), .sl (Y3.Springs.map GSpring.cells), .f .f32 Y3.Film, .f .f32 Y3.Bend, .sl (Y3.Weights.map (cF .f32)), .f .f32 Y3.Fall.X, .f .f32 Y3.Fall.Y, .f .f32 Y3.Fall.Z] :: .ptr 0 0 0 :: .nils :: .own 1 :: an 10 (.own 1 :: .ptr 0 0 2 :: .sl (Y3.Springs.map GSpring.cells) :: an 25 (.ptr 0 0 0 :: .ptr 0 0 1 :: .sl (Y3.Mesh.Triangles.map (cL (cI .i64))) :: an 72 [])), [.box 42 [.sl (Y3.Mesh.Places.map GVector.cells), .sl (Y3.Mesh.Triangles.map (cL (cI .i64))), .sl (Y3.Springs.map GSpring.cells), .f .f32 Y3.Film, .f .f32 Y3.Bend, .sl (Y3.Weights.map (cF .f32)), .f .f32 Y3.Fall.X, .f .f32 Y3.Fall.Y, .f .f32 Y3.Fall.Z], .vec 27 1 (r.map (cF .f32)) false]⟩)
def ZdI (Y3 : GBody) (Y1 : Int) (Y8 : (List Nat)) : St := ⟨.agg [.sl (Y3.Mesh.Places.map GVector.cells), .sl (Y3.Mesh.Triangles.map (cL (cI .i64))), .sl (Y3.Springs.map GSpring.cells), .f .f32 Y3.Film, .f .f32 Y3.Bend, .sl (Y3.Weights.map (cF .f32)), .f .f32 Y3.Fall.X, .f .f32 Y3.Fall.Y, .f .f32 Y3.Fall.Z] :: .ptr 0 0 0 :: .nils :: .own 1 :: an 10 (.own 1 :: .ptr 0 0 2 :: .sl (Y3.Springs.map GSpring.cells) :: an 25 (.ptr 0 0 0 :: .ptr 0 0 1 :: .sl (Y3.Mesh.Triangles.map (cL (cI .i64))) :: .i .i64 (Y3.Mesh.Triangles.length : Int) :: .i .i64 Y1 :: an 70 [])), [.box 42 [.sl (Y3.Mesh.Places.map GVector.cells), .sl (Y3.Mesh.Triangles.map (cL (cI .i64))), .sl (Y3.Springs.map GSpring.cells), .f .f32 Y3.Film, .f .f32 Y3.Bend, .sl (Y3.Weights.map (cF .f32)), .f .f32 Y3.Fall.X, .f .f32 Y3.Fall.Y, .f .f32 Y3.Fall.Z], .vec 27 1 (Y8.map (cF .f32)) false]⟩
theorem ZdJ (Y3 : GBody) (hp0 : Y3.Mesh.Places.length ≤ 1073741824) (hp1 : Y3.Mesh.Triangles.length ≤ 1073741824) (hp2 : ∀ t ∈ Y3.Mesh.Triangles, t.length ≤ 1073741824) (hp3 : Y3.Springs.length ≤ 1073741824) (hp4 : Y3.Weights.length ≤ 1073741824) (hp5 : OkBd Y3) : ∀ (k : Nat) (Y1 : Int) (Y8 : (List Nat)) (Z93 : 0 ≤ Y1) (Z94 : Y8.length = (Z2g Y3).length) (hk : ((Y3.Mesh.Triangles.length : Int) - Y1).toNat < k), Lp prog 0 (sub (bodyOf f129) [1, 1, 1, 0, 1, 0, 0]) (ZdI Y3 Y1 Y8) (Z7a Y3 (Z1z Y3 k Y1 Y8)).1 (Z7a Y3 (Z1z Y3 k Y1 Y8)).2 := by
 intro k
 induction k with
 | zero => intro Y1 Y8 Z93 Z94 hk; exact absurd hk (Nat.not_lt_zero _)
 | succ k ih =>
  intro Y1 Y8 Z93 Z94 hk
  cases Yg : (decide (Y1 < (Y3.Mesh.Triangles.length : Int))) with
  | true =>
   have Yt := of_decide_eq_true Yg
   have YA : (0 : Int) ≤ Y1 := (by assumption)
   have YE : Y1 < (Y3.Mesh.Triangles.length : Int) := (by assumption)
   have YG : (0 : Int) ≤ 1 := (by omega)
   have YH : 1 < (Y8.length : Int) := (by simp_all <;> omega)
   have YL : 1 < Y8.length := (by omega)
   have YQ : (Y3.Mesh.Triangles.getD Y1.toNat default).length ≤ 1073741824 := (by exact tri3L hp5.e (by assumption) Yg)
   have YW : (Y3.Mesh.Triangles.getD Y1.toNat default).length = 3 ∧ ∀ x ∈ (Y3.Mesh.Triangles.getD Y1.toNat default), 0 ≤ x ∧ x < (Y3.Mesh.Places.length : Int) := (by exact tri3 hp5.e (by assumption) Yg)
   have y_7 : (-9223372036854775808 : Int) ≤ (Y1 + 1) := (by omega)
   have y_8 : (Y1 + 1) ≤ (9223372036854775807 : Int) := (by omega)
   have e : Z1z Y3 (k + 1) Y1 Y8 = (Z1z Y3 k (Y1 + 1) (Y8.set 1 (Z3E Y3 Y1 Y8))) := by simp only [Z1z, Yg, cond_true]
   rw [e]
   exact nextS E0Ok Z4 [] (mR false [0, 4, 10, 3, 25, 5, 70]) [0, 1] (⟨.agg [.sl (Y3.Mesh.Places.map GVector.cells), .sl (Y3.Mesh.Triangles.map (cL (cI .i64))), .sl (Y3.Springs.map GSpring.cells), .f .f32 Y3.Film, .f .f32 Y3.Bend, .sl (Y3.Weights.map (cF .f32)), .f .f32 Y3.Fall.X, .f .f32 Y3.Fall.Y, .f .f32 Y3.Fall.Z] :: .ptr 0 0 0 :: .nils :: .own 1 :: an 10 (.own 1 :: .ptr 0 0 2 :: .sl (Y3.Springs.map GSpring.cells) :: an 25 (.ptr 0 0 0 :: .ptr 0 0 1 :: .sl (Y3.Mesh.Triangles.map (cL (cI .i64))) :: .i .i64 (Y3.Mesh.Triangles.length : Int) :: .i .i64 (Y1 + 1) :: an 70 [])), [.box 42 [.sl (Y3.Mesh.Places.map GVector.cells), .sl (Y3.Mesh.Triangles.map (cL (cI .i64))), .sl (Y3.Springs.map GSpring.cells), .f .f32 Y3.Film, .f .f32 Y3.Bend, .sl (Y3.Weights.map (cF .f32)), .f .f32 Y3.Fall.X, .f .f32 Y3.Fall.Y, .f .f32 Y3.Fall.Z], .vec 27 1 ((Y8.map (cF .f32)).set 1 [.f .f32 (Z3E Y3 Y1 Y8)]) false]⟩) (sB Yg <| sG (cL (cI .i64)) Y3.Mesh.Triangles Y1 YA YE <| sK [12, 12] <| sX (cF .f32) Y8 1 YG YH <| sV (cF .f32) Y8 1 YL <| sF (ZaT Y3.Mesh (Y3.Mesh.Triangles.getD Y1.toNat default) hp0 hp1 hp2 YQ YW) <| sF (Z7p (Za Y3.Mesh (Y3.Mesh.Triangles.getD Y1.toNat default))) <| sX (cF .f32) Y8 1 YG YH <| sC (maplt (c := (cF .f32)) (l := Y8) YL) <| sI (Y1 + 1) y_7 y_8 <| sN) (by kernel_rfl) (show _ = ⟨.agg [.sl (Y3.Mesh.Places.map GVector.cells), .sl (Y3.Mesh.Triangles.map (cL (cI .i64))), .sl (Y3.Springs.map GSpring.cells), .f .f32 Y3.Film, .f .f32 Y3.Bend, .sl (Y3.Weights.map (cF .f32)), .f .f32 Y3.Fall.X, .f .f32 Y3.Fall.Y, .f .f32 Y3.Fall.Z] :: .ptr 0 0 0 :: .nils :: .own 1 :: an 10 (.own 1 :: .ptr 0 0 2 :: .sl (Y3.Springs.map GSpring.cells) :: an 25 (.ptr 0 0 0 :: .ptr 0 0 1 :: .sl (Y3.Mesh.Triangles.map (cL (cI .i64))) :: .i .i64 (Y3.Mesh.Triangles.length : Int) :: .i .i64 (Y1 + 1) :: an 70 [])), [.box 42 [.sl (Y3.Mesh.Places.map GVector.cells), .sl (Y3.Mesh.Triangles.map (cL (cI .i64))), .sl (Y3.Springs.map GSpring.cells), .f .f32 Y3.Film, .f .f32 Y3.Bend, .sl (Y3.Weights.map (cF .f32)), .f .f32 Y3.Fall.X, .f .f32 Y3.Fall.Y, .f .f32 Y3.Fall.Z], .vec 27 1 ((Y8.set 1 (Z3E Y3 Y1 Y8)).map (cF .f32)) false]⟩ from (by simp [List.map_set, cF])) (ih (Y1 + 1) (Y8.set 1 (Z3E Y3 Y1 Y8)) (show 0 ≤ (Y1 + 1) from (by omega)) (show (Y8.set 1 (Z3E Y3 Y1 Y8)).length = (Z2g Y3).length from (by simp_all <;> omega)) (by omega))
  | false =>
   have Yt := of_decide_eq_false Yg
   have e : Z1z Y3 (k + 1) Y1 Y8 = Y8 := by simp only [Z1z, Yg, cond_false]
   rw [e]
   exact outR (e := (.exit 2)) E0Ok Z4 [] (mR false [0, 4, 10, 3, 25, 3, 72]) [0, 1] (sB Yg <| sN) (by kernel_rfl) (by intro h; cases h)
theorem Zcv (Y3 : GBody) : ∀ (k : Nat) (Y1 : Int) (Y8 : (List Nat)) (hk : ((Y3.Mesh.Triangles.length : Int) - Y1).toNat < k), (Z1z Y3 k Y1 Y8).length = Y8.length := by
  intro k
  induction k with
  | zero => intro Y1 Y8 hk; exact absurd hk (Nat.not_lt_zero _)
  | succ k ih =>
    intro Y1 Y8 hk
    cases Yg : (decide (Y1 < (Y3.Mesh.Triangles.length : Int))) with
    | true =>
      have e : Z1z Y3 (k + 1) Y1 Y8 = (Z1z Y3 k (Y1 + 1) (Y8.set 1 (Z3E Y3 Y1 Y8))) := by simp only [Z1z, Yg, cond_true]
      rw [e, ih (Y1 + 1) (Y8.set 1 (Z3E Y3 Y1 Y8)) (by simp_all <;> omega)]; simp
    | false =>
      have e : Z1z Y3 (k + 1) Y1 Y8 = Y8 := by simp only [Z1z, Yg, cond_false]
      first | (rw [e]; done) | (rw [e]; rfl)
def Z2h (Y3 : GBody) : (List Nat) := (Z1z Y3 (((Y3.Mesh.Triangles.length : Int) - 0).toNat + 1) 0 (Z2g Y3))
@[simp] theorem Zab (Y3 : GBody) : (Z2h Y3).length = ((Z2g Y3) : (List Nat)).length := Zcv Y3 (((Y3.Mesh.Triangles.length : Int) - 0).toNat + 1) 0 (Z2g Y3) (by exact Nat.lt_succ_self _)
def Z3g (Y3 : GBody) (Y1 : Int) : Nat := (Z5a (Zp Y3.Mesh ((Z6 Y3.Mesh).getD Y1.toNat default)) (Zp Y3.Mesh ((Z6 Y3.Mesh).getD Y1.toNat default)))
def Z1u (Y3 : GBody) : Nat → Int → (List Nat) → (List Nat)
  | 0, _, _ => default
  | k + 1, Y1, Y8 => (cond (decide (Y1 < ((Z6 Y3.Mesh).length : Int)))
    (Z1u Y3 k (Y1 + 1) (Y8.set 2 (fop .add .f32 (Y8.getD 2 default) (fop .mul .f32 (fop .mul .f32 1056964608 Y3.Bend) (Z3g Y3 Y1)))))
    Y8)
def Z7b (Y3 : GBody) (r : (List Nat)) : Ex × St := ((.exit 4), ⟨.agg [.sl (Y3.Mesh.Places.map GVector.cells), .sl (Y3.Mesh.Triangles.map (cL (cI .i64))), .sl (Y3.Springs.map GSpring.cells), .f .f32 Y3.Film, .f .f32 Y3.Bend, .sl (Y3.Weights.map (cF .f32)), .f .f32 Y3.Fall.X, .f .f32 Y3.Fall.Y, .f .f32 Y3.Fall.Z] :: .ptr 0 0 0 :: .nils :: .own 1 :: an 10 (.own 1 :: .ptr 0 0 2 :: .sl (Y3.Springs.map GSpring.cells) :: an 25 (.ptr 0 0 0 :: .ptr 0 0 1 :: .sl (Y3.Mesh.Triangles.map (cL (cI .i64))) :: an 20 (.ptr 0 0 0 :: .agg [.sl (Y3.Mesh.Places.map GVector.cells), .sl (Y3.Mesh.Triangles.map (cL (cI .i64)))] :: .own 2 :: an 49 []))), [.box 42 [.sl (Y3.Mesh.Places.map GVector.cells), .sl (Y3.Mesh.Triangles.map (cL (cI .i64))), .sl (Y3.Springs.map GSpring.cells), .f .f32 Y3.Film, .f .f32 Y3.Bend, .sl (Y3.Weights.map (cF .f32)), .f .f32 Y3.Fall.X, .f .f32 Y3.Fall.Y, .f .f32 Y3.Fall.Z], .vec 27 1 (r.map (cF .f32)) false, .nest 49 ((Z6 Y3.Mesh).map fun l => l.map (cI .i64)) false]⟩)
def ZdK (Y3 : GBody) (Y1 : Int) (Y8 : (List Nat)) : St := ⟨.agg [.sl (Y3.Mesh.Places.map GVector.cells), .sl (Y3.Mesh.Triangles.map (cL (cI .i64))), .sl (Y3.Springs.map GSpring.cells), .f .f32 Y3.Film, .f .f32 Y3.Bend, .sl (Y3.Weights.map (cF .f32)), .f .f32 Y3.Fall.X, .f .f32 Y3.Fall.Y, .f .f32 Y3.Fall.Z] :: .ptr 0 0 0 :: .nils :: .own 1 :: an 10 (.own 1 :: .ptr 0 0 2 :: .sl (Y3.Springs.map GSpring.cells) :: an 25 (.ptr 0 0 0 :: .ptr 0 0 1 :: .sl (Y3.Mesh.Triangles.map (cL (cI .i64))) :: an 20 (.ptr 0 0 0 :: .agg [.sl (Y3.Mesh.Places.map GVector.cells), .sl (Y3.Mesh.Triangles.map (cL (cI .i64)))] :: .own 2 :: .i .i64 ((Z6 Y3.Mesh).length : Int) :: .i .i64 Y1 :: an 47 []))), [.box 42 [.sl (Y3.Mesh.Places.map GVector.cells), .sl (Y3.Mesh.Triangles.map (cL (cI .i64))), .sl (Y3.Springs.map GSpring.cells), .f .f32 Y3.Film, .f .f32 Y3.Bend, .sl (Y3.Weights.map (cF .f32)), .f .f32 Y3.Fall.X, .f .f32 Y3.Fall.Y, .f .f32 Y3.Fall.Z], .vec 27 1 (Y8.map (cF .f32)) false, .nest 49 ((Z6 Y3.Mesh).map fun l => l.map (cI .i64)) false]⟩
def Z95 : List Bool := (mR false [0, 4, 10, 3, 25, 3, 20, 5, 47])
def Zcw : List Bool := (mR false [0, 4, 10, 3, 25, 3, 20, 3, 49])
theorem ZdL (Y3 : GBody) (hp0 : Y3.Mesh.Places.length ≤ 1073741824) (hp1 : Y3.Mesh.Triangles.length ≤ 1073741824) (hp2 : ∀ t ∈ Y3.Mesh.Triangles, t.length ≤ 1073741824) (hp3 : Y3.Springs.length ≤ 1073741824) (hp4 : Y3.Weights.length ≤ 1073741824) (hp5 : OkBd Y3) : ∀ (k : Nat) (Y1 : Int) (Y8 : (List Nat)) (Z96 : 0 ≤ Y1) (Z97 : Y8.length = (Z2h Y3).length) (hk : (((Z6 Y3.Mesh).length : Int) - Y1).toNat < k), Lp prog 0 (sub (bodyOf f129) [1, 1, 1, 1, 0, 1, 0, 0]) (ZdK Y3 Y1 Y8) (Z7b Y3 (Z1u Y3 k Y1 Y8)).1 (Z7b Y3 (Z1u Y3 k Y1 Y8)).2 := by
 intro k
 induction k with
 | zero => intro Y1 Y8 Z96 Z97 hk; exact absurd hk (Nat.not_lt_zero _)
 | succ k ih =>
  intro Y1 Y8 Z96 Z97 hk
  cases Yg : (decide (Y1 < ((Z6 Y3.Mesh).length : Int))) with
  | true =>
   have Yt := of_decide_eq_true Yg
   have YA : (0 : Int) ≤ Y1 := (by assumption)
   have YE : Int.toNat Y1 < (Z6 Y3.Mesh).length := (by omega)
   have YG : Y1.toNat < (Z6 Y3.Mesh).length := (by assumption)
   have YH : ((Z6 Y3.Mesh).getD Y1.toNat default).length ≤ 1073741824 := (by exact Zh3 hp5.e (by assumption) Yg)
   have YL : ((Z6 Y3.Mesh).getD Y1.toNat default).length = 4 ∧ ∀ x ∈ ((Z6 Y3.Mesh).getD Y1.toNat default), 0 ≤ x ∧ x < (Y3.Mesh.Places.length : Int) := (by exact Z6z hp5.e (by assumption) Yg)
   have YQ : (0 : Int) ≤ 2 := (by omega)
   have YW : 2 < (Y8.length : Int) := (by simp_all <;> omega)
   have y_7 : 2 < Y8.length := (by omega)
   have y_8 : (-9223372036854775808 : Int) ≤ (Y1 + 1) := (by omega)
   have y_9 : (Y1 + 1) ≤ (9223372036854775807 : Int) := (by have q := hp5.w; (have q := Z9X _ hp5.e; omega))
   have e : Z1u Y3 (k + 1) Y1 Y8 = (Z1u Y3 k (Y1 + 1) (Y8.set 2 (fop .add .f32 (Y8.getD 2 default) (fop .mul .f32 (fop .mul .f32 1056964608 Y3.Bend) (Z3g Y3 Y1))))) := by simp only [Z1u, Yg, cond_true]
   rw [e]
   exact nextS E0Ok Z4 [] Z95 [0, 1, 2] (⟨.agg [.sl (Y3.Mesh.Places.map GVector.cells), .sl (Y3.Mesh.Triangles.map (cL (cI .i64))), .sl (Y3.Springs.map GSpring.cells), .f .f32 Y3.Film, .f .f32 Y3.Bend, .sl (Y3.Weights.map (cF .f32)), .f .f32 Y3.Fall.X, .f .f32 Y3.Fall.Y, .f .f32 Y3.Fall.Z] :: .ptr 0 0 0 :: .nils :: .own 1 :: an 10 (.own 1 :: .ptr 0 0 2 :: .sl (Y3.Springs.map GSpring.cells) :: an 25 (.ptr 0 0 0 :: .ptr 0 0 1 :: .sl (Y3.Mesh.Triangles.map (cL (cI .i64))) :: an 20 (.ptr 0 0 0 :: .agg [.sl (Y3.Mesh.Places.map GVector.cells), .sl (Y3.Mesh.Triangles.map (cL (cI .i64)))] :: .own 2 :: .i .i64 ((Z6 Y3.Mesh).length : Int) :: .i .i64 (Y1 + 1) :: an 47 []))), [.box 42 [.sl (Y3.Mesh.Places.map GVector.cells), .sl (Y3.Mesh.Triangles.map (cL (cI .i64))), .sl (Y3.Springs.map GSpring.cells), .f .f32 Y3.Film, .f .f32 Y3.Bend, .sl (Y3.Weights.map (cF .f32)), .f .f32 Y3.Fall.X, .f .f32 Y3.Fall.Y, .f .f32 Y3.Fall.Z], .vec 27 1 ((Y8.map (cF .f32)).set 2 [.f .f32 (fop .add .f32 (Y8.getD 2 default) (fop .mul .f32 (fop .mul .f32 1056964608 Y3.Bend) (Z3g Y3 Y1)))]) false, .nest 49 ((Z6 Y3.Mesh).map fun l => l.map (cI .i64)) false]⟩) (sB Yg <| sC (nestix (c := (cI .i64)) (l := (Z6 Y3.Mesh)) (i := Y1) YA YE) <| sC (nestlt (c := (cI .i64)) (l := (Z6 Y3.Mesh)) YG) <| sF (Fn.castA (args' := [.agg [.sl (Y3.Mesh.Places.map GVector.cells), .sl (Y3.Mesh.Triangles.map (cL (cI .i64)))], .sl (((Z6 Y3.Mesh).map fun l => l.map (cI .i64)).getD Y1.toNat [])]) (Zc8 Y3.Mesh ((Z6 Y3.Mesh).getD Y1.toNat default) hp0 hp1 hp2 YH YL) (by simp [cI]; done)) <| sK [10, 10] <| sX (cF .f32) Y8 2 YQ YW <| sV (cF .f32) Y8 2 y_7 <| sF (Z9h (Zp Y3.Mesh ((Z6 Y3.Mesh).getD Y1.toNat default)) (Zp Y3.Mesh ((Z6 Y3.Mesh).getD Y1.toNat default))) <| sX (cF .f32) Y8 2 YQ YW <| sC (maplt (c := (cF .f32)) (l := Y8) y_7) <| sI (Y1 + 1) y_8 y_9 <| sN) (by kernel_rfl) (show _ = ⟨.agg [.sl (Y3.Mesh.Places.map GVector.cells), .sl (Y3.Mesh.Triangles.map (cL (cI .i64))), .sl (Y3.Springs.map GSpring.cells), .f .f32 Y3.Film, .f .f32 Y3.Bend, .sl (Y3.Weights.map (cF .f32)), .f .f32 Y3.Fall.X, .f .f32 Y3.Fall.Y, .f .f32 Y3.Fall.Z] :: .ptr 0 0 0 :: .nils :: .own 1 :: an 10 (.own 1 :: .ptr 0 0 2 :: .sl (Y3.Springs.map GSpring.cells) :: an 25 (.ptr 0 0 0 :: .ptr 0 0 1 :: .sl (Y3.Mesh.Triangles.map (cL (cI .i64))) :: an 20 (.ptr 0 0 0 :: .agg [.sl (Y3.Mesh.Places.map GVector.cells), .sl (Y3.Mesh.Triangles.map (cL (cI .i64)))] :: .own 2 :: .i .i64 ((Z6 Y3.Mesh).length : Int) :: .i .i64 (Y1 + 1) :: an 47 []))), [.box 42 [.sl (Y3.Mesh.Places.map GVector.cells), .sl (Y3.Mesh.Triangles.map (cL (cI .i64))), .sl (Y3.Springs.map GSpring.cells), .f .f32 Y3.Film, .f .f32 Y3.Bend, .sl (Y3.Weights.map (cF .f32)), .f .f32 Y3.Fall.X, .f .f32 Y3.Fall.Y, .f .f32 Y3.Fall.Z], .vec 27 1 ((Y8.set 2 (fop .add .f32 (Y8.getD 2 default) (fop .mul .f32 (fop .mul .f32 1056964608 Y3.Bend) (Z3g Y3 Y1)))).map (cF .f32)) false, .nest 49 ((Z6 Y3.Mesh).map fun l => l.map (cI .i64)) false]⟩ from (by simp [List.map_set, cF])) (ih (Y1 + 1) (Y8.set 2 (fop .add .f32 (Y8.getD 2 default) (fop .mul .f32 (fop .mul .f32 1056964608 Y3.Bend) (Z3g Y3 Y1)))) (show 0 ≤ (Y1 + 1) from (by omega)) (show (Y8.set 2 (fop .add .f32 (Y8.getD 2 default) (fop .mul .f32 (fop .mul .f32 1056964608 Y3.Bend) (Z3g Y3 Y1)))).length = (Z2h Y3).length from (by simp_all <;> omega)) (by omega))
  | false =>
   have Yt := of_decide_eq_false Yg
   have e : Z1u Y3 (k + 1) Y1 Y8 = Y8 := by simp only [Z1u, Yg, cond_false]
   rw [e]
   exact outR (e := (.exit 4)) E0Ok Z4 [] Zcw [0, 1, 2] (sB Yg <| sN) (by kernel_rfl) (by intro h; cases h)
theorem Zcx (Y3 : GBody) : ∀ (k : Nat) (Y1 : Int) (Y8 : (List Nat)) (hk : (((Z6 Y3.Mesh).length : Int) - Y1).toNat < k), (Z1u Y3 k Y1 Y8).length = Y8.length := by
  intro k
  induction k with
  | zero => intro Y1 Y8 hk; exact absurd hk (Nat.not_lt_zero _)
  | succ k ih =>
    intro Y1 Y8 hk
    cases Yg : (decide (Y1 < ((Z6 Y3.Mesh).length : Int))) with
    | true =>
      have e : Z1u Y3 (k + 1) Y1 Y8 = (Z1u Y3 k (Y1 + 1) (Y8.set 2 (fop .add .f32 (Y8.getD 2 default) (fop .mul .f32 (fop .mul .f32 1056964608 Y3.Bend) (Z3g Y3 Y1))))) := by simp only [Z1u, Yg, cond_true]
      rw [e, ih (Y1 + 1) (Y8.set 2 (fop .add .f32 (Y8.getD 2 default) (fop .mul .f32 (fop .mul .f32 1056964608 Y3.Bend) (Z3g Y3 Y1)))) (by simp_all <;> omega)]; simp
    | false =>
      have e : Z1u Y3 (k + 1) Y1 Y8 = Y8 := by simp only [Z1u, Yg, cond_false]
      first | (rw [e]; done) | (rw [e]; rfl)
def Z2i (Y3 : GBody) : (List Nat) := (Z1u Y3 ((((Z6 Y3.Mesh).length : Int) - 0).toNat + 1) 0 (Z2h Y3))
@[simp] theorem Zac (Y3 : GBody) : (Z2i Y3).length = ((Z2h Y3) : (List Nat)).length := Zcx Y3 ((((Z6 Y3.Mesh).length : Int) - 0).toNat + 1) 0 (Z2h Y3) (by exact Nat.lt_succ_self _)
def Z3F (Y3 : GBody) (Y1 : Int) (Y8 : (List Nat)) : Nat := (fop .add .f32 (Y8.getD 3 default) (fneg .f32 (fop .mul .f32 (Y3.Weights.getD Y1.toNat default) (Z5a Y3.Fall (Y3.Mesh.Places.getD Y1.toNat default)))))
def Z1A (Y3 : GBody) : Nat → Int → (List Nat) → (List Nat)
  | 0, _, _ => default
  | k + 1, Y1, Y8 => (cond (decide (Y1 < (Y3.Mesh.Places.length : Int)))
    (Z1A Y3 k (Y1 + 1) (Y8.set 3 (Z3F Y3 Y1 Y8)))
    Y8)
def Z7c (Y3 : GBody) (r : (List Nat)) : Ex × St := ((.exit 6), ⟨.agg [.sl (Y3.Mesh.Places.map GVector.cells), .sl (Y3.Mesh.Triangles.map (cL (cI .i64))), .sl (Y3.Springs.map GSpring.cells), .f .f32 Y3.Film, .f .f32 Y3.Bend, .sl (Y3.Weights.map (cF .f32)), .f .f32 Y3.Fall.X, .f .f32 Y3.Fall.Y, .f .f32 Y3.Fall.Z] :: .ptr 0 0 0 :: .nils :: .own 1 :: an 10 (.own 1 :: .ptr 0 0 2 :: .sl (Y3.Springs.map GSpring.cells) :: an 25 (.ptr 0 0 0 :: .ptr 0 0 1 :: .sl (Y3.Mesh.Triangles.map (cL (cI .i64))) :: an 20 (.ptr 0 0 0 :: .agg [.sl (Y3.Mesh.Places.map GVector.cells), .sl (Y3.Mesh.Triangles.map (cL (cI .i64)))] :: .own 2 :: an 22 (.ptr 0 0 0 :: .ptr 0 0 0 :: .sl (Y3.Mesh.Places.map GVector.cells) :: an 24 [])))), [.box 42 [.sl (Y3.Mesh.Places.map GVector.cells), .sl (Y3.Mesh.Triangles.map (cL (cI .i64))), .sl (Y3.Springs.map GSpring.cells), .f .f32 Y3.Film, .f .f32 Y3.Bend, .sl (Y3.Weights.map (cF .f32)), .f .f32 Y3.Fall.X, .f .f32 Y3.Fall.Y, .f .f32 Y3.Fall.Z], .vec 27 1 (r.map (cF .f32)) false, .nest 49 ((Z6 Y3.Mesh).map fun l => l.map (cI .i64)) false]⟩)
def ZdM (Y3 : GBody) (Y1 : Int) (Y8 : (List Nat)) : St := ⟨.agg [.sl (Y3.Mesh.Places.map GVector.cells), .sl (Y3.Mesh.Triangles.map (cL (cI .i64))), .sl (Y3.Springs.map GSpring.cells), .f .f32 Y3.Film, .f .f32 Y3.Bend, .sl (Y3.Weights.map (cF .f32)), .f .f32 Y3.Fall.X, .f .f32 Y3.Fall.Y, .f .f32 Y3.Fall.Z] :: .ptr 0 0 0 :: .nils :: .own 1 :: an 10 (.own 1 :: .ptr 0 0 2 :: .sl (Y3.Springs.map GSpring.cells) :: an 25 (.ptr 0 0 0 :: .ptr 0 0 1 :: .sl (Y3.Mesh.Triangles.map (cL (cI .i64))) :: an 20 (.ptr 0 0 0 :: .agg [.sl (Y3.Mesh.Places.map GVector.cells), .sl (Y3.Mesh.Triangles.map (cL (cI .i64)))] :: .own 2 :: an 22 (.ptr 0 0 0 :: .ptr 0 0 0 :: .sl (Y3.Mesh.Places.map GVector.cells) :: .i .i64 (Y3.Mesh.Places.length : Int) :: .i .i64 Y1 :: an 22 [])))), [.box 42 [.sl (Y3.Mesh.Places.map GVector.cells), .sl (Y3.Mesh.Triangles.map (cL (cI .i64))), .sl (Y3.Springs.map GSpring.cells), .f .f32 Y3.Film, .f .f32 Y3.Bend, .sl (Y3.Weights.map (cF .f32)), .f .f32 Y3.Fall.X, .f .f32 Y3.Fall.Y, .f .f32 Y3.Fall.Z], .vec 27 1 (Y8.map (cF .f32)) false, .nest 49 ((Z6 Y3.Mesh).map fun l => l.map (cI .i64)) false]⟩
def Z98 : List Bool := (mR false [0, 4, 10, 3, 25, 3, 20, 3, 22, 5, 22])
def Zcy : List Bool := (mR false [0, 4, 10, 3, 25, 3, 20, 3, 22, 3, 24])
theorem ZdN (Y3 : GBody) (hp0 : Y3.Mesh.Places.length ≤ 1073741824) (hp1 : Y3.Mesh.Triangles.length ≤ 1073741824) (hp2 : ∀ t ∈ Y3.Mesh.Triangles, t.length ≤ 1073741824) (hp3 : Y3.Springs.length ≤ 1073741824) (hp4 : Y3.Weights.length ≤ 1073741824) (hp5 : OkBd Y3) : ∀ (k : Nat) (Y1 : Int) (Y8 : (List Nat)) (Z99 : 0 ≤ Y1) (Z9a : Y8.length = (Z2i Y3).length) (hk : ((Y3.Mesh.Places.length : Int) - Y1).toNat < k), Lp prog 0 (sub (bodyOf f129) [1, 1, 1, 1, 1, 0, 1, 0, 0]) (ZdM Y3 Y1 Y8) (Z7c Y3 (Z1A Y3 k Y1 Y8)).1 (Z7c Y3 (Z1A Y3 k Y1 Y8)).2 := by
 intro k
 induction k with
 | zero => intro Y1 Y8 Z99 Z9a hk; exact absurd hk (Nat.not_lt_zero _)
 | succ k ih =>
  intro Y1 Y8 Z99 Z9a hk
  cases Yg : (decide (Y1 < (Y3.Mesh.Places.length : Int))) with
  | true =>
   have Yt := of_decide_eq_true Yg
   have YA : (0 : Int) ≤ Y1 := (by assumption)
   have YE : Y1 < (Y3.Mesh.Places.length : Int) := (by assumption)
   have YG : (0 : Int) ≤ 3 := (by omega)
   have YH : 3 < (Y8.length : Int) := (by simp_all <;> omega)
   have YL : 3 < Y8.length := (by omega)
   have YQ : Y1 < (Y3.Weights.length : Int) := (by have q := hp5.w; omega)
   have YW : (-9223372036854775808 : Int) ≤ (Y1 + 1) := (by omega)
   have y_7 : (Y1 + 1) ≤ (9223372036854775807 : Int) := (by omega)
   have e : Z1A Y3 (k + 1) Y1 Y8 = (Z1A Y3 k (Y1 + 1) (Y8.set 3 (Z3F Y3 Y1 Y8))) := by simp only [Z1A, Yg, cond_true]
   rw [e]
   exact nextS E0Ok Z4 [] Z98 [0, 1, 2] (⟨.agg [.sl (Y3.Mesh.Places.map GVector.cells), .sl (Y3.Mesh.Triangles.map (cL (cI .i64))), .sl (Y3.Springs.map GSpring.cells), .f .f32 Y3.Film, .f .f32 Y3.Bend, .sl (Y3.Weights.map (cF .f32)), .f .f32 Y3.Fall.X, .f .f32 Y3.Fall.Y, .f .f32 Y3.Fall.Z] :: .ptr 0 0 0 :: .nils :: .own 1 :: an 10 (.own 1 :: .ptr 0 0 2 :: .sl (Y3.Springs.map GSpring.cells) :: an 25 (.ptr 0 0 0 :: .ptr 0 0 1 :: .sl (Y3.Mesh.Triangles.map (cL (cI .i64))) :: an 20 (.ptr 0 0 0 :: .agg [.sl (Y3.Mesh.Places.map GVector.cells), .sl (Y3.Mesh.Triangles.map (cL (cI .i64)))] :: .own 2 :: an 22 (.ptr 0 0 0 :: .ptr 0 0 0 :: .sl (Y3.Mesh.Places.map GVector.cells) :: .i .i64 (Y3.Mesh.Places.length : Int) :: .i .i64 (Y1 + 1) :: an 22 [])))), [.box 42 [.sl (Y3.Mesh.Places.map GVector.cells), .sl (Y3.Mesh.Triangles.map (cL (cI .i64))), .sl (Y3.Springs.map GSpring.cells), .f .f32 Y3.Film, .f .f32 Y3.Bend, .sl (Y3.Weights.map (cF .f32)), .f .f32 Y3.Fall.X, .f .f32 Y3.Fall.Y, .f .f32 Y3.Fall.Z], .vec 27 1 ((Y8.map (cF .f32)).set 3 [.f .f32 (Z3F Y3 Y1 Y8)]) false, .nest 49 ((Z6 Y3.Mesh).map fun l => l.map (cI .i64)) false]⟩) (sB Yg <| sG GVector.cells Y3.Mesh.Places Y1 YA YE <| sK [14, 14] <| sX (cF .f32) Y8 3 YG YH <| sV (cF .f32) Y8 3 YL <| sG (cF .f32) Y3.Weights Y1 YA YQ <| sF (Z9h Y3.Fall (Y3.Mesh.Places.getD Y1.toNat default)) <| sX (cF .f32) Y8 3 YG YH <| sC (maplt (c := (cF .f32)) (l := Y8) YL) <| sI (Y1 + 1) YW y_7 <| sN) (by kernel_rfl) (show _ = ⟨.agg [.sl (Y3.Mesh.Places.map GVector.cells), .sl (Y3.Mesh.Triangles.map (cL (cI .i64))), .sl (Y3.Springs.map GSpring.cells), .f .f32 Y3.Film, .f .f32 Y3.Bend, .sl (Y3.Weights.map (cF .f32)), .f .f32 Y3.Fall.X, .f .f32 Y3.Fall.Y, .f .f32 Y3.Fall.Z] :: .ptr 0 0 0 :: .nils :: .own 1 :: an 10 (.own 1 :: .ptr 0 0 2 :: .sl (Y3.Springs.map GSpring.cells) :: an 25 (.ptr 0 0 0 :: .ptr 0 0 1 :: .sl (Y3.Mesh.Triangles.map (cL (cI .i64))) :: an 20 (.ptr 0 0 0 :: .agg [.sl (Y3.Mesh.Places.map GVector.cells), .sl (Y3.Mesh.Triangles.map (cL (cI .i64)))] :: .own 2 :: an 22 (.ptr 0 0 0 :: .ptr 0 0 0 :: .sl (Y3.Mesh.Places.map GVector.cells) :: .i .i64 (Y3.Mesh.Places.length : Int) :: .i .i64 (Y1 + 1) :: an 22 [])))), [.box 42 [.sl (Y3.Mesh.Places.map GVector.cells), .sl (Y3.Mesh.Triangles.map (cL (cI .i64))), .sl (Y3.Springs.map GSpring.cells), .f .f32 Y3.Film, .f .f32 Y3.Bend, .sl (Y3.Weights.map (cF .f32)), .f .f32 Y3.Fall.X, .f .f32 Y3.Fall.Y, .f .f32 Y3.Fall.Z], .vec 27 1 ((Y8.set 3 (Z3F Y3 Y1 Y8)).map (cF .f32)) false, .nest 49 ((Z6 Y3.Mesh).map fun l => l.map (cI .i64)) false]⟩ from (by simp [List.map_set, cF])) (ih (Y1 + 1) (Y8.set 3 (Z3F Y3 Y1 Y8)) (show 0 ≤ (Y1 + 1) from (by omega)) (show (Y8.set 3 (Z3F Y3 Y1 Y8)).length = (Z2i Y3).length from (by simp_all <;> omega)) (by omega))
  | false =>
   have Yt := of_decide_eq_false Yg
   have e : Z1A Y3 (k + 1) Y1 Y8 = Y8 := by simp only [Z1A, Yg, cond_false]
   rw [e]
   exact outR (e := (.exit 6)) E0Ok Z4 [] Zcy [0, 1, 2] (sB Yg <| sN) (by kernel_rfl) (by intro h; cases h)
theorem Zcz (Y3 : GBody) : ∀ (k : Nat) (Y1 : Int) (Y8 : (List Nat)) (hk : ((Y3.Mesh.Places.length : Int) - Y1).toNat < k), (Z1A Y3 k Y1 Y8).length = Y8.length := by
  intro k
  induction k with
  | zero => intro Y1 Y8 hk; exact absurd hk (Nat.not_lt_zero _)
  | succ k ih =>
    intro Y1 Y8 hk
    cases Yg : (decide (Y1 < (Y3.Mesh.Places.length : Int))) with
    | true =>
      have e : Z1A Y3 (k + 1) Y1 Y8 = (Z1A Y3 k (Y1 + 1) (Y8.set 3 (Z3F Y3 Y1 Y8))) := by simp only [Z1A, Yg, cond_true]
      rw [e, ih (Y1 + 1) (Y8.set 3 (Z3F Y3 Y1 Y8)) (by simp_all <;> omega)]; simp
    | false =>
      have e : Z1A Y3 (k + 1) Y1 Y8 = Y8 := by simp only [Z1A, Yg, cond_false]
      first | (rw [e]; done) | (rw [e]; rfl)
def Z4v (Y3 : GBody) : (List Nat) := (Z1A Y3 (((Y3.Mesh.Places.length : Int) - 0).toNat + 1) 0 (Z2i Y3))
@[simp] theorem Zad (Y3 : GBody) : (Z4v Y3).length = ((Z2i Y3) : (List Nat)).length := Zcz Y3 (((Y3.Mesh.Places.length : Int) - 0).toNat + 1) 0 (Z2i Y3) (by exact Nat.lt_succ_self _)
def ZS (Y3 : GBody) : (List Nat) := (Z4v Y3)
theorem Zh4 (m : GMesh) (h : List Int) : Zp m h = ZO m h := by kernel_rfl
theorem Zh5 (b : GBody) : Z1y b = Z1q b := by kernel_rfl
theorem Zh6 (b : GBody) : Z1z b = Z1r b := by kernel_rfl
theorem Zh7 (b : GBody) : Z1A b = Z1s b := by kernel_rfl
theorem Zh8 (b : GBody) (h : Z6 b.Mesh = Z0 b.Mesh) : ∀ (k : Nat) (x : Int) (r : List Nat), Z1u b k x r = Z1c b k x r := by
  intro k
  induction k with
  | zero => intro x r; rfl
  | succ k ih =>
    intro x r
    rw [Z1u, Z1c, ih]
    unfold Z3g Z36
    rw [h, Zh4]
    rfl
theorem ZgO (b : GBody) (ok : OkBd b) : ZS b = ZJ b := by
  have h : Z6 b.Mesh = Z0 b.Mesh := by rw [Z60 _ ok.e, Z8a _ ok.e]
  unfold ZS ZJ Z4v Z4k Z2i Z2b Z2h Z2a Z2g Z29
  rw [Zh5, Zh6, Zh7, Zh8 b h, h]
theorem Z9k (b : GBody) : (ZS b).length = 4 := by
  unfold ZS
  rw [Zad, Zac, Zab, Zaa]; simp
theorem Zf7 (Y3 : GBody) (hp0 : Y3.Mesh.Places.length ≤ 1073741824) (hp1 : Y3.Mesh.Triangles.length ≤ 1073741824) (hp2 : ∀ t ∈ Y3.Mesh.Triangles, t.length ≤ 1073741824) (hp3 : Y3.Springs.length ≤ 1073741824) (hp4 : Y3.Weights.length ≤ 1073741824) (hp5 : OkBd Y3)  : Fn prog 129 [.agg [.sl (Y3.Mesh.Places.map GVector.cells), .sl (Y3.Mesh.Triangles.map (cL (cI .i64))), .sl (Y3.Springs.map GSpring.cells), .f .f32 Y3.Film, .f .f32 Y3.Bend, .sl (Y3.Weights.map (cF .f32)), .f .f32 Y3.Fall.X, .f .f32 Y3.Fall.Y, .f .f32 Y3.Fall.Z]] (.own 0) [.vec 27 1 ((ZS Y3).map (cF .f32)) false] := by
 have y0 : (0 : Int) ≤ 4 := (by omega)
 have y1 : (4 : Int) ≤ 2147483648 := (by omega)
 have y2 : OkE Y3.Mesh.Places.length Y3.Mesh.Triangles := (by exact hp5.e)
 refine fnS E0Ok Z4 (c := bodyOf f129) [] (.own 0) [.vec 27 1 ((Z4v Y3).map (cF .f32)) false] func129 (sC (show (4 : Int) = 4 from rfl) <| sC y0 <| sC y1 <| sZ GSpring.cells Y3.Springs <| sL (mR false [0, 4, 10, 5, 98]) 2 (lp_cast (st2 := ⟨.agg [.sl (Y3.Mesh.Places.map GVector.cells), .sl (Y3.Mesh.Triangles.map (cL (cI .i64))), .sl (Y3.Springs.map GSpring.cells), .f .f32 Y3.Film, .f .f32 Y3.Bend, .sl (Y3.Weights.map (cF .f32)), .f .f32 Y3.Fall.X, .f .f32 Y3.Fall.Y, .f .f32 Y3.Fall.Z] :: .ptr 0 0 0 :: .nils :: .own 1 :: an 10 (.own 1 :: .ptr 0 0 2 :: .sl (Y3.Springs.map GSpring.cells) :: .i .i64 (Y3.Springs.length : Int) :: .i .i64 0 :: an 98 []), [.box 42 [.sl (Y3.Mesh.Places.map GVector.cells), .sl (Y3.Mesh.Triangles.map (cL (cI .i64))), .sl (Y3.Springs.map GSpring.cells), .f .f32 Y3.Film, .f .f32 Y3.Bend, .sl (Y3.Weights.map (cF .f32)), .f .f32 Y3.Fall.X, .f .f32 Y3.Fall.Y, .f .f32 Y3.Fall.Z], .vec 27 1 (List.replicate (Int.toNat 4) [.f .f32 0]) false]⟩) (lp_val (Z79 Y3) (x := (Z2g Y3)) (ZdH Y3 hp0 hp1 hp2 hp3 hp4 hp5 (((Y3.Springs.length : Int) - 0).toNat + 1) 0 (List.replicate 4 0) (show 0 ≤ 0 from (by omega)) (show (List.replicate 4 0).length = 4 from (by simp; done)) (Nat.lt_succ_self _)) rfl) (by simp [Z9Y, cF])) <| sZ (cL (cI .i64)) Y3.Mesh.Triangles <| sL (mR false [0, 4, 10, 3, 25, 5, 70]) 2 (lp_val (Z7a Y3) (x := (Z2h Y3)) (ZdJ Y3 hp0 hp1 hp2 hp3 hp4 hp5 (((Y3.Mesh.Triangles.length : Int) - 0).toNat + 1) 0 (Z2g Y3) (show 0 ≤ 0 from (by omega)) (show (Z2g Y3).length = (Z2g Y3).length from (by omega)) (Nat.lt_succ_self _)) rfl) <| sF (ZaV Y3.Mesh hp0 hp1 hp2 y2) <| sM (nlen_ok (l := (Z6 Y3.Mesh)) (f := fun l => l.map (cI .i64))) <| sL Z95 3 (lp_val (Z7b Y3) (x := (Z2i Y3)) (ZdL Y3 hp0 hp1 hp2 hp3 hp4 hp5 ((((Z6 Y3.Mesh).length : Int) - 0).toNat + 1) 0 (Z2h Y3) (show 0 ≤ 0 from (by omega)) (show (Z2h Y3).length = (Z2h Y3).length from (by omega)) (Nat.lt_succ_self _)) rfl) <| sZ GVector.cells Y3.Mesh.Places <| sL Z98 3 (lp_val (Z7c Y3) (x := (Z4v Y3)) (ZdN Y3 hp0 hp1 hp2 hp3 hp4 hp5 (((Y3.Mesh.Places.length : Int) - 0).toNat + 1) 0 (Z2i Y3) (show 0 ≤ 0 from (by omega)) (show (Z2i Y3).length = (Z2i Y3).length from (by omega)) (Nat.lt_succ_self _)) rfl) <| sK [1] sN) rfl (by kernel_rfl) (by kernel_rfl) rfl ?_ ?_
 · rfl
 · simp [ZS]
def Z6T (Y3 : GBody) : Nat := (fop .add .f32 (fop .add .f32 (fop .add .f32 ((ZS Y3).getD 0 default) ((ZS Y3).getD 1 default)) ((ZS Y3).getD 2 default)) ((ZS Y3).getD 3 default))
def Z2R (Y3 : GBody) : Nat := (Z6T Y3)
theorem ZdT (b : GBody) (ok : OkBd b) : Z2R b = Z2G b := by
  unfold Z2R Z2G Z6T Z6s
  rw [ZgO b ok]
theorem ZaW (Y3 : GBody) (hp0 : Y3.Mesh.Places.length ≤ 1073741824) (hp1 : Y3.Mesh.Triangles.length ≤ 1073741824) (hp2 : ∀ t ∈ Y3.Mesh.Triangles, t.length ≤ 1073741824) (hp3 : Y3.Springs.length ≤ 1073741824) (hp4 : Y3.Weights.length ≤ 1073741824) (hp5 : OkBd Y3)  : Fn prog 85 [.agg [.sl (Y3.Mesh.Places.map GVector.cells), .sl (Y3.Mesh.Triangles.map (cL (cI .i64))), .sl (Y3.Springs.map GSpring.cells), .f .f32 Y3.Film, .f .f32 Y3.Bend, .sl (Y3.Weights.map (cF .f32)), .f .f32 Y3.Fall.X, .f .f32 Y3.Fall.Y, .f .f32 Y3.Fall.Z]] (.f .f32 (Z2R Y3)) [] := by
 have y0 : (0 : Int) ≤ 0 := (by omega)
 have y1 : 0 < ((ZS Y3).length : Int) := (by have q := Z9k Y3; omega)
 have y2 : 0 < (ZS Y3).length := (by omega)
 have y3 : (0 : Int) ≤ 1 := (by omega)
 have y4 : 1 < ((ZS Y3).length : Int) := (by have q := Z9k Y3; omega)
 have y5 : 1 < (ZS Y3).length := (by omega)
 have y6 : (0 : Int) ≤ 2 := (by omega)
 have y7 : 2 < ((ZS Y3).length : Int) := (by have q := Z9k Y3; omega)
 have y8 : 2 < (ZS Y3).length := (by omega)
 have y9 : (0 : Int) ≤ 3 := (by omega)
 have y10 : 3 < ((ZS Y3).length : Int) := (by have q := Z9k Y3; omega)
 have y11 : 3 < (ZS Y3).length := (by omega)
 refine fnS E0Ok Z4 (c := bodyOf f85) [] (.f .f32 (Z6T Y3)) [] func85 (sF (Zf7 Y3 hp0 hp1 hp2 hp3 hp4 hp5) <| sK [14, 14] <| sX (cF .f32) (ZS Y3) 0 y0 y1 <| sV (cF .f32) (ZS Y3) 0 y2 <| sX (cF .f32) (ZS Y3) 1 y3 y4 <| sV (cF .f32) (ZS Y3) 1 y5 <| sX (cF .f32) (ZS Y3) 2 y6 y7 <| sV (cF .f32) (ZS Y3) 2 y8 <| sX (cF .f32) (ZS Y3) 3 y9 y10 <| sV (cF .f32) (ZS Y3) 3 y11 <| sK [] sN) rfl (by kernel_rfl) (by kernel_rfl) rfl ?_ ?_
 · rfl
 · rfl
def Z2N (Y4 : GMesh) : Nat → Int → (List (List Int)) → (List (List Int))
  | 0, _, _ => default
  | k + 1, Y1, YS => (cond (decide (Y1 < (Y4.Triangles.length : Int)))
    (Z2N Y4 k (Y1 + 1) (YS ++ [(([] : List Int) ++ (Y4.Triangles.getD Y1.toNat default))]))
    YS)
def Z6U (Y4 : GMesh) (r : (List (List Int))) : Ex × St := ((.exit 0), ⟨.agg [.sl (Y4.Places.map GVector.cells), .sl (Y4.Triangles.map (cL (cI .i64)))] :: .ptr 0 0 0 :: .ptr 1 0 0 :: .ptr 2 0 0 :: .any :: .any :: .any :: .ptr 0 0 0 :: .sl (Y4.Places.map GVector.cells) :: .own 3 :: .agg [.own 3, .nils] :: .ptr 0 0 1 :: .sl (Y4.Triangles.map (cL (cI .i64))) :: an 15 [], [.box 38 [.sl (Y4.Places.map GVector.cells), .sl (Y4.Triangles.map (cL (cI .i64)))], .box 38 [.nils, .nils], .box 38 [.own 3, .own 4], .vec 40 3 (([] : List (List AV)) ++ (Y4.Places.map GVector.cells)) false, .nest 49 (r.map fun l => l.map (cI .i64)) false]⟩)
def Z9B (Y4 : GMesh) (Y1 : Int) (YS : (List (List Int))) : St := ⟨.agg [.sl (Y4.Places.map GVector.cells), .sl (Y4.Triangles.map (cL (cI .i64)))] :: .ptr 0 0 0 :: .ptr 1 0 0 :: .ptr 3 0 0 :: .any :: .any :: .any :: .ptr 0 0 0 :: .sl (Y4.Places.map GVector.cells) :: .own 2 :: .agg [.own 2, .nils] :: .ptr 0 0 1 :: .sl (Y4.Triangles.map (cL (cI .i64))) :: .i .i64 (Y4.Triangles.length : Int) :: .i .i64 Y1 :: an 13 [], [.box 38 [.sl (Y4.Places.map GVector.cells), .sl (Y4.Triangles.map (cL (cI .i64)))], .box 38 [.nils, .nils], .vec 40 3 (([] : List (List AV)) ++ (Y4.Places.map GVector.cells)) false, .box 38 [.own 2, .own 4], .nest 49 (YS.map fun l => l.map (cI .i64)) false]⟩
theorem Zdf (Y4 : GMesh) (hp0 : Y4.Places.length ≤ 1073741824) (hp1 : Y4.Triangles.length ≤ 1073741824) (hp2 : ∀ t ∈ Y4.Triangles, t.length ≤ 1073741824) (hp3 : OkTris Y4.Places.length Y4.Triangles) : ∀ (k : Nat) (Y1 : Int) (YS : (List (List Int))) (Z65 : 0 ≤ Y1) (Z8G : (YS.length : Int) = Y1) (hk : ((Y4.Triangles.length : Int) - Y1).toNat < k), Lp prog 0 (sub (bodyOf f128) [1, 1, 0, 1, 0, 0]) (Z9B Y4 Y1 YS) (Z6U Y4 (Z2N Y4 k Y1 YS)).1 (Z6U Y4 (Z2N Y4 k Y1 YS)).2 := by
 intro k
 induction k with
 | zero => intro Y1 YS Z65 Z8G hk; exact absurd hk (Nat.not_lt_zero _)
 | succ k ih =>
  intro Y1 YS Z65 Z8G hk
  cases Yg : (decide (Y1 < (Y4.Triangles.length : Int))) with
  | true =>
   have Yt := of_decide_eq_true Yg
   have YA : (0 : Int) ≤ Y1 := (by assumption)
   have YE : Y1 < (Y4.Triangles.length : Int) := (by assumption)
   have YG : ([] : List Int).length + (Y4.Triangles.getD Y1.toNat default).length ≤ 1073741824 := (by simp_all <;> omega)
   have YH : YS.length + [(([] : List Int) ++ (Y4.Triangles.getD Y1.toNat default))].length ≤ 1073741824 := (by simp_all <;> omega)
   have YL : (-9223372036854775808 : Int) ≤ (Y1 + 1) := (by omega)
   have YQ : (Y1 + 1) ≤ (9223372036854775807 : Int) := (by omega)
   have e : Z2N Y4 (k + 1) Y1 YS = (Z2N Y4 k (Y1 + 1) (YS ++ [(([] : List Int) ++ (Y4.Triangles.getD Y1.toNat default))])) := by simp only [Z2N, Yg, cond_true]
   rw [e]
   exact nextS E0Ok Z4 [] (mR false [0, 4, 3, 8, 13]) [0, 1, 2, 3, 4] (⟨.agg [.sl (Y4.Places.map GVector.cells), .sl (Y4.Triangles.map (cL (cI .i64)))] :: .ptr 0 0 0 :: .ptr 1 0 0 :: .ptr 3 0 0 :: .any :: .any :: .any :: .ptr 0 0 0 :: .sl (Y4.Places.map GVector.cells) :: .own 2 :: .agg [.own 2, .nils] :: .ptr 0 0 1 :: .sl (Y4.Triangles.map (cL (cI .i64))) :: .i .i64 (Y4.Triangles.length : Int) :: .i .i64 (Y1 + 1) :: an 13 [], [.box 38 [.sl (Y4.Places.map GVector.cells), .sl (Y4.Triangles.map (cL (cI .i64)))], .box 38 [.nils, .nils], .vec 40 3 (([] : List (List AV)) ++ (Y4.Places.map GVector.cells)) false, .box 38 [.own 2, .own 4], .nest 49 ((YS.map fun l => l.map (cI .i64)) ++ [(([] : List (List AV)) ++ ((Y4.Triangles.getD Y1.toNat default).map (cI .i64)))]) false]⟩) (sB Yg <| sG (cL (cI .i64)) Y4.Triangles Y1 YA YE <| sK [6, 6] <| sC (show ((Y4.Triangles.getD Y1.toNat default).map (cI .i64)) ≠ [] from (by have q := (OkTris.at hp3 Z65 (of_decide_eq_true (by assumption))).1; have q2 : (Y4.Triangles.getD Y1.toNat default) ≠ [] := (by intro hq; rw [hq] at q; simp at q); simpa using q2)) <| sC (show ([] : List (List AV)).length + ((Y4.Triangles.getD Y1.toNat default).map (cI .i64)).length ≤ 1073741824 from (by simpa using YG)) <| sC (show ((Y4.Triangles.getD Y1.toNat default).map (cI .i64)).all (fun cs => cs.length == 1 && cs.all isS) = true from (src_ok (fun _ => rfl))) <| sC (show (YS.map fun l => l.map (cI .i64)).length + [(([] : List (List AV)) ++ ((Y4.Triangles.getD Y1.toNat default).map (cI .i64)))].length ≤ 1073741824 from (by simpa using YH)) <| sI (Y1 + 1) YL YQ <| sN) (by kernel_rfl) (show _ = ⟨.agg [.sl (Y4.Places.map GVector.cells), .sl (Y4.Triangles.map (cL (cI .i64)))] :: .ptr 0 0 0 :: .ptr 1 0 0 :: .ptr 3 0 0 :: .any :: .any :: .any :: .ptr 0 0 0 :: .sl (Y4.Places.map GVector.cells) :: .own 2 :: .agg [.own 2, .nils] :: .ptr 0 0 1 :: .sl (Y4.Triangles.map (cL (cI .i64))) :: .i .i64 (Y4.Triangles.length : Int) :: .i .i64 (Y1 + 1) :: an 13 [], [.box 38 [.sl (Y4.Places.map GVector.cells), .sl (Y4.Triangles.map (cL (cI .i64)))], .box 38 [.nils, .nils], .vec 40 3 (([] : List (List AV)) ++ (Y4.Places.map GVector.cells)) false, .box 38 [.own 2, .own 4], .nest 49 ((YS ++ [(([] : List Int) ++ (Y4.Triangles.getD Y1.toNat default))]).map fun l => l.map (cI .i64)) false]⟩ from (by simp [GVector.cells, cL, cI])) (ih (Y1 + 1) (YS ++ [(([] : List Int) ++ (Y4.Triangles.getD Y1.toNat default))]) (show 0 ≤ (Y1 + 1) from (by omega)) (show ((YS ++ [(([] : List Int) ++ (Y4.Triangles.getD Y1.toNat default))]).length : Int) = (Y1 + 1) from (by simp_all <;> omega)) (by omega))
  | false =>
   have Yt := of_decide_eq_false Yg
   have e : Z2N Y4 (k + 1) Y1 YS = YS := by simp only [Z2N, Yg, cond_false]
   rw [e]
   exact outR (e := (.exit 0)) E0Ok Z4 [] (mR false [0, 4, 3, 6, 15]) [0, 1, 3, 2, 4] (sB Yg <| sN) (by kernel_rfl) (by intro h; cases h)
def Z51 (Y4 : GMesh) : (List (List Int)) := (Z2N Y4 (((Y4.Triangles.length : Int) - 0).toNat + 1) 0 ([] : List (List Int)))
def Z5u (Y4 : GMesh) : GMesh := (⟨(([] : List GVector) ++ Y4.Places), (Z51 Y4)⟩ : GMesh)
theorem ZeO (Y4 : GMesh) (hp0 : Y4.Places.length ≤ 1073741824) (hp1 : Y4.Triangles.length ≤ 1073741824) (hp2 : ∀ t ∈ Y4.Triangles, t.length ≤ 1073741824) (hp3 : OkTris Y4.Places.length Y4.Triangles)  : Fn prog 128 [.agg [.sl (Y4.Places.map GVector.cells), .sl (Y4.Triangles.map (cL (cI .i64)))]] (.agg [.own 0, .own 1]) [.vec 40 3 (((Z5u Y4).Places).map GVector.cells) false, .nest 49 (((Z5u Y4).Triangles).map fun l => l.map (cI .i64)) false] := by
 have y0 : ([] : List GVector).length + Y4.Places.length ≤ 1073741824 := (by simp_all <;> omega)
 refine fnS E0Ok Z4 (c := bodyOf f128) [] (.agg [.own 0, .own 1]) [.vec 40 3 (([] : List (List AV)) ++ (Y4.Places.map GVector.cells)) false, .nest 49 ((Z51 Y4).map fun l => l.map (cI .i64)) false] func128 (sC (show ([] : List (List AV)).length + (Y4.Places.map GVector.cells).length ≤ 1073741824 from (by simpa using y0)) <| sC (show (Y4.Places.map GVector.cells).all (fun cs => cs.length == 3 && cs.all isS) = true from (src_ok (fun _ => rfl))) <| sZ (cL (cI .i64)) Y4.Triangles <| sL (mR false [0, 4, 3, 8, 13]) 4 (Lp.nil (st := ⟨.agg [.sl (Y4.Places.map GVector.cells), .sl (Y4.Triangles.map (cL (cI .i64)))] :: .ptr 0 0 0 :: .ptr 1 0 0 :: .ptr 3 0 0 :: .any :: .any :: .any :: .ptr 0 0 0 :: .sl (Y4.Places.map GVector.cells) :: .own 2 :: .agg [.own 2, .nils] :: .ptr 0 0 1 :: .sl (Y4.Triangles.map (cL (cI .i64))) :: .i .i64 (Y4.Triangles.length : Int) :: .i .i64 0 :: an 13 [], [.box 38 [.sl (Y4.Places.map GVector.cells), .sl (Y4.Triangles.map (cL (cI .i64)))], .box 38 [.nils, .nils], .vec 40 3 (([] : List (List AV)) ++ (Y4.Places.map GVector.cells)) false, .box 38 [.own 2, .nils]]⟩) (st2 := ⟨.agg [.sl (Y4.Places.map GVector.cells), .sl (Y4.Triangles.map (cL (cI .i64)))] :: .ptr 0 0 0 :: .ptr 1 0 0 :: .ptr 3 0 0 :: .any :: .any :: .any :: .ptr 0 0 0 :: .sl (Y4.Places.map GVector.cells) :: .own 2 :: .agg [.own 2, .nils] :: .ptr 0 0 1 :: .sl (Y4.Triangles.map (cL (cI .i64))) :: .i .i64 (Y4.Triangles.length : Int) :: .i .i64 0 :: an 13 [], [.box 38 [.sl (Y4.Places.map GVector.cells), .sl (Y4.Triangles.map (cL (cI .i64)))], .box 38 [.nils, .nils], .vec 40 3 (([] : List (List AV)) ++ (Y4.Places.map GVector.cells)) false, .box 38 [.own 2, .own 4], .nest 49 [] false]⟩) (ps := [(.row 3 1, .nest 49 [] false)]) rfl (lp_cast (st2 := ⟨.agg [.sl (Y4.Places.map GVector.cells), .sl (Y4.Triangles.map (cL (cI .i64)))] :: .ptr 0 0 0 :: .ptr 1 0 0 :: .ptr 3 0 0 :: .any :: .any :: .any :: .ptr 0 0 0 :: .sl (Y4.Places.map GVector.cells) :: .own 2 :: .agg [.own 2, .nils] :: .ptr 0 0 1 :: .sl (Y4.Triangles.map (cL (cI .i64))) :: .i .i64 (Y4.Triangles.length : Int) :: .i .i64 0 :: an 13 [], [.box 38 [.sl (Y4.Places.map GVector.cells), .sl (Y4.Triangles.map (cL (cI .i64)))], .box 38 [.nils, .nils], .vec 40 3 (([] : List (List AV)) ++ (Y4.Places.map GVector.cells)) false, .box 38 [.own 2, .own 4], .nest 49 [] false]⟩) (lp_val (Z6U Y4) (x := (Z51 Y4)) (Zdf Y4 hp0 hp1 hp2 hp3 (((Y4.Triangles.length : Int) - 0).toNat + 1) 0 ([] : List (List Int)) (show 0 ≤ 0 from (by omega)) (show (([] : List (List Int)).length : Int) = 0 from (by simp)) (Nat.lt_succ_self _)) rfl) (by simp [Z9B, GVector.cells, cL, cI]))) <| sK [3, 4] sN) rfl (by kernel_rfl) (by kernel_rfl) rfl ?_ ?_
 · rfl
 · simp [Z5u, GVector.cells]
@[simp] theorem Zgk (m : GMesh) : Z5u m = m := by
  unfold Z5u Z51
  rw [app_loop (f := fun i => (m.Triangles.getD i.toNat default)) (n := (m.Triangles.length : Int)) (lo := Z2N m) (fun k i r => rfl) _ _ _ (Nat.lt_succ_self _)]
  simp [getD_range2]
theorem ZeP (Y4 : GMesh) (hp0 : Y4.Places.length ≤ 1073741824) (hp1 : Y4.Triangles.length ≤ 1073741824) (hp2 : ∀ t ∈ Y4.Triangles, t.length ≤ 1073741824) (hp3 : OkTris Y4.Places.length Y4.Triangles) : Fn prog 128 [.agg [.sl (Y4.Places.map GVector.cells), .sl (Y4.Triangles.map (cL (cI .i64)))]] (.agg [.own 0, .own 1]) [.vec 40 3 (Y4.Places.map GVector.cells) false, .nest 49 (Y4.Triangles.map fun l => l.map (cI .i64)) false] := by
 simpa only [Zgk] using ZeO  Y4 hp0 hp1 hp2 hp3
def Z2S (Y3 : GBody) : GBody := (⟨Y3.Mesh, (([] : List GSpring) ++ Y3.Springs), Y3.Film, Y3.Bend, (([] : List Nat) ++ Y3.Weights), Y3.Fall⟩ : GBody)
theorem ZeQ (Y3 : GBody) (hp0 : Y3.Mesh.Places.length ≤ 1073741824) (hp1 : Y3.Mesh.Triangles.length ≤ 1073741824) (hp2 : ∀ t ∈ Y3.Mesh.Triangles, t.length ≤ 1073741824) (hp3 : Y3.Springs.length ≤ 1073741824) (hp4 : Y3.Weights.length ≤ 1073741824) (hp5 : OkTris Y3.Mesh.Places.length Y3.Mesh.Triangles)  : Fn prog 84 [.agg [.sl (Y3.Mesh.Places.map GVector.cells), .sl (Y3.Mesh.Triangles.map (cL (cI .i64))), .sl (Y3.Springs.map GSpring.cells), .f .f32 Y3.Film, .f .f32 Y3.Bend, .sl (Y3.Weights.map (cF .f32)), .f .f32 Y3.Fall.X, .f .f32 Y3.Fall.Y, .f .f32 Y3.Fall.Z]] (.agg [.own 0, .own 1, .own 2, .f .f32 ((Z2S Y3).Film), .f .f32 ((Z2S Y3).Bend), .own 3, .f .f32 ((Z2S Y3).Fall.X), .f .f32 ((Z2S Y3).Fall.Y), .f .f32 ((Z2S Y3).Fall.Z)]) [.vec 40 3 (((Z2S Y3).Mesh.Places).map GVector.cells) false, .nest 49 (((Z2S Y3).Mesh.Triangles).map fun l => l.map (cI .i64)) false, .vec 133 4 (((Z2S Y3).Springs).map GSpring.cells) false, .vec 27 1 (((Z2S Y3).Weights).map (cF .f32)) false] := by
 have y0 : ([] : List GSpring).length + Y3.Springs.length ≤ 1073741824 := (by simp_all <;> omega)
 have y1 : ([] : List Nat).length + Y3.Weights.length ≤ 1073741824 := (by simp_all <;> omega)
 refine fnS E0Ok Z4 (c := bodyOf f84) [] (.agg [.own 0, .own 1, .own 2, .f .f32 Y3.Film, .f .f32 Y3.Bend, .own 3, .f .f32 Y3.Fall.X, .f .f32 Y3.Fall.Y, .f .f32 Y3.Fall.Z]) [.vec 40 3 (Y3.Mesh.Places.map GVector.cells) false, .nest 49 (Y3.Mesh.Triangles.map fun l => l.map (cI .i64)) false, .vec 133 4 (([] : List (List AV)) ++ (Y3.Springs.map GSpring.cells)) false, .vec 27 1 (([] : List (List AV)) ++ (Y3.Weights.map (cF .f32))) false] func84 (sF (ZeP Y3.Mesh hp0 hp1 hp2 hp5) <| sC (show ([] : List (List AV)).length + (Y3.Springs.map GSpring.cells).length ≤ 1073741824 from (by simpa using y0)) <| sC (show (Y3.Springs.map GSpring.cells).all (fun cs => cs.length == 4 && cs.all isS) = true from (src_ok (fun _ => rfl))) <| sC (show ([] : List (List AV)).length + (Y3.Weights.map (cF .f32)).length ≤ 1073741824 from (by simpa using y1)) <| sC (show (Y3.Weights.map (cF .f32)).all (fun cs => cs.length == 1 && cs.all isS) = true from (src_ok (fun _ => rfl))) <| sK [2, 3, 4, 5] sN) rfl (by kernel_rfl) (by kernel_rfl) rfl ?_ ?_
 · rfl
 · simp [Z2S, GSpring.cells, cF]
@[simp] theorem Zgl (b : GBody) : Z2S b = b := by simp [Z2S]
theorem ZaX (Y3 : GBody) (hp0 : Y3.Mesh.Places.length ≤ 1073741824) (hp1 : Y3.Mesh.Triangles.length ≤ 1073741824) (hp2 : ∀ t ∈ Y3.Mesh.Triangles, t.length ≤ 1073741824) (hp3 : Y3.Springs.length ≤ 1073741824) (hp4 : Y3.Weights.length ≤ 1073741824) (hp5 : OkTris Y3.Mesh.Places.length Y3.Mesh.Triangles) : Fn prog 84 [.agg [.sl (Y3.Mesh.Places.map GVector.cells), .sl (Y3.Mesh.Triangles.map (cL (cI .i64))), .sl (Y3.Springs.map GSpring.cells), .f .f32 Y3.Film, .f .f32 Y3.Bend, .sl (Y3.Weights.map (cF .f32)), .f .f32 Y3.Fall.X, .f .f32 Y3.Fall.Y, .f .f32 Y3.Fall.Z]] (.agg [.own 0, .own 1, .own 2, .f .f32 Y3.Film, .f .f32 Y3.Bend, .own 3, .f .f32 Y3.Fall.X, .f .f32 Y3.Fall.Y, .f .f32 Y3.Fall.Z]) [.vec 40 3 (Y3.Mesh.Places.map GVector.cells) false, .nest 49 (Y3.Mesh.Triangles.map fun l => l.map (cI .i64)) false, .vec 133 4 (Y3.Springs.map GSpring.cells) false, .vec 27 1 (Y3.Weights.map (cF .f32)) false] := by
 simpa only [Zgl] using ZeQ  Y3 hp0 hp1 hp2 hp3 hp4 hp5
def Z1O (Y3 : GBody) (Yj : (List GVector)) (Yi : Nat) : Nat → Int → (List GVector) → (List GVector)
  | 0, _, _ => default
  | k + 1, Y1, Yd => (cond (decide (Y1 < (Yj.length : Int)))
    (Z1O Y3 Yj Yi k (Y1 + 1) (Yd.set Y1.toNat (ZV (Yd.getD Y1.toNat default) (Z11 (Yj.getD Y1.toNat default) Yi))))
    Yd)
def Z8H (Y3 : GBody) (Yj : (List GVector)) (Yi : Nat) (r : (List GVector)) : Ex × St := ((.exit 0), ⟨.agg [.sl (Y3.Mesh.Places.map GVector.cells), .sl (Y3.Mesh.Triangles.map (cL (cI .i64))), .sl (Y3.Springs.map GSpring.cells), .f .f32 Y3.Film, .f .f32 Y3.Bend, .sl (Y3.Weights.map (cF .f32)), .f .f32 Y3.Fall.X, .f .f32 Y3.Fall.Y, .f .f32 Y3.Fall.Z] :: .sl (Yj.map GVector.cells) :: .any :: .ptr 0 0 0 :: .any :: .any :: .ptr 1 0 0 :: .ptr 2 0 0 :: .any :: .any :: .agg [.sl (Y3.Mesh.Places.map GVector.cells), .sl (Y3.Mesh.Triangles.map (cL (cI .i64))), .sl (Y3.Springs.map GSpring.cells), .f .f32 Y3.Film, .f .f32 Y3.Bend, .sl (Y3.Weights.map (cF .f32)), .f .f32 Y3.Fall.X, .f .f32 Y3.Fall.Y, .f .f32 Y3.Fall.Z] :: .agg [.own 3, .own 4, .own 5, .f .f32 Y3.Film, .f .f32 Y3.Bend, .own 6, .f .f32 Y3.Fall.X, .f .f32 Y3.Fall.Y, .f .f32 Y3.Fall.Z] :: .sl (Yj.map GVector.cells) :: an 23 [], [.box 42 [.sl (Y3.Mesh.Places.map GVector.cells), .sl (Y3.Mesh.Triangles.map (cL (cI .i64))), .sl (Y3.Springs.map GSpring.cells), .f .f32 Y3.Film, .f .f32 Y3.Bend, .sl (Y3.Weights.map (cF .f32)), .f .f32 Y3.Fall.X, .f .f32 Y3.Fall.Y, .f .f32 Y3.Fall.Z], .box 42 [.nils, .nils, .nils, .f .f32 0, .f .f32 0, .nils, .f .f32 0, .f .f32 0, .f .f32 0], .box 42 [.own 3, .own 4, .own 5, .f .f32 Y3.Film, .f .f32 Y3.Bend, .own 6, .f .f32 Y3.Fall.X, .f .f32 Y3.Fall.Y, .f .f32 Y3.Fall.Z], .vec 40 3 (r.map GVector.cells) false, .nest 49 (Y3.Mesh.Triangles.map fun l => l.map (cI .i64)) false, .vec 133 4 (Y3.Springs.map GSpring.cells) false, .vec 27 1 (Y3.Weights.map (cF .f32)) false]⟩)
def ZeR (Y3 : GBody) (Yj : (List GVector)) (Yi : Nat) (Y1 : Int) (Yd : (List GVector)) : St := ⟨.agg [.sl (Y3.Mesh.Places.map GVector.cells), .sl (Y3.Mesh.Triangles.map (cL (cI .i64))), .sl (Y3.Springs.map GSpring.cells), .f .f32 Y3.Film, .f .f32 Y3.Bend, .sl (Y3.Weights.map (cF .f32)), .f .f32 Y3.Fall.X, .f .f32 Y3.Fall.Y, .f .f32 Y3.Fall.Z] :: .sl (Yj.map GVector.cells) :: .f .f32 Yi :: .ptr 0 0 0 :: .any :: .any :: .ptr 1 0 0 :: .ptr 6 0 0 :: .any :: .any :: .agg [.sl (Y3.Mesh.Places.map GVector.cells), .sl (Y3.Mesh.Triangles.map (cL (cI .i64))), .sl (Y3.Springs.map GSpring.cells), .f .f32 Y3.Film, .f .f32 Y3.Bend, .sl (Y3.Weights.map (cF .f32)), .f .f32 Y3.Fall.X, .f .f32 Y3.Fall.Y, .f .f32 Y3.Fall.Z] :: .agg [.own 2, .own 3, .own 4, .f .f32 Y3.Film, .f .f32 Y3.Bend, .own 5, .f .f32 Y3.Fall.X, .f .f32 Y3.Fall.Y, .f .f32 Y3.Fall.Z] :: .sl (Yj.map GVector.cells) :: .i .i64 (Yj.length : Int) :: .i .i64 Y1 :: an 21 [], [.box 42 [.sl (Y3.Mesh.Places.map GVector.cells), .sl (Y3.Mesh.Triangles.map (cL (cI .i64))), .sl (Y3.Springs.map GSpring.cells), .f .f32 Y3.Film, .f .f32 Y3.Bend, .sl (Y3.Weights.map (cF .f32)), .f .f32 Y3.Fall.X, .f .f32 Y3.Fall.Y, .f .f32 Y3.Fall.Z], .box 42 [.nils, .nils, .nils, .f .f32 0, .f .f32 0, .nils, .f .f32 0, .f .f32 0, .f .f32 0], .vec 40 3 (Yd.map GVector.cells) false, .nest 49 (Y3.Mesh.Triangles.map fun l => l.map (cI .i64)) false, .vec 133 4 (Y3.Springs.map GSpring.cells) false, .vec 27 1 (Y3.Weights.map (cF .f32)) false, .box 42 [.own 2, .own 3, .own 4, .f .f32 Y3.Film, .f .f32 Y3.Bend, .own 5, .f .f32 Y3.Fall.X, .f .f32 Y3.Fall.Y, .f .f32 Y3.Fall.Z]]⟩
end Go.Ab
