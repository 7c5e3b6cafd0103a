/- The functions of this seat as plain Lean, and that the program's are these. Printed by a program of the prover's own. -/
import Derived.Test.YtpndflbllggeiaaGreatB8
set_option linter.unusedVariables false
set_option linter.unusedSimpArgs false
set_option maxRecDepth 100000
namespace Go.Ab
open Go.RowKit Go.Proofs.Tryz
def Z1c (Y0 : Gb) : Nat → Int → (List Gv) → (List Gv)
  | 0, _, _ => default
  | k + 1, Y1, Ya => (cond (decide (Y1 < (Y0.We.length : Int)))
    (Z1c Y0 k (Y1 + 1) (Zy Y1 Y0.Fall (Y0.We.getD Y1.toNat default) Ya))
    Ya)
def Z7n (Y0 : Gb) (r : (List Gv)) : Ex × St := ((.exit 8), ⟨.agg [.sl (Y0.Me.Pq.map Gv.c), .sl (Y0.Me.Tr.map (cL (cI .i64))), .sl (Y0.Sp.map Gs.c), .f .f32 Y0.Film, .f .f32 Y0.Bend, .sl (Y0.We.map (cF .f32)), .f .f32 Y0.Fall.X, .f .f32 Y0.Fall.Y, .f .f32 Y0.Fall.Z] :: .ptr 0 0 0 :: .nils :: .ptr 1 0 0 :: .fn 106 [.ptr 1 0 0] :: an 18 (.ptr 0 0 0 :: .ptr 0 0 0 :: .sl (Y0.Me.Pq.map Gv.c) :: .i .i64 (Y0.Me.Pq.length : Int) :: .own 2 :: .fn 106 [.ptr 1 0 0] :: .ptr 0 0 2 :: .sl (Y0.Sp.map Gs.c) :: an 25 (.ptr 0 0 0 :: .ptr 0 0 0 :: .sl (Y0.Me.Pq.map Gv.c) :: .ptr 0 0 0 :: .ptr 0 0 1 :: .sl (Y0.Me.Tr.map (cL (cI .i64))) :: an 54 (.ptr 0 0 0 :: .agg [.sl (Y0.Me.Pq.map Gv.c), .sl (Y0.Me.Tr.map (cL (cI .i64)))] :: .own 3 :: an 44 (.ptr 0 0 5 :: .sl (Y0.We.map (cF .f32)) :: an 14 [])))), [.box 42 [.sl (Y0.Me.Pq.map Gv.c), .sl (Y0.Me.Tr.map (cL (cI .i64))), .sl (Y0.Sp.map Gs.c), .f .f32 Y0.Film, .f .f32 Y0.Bend, .sl (Y0.We.map (cF .f32)), .f .f32 Y0.Fall.X, .f .f32 Y0.Fall.Y, .f .f32 Y0.Fall.Z], .box 34 [.own 2], .vec 40 3 (r.map Gv.c) false, .nest 49 ((Z6 Y0.Me).map fun l => l.map (cI .i64)) false]⟩)
def ZdR (Y0 : Gb) (Y1 : Int) (Ya : (List Gv)) : St := ⟨.agg [.sl (Y0.Me.Pq.map Gv.c), .sl (Y0.Me.Tr.map (cL (cI .i64))), .sl (Y0.Sp.map Gs.c), .f .f32 Y0.Film, .f .f32 Y0.Bend, .sl (Y0.We.map (cF .f32)), .f .f32 Y0.Fall.X, .f .f32 Y0.Fall.Y, .f .f32 Y0.Fall.Z] :: .ptr 0 0 0 :: .nils :: .ptr 1 0 0 :: .fn 106 [.ptr 1 0 0] :: an 18 (.ptr 0 0 0 :: .ptr 0 0 0 :: .sl (Y0.Me.Pq.map Gv.c) :: .i .i64 (Y0.Me.Pq.length : Int) :: .own 2 :: .fn 106 [.ptr 1 0 0] :: .ptr 0 0 2 :: .sl (Y0.Sp.map Gs.c) :: an 25 (.ptr 0 0 0 :: .ptr 0 0 0 :: .sl (Y0.Me.Pq.map Gv.c) :: .ptr 0 0 0 :: .ptr 0 0 1 :: .sl (Y0.Me.Tr.map (cL (cI .i64))) :: an 54 (.ptr 0 0 0 :: .agg [.sl (Y0.Me.Pq.map Gv.c), .sl (Y0.Me.Tr.map (cL (cI .i64)))] :: .own 3 :: an 44 (.ptr 0 0 5 :: .sl (Y0.We.map (cF .f32)) :: .i .i64 (Y0.We.length : Int) :: .i .i64 Y1 :: an 12 [])))), [.box 42 [.sl (Y0.Me.Pq.map Gv.c), .sl (Y0.Me.Tr.map (cL (cI .i64))), .sl (Y0.Sp.map Gs.c), .f .f32 Y0.Film, .f .f32 Y0.Bend, .sl (Y0.We.map (cF .f32)), .f .f32 Y0.Fall.X, .f .f32 Y0.Fall.Y, .f .f32 Y0.Fall.Z], .box 34 [.own 2], .vec 40 3 (Ya.map Gv.c) false, .nest 49 ((Z6 Y0.Me).map fun l => l.map (cI .i64)) false]⟩
def Z9f : List Bool := (mR false [0, 5, 18, 8, 25, 6, 54, 3, 44, 4, 12])
def ZcO : List Bool := (mR false [0, 5, 18, 8, 25, 6, 54, 3, 44, 2, 14])
theorem ZdS (Y0 : Gb) (hp0 : Y0.Me.Pq.length ≤ 1073741824) (hp1 : Y0.Me.Tr.length ≤ 1073741824) (hp2 : ∀ t ∈ Y0.Me.Tr, t.length ≤ 1073741824) (hp3 : Y0.Sp.length ≤ 1073741824) (hp4 : Y0.We.length ≤ 1073741824) (hp5 : OkBd Y0) : ∀ (k : Nat) (Y1 : Int) (Ya : (List Gv)) (Z6e : 0 ≤ Y1) (Z9g : Ya.length = Y0.Me.Pq.length) (hk : ((Y0.We.length : Int) - Y1).toNat < k), Lp prog 0 (sub (bodyOf f57) [1, 1, 1, 1, 1, 1, 1, 0, 1, 0, 0]) (ZdR Y0 Y1 Ya) (Z7n Y0 (Z1c Y0 k Y1 Ya)).1 (Z7n Y0 (Z1c Y0 k Y1 Ya)).2 := by
 intro k
 induction k with
 | zero => intro Y1 Ya Z6e Z9g hk; exact absurd hk (Nat.not_lt_zero _)
 | succ k ih =>
  intro Y1 Ya Z6e Z9g hk
  cases Yj : (decide (Y1 < (Y0.We.length : Int))) with
  | true =>
   have YM := odt Yj
   have YS : (0 : Int) ≤ Y1 := (by assumption)
   have YT : Y1 < (Y0.We.length : Int) := (by assumption)
   have YY : Ya.length ≤ 1073741824 := (by omega)
   have YZ : Y1 < (Ya.length : Int) := (by have q := hp5.w; omega)
   have y_4 : (-9223372036854775808 : Int) ≤ (Y1 + 1) := (by omega)
   have y_5 : (Y1 + 1) ≤ (9223372036854775807 : Int) := (by omega)
   have e : Z1c Y0 (k + 1) Y1 Ya = (Z1c Y0 k (Y1 + 1) (Zy Y1 Y0.Fall (Y0.We.getD Y1.toNat default) Ya)) := by simp only [Z1c, Yj, cond_true]
   rw [e]
   exact nextR E0Ok Z5 [] Z9f [0, 1, 2, 3] (ih (Y1 + 1) (Zy Y1 Y0.Fall (Y0.We.getD Y1.toNat default) Ya) (show 0 ≤ (Y1 + 1) from (by omega)) (show (Zy Y1 Y0.Fall (Y0.We.getD Y1.toNat default) Ya).length = Y0.Me.Pq.length from (by simp_all <;> omega)) (by omega)) (sB Yj <| sG (cF .f32) Y0.We Y1 YS YT <| sS (CallSt.frame (Z28 Y1 Y0.Fall (Y0.We.getD Y1.toNat default) Ya YY Z6e YZ) [1, 2] (R := [.box 42 [.sl (Y0.Me.Pq.map Gv.c), .sl (Y0.Me.Tr.map (cL (cI .i64))), .sl (Y0.Sp.map Gs.c), .f .f32 Y0.Film, .f .f32 Y0.Bend, .sl (Y0.We.map (cF .f32)), .f .f32 Y0.Fall.X, .f .f32 Y0.Fall.Y, .f .f32 Y0.Fall.Z], .box 34 [.own 2], .vec 40 3 (Ya.map Gv.c) false, .nest 49 ((Z6 Y0.Me).map fun l => l.map (cI .i64)) false]) (args' := [.i .i64 Y1, .agg [.f .f32 Y0.Fall.X, .f .f32 Y0.Fall.Y, .f .f32 Y0.Fall.Z], .f .f32 (Y0.We.getD Y1.toNat default), .ptr 1 0 0]) rfl rfl rfl rfl rfl rfl) <| sI (Y1 + 1) y_4 y_5 <| sN) (by kernel_rfl)
  | false =>
   have YM := odf Yj
   have e : Z1c Y0 (k + 1) Y1 Ya = Ya := by simp only [Z1c, Yj, cond_false]
   rw [e]
   exact outR (e := (.exit 8)) E0Ok Z5 [] ZcO [0, 1, 2, 3] (sB Yj <| sN) (by kernel_rfl) (by intro h; cases h)
theorem ZcP (Y0 : Gb) : ∀ (k : Nat) (Y1 : Int) (Ya : (List Gv)) (hk : ((Y0.We.length : Int) - Y1).toNat < k), (Z1c Y0 k Y1 Ya).length = Ya.length := by
  intro k
  induction k with
  | zero => intro Y1 Ya hk; exact absurd hk (Nat.not_lt_zero _)
  | succ k ih =>
    intro Y1 Ya hk
    cases Yj : (decide (Y1 < (Y0.We.length : Int))) with
    | true =>
      have e : Z1c Y0 (k + 1) Y1 Ya = (Z1c Y0 k (Y1 + 1) (Zy Y1 Y0.Fall (Y0.We.getD Y1.toNat default) Ya)) := by simp only [Z1c, Yj, cond_true]
      rw [e, ih (Y1 + 1) (Zy Y1 Y0.Fall (Y0.We.getD Y1.toNat default) Ya) (by simp_all <;> omega)]; simp
    | false =>
      have e : Z1c Y0 (k + 1) Y1 Ya = Ya := by simp only [Z1c, Yj, cond_false]
      first | (rw [e]; done) | (rw [e]; rfl)
def Z4x (Y0 : Gb) : (List Gv) := (Z1c Y0 (((Y0.We.length : Int) - 0).toNat + 1) 0 (Z3h Y0))
@[simp] theorem Zgt (Y0 : Gb) : (Z4x Y0).length = ((Z3h Y0) : (List Gv)).length := ZcP Y0 (((Y0.We.length : Int) - 0).toNat + 1) 0 (Z3h Y0) (by exact Nat.lt_succ_self _)
def Z3i (Y0 : Gb) : (List Gv) := (Z4x Y0)
@[simp] theorem Zhe (Y0 : Gb) : (Z3i Y0).length = Y0.Me.Pq.length := by
  first | (simp [Z3i]; done)
theorem Zhl (b : Gb) : Z1z b = Z1o b := by kernel_rfl
theorem Zhm (b : Gb) (x : Int) (r : List Gv) (h : fcmp .gtr .f32 (Z2k (Zi b.Me (b.Me.Tr.getD x.toNat default))) 0 = true) : ∀ (k : Nat) (y : Int) (s : List Gv), Z1l b x r k y s = ZU b x r k y s := by
  intro k
  induction k with
  | zero => intro y s; rfl
  | succ k ih =>
    intro y s
    rw [Z1l, ZU, ih]
    unfold Z2n Z5n Z2M Z4D
    rw [h]
    kernel_rfl
theorem Zhn (b : Gb) (x : Int) (r : List Gv) (h : fcmp .gtr .f32 (Z2k (Zi b.Me (b.Me.Tr.getD x.toNat default))) 0 = false) : ∀ (k : Nat) (y : Int) (s : List Gv), Z1m b x r k y s = ZU b x r k y s := by
  intro k
  induction k with
  | zero => intro y s; rfl
  | succ k ih =>
    intro y s
    rw [Z1m, ZU, ih]
    unfold Z2n Z5n Z2M Z4D
    rw [h]
    kernel_rfl
theorem Zho (b : Gb) : ∀ (k : Nat) (x : Int) (r : List Gv), ZA b k x r = Z15 b k x r := by
  intro k
  induction k with
  | zero => intro x r; rfl
  | succ k ih =>
    intro x r
    rw [ZA, Z15]
    rw [show fcmp .gtr .f32 (Zv (Zc b.Me (b.Me.Tr.getD x.toNat default))) 0 = fcmp .gtr .f32 (Z2k (Zi b.Me (b.Me.Tr.getD x.toNat default))) 0 from by kernel_rfl]
    unfold Z2Q Z2R Z2H
    cases h : fcmp .gtr .f32 (Z2k (Zi b.Me (b.Me.Tr.getD x.toNat default))) 0 with
    | true => rw [cond_true, ih, Zhm b x r h]
    | false => rw [cond_false, ih, Zhn b x r h]
theorem Zhp (b : Gb) (h : Z6 b.Me = Z0 b.Me) : ∀ (k : Nat) (x : Int) (r : List Gv), Z1b b k x r = Z16 b k x r := by
  intro k
  induction k with
  | zero => intro x r; rfl
  | succ k ih =>
    intro x r
    rw [Z1b, Z16, ih]
    unfold Z37 Z36 Z35 Z3g
    rw [h]
    kernel_rfl
theorem Zhq (b : Gb) (h : b.We.length = b.Me.Pq.length) : ∀ (k : Nat) (x : Int) (r : List Gv), Z1c b k x r = Z17 b k x r := by
  intro k
  induction k with
  | zero => intro x r; rfl
  | succ k ih =>
    intro x r
    rw [Z1c, Z17, ih, h]
    kernel_rfl
theorem ZgX (b : Gb) (ok : OkBd b) : Z3i b = Z33 b := by
  have h : Z6 b.Me = Z0 b.Me := by rw [Z6b _ ok.e, Z8L _ ok.e]
  unfold Z3i Z33 Z4x Z4j Z3h Z3a Z3f Z39 Z3e Z38
  have e2 : ZA b = Z15 b := by funext k x r; exact Zho b k x r
  have e5 : Z1b b = Z16 b := by funext k x r; exact Zhp b h k x r
  have e6 : Z1c b = Z17 b := by funext k x r; exact Zhq b ok.w k x r
  rw [Zhl, e2, e5, e6, h, ok.w]
theorem Zfs (Y0 : Gb) (hp0 : Y0.Me.Pq.length ≤ 1073741824) (hp1 : Y0.Me.Tr.length ≤ 1073741824) (hp2 : ∀ t ∈ Y0.Me.Tr, t.length ≤ 1073741824) (hp3 : Y0.Sp.length ≤ 1073741824) (hp4 : Y0.We.length ≤ 1073741824) (hp5 : OkBd Y0)  : Fn prog 57 [.agg [.sl (Y0.Me.Pq.map Gv.c), .sl (Y0.Me.Tr.map (cL (cI .i64))), .sl (Y0.Sp.map Gs.c), .f .f32 Y0.Film, .f .f32 Y0.Bend, .sl (Y0.We.map (cF .f32)), .f .f32 Y0.Fall.X, .f .f32 Y0.Fall.Y, .f .f32 Y0.Fall.Z]] (.own 0) [.vec 40 3 ((Z3i Y0).map Gv.c) false] := by
 have y0 : (0 : Int) ≤ (Y0.Me.Pq.length : Int) := (by omega)
 have y1 : ((Y0.Me.Pq.length : Int) : Int) ≤ 2147483648 := (by omega)
 have y2 : OkE Y0.Me.Pq.length Y0.Me.Tr := (by exact hp5.e)
 refine fnS E0Ok Z5 (c := bodyOf f57) [] (.own 0) [.vec 40 3 ((Z4x Y0).map Gv.c) false] func57 (sZ Gv.c Y0.Me.Pq <| sC (show (Y0.Me.Pq.length : Int) = (Y0.Me.Pq.length : Int) from rfl) <| sC y0 <| sC y1 <| sZ Gs.c Y0.Sp <| sL (mR false [0, 5, 18, 10, 146]) 3 (lp_cast (st2 := ⟨.agg [.sl (Y0.Me.Pq.map Gv.c), .sl (Y0.Me.Tr.map (cL (cI .i64))), .sl (Y0.Sp.map Gs.c), .f .f32 Y0.Film, .f .f32 Y0.Bend, .sl (Y0.We.map (cF .f32)), .f .f32 Y0.Fall.X, .f .f32 Y0.Fall.Y, .f .f32 Y0.Fall.Z] :: .ptr 0 0 0 :: .nils :: .ptr 2 0 0 :: .fn 106 [.ptr 2 0 0] :: an 18 (.ptr 0 0 0 :: .ptr 0 0 0 :: .sl (Y0.Me.Pq.map Gv.c) :: .i .i64 (Y0.Me.Pq.length : Int) :: .own 1 :: .fn 106 [.ptr 2 0 0] :: .ptr 0 0 2 :: .sl (Y0.Sp.map Gs.c) :: .i .i64 (Y0.Sp.length : Int) :: .i .i64 0 :: an 146 []), [.box 42 [.sl (Y0.Me.Pq.map Gv.c), .sl (Y0.Me.Tr.map (cL (cI .i64))), .sl (Y0.Sp.map Gs.c), .f .f32 Y0.Film, .f .f32 Y0.Bend, .sl (Y0.We.map (cF .f32)), .f .f32 Y0.Fall.X, .f .f32 Y0.Fall.Y, .f .f32 Y0.Fall.Z], .vec 40 3 (List.replicate (Int.toNat (Y0.Me.Pq.length : Int)) [.f .f32 0, .f .f32 0, .f .f32 0]) false, .box 34 [.own 1]]⟩) (lp_val (Z7i Y0) (x := (Z3e Y0)) (ZdI Y0 hp0 hp1 hp2 hp3 hp4 hp5 (((Y0.Sp.length : Int) - 0).toNat + 1) 0 (List.replicate (Y0.Me.Pq.length : Int).toNat (⟨0, 0, 0⟩ : Gv)) (show 0 ≤ 0 from (by omega)) (show (List.replicate (Y0.Me.Pq.length : Int).toNat (⟨0, 0, 0⟩ : Gv)).length = Y0.Me.Pq.length from (by simp; done)) (Nat.lt_succ_self _)) rfl) (by simp [Zak, Gv.c])) <| sZ (cL (cI .i64)) Y0.Me.Tr <| sL Z6d 3 (lp_val (Z7l Y0) (x := (Z3f Y0)) (ZdO Y0 hp0 hp1 hp2 hp3 hp4 hp5 (((Y0.Me.Tr.length : Int) - 0).toNat + 1) 0 (Z3e Y0) (show 0 ≤ 0 from (by omega)) (show (Z3e Y0).length = Y0.Me.Pq.length from (by simp; done)) (Nat.lt_succ_self _)) rfl) <| sF (ZbJ Y0.Me hp0 hp1 hp2 y2) <| sM (nlen_ok (l := (Z6 Y0.Me)) (f := fun l => l.map (cI .i64))) <| sL Z9c 4 (lp_val (Z7m Y0) (x := (Z3h Y0)) (ZdQ Y0 hp0 hp1 hp2 hp3 hp4 hp5 ((((Z6 Y0.Me).length : Int) - 0).toNat + 1) 0 (Z3f Y0) (show 0 ≤ 0 from (by omega)) (show (Z3f Y0).length = Y0.Me.Pq.length from (by simp; done)) (Nat.lt_succ_self _)) rfl) <| sZ (cF .f32) Y0.We <| sL Z9f 4 (lp_val (Z7n Y0) (x := (Z4x Y0)) (ZdS Y0 hp0 hp1 hp2 hp3 hp4 hp5 (((Y0.We.length : Int) - 0).toNat + 1) 0 (Z3h Y0) (show 0 ≤ 0 from (by omega)) (show (Z3h Y0).length = Y0.Me.Pq.length from (by simp; done)) (Nat.lt_succ_self _)) rfl) <| sK [2] sN) rfl (by kernel_rfl) (by kernel_rfl) rfl ?_ ?_
 · rfl
 · simp [Z3i]
def Z1d (Y2 : Gb) (Y4 : (List Int)) : Nat → Int → (List Gv) → (List Gv)
  | 0, _, _ => default
  | k + 1, Y1, Y8 => (cond (decide (Y1 < (Y4.length : Int)))
    (Z1d Y2 Y4 k (Y1 + 1) (Y8.set ((Y4.getD Y1.toNat default).toNat) (⟨0, 0, 0⟩ : Gv)))
    Y8)
def Z6f (Y2 : Gb) (Y4 : (List Int)) (r : (List Gv)) : Ex × St := ((.exit 0), ⟨.agg [.sl (Y2.Me.Pq.map Gv.c), .sl (Y2.Me.Tr.map (cL (cI .i64))), .sl (Y2.Sp.map Gs.c), .f .f32 Y2.Film, .f .f32 Y2.Bend, .sl (Y2.We.map (cF .f32)), .f .f32 Y2.Fall.X, .f .f32 Y2.Fall.Y, .f .f32 Y2.Fall.Z] :: .sl (Y4.map (cI .i64)) :: .ptr 0 0 0 :: .any :: .nils :: .own 1 :: .any :: .any :: .agg [.sl (Y2.Me.Pq.map Gv.c), .sl (Y2.Me.Tr.map (cL (cI .i64))), .sl (Y2.Sp.map Gs.c), .f .f32 Y2.Film, .f .f32 Y2.Bend, .sl (Y2.We.map (cF .f32)), .f .f32 Y2.Fall.X, .f .f32 Y2.Fall.Y, .f .f32 Y2.Fall.Z] :: .own 1 :: .sl (Y4.map (cI .i64)) :: an 11 [], [.box 42 [.sl (Y2.Me.Pq.map Gv.c), .sl (Y2.Me.Tr.map (cL (cI .i64))), .sl (Y2.Sp.map Gs.c), .f .f32 Y2.Film, .f .f32 Y2.Bend, .sl (Y2.We.map (cF .f32)), .f .f32 Y2.Fall.X, .f .f32 Y2.Fall.Y, .f .f32 Y2.Fall.Z], .vec 40 3 (r.map Gv.c) false]⟩)
def Z9h (Y2 : Gb) (Y4 : (List Int)) (Y1 : Int) (Y8 : (List Gv)) : St := ⟨.agg [.sl (Y2.Me.Pq.map Gv.c), .sl (Y2.Me.Tr.map (cL (cI .i64))), .sl (Y2.Sp.map Gs.c), .f .f32 Y2.Film, .f .f32 Y2.Bend, .sl (Y2.We.map (cF .f32)), .f .f32 Y2.Fall.X, .f .f32 Y2.Fall.Y, .f .f32 Y2.Fall.Z] :: .sl (Y4.map (cI .i64)) :: .ptr 0 0 0 :: .any :: .nils :: .own 1 :: .any :: .any :: .agg [.sl (Y2.Me.Pq.map Gv.c), .sl (Y2.Me.Tr.map (cL (cI .i64))), .sl (Y2.Sp.map Gs.c), .f .f32 Y2.Film, .f .f32 Y2.Bend, .sl (Y2.We.map (cF .f32)), .f .f32 Y2.Fall.X, .f .f32 Y2.Fall.Y, .f .f32 Y2.Fall.Z] :: .own 1 :: .sl (Y4.map (cI .i64)) :: .i .i64 (Y4.length : Int) :: .i .i64 Y1 :: an 9 [], [.box 42 [.sl (Y2.Me.Pq.map Gv.c), .sl (Y2.Me.Tr.map (cL (cI .i64))), .sl (Y2.Sp.map Gs.c), .f .f32 Y2.Film, .f .f32 Y2.Bend, .sl (Y2.We.map (cF .f32)), .f .f32 Y2.Fall.X, .f .f32 Y2.Fall.Y, .f .f32 Y2.Fall.Z], .vec 40 3 (Y8.map Gv.c) false]⟩
theorem ZcQ (Y2 : Gb) (Y4 : (List Int)) (hp0 : Y2.Me.Pq.length ≤ 1073741824) (hp1 : Y2.Me.Tr.length ≤ 1073741824) (hp2 : ∀ t ∈ Y2.Me.Tr, t.length ≤ 1073741824) (hp3 : Y2.Sp.length ≤ 1073741824) (hp4 : Y2.We.length ≤ 1073741824) (hp5 : Y4.length ≤ 1073741824) (hp6 : OkBd Y2) (hp7 : OkIx Y2.Me.Pq.length (fun x => x) Y4) : ∀ (k : Nat) (Y1 : Int) (Y8 : (List Gv)) (Z7P : 0 ≤ Y1) (Z7Q : Y8.length = Y2.Me.Pq.length) (hk : ((Y4.length : Int) - Y1).toNat < k), Lp prog 0 (sub (bodyOf f68) [1, 1, 0, 1, 0, 0]) (Z9h Y2 Y4 Y1 Y8) (Z6f Y2 Y4 (Z1d Y2 Y4 k Y1 Y8)).1 (Z6f Y2 Y4 (Z1d Y2 Y4 k Y1 Y8)).2 := by
 intro k
 induction k with
 | zero => intro Y1 Y8 Z7P Z7Q hk; exact absurd hk (Nat.not_lt_zero _)
 | succ k ih =>
  intro Y1 Y8 Z7P Z7Q hk
  cases Yj : (decide (Y1 < (Y4.length : Int))) with
  | true =>
   have YM := odt Yj
   have YS : (0 : Int) ≤ Y1 := (by assumption)
   have YT : Y1 < (Y4.length : Int) := (by assumption)
   have YY : (0 : Int) ≤ (Y4.getD Y1.toNat default) := (by have q := OkIx.at hp7 (by assumption) YM; omega)
   have YZ : (Y4.getD Y1.toNat default) < (Y8.length : Int) := (by have q := OkIx.at hp7 (by assumption) YM; omega)
   have y_4 : (Y4.getD Y1.toNat default).toNat < Y8.length := (by omega)
   have y_5 : (-9223372036854775808 : Int) ≤ (Y1 + 1) := (by omega)
   have y_6 : (Y1 + 1) ≤ (9223372036854775807 : Int) := (by omega)
   have e : Z1d Y2 Y4 (k + 1) Y1 Y8 = (Z1d Y2 Y4 k (Y1 + 1) (Y8.set ((Y4.getD Y1.toNat default).toNat) (⟨0, 0, 0⟩ : Gv))) := by simp only [Z1d, Yj, cond_true]
   rw [e]
   exact nextS E0Ok Z5 [] (mR false [0, 3, 1, 2, 2, 5, 9]) [0, 1] (⟨.agg [.sl (Y2.Me.Pq.map Gv.c), .sl (Y2.Me.Tr.map (cL (cI .i64))), .sl (Y2.Sp.map Gs.c), .f .f32 Y2.Film, .f .f32 Y2.Bend, .sl (Y2.We.map (cF .f32)), .f .f32 Y2.Fall.X, .f .f32 Y2.Fall.Y, .f .f32 Y2.Fall.Z] :: .sl (Y4.map (cI .i64)) :: .ptr 0 0 0 :: .any :: .nils :: .own 1 :: .any :: .any :: .agg [.sl (Y2.Me.Pq.map Gv.c), .sl (Y2.Me.Tr.map (cL (cI .i64))), .sl (Y2.Sp.map Gs.c), .f .f32 Y2.Film, .f .f32 Y2.Bend, .sl (Y2.We.map (cF .f32)), .f .f32 Y2.Fall.X, .f .f32 Y2.Fall.Y, .f .f32 Y2.Fall.Z] :: .own 1 :: .sl (Y4.map (cI .i64)) :: .i .i64 (Y4.length : Int) :: .i .i64 (Y1 + 1) :: an 9 [], [.box 42 [.sl (Y2.Me.Pq.map Gv.c), .sl (Y2.Me.Tr.map (cL (cI .i64))), .sl (Y2.Sp.map Gs.c), .f .f32 Y2.Film, .f .f32 Y2.Bend, .sl (Y2.We.map (cF .f32)), .f .f32 Y2.Fall.X, .f .f32 Y2.Fall.Y, .f .f32 Y2.Fall.Z], .vec 40 3 ((Y8.map Gv.c).set ((Y4.getD Y1.toNat default).toNat) [.f .f32 0, .f .f32 0, .f .f32 0]) false]⟩) (sB Yj <| sG (cI .i64) Y4 Y1 YS YT <| sX Gv.c Y8 (Y4.getD Y1.toNat default) YY YZ <| sC (maplt (c := Gv.c) (l := Y8) y_4) <| sI (Y1 + 1) y_5 y_6 <| sN) (by kernel_rfl) (by simp [Z9h, List.map_set, Gv.c]) (ih (Y1 + 1) (Y8.set ((Y4.getD Y1.toNat default).toNat) (⟨0, 0, 0⟩ : Gv)) (show 0 ≤ (Y1 + 1) from (by omega)) (show (Y8.set ((Y4.getD Y1.toNat default).toNat) (⟨0, 0, 0⟩ : Gv)).length = Y2.Me.Pq.length from (by have q := OkIx.at hp7 (by assumption) YM; (simp only [List.length_set]; omega))) (by omega))
  | false =>
   have YM := odf Yj
   have e : Z1d Y2 Y4 (k + 1) Y1 Y8 = Y8 := by simp only [Z1d, Yj, cond_false]
   rw [e]
   exact outR (e := (.exit 0)) E0Ok Z5 [] (mR false [0, 3, 1, 2, 2, 3, 11]) [0, 1] (sB Yj <| sN) (by kernel_rfl) (by intro h; cases h)
theorem ZbV (Y2 : Gb) (Y4 : (List Int)) : ∀ (k : Nat) (Y1 : Int) (Y8 : (List Gv)) (hk : ((Y4.length : Int) - Y1).toNat < k), (Z1d Y2 Y4 k Y1 Y8).length = Y8.length := by
  intro k
  induction k with
  | zero => intro Y1 Y8 hk; exact absurd hk (Nat.not_lt_zero _)
  | succ k ih =>
    intro Y1 Y8 hk
    cases Yj : (decide (Y1 < (Y4.length : Int))) with
    | true =>
      have e : Z1d Y2 Y4 (k + 1) Y1 Y8 = (Z1d Y2 Y4 k (Y1 + 1) (Y8.set ((Y4.getD Y1.toNat default).toNat) (⟨0, 0, 0⟩ : Gv))) := by simp only [Z1d, Yj, cond_true]
      rw [e, ih (Y1 + 1) (Y8.set ((Y4.getD Y1.toNat default).toNat) (⟨0, 0, 0⟩ : Gv)) (by simp_all <;> omega)]; simp
    | false =>
      have e : Z1d Y2 Y4 (k + 1) Y1 Y8 = Y8 := by simp only [Z1d, Yj, cond_false]
      first | (rw [e]; done) | (rw [e]; rfl)
def Z4e (Y2 : Gb) (Y4 : (List Int)) : (List Gv) := (Z1d Y2 Y4 (((Y4.length : Int) - 0).toNat + 1) 0 (Z3i Y2))
@[simp] theorem ZfI (Y2 : Gb) (Y4 : (List Int)) : (Z4e Y2 Y4).length = ((Z3i Y2) : (List Gv)).length := ZbV Y2 Y4 (((Y4.length : Int) - 0).toNat + 1) 0 (Z3i Y2) (by exact Nat.lt_succ_self _)
def Zb (Y2 : Gb) (Y4 : (List Int)) : (List Gv) := (Z4e Y2 Y4)
@[simp] theorem Z3G (Y2 : Gb) (Y4 : (List Int)) : (Zb Y2 Y4).length = Y2.Me.Pq.length := by
  first | (simp [Zb]; done)
theorem Zgu (b : Gb) (l : List Int) (ok : OkBd b) : Zb b l = Ze b l := by
  unfold Zb Ze Z4e Z4B
  rw [ZgX b ok, show Z1d b l = Z1D b l from by kernel_rfl]
theorem Zal (b : Gb) (hs : List Int) (h : Z13 b hs = true) : Z1K b = true ∧ Z40 b hs = true := by
  rw [Zg3] at h
  cases h1 : Z1K b <;> rw [h1] at h <;> (try (cases h; done))
  exact ⟨rfl, h⟩
theorem Zem (Y2 : Gb) (Y4 : (List Int)) (hp0 : Y2.Me.Pq.length ≤ 1073741824) (hp1 : Y2.Me.Tr.length ≤ 1073741824) (hp2 : ∀ t ∈ Y2.Me.Tr, t.length ≤ 1073741824) (hp3 : Y2.Sp.length ≤ 1073741824) (hp4 : Y2.We.length ≤ 1073741824) (hp5 : Y4.length ≤ 1073741824) (hp6 : OkBd Y2) (hp7 : OkIx Y2.Me.Pq.length (fun x => x) Y4)  : Fn prog 68 [.agg [.sl (Y2.Me.Pq.map Gv.c), .sl (Y2.Me.Tr.map (cL (cI .i64))), .sl (Y2.Sp.map Gs.c), .f .f32 Y2.Film, .f .f32 Y2.Bend, .sl (Y2.We.map (cF .f32)), .f .f32 Y2.Fall.X, .f .f32 Y2.Fall.Y, .f .f32 Y2.Fall.Z], .sl (Y4.map (cI .i64))] (.own 0) [.vec 40 3 ((Zb Y2 Y4).map Gv.c) false] := by
 refine fnS E0Ok Z5 (c := bodyOf f68) [] (.own 0) [.vec 40 3 ((Z4e Y2 Y4).map Gv.c) false] func68 (sF (Zfs Y2 hp0 hp1 hp2 hp3 hp4 hp6) <| sZ (cI .i64) Y4 <| sL (mR false [0, 3, 1, 2, 2, 5, 9]) 2 (lp_val (Z6f Y2 Y4) (x := (Z4e Y2 Y4)) (ZcQ Y2 Y4 hp0 hp1 hp2 hp3 hp4 hp5 hp6 hp7 (((Y4.length : Int) - 0).toNat + 1) 0 (Z3i Y2) (show 0 ≤ 0 from (by omega)) (show (Z3i Y2).length = Y2.Me.Pq.length from (by simp; done)) (Nat.lt_succ_self _)) rfl) <| sK [1] sN) rfl (by kernel_rfl) (by kernel_rfl) rfl ?_ ?_
 · rfl
 · simp [Zb]
def Z1U (Y2 : Gb) (YB : (List Gv)) (Yz : Nat) : Nat → Int → (List Gv) → (List Gv)
  | 0, _, _ => default
  | k + 1, Y1, Ya => (cond (decide (Y1 < (YB.length : Int)))
    (Z1U Y2 YB Yz k (Y1 + 1) (Ya.set Y1.toNat (Z18 (Ya.getD Y1.toNat default) (Z1a (YB.getD Y1.toNat default) Yz))))
    Ya)
def Z9i (Y2 : Gb) (YB : (List Gv)) (Yz : Nat) (r : (List Gv)) : Ex × St := ((.exit 0), ⟨.agg [.sl (Y2.Me.Pq.map Gv.c), .sl (Y2.Me.Tr.map (cL (cI .i64))), .sl (Y2.Sp.map Gs.c), .f .f32 Y2.Film, .f .f32 Y2.Bend, .sl (Y2.We.map (cF .f32)), .f .f32 Y2.Fall.X, .f .f32 Y2.Fall.Y, .f .f32 Y2.Fall.Z] :: .sl (YB.map Gv.c) :: .any :: .ptr 0 0 0 :: .any :: .any :: .ptr 1 0 0 :: .ptr 2 0 0 :: .any :: .any :: .agg [.sl (Y2.Me.Pq.map Gv.c), .sl (Y2.Me.Tr.map (cL (cI .i64))), .sl (Y2.Sp.map Gs.c), .f .f32 Y2.Film, .f .f32 Y2.Bend, .sl (Y2.We.map (cF .f32)), .f .f32 Y2.Fall.X, .f .f32 Y2.Fall.Y, .f .f32 Y2.Fall.Z] :: .agg [.own 3, .own 4, .own 5, .f .f32 Y2.Film, .f .f32 Y2.Bend, .own 6, .f .f32 Y2.Fall.X, .f .f32 Y2.Fall.Y, .f .f32 Y2.Fall.Z] :: .sl (YB.map Gv.c) :: an 23 [], [.box 42 [.sl (Y2.Me.Pq.map Gv.c), .sl (Y2.Me.Tr.map (cL (cI .i64))), .sl (Y2.Sp.map Gs.c), .f .f32 Y2.Film, .f .f32 Y2.Bend, .sl (Y2.We.map (cF .f32)), .f .f32 Y2.Fall.X, .f .f32 Y2.Fall.Y, .f .f32 Y2.Fall.Z], .box 42 [.nils, .nils, .nils, .f .f32 0, .f .f32 0, .nils, .f .f32 0, .f .f32 0, .f .f32 0], .box 42 [.own 3, .own 4, .own 5, .f .f32 Y2.Film, .f .f32 Y2.Bend, .own 6, .f .f32 Y2.Fall.X, .f .f32 Y2.Fall.Y, .f .f32 Y2.Fall.Z], .vec 40 3 (r.map Gv.c) false, .nest 49 (Y2.Me.Tr.map fun l => l.map (cI .i64)) false, .vec 133 4 (Y2.Sp.map Gs.c) false, .vec 27 1 (Y2.We.map (cF .f32)) false]⟩)
def ZbK (Y2 : Gb) (YB : (List Gv)) (Yz : Nat) (Y1 : Int) (Ya : (List Gv)) : St := ⟨.agg [.sl (Y2.Me.Pq.map Gv.c), .sl (Y2.Me.Tr.map (cL (cI .i64))), .sl (Y2.Sp.map Gs.c), .f .f32 Y2.Film, .f .f32 Y2.Bend, .sl (Y2.We.map (cF .f32)), .f .f32 Y2.Fall.X, .f .f32 Y2.Fall.Y, .f .f32 Y2.Fall.Z] :: .sl (YB.map Gv.c) :: .f .f32 Yz :: .ptr 0 0 0 :: .any :: .any :: .ptr 1 0 0 :: .ptr 6 0 0 :: .any :: .any :: .agg [.sl (Y2.Me.Pq.map Gv.c), .sl (Y2.Me.Tr.map (cL (cI .i64))), .sl (Y2.Sp.map Gs.c), .f .f32 Y2.Film, .f .f32 Y2.Bend, .sl (Y2.We.map (cF .f32)), .f .f32 Y2.Fall.X, .f .f32 Y2.Fall.Y, .f .f32 Y2.Fall.Z] :: .agg [.own 2, .own 3, .own 4, .f .f32 Y2.Film, .f .f32 Y2.Bend, .own 5, .f .f32 Y2.Fall.X, .f .f32 Y2.Fall.Y, .f .f32 Y2.Fall.Z] :: .sl (YB.map Gv.c) :: .i .i64 (YB.length : Int) :: .i .i64 Y1 :: an 21 [], [.box 42 [.sl (Y2.Me.Pq.map Gv.c), .sl (Y2.Me.Tr.map (cL (cI .i64))), .sl (Y2.Sp.map Gs.c), .f .f32 Y2.Film, .f .f32 Y2.Bend, .sl (Y2.We.map (cF .f32)), .f .f32 Y2.Fall.X, .f .f32 Y2.Fall.Y, .f .f32 Y2.Fall.Z], .box 42 [.nils, .nils, .nils, .f .f32 0, .f .f32 0, .nils, .f .f32 0, .f .f32 0, .f .f32 0], .vec 40 3 (Ya.map Gv.c) false, .nest 49 (Y2.Me.Tr.map fun l => l.map (cI .i64)) false, .vec 133 4 (Y2.Sp.map Gs.c) false, .vec 27 1 (Y2.We.map (cF .f32)) false, .box 42 [.own 2, .own 3, .own 4, .f .f32 Y2.Film, .f .f32 Y2.Bend, .own 5, .f .f32 Y2.Fall.X, .f .f32 Y2.Fall.Y, .f .f32 Y2.Fall.Z]]⟩
theorem Zft (Y2 : Gb) (YB : (List Gv)) (Yz : Nat) (hp0 : Y2.Me.Pq.length ≤ 1073741824) (hp1 : Y2.Me.Tr.length ≤ 1073741824) (hp2 : ∀ t ∈ Y2.Me.Tr, t.length ≤ 1073741824) (hp3 : Y2.Sp.length ≤ 1073741824) (hp4 : Y2.We.length ≤ 1073741824) (hp5 : YB.length ≤ 1073741824) (hp6 : OkTris Y2.Me.Pq.length Y2.Me.Tr) (hp7 : YB.length ≤ Y2.Me.Pq.length) : ∀ (k : Nat) (Y1 : Int) (Ya : (List Gv)) (ZaM : 0 ≤ Y1) (ZaN : Ya.length = Y2.Me.Pq.length) (hk : ((YB.length : Int) - Y1).toNat < k), Lp prog 0 (sub (bodyOf f124) [1, 1, 0, 1, 0, 0]) (ZbK Y2 YB Yz Y1 Ya) (Z9i Y2 YB Yz (Z1U Y2 YB Yz k Y1 Ya)).1 (Z9i Y2 YB Yz (Z1U Y2 YB Yz k Y1 Ya)).2 := by
 intro k
 induction k with
 | zero => intro Y1 Ya ZaM ZaN hk; exact absurd hk (Nat.not_lt_zero _)
 | succ k ih =>
  intro Y1 Ya ZaM ZaN hk
  cases Yj : (decide (Y1 < (YB.length : Int))) with
  | true =>
   have YM := odt Yj
   have YS : (0 : Int) ≤ Y1 := (by assumption)
   have YT : Y1 < (YB.length : Int) := (by assumption)
   have YY : Y1 < (Ya.length : Int) := (by omega)
   have YZ : Y1.toNat < Ya.length := (by omega)
   have y_4 : (-9223372036854775808 : Int) ≤ (Y1 + 1) := (by omega)
   have y_5 : (Y1 + 1) ≤ (9223372036854775807 : Int) := (by omega)
   have e : Z1U Y2 YB Yz (k + 1) Y1 Ya = (Z1U Y2 YB Yz k (Y1 + 1) (Ya.set Y1.toNat (Z18 (Ya.getD Y1.toNat default) (Z1a (YB.getD Y1.toNat default) Yz)))) := by simp only [Z1U, Yj, cond_true]
   rw [e]
   exact nextS E0Ok Z5 [] (mR false [0, 4, 2, 2, 2, 5, 21]) [0, 1, 2, 3, 4, 5, 6] (⟨.agg [.sl (Y2.Me.Pq.map Gv.c), .sl (Y2.Me.Tr.map (cL (cI .i64))), .sl (Y2.Sp.map Gs.c), .f .f32 Y2.Film, .f .f32 Y2.Bend, .sl (Y2.We.map (cF .f32)), .f .f32 Y2.Fall.X, .f .f32 Y2.Fall.Y, .f .f32 Y2.Fall.Z] :: .sl (YB.map Gv.c) :: .f .f32 Yz :: .ptr 0 0 0 :: .any :: .any :: .ptr 1 0 0 :: .ptr 6 0 0 :: .any :: .any :: .agg [.sl (Y2.Me.Pq.map Gv.c), .sl (Y2.Me.Tr.map (cL (cI .i64))), .sl (Y2.Sp.map Gs.c), .f .f32 Y2.Film, .f .f32 Y2.Bend, .sl (Y2.We.map (cF .f32)), .f .f32 Y2.Fall.X, .f .f32 Y2.Fall.Y, .f .f32 Y2.Fall.Z] :: .agg [.own 2, .own 3, .own 4, .f .f32 Y2.Film, .f .f32 Y2.Bend, .own 5, .f .f32 Y2.Fall.X, .f .f32 Y2.Fall.Y, .f .f32 Y2.Fall.Z] :: .sl (YB.map Gv.c) :: .i .i64 (YB.length : Int) :: .i .i64 (Y1 + 1) :: an 21 [], [.box 42 [.sl (Y2.Me.Pq.map Gv.c), .sl (Y2.Me.Tr.map (cL (cI .i64))), .sl (Y2.Sp.map Gs.c), .f .f32 Y2.Film, .f .f32 Y2.Bend, .sl (Y2.We.map (cF .f32)), .f .f32 Y2.Fall.X, .f .f32 Y2.Fall.Y, .f .f32 Y2.Fall.Z], .box 42 [.nils, .nils, .nils, .f .f32 0, .f .f32 0, .nils, .f .f32 0, .f .f32 0, .f .f32 0], .vec 40 3 ((Ya.map Gv.c).set Y1.toNat [.f .f32 ((Z18 (Ya.getD Y1.toNat default) (Z1a (YB.getD Y1.toNat default) Yz)).X), .f .f32 ((Z18 (Ya.getD Y1.toNat default) (Z1a (YB.getD Y1.toNat default) Yz)).Y), .f .f32 ((Z18 (Ya.getD Y1.toNat default) (Z1a (YB.getD Y1.toNat default) Yz)).Z)]) false, .nest 49 (Y2.Me.Tr.map fun l => l.map (cI .i64)) false, .vec 133 4 (Y2.Sp.map Gs.c) false, .vec 27 1 (Y2.We.map (cF .f32)) false, .box 42 [.own 2, .own 3, .own 4, .f .f32 Y2.Film, .f .f32 Y2.Bend, .own 5, .f .f32 Y2.Fall.X, .f .f32 Y2.Fall.Y, .f .f32 Y2.Fall.Z]]⟩) (sB Yj <| sG Gv.c YB Y1 YS YT <| sK [14, 14] <| sX Gv.c Ya Y1 YS YY <| sV Gv.c Ya Y1.toNat YZ <| sF (Zaj (YB.getD Y1.toNat default) Yz) <| sF (Z5I (Ya.getD Y1.toNat default) (Z1a (YB.getD Y1.toNat default) Yz)) <| sX Gv.c Ya Y1 YS YY <| sC (maplt (c := Gv.c) (l := Ya) YZ) <| sI (Y1 + 1) y_4 y_5 <| sN) (by kernel_rfl) (by simp [ZbK, List.map_set, Gv.c]) (ih (Y1 + 1) (Ya.set Y1.toNat (Z18 (Ya.getD Y1.toNat default) (Z1a (YB.getD Y1.toNat default) Yz))) (show 0 ≤ (Y1 + 1) from (by omega)) (show (Ya.set Y1.toNat (Z18 (Ya.getD Y1.toNat default) (Z1a (YB.getD Y1.toNat default) Yz))).length = Y2.Me.Pq.length from (by simp_all <;> omega)) (by omega))
  | false =>
   have YM := odf Yj
   have e : Z1U Y2 YB Yz (k + 1) Y1 Ya = Ya := by simp only [Z1U, Yj, cond_false]
   rw [e]
   exact outR (e := (.exit 0)) E0Ok Z5 [] (mR false [0, 2, 1, 1, 2, 2, 2, 3, 23]) [0, 1, 6, 2, 3, 4, 5] (sB Yj <| sN) (by kernel_rfl) (by intro h; cases h)
theorem Zen (Y2 : Gb) (YB : (List Gv)) (Yz : Nat) : ∀ (k : Nat) (Y1 : Int) (Ya : (List Gv)) (hk : ((YB.length : Int) - Y1).toNat < k), (Z1U Y2 YB Yz k Y1 Ya).length = Ya.length := by
  intro k
  induction k with
  | zero => intro Y1 Ya hk; exact absurd hk (Nat.not_lt_zero _)
  | succ k ih =>
    intro Y1 Ya hk
    cases Yj : (decide (Y1 < (YB.length : Int))) with
    | true =>
      have e : Z1U Y2 YB Yz (k + 1) Y1 Ya = (Z1U Y2 YB Yz k (Y1 + 1) (Ya.set Y1.toNat (Z18 (Ya.getD Y1.toNat default) (Z1a (YB.getD Y1.toNat default) Yz)))) := by simp only [Z1U, Yj, cond_true]
      rw [e, ih (Y1 + 1) (Ya.set Y1.toNat (Z18 (Ya.getD Y1.toNat default) (Z1a (YB.getD Y1.toNat default) Yz))) (by simp_all <;> omega)]; simp
    | false =>
      have e : Z1U Y2 YB Yz (k + 1) Y1 Ya = Ya := by simp only [Z1U, Yj, cond_false]
      first | (rw [e]; done) | (rw [e]; rfl)
def Z4Y (Y2 : Gb) (YB : (List Gv)) (Yz : Nat) : (List Gv) := (Z1U Y2 YB Yz (((YB.length : Int) - 0).toNat + 1) 0 Y2.Me.Pq)
@[simp] theorem ZgO (Y2 : Gb) (YB : (List Gv)) (Yz : Nat) : (Z4Y Y2 YB Yz).length = (Y2.Me.Pq : (List Gv)).length := Zen Y2 YB Yz (((YB.length : Int) - 0).toNat + 1) 0 Y2.Me.Pq (by exact Nat.lt_succ_self _)
def Zk (Y2 : Gb) (YB : (List Gv)) (Yz : Nat) : Gb := (⟨(⟨(Z4Y Y2 YB Yz), Y2.Me.Tr⟩ : Gm), Y2.Sp, Y2.Film, Y2.Bend, Y2.We, Y2.Fall⟩ : Gb)
theorem ZfJ (b : Gb) (v : List Gv) (s : Nat) : (Zk b v s).Me.Pq.length ≤ b.Me.Pq.length := by
  unfold Zk
  simp
theorem ZfK (b : Gb) (v : List Gv) (s : Nat) : (Zk b v s).Me.Tr.length ≤ b.Me.Tr.length := by
  unfold Zk
  simp
theorem ZfL (b : Gb) (v : List Gv) (s : Nat) : (Zk b v s).We.length ≤ b.We.length := by
  unfold Zk
  simp
theorem ZfM (b : Gb) (v : List Gv) (s : Nat) : (Zk b v s).Sp.length ≤ b.Sp.length := by
  unfold Zk
  simp
theorem ZgJ (Y2 : Gb) (YB : (List Gv)) (Yz : Nat) (hp0 : Y2.Me.Pq.length ≤ 1073741824) (hp1 : Y2.Me.Tr.length ≤ 1073741824) (hp2 : ∀ t ∈ Y2.Me.Tr, t.length ≤ 1073741824) (hp3 : Y2.Sp.length ≤ 1073741824) (hp4 : Y2.We.length ≤ 1073741824) (hp5 : YB.length ≤ 1073741824) (hp6 : OkTris Y2.Me.Pq.length Y2.Me.Tr) (hp7 : YB.length ≤ Y2.Me.Pq.length)  : Fn prog 124 [.agg [.sl (Y2.Me.Pq.map Gv.c), .sl (Y2.Me.Tr.map (cL (cI .i64))), .sl (Y2.Sp.map Gs.c), .f .f32 Y2.Film, .f .f32 Y2.Bend, .sl (Y2.We.map (cF .f32)), .f .f32 Y2.Fall.X, .f .f32 Y2.Fall.Y, .f .f32 Y2.Fall.Z], .sl (YB.map Gv.c), .f .f32 Yz] (.agg [.own 0, .own 1, .own 2, .f .f32 ((Zk Y2 YB Yz).Film), .f .f32 ((Zk Y2 YB Yz).Bend), .own 3, .f .f32 ((Zk Y2 YB Yz).Fall.X), .f .f32 ((Zk Y2 YB Yz).Fall.Y), .f .f32 ((Zk Y2 YB Yz).Fall.Z)]) [.vec 40 3 (((Zk Y2 YB Yz).Me.Pq).map Gv.c) false, .nest 49 (((Zk Y2 YB Yz).Me.Tr).map fun l => l.map (cI .i64)) false, .vec 133 4 (((Zk Y2 YB Yz).Sp).map Gs.c) false, .vec 27 1 (((Zk Y2 YB Yz).We).map (cF .f32)) false] := by
 refine fnS E0Ok Z5 (c := bodyOf f124) [] (.agg [.own 0, .own 1, .own 2, .f .f32 Y2.Film, .f .f32 Y2.Bend, .own 3, .f .f32 Y2.Fall.X, .f .f32 Y2.Fall.Y, .f .f32 Y2.Fall.Z]) [.vec 40 3 ((Z4Y Y2 YB Yz).map Gv.c) false, .nest 49 (Y2.Me.Tr.map fun l => l.map (cI .i64)) false, .vec 133 4 (Y2.Sp.map Gs.c) false, .vec 27 1 (Y2.We.map (cF .f32)) false] func124 (sF (Z92 Y2 hp0 hp1 hp2 hp3 hp4 hp6) <| sZ Gv.c YB <| sL (mR false [0, 4, 2, 2, 2, 5, 21]) 7 (lp_val (Z9i Y2 YB Yz) (x := (Z4Y Y2 YB Yz)) (Zft Y2 YB Yz hp0 hp1 hp2 hp3 hp4 hp5 hp6 hp7 (((YB.length : Int) - 0).toNat + 1) 0 Y2.Me.Pq (show 0 ≤ 0 from (by omega)) (show Y2.Me.Pq.length = Y2.Me.Pq.length from (by simp)) (Nat.lt_succ_self _)) rfl) <| sK [3, 4, 5, 6] sN) rfl (by kernel_rfl) (by kernel_rfl) rfl ?_ ?_
 · rfl
 · simp [Zk]
theorem ZhV (b : Gb) (v : List Gv) (s : Nat) : ∀ (k : Nat) (i : Int) (r : List Gv), 0 ≤ i → (∀ j, i.toNat ≤ j → r.getD j default = b.Me.Pq.getD j default) → Z1U b v s k i r = Z1k b v s k i r := by
  intro k
  induction k with
  | zero => intros; rfl
  | succ k ih =>
    intro i r h0 hr
    rw [Z1U, Z1k, hr _ (Nat.le_refl _)]
    cases decide (i < (v.length : Int)) with
    | false => rfl
    | true =>
      rw [cond_true, cond_true]
      rw [ih (i + 1) _ (by omega) (fun j hj => by rw [List.getD_eq_getElem?_getD, List.getElem?_set_ne (by omega), ← List.getD_eq_getElem?_getD]; exact hr j (by omega))]
      rfl
theorem ZeU (b : Gb) (v : List Gv) (s : Nat) : Zk b v s = Zg b v s := by
  unfold Zk Zg Z4Y Z42
  rw [ZhV b v s _ _ _ (Int.le_refl 0) (fun _ _ => rfl)]
def Z1p (Y2 : Gb) (YL : (List Gv)) (Y9 : Nat) : Nat → Nat → Int → (Int × Nat × Nat × Nat × Nat × Nat × (List Gv) × (List (List Int)) × (List Gs) × (List Nat)) ⊕ (Unit)
  | 0, _, _ => .inl default
  | k + 1, Yk, YR => (cond (decide (YR ≤ 20))
    (cond (fcmp .lss .f32 (Zx (Zk Y2 YL Yk)) (Zx Y2))
      (.inl (YR, (Zk Y2 YL Yk).Film, (Zk Y2 YL Yk).Bend, (Zk Y2 YL Yk).Fall.X, (Zk Y2 YL Yk).Fall.Y, (Zk Y2 YL Yk).Fall.Z, (Zk Y2 YL Yk).Me.Pq, (Zk Y2 YL Yk).Me.Tr, (Zk Y2 YL Yk).Sp, (Zk Y2 YL Yk).We))
      (Z1p Y2 YL Y9 k (fop .quo .f32 Yk 1073741824) (YR + 1)))
    (.inr ()))
def Z5r (Y2 : Gb) (YL : (List Gv)) (Y9 : Nat) : (Int × Nat × Nat × Nat × Nat × Nat × (List Gv) × (List (List Int)) × (List Gs) × (List Nat)) ⊕ (Unit) → Ex × St
  | .inl r => (.ret, ⟨an 6 (.ptr 0 0 0 :: .i .i64 r.1 :: .b true :: an 23 []), [.box 42 [.own 1, .own 2, .own 3, .f .f32 r.2.1, .f .f32 r.2.2.1, .own 4, .f .f32 r.2.2.2.1, .f .f32 r.2.2.2.2.1, .f .f32 r.2.2.2.2.2.1], .vec 40 3 (r.2.2.2.2.2.2.1.map Gv.c) false, .nest 49 (r.2.2.2.2.2.2.2.1.map fun l => l.map (cI .i64)) false, .vec 133 4 (r.2.2.2.2.2.2.2.2.1.map Gs.c) false, .vec 27 1 (r.2.2.2.2.2.2.2.2.2.map (cF .f32)) false]⟩)
  | .inr r => ((.exit 0), ⟨.agg [.sl (Y2.Me.Pq.map Gv.c), .sl (Y2.Me.Tr.map (cL (cI .i64))), .sl (Y2.Sp.map Gs.c), .f .f32 Y2.Film, .f .f32 Y2.Bend, .sl (Y2.We.map (cF .f32)), .f .f32 Y2.Fall.X, .f .f32 Y2.Fall.Y, .f .f32 Y2.Fall.Z] :: .any :: .any :: .ptr 0 0 0 :: .any :: .any :: .ptr 1 0 0 :: an 5 (.agg [.sl (Y2.Me.Pq.map Gv.c), .sl (Y2.Me.Tr.map (cL (cI .i64))), .sl (Y2.Sp.map Gs.c), .f .f32 Y2.Film, .f .f32 Y2.Bend, .sl (Y2.We.map (cF .f32)), .f .f32 Y2.Fall.X, .f .f32 Y2.Fall.Y, .f .f32 Y2.Fall.Z] :: .f .f32 (Zx Y2) :: an 18 []), [.box 42 [.sl (Y2.Me.Pq.map Gv.c), .sl (Y2.Me.Tr.map (cL (cI .i64))), .sl (Y2.Sp.map Gs.c), .f .f32 Y2.Film, .f .f32 Y2.Bend, .sl (Y2.We.map (cF .f32)), .f .f32 Y2.Fall.X, .f .f32 Y2.Fall.Y, .f .f32 Y2.Fall.Z], .box 42 [.nils, .nils, .nils, .f .f32 0, .f .f32 0, .nils, .f .f32 0, .f .f32 0, .f .f32 0]]⟩)
def Zdk (Y2 : Gb) (YL : (List Gv)) (Y9 : Nat) (Yk : Nat) (YR : Int) : St := ⟨.agg [.sl (Y2.Me.Pq.map Gv.c), .sl (Y2.Me.Tr.map (cL (cI .i64))), .sl (Y2.Sp.map Gs.c), .f .f32 Y2.Film, .f .f32 Y2.Bend, .sl (Y2.We.map (cF .f32)), .f .f32 Y2.Fall.X, .f .f32 Y2.Fall.Y, .f .f32 Y2.Fall.Z] :: .sl (YL.map Gv.c) :: .f .f32 Yk :: .ptr 0 0 0 :: .any :: .any :: .ptr 1 0 0 :: .any :: .any :: .f .f32 (Zx Y2) :: .i .i64 YR :: .any :: .agg [.sl (Y2.Me.Pq.map Gv.c), .sl (Y2.Me.Tr.map (cL (cI .i64))), .sl (Y2.Sp.map Gs.c), .f .f32 Y2.Film, .f .f32 Y2.Bend, .sl (Y2.We.map (cF .f32)), .f .f32 Y2.Fall.X, .f .f32 Y2.Fall.Y, .f .f32 Y2.Fall.Z] :: .f .f32 (Zx Y2) :: an 18 [], [.box 42 [.sl (Y2.Me.Pq.map Gv.c), .sl (Y2.Me.Tr.map (cL (cI .i64))), .sl (Y2.Sp.map Gs.c), .f .f32 Y2.Film, .f .f32 Y2.Bend, .sl (Y2.We.map (cF .f32)), .f .f32 Y2.Fall.X, .f .f32 Y2.Fall.Y, .f .f32 Y2.Fall.Z], .box 42 [.nils, .nils, .nils, .f .f32 0, .f .f32 0, .nils, .f .f32 0, .f .f32 0, .f .f32 0]]⟩
theorem Z9J (Y2 : Gb) (YL : (List Gv)) (Y9 : Nat) (hp0 : Y2.Me.Pq.length ≤ 1073741824) (hp1 : Y2.Me.Tr.length ≤ 1073741824) (hp2 : ∀ t ∈ Y2.Me.Tr, t.length ≤ 1073741824) (hp3 : Y2.Sp.length ≤ 1073741824) (hp4 : Y2.We.length ≤ 1073741824) (hp5 : YL.length ≤ 1073741824) (hp6 : OkBd Y2) (hp7 : YL.length ≤ Y2.Me.Pq.length) : ∀ (k : Nat) (Yk : Nat) (YR : Int) (Z8u : 0 ≤ YR) (hk : (21 + (YL.length : Int) - YR).toNat < k), Lp prog 0 (sub (bodyOf f72) [1, 1, 0, 1, 0, 0]) (Zdk Y2 YL Y9 Yk YR) (Z5r Y2 YL Y9 (Z1p Y2 YL Y9 k Yk YR)).1 (Z5r Y2 YL Y9 (Z1p Y2 YL Y9 k Yk YR)).2 := by
 intro k
 induction k with
 | zero => intro Yk YR Z8u hk; exact absurd hk (Nat.not_lt_zero _)
 | succ k ih =>
  intro Yk YR Z8u hk
  cases Yj : (decide (YR ≤ 20)) with
  | true =>
   have YM := odt Yj
   have YS : OkTris Y2.Me.Pq.length Y2.Me.Tr := (by exact hp6.e.tris)
   have l_1 := (ZfJ Y2 YL Yk)
   have l_2 := (ZfK Y2 YL Yk)
   have l_3 := (ZfL Y2 YL Yk)
   have l_4 := (ZfM Y2 YL Yk)
   have YT : (Zk Y2 YL Yk).Me.Pq.length ≤ 1073741824 := (by omega)
   have YY : (Zk Y2 YL Yk).Me.Tr.length ≤ 1073741824 := (by assumption)
   have YZ : ∀ t ∈ (Zk Y2 YL Yk).Me.Tr, t.length ≤ 1073741824 := (by assumption)
   have y_4 : (Zk Y2 YL Yk).Sp.length ≤ 1073741824 := (by assumption)
   have y_5 : (Zk Y2 YL Yk).We.length ≤ 1073741824 := (by assumption)
   have y_6 : OkBd (Zk Y2 YL Yk) := (by rw [ZeU]; exact ZcD hp6 _ _)
   have p {a C} (s : Scr a C) := sB Yj <| sF (ZgJ Y2 YL Yk hp0 hp1 hp2 hp3 hp4 hp5 YS hp7) <| sF (Fn.castA (args' := [.agg [.sl (((Zk Y2 YL Yk).Me.Pq).map Gv.c), .sl ((((Zk Y2 YL Yk).Me.Tr).map fun l => l.map (cI .i64)).map fun l => [.sl l]), .sl (((Zk Y2 YL Yk).Sp).map Gs.c), .f .f32 ((Zk Y2 YL Yk).Film), .f .f32 ((Zk Y2 YL Yk).Bend), .sl (((Zk Y2 YL Yk).We).map (cF .f32)), .f .f32 ((Zk Y2 YL Yk).Fall.X), .f .f32 ((Zk Y2 YL Yk).Fall.Y), .f .f32 ((Zk Y2 YL Yk).Fall.Z)]]) (Z6U (Zk Y2 YL Yk) YT YY YZ y_4 y_5 y_6) (by simp [cL, Function.comp_def]; done)) <| s
   cases YJ : (fcmp .lss .f32 (Zx (Zk Y2 YL Yk)) (Zx Y2)) with
   | true =>
    have e : Z1p Y2 YL Y9 (k + 1) Yk YR = (.inl (YR, (Zk Y2 YL Yk).Film, (Zk Y2 YL Yk).Bend, (Zk Y2 YL Yk).Fall.X, (Zk Y2 YL Yk).Fall.Y, (Zk Y2 YL Yk).Fall.Z, (Zk Y2 YL Yk).Me.Pq, (Zk Y2 YL Yk).Me.Tr, (Zk Y2 YL Yk).Sp, (Zk Y2 YL Yk).We)) := by simp only [Z1p, Yj, YJ, cond_true]
    rw [e]
    exact outR (e := .ret) E0Ok Z5 [] (mR false [6, 3, 23]) [1, 2, 3, 4, 5] (p (sB YJ <| sN)) (by kernel_rfl) (by intro h; cases h)
   | false =>
    have y_7 : (-9223372036854775808 : Int) ≤ (YR + 1) := by clear p; exact (by omega)
    have y_8 : (YR + 1) ≤ (9223372036854775807 : Int) := by clear p; exact (by omega)
    have e : Z1p Y2 YL Y9 (k + 1) Yk YR = (Z1p Y2 YL Y9 k (fop .quo .f32 Yk 1073741824) (YR + 1)) := by simp only [Z1p, Yj, YJ, cond_true, cond_false]
    rw [e]
    exact nextR E0Ok Z5 [] (mR false [0, 4, 2, 1, 2, 2, 1, 2, 18]) [0, 1] (ih (fop .quo .f32 Yk 1073741824) (YR + 1) (show 0 ≤ (YR + 1) from (by omega)) (by omega)) (p (sB YJ <| sI (YR + 1) y_7 y_8 <| sN)) (by kernel_rfl)
  | false =>
   have YM := odf Yj
   have e : Z1p Y2 YL Y9 (k + 1) Yk YR = (.inr ()) := by simp only [Z1p, Yj, cond_false]
   rw [e]
   exact outR (e := (.exit 0)) E0Ok Z5 [] (mR false [0, 1, 2, 1, 2, 1, 5, 2, 18]) [0, 1] (sB Yj <| sN) (by kernel_rfl) (by intro h; cases h)
def Z3O (Y2 : Gb) (YL : (List Gv)) (Y9 : Nat) : (Int × Nat × Nat × Nat × Nat × Nat × (List Gv) × (List (List Int)) × (List Gs) × (List Nat)) ⊕ (Unit) := (Z1p Y2 YL Y9 ((21 + (YL.length : Int) - 0).toNat + 1) Y9 0)
def Z9 (Y2 : Gb) (YL : (List Gv)) (Y9 : Nat) : Gb × Int × Bool := (match (Z3O Y2 YL Y9) with
  | .inl r1 => ((⟨(⟨r1.2.2.2.2.2.2.1, r1.2.2.2.2.2.2.2.1⟩ : Gm), r1.2.2.2.2.2.2.2.2.1, r1.2.1, r1.2.2.1, r1.2.2.2.2.2.2.2.2.2, (⟨r1.2.2.2.1, r1.2.2.2.2.1, r1.2.2.2.2.2.1⟩ : Gv)⟩ : Gb), r1.1, true)
  | .inr r1 => (Y2, 20, false))
theorem ZgK (b : Gb) (v : List Gv) (s : Nat) (ok : OkBd b) : Z9 b v s = Zd b v s := by
  have h : ∀ (k x : Nat) (n : Int), Z1p b v s k x n = Z1M b v s k x n := by
    intro k
    induction k with
    | zero => intros; rfl
    | succ k ih =>
      intro x n
      rw [Z1p, Z1M, ih, ZeU, Z9Z b ok, Z9Z _ (ZcD ok v x)]
  unfold Z9 Zd Z3O Z4k
  rw [h]
  generalize Z1M b v s _ s 0 = r
  cases r <;> rfl
theorem Zi1 (b : Gb) (v : List Gv) (s : Nat) : ∀ (k x : Nat) (n : Int), (21 + (v.length : Int) - n).toNat < k → ∀ r, Z1p b v s k x n = .inl r → ∃ y, (⟨(⟨r.2.2.2.2.2.2.1, r.2.2.2.2.2.2.2.1⟩ : Gm), r.2.2.2.2.2.2.2.2.1, r.2.1, r.2.2.1, r.2.2.2.2.2.2.2.2.2, (⟨r.2.2.2.1, r.2.2.2.2.1, r.2.2.2.2.2.1⟩ : Gv)⟩ : Gb) = Zg b v y := by
  intro k
  induction k with
  | zero => intro x n hk; exact absurd hk (Nat.not_lt_zero _)
  | succ k ih =>
    intro x n hk r e
    rw [Z1p] at e
    cases h : decide (n ≤ 20) with
    | false => rw [h] at e; cases e
    | true =>
      have hn := odt h
      rw [h, cond_true] at e
      cases h2 : fcmp .lss .f32 (Zx (Zk b v x)) (Zx b) with
      | true => rw [h2, cond_true] at e; cases e; exact ⟨x, ZeU b v x⟩
      | false => rw [h2, cond_false] at e; exact ih _ _ (by omega) r e
theorem Zam (b : Gb) (v : List Gv) (s : Nat) : (Z9 b v s).1 = b ∨ ∃ y, (Z9 b v s).1 = Zg b v y := by
  unfold Z9 Z3O
  cases h : Z1p b v s ((21 + (v.length : Int) - 0).toNat + 1) s 0 with
  | inl r => exact .inr (Zi1 b v s _ s 0 (Nat.lt_succ_self _) r h)
  | inr r => exact .inl rfl
theorem ZdT (b : Gb) (v : List Gv) (s : Nat) : (Z9 b v s).1.Me.Pq.length ≤ b.Me.Pq.length := by
  rcases Zam b v s with h | ⟨y, h⟩ <;> rw [h]
  · exact Nat.le_refl _
  · exact Z7z b v y
theorem ZdU (b : Gb) (v : List Gv) (s : Nat) : (Z9 b v s).1.Me.Tr.length ≤ b.Me.Tr.length := by
  rcases Zam b v s with h | ⟨y, h⟩ <;> rw [h]
  · exact Nat.le_refl _
  · exact Z7A b v y
theorem ZdV (b : Gb) (v : List Gv) (s : Nat) : (Z9 b v s).1.We.length ≤ b.We.length := by
  rcases Zam b v s with h | ⟨y, h⟩ <;> rw [h]
  · exact Nat.le_refl _
  · exact Z7B b v y
theorem ZdW (b : Gb) (v : List Gv) (s : Nat) : (Z9 b v s).1.Sp.length ≤ b.Sp.length := by
  rcases Zam b v s with h | ⟨y, h⟩ <;> rw [h]
  · exact Nat.le_refl _
  · exact Z7C b v y
theorem ZeV (Y2 : Gb) (YL : (List Gv)) (Y9 : Nat) (hp0 : Y2.Me.Pq.length ≤ 1073741824) (hp1 : Y2.Me.Tr.length ≤ 1073741824) (hp2 : ∀ t ∈ Y2.Me.Tr, t.length ≤ 1073741824) (hp3 : Y2.Sp.length ≤ 1073741824) (hp4 : Y2.We.length ≤ 1073741824) (hp5 : YL.length ≤ 1073741824) (hp6 : OkBd Y2) (hp7 : YL.length ≤ Y2.Me.Pq.length)  : Fn prog 72 [.agg [.sl (Y2.Me.Pq.map Gv.c), .sl (Y2.Me.Tr.map (cL (cI .i64))), .sl (Y2.Sp.map Gs.c), .f .f32 Y2.Film, .f .f32 Y2.Bend, .sl (Y2.We.map (cF .f32)), .f .f32 Y2.Fall.X, .f .f32 Y2.Fall.Y, .f .f32 Y2.Fall.Z], .sl (YL.map Gv.c), .f .f32 Y9] (.tup [.agg [.own 0, .own 1, .own 2, .f .f32 ((Z9 Y2 YL Y9).1.Film), .f .f32 ((Z9 Y2 YL Y9).1.Bend), .own 3, .f .f32 ((Z9 Y2 YL Y9).1.Fall.X), .f .f32 ((Z9 Y2 YL Y9).1.Fall.Y), .f .f32 ((Z9 Y2 YL Y9).1.Fall.Z)], .i .i64 ((Z9 Y2 YL Y9).2.1), .b ((Z9 Y2 YL Y9).2.2)]) [.vec 40 3 (((Z9 Y2 YL Y9).1.Me.Pq).map Gv.c) false, .nest 49 (((Z9 Y2 YL Y9).1.Me.Tr).map fun l => l.map (cI .i64)) false, .vec 133 4 (((Z9 Y2 YL Y9).1.Sp).map Gs.c) false, .vec 27 1 (((Z9 Y2 YL Y9).1.We).map (cF .f32)) false] := by
 have p {a C} (s : Scr a C) := sF (Z6U Y2 hp0 hp1 hp2 hp3 hp4 hp6) <| s
 cases h0 : (Z3O Y2 YL Y9) with
 | inl r1 =>
  have hv : Z9 Y2 YL Y9 = ((⟨(⟨r1.2.2.2.2.2.2.1, r1.2.2.2.2.2.2.2.1⟩ : Gm), r1.2.2.2.2.2.2.2.2.1, r1.2.1, r1.2.2.1, r1.2.2.2.2.2.2.2.2.2, (⟨r1.2.2.2.1, r1.2.2.2.2.1, r1.2.2.2.2.2.1⟩ : Gv)⟩ : Gb), r1.1, true) := by unfold Z9; rw [h0]
  refine fnS E0Ok Z5 (c := bodyOf f72) [] (.tup [.agg [.own 0, .own 1, .own 2, .f .f32 r1.2.1, .f .f32 r1.2.2.1, .own 3, .f .f32 r1.2.2.2.1, .f .f32 r1.2.2.2.2.1, .f .f32 r1.2.2.2.2.2.1], .i .i64 r1.1, .b true]) [.vec 40 3 (r1.2.2.2.2.2.2.1.map Gv.c) false, .nest 49 (r1.2.2.2.2.2.2.2.1.map fun l => l.map (cI .i64)) false, .vec 133 4 (r1.2.2.2.2.2.2.2.2.1.map Gs.c) false, .vec 27 1 (r1.2.2.2.2.2.2.2.2.2.map (cF .f32)) false] func72 (p (sL (mR false [0, 4, 2, 1, 2, 2, 1, 2, 18]) 2 (lp_val (Z5r Y2 YL Y9) (x := (Z3O Y2 YL Y9)) (Z9J Y2 YL Y9 hp0 hp1 hp2 hp3 hp4 hp5 hp6 hp7 ((21 + (YL.length : Int) - 0).toNat + 1) Y9 0 (show 0 ≤ 0 from (by omega)) (Nat.lt_succ_self _)) h0) <| sK [1, 2, 3, 4] sN)) rfl (by kernel_rfl) (by kernel_rfl) rfl ?_ ?_
  · rw [hv]
  · rw [hv]
 | inr r1 =>
  have y0 : OkTris Y2.Me.Pq.length Y2.Me.Tr := by clear p; exact (by exact hp6.e.tris)
  have hv : Z9 Y2 YL Y9 = (Y2, 20, false) := by unfold Z9; rw [h0]
  refine fnS E0Ok Z5 (c := bodyOf f72) [] (.tup [.agg [.own 0, .own 1, .own 2, .f .f32 Y2.Film, .f .f32 Y2.Bend, .own 3, .f .f32 Y2.Fall.X, .f .f32 Y2.Fall.Y, .f .f32 Y2.Fall.Z], .i .i64 20, .b false]) [.vec 40 3 (Y2.Me.Pq.map Gv.c) false, .nest 49 (Y2.Me.Tr.map fun l => l.map (cI .i64)) false, .vec 133 4 (Y2.Sp.map Gs.c) false, .vec 27 1 (Y2.We.map (cF .f32)) false] func72 (p (sL (mR false [0, 4, 2, 1, 2, 2, 1, 2, 18]) 2 (lp_val (Z5r Y2 YL Y9) (x := (Z3O Y2 YL Y9)) (Z9J Y2 YL Y9 hp0 hp1 hp2 hp3 hp4 hp5 hp6 hp7 ((21 + (YL.length : Int) - 0).toNat + 1) Y9 0 (show 0 ≤ 0 from (by omega)) (Nat.lt_succ_self _)) h0) <| sF (Z92 Y2 hp0 hp1 hp2 hp3 hp4 y0) <| sK [2, 3, 4, 5] sN)) rfl (by kernel_rfl) (by kernel_rfl) rfl ?_ ?_
  · rw [hv]
  · rw [hv]
theorem ZdX {b B : Gb} (h : Like b B) (v : List Gv) (s : Nat) : Like b (Z9 B v s).1 := by
  rcases Zam B v s with e | ⟨y, e⟩ <;> rw [e]
  · exact h
  · exact Zfi h v y
def Z2l (Y2 : Gb) (Y4 : (List Int)) (Y9 : Nat) (Yc : Int) : Nat → Int → (List Gv) → (List (List Int)) → (List Gs) → (List Nat) → (List Nat) → Nat → Nat → Nat → Nat → Nat → Nat × Nat × Nat × Nat × Nat × (List Nat) × (List Gv) × (List (List Int)) × (List Gs) × (List Nat)
  | 0, _, _, _, _, _, _, _, _, _, _, _ => default
  | k + 1, Y1, Ya, Ys, Yt, Yu, Y16, Yv, Yw, Yx, Yy, Yh => (cond (decide (Y1 < Yc))
    (cond (Z9 (⟨(⟨Ya, Ys⟩ : Gm), Yt, Yv, Yw, Yu, (⟨Yx, Yy, Yh⟩ : Gv)⟩ : Gb) (Zb (⟨(⟨Ya, Ys⟩ : Gm), Yt, Yv, Yw, Yu, (⟨Yx, Yy, Yh⟩ : Gv)⟩ : Gb) Y4) Y9).2.2
      (Z2l Y2 Y4 Y9 Yc k (Y1 + 1) ((Z9 (⟨(⟨Ya, Ys⟩ : Gm), Yt, Yv, Yw, Yu, (⟨Yx, Yy, Yh⟩ : Gv)⟩ : Gb) (Zb (⟨(⟨Ya, Ys⟩ : Gm), Yt, Yv, Yw, Yu, (⟨Yx, Yy, Yh⟩ : Gv)⟩ : Gb) Y4) Y9).1.Me.Pq) ((Z9 (⟨(⟨Ya, Ys⟩ : Gm), Yt, Yv, Yw, Yu, (⟨Yx, Yy, Yh⟩ : Gv)⟩ : Gb) (Zb (⟨(⟨Ya, Ys⟩ : Gm), Yt, Yv, Yw, Yu, (⟨Yx, Yy, Yh⟩ : Gv)⟩ : Gb) Y4) Y9).1.Me.Tr) ((Z9 (⟨(⟨Ya, Ys⟩ : Gm), Yt, Yv, Yw, Yu, (⟨Yx, Yy, Yh⟩ : Gv)⟩ : Gb) (Zb (⟨(⟨Ya, Ys⟩ : Gm), Yt, Yv, Yw, Yu, (⟨Yx, Yy, Yh⟩ : Gv)⟩ : Gb) Y4) Y9).1.Sp) ((Z9 (⟨(⟨Ya, Ys⟩ : Gm), Yt, Yv, Yw, Yu, (⟨Yx, Yy, Yh⟩ : Gv)⟩ : Gb) (Zb (⟨(⟨Ya, Ys⟩ : Gm), Yt, Yv, Yw, Yu, (⟨Yx, Yy, Yh⟩ : Gv)⟩ : Gb) Y4) Y9).1.We) (Y16 ++ [(Zx ((Z9 (⟨(⟨Ya, Ys⟩ : Gm), Yt, Yv, Yw, Yu, (⟨Yx, Yy, Yh⟩ : Gv)⟩ : Gb) (Zb (⟨(⟨Ya, Ys⟩ : Gm), Yt, Yv, Yw, Yu, (⟨Yx, Yy, Yh⟩ : Gv)⟩ : Gb) Y4) Y9).1))]) ((Z9 (⟨(⟨Ya, Ys⟩ : Gm), Yt, Yv, Yw, Yu, (⟨Yx, Yy, Yh⟩ : Gv)⟩ : Gb) (Zb (⟨(⟨Ya, Ys⟩ : Gm), Yt, Yv, Yw, Yu, (⟨Yx, Yy, Yh⟩ : Gv)⟩ : Gb) Y4) Y9).1.Film) ((Z9 (⟨(⟨Ya, Ys⟩ : Gm), Yt, Yv, Yw, Yu, (⟨Yx, Yy, Yh⟩ : Gv)⟩ : Gb) (Zb (⟨(⟨Ya, Ys⟩ : Gm), Yt, Yv, Yw, Yu, (⟨Yx, Yy, Yh⟩ : Gv)⟩ : Gb) Y4) Y9).1.Bend) ((Z9 (⟨(⟨Ya, Ys⟩ : Gm), Yt, Yv, Yw, Yu, (⟨Yx, Yy, Yh⟩ : Gv)⟩ : Gb) (Zb (⟨(⟨Ya, Ys⟩ : Gm), Yt, Yv, Yw, Yu, (⟨Yx, Yy, Yh⟩ : Gv)⟩ : Gb) Y4) Y9).1.Fall.X) ((Z9 (⟨(⟨Ya, Ys⟩ : Gm), Yt, Yv, Yw, Yu, (⟨Yx, Yy, Yh⟩ : Gv)⟩ : Gb) (Zb (⟨(⟨Ya, Ys⟩ : Gm), Yt, Yv, Yw, Yu, (⟨Yx, Yy, Yh⟩ : Gv)⟩ : Gb) Y4) Y9).1.Fall.Y) ((Z9 (⟨(⟨Ya, Ys⟩ : Gm), Yt, Yv, Yw, Yu, (⟨Yx, Yy, Yh⟩ : Gv)⟩ : Gb) (Zb (⟨(⟨Ya, Ys⟩ : Gm), Yt, Yv, Yw, Yu, (⟨Yx, Yy, Yh⟩ : Gv)⟩ : Gb) Y4) Y9).1.Fall.Z))
      (Yv, Yw, Yx, Yy, Yh, Y16, Ya, Ys, Yt, Yu))
    (Yv, Yw, Yx, Yy, Yh, Y16, Ya, Ys, Yt, Yu))
def Z7K (Y2 : Gb) (Y4 : (List Int)) (Y9 : Nat) (Yc : Int) (r : Nat × Nat × Nat × Nat × Nat × (List Nat) × (List Gv) × (List (List Int)) × (List Gs) × (List Nat)) : Ex × St := ((.exit 0), ⟨.agg [.sl (Y2.Me.Pq.map Gv.c), .sl (Y2.Me.Tr.map (cL (cI .i64))), .sl (Y2.Sp.map Gs.c), .f .f32 Y2.Film, .f .f32 Y2.Bend, .sl (Y2.We.map (cF .f32)), .f .f32 Y2.Fall.X, .f .f32 Y2.Fall.Y, .f .f32 Y2.Fall.Z] :: .sl (Y4.map (cI .i64)) :: .f .f32 Y9 :: .i .i64 Yc :: .ptr 0 0 0 :: .any :: .any :: .any :: .ptr 1 0 0 :: .nils :: .b false :: .ptr 2 0 0 :: .own 3 :: .any :: .any :: .any :: .agg [.sl (Y2.Me.Pq.map Gv.c), .sl (Y2.Me.Tr.map (cL (cI .i64))), .sl (Y2.Sp.map Gs.c), .f .f32 Y2.Film, .f .f32 Y2.Bend, .sl (Y2.We.map (cF .f32)), .f .f32 Y2.Fall.X, .f .f32 Y2.Fall.Y, .f .f32 Y2.Fall.Z] :: .sl (Y4.map (cI .i64)) :: .b (Z13 Y2 Y4) :: .b (!(Z13 Y2 Y4)) :: .b (!(Z13 Y2 Y4)) :: .f .f32 Y9 :: .b (ZS Y9) :: .b (!(ZS Y9)) :: .b (!(ZS Y9)) :: .b (!(ZS Y9)) :: .i .i64 Yc :: .b (Zo Yc 0 40) :: .b (!(Zo Yc 0 40)) :: .b (!(Zo Yc 0 40)) :: .any :: .agg [.sl (Y2.Me.Pq.map Gv.c), .sl (Y2.Me.Tr.map (cL (cI .i64))), .sl (Y2.Sp.map Gs.c), .f .f32 Y2.Film, .f .f32 Y2.Bend, .sl (Y2.We.map (cF .f32)), .f .f32 Y2.Fall.X, .f .f32 Y2.Fall.Y, .f .f32 Y2.Fall.Z] :: .any :: .agg [.sl (Y2.Me.Pq.map Gv.c), .sl (Y2.Me.Tr.map (cL (cI .i64))), .sl (Y2.Sp.map Gs.c), .f .f32 Y2.Film, .f .f32 Y2.Bend, .sl (Y2.We.map (cF .f32)), .f .f32 Y2.Fall.X, .f .f32 Y2.Fall.Y, .f .f32 Y2.Fall.Z] :: .f .f32 (Zx Y2) :: an 25 [], [.box 42 [.sl (Y2.Me.Pq.map Gv.c), .sl (Y2.Me.Tr.map (cL (cI .i64))), .sl (Y2.Sp.map Gs.c), .f .f32 Y2.Film, .f .f32 Y2.Bend, .sl (Y2.We.map (cF .f32)), .f .f32 Y2.Fall.X, .f .f32 Y2.Fall.Y, .f .f32 Y2.Fall.Z], .box 42 [.nils, .nils, .nils, .f .f32 0, .f .f32 0, .nils, .f .f32 0, .f .f32 0, .f .f32 0], .box 42 [.own 4, .own 5, .own 6, .f .f32 r.1, .f .f32 r.2.1, .own 7, .f .f32 r.2.2.1, .f .f32 r.2.2.2.1, .f .f32 r.2.2.2.2.1], .vec 27 1 (r.2.2.2.2.2.1.map (cF .f32)) false, .vec 40 3 (r.2.2.2.2.2.2.1.map Gv.c) false, .nest 49 (r.2.2.2.2.2.2.2.1.map fun l => l.map (cI .i64)) false, .vec 133 4 (r.2.2.2.2.2.2.2.2.1.map Gs.c) false, .vec 27 1 (r.2.2.2.2.2.2.2.2.2.map (cF .f32)) false]⟩)
def Z7L (Y2 : Gb) (Y4 : (List Int)) (Y9 : Nat) (Yc : Int) (Y1 : Int) (Ya : (List Gv)) (Ys : (List (List Int))) (Yt : (List Gs)) (Yu : (List Nat)) (Y16 : (List Nat)) (Yv : Nat) (Yw : Nat) (Yx : Nat) (Yy : Nat) (Yh : Nat) : St := ⟨.agg [.sl (Y2.Me.Pq.map Gv.c), .sl (Y2.Me.Tr.map (cL (cI .i64))), .sl (Y2.Sp.map Gs.c), .f .f32 Y2.Film, .f .f32 Y2.Bend, .sl (Y2.We.map (cF .f32)), .f .f32 Y2.Fall.X, .f .f32 Y2.Fall.Y, .f .f32 Y2.Fall.Z] :: .sl (Y4.map (cI .i64)) :: .f .f32 Y9 :: .i .i64 Yc :: .ptr 0 0 0 :: .any :: .any :: .any :: .ptr 1 0 0 :: .nils :: .b false :: .ptr 7 0 0 :: .own 6 :: .any :: .any :: .any :: .agg [.sl (Y2.Me.Pq.map Gv.c), .sl (Y2.Me.Tr.map (cL (cI .i64))), .sl (Y2.Sp.map Gs.c), .f .f32 Y2.Film, .f .f32 Y2.Bend, .sl (Y2.We.map (cF .f32)), .f .f32 Y2.Fall.X, .f .f32 Y2.Fall.Y, .f .f32 Y2.Fall.Z] :: .sl (Y4.map (cI .i64)) :: .b (Z13 Y2 Y4) :: .b (!(Z13 Y2 Y4)) :: .b (!(Z13 Y2 Y4)) :: .f .f32 Y9 :: .b (ZS Y9) :: .b (!(ZS Y9)) :: .b (!(ZS Y9)) :: .b (!(ZS Y9)) :: .i .i64 Yc :: .b (Zo Yc 0 40) :: .b (!(Zo Yc 0 40)) :: .b (!(Zo Yc 0 40)) :: .any :: .agg [.sl (Y2.Me.Pq.map Gv.c), .sl (Y2.Me.Tr.map (cL (cI .i64))), .sl (Y2.Sp.map Gs.c), .f .f32 Y2.Film, .f .f32 Y2.Bend, .sl (Y2.We.map (cF .f32)), .f .f32 Y2.Fall.X, .f .f32 Y2.Fall.Y, .f .f32 Y2.Fall.Z] :: .any :: .agg [.sl (Y2.Me.Pq.map Gv.c), .sl (Y2.Me.Tr.map (cL (cI .i64))), .sl (Y2.Sp.map Gs.c), .f .f32 Y2.Film, .f .f32 Y2.Bend, .sl (Y2.We.map (cF .f32)), .f .f32 Y2.Fall.X, .f .f32 Y2.Fall.Y, .f .f32 Y2.Fall.Z] :: .f .f32 (Zx Y2) :: .any :: .i .i64 Yc :: .i .i64 Y1 :: an 22 [], [.box 42 [.sl (Y2.Me.Pq.map Gv.c), .sl (Y2.Me.Tr.map (cL (cI .i64))), .sl (Y2.Sp.map Gs.c), .f .f32 Y2.Film, .f .f32 Y2.Bend, .sl (Y2.We.map (cF .f32)), .f .f32 Y2.Fall.X, .f .f32 Y2.Fall.Y, .f .f32 Y2.Fall.Z], .box 42 [.nils, .nils, .nils, .f .f32 0, .f .f32 0, .nils, .f .f32 0, .f .f32 0, .f .f32 0], .vec 40 3 (Ya.map Gv.c) false, .nest 49 (Ys.map fun l => l.map (cI .i64)) false, .vec 133 4 (Yt.map Gs.c) false, .vec 27 1 (Yu.map (cF .f32)) false, .vec 27 1 (Y16.map (cF .f32)) false, .box 42 [.own 2, .own 3, .own 4, .f .f32 Yv, .f .f32 Yw, .own 5, .f .f32 Yx, .f .f32 Yy, .f .f32 Yh]]⟩
def Z9K : List Bool := (mR false [0, 5, 3, 5, 3, 14, 1, 1, 1, 2, 1, 2, 22])
def Z9L : List Bool := (mR false [0, 5, 3, 5, 3, 14, 1, 1, 1, 2, 25])
set_option maxHeartbeats 1000000 in
theorem Zeo (Y2 : Gb) (Y4 : (List Int)) (Y9 : Nat) (Yc : Int) (hp0 : Y2.Me.Pq.length ≤ 1073741824) (hp1 : Y2.Me.Tr.length ≤ 1073741824) (hp2 : ∀ t ∈ Y2.Me.Tr, t.length ≤ 1073741824) (hp3 : Y2.Sp.length ≤ 1073741824) (hp4 : Y2.We.length ≤ 1073741824) (hp5 : Y4.length ≤ 1073741824) (Z6L : (Z13 Y2 Y4) = true) (Z6M : (Zo Yc 0 40) = true) : ∀ (k : Nat) (Y1 : Int) (Ya : (List Gv)) (Ys : (List (List Int))) (Yt : (List Gs)) (Yu : (List Nat)) (Y16 : (List Nat)) (Yv : Nat) (Yw : Nat) (Yx : Nat) (Yy : Nat) (Yh : Nat) (Z9M : 0 ≤ Y1) (Z3k : Like Y2 (⟨(⟨Ya, Ys⟩ : Gm), Yt, Yv, Yw, Yu, (⟨Yx, Yy, Yh⟩ : Gv)⟩ : Gb)) (Z9N : (Y16.length : Int) ≤ Y1 + 1) (hk : (Yc - Y1).toNat < k), Lp prog 0 (sub (bodyOf f39) [1, 1, 1, 0, 1, 0, 0]) (Z7L Y2 Y4 Y9 Yc Y1 Ya Ys Yt Yu Y16 Yv Yw Yx Yy Yh) (Z7K Y2 Y4 Y9 Yc (Z2l Y2 Y4 Y9 Yc k Y1 Ya Ys Yt Yu Y16 Yv Yw Yx Yy Yh)).1 (Z7K Y2 Y4 Y9 Yc (Z2l Y2 Y4 Y9 Yc k Y1 Ya Ys Yt Yu Y16 Yv Yw Yx Yy Yh)).2 := by
 intro k
 induction k with
 | zero => intro Y1 Ya Ys Yt Yu Y16 Yv Yw Yx Yy Yh Z9M Z3k Z9N hk; exact absurd hk (Nat.not_lt_zero _)
 | succ k ih =>
  intro Y1 Ya Ys Yt Yu Y16 Yv Yw Yx Yy Yh Z9M Z3k Z9N hk
  cases Yj : (decide (Y1 < Yc)) with
  | true =>
   have YM := odt Yj
   have YS : (⟨(⟨Ya, Ys⟩ : Gm), Yt, Yv, Yw, Yu, (⟨Yx, Yy, Yh⟩ : Gv)⟩ : Gb).Me.Pq.length ≤ 1073741824 := (by have q := Z48 Z3k; simp only [Z3G] at q ⊢; omega)
   have YT : (⟨(⟨Ya, Ys⟩ : Gm), Yt, Yv, Yw, Yu, (⟨Yx, Yy, Yh⟩ : Gv)⟩ : Gb).Me.Tr.length ≤ 1073741824 := (by have q := Z48 Z3k; simp only [Z3G] at q ⊢; omega)
   have YY : ∀ t ∈ (⟨(⟨Ya, Ys⟩ : Gm), Yt, Yv, Yw, Yu, (⟨Yx, Yy, Yh⟩ : Gv)⟩ : Gb).Me.Tr, t.length ≤ 1073741824 := (by with_reducible exact ZcE hp2 (by with_reducible assumption))
   have YZ : (⟨(⟨Ya, Ys⟩ : Gm), Yt, Yv, Yw, Yu, (⟨Yx, Yy, Yh⟩ : Gv)⟩ : Gb).Sp.length ≤ 1073741824 := (by have q := Z48 Z3k; simp only [Z3G] at q ⊢; omega)
   have y_4 : (⟨(⟨Ya, Ys⟩ : Gm), Yt, Yv, Yw, Yu, (⟨Yx, Yy, Yh⟩ : Gv)⟩ : Gb).We.length ≤ 1073741824 := (by have q := Z48 Z3k; simp only [Z3G] at q ⊢; omega)
   have y_5 : OkBd (⟨(⟨Ya, Ys⟩ : Gm), Yt, Yv, Yw, Yu, (⟨Yx, Yy, Yh⟩ : Gv)⟩ : Gb) := (by with_reducible exact Z8q (Z9S _ (Zal Y2 Y4 Z6L).1) (by with_reducible assumption))
   have y_6 : OkIx (⟨(⟨Ya, Ys⟩ : Gm), Yt, Yv, Yw, Yu, (⟨Yx, Yy, Yh⟩ : Gv)⟩ : Gb).Me.Pq.length (fun x => x) Y4 := (by with_reducible exact Zg2 (Zh4 Y2 Y4 hp0 (Zal Y2 Y4 Z6L).2) (by with_reducible assumption))
   have y_7 : (Zb (⟨(⟨Ya, Ys⟩ : Gm), Yt, Yv, Yw, Yu, (⟨Yx, Yy, Yh⟩ : Gv)⟩ : Gb) Y4).length ≤ 1073741824 := (by have q := Z48 Z3k; simp only [Z3G] at q ⊢; omega)
   have y_8 : (Zb (⟨(⟨Ya, Ys⟩ : Gm), Yt, Yv, Yw, Yu, (⟨Yx, Yy, Yh⟩ : Gv)⟩ : Gb) Y4).length ≤ (⟨(⟨Ya, Ys⟩ : Gm), Yt, Yv, Yw, Yu, (⟨Yx, Yy, Yh⟩ : Gv)⟩ : Gb).Me.Pq.length := (by have q := Z48 Z3k; simp only [Z3G] at q ⊢; omega)
   have l_1 := (ZdT (⟨(⟨Ya, Ys⟩ : Gm), Yt, Yv, Yw, Yu, (⟨Yx, Yy, Yh⟩ : Gv)⟩ : Gb) (Zb (⟨(⟨Ya, Ys⟩ : Gm), Yt, Yv, Yw, Yu, (⟨Yx, Yy, Yh⟩ : Gv)⟩ : Gb) Y4) Y9)
   have l_2 := (ZdU (⟨(⟨Ya, Ys⟩ : Gm), Yt, Yv, Yw, Yu, (⟨Yx, Yy, Yh⟩ : Gv)⟩ : Gb) (Zb (⟨(⟨Ya, Ys⟩ : Gm), Yt, Yv, Yw, Yu, (⟨Yx, Yy, Yh⟩ : Gv)⟩ : Gb) Y4) Y9)
   have l_3 := (ZdV (⟨(⟨Ya, Ys⟩ : Gm), Yt, Yv, Yw, Yu, (⟨Yx, Yy, Yh⟩ : Gv)⟩ : Gb) (Zb (⟨(⟨Ya, Ys⟩ : Gm), Yt, Yv, Yw, Yu, (⟨Yx, Yy, Yh⟩ : Gv)⟩ : Gb) Y4) Y9)
   have l_4 := (ZdW (⟨(⟨Ya, Ys⟩ : Gm), Yt, Yv, Yw, Yu, (⟨Yx, Yy, Yh⟩ : Gv)⟩ : Gb) (Zb (⟨(⟨Ya, Ys⟩ : Gm), Yt, Yv, Yw, Yu, (⟨Yx, Yy, Yh⟩ : Gv)⟩ : Gb) Y4) Y9)
   have p {a C} (s : Scr a C) := sB Yj <| sK [11, 13, 8, 9] <| sF (Fn.castA (args' := [.agg [.sl (Ya.map Gv.c), .sl ((Ys.map fun l => l.map (cI .i64)).map fun l => [.sl l]), .sl (Yt.map Gs.c), .f .f32 Yv, .f .f32 Yw, .sl (Yu.map (cF .f32)), .f .f32 Yx, .f .f32 Yy, .f .f32 Yh], .sl (Y4.map (cI .i64))]) (Zem (⟨(⟨Ya, Ys⟩ : Gm), Yt, Yv, Yw, Yu, (⟨Yx, Yy, Yh⟩ : Gv)⟩ : Gb) Y4 YS YT YY YZ y_4 hp5 y_5 y_6) (by simp [cL, Function.comp_def]; done)) <| sF (Fn.castA (args' := [.agg [.sl (Ya.map Gv.c), .sl ((Ys.map fun l => l.map (cI .i64)).map fun l => [.sl l]), .sl (Yt.map Gs.c), .f .f32 Yv, .f .f32 Yw, .sl (Yu.map (cF .f32)), .f .f32 Yx, .f .f32 Yy, .f .f32 Yh], .sl ((Zb (⟨(⟨Ya, Ys⟩ : Gm), Yt, Yv, Yw, Yu, (⟨Yx, Yy, Yh⟩ : Gv)⟩ : Gb) Y4).map Gv.c), .f .f32 Y9]) (ZeV (⟨(⟨Ya, Ys⟩ : Gm), Yt, Yv, Yw, Yu, (⟨Yx, Yy, Yh⟩ : Gv)⟩ : Gb) (Zb (⟨(⟨Ya, Ys⟩ : Gm), Yt, Yv, Yw, Yu, (⟨Yx, Yy, Yh⟩ : Gv)⟩ : Gb) Y4) Y9 YS YT YY YZ y_4 y_7 y_5 y_8) (by simp [cL, Function.comp_def]; done)) <| s
   cases YJ : (Z9 (⟨(⟨Ya, Ys⟩ : Gm), Yt, Yv, Yw, Yu, (⟨Yx, Yy, Yh⟩ : Gv)⟩ : Gb) (Zb (⟨(⟨Ya, Ys⟩ : Gm), Yt, Yv, Yw, Yu, (⟨Yx, Yy, Yh⟩ : Gv)⟩ : Gb) Y4) Y9).2.2 with
   | true =>
    have y_9 : ((Z9 (⟨(⟨Ya, Ys⟩ : Gm), Yt, Yv, Yw, Yu, (⟨Yx, Yy, Yh⟩ : Gv)⟩ : Gb) (Zb (⟨(⟨Ya, Ys⟩ : Gm), Yt, Yv, Yw, Yu, (⟨Yx, Yy, Yh⟩ : Gv)⟩ : Gb) Y4) Y9).1).Me.Pq.length ≤ 1073741824 := by clear p; exact (by omega)
    have Y1c : ((Z9 (⟨(⟨Ya, Ys⟩ : Gm), Yt, Yv, Yw, Yu, (⟨Yx, Yy, Yh⟩ : Gv)⟩ : Gb) (Zb (⟨(⟨Ya, Ys⟩ : Gm), Yt, Yv, Yw, Yu, (⟨Yx, Yy, Yh⟩ : Gv)⟩ : Gb) Y4) Y9).1).Me.Tr.length ≤ 1073741824 := by clear p; exact (by omega)
    have Y1j : ∀ t ∈ ((Z9 (⟨(⟨Ya, Ys⟩ : Gm), Yt, Yv, Yw, Yu, (⟨Yx, Yy, Yh⟩ : Gv)⟩ : Gb) (Zb (⟨(⟨Ya, Ys⟩ : Gm), Yt, Yv, Yw, Yu, (⟨Yx, Yy, Yh⟩ : Gv)⟩ : Gb) Y4) Y9).1).Me.Tr, t.length ≤ 1073741824 := by clear p; exact (by with_reducible exact ZcE hp2 (ZdX (by with_reducible assumption) _ _))
    have Y1m : ((Z9 (⟨(⟨Ya, Ys⟩ : Gm), Yt, Yv, Yw, Yu, (⟨Yx, Yy, Yh⟩ : Gv)⟩ : Gb) (Zb (⟨(⟨Ya, Ys⟩ : Gm), Yt, Yv, Yw, Yu, (⟨Yx, Yy, Yh⟩ : Gv)⟩ : Gb) Y4) Y9).1).Sp.length ≤ 1073741824 := by clear p; exact (by omega)
    have Y1n : ((Z9 (⟨(⟨Ya, Ys⟩ : Gm), Yt, Yv, Yw, Yu, (⟨Yx, Yy, Yh⟩ : Gv)⟩ : Gb) (Zb (⟨(⟨Ya, Ys⟩ : Gm), Yt, Yv, Yw, Yu, (⟨Yx, Yy, Yh⟩ : Gv)⟩ : Gb) Y4) Y9).1).We.length ≤ 1073741824 := by clear p; exact (by omega)
    have Y1t : OkBd ((Z9 (⟨(⟨Ya, Ys⟩ : Gm), Yt, Yv, Yw, Yu, (⟨Yx, Yy, Yh⟩ : Gv)⟩ : Gb) (Zb (⟨(⟨Ya, Ys⟩ : Gm), Yt, Yv, Yw, Yu, (⟨Yx, Yy, Yh⟩ : Gv)⟩ : Gb) Y4) Y9).1) := by clear p; exact (by with_reducible exact Z8q (Z9S _ (Zal Y2 Y4 Z6L).1) (ZdX (by with_reducible assumption) _ _))
    have Y1u : Y16.length + ([(Zx ((Z9 (⟨(⟨Ya, Ys⟩ : Gm), Yt, Yv, Yw, Yu, (⟨Yx, Yy, Yh⟩ : Gv)⟩ : Gb) (Zb (⟨(⟨Ya, Ys⟩ : Gm), Yt, Yv, Yw, Yu, (⟨Yx, Yy, Yh⟩ : Gv)⟩ : Gb) Y4) Y9).1))]).length ≤ 1073741824 := by clear p; exact (by have w := in40 (n := Yc) Z6M; (simp; omega))
    have Y1v : (-9223372036854775808 : Int) ≤ (Y1 + 1) := by clear p; exact (by omega)
    have Y1w : (Y1 + 1) ≤ (9223372036854775807 : Int) := by clear p; exact (by have w := in40 (n := Yc) Z6M; omega)
    have e : Z2l Y2 Y4 Y9 Yc (k + 1) Y1 Ya Ys Yt Yu Y16 Yv Yw Yx Yy Yh = (Z2l Y2 Y4 Y9 Yc k (Y1 + 1) ((Z9 (⟨(⟨Ya, Ys⟩ : Gm), Yt, Yv, Yw, Yu, (⟨Yx, Yy, Yh⟩ : Gv)⟩ : Gb) (Zb (⟨(⟨Ya, Ys⟩ : Gm), Yt, Yv, Yw, Yu, (⟨Yx, Yy, Yh⟩ : Gv)⟩ : Gb) Y4) Y9).1.Me.Pq) ((Z9 (⟨(⟨Ya, Ys⟩ : Gm), Yt, Yv, Yw, Yu, (⟨Yx, Yy, Yh⟩ : Gv)⟩ : Gb) (Zb (⟨(⟨Ya, Ys⟩ : Gm), Yt, Yv, Yw, Yu, (⟨Yx, Yy, Yh⟩ : Gv)⟩ : Gb) Y4) Y9).1.Me.Tr) ((Z9 (⟨(⟨Ya, Ys⟩ : Gm), Yt, Yv, Yw, Yu, (⟨Yx, Yy, Yh⟩ : Gv)⟩ : Gb) (Zb (⟨(⟨Ya, Ys⟩ : Gm), Yt, Yv, Yw, Yu, (⟨Yx, Yy, Yh⟩ : Gv)⟩ : Gb) Y4) Y9).1.Sp) ((Z9 (⟨(⟨Ya, Ys⟩ : Gm), Yt, Yv, Yw, Yu, (⟨Yx, Yy, Yh⟩ : Gv)⟩ : Gb) (Zb (⟨(⟨Ya, Ys⟩ : Gm), Yt, Yv, Yw, Yu, (⟨Yx, Yy, Yh⟩ : Gv)⟩ : Gb) Y4) Y9).1.We) (Y16 ++ [(Zx ((Z9 (⟨(⟨Ya, Ys⟩ : Gm), Yt, Yv, Yw, Yu, (⟨Yx, Yy, Yh⟩ : Gv)⟩ : Gb) (Zb (⟨(⟨Ya, Ys⟩ : Gm), Yt, Yv, Yw, Yu, (⟨Yx, Yy, Yh⟩ : Gv)⟩ : Gb) Y4) Y9).1))]) ((Z9 (⟨(⟨Ya, Ys⟩ : Gm), Yt, Yv, Yw, Yu, (⟨Yx, Yy, Yh⟩ : Gv)⟩ : Gb) (Zb (⟨(⟨Ya, Ys⟩ : Gm), Yt, Yv, Yw, Yu, (⟨Yx, Yy, Yh⟩ : Gv)⟩ : Gb) Y4) Y9).1.Film) ((Z9 (⟨(⟨Ya, Ys⟩ : Gm), Yt, Yv, Yw, Yu, (⟨Yx, Yy, Yh⟩ : Gv)⟩ : Gb) (Zb (⟨(⟨Ya, Ys⟩ : Gm), Yt, Yv, Yw, Yu, (⟨Yx, Yy, Yh⟩ : Gv)⟩ : Gb) Y4) Y9).1.Bend) ((Z9 (⟨(⟨Ya, Ys⟩ : Gm), Yt, Yv, Yw, Yu, (⟨Yx, Yy, Yh⟩ : Gv)⟩ : Gb) (Zb (⟨(⟨Ya, Ys⟩ : Gm), Yt, Yv, Yw, Yu, (⟨Yx, Yy, Yh⟩ : Gv)⟩ : Gb) Y4) Y9).1.Fall.X) ((Z9 (⟨(⟨Ya, Ys⟩ : Gm), Yt, Yv, Yw, Yu, (⟨Yx, Yy, Yh⟩ : Gv)⟩ : Gb) (Zb (⟨(⟨Ya, Ys⟩ : Gm), Yt, Yv, Yw, Yu, (⟨Yx, Yy, Yh⟩ : Gv)⟩ : Gb) Y4) Y9).1.Fall.Y) ((Z9 (⟨(⟨Ya, Ys⟩ : Gm), Yt, Yv, Yw, Yu, (⟨Yx, Yy, Yh⟩ : Gv)⟩ : Gb) (Zb (⟨(⟨Ya, Ys⟩ : Gm), Yt, Yv, Yw, Yu, (⟨Yx, Yy, Yh⟩ : Gv)⟩ : Gb) Y4) Y9).1.Fall.Z)) := by simp only [Z2l, Yj, YJ, cond_true]
    rw [e]
    exact nextS E0Ok Z5 [] Z9K [0, 1, 9, 10, 11, 12, 6, 7] (⟨.agg [.sl (Y2.Me.Pq.map Gv.c), .sl (Y2.Me.Tr.map (cL (cI .i64))), .sl (Y2.Sp.map Gs.c), .f .f32 Y2.Film, .f .f32 Y2.Bend, .sl (Y2.We.map (cF .f32)), .f .f32 Y2.Fall.X, .f .f32 Y2.Fall.Y, .f .f32 Y2.Fall.Z] :: .sl (Y4.map (cI .i64)) :: .f .f32 Y9 :: .i .i64 Yc :: .ptr 0 0 0 :: .any :: .any :: .any :: .ptr 1 0 0 :: .nils :: .b false :: .ptr 7 0 0 :: .own 6 :: .any :: .any :: .any :: .agg [.sl (Y2.Me.Pq.map Gv.c), .sl (Y2.Me.Tr.map (cL (cI .i64))), .sl (Y2.Sp.map Gs.c), .f .f32 Y2.Film, .f .f32 Y2.Bend, .sl (Y2.We.map (cF .f32)), .f .f32 Y2.Fall.X, .f .f32 Y2.Fall.Y, .f .f32 Y2.Fall.Z] :: .sl (Y4.map (cI .i64)) :: .b (Z13 Y2 Y4) :: .b (!(Z13 Y2 Y4)) :: .b (!(Z13 Y2 Y4)) :: .f .f32 Y9 :: .b (ZS Y9) :: .b (!(ZS Y9)) :: .b (!(ZS Y9)) :: .b (!(ZS Y9)) :: .i .i64 Yc :: .b (Zo Yc 0 40) :: .b (!(Zo Yc 0 40)) :: .b (!(Zo Yc 0 40)) :: .any :: .agg [.sl (Y2.Me.Pq.map Gv.c), .sl (Y2.Me.Tr.map (cL (cI .i64))), .sl (Y2.Sp.map Gs.c), .f .f32 Y2.Film, .f .f32 Y2.Bend, .sl (Y2.We.map (cF .f32)), .f .f32 Y2.Fall.X, .f .f32 Y2.Fall.Y, .f .f32 Y2.Fall.Z] :: .any :: .agg [.sl (Y2.Me.Pq.map Gv.c), .sl (Y2.Me.Tr.map (cL (cI .i64))), .sl (Y2.Sp.map Gs.c), .f .f32 Y2.Film, .f .f32 Y2.Bend, .sl (Y2.We.map (cF .f32)), .f .f32 Y2.Fall.X, .f .f32 Y2.Fall.Y, .f .f32 Y2.Fall.Z] :: .f .f32 (Zx Y2) :: .any :: .i .i64 Yc :: .i .i64 (Y1 + 1) :: an 22 [], [.box 42 [.sl (Y2.Me.Pq.map Gv.c), .sl (Y2.Me.Tr.map (cL (cI .i64))), .sl (Y2.Sp.map Gs.c), .f .f32 Y2.Film, .f .f32 Y2.Bend, .sl (Y2.We.map (cF .f32)), .f .f32 Y2.Fall.X, .f .f32 Y2.Fall.Y, .f .f32 Y2.Fall.Z], .box 42 [.nils, .nils, .nils, .f .f32 0, .f .f32 0, .nils, .f .f32 0, .f .f32 0, .f .f32 0], .vec 40 3 (((Z9 (⟨(⟨Ya, Ys⟩ : Gm), Yt, Yv, Yw, Yu, (⟨Yx, Yy, Yh⟩ : Gv)⟩ : Gb) (Zb (⟨(⟨Ya, Ys⟩ : Gm), Yt, Yv, Yw, Yu, (⟨Yx, Yy, Yh⟩ : Gv)⟩ : Gb) Y4) Y9).1.Me.Pq).map Gv.c) false, .nest 49 (((Z9 (⟨(⟨Ya, Ys⟩ : Gm), Yt, Yv, Yw, Yu, (⟨Yx, Yy, Yh⟩ : Gv)⟩ : Gb) (Zb (⟨(⟨Ya, Ys⟩ : Gm), Yt, Yv, Yw, Yu, (⟨Yx, Yy, Yh⟩ : Gv)⟩ : Gb) Y4) Y9).1.Me.Tr).map fun l => l.map (cI .i64)) false, .vec 133 4 (((Z9 (⟨(⟨Ya, Ys⟩ : Gm), Yt, Yv, Yw, Yu, (⟨Yx, Yy, Yh⟩ : Gv)⟩ : Gb) (Zb (⟨(⟨Ya, Ys⟩ : Gm), Yt, Yv, Yw, Yu, (⟨Yx, Yy, Yh⟩ : Gv)⟩ : Gb) Y4) Y9).1.Sp).map Gs.c) false, .vec 27 1 (((Z9 (⟨(⟨Ya, Ys⟩ : Gm), Yt, Yv, Yw, Yu, (⟨Yx, Yy, Yh⟩ : Gv)⟩ : Gb) (Zb (⟨(⟨Ya, Ys⟩ : Gm), Yt, Yv, Yw, Yu, (⟨Yx, Yy, Yh⟩ : Gv)⟩ : Gb) Y4) Y9).1.We).map (cF .f32)) false, .vec 27 1 ((Y16.map (cF .f32)) ++ ([[.f .f32 (Zx ((Z9 (⟨(⟨Ya, Ys⟩ : Gm), Yt, Yv, Yw, Yu, (⟨Yx, Yy, Yh⟩ : Gv)⟩ : Gb) (Zb (⟨(⟨Ya, Ys⟩ : Gm), Yt, Yv, Yw, Yu, (⟨Yx, Yy, Yh⟩ : Gv)⟩ : Gb) Y4) Y9).1))]] : List (List AV))) false, .box 42 [.own 2, .own 3, .own 4, .f .f32 ((Z9 (⟨(⟨Ya, Ys⟩ : Gm), Yt, Yv, Yw, Yu, (⟨Yx, Yy, Yh⟩ : Gv)⟩ : Gb) (Zb (⟨(⟨Ya, Ys⟩ : Gm), Yt, Yv, Yw, Yu, (⟨Yx, Yy, Yh⟩ : Gv)⟩ : Gb) Y4) Y9).1.Film), .f .f32 ((Z9 (⟨(⟨Ya, Ys⟩ : Gm), Yt, Yv, Yw, Yu, (⟨Yx, Yy, Yh⟩ : Gv)⟩ : Gb) (Zb (⟨(⟨Ya, Ys⟩ : Gm), Yt, Yv, Yw, Yu, (⟨Yx, Yy, Yh⟩ : Gv)⟩ : Gb) Y4) Y9).1.Bend), .own 5, .f .f32 ((Z9 (⟨(⟨Ya, Ys⟩ : Gm), Yt, Yv, Yw, Yu, (⟨Yx, Yy, Yh⟩ : Gv)⟩ : Gb) (Zb (⟨(⟨Ya, Ys⟩ : Gm), Yt, Yv, Yw, Yu, (⟨Yx, Yy, Yh⟩ : Gv)⟩ : Gb) Y4) Y9).1.Fall.X), .f .f32 ((Z9 (⟨(⟨Ya, Ys⟩ : Gm), Yt, Yv, Yw, Yu, (⟨Yx, Yy, Yh⟩ : Gv)⟩ : Gb) (Zb (⟨(⟨Ya, Ys⟩ : Gm), Yt, Yv, Yw, Yu, (⟨Yx, Yy, Yh⟩ : Gv)⟩ : Gb) Y4) Y9).1.Fall.Y), .f .f32 ((Z9 (⟨(⟨Ya, Ys⟩ : Gm), Yt, Yv, Yw, Yu, (⟨Yx, Yy, Yh⟩ : Gv)⟩ : Gb) (Zb (⟨(⟨Ya, Ys⟩ : Gm), Yt, Yv, Yw, Yu, (⟨Yx, Yy, Yh⟩ : Gv)⟩ : Gb) Y4) Y9).1.Fall.Z)]]⟩) (p (sB' YJ <| sF (Fn.castA (args' := [.agg [.sl (((Z9 (⟨(⟨Ya, Ys⟩ : Gm), Yt, Yv, Yw, Yu, (⟨Yx, Yy, Yh⟩ : Gv)⟩ : Gb) (Zb (⟨(⟨Ya, Ys⟩ : Gm), Yt, Yv, Yw, Yu, (⟨Yx, Yy, Yh⟩ : Gv)⟩ : Gb) Y4) Y9).1.Me.Pq).map Gv.c), .sl ((((Z9 (⟨(⟨Ya, Ys⟩ : Gm), Yt, Yv, Yw, Yu, (⟨Yx, Yy, Yh⟩ : Gv)⟩ : Gb) (Zb (⟨(⟨Ya, Ys⟩ : Gm), Yt, Yv, Yw, Yu, (⟨Yx, Yy, Yh⟩ : Gv)⟩ : Gb) Y4) Y9).1.Me.Tr).map fun l => l.map (cI .i64)).map fun l => [.sl l]), .sl (((Z9 (⟨(⟨Ya, Ys⟩ : Gm), Yt, Yv, Yw, Yu, (⟨Yx, Yy, Yh⟩ : Gv)⟩ : Gb) (Zb (⟨(⟨Ya, Ys⟩ : Gm), Yt, Yv, Yw, Yu, (⟨Yx, Yy, Yh⟩ : Gv)⟩ : Gb) Y4) Y9).1.Sp).map Gs.c), .f .f32 ((Z9 (⟨(⟨Ya, Ys⟩ : Gm), Yt, Yv, Yw, Yu, (⟨Yx, Yy, Yh⟩ : Gv)⟩ : Gb) (Zb (⟨(⟨Ya, Ys⟩ : Gm), Yt, Yv, Yw, Yu, (⟨Yx, Yy, Yh⟩ : Gv)⟩ : Gb) Y4) Y9).1.Film), .f .f32 ((Z9 (⟨(⟨Ya, Ys⟩ : Gm), Yt, Yv, Yw, Yu, (⟨Yx, Yy, Yh⟩ : Gv)⟩ : Gb) (Zb (⟨(⟨Ya, Ys⟩ : Gm), Yt, Yv, Yw, Yu, (⟨Yx, Yy, Yh⟩ : Gv)⟩ : Gb) Y4) Y9).1.Bend), .sl (((Z9 (⟨(⟨Ya, Ys⟩ : Gm), Yt, Yv, Yw, Yu, (⟨Yx, Yy, Yh⟩ : Gv)⟩ : Gb) (Zb (⟨(⟨Ya, Ys⟩ : Gm), Yt, Yv, Yw, Yu, (⟨Yx, Yy, Yh⟩ : Gv)⟩ : Gb) Y4) Y9).1.We).map (cF .f32)), .f .f32 ((Z9 (⟨(⟨Ya, Ys⟩ : Gm), Yt, Yv, Yw, Yu, (⟨Yx, Yy, Yh⟩ : Gv)⟩ : Gb) (Zb (⟨(⟨Ya, Ys⟩ : Gm), Yt, Yv, Yw, Yu, (⟨Yx, Yy, Yh⟩ : Gv)⟩ : Gb) Y4) Y9).1.Fall.X), .f .f32 ((Z9 (⟨(⟨Ya, Ys⟩ : Gm), Yt, Yv, Yw, Yu, (⟨Yx, Yy, Yh⟩ : Gv)⟩ : Gb) (Zb (⟨(⟨Ya, Ys⟩ : Gm), Yt, Yv, Yw, Yu, (⟨Yx, Yy, Yh⟩ : Gv)⟩ : Gb) Y4) Y9).1.Fall.Y), .f .f32 ((Z9 (⟨(⟨Ya, Ys⟩ : Gm), Yt, Yv, Yw, Yu, (⟨Yx, Yy, Yh⟩ : Gv)⟩ : Gb) (Zb (⟨(⟨Ya, Ys⟩ : Gm), Yt, Yv, Yw, Yu, (⟨Yx, Yy, Yh⟩ : Gv)⟩ : Gb) Y4) Y9).1.Fall.Z)]]) (Z6U ((Z9 (⟨(⟨Ya, Ys⟩ : Gm), Yt, Yv, Yw, Yu, (⟨Yx, Yy, Yh⟩ : Gv)⟩ : Gb) (Zb (⟨(⟨Ya, Ys⟩ : Gm), Yt, Yv, Yw, Yu, (⟨Yx, Yy, Yh⟩ : Gv)⟩ : Gb) Y4) Y9).1) y_9 Y1c Y1j Y1m Y1n Y1t) (by simp [cL, Function.comp_def]; done)) <| sC (show (Y16.map (cF .f32)).length + ([[.f .f32 (Zx ((Z9 (⟨(⟨Ya, Ys⟩ : Gm), Yt, Yv, Yw, Yu, (⟨Yx, Yy, Yh⟩ : Gv)⟩ : Gb) (Zb (⟨(⟨Ya, Ys⟩ : Gm), Yt, Yv, Yw, Yu, (⟨Yx, Yy, Yh⟩ : Gv)⟩ : Gb) Y4) Y9).1))]] : List (List AV)).length ≤ 1073741824 from (by simpa using Y1u)) <| sI (Y1 + 1) Y1v Y1w <| sN)) (by kernel_rfl) (by simp [Z7L, cF]) (ih (Y1 + 1) ((Z9 (⟨(⟨Ya, Ys⟩ : Gm), Yt, Yv, Yw, Yu, (⟨Yx, Yy, Yh⟩ : Gv)⟩ : Gb) (Zb (⟨(⟨Ya, Ys⟩ : Gm), Yt, Yv, Yw, Yu, (⟨Yx, Yy, Yh⟩ : Gv)⟩ : Gb) Y4) Y9).1.Me.Pq) ((Z9 (⟨(⟨Ya, Ys⟩ : Gm), Yt, Yv, Yw, Yu, (⟨Yx, Yy, Yh⟩ : Gv)⟩ : Gb) (Zb (⟨(⟨Ya, Ys⟩ : Gm), Yt, Yv, Yw, Yu, (⟨Yx, Yy, Yh⟩ : Gv)⟩ : Gb) Y4) Y9).1.Me.Tr) ((Z9 (⟨(⟨Ya, Ys⟩ : Gm), Yt, Yv, Yw, Yu, (⟨Yx, Yy, Yh⟩ : Gv)⟩ : Gb) (Zb (⟨(⟨Ya, Ys⟩ : Gm), Yt, Yv, Yw, Yu, (⟨Yx, Yy, Yh⟩ : Gv)⟩ : Gb) Y4) Y9).1.Sp) ((Z9 (⟨(⟨Ya, Ys⟩ : Gm), Yt, Yv, Yw, Yu, (⟨Yx, Yy, Yh⟩ : Gv)⟩ : Gb) (Zb (⟨(⟨Ya, Ys⟩ : Gm), Yt, Yv, Yw, Yu, (⟨Yx, Yy, Yh⟩ : Gv)⟩ : Gb) Y4) Y9).1.We) (Y16 ++ [(Zx ((Z9 (⟨(⟨Ya, Ys⟩ : Gm), Yt, Yv, Yw, Yu, (⟨Yx, Yy, Yh⟩ : Gv)⟩ : Gb) (Zb (⟨(⟨Ya, Ys⟩ : Gm), Yt, Yv, Yw, Yu, (⟨Yx, Yy, Yh⟩ : Gv)⟩ : Gb) Y4) Y9).1))]) ((Z9 (⟨(⟨Ya, Ys⟩ : Gm), Yt, Yv, Yw, Yu, (⟨Yx, Yy, Yh⟩ : Gv)⟩ : Gb) (Zb (⟨(⟨Ya, Ys⟩ : Gm), Yt, Yv, Yw, Yu, (⟨Yx, Yy, Yh⟩ : Gv)⟩ : Gb) Y4) Y9).1.Film) ((Z9 (⟨(⟨Ya, Ys⟩ : Gm), Yt, Yv, Yw, Yu, (⟨Yx, Yy, Yh⟩ : Gv)⟩ : Gb) (Zb (⟨(⟨Ya, Ys⟩ : Gm), Yt, Yv, Yw, Yu, (⟨Yx, Yy, Yh⟩ : Gv)⟩ : Gb) Y4) Y9).1.Bend) ((Z9 (⟨(⟨Ya, Ys⟩ : Gm), Yt, Yv, Yw, Yu, (⟨Yx, Yy, Yh⟩ : Gv)⟩ : Gb) (Zb (⟨(⟨Ya, Ys⟩ : Gm), Yt, Yv, Yw, Yu, (⟨Yx, Yy, Yh⟩ : Gv)⟩ : Gb) Y4) Y9).1.Fall.X) ((Z9 (⟨(⟨Ya, Ys⟩ : Gm), Yt, Yv, Yw, Yu, (⟨Yx, Yy, Yh⟩ : Gv)⟩ : Gb) (Zb (⟨(⟨Ya, Ys⟩ : Gm), Yt, Yv, Yw, Yu, (⟨Yx, Yy, Yh⟩ : Gv)⟩ : Gb) Y4) Y9).1.Fall.Y) ((Z9 (⟨(⟨Ya, Ys⟩ : Gm), Yt, Yv, Yw, Yu, (⟨Yx, Yy, Yh⟩ : Gv)⟩ : Gb) (Zb (⟨(⟨Ya, Ys⟩ : Gm), Yt, Yv, Yw, Yu, (⟨Yx, Yy, Yh⟩ : Gv)⟩ : Gb) Y4) Y9).1.Fall.Z) (show 0 ≤ (Y1 + 1) from (by omega)) (show Like Y2 (⟨(⟨((Z9 (⟨(⟨Ya, Ys⟩ : Gm), Yt, Yv, Yw, Yu, (⟨Yx, Yy, Yh⟩ : Gv)⟩ : Gb) (Zb (⟨(⟨Ya, Ys⟩ : Gm), Yt, Yv, Yw, Yu, (⟨Yx, Yy, Yh⟩ : Gv)⟩ : Gb) Y4) Y9).1.Me.Pq), ((Z9 (⟨(⟨Ya, Ys⟩ : Gm), Yt, Yv, Yw, Yu, (⟨Yx, Yy, Yh⟩ : Gv)⟩ : Gb) (Zb (⟨(⟨Ya, Ys⟩ : Gm), Yt, Yv, Yw, Yu, (⟨Yx, Yy, Yh⟩ : Gv)⟩ : Gb) Y4) Y9).1.Me.Tr)⟩ : Gm), ((Z9 (⟨(⟨Ya, Ys⟩ : Gm), Yt, Yv, Yw, Yu, (⟨Yx, Yy, Yh⟩ : Gv)⟩ : Gb) (Zb (⟨(⟨Ya, Ys⟩ : Gm), Yt, Yv, Yw, Yu, (⟨Yx, Yy, Yh⟩ : Gv)⟩ : Gb) Y4) Y9).1.Sp), ((Z9 (⟨(⟨Ya, Ys⟩ : Gm), Yt, Yv, Yw, Yu, (⟨Yx, Yy, Yh⟩ : Gv)⟩ : Gb) (Zb (⟨(⟨Ya, Ys⟩ : Gm), Yt, Yv, Yw, Yu, (⟨Yx, Yy, Yh⟩ : Gv)⟩ : Gb) Y4) Y9).1.Film), ((Z9 (⟨(⟨Ya, Ys⟩ : Gm), Yt, Yv, Yw, Yu, (⟨Yx, Yy, Yh⟩ : Gv)⟩ : Gb) (Zb (⟨(⟨Ya, Ys⟩ : Gm), Yt, Yv, Yw, Yu, (⟨Yx, Yy, Yh⟩ : Gv)⟩ : Gb) Y4) Y9).1.Bend), ((Z9 (⟨(⟨Ya, Ys⟩ : Gm), Yt, Yv, Yw, Yu, (⟨Yx, Yy, Yh⟩ : Gv)⟩ : Gb) (Zb (⟨(⟨Ya, Ys⟩ : Gm), Yt, Yv, Yw, Yu, (⟨Yx, Yy, Yh⟩ : Gv)⟩ : Gb) Y4) Y9).1.We), (⟨((Z9 (⟨(⟨Ya, Ys⟩ : Gm), Yt, Yv, Yw, Yu, (⟨Yx, Yy, Yh⟩ : Gv)⟩ : Gb) (Zb (⟨(⟨Ya, Ys⟩ : Gm), Yt, Yv, Yw, Yu, (⟨Yx, Yy, Yh⟩ : Gv)⟩ : Gb) Y4) Y9).1.Fall.X), ((Z9 (⟨(⟨Ya, Ys⟩ : Gm), Yt, Yv, Yw, Yu, (⟨Yx, Yy, Yh⟩ : Gv)⟩ : Gb) (Zb (⟨(⟨Ya, Ys⟩ : Gm), Yt, Yv, Yw, Yu, (⟨Yx, Yy, Yh⟩ : Gv)⟩ : Gb) Y4) Y9).1.Fall.Y), ((Z9 (⟨(⟨Ya, Ys⟩ : Gm), Yt, Yv, Yw, Yu, (⟨Yx, Yy, Yh⟩ : Gv)⟩ : Gb) (Zb (⟨(⟨Ya, Ys⟩ : Gm), Yt, Yv, Yw, Yu, (⟨Yx, Yy, Yh⟩ : Gv)⟩ : Gb) Y4) Y9).1.Fall.Z)⟩ : Gv)⟩ : Gb) from (by with_reducible exact Ze2 (ZdX (by with_reducible assumption) _ _))) (show ((Y16 ++ [(Zx ((Z9 (⟨(⟨Ya, Ys⟩ : Gm), Yt, Yv, Yw, Yu, (⟨Yx, Yy, Yh⟩ : Gv)⟩ : Gb) (Zb (⟨(⟨Ya, Ys⟩ : Gm), Yt, Yv, Yw, Yu, (⟨Yx, Yy, Yh⟩ : Gv)⟩ : Gb) Y4) Y9).1))]).length : Int) ≤ (Y1 + 1) + 1 from (by have w := in40 (n := Yc) Z6M; (simp; omega))) (by omega))
   | false =>
    have e : Z2l Y2 Y4 Y9 Yc (k + 1) Y1 Ya Ys Yt Yu Y16 Yv Yw Yx Yy Yh = (Yv, Yw, Yx, Yy, Yh, Y16, Ya, Ys, Yt, Yu) := by simp only [Z2l, Yj, YJ, cond_true, cond_false]
    rw [e]
    exact outR (e := (.exit 0)) E0Ok Z5 [] Z9L [0, 1, 7, 6, 2, 3, 4, 5] (p (sB' YJ <| sN)) (by kernel_rfl) (by intro h; cases h)
  | false =>
   have YM := odf Yj
   have e : Z2l Y2 Y4 Y9 Yc (k + 1) Y1 Ya Ys Yt Yu Y16 Yv Yw Yx Yy Yh = (Yv, Yw, Yx, Yy, Yh, Y16, Ya, Ys, Yt, Yu) := by simp only [Z2l, Yj, cond_false]
   rw [e]
   exact outR (e := (.exit 0)) E0Ok Z5 [] Z9L [0, 1, 7, 6, 2, 3, 4, 5] (sB Yj <| sN) (by kernel_rfl) (by intro h; cases h)
end Go.Ab
