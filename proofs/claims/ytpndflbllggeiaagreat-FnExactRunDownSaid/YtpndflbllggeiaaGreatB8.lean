/- The functions of this seat as plain Lean, and that the program's are these. Printed by a program of the prover's own. -/
import Derived.Test.YtpndflbllggeiaaGreatB7
set_option linter.unusedVariables false
set_option linter.unusedSimpArgs false
set_option maxRecDepth 100000
namespace Go.Ab
open Go.RowKit Go.Proofs.Tryz
theorem Zdj (Y2 : Gb) : ∀ (k : Nat) (Y1 : Int) (Y8 : (List Nat)) (hk : ((Y2.Me.Pq.length : Int) - Y1).toNat < k), (Z1G Y2 k Y1 Y8).length = Y8.length := by
  intro k
  induction k with
  | zero => intro Y1 Y8 hk; exact absurd hk (Nat.not_lt_zero _)
  | succ k ih =>
    intro Y1 Y8 hk
    cases Yj : (decide (Y1 < (Y2.Me.Pq.length : Int))) with
    | true =>
      have e : Z1G Y2 (k + 1) Y1 Y8 = (Z1G Y2 k (Y1 + 1) (Y8.set 3 (Z4b Y2 Y1 Y8))) := by simp only [Z1G, Yj, cond_true]
      rw [e, ih (Y1 + 1) (Y8.set 3 (Z4b Y2 Y1 Y8)) (by simp_all <;> omega)]; simp
    | false =>
      have e : Z1G Y2 (k + 1) Y1 Y8 = Y8 := by simp only [Z1G, Yj, cond_false]
      first | (rw [e]; done) | (rw [e]; rfl)
def Z4C (Y2 : Gb) : (List Nat) := (Z1G Y2 (((Y2.Me.Pq.length : Int) - 0).toNat + 1) 0 (Z2q Y2))
@[simp] theorem ZaW (Y2 : Gb) : (Z4C Y2).length = ((Z2q Y2) : (List Nat)).length := Zdj Y2 (((Y2.Me.Pq.length : Int) - 0).toNat + 1) 0 (Z2q Y2) (by exact Nat.lt_succ_self _)
def Z10 (Y2 : Gb) : (List Nat) := (Z4C Y2)
theorem ZhG (m : Gm) (h : List Int) : Zs m h = ZW m h := by kernel_rfl
theorem ZhH (b : Gb) : Z1E b = Z1v b := by kernel_rfl
theorem ZhI (b : Gb) : Z1F b = Z1w b := by kernel_rfl
theorem ZhJ (b : Gb) : Z1G b = Z1x b := by kernel_rfl
theorem ZhK (b : Gb) (h : Z6 b.Me = Z0 b.Me) : ∀ (k : Nat) (x : Int) (r : List Nat), Z1y b k x r = Z1j b k x r := by
  intro k
  induction k with
  | zero => intro x r; rfl
  | succ k ih =>
    intro x r
    rw [Z1y, Z1j, ih]
    unfold Z3L Z3t
    rw [h, ZhG]
    rfl
theorem Zhk (b : Gb) (ok : OkBd b) : Z10 b = ZR b := by
  have h : Z6 b.Me = Z0 b.Me := by rw [Z6b _ ok.e, Z8L _ ok.e]
  unfold Z10 ZR Z4C Z4w Z2q Z2h Z2p Z2g Z2o Z2f
  rw [ZhH, ZhI, ZhJ, ZhK b h, h]
theorem Z9Y (b : Gb) : (Z10 b).length = 4 := by
  unfold Z10
  rw [ZaW, ZaV, ZaU, ZaT]; simp
theorem ZfH (Y2 : Gb) (hp0 : Y2.Me.Pq.length ≤ 1073741824) (hp1 : Y2.Me.Tr.length ≤ 1073741824) (hp2 : ∀ t ∈ Y2.Me.Tr, t.length ≤ 1073741824) (hp3 : Y2.Sp.length ≤ 1073741824) (hp4 : Y2.We.length ≤ 1073741824) (hp5 : OkBd Y2)  : Fn prog 129 [.agg [.sl (Y2.Me.Pq.map Gv.c), .sl (Y2.Me.Tr.map (cL (cI .i64))), .sl (Y2.Sp.map Gs.c), .f .f32 Y2.Film, .f .f32 Y2.Bend, .sl (Y2.We.map (cF .f32)), .f .f32 Y2.Fall.X, .f .f32 Y2.Fall.Y, .f .f32 Y2.Fall.Z]] (.own 0) [.vec 27 1 ((Z10 Y2).map (cF .f32)) false] := by
 have y0 : (0 : Int) ≤ 4 := (by omega)
 have y1 : (4 : Int) ≤ 2147483648 := (by omega)
 have y2 : OkE Y2.Me.Pq.length Y2.Me.Tr := (by exact hp5.e)
 refine fnS E0Ok Z5 (c := bodyOf f129) [] (.own 0) [.vec 27 1 ((Z4C Y2).map (cF .f32)) false] func129 (sC (show (4 : Int) = 4 from rfl) <| sC y0 <| sC y1 <| sZ Gs.c Y2.Sp <| sL (mR false [0, 4, 10, 5, 98]) 2 (lp_cast (st2 := ⟨.agg [.sl (Y2.Me.Pq.map Gv.c), .sl (Y2.Me.Tr.map (cL (cI .i64))), .sl (Y2.Sp.map Gs.c), .f .f32 Y2.Film, .f .f32 Y2.Bend, .sl (Y2.We.map (cF .f32)), .f .f32 Y2.Fall.X, .f .f32 Y2.Fall.Y, .f .f32 Y2.Fall.Z] :: .ptr 0 0 0 :: .nils :: .own 1 :: an 10 (.own 1 :: .ptr 0 0 2 :: .sl (Y2.Sp.map Gs.c) :: .i .i64 (Y2.Sp.length : Int) :: .i .i64 0 :: an 98 []), [.box 42 [.sl (Y2.Me.Pq.map Gv.c), .sl (Y2.Me.Tr.map (cL (cI .i64))), .sl (Y2.Sp.map Gs.c), .f .f32 Y2.Film, .f .f32 Y2.Bend, .sl (Y2.We.map (cF .f32)), .f .f32 Y2.Fall.X, .f .f32 Y2.Fall.Y, .f .f32 Y2.Fall.Z], .vec 27 1 (List.replicate (Int.toNat 4) [.f .f32 0]) false]⟩) (lp_val (Z7F Y2) (x := (Z2o Y2)) (Zei Y2 hp0 hp1 hp2 hp3 hp4 hp5 (((Y2.Sp.length : Int) - 0).toNat + 1) 0 (List.replicate 4 0) (show 0 ≤ 0 from (by omega)) (show (List.replicate 4 0).length = 4 from (by simp; done)) (Nat.lt_succ_self _)) rfl) (by simp [Z7G, cF])) <| sZ (cL (cI .i64)) Y2.Me.Tr <| sL (mR false [0, 4, 10, 3, 25, 5, 70]) 2 (lp_val (Z7H Y2) (x := (Z2p Y2)) (Zej Y2 hp0 hp1 hp2 hp3 hp4 hp5 (((Y2.Me.Tr.length : Int) - 0).toNat + 1) 0 (Z2o Y2) (show 0 ≤ 0 from (by omega)) (show (Z2o Y2).length = (Z2o Y2).length from (by omega)) (Nat.lt_succ_self _)) rfl) <| sF (ZbJ Y2.Me hp0 hp1 hp2 y2) <| sM (nlen_ok (l := (Z6 Y2.Me)) (f := fun l => l.map (cI .i64))) <| sL Z9D 3 (lp_val (Z7I Y2) (x := (Z2q Y2)) (Zek Y2 hp0 hp1 hp2 hp3 hp4 hp5 ((((Z6 Y2.Me).length : Int) - 0).toNat + 1) 0 (Z2p Y2) (show 0 ≤ 0 from (by omega)) (show (Z2p Y2).length = (Z2p Y2).length from (by omega)) (Nat.lt_succ_self _)) rfl) <| sZ Gv.c Y2.Me.Pq <| sL Z9G 3 (lp_val (Z7J Y2) (x := (Z4C Y2)) (Zel Y2 hp0 hp1 hp2 hp3 hp4 hp5 (((Y2.Me.Pq.length : Int) - 0).toNat + 1) 0 (Z2q Y2) (show 0 ≤ 0 from (by omega)) (show (Z2q Y2).length = (Z2q Y2).length from (by omega)) (Nat.lt_succ_self _)) rfl) <| sK [1] sN) rfl (by kernel_rfl) (by kernel_rfl) rfl ?_ ?_
 · rfl
 · simp [Z10]
def Z7h (Y2 : Gb) : Nat := (fop .add .f32 (fop .add .f32 (fop .add .f32 ((Z10 Y2).getD 0 default) ((Z10 Y2).getD 1 default)) ((Z10 Y2).getD 2 default)) ((Z10 Y2).getD 3 default))
def Zx (Y2 : Gb) : Nat := (Z7h Y2)
theorem Z9Z (b : Gb) (ok : OkBd b) : Zx b = ZD b := by
  unfold Zx ZD Z7h Z6C
  rw [Zhk b ok]
theorem Z6U (Y2 : Gb) (hp0 : Y2.Me.Pq.length ≤ 1073741824) (hp1 : Y2.Me.Tr.length ≤ 1073741824) (hp2 : ∀ t ∈ Y2.Me.Tr, t.length ≤ 1073741824) (hp3 : Y2.Sp.length ≤ 1073741824) (hp4 : Y2.We.length ≤ 1073741824) (hp5 : OkBd Y2)  : Fn prog 85 [.agg [.sl (Y2.Me.Pq.map Gv.c), .sl (Y2.Me.Tr.map (cL (cI .i64))), .sl (Y2.Sp.map Gs.c), .f .f32 Y2.Film, .f .f32 Y2.Bend, .sl (Y2.We.map (cF .f32)), .f .f32 Y2.Fall.X, .f .f32 Y2.Fall.Y, .f .f32 Y2.Fall.Z]] (.f .f32 (Zx Y2)) [] := by
 have y0 : (0 : Int) ≤ 0 := (by omega)
 have y1 : 0 < ((Z10 Y2).length : Int) := (by have q := Z9Y Y2; omega)
 have y2 : 0 < (Z10 Y2).length := (by omega)
 have y3 : (0 : Int) ≤ 1 := (by omega)
 have y4 : 1 < ((Z10 Y2).length : Int) := (by have q := Z9Y Y2; omega)
 have y5 : 1 < (Z10 Y2).length := (by omega)
 have y6 : (0 : Int) ≤ 2 := (by omega)
 have y7 : 2 < ((Z10 Y2).length : Int) := (by have q := Z9Y Y2; omega)
 have y8 : 2 < (Z10 Y2).length := (by omega)
 have y9 : (0 : Int) ≤ 3 := (by omega)
 have y10 : 3 < ((Z10 Y2).length : Int) := (by have q := Z9Y Y2; omega)
 have y11 : 3 < (Z10 Y2).length := (by omega)
 refine fnS E0Ok Z5 (c := bodyOf f85) [] (.f .f32 (Z7h Y2)) [] func85 (sF (ZfH Y2 hp0 hp1 hp2 hp3 hp4 hp5) <| sK [14, 14] <| sX (cF .f32) (Z10 Y2) 0 y0 y1 <| sV (cF .f32) (Z10 Y2) 0 y2 <| sX (cF .f32) (Z10 Y2) 1 y3 y4 <| sV (cF .f32) (Z10 Y2) 1 y5 <| sX (cF .f32) (Z10 Y2) 2 y6 y7 <| sV (cF .f32) (Z10 Y2) 2 y8 <| sX (cF .f32) (Z10 Y2) 3 y9 y10 <| sV (cF .f32) (Z10 Y2) 3 y11 <| sK [] sN) rfl (by kernel_rfl) (by kernel_rfl) rfl ?_ ?_
 · rfl
 · rfl
def Z4h (d_0 : Gv) (s_1 : Gs) : Nat := (cond (fcmp .gtr .f32 (Zv d_0) 0)
  (fop .quo .f32 (fop .mul .f32 s_1.Stiff (fop .sub .f32 (Zv d_0) s_1.Long)) (Zv d_0))
  0)
theorem Zgn (d_0 : Gv) (s_1 : Gs)   : Fn prog 110 [.agg [.f .f32 d_0.X, .f .f32 d_0.Y, .f .f32 d_0.Z], .agg [.i .i64 s_1.A, .i .i64 s_1.B, .f .f32 s_1.Long, .f .f32 s_1.Stiff]] (.f .f32 (Z4h d_0 s_1)) [] := by
 have p {a C} (s : Scr a C) := sF (Z7W d_0) <| s
 cases h0 : (fcmp .gtr .f32 (Zv d_0) 0) with
 | true =>
  refine fnS E0Ok Z5 (c := bodyOf f110) [] (.f .f32 (fop .quo .f32 (fop .mul .f32 s_1.Stiff (fop .sub .f32 (Zv d_0) s_1.Long)) (Zv d_0))) [] func110 (p (sB' h0 <| sK [] sN)) rfl (by kernel_rfl) (by kernel_rfl) rfl ?_ ?_
  · simp only [Z4h, h0, cond_true]
  · rfl
 | false =>
  refine fnS E0Ok Z5 (c := bodyOf f110) [] (.f .f32 0) [] func110 (p (sB' h0 <| sK [] sN)) rfl (by kernel_rfl) (by kernel_rfl) rfl ?_ ?_
  · simp only [Z4h, h0, cond_false]
  · rfl
def Z1a (v_0 : Gv) (YB : Nat) : Gv := (⟨(fop .mul .f32 v_0.X YB), (fop .mul .f32 v_0.Y YB), (fop .mul .f32 v_0.Z YB)⟩ : Gv)
theorem Zaj (v_0 : Gv) (YB : Nat)   : Fn prog 108 [.agg [.f .f32 v_0.X, .f .f32 v_0.Y, .f .f32 v_0.Z], .f .f32 YB] (.agg [.f .f32 ((Z1a v_0 YB).X), .f .f32 ((Z1a v_0 YB).Y), .f .f32 ((Z1a v_0 YB).Z)]) [] := by
 refine fnS E0Ok Z5 (c := bodyOf f108) [] (.agg [.f .f32 (fop .mul .f32 v_0.X YB), .f .f32 (fop .mul .f32 v_0.Y YB), .f .f32 (fop .mul .f32 v_0.Z YB)]) [] func108 (sK [] sN) rfl (by kernel_rfl) (by kernel_rfl) rfl ?_ ?_
 · rfl
 · rfl
def Zy (Y1f : Int) (v_1 : Gv) (Y1s : Nat) (YI : (List Gv)) : (List Gv) := (YI.set Y1f.toNat (Z18 (YI.getD Y1f.toNat default) (Z1a v_1 Y1s)))
@[simp] theorem Zf5 (Y1f : Int) (v_1 : Gv) (Y1s : Nat) (YI : (List Gv)) : (Zy Y1f v_1 Y1s YI).length = YI.length := by
  first | (simp [Zy]; done)
theorem Z28 (Y1f : Int) (v_1 : Gv) (Y1s : Nat) (YI : (List Gv)) (hp0 : YI.length ≤ 1073741824) (hp1 : 0 ≤ Y1f) (hp2 : Y1f < (YI.length : Int))  : CallSt prog 106 [.box 34 [.own 1], .vec 40 3 (YI.map Gv.c) false] [.i .i64 Y1f, .agg [.f .f32 v_1.X, .f .f32 v_1.Y, .f .f32 v_1.Z], .f .f32 Y1s, .ptr 0 0 0] (.tup []) [.box 34 [.own 1], .vec 40 3 ((Zy Y1f v_1 Y1s YI).map Gv.c) false] := by
 have y0 : (0 : Int) ≤ Y1f := (by assumption)
 have y1 : Y1f.toNat < YI.length := (by omega)
 refine callS (EpOk 2) Z5 (c := bodyOf f106) [.box 34 [.own 1], .vec 40 3 (YI.map Gv.c) false] [] (.tup []) [.box 34 [.own 1], .vec 40 3 ((YI.map Gv.c).set Y1f.toNat [.f .f32 ((Z18 (YI.getD Y1f.toNat default) (Z1a v_1 Y1s)).X), .f .f32 ((Z18 (YI.getD Y1f.toNat default) (Z1a v_1 Y1s)).Y), .f .f32 ((Z18 (YI.getD Y1f.toNat default) (Z1a v_1 Y1s)).Z)]) false] func106 (sK [10, 10] <| sX Gv.c YI Y1f y0 hp2 <| sV Gv.c YI Y1f.toNat y1 <| sF (Zaj v_1 Y1s) <| sF (Z5I (YI.getD Y1f.toNat default) (Z1a v_1 Y1s)) <| sX Gv.c YI Y1f y0 hp2 <| sC (maplt (c := Gv.c) (l := YI) y1) <| sK [] sN) rfl (by kernel_rfl) (by kernel_rfl) ?_ ?_
 · rfl
 · simp [Zy, Gv.c]
def Z3z (Y0 : Gb) (Y1 : Int) (Y8 : (List Gv)) : (List Gv) := (Zy ((Y0.Sp.getD Y1.toNat default).A) (Zr Y0 (Y0.Sp.getD Y1.toNat default)) (Z4h (Zr Y0 (Y0.Sp.getD Y1.toNat default)) (Y0.Sp.getD Y1.toNat default)) Y8)
@[simp] theorem Z7O (Y0 : Gb) (Y1 : Int) (Y8 : (List Gv)) : (Z3z Y0 Y1 Y8).length = Y8.length := by unfold Z3z; simp
def Z3A (Y0 : Gb) (Y1 : Int) (Y8 : (List Gv)) : (List Gv) := (Zy ((Y0.Sp.getD Y1.toNat default).B) (Zr Y0 (Y0.Sp.getD Y1.toNat default)) (fneg .f32 (Z4h (Zr Y0 (Y0.Sp.getD Y1.toNat default)) (Y0.Sp.getD Y1.toNat default))) (Z3z Y0 Y1 Y8))
@[simp] theorem ZgU (Y0 : Gb) (Y1 : Int) (Y8 : (List Gv)) : (Z3A Y0 Y1 Y8).length = (Z3z Y0 Y1 Y8).length := by unfold Z3A; simp
def Z1z (Y0 : Gb) : Nat → Int → (List Gv) → (List Gv)
  | 0, _, _ => default
  | k + 1, Y1, Y8 => (cond (decide (Y1 < (Y0.Sp.length : Int)))
    (Z1z Y0 k (Y1 + 1) (Z3A Y0 Y1 Y8))
    Y8)
def Z7i (Y0 : Gb) (r : (List Gv)) : Ex × St := ((.exit 0), ⟨.agg [.sl (Y0.Me.Pq.map Gv.c), .sl (Y0.Me.Tr.map (cL (cI .i64))), .sl (Y0.Sp.map Gs.c), .f .f32 Y0.Film, .f .f32 Y0.Bend, .sl (Y0.We.map (cF .f32)), .f .f32 Y0.Fall.X, .f .f32 Y0.Fall.Y, .f .f32 Y0.Fall.Z] :: .ptr 0 0 0 :: .nils :: .ptr 1 0 0 :: .fn 106 [.ptr 1 0 0] :: an 18 (.ptr 0 0 0 :: .ptr 0 0 0 :: .sl (Y0.Me.Pq.map Gv.c) :: .i .i64 (Y0.Me.Pq.length : Int) :: .own 2 :: .fn 106 [.ptr 1 0 0] :: .ptr 0 0 2 :: .sl (Y0.Sp.map Gs.c) :: an 148 []), [.box 42 [.sl (Y0.Me.Pq.map Gv.c), .sl (Y0.Me.Tr.map (cL (cI .i64))), .sl (Y0.Sp.map Gs.c), .f .f32 Y0.Film, .f .f32 Y0.Bend, .sl (Y0.We.map (cF .f32)), .f .f32 Y0.Fall.X, .f .f32 Y0.Fall.Y, .f .f32 Y0.Fall.Z], .box 34 [.own 2], .vec 40 3 (r.map Gv.c) false]⟩)
def Zak (Y0 : Gb) (Y1 : Int) (Y8 : (List Gv)) : St := ⟨.agg [.sl (Y0.Me.Pq.map Gv.c), .sl (Y0.Me.Tr.map (cL (cI .i64))), .sl (Y0.Sp.map Gs.c), .f .f32 Y0.Film, .f .f32 Y0.Bend, .sl (Y0.We.map (cF .f32)), .f .f32 Y0.Fall.X, .f .f32 Y0.Fall.Y, .f .f32 Y0.Fall.Z] :: .ptr 0 0 0 :: .nils :: .ptr 2 0 0 :: .fn 106 [.ptr 2 0 0] :: an 18 (.ptr 0 0 0 :: .ptr 0 0 0 :: .sl (Y0.Me.Pq.map Gv.c) :: .i .i64 (Y0.Me.Pq.length : Int) :: .own 1 :: .fn 106 [.ptr 2 0 0] :: .ptr 0 0 2 :: .sl (Y0.Sp.map Gs.c) :: .i .i64 (Y0.Sp.length : Int) :: .i .i64 Y1 :: an 146 []), [.box 42 [.sl (Y0.Me.Pq.map Gv.c), .sl (Y0.Me.Tr.map (cL (cI .i64))), .sl (Y0.Sp.map Gs.c), .f .f32 Y0.Film, .f .f32 Y0.Bend, .sl (Y0.We.map (cF .f32)), .f .f32 Y0.Fall.X, .f .f32 Y0.Fall.Y, .f .f32 Y0.Fall.Z], .vec 40 3 (Y8.map Gv.c) false, .box 34 [.own 1]]⟩
theorem ZdI (Y0 : Gb) (hp0 : Y0.Me.Pq.length ≤ 1073741824) (hp1 : Y0.Me.Tr.length ≤ 1073741824) (hp2 : ∀ t ∈ Y0.Me.Tr, t.length ≤ 1073741824) (hp3 : Y0.Sp.length ≤ 1073741824) (hp4 : Y0.We.length ≤ 1073741824) (hp5 : OkBd Y0) : ∀ (k : Nat) (Y1 : Int) (Y8 : (List Gv)) (Z94 : 0 ≤ Y1) (Z95 : Y8.length = Y0.Me.Pq.length) (hk : ((Y0.Sp.length : Int) - Y1).toNat < k), Lp prog 0 (sub (bodyOf f57) [1, 1, 1, 0, 1, 0, 0]) (Zak Y0 Y1 Y8) (Z7i Y0 (Z1z Y0 k Y1 Y8)).1 (Z7i Y0 (Z1z Y0 k Y1 Y8)).2 := by
 intro k
 induction k with
 | zero => intro Y1 Y8 Z94 Z95 hk; exact absurd hk (Nat.not_lt_zero _)
 | succ k ih =>
  intro Y1 Y8 Z94 Z95 hk
  cases Yj : (decide (Y1 < (Y0.Sp.length : Int))) with
  | true =>
   have YM := odt Yj
   have YS : (0 : Int) ≤ Y1 := (by assumption)
   have YT : Y1 < (Y0.Sp.length : Int) := (by assumption)
   have YY : 0 ≤ (Y0.Sp.getD Y1.toNat default).A := (by have q := Z3q hp5 (by assumption) Yj; omega)
   have YZ : (Y0.Sp.getD Y1.toNat default).A < (Y0.Me.Pq.length : Int) := (by have q := Z3q hp5 (by assumption) Yj; omega)
   have y_4 : 0 ≤ (Y0.Sp.getD Y1.toNat default).B := (by have q := Z3q hp5 (by assumption) Yj; omega)
   have y_5 : (Y0.Sp.getD Y1.toNat default).B < (Y0.Me.Pq.length : Int) := (by have q := Z3q hp5 (by assumption) Yj; omega)
   have y_6 : Y8.length ≤ 1073741824 := (by omega)
   have y_7 : 0 ≤ ((Y0.Sp.getD Y1.toNat default).A) := (by assumption)
   have y_8 : ((Y0.Sp.getD Y1.toNat default).A) < (Y8.length : Int) := (by omega)
   have y_9 : (Z3z Y0 Y1 Y8).length ≤ 1073741824 := (by have q := Z3q hp5 (by assumption) Yj; (simp only [Z7O]; omega))
   have Y1c : 0 ≤ ((Y0.Sp.getD Y1.toNat default).B) := (by assumption)
   have Y1j : ((Y0.Sp.getD Y1.toNat default).B) < ((Z3z Y0 Y1 Y8).length : Int) := (by have q := Z3q hp5 (by assumption) Yj; (simp only [Z7O]; omega))
   have Y1m : (-9223372036854775808 : Int) ≤ (Y1 + 1) := (by omega)
   have Y1n : (Y1 + 1) ≤ (9223372036854775807 : Int) := (by omega)
   have e : Z1z Y0 (k + 1) Y1 Y8 = (Z1z Y0 k (Y1 + 1) (Z3A Y0 Y1 Y8)) := by simp only [Z1z, Yj, cond_true]
   rw [e]
   exact nextR E0Ok Z5 [] (mR false [0, 5, 18, 10, 146]) [0, 1, 2] (ih (Y1 + 1) (Z3A Y0 Y1 Y8) (show 0 ≤ (Y1 + 1) from (by omega)) (show (Z3A Y0 Y1 Y8).length = Y0.Me.Pq.length from (by simp_all <;> omega)) (by omega)) (sB Yj <| sG Gs.c Y0.Sp Y1 YS YT <| sF (Zah Y0 (Y0.Sp.getD Y1.toNat default) hp0 hp1 hp2 hp3 hp4 YY YZ y_4 y_5) <| sF (Zgn (Zr Y0 (Y0.Sp.getD Y1.toNat default)) (Y0.Sp.getD Y1.toNat default)) <| sS (CallSt.frame (Z28 ((Y0.Sp.getD Y1.toNat default).A) (Zr Y0 (Y0.Sp.getD Y1.toNat default)) (Z4h (Zr Y0 (Y0.Sp.getD Y1.toNat default)) (Y0.Sp.getD Y1.toNat default)) Y8 y_6 y_7 y_8) [2, 1] (R := [.box 42 [.sl (Y0.Me.Pq.map Gv.c), .sl (Y0.Me.Tr.map (cL (cI .i64))), .sl (Y0.Sp.map Gs.c), .f .f32 Y0.Film, .f .f32 Y0.Bend, .sl (Y0.We.map (cF .f32)), .f .f32 Y0.Fall.X, .f .f32 Y0.Fall.Y, .f .f32 Y0.Fall.Z], .vec 40 3 (Y8.map Gv.c) false, .box 34 [.own 1], .box 133 [.i .i64 ((Y0.Sp.getD Y1.toNat default).A), .i .i64 ((Y0.Sp.getD Y1.toNat default).B), .f .f32 ((Y0.Sp.getD Y1.toNat default).Long), .f .f32 ((Y0.Sp.getD Y1.toNat default).Stiff)], .box 40 [.f .f32 ((Zr Y0 (Y0.Sp.getD Y1.toNat default)).X), .f .f32 ((Zr Y0 (Y0.Sp.getD Y1.toNat default)).Y), .f .f32 ((Zr Y0 (Y0.Sp.getD Y1.toNat default)).Z)]]) (args' := [.i .i64 ((Y0.Sp.getD Y1.toNat default).A), .agg [.f .f32 ((Zr Y0 (Y0.Sp.getD Y1.toNat default)).X), .f .f32 ((Zr Y0 (Y0.Sp.getD Y1.toNat default)).Y), .f .f32 ((Zr Y0 (Y0.Sp.getD Y1.toNat default)).Z)], .f .f32 (Z4h (Zr Y0 (Y0.Sp.getD Y1.toNat default)) (Y0.Sp.getD Y1.toNat default)), .ptr 2 0 0]) rfl rfl rfl rfl rfl rfl) <| sS (CallSt.frame (Z28 ((Y0.Sp.getD Y1.toNat default).B) (Zr Y0 (Y0.Sp.getD Y1.toNat default)) (fneg .f32 (Z4h (Zr Y0 (Y0.Sp.getD Y1.toNat default)) (Y0.Sp.getD Y1.toNat default))) (Z3z Y0 Y1 Y8) y_9 Y1c Y1j) [2, 1] (R := [.box 42 [.sl (Y0.Me.Pq.map Gv.c), .sl (Y0.Me.Tr.map (cL (cI .i64))), .sl (Y0.Sp.map Gs.c), .f .f32 Y0.Film, .f .f32 Y0.Bend, .sl (Y0.We.map (cF .f32)), .f .f32 Y0.Fall.X, .f .f32 Y0.Fall.Y, .f .f32 Y0.Fall.Z], .vec 40 3 ((Z3z Y0 Y1 Y8).map Gv.c) false, .box 34 [.own 1], .box 133 [.i .i64 ((Y0.Sp.getD Y1.toNat default).A), .i .i64 ((Y0.Sp.getD Y1.toNat default).B), .f .f32 ((Y0.Sp.getD Y1.toNat default).Long), .f .f32 ((Y0.Sp.getD Y1.toNat default).Stiff)], .box 40 [.f .f32 ((Zr Y0 (Y0.Sp.getD Y1.toNat default)).X), .f .f32 ((Zr Y0 (Y0.Sp.getD Y1.toNat default)).Y), .f .f32 ((Zr Y0 (Y0.Sp.getD Y1.toNat default)).Z)]]) (args' := [.i .i64 ((Y0.Sp.getD Y1.toNat default).B), .agg [.f .f32 ((Zr Y0 (Y0.Sp.getD Y1.toNat default)).X), .f .f32 ((Zr Y0 (Y0.Sp.getD Y1.toNat default)).Y), .f .f32 ((Zr Y0 (Y0.Sp.getD Y1.toNat default)).Z)], .f .f32 (fneg .f32 (Z4h (Zr Y0 (Y0.Sp.getD Y1.toNat default)) (Y0.Sp.getD Y1.toNat default))), .ptr 2 0 0]) rfl rfl rfl rfl rfl rfl) <| sI (Y1 + 1) Y1m Y1n <| sN) (by kernel_rfl)
  | false =>
   have YM := odf Yj
   have e : Z1z Y0 (k + 1) Y1 Y8 = Y8 := by simp only [Z1z, Yj, cond_false]
   rw [e]
   exact outR (e := (.exit 0)) E0Ok Z5 [] (mR false [0, 5, 18, 8, 148]) [0, 2, 1] (sB Yj <| sN) (by kernel_rfl) (by intro h; cases h)
theorem ZcG (Y0 : Gb) : ∀ (k : Nat) (Y1 : Int) (Y8 : (List Gv)) (hk : ((Y0.Sp.length : Int) - Y1).toNat < k), (Z1z Y0 k Y1 Y8).length = Y8.length := by
  intro k
  induction k with
  | zero => intro Y1 Y8 hk; exact absurd hk (Nat.not_lt_zero _)
  | succ k ih =>
    intro Y1 Y8 hk
    cases Yj : (decide (Y1 < (Y0.Sp.length : Int))) with
    | true =>
      have e : Z1z Y0 (k + 1) Y1 Y8 = (Z1z Y0 k (Y1 + 1) (Z3A Y0 Y1 Y8)) := by simp only [Z1z, Yj, cond_true]
      rw [e, ih (Y1 + 1) (Z3A Y0 Y1 Y8) (by simp_all <;> omega)]; simp
    | false =>
      have e : Z1z Y0 (k + 1) Y1 Y8 = Y8 := by simp only [Z1z, Yj, cond_false]
      first | (rw [e]; done) | (rw [e]; rfl)
def Z3e (Y0 : Gb) : (List Gv) := (Z1z Y0 (((Y0.Sp.length : Int) - 0).toNat + 1) 0 (List.replicate (Y0.Me.Pq.length : Int).toNat (⟨0, 0, 0⟩ : Gv)))
@[simp] theorem Zgo (Y0 : Gb) : (Z3e Y0).length = ((List.replicate (Y0.Me.Pq.length : Int).toNat (⟨0, 0, 0⟩ : Gv)) : (List Gv)).length := ZcG Y0 (((Y0.Sp.length : Int) - 0).toNat + 1) 0 (List.replicate (Y0.Me.Pq.length : Int).toNat (⟨0, 0, 0⟩ : Gv)) (by exact Nat.lt_succ_self _)
def Z2m (Y0 : Gb) (Y1 : Int) (Y6 : Int) : Gv := (Z23 (Y0.Me.Pq.getD ((Y0.Me.Tr.getD Y1.toNat default).getD (Int.tmod (Y6 + 2) 3).toNat default).toNat default) (Y0.Me.Pq.getD ((Y0.Me.Tr.getD Y1.toNat default).getD (Int.tmod (Y6 + 1) 3).toNat default).toNat default))
def Z3B (Y0 : Gb) (Y1 : Int) (Y6 : Int) (YG : (List Gv)) : (List Gv) := (Zy ((Y0.Me.Tr.getD Y1.toNat default).getD Y6.toNat default) (Z2I (Zc Y0.Me (Y0.Me.Tr.getD Y1.toNat default)) (Z2m Y0 Y1 Y6)) (fop .quo .f32 (fneg .f32 (fop .mul .f32 1056964608 Y0.Film)) (Zv (Zc Y0.Me (Y0.Me.Tr.getD Y1.toNat default)))) YG)
@[simp] theorem ZgV (Y0 : Gb) (Y1 : Int) (Y6 : Int) (YG : (List Gv)) : (Z3B Y0 Y1 Y6 YG).length = YG.length := by unfold Z3B; simp
def Z1l (Y0 : Gb) (Y1 : Int) (Ya : (List Gv)) : Nat → Int → (List Gv) → (List Gv)
  | 0, _, _ => default
  | k + 1, Y6, YG => (cond (decide (Y6 < 3))
    (Z1l Y0 Y1 Ya k (Y6 + 1) (Z3B Y0 Y1 Y6 YG))
    YG)
def Z7j (Y0 : Gb) (Y1 : Int) (Ya : (List Gv)) (r : (List Gv)) : Ex × St := ((.exit 4), ⟨.agg [.sl (Y0.Me.Pq.map Gv.c), .sl (Y0.Me.Tr.map (cL (cI .i64))), .sl (Y0.Sp.map Gs.c), .f .f32 Y0.Film, .f .f32 Y0.Bend, .sl (Y0.We.map (cF .f32)), .f .f32 Y0.Fall.X, .f .f32 Y0.Fall.Y, .f .f32 Y0.Fall.Z] :: .ptr 0 0 0 :: .nils :: .ptr 1 0 0 :: .fn 106 [.ptr 1 0 0] :: an 4 (.sl (Y0.Me.Pq.map Gv.c) :: .any :: .sl ((Y0.Me.Tr.getD Y1.toNat default).map (cI .i64)) :: .ptr 2 0 0 :: .f .f32 (fop .quo .f32 (fneg .f32 (fop .mul .f32 1056964608 Y0.Film)) (Zv (Zc Y0.Me (Y0.Me.Tr.getD Y1.toNat default)))) :: .f .f32 (Zv (Zc Y0.Me (Y0.Me.Tr.getD Y1.toNat default))) :: an 8 (.ptr 0 0 0 :: .ptr 0 0 0 :: .sl (Y0.Me.Pq.map Gv.c) :: .i .i64 (Y0.Me.Pq.length : Int) :: .own 3 :: .fn 106 [.ptr 1 0 0] :: .ptr 0 0 2 :: .sl (Y0.Sp.map Gs.c) :: an 25 (.ptr 0 0 0 :: .ptr 0 0 0 :: .sl (Y0.Me.Pq.map Gv.c) :: .ptr 0 0 0 :: .ptr 0 0 1 :: .sl (Y0.Me.Tr.map (cL (cI .i64))) :: .i .i64 (Y0.Me.Tr.length : Int) :: .i .i64 Y1 :: .b (decide (Y1 < (Y0.Me.Tr.length : Int))) :: .ref [.sl ((Y0.Me.Tr.getD Y1.toNat default).map (cI .i64))] 0 :: .sl ((Y0.Me.Tr.getD Y1.toNat default).map (cI .i64)) :: .ptr 0 0 0 :: .agg [.sl (Y0.Me.Pq.map Gv.c), .sl (Y0.Me.Tr.map (cL (cI .i64)))] :: .sl ((Y0.Me.Tr.getD Y1.toNat default).map (cI .i64)) :: .agg [.f .f32 ((Zc Y0.Me (Y0.Me.Tr.getD Y1.toNat default)).X), .f .f32 ((Zc Y0.Me (Y0.Me.Tr.getD Y1.toNat default)).Y), .f .f32 ((Zc Y0.Me (Y0.Me.Tr.getD Y1.toNat default)).Z)] :: .agg [.f .f32 ((Zc Y0.Me (Y0.Me.Tr.getD Y1.toNat default)).X), .f .f32 ((Zc Y0.Me (Y0.Me.Tr.getD Y1.toNat default)).Y), .f .f32 ((Zc Y0.Me (Y0.Me.Tr.getD Y1.toNat default)).Z)] :: .f .f32 (Zv (Zc Y0.Me (Y0.Me.Tr.getD Y1.toNat default))) :: .f .f32 (Zv (Zc Y0.Me (Y0.Me.Tr.getD Y1.toNat default))) :: .b (fcmp .gtr .f32 (Zv (Zc Y0.Me (Y0.Me.Tr.getD Y1.toNat default))) 0) :: .ptr 0 0 3 :: .f .f32 Y0.Film :: .f .f32 (fop .mul .f32 1056964608 Y0.Film) :: .f .f32 (fneg .f32 (fop .mul .f32 1056964608 Y0.Film)) :: .f .f32 (Zv (Zc Y0.Me (Y0.Me.Tr.getD Y1.toNat default))) :: .f .f32 (fop .quo .f32 (fneg .f32 (fop .mul .f32 1056964608 Y0.Film)) (Zv (Zc Y0.Me (Y0.Me.Tr.getD Y1.toNat default)))) :: an 98 []))), [.box 42 [.sl (Y0.Me.Pq.map Gv.c), .sl (Y0.Me.Tr.map (cL (cI .i64))), .sl (Y0.Sp.map Gs.c), .f .f32 Y0.Film, .f .f32 Y0.Bend, .sl (Y0.We.map (cF .f32)), .f .f32 Y0.Fall.X, .f .f32 Y0.Fall.Y, .f .f32 Y0.Fall.Z], .box 34 [.own 3], .box 40 [.f .f32 ((Zc Y0.Me (Y0.Me.Tr.getD Y1.toNat default)).X), .f .f32 ((Zc Y0.Me (Y0.Me.Tr.getD Y1.toNat default)).Y), .f .f32 ((Zc Y0.Me (Y0.Me.Tr.getD Y1.toNat default)).Z)], .vec 40 3 (r.map Gv.c) false]⟩)
def ZdJ (Y0 : Gb) (Y1 : Int) (Ya : (List Gv)) (Y6 : Int) (YG : (List Gv)) : St := ⟨.agg [.sl (Y0.Me.Pq.map Gv.c), .sl (Y0.Me.Tr.map (cL (cI .i64))), .sl (Y0.Sp.map Gs.c), .f .f32 Y0.Film, .f .f32 Y0.Bend, .sl (Y0.We.map (cF .f32)), .f .f32 Y0.Fall.X, .f .f32 Y0.Fall.Y, .f .f32 Y0.Fall.Z] :: .ptr 0 0 0 :: .nils :: .ptr 1 0 0 :: .fn 106 [.ptr 1 0 0] :: an 4 (.sl (Y0.Me.Pq.map Gv.c) :: .any :: .sl ((Y0.Me.Tr.getD Y1.toNat default).map (cI .i64)) :: .ptr 3 0 0 :: .f .f32 (fop .quo .f32 (fneg .f32 (fop .mul .f32 1056964608 Y0.Film)) (Zv (Zc Y0.Me (Y0.Me.Tr.getD Y1.toNat default)))) :: .f .f32 (Zv (Zc Y0.Me (Y0.Me.Tr.getD Y1.toNat default))) :: an 8 (.ptr 0 0 0 :: .ptr 0 0 0 :: .sl (Y0.Me.Pq.map Gv.c) :: .i .i64 (Y0.Me.Pq.length : Int) :: .own 2 :: .fn 106 [.ptr 1 0 0] :: .ptr 0 0 2 :: .sl (Y0.Sp.map Gs.c) :: an 25 (.ptr 0 0 0 :: .ptr 0 0 0 :: .sl (Y0.Me.Pq.map Gv.c) :: .ptr 0 0 0 :: .ptr 0 0 1 :: .sl (Y0.Me.Tr.map (cL (cI .i64))) :: .i .i64 (Y0.Me.Tr.length : Int) :: .i .i64 Y1 :: .b (decide (Y1 < (Y0.Me.Tr.length : Int))) :: .ref [.sl ((Y0.Me.Tr.getD Y1.toNat default).map (cI .i64))] 0 :: .sl ((Y0.Me.Tr.getD Y1.toNat default).map (cI .i64)) :: .ptr 0 0 0 :: .agg [.sl (Y0.Me.Pq.map Gv.c), .sl (Y0.Me.Tr.map (cL (cI .i64)))] :: .sl ((Y0.Me.Tr.getD Y1.toNat default).map (cI .i64)) :: .agg [.f .f32 ((Zc Y0.Me (Y0.Me.Tr.getD Y1.toNat default)).X), .f .f32 ((Zc Y0.Me (Y0.Me.Tr.getD Y1.toNat default)).Y), .f .f32 ((Zc Y0.Me (Y0.Me.Tr.getD Y1.toNat default)).Z)] :: .agg [.f .f32 ((Zc Y0.Me (Y0.Me.Tr.getD Y1.toNat default)).X), .f .f32 ((Zc Y0.Me (Y0.Me.Tr.getD Y1.toNat default)).Y), .f .f32 ((Zc Y0.Me (Y0.Me.Tr.getD Y1.toNat default)).Z)] :: .f .f32 (Zv (Zc Y0.Me (Y0.Me.Tr.getD Y1.toNat default))) :: .f .f32 (Zv (Zc Y0.Me (Y0.Me.Tr.getD Y1.toNat default))) :: .b (fcmp .gtr .f32 (Zv (Zc Y0.Me (Y0.Me.Tr.getD Y1.toNat default))) 0) :: .ptr 0 0 3 :: .f .f32 Y0.Film :: .f .f32 (fop .mul .f32 1056964608 Y0.Film) :: .f .f32 (fneg .f32 (fop .mul .f32 1056964608 Y0.Film)) :: .f .f32 (Zv (Zc Y0.Me (Y0.Me.Tr.getD Y1.toNat default))) :: .f .f32 (fop .quo .f32 (fneg .f32 (fop .mul .f32 1056964608 Y0.Film)) (Zv (Zc Y0.Me (Y0.Me.Tr.getD Y1.toNat default)))) :: .i .i64 Y6 :: an 97 []))), [.box 42 [.sl (Y0.Me.Pq.map Gv.c), .sl (Y0.Me.Tr.map (cL (cI .i64))), .sl (Y0.Sp.map Gs.c), .f .f32 Y0.Film, .f .f32 Y0.Bend, .sl (Y0.We.map (cF .f32)), .f .f32 Y0.Fall.X, .f .f32 Y0.Fall.Y, .f .f32 Y0.Fall.Z], .box 34 [.own 2], .vec 40 3 (YG.map Gv.c) false, .box 40 [.f .f32 ((Zc Y0.Me (Y0.Me.Tr.getD Y1.toNat default)).X), .f .f32 ((Zc Y0.Me (Y0.Me.Tr.getD Y1.toNat default)).Y), .f .f32 ((Zc Y0.Me (Y0.Me.Tr.getD Y1.toNat default)).Z)]]⟩
def Z96 : List Bool := (mR false [0, 5, 4, 1, 1, 4, 8, 8, 25, 26, 97])
def ZcH : List Bool := (mR false [0, 5, 4, 1, 1, 4, 8, 8, 25, 25, 98])
theorem ZdK (Y0 : Gb) (Y1 : Int) (Ya : (List Gv)) (hp0 : Y0.Me.Pq.length ≤ 1073741824) (hp1 : Y0.Me.Tr.length ≤ 1073741824) (hp2 : ∀ t ∈ Y0.Me.Tr, t.length ≤ 1073741824) (hp3 : Y0.Sp.length ≤ 1073741824) (hp4 : Y0.We.length ≤ 1073741824) (hp5 : OkBd Y0) (Z43 : 0 ≤ Y1) (Z44 : Ya.length = Y0.Me.Pq.length) (Z2i : (decide (Y1 < (Y0.Me.Tr.length : Int))) = true) : ∀ (k : Nat) (Y6 : Int) (YG : (List Gv)) (Z97 : 0 ≤ Y6) (Z98 : YG.length = Ya.length) (hk : ((3 : Int) - Y6).toNat < k), Lp prog 0 (sub (bodyOf f57) [1, 1, 1, 1, 1, 0, 1, 0, 0, 1, 1, 0, 0, 1, 1, 1, 1, 1, 0, 0]) (ZdJ Y0 Y1 Ya Y6 YG) (Z7j Y0 Y1 Ya (Z1l Y0 Y1 Ya k Y6 YG)).1 (Z7j Y0 Y1 Ya (Z1l Y0 Y1 Ya k Y6 YG)).2 := by
 intro k
 induction k with
 | zero => intro Y6 YG Z97 Z98 hk; exact absurd hk (Nat.not_lt_zero _)
 | succ k ih =>
  intro Y6 YG Z97 Z98 hk
  cases YW : (decide (Y6 < 3)) with
  | true =>
   have YU := odt YW
   have Y1g : (-9223372036854775808 : Int) ≤ (Y6 + 1) := (by omega)
   have Y1h : (Y6 + 1) ≤ (9223372036854775807 : Int) := (by omega)
   have Y1e : (0 : Int) ≤ (Int.tmod (Y6 + 1) 3) := (by have q := Z2G hp5.e (by assumption) (odt Z2i) (by assumption) YU; omega)
   have Y1b : (Int.tmod (Y6 + 1) 3) < ((Y0.Me.Tr.getD Y1.toNat default).length : Int) := (by have q := Z2G hp5.e (by assumption) (odt Z2i) (by assumption) YU; omega)
   have Y1i : (-9223372036854775808 : Int) ≤ (Y6 + 2) := (by omega)
   have Y1o : (Y6 + 2) ≤ (9223372036854775807 : Int) := (by omega)
   have Y1k : (0 : Int) ≤ (Int.tmod (Y6 + 2) 3) := (by have q := Z2G hp5.e (by assumption) (odt Z2i) (by assumption) YU; omega)
   have Y1p : (Int.tmod (Y6 + 2) 3) < ((Y0.Me.Tr.getD Y1.toNat default).length : Int) := (by have q := Z2G hp5.e (by assumption) (odt Z2i) (by assumption) YU; omega)
   have Y1C : (0 : Int) ≤ Y6 := (by assumption)
   have Y1J : Y6 < ((Y0.Me.Tr.getD Y1.toNat default).length : Int) := (by have q := Z2G hp5.e (by assumption) (odt Z2i) (by assumption) YU; omega)
   have Y1D : (0 : Int) ≤ ((Y0.Me.Tr.getD Y1.toNat default).getD (Int.tmod (Y6 + 2) 3).toNat default) := (by have q := Z2G hp5.e (by assumption) (odt Z2i) (by assumption) YU; omega)
   have Y1E : ((Y0.Me.Tr.getD Y1.toNat default).getD (Int.tmod (Y6 + 2) 3).toNat default) < (Y0.Me.Pq.length : Int) := (by have q := Z2G hp5.e (by assumption) (odt Z2i) (by assumption) YU; omega)
   have Y1x : (0 : Int) ≤ ((Y0.Me.Tr.getD Y1.toNat default).getD (Int.tmod (Y6 + 1) 3).toNat default) := (by have q := Z2G hp5.e (by assumption) (odt Z2i) (by assumption) YU; omega)
   have Y1y : ((Y0.Me.Tr.getD Y1.toNat default).getD (Int.tmod (Y6 + 1) 3).toNat default) < (Y0.Me.Pq.length : Int) := (by have q := Z2G hp5.e (by assumption) (odt Z2i) (by assumption) YU; omega)
   have Y1z : YG.length ≤ 1073741824 := (by omega)
   have Y1A : 0 ≤ ((Y0.Me.Tr.getD Y1.toNat default).getD Y6.toNat default) := (by have q := Z2G hp5.e (by assumption) (odt Z2i) (by assumption) YU; omega)
   have Y1B : ((Y0.Me.Tr.getD Y1.toNat default).getD Y6.toNat default) < (YG.length : Int) := (by have q := Z2G hp5.e (by assumption) (odt Z2i) (by assumption) YU; omega)
   have e : Z1l Y0 Y1 Ya (k + 1) Y6 YG = (Z1l Y0 Y1 Ya k (Y6 + 1) (Z3B Y0 Y1 Y6 YG)) := by simp only [Z1l, YW, cond_true]
   rw [e]
   exact nextR E0Ok Z5 [] Z96 [0, 1, 2, 3] (ih (Y6 + 1) (Z3B Y0 Y1 Y6 YG) (show 0 ≤ (Y6 + 1) from (by omega)) (show (Z3B Y0 Y1 Y6 YG).length = Ya.length from (by simp_all <;> omega)) (by omega)) (sB YW <| sK [13, 13] <| sI (Y6 + 1) Y1g Y1h <| sC (show (3 : Int) ≠ 0 from (by decide)) <| sQ (Int.tmod (Y6 + 1) 3) <| sG (cI .i64) (Y0.Me.Tr.getD Y1.toNat default) (Int.tmod (Y6 + 1) 3) Y1e Y1b <| sI (Y6 + 2) Y1i Y1o <| sC (show (3 : Int) ≠ 0 from (by decide)) <| sQ (Int.tmod (Y6 + 2) 3) <| sG (cI .i64) (Y0.Me.Tr.getD Y1.toNat default) (Int.tmod (Y6 + 2) 3) Y1k Y1p <| sK [17, 17] <| sG (cI .i64) (Y0.Me.Tr.getD Y1.toNat default) Y6 Y1C Y1J <| sG Gv.c Y0.Me.Pq ((Y0.Me.Tr.getD Y1.toNat default).getD (Int.tmod (Y6 + 2) 3).toNat default) Y1D Y1E <| sG Gv.c Y0.Me.Pq ((Y0.Me.Tr.getD Y1.toNat default).getD (Int.tmod (Y6 + 1) 3).toNat default) Y1x Y1y <| sF (Z4q (Y0.Me.Pq.getD ((Y0.Me.Tr.getD Y1.toNat default).getD (Int.tmod (Y6 + 2) 3).toNat default).toNat default) (Y0.Me.Pq.getD ((Y0.Me.Tr.getD Y1.toNat default).getD (Int.tmod (Y6 + 1) 3).toNat default).toNat default)) <| sF (Z9W (Zc Y0.Me (Y0.Me.Tr.getD Y1.toNat default)) (Z2m Y0 Y1 Y6)) <| sS (CallSt.frame (Z28 ((Y0.Me.Tr.getD Y1.toNat default).getD Y6.toNat default) (Z2I (Zc Y0.Me (Y0.Me.Tr.getD Y1.toNat default)) (Z2m Y0 Y1 Y6)) (fop .quo .f32 (fneg .f32 (fop .mul .f32 1056964608 Y0.Film)) (Zv (Zc Y0.Me (Y0.Me.Tr.getD Y1.toNat default)))) YG Y1z Y1A Y1B) [1, 2] (R := [.box 42 [.sl (Y0.Me.Pq.map Gv.c), .sl (Y0.Me.Tr.map (cL (cI .i64))), .sl (Y0.Sp.map Gs.c), .f .f32 Y0.Film, .f .f32 Y0.Bend, .sl (Y0.We.map (cF .f32)), .f .f32 Y0.Fall.X, .f .f32 Y0.Fall.Y, .f .f32 Y0.Fall.Z], .box 34 [.own 2], .vec 40 3 (YG.map Gv.c) false, .box 40 [.f .f32 ((Zc Y0.Me (Y0.Me.Tr.getD Y1.toNat default)).X), .f .f32 ((Zc Y0.Me (Y0.Me.Tr.getD Y1.toNat default)).Y), .f .f32 ((Zc Y0.Me (Y0.Me.Tr.getD Y1.toNat default)).Z)]]) (args' := [.i .i64 ((Y0.Me.Tr.getD Y1.toNat default).getD Y6.toNat default), .agg [.f .f32 ((Z2I (Zc Y0.Me (Y0.Me.Tr.getD Y1.toNat default)) (Z2m Y0 Y1 Y6)).X), .f .f32 ((Z2I (Zc Y0.Me (Y0.Me.Tr.getD Y1.toNat default)) (Z2m Y0 Y1 Y6)).Y), .f .f32 ((Z2I (Zc Y0.Me (Y0.Me.Tr.getD Y1.toNat default)) (Z2m Y0 Y1 Y6)).Z)], .f .f32 (fop .quo .f32 (fneg .f32 (fop .mul .f32 1056964608 Y0.Film)) (Zv (Zc Y0.Me (Y0.Me.Tr.getD Y1.toNat default)))), .ptr 1 0 0]) rfl rfl rfl rfl rfl rfl) <| sI (Y6 + 1) Y1g Y1h <| sN) (by kernel_rfl)
  | false =>
   have YU := odf YW
   have e : Z1l Y0 Y1 Ya (k + 1) Y6 YG = YG := by simp only [Z1l, YW, cond_false]
   rw [e]
   exact outR (e := (.exit 4)) E0Ok Z5 [] ZcH [0, 1, 3, 2] (sB YW <| sN) (by kernel_rfl) (by intro h; cases h)
theorem ZcI (Y0 : Gb) (Y1 : Int) (Ya : (List Gv)) : ∀ (k : Nat) (Y6 : Int) (YG : (List Gv)) (hk : ((3 : Int) - Y6).toNat < k), (Z1l Y0 Y1 Ya k Y6 YG).length = YG.length := by
  intro k
  induction k with
  | zero => intro Y6 YG hk; exact absurd hk (Nat.not_lt_zero _)
  | succ k ih =>
    intro Y6 YG hk
    cases YW : (decide (Y6 < 3)) with
    | true =>
      have e : Z1l Y0 Y1 Ya (k + 1) Y6 YG = (Z1l Y0 Y1 Ya k (Y6 + 1) (Z3B Y0 Y1 Y6 YG)) := by simp only [Z1l, YW, cond_true]
      rw [e, ih (Y6 + 1) (Z3B Y0 Y1 Y6 YG) (by simp_all <;> omega)]; simp
    | false =>
      have e : Z1l Y0 Y1 Ya (k + 1) Y6 YG = YG := by simp only [Z1l, YW, cond_false]
      first | (rw [e]; done) | (rw [e]; rfl)
def Z2Q (Y0 : Gb) (Y1 : Int) (Ya : (List Gv)) : (List Gv) := (Z1l Y0 Y1 Ya (((3 : Int) - 0).toNat + 1) 0 Ya)
@[simp] theorem Zgp (Y0 : Gb) (Y1 : Int) (Ya : (List Gv)) : (Z2Q Y0 Y1 Ya).length = (Ya : (List Gv)).length := ZcI Y0 Y1 Ya (((3 : Int) - 0).toNat + 1) 0 Ya (by exact Nat.lt_succ_self _)
def Z3C (Y0 : Gb) (Y1 : Int) (Y6 : Int) (YG : (List Gv)) : (List Gv) := (Zy ((Y0.Me.Tr.getD Y1.toNat default).getD Y6.toNat default) (Z2I (Zc Y0.Me (Y0.Me.Tr.getD Y1.toNat default)) (Z2m Y0 Y1 Y6)) 0 YG)
@[simp] theorem ZgW (Y0 : Gb) (Y1 : Int) (Y6 : Int) (YG : (List Gv)) : (Z3C Y0 Y1 Y6 YG).length = YG.length := by unfold Z3C; simp
def Z1m (Y0 : Gb) (Y1 : Int) (Ya : (List Gv)) : Nat → Int → (List Gv) → (List Gv)
  | 0, _, _ => default
  | k + 1, Y6, YG => (cond (decide (Y6 < 3))
    (Z1m Y0 Y1 Ya k (Y6 + 1) (Z3C Y0 Y1 Y6 YG))
    YG)
def Z7k (Y0 : Gb) (Y1 : Int) (Ya : (List Gv)) (r : (List Gv)) : Ex × St := ((.exit 4), ⟨.agg [.sl (Y0.Me.Pq.map Gv.c), .sl (Y0.Me.Tr.map (cL (cI .i64))), .sl (Y0.Sp.map Gs.c), .f .f32 Y0.Film, .f .f32 Y0.Bend, .sl (Y0.We.map (cF .f32)), .f .f32 Y0.Fall.X, .f .f32 Y0.Fall.Y, .f .f32 Y0.Fall.Z] :: .ptr 0 0 0 :: .nils :: .ptr 1 0 0 :: .fn 106 [.ptr 1 0 0] :: an 4 (.sl (Y0.Me.Pq.map Gv.c) :: .any :: .sl ((Y0.Me.Tr.getD Y1.toNat default).map (cI .i64)) :: .ptr 2 0 0 :: .f .f32 0 :: .f .f32 (Zv (Zc Y0.Me (Y0.Me.Tr.getD Y1.toNat default))) :: an 8 (.ptr 0 0 0 :: .ptr 0 0 0 :: .sl (Y0.Me.Pq.map Gv.c) :: .i .i64 (Y0.Me.Pq.length : Int) :: .own 3 :: .fn 106 [.ptr 1 0 0] :: .ptr 0 0 2 :: .sl (Y0.Sp.map Gs.c) :: an 25 (.ptr 0 0 0 :: .ptr 0 0 0 :: .sl (Y0.Me.Pq.map Gv.c) :: .ptr 0 0 0 :: .ptr 0 0 1 :: .sl (Y0.Me.Tr.map (cL (cI .i64))) :: .i .i64 (Y0.Me.Tr.length : Int) :: .i .i64 Y1 :: .b (decide (Y1 < (Y0.Me.Tr.length : Int))) :: .ref [.sl ((Y0.Me.Tr.getD Y1.toNat default).map (cI .i64))] 0 :: .sl ((Y0.Me.Tr.getD Y1.toNat default).map (cI .i64)) :: .ptr 0 0 0 :: .agg [.sl (Y0.Me.Pq.map Gv.c), .sl (Y0.Me.Tr.map (cL (cI .i64)))] :: .sl ((Y0.Me.Tr.getD Y1.toNat default).map (cI .i64)) :: .agg [.f .f32 ((Zc Y0.Me (Y0.Me.Tr.getD Y1.toNat default)).X), .f .f32 ((Zc Y0.Me (Y0.Me.Tr.getD Y1.toNat default)).Y), .f .f32 ((Zc Y0.Me (Y0.Me.Tr.getD Y1.toNat default)).Z)] :: .agg [.f .f32 ((Zc Y0.Me (Y0.Me.Tr.getD Y1.toNat default)).X), .f .f32 ((Zc Y0.Me (Y0.Me.Tr.getD Y1.toNat default)).Y), .f .f32 ((Zc Y0.Me (Y0.Me.Tr.getD Y1.toNat default)).Z)] :: .f .f32 (Zv (Zc Y0.Me (Y0.Me.Tr.getD Y1.toNat default))) :: .f .f32 (Zv (Zc Y0.Me (Y0.Me.Tr.getD Y1.toNat default))) :: .b (fcmp .gtr .f32 (Zv (Zc Y0.Me (Y0.Me.Tr.getD Y1.toNat default))) 0) :: an 104 []))), [.box 42 [.sl (Y0.Me.Pq.map Gv.c), .sl (Y0.Me.Tr.map (cL (cI .i64))), .sl (Y0.Sp.map Gs.c), .f .f32 Y0.Film, .f .f32 Y0.Bend, .sl (Y0.We.map (cF .f32)), .f .f32 Y0.Fall.X, .f .f32 Y0.Fall.Y, .f .f32 Y0.Fall.Z], .box 34 [.own 3], .box 40 [.f .f32 ((Zc Y0.Me (Y0.Me.Tr.getD Y1.toNat default)).X), .f .f32 ((Zc Y0.Me (Y0.Me.Tr.getD Y1.toNat default)).Y), .f .f32 ((Zc Y0.Me (Y0.Me.Tr.getD Y1.toNat default)).Z)], .vec 40 3 (r.map Gv.c) false]⟩)
def ZdL (Y0 : Gb) (Y1 : Int) (Ya : (List Gv)) (Y6 : Int) (YG : (List Gv)) : St := ⟨.agg [.sl (Y0.Me.Pq.map Gv.c), .sl (Y0.Me.Tr.map (cL (cI .i64))), .sl (Y0.Sp.map Gs.c), .f .f32 Y0.Film, .f .f32 Y0.Bend, .sl (Y0.We.map (cF .f32)), .f .f32 Y0.Fall.X, .f .f32 Y0.Fall.Y, .f .f32 Y0.Fall.Z] :: .ptr 0 0 0 :: .nils :: .ptr 1 0 0 :: .fn 106 [.ptr 1 0 0] :: an 4 (.sl (Y0.Me.Pq.map Gv.c) :: .any :: .sl ((Y0.Me.Tr.getD Y1.toNat default).map (cI .i64)) :: .ptr 3 0 0 :: .f .f32 0 :: .f .f32 (Zv (Zc Y0.Me (Y0.Me.Tr.getD Y1.toNat default))) :: an 8 (.ptr 0 0 0 :: .ptr 0 0 0 :: .sl (Y0.Me.Pq.map Gv.c) :: .i .i64 (Y0.Me.Pq.length : Int) :: .own 2 :: .fn 106 [.ptr 1 0 0] :: .ptr 0 0 2 :: .sl (Y0.Sp.map Gs.c) :: an 25 (.ptr 0 0 0 :: .ptr 0 0 0 :: .sl (Y0.Me.Pq.map Gv.c) :: .ptr 0 0 0 :: .ptr 0 0 1 :: .sl (Y0.Me.Tr.map (cL (cI .i64))) :: .i .i64 (Y0.Me.Tr.length : Int) :: .i .i64 Y1 :: .b (decide (Y1 < (Y0.Me.Tr.length : Int))) :: .ref [.sl ((Y0.Me.Tr.getD Y1.toNat default).map (cI .i64))] 0 :: .sl ((Y0.Me.Tr.getD Y1.toNat default).map (cI .i64)) :: .ptr 0 0 0 :: .agg [.sl (Y0.Me.Pq.map Gv.c), .sl (Y0.Me.Tr.map (cL (cI .i64)))] :: .sl ((Y0.Me.Tr.getD Y1.toNat default).map (cI .i64)) :: .agg [.f .f32 ((Zc Y0.Me (Y0.Me.Tr.getD Y1.toNat default)).X), .f .f32 ((Zc Y0.Me (Y0.Me.Tr.getD Y1.toNat default)).Y), .f .f32 ((Zc Y0.Me (Y0.Me.Tr.getD Y1.toNat default)).Z)] :: .agg [.f .f32 ((Zc Y0.Me (Y0.Me.Tr.getD Y1.toNat default)).X), .f .f32 ((Zc Y0.Me (Y0.Me.Tr.getD Y1.toNat default)).Y), .f .f32 ((Zc Y0.Me (Y0.Me.Tr.getD Y1.toNat default)).Z)] :: .f .f32 (Zv (Zc Y0.Me (Y0.Me.Tr.getD Y1.toNat default))) :: .f .f32 (Zv (Zc Y0.Me (Y0.Me.Tr.getD Y1.toNat default))) :: .b (fcmp .gtr .f32 (Zv (Zc Y0.Me (Y0.Me.Tr.getD Y1.toNat default))) 0) :: an 6 (.i .i64 Y6 :: an 97 [])))), [.box 42 [.sl (Y0.Me.Pq.map Gv.c), .sl (Y0.Me.Tr.map (cL (cI .i64))), .sl (Y0.Sp.map Gs.c), .f .f32 Y0.Film, .f .f32 Y0.Bend, .sl (Y0.We.map (cF .f32)), .f .f32 Y0.Fall.X, .f .f32 Y0.Fall.Y, .f .f32 Y0.Fall.Z], .box 34 [.own 2], .vec 40 3 (YG.map Gv.c) false, .box 40 [.f .f32 ((Zc Y0.Me (Y0.Me.Tr.getD Y1.toNat default)).X), .f .f32 ((Zc Y0.Me (Y0.Me.Tr.getD Y1.toNat default)).Y), .f .f32 ((Zc Y0.Me (Y0.Me.Tr.getD Y1.toNat default)).Z)]]⟩
def Z99 : List Bool := (mR false [0, 5, 4, 1, 1, 4, 8, 8, 25, 19, 6, 1, 97])
def ZcJ : List Bool := (mR false [0, 5, 4, 1, 1, 4, 8, 8, 25, 19, 104])
theorem ZdM (Y0 : Gb) (Y1 : Int) (Ya : (List Gv)) (hp0 : Y0.Me.Pq.length ≤ 1073741824) (hp1 : Y0.Me.Tr.length ≤ 1073741824) (hp2 : ∀ t ∈ Y0.Me.Tr, t.length ≤ 1073741824) (hp3 : Y0.Sp.length ≤ 1073741824) (hp4 : Y0.We.length ≤ 1073741824) (hp5 : OkBd Y0) (Z43 : 0 ≤ Y1) (Z44 : Ya.length = Y0.Me.Pq.length) (Z2j : (decide (Y1 < (Y0.Me.Tr.length : Int))) = true) : ∀ (k : Nat) (Y6 : Int) (YG : (List Gv)) (Z9a : 0 ≤ Y6) (Z9b : YG.length = Ya.length) (hk : ((3 : Int) - Y6).toNat < k), Lp prog 0 (sub (bodyOf f57) [1, 1, 1, 1, 1, 0, 1, 0, 0, 1, 1, 0, 0, 1, 1, 1, 1, 1, 0, 0]) (ZdL Y0 Y1 Ya Y6 YG) (Z7k Y0 Y1 Ya (Z1m Y0 Y1 Ya k Y6 YG)).1 (Z7k Y0 Y1 Ya (Z1m Y0 Y1 Ya k Y6 YG)).2 := by
 intro k
 induction k with
 | zero => intro Y6 YG Z9a Z9b hk; exact absurd hk (Nat.not_lt_zero _)
 | succ k ih =>
  intro Y6 YG Z9a Z9b hk
  cases YW : (decide (Y6 < 3)) with
  | true =>
   have YU := odt YW
   have Y1g : (-9223372036854775808 : Int) ≤ (Y6 + 1) := (by omega)
   have Y1h : (Y6 + 1) ≤ (9223372036854775807 : Int) := (by omega)
   have Y1e : (0 : Int) ≤ (Int.tmod (Y6 + 1) 3) := (by have q := Z2G hp5.e (by assumption) (odt Z2j) (by assumption) YU; omega)
   have Y1b : (Int.tmod (Y6 + 1) 3) < ((Y0.Me.Tr.getD Y1.toNat default).length : Int) := (by have q := Z2G hp5.e (by assumption) (odt Z2j) (by assumption) YU; omega)
   have Y1i : (-9223372036854775808 : Int) ≤ (Y6 + 2) := (by omega)
   have Y1o : (Y6 + 2) ≤ (9223372036854775807 : Int) := (by omega)
   have Y1k : (0 : Int) ≤ (Int.tmod (Y6 + 2) 3) := (by have q := Z2G hp5.e (by assumption) (odt Z2j) (by assumption) YU; omega)
   have Y1p : (Int.tmod (Y6 + 2) 3) < ((Y0.Me.Tr.getD Y1.toNat default).length : Int) := (by have q := Z2G hp5.e (by assumption) (odt Z2j) (by assumption) YU; omega)
   have Y1C : (0 : Int) ≤ Y6 := (by assumption)
   have Y1J : Y6 < ((Y0.Me.Tr.getD Y1.toNat default).length : Int) := (by have q := Z2G hp5.e (by assumption) (odt Z2j) (by assumption) YU; omega)
   have Y1D : (0 : Int) ≤ ((Y0.Me.Tr.getD Y1.toNat default).getD (Int.tmod (Y6 + 2) 3).toNat default) := (by have q := Z2G hp5.e (by assumption) (odt Z2j) (by assumption) YU; omega)
   have Y1E : ((Y0.Me.Tr.getD Y1.toNat default).getD (Int.tmod (Y6 + 2) 3).toNat default) < (Y0.Me.Pq.length : Int) := (by have q := Z2G hp5.e (by assumption) (odt Z2j) (by assumption) YU; omega)
   have Y1x : (0 : Int) ≤ ((Y0.Me.Tr.getD Y1.toNat default).getD (Int.tmod (Y6 + 1) 3).toNat default) := (by have q := Z2G hp5.e (by assumption) (odt Z2j) (by assumption) YU; omega)
   have Y1y : ((Y0.Me.Tr.getD Y1.toNat default).getD (Int.tmod (Y6 + 1) 3).toNat default) < (Y0.Me.Pq.length : Int) := (by have q := Z2G hp5.e (by assumption) (odt Z2j) (by assumption) YU; omega)
   have Y1z : YG.length ≤ 1073741824 := (by omega)
   have Y1A : 0 ≤ ((Y0.Me.Tr.getD Y1.toNat default).getD Y6.toNat default) := (by have q := Z2G hp5.e (by assumption) (odt Z2j) (by assumption) YU; omega)
   have Y1B : ((Y0.Me.Tr.getD Y1.toNat default).getD Y6.toNat default) < (YG.length : Int) := (by have q := Z2G hp5.e (by assumption) (odt Z2j) (by assumption) YU; omega)
   have e : Z1m Y0 Y1 Ya (k + 1) Y6 YG = (Z1m Y0 Y1 Ya k (Y6 + 1) (Z3C Y0 Y1 Y6 YG)) := by simp only [Z1m, YW, cond_true]
   rw [e]
   exact nextR E0Ok Z5 [] Z99 [0, 1, 2, 3] (ih (Y6 + 1) (Z3C Y0 Y1 Y6 YG) (show 0 ≤ (Y6 + 1) from (by omega)) (show (Z3C Y0 Y1 Y6 YG).length = Ya.length from (by simp_all <;> omega)) (by omega)) (sB YW <| sK [13, 13] <| sI (Y6 + 1) Y1g Y1h <| sC (show (3 : Int) ≠ 0 from (by decide)) <| sQ (Int.tmod (Y6 + 1) 3) <| sG (cI .i64) (Y0.Me.Tr.getD Y1.toNat default) (Int.tmod (Y6 + 1) 3) Y1e Y1b <| sI (Y6 + 2) Y1i Y1o <| sC (show (3 : Int) ≠ 0 from (by decide)) <| sQ (Int.tmod (Y6 + 2) 3) <| sG (cI .i64) (Y0.Me.Tr.getD Y1.toNat default) (Int.tmod (Y6 + 2) 3) Y1k Y1p <| sK [17, 17] <| sG (cI .i64) (Y0.Me.Tr.getD Y1.toNat default) Y6 Y1C Y1J <| sG Gv.c Y0.Me.Pq ((Y0.Me.Tr.getD Y1.toNat default).getD (Int.tmod (Y6 + 2) 3).toNat default) Y1D Y1E <| sG Gv.c Y0.Me.Pq ((Y0.Me.Tr.getD Y1.toNat default).getD (Int.tmod (Y6 + 1) 3).toNat default) Y1x Y1y <| sF (Z4q (Y0.Me.Pq.getD ((Y0.Me.Tr.getD Y1.toNat default).getD (Int.tmod (Y6 + 2) 3).toNat default).toNat default) (Y0.Me.Pq.getD ((Y0.Me.Tr.getD Y1.toNat default).getD (Int.tmod (Y6 + 1) 3).toNat default).toNat default)) <| sF (Z9W (Zc Y0.Me (Y0.Me.Tr.getD Y1.toNat default)) (Z2m Y0 Y1 Y6)) <| sS (CallSt.frame (Z28 ((Y0.Me.Tr.getD Y1.toNat default).getD Y6.toNat default) (Z2I (Zc Y0.Me (Y0.Me.Tr.getD Y1.toNat default)) (Z2m Y0 Y1 Y6)) 0 YG Y1z Y1A Y1B) [1, 2] (R := [.box 42 [.sl (Y0.Me.Pq.map Gv.c), .sl (Y0.Me.Tr.map (cL (cI .i64))), .sl (Y0.Sp.map Gs.c), .f .f32 Y0.Film, .f .f32 Y0.Bend, .sl (Y0.We.map (cF .f32)), .f .f32 Y0.Fall.X, .f .f32 Y0.Fall.Y, .f .f32 Y0.Fall.Z], .box 34 [.own 2], .vec 40 3 (YG.map Gv.c) false, .box 40 [.f .f32 ((Zc Y0.Me (Y0.Me.Tr.getD Y1.toNat default)).X), .f .f32 ((Zc Y0.Me (Y0.Me.Tr.getD Y1.toNat default)).Y), .f .f32 ((Zc Y0.Me (Y0.Me.Tr.getD Y1.toNat default)).Z)]]) (args' := [.i .i64 ((Y0.Me.Tr.getD Y1.toNat default).getD Y6.toNat default), .agg [.f .f32 ((Z2I (Zc Y0.Me (Y0.Me.Tr.getD Y1.toNat default)) (Z2m Y0 Y1 Y6)).X), .f .f32 ((Z2I (Zc Y0.Me (Y0.Me.Tr.getD Y1.toNat default)) (Z2m Y0 Y1 Y6)).Y), .f .f32 ((Z2I (Zc Y0.Me (Y0.Me.Tr.getD Y1.toNat default)) (Z2m Y0 Y1 Y6)).Z)], .f .f32 0, .ptr 1 0 0]) rfl rfl rfl rfl rfl rfl) <| sI (Y6 + 1) Y1g Y1h <| sN) (by kernel_rfl)
  | false =>
   have YU := odf YW
   have e : Z1m Y0 Y1 Ya (k + 1) Y6 YG = YG := by simp only [Z1m, YW, cond_false]
   rw [e]
   exact outR (e := (.exit 4)) E0Ok Z5 [] ZcJ [0, 1, 3, 2] (sB YW <| sN) (by kernel_rfl) (by intro h; cases h)
theorem ZcK (Y0 : Gb) (Y1 : Int) (Ya : (List Gv)) : ∀ (k : Nat) (Y6 : Int) (YG : (List Gv)) (hk : ((3 : Int) - Y6).toNat < k), (Z1m Y0 Y1 Ya k Y6 YG).length = YG.length := by
  intro k
  induction k with
  | zero => intro Y6 YG hk; exact absurd hk (Nat.not_lt_zero _)
  | succ k ih =>
    intro Y6 YG hk
    cases YW : (decide (Y6 < 3)) with
    | true =>
      have e : Z1m Y0 Y1 Ya (k + 1) Y6 YG = (Z1m Y0 Y1 Ya k (Y6 + 1) (Z3C Y0 Y1 Y6 YG)) := by simp only [Z1m, YW, cond_true]
      rw [e, ih (Y6 + 1) (Z3C Y0 Y1 Y6 YG) (by simp_all <;> omega)]; simp
    | false =>
      have e : Z1m Y0 Y1 Ya (k + 1) Y6 YG = YG := by simp only [Z1m, YW, cond_false]
      first | (rw [e]; done) | (rw [e]; rfl)
def Z2R (Y0 : Gb) (Y1 : Int) (Ya : (List Gv)) : (List Gv) := (Z1m Y0 Y1 Ya (((3 : Int) - 0).toNat + 1) 0 Ya)
@[simp] theorem Zgq (Y0 : Gb) (Y1 : Int) (Ya : (List Gv)) : (Z2R Y0 Y1 Ya).length = (Ya : (List Gv)).length := ZcK Y0 Y1 Ya (((3 : Int) - 0).toNat + 1) 0 Ya (by exact Nat.lt_succ_self _)
def ZA (Y0 : Gb) : Nat → Int → (List Gv) → (List Gv)
  | 0, _, _ => default
  | k + 1, Y1, Ya => (cond (decide (Y1 < (Y0.Me.Tr.length : Int)))
    (cond (fcmp .gtr .f32 (Zv (Zc Y0.Me (Y0.Me.Tr.getD Y1.toNat default))) 0)
      (ZA Y0 k (Y1 + 1) (Z2Q Y0 Y1 Ya))
      (ZA Y0 k (Y1 + 1) (Z2R Y0 Y1 Ya)))
    Ya)
def Z7l (Y0 : Gb) (r : (List Gv)) : Ex × St := ((.exit 2), ⟨.agg [.sl (Y0.Me.Pq.map Gv.c), .sl (Y0.Me.Tr.map (cL (cI .i64))), .sl (Y0.Sp.map Gs.c), .f .f32 Y0.Film, .f .f32 Y0.Bend, .sl (Y0.We.map (cF .f32)), .f .f32 Y0.Fall.X, .f .f32 Y0.Fall.Y, .f .f32 Y0.Fall.Z] :: .ptr 0 0 0 :: .nils :: .ptr 1 0 0 :: .fn 106 [.ptr 1 0 0] :: an 18 (.ptr 0 0 0 :: .ptr 0 0 0 :: .sl (Y0.Me.Pq.map Gv.c) :: .i .i64 (Y0.Me.Pq.length : Int) :: .own 2 :: .fn 106 [.ptr 1 0 0] :: .ptr 0 0 2 :: .sl (Y0.Sp.map Gs.c) :: an 25 (.ptr 0 0 0 :: .ptr 0 0 0 :: .sl (Y0.Me.Pq.map Gv.c) :: .ptr 0 0 0 :: .ptr 0 0 1 :: .sl (Y0.Me.Tr.map (cL (cI .i64))) :: an 117 [])), [.box 42 [.sl (Y0.Me.Pq.map Gv.c), .sl (Y0.Me.Tr.map (cL (cI .i64))), .sl (Y0.Sp.map Gs.c), .f .f32 Y0.Film, .f .f32 Y0.Bend, .sl (Y0.We.map (cF .f32)), .f .f32 Y0.Fall.X, .f .f32 Y0.Fall.Y, .f .f32 Y0.Fall.Z], .box 34 [.own 2], .vec 40 3 (r.map Gv.c) false]⟩)
def ZdN (Y0 : Gb) (Y1 : Int) (Ya : (List Gv)) : St := ⟨.agg [.sl (Y0.Me.Pq.map Gv.c), .sl (Y0.Me.Tr.map (cL (cI .i64))), .sl (Y0.Sp.map Gs.c), .f .f32 Y0.Film, .f .f32 Y0.Bend, .sl (Y0.We.map (cF .f32)), .f .f32 Y0.Fall.X, .f .f32 Y0.Fall.Y, .f .f32 Y0.Fall.Z] :: .ptr 0 0 0 :: .nils :: .ptr 1 0 0 :: .fn 106 [.ptr 1 0 0] :: an 4 (.sl (Y0.Me.Pq.map Gv.c) :: an 13 (.ptr 0 0 0 :: .ptr 0 0 0 :: .sl (Y0.Me.Pq.map Gv.c) :: .i .i64 (Y0.Me.Pq.length : Int) :: .own 2 :: .fn 106 [.ptr 1 0 0] :: .ptr 0 0 2 :: .sl (Y0.Sp.map Gs.c) :: an 25 (.ptr 0 0 0 :: .ptr 0 0 0 :: .sl (Y0.Me.Pq.map Gv.c) :: .ptr 0 0 0 :: .ptr 0 0 1 :: .sl (Y0.Me.Tr.map (cL (cI .i64))) :: .i .i64 (Y0.Me.Tr.length : Int) :: .i .i64 Y1 :: an 115 []))), [.box 42 [.sl (Y0.Me.Pq.map Gv.c), .sl (Y0.Me.Tr.map (cL (cI .i64))), .sl (Y0.Sp.map Gs.c), .f .f32 Y0.Film, .f .f32 Y0.Bend, .sl (Y0.We.map (cF .f32)), .f .f32 Y0.Fall.X, .f .f32 Y0.Fall.Y, .f .f32 Y0.Fall.Z], .box 34 [.own 2], .vec 40 3 (Ya.map Gv.c) false]⟩
def Z6d : List Bool := (mR false [0, 5, 4, 1, 13, 8, 25, 8, 115])
theorem ZdO (Y0 : Gb) (hp0 : Y0.Me.Pq.length ≤ 1073741824) (hp1 : Y0.Me.Tr.length ≤ 1073741824) (hp2 : ∀ t ∈ Y0.Me.Tr, t.length ≤ 1073741824) (hp3 : Y0.Sp.length ≤ 1073741824) (hp4 : Y0.We.length ≤ 1073741824) (hp5 : OkBd Y0) : ∀ (k : Nat) (Y1 : Int) (Ya : (List Gv)) (Z43 : 0 ≤ Y1) (Z44 : Ya.length = Y0.Me.Pq.length) (hk : ((Y0.Me.Tr.length : Int) - Y1).toNat < k), Lp prog 0 (sub (bodyOf f57) [1, 1, 1, 1, 1, 0, 1, 0, 0]) (ZdN Y0 Y1 Ya) (Z7l Y0 (ZA Y0 k Y1 Ya)).1 (Z7l Y0 (ZA Y0 k Y1 Ya)).2 := by
 intro k
 induction k with
 | zero => intro Y1 Ya Z43 Z44 hk; exact absurd hk (Nat.not_lt_zero _)
 | succ k ih =>
  intro Y1 Ya Z43 Z44 hk
  cases Yj : (decide (Y1 < (Y0.Me.Tr.length : Int))) with
  | true =>
   have YM := odt Yj
   have YS : (0 : Int) ≤ Y1 := (by assumption)
   have YT : Y1 < (Y0.Me.Tr.length : Int) := (by assumption)
   have YY : (Y0.Me.Tr.getD Y1.toNat default).length ≤ 1073741824 := (by exact tri3L hp5.e (by assumption) Yj)
   have YZ : (Y0.Me.Tr.getD Y1.toNat default).length = 3 ∧ ∀ x ∈ (Y0.Me.Tr.getD Y1.toNat default), 0 ≤ x ∧ x < (Y0.Me.Pq.length : Int) := (by exact tri3 hp5.e (by assumption) Yj)
   have p {a C} (s : Scr a C) := sB Yj <| sG (cL (cI .i64)) Y0.Me.Tr Y1 YS YT <| sF (ZbH Y0.Me (Y0.Me.Tr.getD Y1.toNat default) hp0 hp1 hp2 YY YZ) <| sF (Z7W (Zc Y0.Me (Y0.Me.Tr.getD Y1.toNat default))) <| s
   cases YJ : (fcmp .gtr .f32 (Zv (Zc Y0.Me (Y0.Me.Tr.getD Y1.toNat default))) 0) with
   | true =>
    have y_4 : (-9223372036854775808 : Int) ≤ (Y1 + 1) := by clear p; exact (by omega)
    have y_5 : (Y1 + 1) ≤ (9223372036854775807 : Int) := by clear p; exact (by omega)
    have e : ZA Y0 (k + 1) Y1 Ya = (ZA Y0 k (Y1 + 1) (Z2Q Y0 Y1 Ya)) := by simp only [ZA, Yj, YJ, cond_true]
    rw [e]
    exact nextR E0Ok Z5 [] Z6d [0, 1, 3] (ih (Y1 + 1) (Z2Q Y0 Y1 Ya) (show 0 ≤ (Y1 + 1) from (by omega)) (show (Z2Q Y0 Y1 Ya).length = Y0.Me.Pq.length from (by simp_all <;> omega)) (by omega)) (p (sB YJ <| sL Z96 4 (lp_val (Z7j Y0 Y1 Ya) (x := (Z2Q Y0 Y1 Ya)) (ZdK Y0 Y1 Ya hp0 hp1 hp2 hp3 hp4 hp5 Z43 Z44 Yj (((3 : Int) - 0).toNat + 1) 0 Ya (show 0 ≤ 0 from (by omega)) (show Ya.length = Ya.length from (by omega)) (Nat.lt_succ_self _)) rfl) <| sI (Y1 + 1) y_4 y_5 <| sN)) (by kernel_rfl)
   | false =>
    have y_4 : (-9223372036854775808 : Int) ≤ (Y1 + 1) := by clear p; exact (by omega)
    have y_5 : (Y1 + 1) ≤ (9223372036854775807 : Int) := by clear p; exact (by omega)
    have e : ZA Y0 (k + 1) Y1 Ya = (ZA Y0 k (Y1 + 1) (Z2R Y0 Y1 Ya)) := by simp only [ZA, Yj, YJ, cond_true, cond_false]
    rw [e]
    exact nextR E0Ok Z5 [] Z6d [0, 1, 3] (ih (Y1 + 1) (Z2R Y0 Y1 Ya) (show 0 ≤ (Y1 + 1) from (by omega)) (show (Z2R Y0 Y1 Ya).length = Y0.Me.Pq.length from (by simp_all <;> omega)) (by omega)) (p (sB YJ <| sL Z99 4 (lp_val (Z7k Y0 Y1 Ya) (x := (Z2R Y0 Y1 Ya)) (ZdM Y0 Y1 Ya hp0 hp1 hp2 hp3 hp4 hp5 Z43 Z44 Yj (((3 : Int) - 0).toNat + 1) 0 Ya (show 0 ≤ 0 from (by omega)) (show Ya.length = Ya.length from (by omega)) (Nat.lt_succ_self _)) rfl) <| sI (Y1 + 1) y_4 y_5 <| sN)) (by kernel_rfl)
  | false =>
   have YM := odf Yj
   have e : ZA Y0 (k + 1) Y1 Ya = Ya := by simp only [ZA, Yj, cond_false]
   rw [e]
   exact outR (e := (.exit 2)) E0Ok Z5 [] (mR false [0, 5, 18, 8, 25, 6, 117]) [0, 1, 2] (sB Yj <| sN) (by kernel_rfl) (by intro h; cases h)
theorem ZcL (Y0 : Gb) : ∀ (k : Nat) (Y1 : Int) (Ya : (List Gv)) (hk : ((Y0.Me.Tr.length : Int) - Y1).toNat < k), (ZA Y0 k Y1 Ya).length = Ya.length := by
  intro k
  induction k with
  | zero => intro Y1 Ya hk; exact absurd hk (Nat.not_lt_zero _)
  | succ k ih =>
    intro Y1 Ya hk
    cases Yj : (decide (Y1 < (Y0.Me.Tr.length : Int))) with
    | true =>
      cases YJ : (fcmp .gtr .f32 (Zv (Zc Y0.Me (Y0.Me.Tr.getD Y1.toNat default))) 0) with
      | true =>
        have e : ZA Y0 (k + 1) Y1 Ya = (ZA Y0 k (Y1 + 1) (Z2Q Y0 Y1 Ya)) := by simp only [ZA, Yj, YJ, cond_true]
        rw [e, ih (Y1 + 1) (Z2Q Y0 Y1 Ya) (by simp_all <;> omega)]; simp
      | false =>
        have e : ZA Y0 (k + 1) Y1 Ya = (ZA Y0 k (Y1 + 1) (Z2R Y0 Y1 Ya)) := by simp only [ZA, Yj, YJ, cond_true, cond_false]
        rw [e, ih (Y1 + 1) (Z2R Y0 Y1 Ya) (by simp_all <;> omega)]; simp
    | false =>
      have e : ZA Y0 (k + 1) Y1 Ya = Ya := by simp only [ZA, Yj, cond_false]
      first | (rw [e]; done) | (rw [e]; rfl)
def Z3f (Y0 : Gb) : (List Gv) := (ZA Y0 (((Y0.Me.Tr.length : Int) - 0).toNat + 1) 0 (Z3e Y0))
@[simp] theorem Zgr (Y0 : Gb) : (Z3f Y0).length = ((Z3e Y0) : (List Gv)).length := ZcL Y0 (((Y0.Me.Tr.length : Int) - 0).toNat + 1) 0 (Z3e Y0) (by exact Nat.lt_succ_self _)
def Z3g (Y0 : Gb) (Y1 : Int) (Ya : (List Gv)) : (List Gv) := (Zy (((Z6 Y0.Me).getD Y1.toNat default).getD 0 default) (Zs Y0.Me ((Z6 Y0.Me).getD Y1.toNat default)) Y0.Bend Ya)
@[simp] theorem Z3K (Y0 : Gb) (Y1 : Int) (Ya : (List Gv)) : (Z3g Y0 Y1 Ya).length = Ya.length := by unfold Z3g; simp
def Z35 (Y0 : Gb) (Y1 : Int) (Ya : (List Gv)) : (List Gv) := (Zy (((Z6 Y0.Me).getD Y1.toNat default).getD 1 default) (Zs Y0.Me ((Z6 Y0.Me).getD Y1.toNat default)) Y0.Bend (Z3g Y0 Y1 Ya))
@[simp] theorem Z3E (Y0 : Gb) (Y1 : Int) (Ya : (List Gv)) : (Z35 Y0 Y1 Ya).length = (Z3g Y0 Y1 Ya).length := by unfold Z35; simp
def Z36 (Y0 : Gb) (Y1 : Int) (Ya : (List Gv)) : (List Gv) := (Zy (((Z6 Y0.Me).getD Y1.toNat default).getD 2 default) (Zs Y0.Me ((Z6 Y0.Me).getD Y1.toNat default)) (fneg .f32 Y0.Bend) (Z35 Y0 Y1 Ya))
@[simp] theorem Z3F (Y0 : Gb) (Y1 : Int) (Ya : (List Gv)) : (Z36 Y0 Y1 Ya).length = (Z35 Y0 Y1 Ya).length := by unfold Z36; simp
def Z37 (Y0 : Gb) (Y1 : Int) (Ya : (List Gv)) : (List Gv) := (Zy (((Z6 Y0.Me).getD Y1.toNat default).getD 3 default) (Zs Y0.Me ((Z6 Y0.Me).getD Y1.toNat default)) (fneg .f32 Y0.Bend) (Z36 Y0 Y1 Ya))
@[simp] theorem ZgN (Y0 : Gb) (Y1 : Int) (Ya : (List Gv)) : (Z37 Y0 Y1 Ya).length = (Z36 Y0 Y1 Ya).length := by unfold Z37; simp
def Z1b (Y0 : Gb) : Nat → Int → (List Gv) → (List Gv)
  | 0, _, _ => default
  | k + 1, Y1, Ya => (cond (decide (Y1 < ((Z6 Y0.Me).length : Int)))
    (Z1b Y0 k (Y1 + 1) (Z37 Y0 Y1 Ya))
    Ya)
def Z7m (Y0 : Gb) (r : (List Gv)) : Ex × St := ((.exit 6), ⟨.agg [.sl (Y0.Me.Pq.map Gv.c), .sl (Y0.Me.Tr.map (cL (cI .i64))), .sl (Y0.Sp.map Gs.c), .f .f32 Y0.Film, .f .f32 Y0.Bend, .sl (Y0.We.map (cF .f32)), .f .f32 Y0.Fall.X, .f .f32 Y0.Fall.Y, .f .f32 Y0.Fall.Z] :: .ptr 0 0 0 :: .nils :: .ptr 1 0 0 :: .fn 106 [.ptr 1 0 0] :: an 18 (.ptr 0 0 0 :: .ptr 0 0 0 :: .sl (Y0.Me.Pq.map Gv.c) :: .i .i64 (Y0.Me.Pq.length : Int) :: .own 2 :: .fn 106 [.ptr 1 0 0] :: .ptr 0 0 2 :: .sl (Y0.Sp.map Gs.c) :: an 25 (.ptr 0 0 0 :: .ptr 0 0 0 :: .sl (Y0.Me.Pq.map Gv.c) :: .ptr 0 0 0 :: .ptr 0 0 1 :: .sl (Y0.Me.Tr.map (cL (cI .i64))) :: an 54 (.ptr 0 0 0 :: .agg [.sl (Y0.Me.Pq.map Gv.c), .sl (Y0.Me.Tr.map (cL (cI .i64)))] :: .own 3 :: an 60 []))), [.box 42 [.sl (Y0.Me.Pq.map Gv.c), .sl (Y0.Me.Tr.map (cL (cI .i64))), .sl (Y0.Sp.map Gs.c), .f .f32 Y0.Film, .f .f32 Y0.Bend, .sl (Y0.We.map (cF .f32)), .f .f32 Y0.Fall.X, .f .f32 Y0.Fall.Y, .f .f32 Y0.Fall.Z], .box 34 [.own 2], .vec 40 3 (r.map Gv.c) false, .nest 49 ((Z6 Y0.Me).map fun l => l.map (cI .i64)) false]⟩)
def ZdP (Y0 : Gb) (Y1 : Int) (Ya : (List Gv)) : St := ⟨.agg [.sl (Y0.Me.Pq.map Gv.c), .sl (Y0.Me.Tr.map (cL (cI .i64))), .sl (Y0.Sp.map Gs.c), .f .f32 Y0.Film, .f .f32 Y0.Bend, .sl (Y0.We.map (cF .f32)), .f .f32 Y0.Fall.X, .f .f32 Y0.Fall.Y, .f .f32 Y0.Fall.Z] :: .ptr 0 0 0 :: .nils :: .ptr 1 0 0 :: .fn 106 [.ptr 1 0 0] :: an 18 (.ptr 0 0 0 :: .ptr 0 0 0 :: .sl (Y0.Me.Pq.map Gv.c) :: .i .i64 (Y0.Me.Pq.length : Int) :: .own 2 :: .fn 106 [.ptr 1 0 0] :: .ptr 0 0 2 :: .sl (Y0.Sp.map Gs.c) :: an 25 (.ptr 0 0 0 :: .ptr 0 0 0 :: .sl (Y0.Me.Pq.map Gv.c) :: .ptr 0 0 0 :: .ptr 0 0 1 :: .sl (Y0.Me.Tr.map (cL (cI .i64))) :: an 54 (.ptr 0 0 0 :: .agg [.sl (Y0.Me.Pq.map Gv.c), .sl (Y0.Me.Tr.map (cL (cI .i64)))] :: .own 3 :: .i .i64 ((Z6 Y0.Me).length : Int) :: .i .i64 Y1 :: an 58 []))), [.box 42 [.sl (Y0.Me.Pq.map Gv.c), .sl (Y0.Me.Tr.map (cL (cI .i64))), .sl (Y0.Sp.map Gs.c), .f .f32 Y0.Film, .f .f32 Y0.Bend, .sl (Y0.We.map (cF .f32)), .f .f32 Y0.Fall.X, .f .f32 Y0.Fall.Y, .f .f32 Y0.Fall.Z], .box 34 [.own 2], .vec 40 3 (Ya.map Gv.c) false, .nest 49 ((Z6 Y0.Me).map fun l => l.map (cI .i64)) false]⟩
def Z9c : List Bool := (mR false [0, 5, 18, 8, 25, 6, 54, 5, 58])
def ZcM : List Bool := (mR false [0, 5, 18, 8, 25, 6, 54, 3, 60])
set_option maxHeartbeats 1000000 in
theorem ZdQ (Y0 : Gb) (hp0 : Y0.Me.Pq.length ≤ 1073741824) (hp1 : Y0.Me.Tr.length ≤ 1073741824) (hp2 : ∀ t ∈ Y0.Me.Tr, t.length ≤ 1073741824) (hp3 : Y0.Sp.length ≤ 1073741824) (hp4 : Y0.We.length ≤ 1073741824) (hp5 : OkBd Y0) : ∀ (k : Nat) (Y1 : Int) (Ya : (List Gv)) (Z9d : 0 ≤ Y1) (Z9e : Ya.length = Y0.Me.Pq.length) (hk : (((Z6 Y0.Me).length : Int) - Y1).toNat < k), Lp prog 0 (sub (bodyOf f57) [1, 1, 1, 1, 1, 1, 0, 1, 0, 0]) (ZdP Y0 Y1 Ya) (Z7m Y0 (Z1b Y0 k Y1 Ya)).1 (Z7m Y0 (Z1b Y0 k Y1 Ya)).2 := by
 intro k
 induction k with
 | zero => intro Y1 Ya Z9d Z9e hk; exact absurd hk (Nat.not_lt_zero _)
 | succ k ih =>
  intro Y1 Ya Z9d Z9e hk
  cases Yj : (decide (Y1 < ((Z6 Y0.Me).length : Int))) with
  | true =>
   have YM := odt Yj
   have YS : (0 : Int) ≤ Y1 := (by assumption)
   have YT : Int.toNat Y1 < (Z6 Y0.Me).length := (by omega)
   have YY : Y1.toNat < (Z6 Y0.Me).length := (by assumption)
   have YZ : ((Z6 Y0.Me).getD Y1.toNat default).length ≤ 1073741824 := (by exact ZhF hp5.e (by assumption) Yj)
   have y_4 : ((Z6 Y0.Me).getD Y1.toNat default).length = 4 ∧ ∀ x ∈ ((Z6 Y0.Me).getD Y1.toNat default), 0 ≤ x ∧ x < (Y0.Me.Pq.length : Int) := (by exact Z6T hp5.e (by assumption) Yj)
   have y_5 : (0 : Int) ≤ 0 := (by omega)
   have y_6 : 0 < (((Z6 Y0.Me).getD Y1.toNat default).length : Int) := (by omega)
   have y_7 : 0 < ((Z6 Y0.Me).getD Y1.toNat default).length := (by omega)
   have y_8 : Ya.length ≤ 1073741824 := (by omega)
   have y_9 : 0 ≤ (((Z6 Y0.Me).getD Y1.toNat default).getD 0 default) := (by (have q := Okh.at (Z6T hp5.e (by assumption) Yj); omega))
   have Y1c : (((Z6 Y0.Me).getD Y1.toNat default).getD 0 default) < (Ya.length : Int) := (by (have q := Okh.at (Z6T hp5.e (by assumption) Yj); omega))
   have Y1j : (0 : Int) ≤ 1 := (by omega)
   have Y1m : 1 < (((Z6 Y0.Me).getD Y1.toNat default).length : Int) := (by omega)
   have Y1n : 1 < ((Z6 Y0.Me).getD Y1.toNat default).length := (by omega)
   have Y1t : (Z3g Y0 Y1 Ya).length ≤ 1073741824 := (by (have q := Okh.at (Z6T hp5.e (by assumption) Yj); (simp only [Z3K, Z3E, Z3F]; omega)))
   have Y1u : 0 ≤ (((Z6 Y0.Me).getD Y1.toNat default).getD 1 default) := (by (have q := Okh.at (Z6T hp5.e (by assumption) Yj); omega))
   have Y1v : (((Z6 Y0.Me).getD Y1.toNat default).getD 1 default) < ((Z3g Y0 Y1 Ya).length : Int) := (by (have q := Okh.at (Z6T hp5.e (by assumption) Yj); (simp only [Z3K, Z3E, Z3F]; omega)))
   have Y1w : (0 : Int) ≤ 2 := (by omega)
   have Y1F : 2 < (((Z6 Y0.Me).getD Y1.toNat default).length : Int) := (by omega)
   have Y1G : 2 < ((Z6 Y0.Me).getD Y1.toNat default).length := (by omega)
   have Y1K : (Z35 Y0 Y1 Ya).length ≤ 1073741824 := (by (have q := Okh.at (Z6T hp5.e (by assumption) Yj); (simp only [Z3K, Z3E, Z3F]; omega)))
   have Y1L : 0 ≤ (((Z6 Y0.Me).getD Y1.toNat default).getD 2 default) := (by (have q := Okh.at (Z6T hp5.e (by assumption) Yj); omega))
   have Y1M : (((Z6 Y0.Me).getD Y1.toNat default).getD 2 default) < ((Z35 Y0 Y1 Ya).length : Int) := (by (have q := Okh.at (Z6T hp5.e (by assumption) Yj); (simp only [Z3K, Z3E, Z3F]; omega)))
   have Y1N : (0 : Int) ≤ 3 := (by omega)
   have Y1O : 3 < (((Z6 Y0.Me).getD Y1.toNat default).length : Int) := (by omega)
   have Y1P : 3 < ((Z6 Y0.Me).getD Y1.toNat default).length := (by omega)
   have Y1Q : (Z36 Y0 Y1 Ya).length ≤ 1073741824 := (by (have q := Okh.at (Z6T hp5.e (by assumption) Yj); (simp only [Z3K, Z3E, Z3F]; omega)))
   have Y1R : 0 ≤ (((Z6 Y0.Me).getD Y1.toNat default).getD 3 default) := (by (have q := Okh.at (Z6T hp5.e (by assumption) Yj); omega))
   have Y1S : (((Z6 Y0.Me).getD Y1.toNat default).getD 3 default) < ((Z36 Y0 Y1 Ya).length : Int) := (by (have q := Okh.at (Z6T hp5.e (by assumption) Yj); (simp only [Z3K, Z3E, Z3F]; omega)))
   have Y1U : (-9223372036854775808 : Int) ≤ (Y1 + 1) := (by omega)
   have Y1V : (Y1 + 1) ≤ (9223372036854775807 : Int) := (by have q := ZaI _ hp5.e; omega)
   have e : Z1b Y0 (k + 1) Y1 Ya = (Z1b Y0 k (Y1 + 1) (Z37 Y0 Y1 Ya)) := by simp only [Z1b, Yj, cond_true]
   rw [e]
   exact nextR E0Ok Z5 [] Z9c [0, 1, 2, 3] (ih (Y1 + 1) (Z37 Y0 Y1 Ya) (show 0 ≤ (Y1 + 1) from (by omega)) (show (Z37 Y0 Y1 Ya).length = Y0.Me.Pq.length from (by simp_all <;> omega)) (by omega)) (sB Yj <| sC (nestix (c := (cI .i64)) (l := (Z6 Y0.Me)) (i := Y1) YS YT) <| sC (nestlt (c := (cI .i64)) (l := (Z6 Y0.Me)) YY) <| sF (Fn.castA (args' := [.agg [.sl (Y0.Me.Pq.map Gv.c), .sl (Y0.Me.Tr.map (cL (cI .i64)))], .sl (((Z6 Y0.Me).map fun l => l.map (cI .i64)).getD Y1.toNat [])]) (ZcV Y0.Me ((Z6 Y0.Me).getD Y1.toNat default) hp0 hp1 hp2 YZ y_4) (by simp [cI]; done)) <| sK [7, 7] <| sC (iidx_ok (c := (cI .i64)) (l := (Z6 Y0.Me)) (j := Y1.toNat) (i := 0) y_5 y_6) <| sE (iget_ok (c := (cI .i64)) (l := (Z6 Y0.Me)) (j := Y1.toNat) (k := 0) y_7) <| sS (CallSt.frame (Z28 (((Z6 Y0.Me).getD Y1.toNat default).getD 0 default) (Zs Y0.Me ((Z6 Y0.Me).getD Y1.toNat default)) Y0.Bend Ya y_8 y_9 Y1c) [1, 2] (R := [.box 42 [.sl (Y0.Me.Pq.map Gv.c), .sl (Y0.Me.Tr.map (cL (cI .i64))), .sl (Y0.Sp.map Gs.c), .f .f32 Y0.Film, .f .f32 Y0.Bend, .sl (Y0.We.map (cF .f32)), .f .f32 Y0.Fall.X, .f .f32 Y0.Fall.Y, .f .f32 Y0.Fall.Z], .box 34 [.own 2], .vec 40 3 (Ya.map Gv.c) false, .nest 49 ((Z6 Y0.Me).map fun l => l.map (cI .i64)) false, .box 40 [.f .f32 ((Zs Y0.Me ((Z6 Y0.Me).getD Y1.toNat default)).X), .f .f32 ((Zs Y0.Me ((Z6 Y0.Me).getD Y1.toNat default)).Y), .f .f32 ((Zs Y0.Me ((Z6 Y0.Me).getD Y1.toNat default)).Z)]]) (args' := [.i .i64 (((Z6 Y0.Me).getD Y1.toNat default).getD 0 default), .agg [.f .f32 ((Zs Y0.Me ((Z6 Y0.Me).getD Y1.toNat default)).X), .f .f32 ((Zs Y0.Me ((Z6 Y0.Me).getD Y1.toNat default)).Y), .f .f32 ((Zs Y0.Me ((Z6 Y0.Me).getD Y1.toNat default)).Z)], .f .f32 Y0.Bend, .ptr 1 0 0]) rfl rfl rfl rfl rfl rfl) <| sK [7, 7] <| sC (iidx_ok (c := (cI .i64)) (l := (Z6 Y0.Me)) (j := Y1.toNat) (i := 1) Y1j Y1m) <| sE (iget_ok (c := (cI .i64)) (l := (Z6 Y0.Me)) (j := Y1.toNat) (k := 1) Y1n) <| sS (CallSt.frame (Z28 (((Z6 Y0.Me).getD Y1.toNat default).getD 1 default) (Zs Y0.Me ((Z6 Y0.Me).getD Y1.toNat default)) Y0.Bend (Z3g Y0 Y1 Ya) Y1t Y1u Y1v) [1, 2] (R := [.box 42 [.sl (Y0.Me.Pq.map Gv.c), .sl (Y0.Me.Tr.map (cL (cI .i64))), .sl (Y0.Sp.map Gs.c), .f .f32 Y0.Film, .f .f32 Y0.Bend, .sl (Y0.We.map (cF .f32)), .f .f32 Y0.Fall.X, .f .f32 Y0.Fall.Y, .f .f32 Y0.Fall.Z], .box 34 [.own 2], .vec 40 3 ((Z3g Y0 Y1 Ya).map Gv.c) false, .nest 49 ((Z6 Y0.Me).map fun l => l.map (cI .i64)) false, .box 40 [.f .f32 ((Zs Y0.Me ((Z6 Y0.Me).getD Y1.toNat default)).X), .f .f32 ((Zs Y0.Me ((Z6 Y0.Me).getD Y1.toNat default)).Y), .f .f32 ((Zs Y0.Me ((Z6 Y0.Me).getD Y1.toNat default)).Z)]]) (args' := [.i .i64 (((Z6 Y0.Me).getD Y1.toNat default).getD 1 default), .agg [.f .f32 ((Zs Y0.Me ((Z6 Y0.Me).getD Y1.toNat default)).X), .f .f32 ((Zs Y0.Me ((Z6 Y0.Me).getD Y1.toNat default)).Y), .f .f32 ((Zs Y0.Me ((Z6 Y0.Me).getD Y1.toNat default)).Z)], .f .f32 Y0.Bend, .ptr 1 0 0]) rfl rfl rfl rfl rfl rfl) <| sK [8, 8] <| sC (iidx_ok (c := (cI .i64)) (l := (Z6 Y0.Me)) (j := Y1.toNat) (i := 2) Y1w Y1F) <| sE (iget_ok (c := (cI .i64)) (l := (Z6 Y0.Me)) (j := Y1.toNat) (k := 2) Y1G) <| sS (CallSt.frame (Z28 (((Z6 Y0.Me).getD Y1.toNat default).getD 2 default) (Zs Y0.Me ((Z6 Y0.Me).getD Y1.toNat default)) (fneg .f32 Y0.Bend) (Z35 Y0 Y1 Ya) Y1K Y1L Y1M) [1, 2] (R := [.box 42 [.sl (Y0.Me.Pq.map Gv.c), .sl (Y0.Me.Tr.map (cL (cI .i64))), .sl (Y0.Sp.map Gs.c), .f .f32 Y0.Film, .f .f32 Y0.Bend, .sl (Y0.We.map (cF .f32)), .f .f32 Y0.Fall.X, .f .f32 Y0.Fall.Y, .f .f32 Y0.Fall.Z], .box 34 [.own 2], .vec 40 3 ((Z35 Y0 Y1 Ya).map Gv.c) false, .nest 49 ((Z6 Y0.Me).map fun l => l.map (cI .i64)) false, .box 40 [.f .f32 ((Zs Y0.Me ((Z6 Y0.Me).getD Y1.toNat default)).X), .f .f32 ((Zs Y0.Me ((Z6 Y0.Me).getD Y1.toNat default)).Y), .f .f32 ((Zs Y0.Me ((Z6 Y0.Me).getD Y1.toNat default)).Z)]]) (args' := [.i .i64 (((Z6 Y0.Me).getD Y1.toNat default).getD 2 default), .agg [.f .f32 ((Zs Y0.Me ((Z6 Y0.Me).getD Y1.toNat default)).X), .f .f32 ((Zs Y0.Me ((Z6 Y0.Me).getD Y1.toNat default)).Y), .f .f32 ((Zs Y0.Me ((Z6 Y0.Me).getD Y1.toNat default)).Z)], .f .f32 (fneg .f32 Y0.Bend), .ptr 1 0 0]) rfl rfl rfl rfl rfl rfl) <| sK [8, 8] <| sC (iidx_ok (c := (cI .i64)) (l := (Z6 Y0.Me)) (j := Y1.toNat) (i := 3) Y1N Y1O) <| sE (iget_ok (c := (cI .i64)) (l := (Z6 Y0.Me)) (j := Y1.toNat) (k := 3) Y1P) <| sS (CallSt.frame (Z28 (((Z6 Y0.Me).getD Y1.toNat default).getD 3 default) (Zs Y0.Me ((Z6 Y0.Me).getD Y1.toNat default)) (fneg .f32 Y0.Bend) (Z36 Y0 Y1 Ya) Y1Q Y1R Y1S) [1, 2] (R := [.box 42 [.sl (Y0.Me.Pq.map Gv.c), .sl (Y0.Me.Tr.map (cL (cI .i64))), .sl (Y0.Sp.map Gs.c), .f .f32 Y0.Film, .f .f32 Y0.Bend, .sl (Y0.We.map (cF .f32)), .f .f32 Y0.Fall.X, .f .f32 Y0.Fall.Y, .f .f32 Y0.Fall.Z], .box 34 [.own 2], .vec 40 3 ((Z36 Y0 Y1 Ya).map Gv.c) false, .nest 49 ((Z6 Y0.Me).map fun l => l.map (cI .i64)) false, .box 40 [.f .f32 ((Zs Y0.Me ((Z6 Y0.Me).getD Y1.toNat default)).X), .f .f32 ((Zs Y0.Me ((Z6 Y0.Me).getD Y1.toNat default)).Y), .f .f32 ((Zs Y0.Me ((Z6 Y0.Me).getD Y1.toNat default)).Z)]]) (args' := [.i .i64 (((Z6 Y0.Me).getD Y1.toNat default).getD 3 default), .agg [.f .f32 ((Zs Y0.Me ((Z6 Y0.Me).getD Y1.toNat default)).X), .f .f32 ((Zs Y0.Me ((Z6 Y0.Me).getD Y1.toNat default)).Y), .f .f32 ((Zs Y0.Me ((Z6 Y0.Me).getD Y1.toNat default)).Z)], .f .f32 (fneg .f32 Y0.Bend), .ptr 1 0 0]) rfl rfl rfl rfl rfl rfl) <| sI (Y1 + 1) Y1U Y1V <| sN) (by kernel_rfl)
  | false =>
   have YM := odf Yj
   have e : Z1b Y0 (k + 1) Y1 Ya = Ya := by simp only [Z1b, Yj, cond_false]
   rw [e]
   exact outR (e := (.exit 6)) E0Ok Z5 [] ZcM [0, 1, 2, 3] (sB Yj <| sN) (by kernel_rfl) (by intro h; cases h)
theorem ZcN (Y0 : Gb) : ∀ (k : Nat) (Y1 : Int) (Ya : (List Gv)) (hk : (((Z6 Y0.Me).length : Int) - Y1).toNat < k), (Z1b Y0 k Y1 Ya).length = Ya.length := by
  intro k
  induction k with
  | zero => intro Y1 Ya hk; exact absurd hk (Nat.not_lt_zero _)
  | succ k ih =>
    intro Y1 Ya hk
    cases Yj : (decide (Y1 < ((Z6 Y0.Me).length : Int))) with
    | true =>
      have e : Z1b Y0 (k + 1) Y1 Ya = (Z1b Y0 k (Y1 + 1) (Z37 Y0 Y1 Ya)) := by simp only [Z1b, Yj, cond_true]
      rw [e, ih (Y1 + 1) (Z37 Y0 Y1 Ya) (by simp_all <;> omega)]; simp
    | false =>
      have e : Z1b Y0 (k + 1) Y1 Ya = Ya := by simp only [Z1b, Yj, cond_false]
      first | (rw [e]; done) | (rw [e]; rfl)
def Z3h (Y0 : Gb) : (List Gv) := (Z1b Y0 ((((Z6 Y0.Me).length : Int) - 0).toNat + 1) 0 (Z3f Y0))
@[simp] theorem Zgs (Y0 : Gb) : (Z3h Y0).length = ((Z3f Y0) : (List Gv)).length := ZcN Y0 ((((Z6 Y0.Me).length : Int) - 0).toNat + 1) 0 (Z3f Y0) (by exact Nat.lt_succ_self _)
end Go.Ab
