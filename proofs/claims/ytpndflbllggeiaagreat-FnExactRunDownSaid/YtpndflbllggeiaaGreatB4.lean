/- The functions of this seat as plain Lean, and that the program's are these. Printed by a program of the prover's own. -/
import Derived.Test.YtpndflbllggeiaaGreatB3
set_option linter.unusedVariables false
set_option linter.unusedSimpArgs false
set_option maxRecDepth 100000
namespace Go.Ab
open Go.RowKit Go.Proofs.Tryz
theorem ZdD (Y0 : Gb) (hp0 : Y0.Me.Pq.length ≤ 1073741824) (hp1 : Y0.Me.Tr.length ≤ 1073741824) (hp2 : ∀ t ∈ Y0.Me.Tr, t.length ≤ 1073741824) (hp3 : Y0.Sp.length ≤ 1073741824) (hp4 : Y0.We.length ≤ 1073741824) (hp5 : OkBd Y0) : ∀ (k : Nat) (Y1 : Int) (Y3 : (List Nat)) (Z8V : 0 ≤ Y1) (Z8W : Y3.length = (Z2h Y0).length) (hk : ((Y0.Me.Pq.length : Int) - Y1).toNat < k), Lp prog 0 (sub (bodyOf f133) [1, 1, 1, 1, 1, 1, 1, 0, 1, 0, 0]) (Zab Y0 Y1 Y3) (Z7a Y0 (Z1x Y0 k Y1 Y3)).1 (Z7a Y0 (Z1x Y0 k Y1 Y3)).2 := by
 intro k
 induction k with
 | zero => intro Y1 Y3 Z8V Z8W hk; exact absurd hk (Nat.not_lt_zero _)
 | succ k ih =>
  intro Y1 Y3 Z8V Z8W hk
  cases Yj : (decide (Y1 < (Y0.Me.Pq.length : Int))) with
  | true =>
   have YM := odt Yj
   have YS : (0 : Int) ≤ 3 := (by omega)
   have YT : 3 < (Y3.length : Int) := (by simp_all <;> omega)
   have YY : 3 < Y3.length := (by omega)
   have YZ : (0 : Int) ≤ Y1 := (by assumption)
   have y_4 : Y1 < (Y0.We.length : Int) := (by have q := hp5.w; omega)
   have y_5 : Y1 < (Y0.Me.Pq.length : Int) := (by assumption)
   have y_6 : (-9223372036854775808 : Int) ≤ (Y1 + 1) := (by omega)
   have y_7 : (Y1 + 1) ≤ (9223372036854775807 : Int) := (by omega)
   have e : Z1x Y0 (k + 1) Y1 Y3 = (Z1x Y0 k (Y1 + 1) (Y3.set 3 (Z3S Y0 Y1 Y3))) := by simp only [Z1x, Yj, cond_true]
   rw [e]
   exact nextS E0Ok Z5 [] Z8U [0, 1] (⟨.ref (Gb.c Y0) 0 :: .any :: .nils :: .own 0 :: .ref (Gb.c Y0) 0 :: an 4 (.own 1 :: .any :: .any :: .any :: .own 0 :: .ref (Gb.c Y0) 0 :: .ref (Gb.c Y0) 0 :: .ref (Gb.c Y0) 0 :: .ref (Gb.c Y0) 0 :: .ref (Gb.c Y0) 0 :: .ref (Gb.c Y0) 2 :: .sl (Y0.Sp.map Gs.c) :: an 45 (.ref (Gb.c Y0) 0 :: .ref (Gb.c Y0) 0 :: .ref (Gb.c Y0) 1 :: .sl (Y0.Me.Tr.map (cL (cI .i64))) :: an 26 (.ref (Gb.c Y0) 0 :: .own 1 :: .own 1 :: an 25 (.ref (Gb.c Y0) 0 :: .ref (Gb.c Y0) 0 :: .ref (Gb.c Y0) 0 :: .sl (Y0.Me.Pq.map Gv.c) :: .i .i64 (Y0.Me.Pq.length : Int) :: .i .i64 (Y1 + 1) :: an 30 [])))), [.vec 27 1 ((Y3.map (cF .f32)).set 3 [.f .f32 (Z3S Y0 Y1 Y3)]) false, .nest 49 ((Z0 Y0.Me).map fun l => l.map (cI .i64)) false]⟩) (sB Yj <| sK [24, 24] <| sX (cF .f32) Y3 3 YS YT <| sV (cF .f32) Y3 3 YY <| sG (cF .f32) Y0.We Y1 YZ y_4 <| sG Gv.c Y0.Me.Pq Y1 YZ y_5 <| sF (Z8F Y0.Fall (Y0.Me.Pq.getD Y1.toNat default)) <| sX (cF .f32) Y3 3 YS YT <| sC (maplt (c := (cF .f32)) (l := Y3) YY) <| sI (Y1 + 1) y_6 y_7 <| sN) (by kernel_rfl) (by simp [Zab, List.map_set, cF]) (ih (Y1 + 1) (Y3.set 3 (Z3S Y0 Y1 Y3)) (show 0 ≤ (Y1 + 1) from (by omega)) (show (Y3.set 3 (Z3S Y0 Y1 Y3)).length = (Z2h Y0).length from (by simp_all <;> omega)) (by omega))
  | false =>
   have YM := odf Yj
   have e : Z1x Y0 (k + 1) Y1 Y3 = Y3 := by simp only [Z1x, Yj, cond_false]
   rw [e]
   exact outR (e := (.exit 6)) E0Ok Z5 [] ZcA [0, 1] (sB Yj <| sN) (by kernel_rfl) (by intro h; cases h)
theorem ZcB (Y0 : Gb) : ∀ (k : Nat) (Y1 : Int) (Y3 : (List Nat)) (hk : ((Y0.Me.Pq.length : Int) - Y1).toNat < k), (Z1x Y0 k Y1 Y3).length = Y3.length := by
  intro k
  induction k with
  | zero => intro Y1 Y3 hk; exact absurd hk (Nat.not_lt_zero _)
  | succ k ih =>
    intro Y1 Y3 hk
    cases Yj : (decide (Y1 < (Y0.Me.Pq.length : Int))) with
    | true =>
      have e : Z1x Y0 (k + 1) Y1 Y3 = (Z1x Y0 k (Y1 + 1) (Y3.set 3 (Z3S Y0 Y1 Y3))) := by simp only [Z1x, Yj, cond_true]
      rw [e, ih (Y1 + 1) (Y3.set 3 (Z3S Y0 Y1 Y3)) (by simp_all <;> omega)]; simp
    | false =>
      have e : Z1x Y0 (k + 1) Y1 Y3 = Y3 := by simp only [Z1x, Yj, cond_false]
      first | (rw [e]; done) | (rw [e]; rfl)
def Z4w (Y0 : Gb) : (List Nat) := (Z1x Y0 (((Y0.Me.Pq.length : Int) - 0).toNat + 1) 0 (Z2h Y0))
@[simp] theorem ZaC (Y0 : Gb) : (Z4w Y0).length = ((Z2h Y0) : (List Nat)).length := ZcB Y0 (((Y0.Me.Pq.length : Int) - 0).toNat + 1) 0 (Z2h Y0) (by exact Nat.lt_succ_self _)
def ZR (Y0 : Gb) : (List Nat) := (Z4w Y0)
theorem Z8X (b : Gb) : (ZR b).length = 4 := by
  unfold ZR
  rw [ZaC, ZaB, ZaA, Zaz]; simp
theorem Zfg (Y0 : Gb) (hp0 : Y0.Me.Pq.length ≤ 1073741824) (hp1 : Y0.Me.Tr.length ≤ 1073741824) (hp2 : ∀ t ∈ Y0.Me.Tr, t.length ≤ 1073741824) (hp3 : Y0.Sp.length ≤ 1073741824) (hp4 : Y0.We.length ≤ 1073741824) (hp5 : OkBd Y0)  : Fn prog 133 [.ref (Gb.c Y0) 0] (.own 0) [.vec 27 1 ((ZR Y0).map (cF .f32)) false] := by
 have y0 : (0 : Int) ≤ 4 := (by omega)
 have y1 : (4 : Int) ≤ 2147483648 := (by omega)
 have y2 : OkE Y0.Me.Pq.length Y0.Me.Tr := (by exact hp5.e)
 refine fnS E0Ok Z5 (c := bodyOf f133) [] (.own 0) [.vec 27 1 ((Z4w Y0).map (cF .f32)) false] func133 (sC (show (4 : Int) = 4 from rfl) <| sC y0 <| sC y1 <| sZ Gs.c Y0.Sp <| sL (mR false [0, 1, 1, 3, 8, 10, 137]) 1 (lp_cast (st2 := ⟨.ref (Gb.c Y0) 0 :: .any :: .nils :: .own 0 :: .ref (Gb.c Y0) 0 :: an 8 (.own 0 :: .ref (Gb.c Y0) 0 :: .ref (Gb.c Y0) 0 :: .ref (Gb.c Y0) 0 :: .ref (Gb.c Y0) 0 :: .ref (Gb.c Y0) 0 :: .ref (Gb.c Y0) 2 :: .sl (Y0.Sp.map Gs.c) :: .i .i64 (Y0.Sp.length : Int) :: .i .i64 0 :: an 137 []), [.vec 27 1 (List.replicate (Int.toNat 4) [.f .f32 0]) false]⟩) (lp_val (Z76 Y0) (x := (Z2f Y0)) (ZdA Y0 hp0 hp1 hp2 hp3 hp4 hp5 (((Y0.Sp.length : Int) - 0).toNat + 1) 0 (List.replicate 4 0) (show 0 ≤ 0 from (by omega)) (show (List.replicate 4 0).length = 4 from (by simp; done)) (Nat.lt_succ_self _)) rfl) (by simp [Z77, cF])) <| sZ (cL (cI .i64)) Y0.Me.Tr <| sL Z8O 1 (lp_val (Z78 Y0) (x := (Z2g Y0)) (ZdB Y0 hp0 hp1 hp2 hp3 hp4 hp5 (((Y0.Me.Tr.length : Int) - 0).toNat + 1) 0 (Z2f Y0) (show 0 ≤ 0 from (by omega)) (show (Z2f Y0).length = (Z2f Y0).length from (by omega)) (Nat.lt_succ_self _)) rfl) <| sF (Fn.sub (args := [.ref (Gb.c Y0) 0]) (r := .own 0) (new := [.nest 49 ((Z0 Y0.Me).map fun l => l.map (cI .i64)) false]) [some 2] (Zb5 Y0.Me hp0 hp1 hp2 y2)) <| sM (nlen_ok (l := (Z0 Y0.Me)) (f := fun l => l.map (cI .i64))) <| sL Z8R 2 (lp_val (Z79 Y0) (x := (Z2h Y0)) (ZdC Y0 hp0 hp1 hp2 hp3 hp4 hp5 ((((Z0 Y0.Me).length : Int) - 0).toNat + 1) 0 (Z2g Y0) (show 0 ≤ 0 from (by omega)) (show (Z2g Y0).length = (Z2g Y0).length from (by omega)) (Nat.lt_succ_self _)) rfl) <| sZ Gv.c Y0.Me.Pq <| sL Z8U 2 (lp_val (Z7a Y0) (x := (Z4w Y0)) (ZdD Y0 hp0 hp1 hp2 hp3 hp4 hp5 (((Y0.Me.Pq.length : Int) - 0).toNat + 1) 0 (Z2h Y0) (show 0 ≤ 0 from (by omega)) (show (Z2h Y0).length = (Z2h Y0).length from (by omega)) (Nat.lt_succ_self _)) rfl) <| sK [0] sN) rfl (by kernel_rfl) (by kernel_rfl) rfl ?_ ?_
 · rfl
 · simp [ZR]
def Z6C (Y2 : Gb) : Nat := (fop .add .f32 (fop .add .f32 (fop .add .f32 ((ZR Y2).getD 0 default) ((ZR Y2).getD 1 default)) ((ZR Y2).getD 2 default)) ((ZR Y2).getD 3 default))
def ZD (Y2 : Gb) : Nat := (Z6C Y2)
theorem Z67 (Y2 : Gb) (hp0 : Y2.Me.Pq.length ≤ 1073741824) (hp1 : Y2.Me.Tr.length ≤ 1073741824) (hp2 : ∀ t ∈ Y2.Me.Tr, t.length ≤ 1073741824) (hp3 : Y2.Sp.length ≤ 1073741824) (hp4 : Y2.We.length ≤ 1073741824) (hp5 : OkBd Y2)  : Fn prog 92 [.ref (Gb.c Y2) 0] (.f .f32 (ZD Y2)) [] := by
 have y0 : (0 : Int) ≤ 0 := (by omega)
 have y1 : 0 < ((ZR Y2).length : Int) := (by have q := Z8X Y2; omega)
 have y2 : 0 < (ZR Y2).length := (by omega)
 have y3 : (0 : Int) ≤ 1 := (by omega)
 have y4 : 1 < ((ZR Y2).length : Int) := (by have q := Z8X Y2; omega)
 have y5 : 1 < (ZR Y2).length := (by omega)
 have y6 : (0 : Int) ≤ 2 := (by omega)
 have y7 : 2 < ((ZR Y2).length : Int) := (by have q := Z8X Y2; omega)
 have y8 : 2 < (ZR Y2).length := (by omega)
 have y9 : (0 : Int) ≤ 3 := (by omega)
 have y10 : 3 < ((ZR Y2).length : Int) := (by have q := Z8X Y2; omega)
 have y11 : 3 < (ZR Y2).length := (by omega)
 refine fnS E0Ok Z5 (c := bodyOf f92) [] (.f .f32 (Z6C Y2)) [] func92 (sF (Zfg Y2 hp0 hp1 hp2 hp3 hp4 hp5) <| sK [14, 14] <| sX (cF .f32) (ZR Y2) 0 y0 y1 <| sV (cF .f32) (ZR Y2) 0 y2 <| sX (cF .f32) (ZR Y2) 1 y3 y4 <| sV (cF .f32) (ZR Y2) 1 y5 <| sX (cF .f32) (ZR Y2) 2 y6 y7 <| sV (cF .f32) (ZR Y2) 2 y8 <| sX (cF .f32) (ZR Y2) 3 y9 y10 <| sV (cF .f32) (ZR Y2) 3 y11 <| sK [] sN) rfl (by kernel_rfl) (by kernel_rfl) rfl ?_ ?_
 · rfl
 · rfl
def Z4D (x_0 : Nat) (Y1l : Nat) : Nat := (cond (fcmp .gtr .f32 Y1l 0)
  (fop .quo .f32 x_0 Y1l)
  0)
theorem Zc4 (x_0 : Nat) (Y1l : Nat)   : Fn prog 87 [.f .f32 x_0, .f .f32 Y1l] (.f .f32 (Z4D x_0 Y1l)) [] := by
 cases h0 : (fcmp .gtr .f32 Y1l 0) with
 | true =>
  refine fnS E0Ok Z5 (c := bodyOf f87) [] (.f .f32 (fop .quo .f32 x_0 Y1l)) [] func87 (sB h0 <| sK [] sN) rfl (by kernel_rfl) (by kernel_rfl) rfl ?_ ?_
  · simp only [Z4D, h0, cond_true]
  · rfl
 | false =>
  refine fnS E0Ok Z5 (c := bodyOf f87) [] (.f .f32 0) [] func87 (sB h0 <| sK [] sN) rfl (by kernel_rfl) (by kernel_rfl) rfl ?_ ?_
  · simp only [Z4D, h0, cond_false]
  · rfl
def Zb6 (Y2 : Gb) (x_1 : Gs) : Nat := (fop .mul .f32 x_1.Stiff (fop .sub .f32 (Z2k (Z1V (Y2.Me.Pq.getD x_1.B.toNat default) (Y2.Me.Pq.getD x_1.A.toNat default))) x_1.Long))
def Zb7 (Y2 : Gb) (x_1 : Gs) : Nat := (Z4D (Zb6 Y2 x_1) (Z2k (Z1V (Y2.Me.Pq.getD x_1.B.toNat default) (Y2.Me.Pq.getD x_1.A.toNat default))))
def Z2X (Y2 : Gb) (x_1 : Gs) : Gv × Nat := ((Z1V (Y2.Me.Pq.getD x_1.B.toNat default) (Y2.Me.Pq.getD x_1.A.toNat default)), (Zb7 Y2 x_1))
theorem Zgg (Y2 : Gb) (x_1 : Gs) (hp0 : Y2.Me.Pq.length ≤ 1073741824) (hp1 : Y2.Me.Tr.length ≤ 1073741824) (hp2 : ∀ t ∈ Y2.Me.Tr, t.length ≤ 1073741824) (hp3 : Y2.Sp.length ≤ 1073741824) (hp4 : Y2.We.length ≤ 1073741824) (hp5 : 0 ≤ x_1.A) (hp6 : x_1.A < (Y2.Me.Pq.length : Int)) (hp7 : 0 ≤ x_1.B) (hp8 : x_1.B < (Y2.Me.Pq.length : Int))  : Fn prog 96 [.ref (Gb.c Y2) 0, .ref (Gs.c x_1) 0] (.tup [.agg [.f .f32 ((Z2X Y2 x_1).1.X), .f .f32 ((Z2X Y2 x_1).1.Y), .f .f32 ((Z2X Y2 x_1).1.Z)], .f .f32 ((Z2X Y2 x_1).2)]) [] := by
 have y0 : (0 : Int) ≤ x_1.B := (by assumption)
 have y1 : (0 : Int) ≤ x_1.A := (by assumption)
 refine fnS E0Ok Z5 (c := bodyOf f96) [] (.tup [.agg [.f .f32 ((Z1V (Y2.Me.Pq.getD x_1.B.toNat default) (Y2.Me.Pq.getD x_1.A.toNat default)).X), .f .f32 ((Z1V (Y2.Me.Pq.getD x_1.B.toNat default) (Y2.Me.Pq.getD x_1.A.toNat default)).Y), .f .f32 ((Z1V (Y2.Me.Pq.getD x_1.B.toNat default) (Y2.Me.Pq.getD x_1.A.toNat default)).Z)], .f .f32 (Zb7 Y2 x_1)]) [] func96 (sK [24, 24] <| sG Gv.c Y2.Me.Pq x_1.B y0 hp8 <| sG Gv.c Y2.Me.Pq x_1.A y1 hp6 <| sF (Z5g (Y2.Me.Pq.getD x_1.B.toNat default) (Y2.Me.Pq.getD x_1.A.toNat default)) <| sF (Z7t (Z1V (Y2.Me.Pq.getD x_1.B.toNat default) (Y2.Me.Pq.getD x_1.A.toNat default))) <| sK [14, 14] <| sF (Zc4 (Zb6 Y2 x_1) (Z2k (Z1V (Y2.Me.Pq.getD x_1.B.toNat default) (Y2.Me.Pq.getD x_1.A.toNat default)))) <| sK [] sN) rfl (by kernel_rfl) (by kernel_rfl) rfl ?_ ?_
 · rfl
 · rfl
def Zq (v_0 : Gv) (YB : Nat) : Gv := (⟨(fop .mul .f32 v_0.X YB), (fop .mul .f32 v_0.Y YB), (fop .mul .f32 v_0.Z YB)⟩ : Gv)
theorem Z3M (v_0 : Gv) (YB : Nat)   : Fn prog 90 [.agg [.f .f32 v_0.X, .f .f32 v_0.Y, .f .f32 v_0.Z], .f .f32 YB] (.agg [.f .f32 ((Zq v_0 YB).X), .f .f32 ((Zq v_0 YB).Y), .f .f32 ((Zq v_0 YB).Z)]) [] := by
 refine fnS E0Ok Z5 (c := bodyOf f90) [] (.agg [.f .f32 (fop .mul .f32 v_0.X YB), .f .f32 (fop .mul .f32 v_0.Y YB), .f .f32 (fop .mul .f32 v_0.Z YB)]) [] func90 (sK [] sN) rfl (by kernel_rfl) (by kernel_rfl) rfl ?_ ?_
 · rfl
 · rfl
def Zn (Y0 : Gb) (Y1 : Int) (Y3 : (List Gv)) : Gv := (ZI (Y3.getD (((Y0.Sp.getD Y1.toNat default).A).toNat) default) (Zq ((Z2X Y0 (Y0.Sp.getD Y1.toNat default)).1) ((Z2X Y0 (Y0.Sp.getD Y1.toNat default)).2)))
def Z9p (Y0 : Gb) (Y1 : Int) : Gv := (Zq ((Z2X Y0 (Y0.Sp.getD Y1.toNat default)).1) (fneg .f32 ((Z2X Y0 (Y0.Sp.getD Y1.toNat default)).2)))
def Z34 (Y0 : Gb) (Y1 : Int) (Y3 : (List Gv)) : Gv := (ZI ((Y3.set (((Y0.Sp.getD Y1.toNat default).A).toNat) (Zn Y0 Y1 Y3)).getD (((Y0.Sp.getD Y1.toNat default).B).toNat) default) (Z9p Y0 Y1))
def Z1o (Y0 : Gb) : Nat → Int → (List Gv) → (List Gv)
  | 0, _, _ => default
  | k + 1, Y1, Y3 => (cond (decide (Y1 < (Y0.Sp.length : Int)))
    (Z1o Y0 k (Y1 + 1) ((Y3.set (((Y0.Sp.getD Y1.toNat default).A).toNat) (Zn Y0 Y1 Y3)).set (((Y0.Sp.getD Y1.toNat default).B).toNat) (Z34 Y0 Y1 Y3)))
    Y3)
def Z6D (Y0 : Gb) (r : (List Gv)) : Ex × St := ((.exit 0), ⟨.ref (Gb.c Y0) 0 :: .any :: .nils :: .ref (Gb.c Y0) 0 :: .own 0 :: an 15 (.ref (Gb.c Y0) 0 :: .ref (Gb.c Y0) 0 :: .ref (Gb.c Y0) 0 :: .ref (Gb.c Y0) 0 :: .ref (Gb.c Y0) 0 :: .ref (Gb.c Y0) 0 :: .sl (Y0.Me.Pq.map Gv.c) :: .i .i64 (Y0.Me.Pq.length : Int) :: .own 0 :: .ref (Gb.c Y0) 0 :: .ref (Gb.c Y0) 0 :: .ref (Gb.c Y0) 2 :: .sl (Y0.Sp.map Gs.c) :: an 247 []), [.vec 40 3 (r.map Gv.c) false]⟩)
def Z6E (Y0 : Gb) (Y1 : Int) (Y3 : (List Gv)) : St := ⟨.ref (Gb.c Y0) 0 :: .any :: .nils :: .ref (Gb.c Y0) 0 :: .own 0 :: an 15 (.ref (Gb.c Y0) 0 :: .ref (Gb.c Y0) 0 :: .ref (Gb.c Y0) 0 :: .ref (Gb.c Y0) 0 :: .ref (Gb.c Y0) 0 :: .ref (Gb.c Y0) 0 :: .sl (Y0.Me.Pq.map Gv.c) :: .i .i64 (Y0.Me.Pq.length : Int) :: .own 0 :: .ref (Gb.c Y0) 0 :: .ref (Gb.c Y0) 0 :: .ref (Gb.c Y0) 2 :: .sl (Y0.Sp.map Gs.c) :: .i .i64 (Y0.Sp.length : Int) :: .i .i64 Y1 :: an 245 []), [.vec 40 3 (Y3.map Gv.c) false]⟩
theorem Zd4 (Y0 : Gb) (hp0 : Y0.Me.Pq.length ≤ 1073741824) (hp1 : Y0.Me.Tr.length ≤ 1073741824) (hp2 : ∀ t ∈ Y0.Me.Tr, t.length ≤ 1073741824) (hp3 : Y0.Sp.length ≤ 1073741824) (hp4 : Y0.We.length ≤ 1073741824) (hp5 : OkBd Y0) : ∀ (k : Nat) (Y1 : Int) (Y3 : (List Gv)) (Z8e : 0 ≤ Y1) (Z8f : Y3.length = Y0.Me.Pq.length) (hk : ((Y0.Sp.length : Int) - Y1).toNat < k), Lp prog 0 (sub (bodyOf f51) [1, 1, 1, 0, 1, 0, 0]) (Z6E Y0 Y1 Y3) (Z6D Y0 (Z1o Y0 k Y1 Y3)).1 (Z6D Y0 (Z1o Y0 k Y1 Y3)).2 := by
 intro k
 induction k with
 | zero => intro Y1 Y3 Z8e Z8f hk; exact absurd hk (Nat.not_lt_zero _)
 | succ k ih =>
  intro Y1 Y3 Z8e Z8f hk
  cases Yj : (decide (Y1 < (Y0.Sp.length : Int))) with
  | true =>
   have YM := odt Yj
   have YS : (0 : Int) ≤ Y1 := (by assumption)
   have YT : Y1 < (Y0.Sp.length : Int) := (by assumption)
   have YY : 0 ≤ (Y0.Sp.getD Y1.toNat default).A := (by have q := Z3q hp5 (by assumption) Yj; omega)
   have YZ : (Y0.Sp.getD Y1.toNat default).A < (Y0.Me.Pq.length : Int) := (by have q := Z3q hp5 (by assumption) Yj; omega)
   have y_4 : 0 ≤ (Y0.Sp.getD Y1.toNat default).B := (by have q := Z3q hp5 (by assumption) Yj; omega)
   have y_5 : (Y0.Sp.getD Y1.toNat default).B < (Y0.Me.Pq.length : Int) := (by have q := Z3q hp5 (by assumption) Yj; omega)
   have y_6 : (0 : Int) ≤ ((Y0.Sp.getD Y1.toNat default).A) := (by assumption)
   have y_7 : ((Y0.Sp.getD Y1.toNat default).A) < (Y3.length : Int) := (by omega)
   have y_8 : ((Y0.Sp.getD Y1.toNat default).A).toNat < Y3.length := (by omega)
   have y_9 : (0 : Int) ≤ ((Y0.Sp.getD Y1.toNat default).B) := (by assumption)
   have Y1c : ((Y0.Sp.getD Y1.toNat default).B) < ((Y3.set (((Y0.Sp.getD Y1.toNat default).A).toNat) (Zn Y0 Y1 Y3)).length : Int) := (by have q := hp5.w; have q := Z3q hp5 (by assumption) Yj; (simp only [List.length_set]; omega))
   have Y1j : ((Y0.Sp.getD Y1.toNat default).B).toNat < (Y3.set (((Y0.Sp.getD Y1.toNat default).A).toNat) (Zn Y0 Y1 Y3)).length := (by omega)
   have Y1m : (-9223372036854775808 : Int) ≤ (Y1 + 1) := (by omega)
   have Y1n : (Y1 + 1) ≤ (9223372036854775807 : Int) := (by omega)
   have e : Z1o Y0 (k + 1) Y1 Y3 = (Z1o Y0 k (Y1 + 1) ((Y3.set (((Y0.Sp.getD Y1.toNat default).A).toNat) (Zn Y0 Y1 Y3)).set (((Y0.Sp.getD Y1.toNat default).B).toNat) (Z34 Y0 Y1 Y3))) := by simp only [Z1o, Yj, cond_true]
   rw [e]
   exact nextS E0Ok Z5 [] (mR false [0, 1, 1, 3, 15, 15, 245]) [0] (⟨.ref (Gb.c Y0) 0 :: .any :: .nils :: .ref (Gb.c Y0) 0 :: .own 0 :: an 15 (.ref (Gb.c Y0) 0 :: .ref (Gb.c Y0) 0 :: .ref (Gb.c Y0) 0 :: .ref (Gb.c Y0) 0 :: .ref (Gb.c Y0) 0 :: .ref (Gb.c Y0) 0 :: .sl (Y0.Me.Pq.map Gv.c) :: .i .i64 (Y0.Me.Pq.length : Int) :: .own 0 :: .ref (Gb.c Y0) 0 :: .ref (Gb.c Y0) 0 :: .ref (Gb.c Y0) 2 :: .sl (Y0.Sp.map Gs.c) :: .i .i64 (Y0.Sp.length : Int) :: .i .i64 (Y1 + 1) :: an 245 []), [.vec 40 3 (((Y3.map Gv.c).set (((Y0.Sp.getD Y1.toNat default).A).toNat) [.f .f32 ((Zn Y0 Y1 Y3).X), .f .f32 ((Zn Y0 Y1 Y3).Y), .f .f32 ((Zn Y0 Y1 Y3).Z)]).set (((Y0.Sp.getD Y1.toNat default).B).toNat) [.f .f32 ((Z34 Y0 Y1 Y3).X), .f .f32 ((Z34 Y0 Y1 Y3).Y), .f .f32 ((Z34 Y0 Y1 Y3).Z)]) false]⟩) (sB Yj <| sG Gs.c Y0.Sp Y1 YS YT <| sF (Zgg Y0 (Y0.Sp.getD Y1.toNat default) hp0 hp1 hp2 hp3 hp4 YY YZ y_4 y_5) <| sK [16, 16] <| sX Gv.c Y3 ((Y0.Sp.getD Y1.toNat default).A) y_6 y_7 <| sV Gv.c Y3 (((Y0.Sp.getD Y1.toNat default).A).toNat) y_8 <| sF (Z3M ((Z2X Y0 (Y0.Sp.getD Y1.toNat default)).1) ((Z2X Y0 (Y0.Sp.getD Y1.toNat default)).2)) <| sF (Z3J (Y3.getD (((Y0.Sp.getD Y1.toNat default).A).toNat) default) (Zq ((Z2X Y0 (Y0.Sp.getD Y1.toNat default)).1) ((Z2X Y0 (Y0.Sp.getD Y1.toNat default)).2))) <| sX Gv.c Y3 ((Y0.Sp.getD Y1.toNat default).A) y_6 y_7 <| sC (maplt (c := Gv.c) (l := Y3) y_8) <| sK [17, 17] <| sC (show 0 ≤ ((Y0.Sp.getD Y1.toNat default).B) ∧ Int.toNat ((Y0.Sp.getD Y1.toNat default).B) < ((Y3.map Gv.c).set (((Y0.Sp.getD Y1.toNat default).A).toNat) [.f .f32 ((Zn Y0 Y1 Y3).X), .f .f32 ((Zn Y0 Y1 Y3).Y), .f .f32 ((Zn Y0 Y1 Y3).Z)]).length from (by simpa using idx_ok (c := Gv.c) (l := (Y3.set (((Y0.Sp.getD Y1.toNat default).A).toNat) (Zn Y0 Y1 Y3))) (i := (Y0.Sp.getD Y1.toNat default).B) y_9 Y1c)) <| sE (show ((Y3.map Gv.c).set (((Y0.Sp.getD Y1.toNat default).A).toNat) [.f .f32 ((Zn Y0 Y1 Y3).X), .f .f32 ((Zn Y0 Y1 Y3).Y), .f .f32 ((Zn Y0 Y1 Y3).Z)])[((Y0.Sp.getD Y1.toNat default).B).toNat]? = some [.f .f32 (((Y3.set (((Y0.Sp.getD Y1.toNat default).A).toNat) (Zn Y0 Y1 Y3)).getD (((Y0.Sp.getD Y1.toNat default).B).toNat) default).X), .f .f32 (((Y3.set (((Y0.Sp.getD Y1.toNat default).A).toNat) (Zn Y0 Y1 Y3)).getD (((Y0.Sp.getD Y1.toNat default).B).toNat) default).Y), .f .f32 (((Y3.set (((Y0.Sp.getD Y1.toNat default).A).toNat) (Zn Y0 Y1 Y3)).getD (((Y0.Sp.getD Y1.toNat default).B).toNat) default).Z)] from (by have q := vget_ok (c := Gv.c) (l := (Y3.set (((Y0.Sp.getD Y1.toNat default).A).toNat) (Zn Y0 Y1 Y3))) (k := ((Y0.Sp.getD Y1.toNat default).B).toNat) Y1j; (simp only [List.map_set, List.map_append, List.map_cons, List.map_nil, List.map_replicate] at q; exact q))) <| sF (Z3M ((Z2X Y0 (Y0.Sp.getD Y1.toNat default)).1) (fneg .f32 ((Z2X Y0 (Y0.Sp.getD Y1.toNat default)).2))) <| sF (Z3J ((Y3.set (((Y0.Sp.getD Y1.toNat default).A).toNat) (Zn Y0 Y1 Y3)).getD (((Y0.Sp.getD Y1.toNat default).B).toNat) default) (Z9p Y0 Y1)) <| sC (show 0 ≤ ((Y0.Sp.getD Y1.toNat default).B) ∧ Int.toNat ((Y0.Sp.getD Y1.toNat default).B) < ((Y3.map Gv.c).set (((Y0.Sp.getD Y1.toNat default).A).toNat) [.f .f32 ((Zn Y0 Y1 Y3).X), .f .f32 ((Zn Y0 Y1 Y3).Y), .f .f32 ((Zn Y0 Y1 Y3).Z)]).length from (by simpa using idx_ok (c := Gv.c) (l := (Y3.set (((Y0.Sp.getD Y1.toNat default).A).toNat) (Zn Y0 Y1 Y3))) (i := (Y0.Sp.getD Y1.toNat default).B) y_9 Y1c)) <| sC (show ((Y0.Sp.getD Y1.toNat default).B).toNat < ((Y3.map Gv.c).set (((Y0.Sp.getD Y1.toNat default).A).toNat) [.f .f32 ((Zn Y0 Y1 Y3).X), .f .f32 ((Zn Y0 Y1 Y3).Y), .f .f32 ((Zn Y0 Y1 Y3).Z)]).length from (by simpa using Y1j)) <| sI (Y1 + 1) Y1m Y1n <| sN) (by kernel_rfl) (by simp [Z6E, List.map_set, Gv.c]) (ih (Y1 + 1) ((Y3.set (((Y0.Sp.getD Y1.toNat default).A).toNat) (Zn Y0 Y1 Y3)).set (((Y0.Sp.getD Y1.toNat default).B).toNat) (Z34 Y0 Y1 Y3)) (show 0 ≤ (Y1 + 1) from (by omega)) (show ((Y3.set (((Y0.Sp.getD Y1.toNat default).A).toNat) (Zn Y0 Y1 Y3)).set (((Y0.Sp.getD Y1.toNat default).B).toNat) (Z34 Y0 Y1 Y3)).length = Y0.Me.Pq.length from (by have q := hp5.w; have q := Z3q hp5 (by assumption) Yj; (simp only [List.length_set]; omega))) (by omega))
  | false =>
   have YM := odf Yj
   have e : Z1o Y0 (k + 1) Y1 Y3 = Y3 := by simp only [Z1o, Yj, cond_false]
   rw [e]
   exact outR (e := (.exit 0)) E0Ok Z5 [] (mR false [0, 1, 1, 3, 15, 13, 247]) [0] (sB Yj <| sN) (by kernel_rfl) (by intro h; cases h)
theorem Zc5 (Y0 : Gb) : ∀ (k : Nat) (Y1 : Int) (Y3 : (List Gv)) (hk : ((Y0.Sp.length : Int) - Y1).toNat < k), (Z1o Y0 k Y1 Y3).length = Y3.length := by
  intro k
  induction k with
  | zero => intro Y1 Y3 hk; exact absurd hk (Nat.not_lt_zero _)
  | succ k ih =>
    intro Y1 Y3 hk
    cases Yj : (decide (Y1 < (Y0.Sp.length : Int))) with
    | true =>
      have e : Z1o Y0 (k + 1) Y1 Y3 = (Z1o Y0 k (Y1 + 1) ((Y3.set (((Y0.Sp.getD Y1.toNat default).A).toNat) (Zn Y0 Y1 Y3)).set (((Y0.Sp.getD Y1.toNat default).B).toNat) (Z34 Y0 Y1 Y3))) := by simp only [Z1o, Yj, cond_true]
      rw [e, ih (Y1 + 1) ((Y3.set (((Y0.Sp.getD Y1.toNat default).A).toNat) (Zn Y0 Y1 Y3)).set (((Y0.Sp.getD Y1.toNat default).B).toNat) (Z34 Y0 Y1 Y3)) (by simp_all <;> omega)]; simp
    | false =>
      have e : Z1o Y0 (k + 1) Y1 Y3 = Y3 := by simp only [Z1o, Yj, cond_false]
      first | (rw [e]; done) | (rw [e]; rfl)
def Z38 (Y0 : Gb) : (List Gv) := (Z1o Y0 (((Y0.Sp.length : Int) - 0).toNat + 1) 0 (List.replicate (Y0.Me.Pq.length : Int).toNat (⟨0, 0, 0⟩ : Gv)))
@[simp] theorem ZfX (Y0 : Gb) : (Z38 Y0).length = ((List.replicate (Y0.Me.Pq.length : Int).toNat (⟨0, 0, 0⟩ : Gv)) : (List Gv)).length := Zc5 Y0 (((Y0.Sp.length : Int) - 0).toNat + 1) 0 (List.replicate (Y0.Me.Pq.length : Int).toNat (⟨0, 0, 0⟩ : Gv)) (by exact Nat.lt_succ_self _)
def Z2M (Y0 : Gb) (Y1 : Int) : Nat := (Z4D (fneg .f32 (fop .mul .f32 1056964608 Y0.Film)) (Z2k (Zi Y0.Me (Y0.Me.Tr.getD Y1.toNat default))))
def Z6F (Y0 : Gb) (Y1 : Int) (Y6 : Int) : Gv := (Z1V (Y0.Me.Pq.getD ((Y0.Me.Tr.getD Y1.toNat default).getD (Int.tmod (Y6 + 2) 3).toNat default).toNat default) (Y0.Me.Pq.getD ((Y0.Me.Tr.getD Y1.toNat default).getD (Int.tmod (Y6 + 1) 3).toNat default).toNat default))
def Z5n (Y0 : Gb) (Y1 : Int) (Y6 : Int) : Gv := (Zq (Z4N (Zi Y0.Me (Y0.Me.Tr.getD Y1.toNat default)) (Z6F Y0 Y1 Y6)) (Z2M Y0 Y1))
def Z2n (Y0 : Gb) (Y1 : Int) (Y6 : Int) (YF : (List Gv)) : Gv := (ZI (YF.getD (((Y0.Me.Tr.getD Y1.toNat default).getD Y6.toNat default).toNat) default) (Z5n Y0 Y1 Y6))
def ZU (Y0 : Gb) (Y1 : Int) (Y3 : (List Gv)) : Nat → Int → (List Gv) → (List Gv)
  | 0, _, _ => default
  | k + 1, Y6, YF => (cond (decide (Y6 < 3))
    (ZU Y0 Y1 Y3 k (Y6 + 1) (YF.set (((Y0.Me.Tr.getD Y1.toNat default).getD Y6.toNat default).toNat) (Z2n Y0 Y1 Y6 YF)))
    YF)
def Z6G (Y0 : Gb) (Y1 : Int) (Y3 : (List Gv)) (r : (List Gv)) : Ex × St := ((.exit 4), ⟨.ref (Gb.c Y0) 0 :: .any :: .nils :: .ref (Gb.c Y0) 0 :: .own 0 :: an 4 (.i .i64 Y1 :: .sl ((Y0.Me.Tr.getD Y1.toNat default).map (cI .i64)) :: .ptr 1 0 0 :: .f .f32 (Z2M Y0 Y1) :: an 7 (.ref (Gb.c Y0) 0 :: .ref (Gb.c Y0) 0 :: .ref (Gb.c Y0) 0 :: .ref (Gb.c Y0) 0 :: .ref (Gb.c Y0) 0 :: .ref (Gb.c Y0) 0 :: .sl (Y0.Me.Pq.map Gv.c) :: .i .i64 (Y0.Me.Pq.length : Int) :: .own 0 :: .ref (Gb.c Y0) 0 :: .ref (Gb.c Y0) 0 :: .ref (Gb.c Y0) 2 :: .sl (Y0.Sp.map Gs.c) :: an 52 (.ref (Gb.c Y0) 0 :: .ref (Gb.c Y0) 0 :: .ref (Gb.c Y0) 1 :: .sl (Y0.Me.Tr.map (cL (cI .i64))) :: .i .i64 (Y0.Me.Tr.length : Int) :: .i .i64 Y1 :: .b (decide (Y1 < (Y0.Me.Tr.length : Int))) :: .i .i64 Y1 :: .ref (Gb.c Y0) 0 :: .ref (Gb.c Y0) 0 :: .ref (Gb.c Y0) 1 :: .sl (Y0.Me.Tr.map (cL (cI .i64))) :: .i .i64 Y1 :: .ref [.sl ((Y0.Me.Tr.getD Y1.toNat default).map (cI .i64))] 0 :: .sl ((Y0.Me.Tr.getD Y1.toNat default).map (cI .i64)) :: .ref (Gb.c Y0) 0 :: .sl ((Y0.Me.Tr.getD Y1.toNat default).map (cI .i64)) :: .agg [.f .f32 ((Zi Y0.Me (Y0.Me.Tr.getD Y1.toNat default)).X), .f .f32 ((Zi Y0.Me (Y0.Me.Tr.getD Y1.toNat default)).Y), .f .f32 ((Zi Y0.Me (Y0.Me.Tr.getD Y1.toNat default)).Z)] :: .ref (Gb.c Y0) 0 :: .ref (Gb.c Y0) 0 :: .ref (Gb.c Y0) 3 :: .f .f32 Y0.Film :: .f .f32 (fop .mul .f32 1056964608 Y0.Film) :: .f .f32 (fneg .f32 (fop .mul .f32 1056964608 Y0.Film)) :: .agg [.f .f32 ((Zi Y0.Me (Y0.Me.Tr.getD Y1.toNat default)).X), .f .f32 ((Zi Y0.Me (Y0.Me.Tr.getD Y1.toNat default)).Y), .f .f32 ((Zi Y0.Me (Y0.Me.Tr.getD Y1.toNat default)).Z)] :: .f .f32 (Z2k (Zi Y0.Me (Y0.Me.Tr.getD Y1.toNat default))) :: .f .f32 (Z2M Y0 Y1) :: an 168 []))), [.vec 40 3 (r.map Gv.c) false, .box 40 [.f .f32 ((Zi Y0.Me (Y0.Me.Tr.getD Y1.toNat default)).X), .f .f32 ((Zi Y0.Me (Y0.Me.Tr.getD Y1.toNat default)).Y), .f .f32 ((Zi Y0.Me (Y0.Me.Tr.getD Y1.toNat default)).Z)]]⟩)
def Z9q (Y0 : Gb) (Y1 : Int) (Y3 : (List Gv)) (Y6 : Int) (YF : (List Gv)) : St := ⟨.ref (Gb.c Y0) 0 :: .any :: .nils :: .ref (Gb.c Y0) 0 :: .own 0 :: an 4 (.i .i64 Y1 :: .sl ((Y0.Me.Tr.getD Y1.toNat default).map (cI .i64)) :: .ptr 1 0 0 :: .f .f32 (Z2M Y0 Y1) :: .i .i64 Y6 :: an 6 (.ref (Gb.c Y0) 0 :: .ref (Gb.c Y0) 0 :: .ref (Gb.c Y0) 0 :: .ref (Gb.c Y0) 0 :: .ref (Gb.c Y0) 0 :: .ref (Gb.c Y0) 0 :: .sl (Y0.Me.Pq.map Gv.c) :: .i .i64 (Y0.Me.Pq.length : Int) :: .own 0 :: .ref (Gb.c Y0) 0 :: .ref (Gb.c Y0) 0 :: .ref (Gb.c Y0) 2 :: .sl (Y0.Sp.map Gs.c) :: an 52 (.ref (Gb.c Y0) 0 :: .ref (Gb.c Y0) 0 :: .ref (Gb.c Y0) 1 :: .sl (Y0.Me.Tr.map (cL (cI .i64))) :: .i .i64 (Y0.Me.Tr.length : Int) :: .i .i64 Y1 :: .b (decide (Y1 < (Y0.Me.Tr.length : Int))) :: .i .i64 Y1 :: .ref (Gb.c Y0) 0 :: .ref (Gb.c Y0) 0 :: .ref (Gb.c Y0) 1 :: .sl (Y0.Me.Tr.map (cL (cI .i64))) :: .i .i64 Y1 :: .ref [.sl ((Y0.Me.Tr.getD Y1.toNat default).map (cI .i64))] 0 :: .sl ((Y0.Me.Tr.getD Y1.toNat default).map (cI .i64)) :: .ref (Gb.c Y0) 0 :: .sl ((Y0.Me.Tr.getD Y1.toNat default).map (cI .i64)) :: .agg [.f .f32 ((Zi Y0.Me (Y0.Me.Tr.getD Y1.toNat default)).X), .f .f32 ((Zi Y0.Me (Y0.Me.Tr.getD Y1.toNat default)).Y), .f .f32 ((Zi Y0.Me (Y0.Me.Tr.getD Y1.toNat default)).Z)] :: .ref (Gb.c Y0) 0 :: .ref (Gb.c Y0) 0 :: .ref (Gb.c Y0) 3 :: .f .f32 Y0.Film :: .f .f32 (fop .mul .f32 1056964608 Y0.Film) :: .f .f32 (fneg .f32 (fop .mul .f32 1056964608 Y0.Film)) :: .agg [.f .f32 ((Zi Y0.Me (Y0.Me.Tr.getD Y1.toNat default)).X), .f .f32 ((Zi Y0.Me (Y0.Me.Tr.getD Y1.toNat default)).Y), .f .f32 ((Zi Y0.Me (Y0.Me.Tr.getD Y1.toNat default)).Z)] :: .f .f32 (Z2k (Zi Y0.Me (Y0.Me.Tr.getD Y1.toNat default))) :: .f .f32 (Z2M Y0 Y1) :: an 168 []))), [.vec 40 3 (YF.map Gv.c) false, .box 40 [.f .f32 ((Zi Y0.Me (Y0.Me.Tr.getD Y1.toNat default)).X), .f .f32 ((Zi Y0.Me (Y0.Me.Tr.getD Y1.toNat default)).Y), .f .f32 ((Zi Y0.Me (Y0.Me.Tr.getD Y1.toNat default)).Z)]]⟩
def Z8g : List Bool := (mR false [0, 1, 1, 3, 4, 5, 6, 13, 52, 27, 168])
def Zc6 : List Bool := (mR false [0, 1, 1, 3, 4, 4, 7, 13, 52, 27, 168])
set_option maxHeartbeats 1000000 in
theorem Zd5 (Y0 : Gb) (Y1 : Int) (Y3 : (List Gv)) (hp0 : Y0.Me.Pq.length ≤ 1073741824) (hp1 : Y0.Me.Tr.length ≤ 1073741824) (hp2 : ∀ t ∈ Y0.Me.Tr, t.length ≤ 1073741824) (hp3 : Y0.Sp.length ≤ 1073741824) (hp4 : Y0.We.length ≤ 1073741824) (hp5 : OkBd Y0) (Z4Q : 0 ≤ Y1) (Z4R : Y3.length = Y0.Me.Pq.length) (Z1R : (decide (Y1 < (Y0.Me.Tr.length : Int))) = true) : ∀ (k : Nat) (Y6 : Int) (YF : (List Gv)) (Z8h : 0 ≤ Y6) (Z8i : YF.length = Y3.length) (hk : ((3 : Int) - Y6).toNat < k), Lp prog 0 (sub (bodyOf f51) [1, 1, 1, 1, 0, 1, 0, 0, 1, 1, 0, 0, 1, 1, 1, 1, 1, 0, 0]) (Z9q Y0 Y1 Y3 Y6 YF) (Z6G Y0 Y1 Y3 (ZU Y0 Y1 Y3 k Y6 YF)).1 (Z6G Y0 Y1 Y3 (ZU Y0 Y1 Y3 k Y6 YF)).2 := by
 intro k
 induction k with
 | zero => intro Y6 YF Z8h Z8i hk; exact absurd hk (Nat.not_lt_zero _)
 | succ k ih =>
  intro Y6 YF Z8h Z8i hk
  cases YW : (decide (Y6 < 3)) with
  | true =>
   have YU := odt YW
   have Y1g : (-9223372036854775808 : Int) ≤ (Y6 + 2) := (by omega)
   have Y1h : (Y6 + 2) ≤ (9223372036854775807 : Int) := (by omega)
   have Y1e : (0 : Int) ≤ (Int.tmod (Y6 + 2) 3) := (by have q := Z2G hp5.e (by assumption) (odt Z1R) (by assumption) YU; omega)
   have Y1b : (Int.tmod (Y6 + 2) 3) < ((Y0.Me.Tr.getD Y1.toNat default).length : Int) := (by have q := Z2G hp5.e (by assumption) (odt Z1R) (by assumption) YU; omega)
   have Y1i : (0 : Int) ≤ ((Y0.Me.Tr.getD Y1.toNat default).getD (Int.tmod (Y6 + 2) 3).toNat default) := (by have q := Z2G hp5.e (by assumption) (odt Z1R) (by assumption) YU; omega)
   have Y1o : ((Y0.Me.Tr.getD Y1.toNat default).getD (Int.tmod (Y6 + 2) 3).toNat default) < (Y0.Me.Pq.length : Int) := (by have q := Z2G hp5.e (by assumption) (odt Z1R) (by assumption) YU; omega)
   have Y1k : (-9223372036854775808 : Int) ≤ (Y6 + 1) := (by omega)
   have Y1p : (Y6 + 1) ≤ (9223372036854775807 : Int) := (by omega)
   have Y1C : (0 : Int) ≤ (Int.tmod (Y6 + 1) 3) := (by have q := Z2G hp5.e (by assumption) (odt Z1R) (by assumption) YU; omega)
   have Y1J : (Int.tmod (Y6 + 1) 3) < ((Y0.Me.Tr.getD Y1.toNat default).length : Int) := (by have q := Z2G hp5.e (by assumption) (odt Z1R) (by assumption) YU; omega)
   have Y1D : (0 : Int) ≤ ((Y0.Me.Tr.getD Y1.toNat default).getD (Int.tmod (Y6 + 1) 3).toNat default) := (by have q := Z2G hp5.e (by assumption) (odt Z1R) (by assumption) YU; omega)
   have Y1E : ((Y0.Me.Tr.getD Y1.toNat default).getD (Int.tmod (Y6 + 1) 3).toNat default) < (Y0.Me.Pq.length : Int) := (by have q := Z2G hp5.e (by assumption) (odt Z1R) (by assumption) YU; omega)
   have Y1x : (0 : Int) ≤ Y6 := (by assumption)
   have Y1y : Y6 < ((Y0.Me.Tr.getD Y1.toNat default).length : Int) := (by have q := Z2G hp5.e (by assumption) (odt Z1R) (by assumption) YU; omega)
   have Y1z : (0 : Int) ≤ ((Y0.Me.Tr.getD Y1.toNat default).getD Y6.toNat default) := (by have q := Z2G hp5.e (by assumption) (odt Z1R) (by assumption) YU; omega)
   have Y1A : ((Y0.Me.Tr.getD Y1.toNat default).getD Y6.toNat default) < (YF.length : Int) := (by have q := Z2G hp5.e (by assumption) (odt Z1R) (by assumption) YU; omega)
   have Y1B : ((Y0.Me.Tr.getD Y1.toNat default).getD Y6.toNat default).toNat < YF.length := (by omega)
   have e : ZU Y0 Y1 Y3 (k + 1) Y6 YF = (ZU Y0 Y1 Y3 k (Y6 + 1) (YF.set (((Y0.Me.Tr.getD Y1.toNat default).getD Y6.toNat default).toNat) (Z2n Y0 Y1 Y6 YF))) := by simp only [ZU, YW, cond_true]
   rw [e]
   exact nextS E0Ok Z5 [] Z8g [0, 1] (⟨.ref (Gb.c Y0) 0 :: .any :: .nils :: .ref (Gb.c Y0) 0 :: .own 0 :: an 4 (.i .i64 Y1 :: .sl ((Y0.Me.Tr.getD Y1.toNat default).map (cI .i64)) :: .ptr 1 0 0 :: .f .f32 (Z2M Y0 Y1) :: .i .i64 (Y6 + 1) :: an 6 (.ref (Gb.c Y0) 0 :: .ref (Gb.c Y0) 0 :: .ref (Gb.c Y0) 0 :: .ref (Gb.c Y0) 0 :: .ref (Gb.c Y0) 0 :: .ref (Gb.c Y0) 0 :: .sl (Y0.Me.Pq.map Gv.c) :: .i .i64 (Y0.Me.Pq.length : Int) :: .own 0 :: .ref (Gb.c Y0) 0 :: .ref (Gb.c Y0) 0 :: .ref (Gb.c Y0) 2 :: .sl (Y0.Sp.map Gs.c) :: an 52 (.ref (Gb.c Y0) 0 :: .ref (Gb.c Y0) 0 :: .ref (Gb.c Y0) 1 :: .sl (Y0.Me.Tr.map (cL (cI .i64))) :: .i .i64 (Y0.Me.Tr.length : Int) :: .i .i64 Y1 :: .b (decide (Y1 < (Y0.Me.Tr.length : Int))) :: .i .i64 Y1 :: .ref (Gb.c Y0) 0 :: .ref (Gb.c Y0) 0 :: .ref (Gb.c Y0) 1 :: .sl (Y0.Me.Tr.map (cL (cI .i64))) :: .i .i64 Y1 :: .ref [.sl ((Y0.Me.Tr.getD Y1.toNat default).map (cI .i64))] 0 :: .sl ((Y0.Me.Tr.getD Y1.toNat default).map (cI .i64)) :: .ref (Gb.c Y0) 0 :: .sl ((Y0.Me.Tr.getD Y1.toNat default).map (cI .i64)) :: .agg [.f .f32 ((Zi Y0.Me (Y0.Me.Tr.getD Y1.toNat default)).X), .f .f32 ((Zi Y0.Me (Y0.Me.Tr.getD Y1.toNat default)).Y), .f .f32 ((Zi Y0.Me (Y0.Me.Tr.getD Y1.toNat default)).Z)] :: .ref (Gb.c Y0) 0 :: .ref (Gb.c Y0) 0 :: .ref (Gb.c Y0) 3 :: .f .f32 Y0.Film :: .f .f32 (fop .mul .f32 1056964608 Y0.Film) :: .f .f32 (fneg .f32 (fop .mul .f32 1056964608 Y0.Film)) :: .agg [.f .f32 ((Zi Y0.Me (Y0.Me.Tr.getD Y1.toNat default)).X), .f .f32 ((Zi Y0.Me (Y0.Me.Tr.getD Y1.toNat default)).Y), .f .f32 ((Zi Y0.Me (Y0.Me.Tr.getD Y1.toNat default)).Z)] :: .f .f32 (Z2k (Zi Y0.Me (Y0.Me.Tr.getD Y1.toNat default))) :: .f .f32 (Z2M Y0 Y1) :: an 168 []))), [.vec 40 3 ((YF.map Gv.c).set (((Y0.Me.Tr.getD Y1.toNat default).getD Y6.toNat default).toNat) [.f .f32 ((Z2n Y0 Y1 Y6 YF).X), .f .f32 ((Z2n Y0 Y1 Y6 YF).Y), .f .f32 ((Z2n Y0 Y1 Y6 YF).Z)]) false, .box 40 [.f .f32 ((Zi Y0.Me (Y0.Me.Tr.getD Y1.toNat default)).X), .f .f32 ((Zi Y0.Me (Y0.Me.Tr.getD Y1.toNat default)).Y), .f .f32 ((Zi Y0.Me (Y0.Me.Tr.getD Y1.toNat default)).Z)]]⟩) (sB YW <| sK [26, 26] <| sI (Y6 + 2) Y1g Y1h <| sC (show (3 : Int) ≠ 0 from (by decide)) <| sQ (Int.tmod (Y6 + 2) 3) <| sG (cI .i64) (Y0.Me.Tr.getD Y1.toNat default) (Int.tmod (Y6 + 2) 3) Y1e Y1b <| sG Gv.c Y0.Me.Pq ((Y0.Me.Tr.getD Y1.toNat default).getD (Int.tmod (Y6 + 2) 3).toNat default) Y1i Y1o <| sI (Y6 + 1) Y1k Y1p <| sC (show (3 : Int) ≠ 0 from (by decide)) <| sQ (Int.tmod (Y6 + 1) 3) <| sG (cI .i64) (Y0.Me.Tr.getD Y1.toNat default) (Int.tmod (Y6 + 1) 3) Y1C Y1J <| sG Gv.c Y0.Me.Pq ((Y0.Me.Tr.getD Y1.toNat default).getD (Int.tmod (Y6 + 1) 3).toNat default) Y1D Y1E <| sF (Z5g (Y0.Me.Pq.getD ((Y0.Me.Tr.getD Y1.toNat default).getD (Int.tmod (Y6 + 2) 3).toNat default).toNat default) (Y0.Me.Pq.getD ((Y0.Me.Tr.getD Y1.toNat default).getD (Int.tmod (Y6 + 1) 3).toNat default).toNat default)) <| sK [18, 18] <| sG (cI .i64) (Y0.Me.Tr.getD Y1.toNat default) Y6 Y1x Y1y <| sG (cI .i64) (Y0.Me.Tr.getD Y1.toNat default) Y6 Y1x Y1y <| sX Gv.c YF ((Y0.Me.Tr.getD Y1.toNat default).getD Y6.toNat default) Y1z Y1A <| sV Gv.c YF (((Y0.Me.Tr.getD Y1.toNat default).getD Y6.toNat default).toNat) Y1B <| sF (ZbB (Zi Y0.Me (Y0.Me.Tr.getD Y1.toNat default)) (Z6F Y0 Y1 Y6)) <| sF (Z3M (Z4N (Zi Y0.Me (Y0.Me.Tr.getD Y1.toNat default)) (Z6F Y0 Y1 Y6)) (Z2M Y0 Y1)) <| sF (Z3J (YF.getD (((Y0.Me.Tr.getD Y1.toNat default).getD Y6.toNat default).toNat) default) (Z5n Y0 Y1 Y6)) <| sX Gv.c YF ((Y0.Me.Tr.getD Y1.toNat default).getD Y6.toNat default) Y1z Y1A <| sC (maplt (c := Gv.c) (l := YF) Y1B) <| sI (Y6 + 1) Y1k Y1p <| sN) (by kernel_rfl) (by simp [Z9q, List.map_set, Gv.c]) (ih (Y6 + 1) (YF.set (((Y0.Me.Tr.getD Y1.toNat default).getD Y6.toNat default).toNat) (Z2n Y0 Y1 Y6 YF)) (show 0 ≤ (Y6 + 1) from (by omega)) (show (YF.set (((Y0.Me.Tr.getD Y1.toNat default).getD Y6.toNat default).toNat) (Z2n Y0 Y1 Y6 YF)).length = Y3.length from (by have q := Z2G hp5.e (by assumption) (odt Z1R) (by assumption) YU; (simp only [List.length_set]; omega))) (by omega))
  | false =>
   have YU := odf YW
   have e : ZU Y0 Y1 Y3 (k + 1) Y6 YF = YF := by simp only [ZU, YW, cond_false]
   rw [e]
   exact outR (e := (.exit 4)) E0Ok Z5 [] Zc6 [0, 1] (sB YW <| sN) (by kernel_rfl) (by intro h; cases h)
theorem Zc7 (Y0 : Gb) (Y1 : Int) (Y3 : (List Gv)) : ∀ (k : Nat) (Y6 : Int) (YF : (List Gv)) (hk : ((3 : Int) - Y6).toNat < k), (ZU Y0 Y1 Y3 k Y6 YF).length = YF.length := by
  intro k
  induction k with
  | zero => intro Y6 YF hk; exact absurd hk (Nat.not_lt_zero _)
  | succ k ih =>
    intro Y6 YF hk
    cases YW : (decide (Y6 < 3)) with
    | true =>
      have e : ZU Y0 Y1 Y3 (k + 1) Y6 YF = (ZU Y0 Y1 Y3 k (Y6 + 1) (YF.set (((Y0.Me.Tr.getD Y1.toNat default).getD Y6.toNat default).toNat) (Z2n Y0 Y1 Y6 YF))) := by simp only [ZU, YW, cond_true]
      rw [e, ih (Y6 + 1) (YF.set (((Y0.Me.Tr.getD Y1.toNat default).getD Y6.toNat default).toNat) (Z2n Y0 Y1 Y6 YF)) (by simp_all <;> omega)]; simp
    | false =>
      have e : ZU Y0 Y1 Y3 (k + 1) Y6 YF = YF := by simp only [ZU, YW, cond_false]
      first | (rw [e]; done) | (rw [e]; rfl)
def Z2H (Y0 : Gb) (Y1 : Int) (Y3 : (List Gv)) : (List Gv) := (ZU Y0 Y1 Y3 (((3 : Int) - 0).toNat + 1) 0 Y3)
@[simp] theorem ZfY (Y0 : Gb) (Y1 : Int) (Y3 : (List Gv)) : (Z2H Y0 Y1 Y3).length = (Y3 : (List Gv)).length := Zc7 Y0 Y1 Y3 (((3 : Int) - 0).toNat + 1) 0 Y3 (by exact Nat.lt_succ_self _)
def Z15 (Y0 : Gb) : Nat → Int → (List Gv) → (List Gv)
  | 0, _, _ => default
  | k + 1, Y1, Y3 => (cond (decide (Y1 < (Y0.Me.Tr.length : Int)))
    (Z15 Y0 k (Y1 + 1) (Z2H Y0 Y1 Y3))
    Y3)
def Z6H (Y0 : Gb) (r : (List Gv)) : Ex × St := ((.exit 2), ⟨.ref (Gb.c Y0) 0 :: .any :: .nils :: .ref (Gb.c Y0) 0 :: .own 0 :: an 15 (.ref (Gb.c Y0) 0 :: .ref (Gb.c Y0) 0 :: .ref (Gb.c Y0) 0 :: .ref (Gb.c Y0) 0 :: .ref (Gb.c Y0) 0 :: .ref (Gb.c Y0) 0 :: .sl (Y0.Me.Pq.map Gv.c) :: .i .i64 (Y0.Me.Pq.length : Int) :: .own 0 :: .ref (Gb.c Y0) 0 :: .ref (Gb.c Y0) 0 :: .ref (Gb.c Y0) 2 :: .sl (Y0.Sp.map Gs.c) :: an 52 (.ref (Gb.c Y0) 0 :: .ref (Gb.c Y0) 0 :: .ref (Gb.c Y0) 1 :: .sl (Y0.Me.Tr.map (cL (cI .i64))) :: an 191 [])), [.vec 40 3 (r.map Gv.c) false]⟩)
def Zd6 (Y0 : Gb) (Y1 : Int) (Y3 : (List Gv)) : St := ⟨.ref (Gb.c Y0) 0 :: .any :: .nils :: .ref (Gb.c Y0) 0 :: .own 0 :: an 15 (.ref (Gb.c Y0) 0 :: .ref (Gb.c Y0) 0 :: .ref (Gb.c Y0) 0 :: .ref (Gb.c Y0) 0 :: .ref (Gb.c Y0) 0 :: .ref (Gb.c Y0) 0 :: .sl (Y0.Me.Pq.map Gv.c) :: .i .i64 (Y0.Me.Pq.length : Int) :: .own 0 :: .ref (Gb.c Y0) 0 :: .ref (Gb.c Y0) 0 :: .ref (Gb.c Y0) 2 :: .sl (Y0.Sp.map Gs.c) :: an 52 (.ref (Gb.c Y0) 0 :: .ref (Gb.c Y0) 0 :: .ref (Gb.c Y0) 1 :: .sl (Y0.Me.Tr.map (cL (cI .i64))) :: .i .i64 (Y0.Me.Tr.length : Int) :: .i .i64 Y1 :: an 189 [])), [.vec 40 3 (Y3.map Gv.c) false]⟩
def Z8j : List Bool := (mR false [0, 1, 1, 3, 15, 13, 52, 6, 189])
def Zc8 : List Bool := (mR false [0, 1, 1, 3, 15, 13, 52, 4, 191])
theorem Zd7 (Y0 : Gb) (hp0 : Y0.Me.Pq.length ≤ 1073741824) (hp1 : Y0.Me.Tr.length ≤ 1073741824) (hp2 : ∀ t ∈ Y0.Me.Tr, t.length ≤ 1073741824) (hp3 : Y0.Sp.length ≤ 1073741824) (hp4 : Y0.We.length ≤ 1073741824) (hp5 : OkBd Y0) : ∀ (k : Nat) (Y1 : Int) (Y3 : (List Gv)) (Z4Q : 0 ≤ Y1) (Z4R : Y3.length = Y0.Me.Pq.length) (hk : ((Y0.Me.Tr.length : Int) - Y1).toNat < k), Lp prog 0 (sub (bodyOf f51) [1, 1, 1, 1, 0, 1, 0, 0]) (Zd6 Y0 Y1 Y3) (Z6H Y0 (Z15 Y0 k Y1 Y3)).1 (Z6H Y0 (Z15 Y0 k Y1 Y3)).2 := by
 intro k
 induction k with
 | zero => intro Y1 Y3 Z4Q Z4R hk; exact absurd hk (Nat.not_lt_zero _)
 | succ k ih =>
  intro Y1 Y3 Z4Q Z4R hk
  cases Yj : (decide (Y1 < (Y0.Me.Tr.length : Int))) with
  | true =>
   have YM := odt Yj
   have YS : (0 : Int) ≤ Y1 := (by assumption)
   have YT : Y1 < (Y0.Me.Tr.length : Int) := (by assumption)
   have YY : (Y0.Me.Tr.getD Y1.toNat default).length ≤ 1073741824 := (by exact tri3L hp5.e (by assumption) Yj)
   have YZ : (Y0.Me.Tr.getD Y1.toNat default).length = 3 ∧ ∀ x ∈ (Y0.Me.Tr.getD Y1.toNat default), 0 ≤ x ∧ x < (Y0.Me.Pq.length : Int) := (by exact tri3 hp5.e (by assumption) Yj)
   have y_4 : (-9223372036854775808 : Int) ≤ (Y1 + 1) := (by omega)
   have y_5 : (Y1 + 1) ≤ (9223372036854775807 : Int) := (by omega)
   have e : Z15 Y0 (k + 1) Y1 Y3 = (Z15 Y0 k (Y1 + 1) (Z2H Y0 Y1 Y3)) := by simp only [Z15, Yj, cond_true]
   rw [e]
   exact nextR E0Ok Z5 [] Z8j [0] (ih (Y1 + 1) (Z2H Y0 Y1 Y3) (show 0 ≤ (Y1 + 1) from (by omega)) (show (Z2H Y0 Y1 Y3).length = Y0.Me.Pq.length from (by simp_all <;> omega)) (by omega)) (sB Yj <| sG (cL (cI .i64)) Y0.Me.Tr Y1 YS YT <| sF (Fn.sub (args := [.ref (Gb.c Y0) 0, .sl ((Y0.Me.Tr.getD Y1.toNat default).map (cI .i64))]) (r := .agg [.f .f32 ((Zi Y0.Me (Y0.Me.Tr.getD Y1.toNat default)).X), .f .f32 ((Zi Y0.Me (Y0.Me.Tr.getD Y1.toNat default)).Y), .f .f32 ((Zi Y0.Me (Y0.Me.Tr.getD Y1.toNat default)).Z)]) (new := []) [some 2, none] (Zb1 Y0.Me (Y0.Me.Tr.getD Y1.toNat default) hp0 hp1 hp2 YY YZ)) <| sK [8, 8] <| sF (Z7t (Zi Y0.Me (Y0.Me.Tr.getD Y1.toNat default))) <| sF (Zc4 (fneg .f32 (fop .mul .f32 1056964608 Y0.Film)) (Z2k (Zi Y0.Me (Y0.Me.Tr.getD Y1.toNat default)))) <| sL Z8g 2 (lp_val (Z6G Y0 Y1 Y3) (x := (Z2H Y0 Y1 Y3)) (Zd5 Y0 Y1 Y3 hp0 hp1 hp2 hp3 hp4 hp5 Z4Q Z4R Yj (((3 : Int) - 0).toNat + 1) 0 Y3 (show 0 ≤ 0 from (by omega)) (show Y3.length = Y3.length from (by omega)) (Nat.lt_succ_self _)) rfl) <| sI (Y1 + 1) y_4 y_5 <| sN) (by kernel_rfl)
  | false =>
   have YM := odf Yj
   have e : Z15 Y0 (k + 1) Y1 Y3 = Y3 := by simp only [Z15, Yj, cond_false]
   rw [e]
   exact outR (e := (.exit 2)) E0Ok Z5 [] Zc8 [0] (sB Yj <| sN) (by kernel_rfl) (by intro h; cases h)
theorem Zc9 (Y0 : Gb) : ∀ (k : Nat) (Y1 : Int) (Y3 : (List Gv)) (hk : ((Y0.Me.Tr.length : Int) - Y1).toNat < k), (Z15 Y0 k Y1 Y3).length = Y3.length := by
  intro k
  induction k with
  | zero => intro Y1 Y3 hk; exact absurd hk (Nat.not_lt_zero _)
  | succ k ih =>
    intro Y1 Y3 hk
    cases Yj : (decide (Y1 < (Y0.Me.Tr.length : Int))) with
    | true =>
      have e : Z15 Y0 (k + 1) Y1 Y3 = (Z15 Y0 k (Y1 + 1) (Z2H Y0 Y1 Y3)) := by simp only [Z15, Yj, cond_true]
      rw [e, ih (Y1 + 1) (Z2H Y0 Y1 Y3) (by simp_all <;> omega)]; simp
    | false =>
      have e : Z15 Y0 (k + 1) Y1 Y3 = Y3 := by simp only [Z15, Yj, cond_false]
      first | (rw [e]; done) | (rw [e]; rfl)
def Z39 (Y0 : Gb) : (List Gv) := (Z15 Y0 (((Y0.Me.Tr.length : Int) - 0).toNat + 1) 0 (Z38 Y0))
@[simp] theorem ZfZ (Y0 : Gb) : (Z39 Y0).length = ((Z38 Y0) : (List Gv)).length := Zc9 Y0 (((Y0.Me.Tr.length : Int) - 0).toNat + 1) 0 (Z38 Y0) (by exact Nat.lt_succ_self _)
def Za (Y0 : Gb) (Y1 : Int) (Y3 : (List Gv)) : Gv := (ZI (Y3.getD ((((Z0 Y0.Me).getD Y1.toNat default).getD 0 default).toNat) default) (Zq (ZW Y0.Me ((Z0 Y0.Me).getD Y1.toNat default)) Y0.Bend))
def Zf (Y0 : Gb) (Y1 : Int) (Y3 : (List Gv)) : Gv := (ZI ((Y3.set ((((Z0 Y0.Me).getD Y1.toNat default).getD 0 default).toNat) (Za Y0 Y1 Y3)).getD ((((Z0 Y0.Me).getD Y1.toNat default).getD 1 default).toNat) default) (Zq (ZW Y0.Me ((Z0 Y0.Me).getD Y1.toNat default)) Y0.Bend))
def Zl (Y0 : Gb) (Y1 : Int) (Y3 : (List Gv)) : Gv := (ZI (((Y3.set ((((Z0 Y0.Me).getD Y1.toNat default).getD 0 default).toNat) (Za Y0 Y1 Y3)).set ((((Z0 Y0.Me).getD Y1.toNat default).getD 1 default).toNat) (Zf Y0 Y1 Y3)).getD ((((Z0 Y0.Me).getD Y1.toNat default).getD 2 default).toNat) default) (Zq (ZW Y0.Me ((Z0 Y0.Me).getD Y1.toNat default)) (fneg .f32 Y0.Bend)))
def Z2P (Y0 : Gb) (Y1 : Int) (Y3 : (List Gv)) : Gv := (ZI ((((Y3.set ((((Z0 Y0.Me).getD Y1.toNat default).getD 0 default).toNat) (Za Y0 Y1 Y3)).set ((((Z0 Y0.Me).getD Y1.toNat default).getD 1 default).toNat) (Zf Y0 Y1 Y3)).set ((((Z0 Y0.Me).getD Y1.toNat default).getD 2 default).toNat) (Zl Y0 Y1 Y3)).getD ((((Z0 Y0.Me).getD Y1.toNat default).getD 3 default).toNat) default) (Zq (ZW Y0.Me ((Z0 Y0.Me).getD Y1.toNat default)) (fneg .f32 Y0.Bend)))
def Z16 (Y0 : Gb) : Nat → Int → (List Gv) → (List Gv)
  | 0, _, _ => default
  | k + 1, Y1, Y3 => (cond (decide (Y1 < ((Z0 Y0.Me).length : Int)))
    (Z16 Y0 k (Y1 + 1) ((((Y3.set ((((Z0 Y0.Me).getD Y1.toNat default).getD 0 default).toNat) (Za Y0 Y1 Y3)).set ((((Z0 Y0.Me).getD Y1.toNat default).getD 1 default).toNat) (Zf Y0 Y1 Y3)).set ((((Z0 Y0.Me).getD Y1.toNat default).getD 2 default).toNat) (Zl Y0 Y1 Y3)).set ((((Z0 Y0.Me).getD Y1.toNat default).getD 3 default).toNat) (Z2P Y0 Y1 Y3)))
    Y3)
def Z6I (Y0 : Gb) (r : (List Gv)) : Ex × St := ((.exit 6), ⟨.ref (Gb.c Y0) 0 :: .any :: .nils :: .ref (Gb.c Y0) 0 :: .own 0 :: an 10 (.own 1 :: an 4 (.ref (Gb.c Y0) 0 :: .ref (Gb.c Y0) 0 :: .ref (Gb.c Y0) 0 :: .ref (Gb.c Y0) 0 :: .ref (Gb.c Y0) 0 :: .ref (Gb.c Y0) 0 :: .sl (Y0.Me.Pq.map Gv.c) :: .i .i64 (Y0.Me.Pq.length : Int) :: .own 0 :: .ref (Gb.c Y0) 0 :: .ref (Gb.c Y0) 0 :: .ref (Gb.c Y0) 2 :: .sl (Y0.Sp.map Gs.c) :: an 52 (.ref (Gb.c Y0) 0 :: .ref (Gb.c Y0) 0 :: .ref (Gb.c Y0) 1 :: .sl (Y0.Me.Tr.map (cL (cI .i64))) :: an 72 (.ref (Gb.c Y0) 0 :: .own 1 :: .own 1 :: an 116 [])))), [.vec 40 3 (r.map Gv.c) false, .nest 49 ((Z0 Y0.Me).map fun l => l.map (cI .i64)) false]⟩)
def Z9r (Y0 : Gb) (Y1 : Int) (Y3 : (List Gv)) : St := ⟨.ref (Gb.c Y0) 0 :: .any :: .nils :: .ref (Gb.c Y0) 0 :: .own 0 :: an 10 (.own 1 :: an 4 (.ref (Gb.c Y0) 0 :: .ref (Gb.c Y0) 0 :: .ref (Gb.c Y0) 0 :: .ref (Gb.c Y0) 0 :: .ref (Gb.c Y0) 0 :: .ref (Gb.c Y0) 0 :: .sl (Y0.Me.Pq.map Gv.c) :: .i .i64 (Y0.Me.Pq.length : Int) :: .own 0 :: .ref (Gb.c Y0) 0 :: .ref (Gb.c Y0) 0 :: .ref (Gb.c Y0) 2 :: .sl (Y0.Sp.map Gs.c) :: an 52 (.ref (Gb.c Y0) 0 :: .ref (Gb.c Y0) 0 :: .ref (Gb.c Y0) 1 :: .sl (Y0.Me.Tr.map (cL (cI .i64))) :: an 72 (.ref (Gb.c Y0) 0 :: .own 1 :: .own 1 :: .i .i64 ((Z0 Y0.Me).length : Int) :: .i .i64 Y1 :: an 114 [])))), [.vec 40 3 (Y3.map Gv.c) false, .nest 49 ((Z0 Y0.Me).map fun l => l.map (cI .i64)) false]⟩
def Z8k : List Bool := (mR false [0, 1, 1, 3, 10, 1, 4, 13, 52, 4, 72, 5, 114])
def Zca : List Bool := (mR false [0, 1, 1, 3, 10, 1, 4, 13, 52, 4, 72, 3, 116])
set_option maxHeartbeats 1000000 in
theorem Zd8 (Y0 : Gb) (hp0 : Y0.Me.Pq.length ≤ 1073741824) (hp1 : Y0.Me.Tr.length ≤ 1073741824) (hp2 : ∀ t ∈ Y0.Me.Tr, t.length ≤ 1073741824) (hp3 : Y0.Sp.length ≤ 1073741824) (hp4 : Y0.We.length ≤ 1073741824) (hp5 : OkBd Y0) : ∀ (k : Nat) (Y1 : Int) (Y3 : (List Gv)) (Z8l : 0 ≤ Y1) (Z8m : Y3.length = Y0.Me.Pq.length) (hk : (((Z0 Y0.Me).length : Int) - Y1).toNat < k), Lp prog 0 (sub (bodyOf f51) [1, 1, 1, 1, 1, 1, 0, 1, 0, 0]) (Z9r Y0 Y1 Y3) (Z6I Y0 (Z16 Y0 k Y1 Y3)).1 (Z6I Y0 (Z16 Y0 k Y1 Y3)).2 := by
 intro k
 induction k with
 | zero => intro Y1 Y3 Z8l Z8m hk; exact absurd hk (Nat.not_lt_zero _)
 | succ k ih =>
  intro Y1 Y3 Z8l Z8m hk
  cases Yj : (decide (Y1 < ((Z0 Y0.Me).length : Int))) with
  | true =>
   have YM := odt Yj
   have YS : (0 : Int) ≤ Y1 := (by assumption)
   have YT : Int.toNat Y1 < (Z0 Y0.Me).length := (by omega)
   have YY : Y1.toNat < (Z0 Y0.Me).length := (by assumption)
   have YZ : ((Z0 Y0.Me).getD Y1.toNat default).length ≤ 1073741824 := (by exact ZhW hp5.e (by assumption) Yj)
   have y_4 : ((Z0 Y0.Me).getD Y1.toNat default).length = 4 ∧ ∀ x ∈ ((Z0 Y0.Me).getD Y1.toNat default), 0 ≤ x ∧ x < (Y0.Me.Pq.length : Int) := (by exact hin4 hp5.e (by assumption) Yj)
   have y_5 : (0 : Int) ≤ 0 := (by omega)
   have y_6 : 0 < (((Z0 Y0.Me).getD Y1.toNat default).length : Int) := (by omega)
   have y_7 : 0 < ((Z0 Y0.Me).getD Y1.toNat default).length := (by omega)
   have y_8 : (0 : Int) ≤ (((Z0 Y0.Me).getD Y1.toNat default).getD 0 default) := (by (have q := Z3I _ hp5.e; (have q := Okh.at (hin4 hp5.e (by assumption) Yj); omega)))
   have y_9 : (((Z0 Y0.Me).getD Y1.toNat default).getD 0 default) < (Y3.length : Int) := (by (have q := Z3I _ hp5.e; (have q := Okh.at (hin4 hp5.e (by assumption) Yj); omega)))
   have Y1c : (((Z0 Y0.Me).getD Y1.toNat default).getD 0 default).toNat < Y3.length := (by omega)
   have Y1j : (0 : Int) ≤ 1 := (by omega)
   have Y1m : 1 < (((Z0 Y0.Me).getD Y1.toNat default).length : Int) := (by omega)
   have Y1n : 1 < ((Z0 Y0.Me).getD Y1.toNat default).length := (by omega)
   have Y1t : (0 : Int) ≤ (((Z0 Y0.Me).getD Y1.toNat default).getD 1 default) := (by (have q := Z3I _ hp5.e; (have q := Okh.at (hin4 hp5.e (by assumption) Yj); omega)))
   have Y1u : (((Z0 Y0.Me).getD Y1.toNat default).getD 1 default) < ((Y3.set ((((Z0 Y0.Me).getD Y1.toNat default).getD 0 default).toNat) (Za Y0 Y1 Y3)).length : Int) := (by (have q := Z3I _ hp5.e; (have q := Okh.at (hin4 hp5.e (by assumption) Yj); (simp only [List.length_set]; omega))))
   have Y1v : (((Z0 Y0.Me).getD Y1.toNat default).getD 1 default).toNat < (Y3.set ((((Z0 Y0.Me).getD Y1.toNat default).getD 0 default).toNat) (Za Y0 Y1 Y3)).length := (by omega)
   have Y1w : (0 : Int) ≤ 2 := (by omega)
   have Y1F : 2 < (((Z0 Y0.Me).getD Y1.toNat default).length : Int) := (by omega)
   have Y1G : 2 < ((Z0 Y0.Me).getD Y1.toNat default).length := (by omega)
   have Y1K : (0 : Int) ≤ (((Z0 Y0.Me).getD Y1.toNat default).getD 2 default) := (by (have q := Z3I _ hp5.e; (have q := Okh.at (hin4 hp5.e (by assumption) Yj); omega)))
   have Y1L : (((Z0 Y0.Me).getD Y1.toNat default).getD 2 default) < (((Y3.set ((((Z0 Y0.Me).getD Y1.toNat default).getD 0 default).toNat) (Za Y0 Y1 Y3)).set ((((Z0 Y0.Me).getD Y1.toNat default).getD 1 default).toNat) (Zf Y0 Y1 Y3)).length : Int) := (by (have q := Z3I _ hp5.e; (have q := Okh.at (hin4 hp5.e (by assumption) Yj); (simp only [List.length_set]; omega))))
   have Y1M : (((Z0 Y0.Me).getD Y1.toNat default).getD 2 default).toNat < ((Y3.set ((((Z0 Y0.Me).getD Y1.toNat default).getD 0 default).toNat) (Za Y0 Y1 Y3)).set ((((Z0 Y0.Me).getD Y1.toNat default).getD 1 default).toNat) (Zf Y0 Y1 Y3)).length := (by omega)
   have Y1N : (0 : Int) ≤ 3 := (by omega)
   have Y1O : 3 < (((Z0 Y0.Me).getD Y1.toNat default).length : Int) := (by omega)
   have Y1P : 3 < ((Z0 Y0.Me).getD Y1.toNat default).length := (by omega)
   have Y1Q : (0 : Int) ≤ (((Z0 Y0.Me).getD Y1.toNat default).getD 3 default) := (by (have q := Z3I _ hp5.e; (have q := Okh.at (hin4 hp5.e (by assumption) Yj); omega)))
   have Y1R : (((Z0 Y0.Me).getD Y1.toNat default).getD 3 default) < ((((Y3.set ((((Z0 Y0.Me).getD Y1.toNat default).getD 0 default).toNat) (Za Y0 Y1 Y3)).set ((((Z0 Y0.Me).getD Y1.toNat default).getD 1 default).toNat) (Zf Y0 Y1 Y3)).set ((((Z0 Y0.Me).getD Y1.toNat default).getD 2 default).toNat) (Zl Y0 Y1 Y3)).length : Int) := (by (have q := Z3I _ hp5.e; (have q := Okh.at (hin4 hp5.e (by assumption) Yj); (simp only [List.length_set]; omega))))
   have Y1S : (((Z0 Y0.Me).getD Y1.toNat default).getD 3 default).toNat < (((Y3.set ((((Z0 Y0.Me).getD Y1.toNat default).getD 0 default).toNat) (Za Y0 Y1 Y3)).set ((((Z0 Y0.Me).getD Y1.toNat default).getD 1 default).toNat) (Zf Y0 Y1 Y3)).set ((((Z0 Y0.Me).getD Y1.toNat default).getD 2 default).toNat) (Zl Y0 Y1 Y3)).length := (by omega)
   have Y1U : (-9223372036854775808 : Int) ≤ (Y1 + 1) := (by omega)
   have Y1V : (Y1 + 1) ≤ (9223372036854775807 : Int) := (by have q := Z3I _ hp5.e; omega)
   have e : Z16 Y0 (k + 1) Y1 Y3 = (Z16 Y0 k (Y1 + 1) ((((Y3.set ((((Z0 Y0.Me).getD Y1.toNat default).getD 0 default).toNat) (Za Y0 Y1 Y3)).set ((((Z0 Y0.Me).getD Y1.toNat default).getD 1 default).toNat) (Zf Y0 Y1 Y3)).set ((((Z0 Y0.Me).getD Y1.toNat default).getD 2 default).toNat) (Zl Y0 Y1 Y3)).set ((((Z0 Y0.Me).getD Y1.toNat default).getD 3 default).toNat) (Z2P Y0 Y1 Y3))) := by simp only [Z16, Yj, cond_true]
   rw [e]
   exact nextS E0Ok Z5 [] Z8k [0, 1] (⟨.ref (Gb.c Y0) 0 :: .any :: .nils :: .ref (Gb.c Y0) 0 :: .own 0 :: an 10 (.own 1 :: an 4 (.ref (Gb.c Y0) 0 :: .ref (Gb.c Y0) 0 :: .ref (Gb.c Y0) 0 :: .ref (Gb.c Y0) 0 :: .ref (Gb.c Y0) 0 :: .ref (Gb.c Y0) 0 :: .sl (Y0.Me.Pq.map Gv.c) :: .i .i64 (Y0.Me.Pq.length : Int) :: .own 0 :: .ref (Gb.c Y0) 0 :: .ref (Gb.c Y0) 0 :: .ref (Gb.c Y0) 2 :: .sl (Y0.Sp.map Gs.c) :: an 52 (.ref (Gb.c Y0) 0 :: .ref (Gb.c Y0) 0 :: .ref (Gb.c Y0) 1 :: .sl (Y0.Me.Tr.map (cL (cI .i64))) :: an 72 (.ref (Gb.c Y0) 0 :: .own 1 :: .own 1 :: .i .i64 ((Z0 Y0.Me).length : Int) :: .i .i64 (Y1 + 1) :: an 114 [])))), [.vec 40 3 (((((Y3.map Gv.c).set ((((Z0 Y0.Me).getD Y1.toNat default).getD 0 default).toNat) [.f .f32 ((Za Y0 Y1 Y3).X), .f .f32 ((Za Y0 Y1 Y3).Y), .f .f32 ((Za Y0 Y1 Y3).Z)]).set ((((Z0 Y0.Me).getD Y1.toNat default).getD 1 default).toNat) [.f .f32 ((Zf Y0 Y1 Y3).X), .f .f32 ((Zf Y0 Y1 Y3).Y), .f .f32 ((Zf Y0 Y1 Y3).Z)]).set ((((Z0 Y0.Me).getD Y1.toNat default).getD 2 default).toNat) [.f .f32 ((Zl Y0 Y1 Y3).X), .f .f32 ((Zl Y0 Y1 Y3).Y), .f .f32 ((Zl Y0 Y1 Y3).Z)]).set ((((Z0 Y0.Me).getD Y1.toNat default).getD 3 default).toNat) [.f .f32 ((Z2P Y0 Y1 Y3).X), .f .f32 ((Z2P Y0 Y1 Y3).Y), .f .f32 ((Z2P Y0 Y1 Y3).Z)]) false, .nest 49 ((Z0 Y0.Me).map fun l => l.map (cI .i64)) false]⟩) (sB Yj <| sC (nestix (c := (cI .i64)) (l := (Z0 Y0.Me)) (i := Y1) YS YT) <| sC (nestlt (c := (cI .i64)) (l := (Z0 Y0.Me)) YY) <| sF (Fn.sub (args := [.ref (Gb.c Y0) 0, .sl (((Z0 Y0.Me).map fun l => l.map (cI .i64)).getD Y1.toNat [])]) (r := .agg [.f .f32 ((ZW Y0.Me ((Z0 Y0.Me).getD Y1.toNat default)).X), .f .f32 ((ZW Y0.Me ((Z0 Y0.Me).getD Y1.toNat default)).Y), .f .f32 ((ZW Y0.Me ((Z0 Y0.Me).getD Y1.toNat default)).Z)]) (new := []) [some 2, none] (Fn.castA (args' := [.ref [.sl (Y0.Me.Pq.map Gv.c), .sl (Y0.Me.Tr.map (cL (cI .i64)))] 0, .sl (((Z0 Y0.Me).map fun l => l.map (cI .i64)).getD Y1.toNat [])]) (Zc3 Y0.Me ((Z0 Y0.Me).getD Y1.toNat default) hp0 hp1 hp2 YZ y_4) (by simp [cI]; rfl))) <| sK [17, 17] <| sC (iidx_ok (c := (cI .i64)) (l := (Z0 Y0.Me)) (j := Y1.toNat) (i := 0) y_5 y_6) <| sE (iget_ok (c := (cI .i64)) (l := (Z0 Y0.Me)) (j := Y1.toNat) (k := 0) y_7) <| sC (iidx_ok (c := (cI .i64)) (l := (Z0 Y0.Me)) (j := Y1.toNat) (i := 0) y_5 y_6) <| sE (iget_ok (c := (cI .i64)) (l := (Z0 Y0.Me)) (j := Y1.toNat) (k := 0) y_7) <| sX Gv.c Y3 (((Z0 Y0.Me).getD Y1.toNat default).getD 0 default) y_8 y_9 <| sV Gv.c Y3 ((((Z0 Y0.Me).getD Y1.toNat default).getD 0 default).toNat) Y1c <| sF (Z3M (ZW Y0.Me ((Z0 Y0.Me).getD Y1.toNat default)) Y0.Bend) <| sF (Z3J (Y3.getD ((((Z0 Y0.Me).getD Y1.toNat default).getD 0 default).toNat) default) (Zq (ZW Y0.Me ((Z0 Y0.Me).getD Y1.toNat default)) Y0.Bend)) <| sX Gv.c Y3 (((Z0 Y0.Me).getD Y1.toNat default).getD 0 default) y_8 y_9 <| sC (maplt (c := Gv.c) (l := Y3) Y1c) <| sK [17, 17] <| sC (iidx_ok (c := (cI .i64)) (l := (Z0 Y0.Me)) (j := Y1.toNat) (i := 1) Y1j Y1m) <| sE (iget_ok (c := (cI .i64)) (l := (Z0 Y0.Me)) (j := Y1.toNat) (k := 1) Y1n) <| sC (iidx_ok (c := (cI .i64)) (l := (Z0 Y0.Me)) (j := Y1.toNat) (i := 1) Y1j Y1m) <| sE (iget_ok (c := (cI .i64)) (l := (Z0 Y0.Me)) (j := Y1.toNat) (k := 1) Y1n) <| sC (show 0 ≤ (((Z0 Y0.Me).getD Y1.toNat default).getD 1 default) ∧ Int.toNat (((Z0 Y0.Me).getD Y1.toNat default).getD 1 default) < ((Y3.map Gv.c).set ((((Z0 Y0.Me).getD Y1.toNat default).getD 0 default).toNat) [.f .f32 ((Za Y0 Y1 Y3).X), .f .f32 ((Za Y0 Y1 Y3).Y), .f .f32 ((Za Y0 Y1 Y3).Z)]).length from (by simpa using idx_ok (c := Gv.c) (l := (Y3.set ((((Z0 Y0.Me).getD Y1.toNat default).getD 0 default).toNat) (Za Y0 Y1 Y3))) (i := (((Z0 Y0.Me).getD Y1.toNat default).getD 1 default)) Y1t Y1u)) <| sE (show ((Y3.map Gv.c).set ((((Z0 Y0.Me).getD Y1.toNat default).getD 0 default).toNat) [.f .f32 ((Za Y0 Y1 Y3).X), .f .f32 ((Za Y0 Y1 Y3).Y), .f .f32 ((Za Y0 Y1 Y3).Z)])[(((Z0 Y0.Me).getD Y1.toNat default).getD 1 default).toNat]? = some [.f .f32 (((Y3.set ((((Z0 Y0.Me).getD Y1.toNat default).getD 0 default).toNat) (Za Y0 Y1 Y3)).getD ((((Z0 Y0.Me).getD Y1.toNat default).getD 1 default).toNat) default).X), .f .f32 (((Y3.set ((((Z0 Y0.Me).getD Y1.toNat default).getD 0 default).toNat) (Za Y0 Y1 Y3)).getD ((((Z0 Y0.Me).getD Y1.toNat default).getD 1 default).toNat) default).Y), .f .f32 (((Y3.set ((((Z0 Y0.Me).getD Y1.toNat default).getD 0 default).toNat) (Za Y0 Y1 Y3)).getD ((((Z0 Y0.Me).getD Y1.toNat default).getD 1 default).toNat) default).Z)] from (by have q := vget_ok (c := Gv.c) (l := (Y3.set ((((Z0 Y0.Me).getD Y1.toNat default).getD 0 default).toNat) (Za Y0 Y1 Y3))) (k := (((Z0 Y0.Me).getD Y1.toNat default).getD 1 default).toNat) Y1v; (simp only [List.map_set, List.map_append, List.map_cons, List.map_nil, List.map_replicate] at q; exact q))) <| sF (Z3M (ZW Y0.Me ((Z0 Y0.Me).getD Y1.toNat default)) Y0.Bend) <| sF (Z3J ((Y3.set ((((Z0 Y0.Me).getD Y1.toNat default).getD 0 default).toNat) (Za Y0 Y1 Y3)).getD ((((Z0 Y0.Me).getD Y1.toNat default).getD 1 default).toNat) default) (Zq (ZW Y0.Me ((Z0 Y0.Me).getD Y1.toNat default)) Y0.Bend)) <| sC (show 0 ≤ (((Z0 Y0.Me).getD Y1.toNat default).getD 1 default) ∧ Int.toNat (((Z0 Y0.Me).getD Y1.toNat default).getD 1 default) < ((Y3.map Gv.c).set ((((Z0 Y0.Me).getD Y1.toNat default).getD 0 default).toNat) [.f .f32 ((Za Y0 Y1 Y3).X), .f .f32 ((Za Y0 Y1 Y3).Y), .f .f32 ((Za Y0 Y1 Y3).Z)]).length from (by simpa using idx_ok (c := Gv.c) (l := (Y3.set ((((Z0 Y0.Me).getD Y1.toNat default).getD 0 default).toNat) (Za Y0 Y1 Y3))) (i := (((Z0 Y0.Me).getD Y1.toNat default).getD 1 default)) Y1t Y1u)) <| sC (show (((Z0 Y0.Me).getD Y1.toNat default).getD 1 default).toNat < ((Y3.map Gv.c).set ((((Z0 Y0.Me).getD Y1.toNat default).getD 0 default).toNat) [.f .f32 ((Za Y0 Y1 Y3).X), .f .f32 ((Za Y0 Y1 Y3).Y), .f .f32 ((Za Y0 Y1 Y3).Z)]).length from (by simpa using Y1v)) <| sK [18, 18] <| sC (iidx_ok (c := (cI .i64)) (l := (Z0 Y0.Me)) (j := Y1.toNat) (i := 2) Y1w Y1F) <| sE (iget_ok (c := (cI .i64)) (l := (Z0 Y0.Me)) (j := Y1.toNat) (k := 2) Y1G) <| sC (iidx_ok (c := (cI .i64)) (l := (Z0 Y0.Me)) (j := Y1.toNat) (i := 2) Y1w Y1F) <| sE (iget_ok (c := (cI .i64)) (l := (Z0 Y0.Me)) (j := Y1.toNat) (k := 2) Y1G) <| sC (show 0 ≤ (((Z0 Y0.Me).getD Y1.toNat default).getD 2 default) ∧ Int.toNat (((Z0 Y0.Me).getD Y1.toNat default).getD 2 default) < (((Y3.map Gv.c).set ((((Z0 Y0.Me).getD Y1.toNat default).getD 0 default).toNat) [.f .f32 ((Za Y0 Y1 Y3).X), .f .f32 ((Za Y0 Y1 Y3).Y), .f .f32 ((Za Y0 Y1 Y3).Z)]).set ((((Z0 Y0.Me).getD Y1.toNat default).getD 1 default).toNat) [.f .f32 ((Zf Y0 Y1 Y3).X), .f .f32 ((Zf Y0 Y1 Y3).Y), .f .f32 ((Zf Y0 Y1 Y3).Z)]).length from (by simpa using idx_ok (c := Gv.c) (l := ((Y3.set ((((Z0 Y0.Me).getD Y1.toNat default).getD 0 default).toNat) (Za Y0 Y1 Y3)).set ((((Z0 Y0.Me).getD Y1.toNat default).getD 1 default).toNat) (Zf Y0 Y1 Y3))) (i := (((Z0 Y0.Me).getD Y1.toNat default).getD 2 default)) Y1K Y1L)) <| sE (show (((Y3.map Gv.c).set ((((Z0 Y0.Me).getD Y1.toNat default).getD 0 default).toNat) [.f .f32 ((Za Y0 Y1 Y3).X), .f .f32 ((Za Y0 Y1 Y3).Y), .f .f32 ((Za Y0 Y1 Y3).Z)]).set ((((Z0 Y0.Me).getD Y1.toNat default).getD 1 default).toNat) [.f .f32 ((Zf Y0 Y1 Y3).X), .f .f32 ((Zf Y0 Y1 Y3).Y), .f .f32 ((Zf Y0 Y1 Y3).Z)])[(((Z0 Y0.Me).getD Y1.toNat default).getD 2 default).toNat]? = some [.f .f32 ((((Y3.set ((((Z0 Y0.Me).getD Y1.toNat default).getD 0 default).toNat) (Za Y0 Y1 Y3)).set ((((Z0 Y0.Me).getD Y1.toNat default).getD 1 default).toNat) (Zf Y0 Y1 Y3)).getD ((((Z0 Y0.Me).getD Y1.toNat default).getD 2 default).toNat) default).X), .f .f32 ((((Y3.set ((((Z0 Y0.Me).getD Y1.toNat default).getD 0 default).toNat) (Za Y0 Y1 Y3)).set ((((Z0 Y0.Me).getD Y1.toNat default).getD 1 default).toNat) (Zf Y0 Y1 Y3)).getD ((((Z0 Y0.Me).getD Y1.toNat default).getD 2 default).toNat) default).Y), .f .f32 ((((Y3.set ((((Z0 Y0.Me).getD Y1.toNat default).getD 0 default).toNat) (Za Y0 Y1 Y3)).set ((((Z0 Y0.Me).getD Y1.toNat default).getD 1 default).toNat) (Zf Y0 Y1 Y3)).getD ((((Z0 Y0.Me).getD Y1.toNat default).getD 2 default).toNat) default).Z)] from (by have q := vget_ok (c := Gv.c) (l := ((Y3.set ((((Z0 Y0.Me).getD Y1.toNat default).getD 0 default).toNat) (Za Y0 Y1 Y3)).set ((((Z0 Y0.Me).getD Y1.toNat default).getD 1 default).toNat) (Zf Y0 Y1 Y3))) (k := (((Z0 Y0.Me).getD Y1.toNat default).getD 2 default).toNat) Y1M; (simp only [List.map_set, List.map_append, List.map_cons, List.map_nil, List.map_replicate] at q; exact q))) <| sF (Z3M (ZW Y0.Me ((Z0 Y0.Me).getD Y1.toNat default)) (fneg .f32 Y0.Bend)) <| sF (Z3J (((Y3.set ((((Z0 Y0.Me).getD Y1.toNat default).getD 0 default).toNat) (Za Y0 Y1 Y3)).set ((((Z0 Y0.Me).getD Y1.toNat default).getD 1 default).toNat) (Zf Y0 Y1 Y3)).getD ((((Z0 Y0.Me).getD Y1.toNat default).getD 2 default).toNat) default) (Zq (ZW Y0.Me ((Z0 Y0.Me).getD Y1.toNat default)) (fneg .f32 Y0.Bend))) <| sC (show 0 ≤ (((Z0 Y0.Me).getD Y1.toNat default).getD 2 default) ∧ Int.toNat (((Z0 Y0.Me).getD Y1.toNat default).getD 2 default) < (((Y3.map Gv.c).set ((((Z0 Y0.Me).getD Y1.toNat default).getD 0 default).toNat) [.f .f32 ((Za Y0 Y1 Y3).X), .f .f32 ((Za Y0 Y1 Y3).Y), .f .f32 ((Za Y0 Y1 Y3).Z)]).set ((((Z0 Y0.Me).getD Y1.toNat default).getD 1 default).toNat) [.f .f32 ((Zf Y0 Y1 Y3).X), .f .f32 ((Zf Y0 Y1 Y3).Y), .f .f32 ((Zf Y0 Y1 Y3).Z)]).length from (by simpa using idx_ok (c := Gv.c) (l := ((Y3.set ((((Z0 Y0.Me).getD Y1.toNat default).getD 0 default).toNat) (Za Y0 Y1 Y3)).set ((((Z0 Y0.Me).getD Y1.toNat default).getD 1 default).toNat) (Zf Y0 Y1 Y3))) (i := (((Z0 Y0.Me).getD Y1.toNat default).getD 2 default)) Y1K Y1L)) <| sC (show (((Z0 Y0.Me).getD Y1.toNat default).getD 2 default).toNat < (((Y3.map Gv.c).set ((((Z0 Y0.Me).getD Y1.toNat default).getD 0 default).toNat) [.f .f32 ((Za Y0 Y1 Y3).X), .f .f32 ((Za Y0 Y1 Y3).Y), .f .f32 ((Za Y0 Y1 Y3).Z)]).set ((((Z0 Y0.Me).getD Y1.toNat default).getD 1 default).toNat) [.f .f32 ((Zf Y0 Y1 Y3).X), .f .f32 ((Zf Y0 Y1 Y3).Y), .f .f32 ((Zf Y0 Y1 Y3).Z)]).length from (by simpa using Y1M)) <| sK [18, 18] <| sC (iidx_ok (c := (cI .i64)) (l := (Z0 Y0.Me)) (j := Y1.toNat) (i := 3) Y1N Y1O) <| sE (iget_ok (c := (cI .i64)) (l := (Z0 Y0.Me)) (j := Y1.toNat) (k := 3) Y1P) <| sC (iidx_ok (c := (cI .i64)) (l := (Z0 Y0.Me)) (j := Y1.toNat) (i := 3) Y1N Y1O) <| sE (iget_ok (c := (cI .i64)) (l := (Z0 Y0.Me)) (j := Y1.toNat) (k := 3) Y1P) <| sC (show 0 ≤ (((Z0 Y0.Me).getD Y1.toNat default).getD 3 default) ∧ Int.toNat (((Z0 Y0.Me).getD Y1.toNat default).getD 3 default) < ((((Y3.map Gv.c).set ((((Z0 Y0.Me).getD Y1.toNat default).getD 0 default).toNat) [.f .f32 ((Za Y0 Y1 Y3).X), .f .f32 ((Za Y0 Y1 Y3).Y), .f .f32 ((Za Y0 Y1 Y3).Z)]).set ((((Z0 Y0.Me).getD Y1.toNat default).getD 1 default).toNat) [.f .f32 ((Zf Y0 Y1 Y3).X), .f .f32 ((Zf Y0 Y1 Y3).Y), .f .f32 ((Zf Y0 Y1 Y3).Z)]).set ((((Z0 Y0.Me).getD Y1.toNat default).getD 2 default).toNat) [.f .f32 ((Zl Y0 Y1 Y3).X), .f .f32 ((Zl Y0 Y1 Y3).Y), .f .f32 ((Zl Y0 Y1 Y3).Z)]).length from (by simpa using idx_ok (c := Gv.c) (l := (((Y3.set ((((Z0 Y0.Me).getD Y1.toNat default).getD 0 default).toNat) (Za Y0 Y1 Y3)).set ((((Z0 Y0.Me).getD Y1.toNat default).getD 1 default).toNat) (Zf Y0 Y1 Y3)).set ((((Z0 Y0.Me).getD Y1.toNat default).getD 2 default).toNat) (Zl Y0 Y1 Y3))) (i := (((Z0 Y0.Me).getD Y1.toNat default).getD 3 default)) Y1Q Y1R)) <| sE (show ((((Y3.map Gv.c).set ((((Z0 Y0.Me).getD Y1.toNat default).getD 0 default).toNat) [.f .f32 ((Za Y0 Y1 Y3).X), .f .f32 ((Za Y0 Y1 Y3).Y), .f .f32 ((Za Y0 Y1 Y3).Z)]).set ((((Z0 Y0.Me).getD Y1.toNat default).getD 1 default).toNat) [.f .f32 ((Zf Y0 Y1 Y3).X), .f .f32 ((Zf Y0 Y1 Y3).Y), .f .f32 ((Zf Y0 Y1 Y3).Z)]).set ((((Z0 Y0.Me).getD Y1.toNat default).getD 2 default).toNat) [.f .f32 ((Zl Y0 Y1 Y3).X), .f .f32 ((Zl Y0 Y1 Y3).Y), .f .f32 ((Zl Y0 Y1 Y3).Z)])[(((Z0 Y0.Me).getD Y1.toNat default).getD 3 default).toNat]? = some [.f .f32 (((((Y3.set ((((Z0 Y0.Me).getD Y1.toNat default).getD 0 default).toNat) (Za Y0 Y1 Y3)).set ((((Z0 Y0.Me).getD Y1.toNat default).getD 1 default).toNat) (Zf Y0 Y1 Y3)).set ((((Z0 Y0.Me).getD Y1.toNat default).getD 2 default).toNat) (Zl Y0 Y1 Y3)).getD ((((Z0 Y0.Me).getD Y1.toNat default).getD 3 default).toNat) default).X), .f .f32 (((((Y3.set ((((Z0 Y0.Me).getD Y1.toNat default).getD 0 default).toNat) (Za Y0 Y1 Y3)).set ((((Z0 Y0.Me).getD Y1.toNat default).getD 1 default).toNat) (Zf Y0 Y1 Y3)).set ((((Z0 Y0.Me).getD Y1.toNat default).getD 2 default).toNat) (Zl Y0 Y1 Y3)).getD ((((Z0 Y0.Me).getD Y1.toNat default).getD 3 default).toNat) default).Y), .f .f32 (((((Y3.set ((((Z0 Y0.Me).getD Y1.toNat default).getD 0 default).toNat) (Za Y0 Y1 Y3)).set ((((Z0 Y0.Me).getD Y1.toNat default).getD 1 default).toNat) (Zf Y0 Y1 Y3)).set ((((Z0 Y0.Me).getD Y1.toNat default).getD 2 default).toNat) (Zl Y0 Y1 Y3)).getD ((((Z0 Y0.Me).getD Y1.toNat default).getD 3 default).toNat) default).Z)] from (by have q := vget_ok (c := Gv.c) (l := (((Y3.set ((((Z0 Y0.Me).getD Y1.toNat default).getD 0 default).toNat) (Za Y0 Y1 Y3)).set ((((Z0 Y0.Me).getD Y1.toNat default).getD 1 default).toNat) (Zf Y0 Y1 Y3)).set ((((Z0 Y0.Me).getD Y1.toNat default).getD 2 default).toNat) (Zl Y0 Y1 Y3))) (k := (((Z0 Y0.Me).getD Y1.toNat default).getD 3 default).toNat) Y1S; (simp only [List.map_set, List.map_append, List.map_cons, List.map_nil, List.map_replicate] at q; exact q))) <| sF (Z3M (ZW Y0.Me ((Z0 Y0.Me).getD Y1.toNat default)) (fneg .f32 Y0.Bend)) <| sF (Z3J ((((Y3.set ((((Z0 Y0.Me).getD Y1.toNat default).getD 0 default).toNat) (Za Y0 Y1 Y3)).set ((((Z0 Y0.Me).getD Y1.toNat default).getD 1 default).toNat) (Zf Y0 Y1 Y3)).set ((((Z0 Y0.Me).getD Y1.toNat default).getD 2 default).toNat) (Zl Y0 Y1 Y3)).getD ((((Z0 Y0.Me).getD Y1.toNat default).getD 3 default).toNat) default) (Zq (ZW Y0.Me ((Z0 Y0.Me).getD Y1.toNat default)) (fneg .f32 Y0.Bend))) <| sC (show 0 ≤ (((Z0 Y0.Me).getD Y1.toNat default).getD 3 default) ∧ Int.toNat (((Z0 Y0.Me).getD Y1.toNat default).getD 3 default) < ((((Y3.map Gv.c).set ((((Z0 Y0.Me).getD Y1.toNat default).getD 0 default).toNat) [.f .f32 ((Za Y0 Y1 Y3).X), .f .f32 ((Za Y0 Y1 Y3).Y), .f .f32 ((Za Y0 Y1 Y3).Z)]).set ((((Z0 Y0.Me).getD Y1.toNat default).getD 1 default).toNat) [.f .f32 ((Zf Y0 Y1 Y3).X), .f .f32 ((Zf Y0 Y1 Y3).Y), .f .f32 ((Zf Y0 Y1 Y3).Z)]).set ((((Z0 Y0.Me).getD Y1.toNat default).getD 2 default).toNat) [.f .f32 ((Zl Y0 Y1 Y3).X), .f .f32 ((Zl Y0 Y1 Y3).Y), .f .f32 ((Zl Y0 Y1 Y3).Z)]).length from (by simpa using idx_ok (c := Gv.c) (l := (((Y3.set ((((Z0 Y0.Me).getD Y1.toNat default).getD 0 default).toNat) (Za Y0 Y1 Y3)).set ((((Z0 Y0.Me).getD Y1.toNat default).getD 1 default).toNat) (Zf Y0 Y1 Y3)).set ((((Z0 Y0.Me).getD Y1.toNat default).getD 2 default).toNat) (Zl Y0 Y1 Y3))) (i := (((Z0 Y0.Me).getD Y1.toNat default).getD 3 default)) Y1Q Y1R)) <| sC (show (((Z0 Y0.Me).getD Y1.toNat default).getD 3 default).toNat < ((((Y3.map Gv.c).set ((((Z0 Y0.Me).getD Y1.toNat default).getD 0 default).toNat) [.f .f32 ((Za Y0 Y1 Y3).X), .f .f32 ((Za Y0 Y1 Y3).Y), .f .f32 ((Za Y0 Y1 Y3).Z)]).set ((((Z0 Y0.Me).getD Y1.toNat default).getD 1 default).toNat) [.f .f32 ((Zf Y0 Y1 Y3).X), .f .f32 ((Zf Y0 Y1 Y3).Y), .f .f32 ((Zf Y0 Y1 Y3).Z)]).set ((((Z0 Y0.Me).getD Y1.toNat default).getD 2 default).toNat) [.f .f32 ((Zl Y0 Y1 Y3).X), .f .f32 ((Zl Y0 Y1 Y3).Y), .f .f32 ((Zl Y0 Y1 Y3).Z)]).length from (by simpa using Y1S)) <| sI (Y1 + 1) Y1U Y1V <| sN) (by kernel_rfl) (by simp [Z9r, List.map_set, Gv.c]) (ih (Y1 + 1) ((((Y3.set ((((Z0 Y0.Me).getD Y1.toNat default).getD 0 default).toNat) (Za Y0 Y1 Y3)).set ((((Z0 Y0.Me).getD Y1.toNat default).getD 1 default).toNat) (Zf Y0 Y1 Y3)).set ((((Z0 Y0.Me).getD Y1.toNat default).getD 2 default).toNat) (Zl Y0 Y1 Y3)).set ((((Z0 Y0.Me).getD Y1.toNat default).getD 3 default).toNat) (Z2P Y0 Y1 Y3)) (show 0 ≤ (Y1 + 1) from (by omega)) (show ((((Y3.set ((((Z0 Y0.Me).getD Y1.toNat default).getD 0 default).toNat) (Za Y0 Y1 Y3)).set ((((Z0 Y0.Me).getD Y1.toNat default).getD 1 default).toNat) (Zf Y0 Y1 Y3)).set ((((Z0 Y0.Me).getD Y1.toNat default).getD 2 default).toNat) (Zl Y0 Y1 Y3)).set ((((Z0 Y0.Me).getD Y1.toNat default).getD 3 default).toNat) (Z2P Y0 Y1 Y3)).length = Y0.Me.Pq.length from (by (have q := Z3I _ hp5.e; (have q := Okh.at (hin4 hp5.e (by assumption) Yj); (simp only [List.length_set]; omega))))) (by omega))
  | false =>
   have YM := odf Yj
   have e : Z16 Y0 (k + 1) Y1 Y3 = Y3 := by simp only [Z16, Yj, cond_false]
   rw [e]
   exact outR (e := (.exit 6)) E0Ok Z5 [] Zca [0, 1] (sB Yj <| sN) (by kernel_rfl) (by intro h; cases h)
theorem Zcb (Y0 : Gb) : ∀ (k : Nat) (Y1 : Int) (Y3 : (List Gv)) (hk : (((Z0 Y0.Me).length : Int) - Y1).toNat < k), (Z16 Y0 k Y1 Y3).length = Y3.length := by
  intro k
  induction k with
  | zero => intro Y1 Y3 hk; exact absurd hk (Nat.not_lt_zero _)
  | succ k ih =>
    intro Y1 Y3 hk
    cases Yj : (decide (Y1 < ((Z0 Y0.Me).length : Int))) with
    | true =>
      have e : Z16 Y0 (k + 1) Y1 Y3 = (Z16 Y0 k (Y1 + 1) ((((Y3.set ((((Z0 Y0.Me).getD Y1.toNat default).getD 0 default).toNat) (Za Y0 Y1 Y3)).set ((((Z0 Y0.Me).getD Y1.toNat default).getD 1 default).toNat) (Zf Y0 Y1 Y3)).set ((((Z0 Y0.Me).getD Y1.toNat default).getD 2 default).toNat) (Zl Y0 Y1 Y3)).set ((((Z0 Y0.Me).getD Y1.toNat default).getD 3 default).toNat) (Z2P Y0 Y1 Y3))) := by simp only [Z16, Yj, cond_true]
      rw [e, ih (Y1 + 1) ((((Y3.set ((((Z0 Y0.Me).getD Y1.toNat default).getD 0 default).toNat) (Za Y0 Y1 Y3)).set ((((Z0 Y0.Me).getD Y1.toNat default).getD 1 default).toNat) (Zf Y0 Y1 Y3)).set ((((Z0 Y0.Me).getD Y1.toNat default).getD 2 default).toNat) (Zl Y0 Y1 Y3)).set ((((Z0 Y0.Me).getD Y1.toNat default).getD 3 default).toNat) (Z2P Y0 Y1 Y3)) (by simp_all <;> omega)]; simp
    | false =>
      have e : Z16 Y0 (k + 1) Y1 Y3 = Y3 := by simp only [Z16, Yj, cond_false]
      first | (rw [e]; done) | (rw [e]; rfl)
end Go.Ab
