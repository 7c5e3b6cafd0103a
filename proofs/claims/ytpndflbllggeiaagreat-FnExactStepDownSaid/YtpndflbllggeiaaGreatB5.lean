/- The functions of this seat as plain Lean, and that the program's are these. Printed by a program of the prover's own. -/
import Derived.Test.YtpndflbllggeiaaGreatB4
set_option linter.unusedVariables false
set_option linter.unusedSimpArgs false
set_option maxRecDepth 100000
namespace Go.Ab
open Go.RowKit Go.Proofs.Tryz
theorem ZbL (Y0 : GBody) : ∀ (k : Nat) (Y1 : Int) (Y2 : (List Nat)) (hk : (((Z0 Y0.Mesh).length : Int) - Y1).toNat < k), (Z1c Y0 k Y1 Y2).length = Y2.length := by
  intro k
  induction k with
  | zero => intro Y1 Y2 hk; exact absurd hk (Nat.not_lt_zero _)
  | succ k ih =>
    intro Y1 Y2 hk
    cases Yg : (decide (Y1 < ((Z0 Y0.Mesh).length : Int))) with
    | true =>
      have e : Z1c Y0 (k + 1) Y1 Y2 = (Z1c Y0 k (Y1 + 1) (Y2.set 2 (fop .add .f32 (Y2.getD 2 default) (fop .mul .f32 (fop .mul .f32 1056964608 Y0.Bend) (Z36 Y0 Y1))))) := by simp only [Z1c, Yg, cond_true]
      rw [e, ih (Y1 + 1) (Y2.set 2 (fop .add .f32 (Y2.getD 2 default) (fop .mul .f32 (fop .mul .f32 1056964608 Y0.Bend) (Z36 Y0 Y1)))) (by simp_all <;> omega)]; simp
    | false =>
      have e : Z1c Y0 (k + 1) Y1 Y2 = Y2 := by simp only [Z1c, Yg, cond_false]
      first | (rw [e]; done) | (rw [e]; rfl)
def Z2b (Y0 : GBody) : (List Nat) := (Z1c Y0 ((((Z0 Y0.Mesh).length : Int) - 0).toNat + 1) 0 (Z2a Y0))
@[simp] theorem Z9Q (Y0 : GBody) : (Z2b Y0).length = ((Z2a Y0) : (List Nat)).length := ZbL Y0 ((((Z0 Y0.Mesh).length : Int) - 0).toNat + 1) 0 (Z2a Y0) (by exact Nat.lt_succ_self _)
def Z3p (Y0 : GBody) (Y1 : Int) (Y2 : (List Nat)) : Nat := (fop .add .f32 (Y2.getD 3 default) (fneg .f32 (fop .mul .f32 (Y0.Weights.getD Y1.toNat default) (Z4F Y0.Fall (Y0.Mesh.Places.getD Y1.toNat default)))))
def Z1s (Y0 : GBody) : Nat → Int → (List Nat) → (List Nat)
  | 0, _, _ => default
  | k + 1, Y1, Y2 => (cond (decide (Y1 < (Y0.Mesh.Places.length : Int)))
    (Z1s Y0 k (Y1 + 1) (Y2.set 3 (Z3p Y0 Y1 Y2)))
    Y2)
def Z6K (Y0 : GBody) (r : (List Nat)) : Ex × St := ((.exit 6), ⟨.ref (GBody.cells Y0) 0 :: .any :: .nils :: .own 0 :: .ref (GBody.cells Y0) 0 :: an 4 (.own 1 :: .any :: .any :: .any :: .own 0 :: .ref (GBody.cells Y0) 0 :: .ref (GBody.cells Y0) 0 :: .ref (GBody.cells Y0) 0 :: .ref (GBody.cells Y0) 0 :: .ref (GBody.cells Y0) 0 :: .ref (GBody.cells Y0) 2 :: .sl (Y0.Springs.map GSpring.cells) :: an 45 (.ref (GBody.cells Y0) 0 :: .ref (GBody.cells Y0) 0 :: .ref (GBody.cells Y0) 1 :: .sl (Y0.Mesh.Triangles.map (cL (cI .i64))) :: an 26 (.ref (GBody.cells Y0) 0 :: .own 1 :: .own 1 :: an 25 (.ref (GBody.cells Y0) 0 :: .ref (GBody.cells Y0) 0 :: .ref (GBody.cells Y0) 0 :: .sl (Y0.Mesh.Places.map GVector.cells) :: an 32 [])))), [.vec 27 1 (r.map (cF .f32)) false, .nest 49 ((Z0 Y0.Mesh).map fun l => l.map (cI .i64)) false]⟩)
def ZcY (Y0 : GBody) (Y1 : Int) (Y2 : (List Nat)) : St := ⟨.ref (GBody.cells Y0) 0 :: .any :: .nils :: .own 0 :: .ref (GBody.cells Y0) 0 :: an 4 (.own 1 :: .any :: .any :: .any :: .own 0 :: .ref (GBody.cells Y0) 0 :: .ref (GBody.cells Y0) 0 :: .ref (GBody.cells Y0) 0 :: .ref (GBody.cells Y0) 0 :: .ref (GBody.cells Y0) 0 :: .ref (GBody.cells Y0) 2 :: .sl (Y0.Springs.map GSpring.cells) :: an 45 (.ref (GBody.cells Y0) 0 :: .ref (GBody.cells Y0) 0 :: .ref (GBody.cells Y0) 1 :: .sl (Y0.Mesh.Triangles.map (cL (cI .i64))) :: an 26 (.ref (GBody.cells Y0) 0 :: .own 1 :: .own 1 :: an 25 (.ref (GBody.cells Y0) 0 :: .ref (GBody.cells Y0) 0 :: .ref (GBody.cells Y0) 0 :: .sl (Y0.Mesh.Places.map GVector.cells) :: .i .i64 (Y0.Mesh.Places.length : Int) :: .i .i64 Y1 :: an 30 [])))), [.vec 27 1 (Y2.map (cF .f32)) false, .nest 49 ((Z0 Y0.Mesh).map fun l => l.map (cI .i64)) false]⟩
def Z8k : List Bool := (mR false [0, 1, 1, 3, 4, 1, 3, 8, 45, 4, 26, 3, 25, 6, 30])
def ZbM : List Bool := (mR false [0, 1, 1, 3, 4, 1, 3, 8, 45, 4, 26, 3, 25, 4, 32])
theorem ZcZ (Y0 : GBody) (hp0 : Y0.Mesh.Places.length ≤ 1073741824) (hp1 : Y0.Mesh.Triangles.length ≤ 1073741824) (hp2 : ∀ t ∈ Y0.Mesh.Triangles, t.length ≤ 1073741824) (hp3 : Y0.Springs.length ≤ 1073741824) (hp4 : Y0.Weights.length ≤ 1073741824) (hp5 : OkBd Y0) : ∀ (k : Nat) (Y1 : Int) (Y2 : (List Nat)) (Z8l : 0 ≤ Y1) (Z8m : Y2.length = (Z2b Y0).length) (hk : ((Y0.Mesh.Places.length : Int) - Y1).toNat < k), Lp prog 0 (sub (bodyOf f133) [1, 1, 1, 1, 1, 1, 1, 0, 1, 0, 0]) (ZcY Y0 Y1 Y2) (Z6K Y0 (Z1s Y0 k Y1 Y2)).1 (Z6K Y0 (Z1s Y0 k Y1 Y2)).2 := by
 intro k
 induction k with
 | zero => intro Y1 Y2 Z8l Z8m hk; exact absurd hk (Nat.not_lt_zero _)
 | succ k ih =>
  intro Y1 Y2 Z8l Z8m hk
  cases Yg : (decide (Y1 < (Y0.Mesh.Places.length : Int))) with
  | true =>
   have Yt := of_decide_eq_true Yg
   have YA : (0 : Int) ≤ 3 := (by omega)
   have YE : 3 < (Y2.length : Int) := (by simp_all <;> omega)
   have YG : 3 < Y2.length := (by omega)
   have YH : (0 : Int) ≤ Y1 := (by assumption)
   have YL : Y1 < (Y0.Weights.length : Int) := (by have q := hp5.w; omega)
   have YQ : Y1 < (Y0.Mesh.Places.length : Int) := (by assumption)
   have YW : (-9223372036854775808 : Int) ≤ (Y1 + 1) := (by omega)
   have y_7 : (Y1 + 1) ≤ (9223372036854775807 : Int) := (by omega)
   have e : Z1s Y0 (k + 1) Y1 Y2 = (Z1s Y0 k (Y1 + 1) (Y2.set 3 (Z3p Y0 Y1 Y2))) := by simp only [Z1s, Yg, cond_true]
   rw [e]
   exact nextS E0Ok Z4 [] Z8k [0, 1] (⟨.ref (GBody.cells Y0) 0 :: .any :: .nils :: .own 0 :: .ref (GBody.cells Y0) 0 :: an 4 (.own 1 :: .any :: .any :: .any :: .own 0 :: .ref (GBody.cells Y0) 0 :: .ref (GBody.cells Y0) 0 :: .ref (GBody.cells Y0) 0 :: .ref (GBody.cells Y0) 0 :: .ref (GBody.cells Y0) 0 :: .ref (GBody.cells Y0) 2 :: .sl (Y0.Springs.map GSpring.cells) :: an 45 (.ref (GBody.cells Y0) 0 :: .ref (GBody.cells Y0) 0 :: .ref (GBody.cells Y0) 1 :: .sl (Y0.Mesh.Triangles.map (cL (cI .i64))) :: an 26 (.ref (GBody.cells Y0) 0 :: .own 1 :: .own 1 :: an 25 (.ref (GBody.cells Y0) 0 :: .ref (GBody.cells Y0) 0 :: .ref (GBody.cells Y0) 0 :: .sl (Y0.Mesh.Places.map GVector.cells) :: .i .i64 (Y0.Mesh.Places.length : Int) :: .i .i64 (Y1 + 1) :: an 30 [])))), [.vec 27 1 ((Y2.map (cF .f32)).set 3 [.f .f32 (Z3p Y0 Y1 Y2)]) false, .nest 49 ((Z0 Y0.Mesh).map fun l => l.map (cI .i64)) false]⟩) (sB Yg <| sK [24, 24] <| sX (cF .f32) Y2 3 YA YE <| sV (cF .f32) Y2 3 YG <| sG (cF .f32) Y0.Weights Y1 YH YL <| sG GVector.cells Y0.Mesh.Places Y1 YH YQ <| sF (Z84 Y0.Fall (Y0.Mesh.Places.getD Y1.toNat default)) <| sX (cF .f32) Y2 3 YA YE <| sC (maplt (c := (cF .f32)) (l := Y2) YG) <| sI (Y1 + 1) YW y_7 <| sN) (by kernel_rfl) (show _ = ⟨.ref (GBody.cells Y0) 0 :: .any :: .nils :: .own 0 :: .ref (GBody.cells Y0) 0 :: an 4 (.own 1 :: .any :: .any :: .any :: .own 0 :: .ref (GBody.cells Y0) 0 :: .ref (GBody.cells Y0) 0 :: .ref (GBody.cells Y0) 0 :: .ref (GBody.cells Y0) 0 :: .ref (GBody.cells Y0) 0 :: .ref (GBody.cells Y0) 2 :: .sl (Y0.Springs.map GSpring.cells) :: an 45 (.ref (GBody.cells Y0) 0 :: .ref (GBody.cells Y0) 0 :: .ref (GBody.cells Y0) 1 :: .sl (Y0.Mesh.Triangles.map (cL (cI .i64))) :: an 26 (.ref (GBody.cells Y0) 0 :: .own 1 :: .own 1 :: an 25 (.ref (GBody.cells Y0) 0 :: .ref (GBody.cells Y0) 0 :: .ref (GBody.cells Y0) 0 :: .sl (Y0.Mesh.Places.map GVector.cells) :: .i .i64 (Y0.Mesh.Places.length : Int) :: .i .i64 (Y1 + 1) :: an 30 [])))), [.vec 27 1 ((Y2.set 3 (Z3p Y0 Y1 Y2)).map (cF .f32)) false, .nest 49 ((Z0 Y0.Mesh).map fun l => l.map (cI .i64)) false]⟩ from (by simp [List.map_set, cF])) (ih (Y1 + 1) (Y2.set 3 (Z3p Y0 Y1 Y2)) (show 0 ≤ (Y1 + 1) from (by omega)) (show (Y2.set 3 (Z3p Y0 Y1 Y2)).length = (Z2b Y0).length from (by simp_all <;> omega)) (by omega))
  | false =>
   have Yt := of_decide_eq_false Yg
   have e : Z1s Y0 (k + 1) Y1 Y2 = Y2 := by simp only [Z1s, Yg, cond_false]
   rw [e]
   exact outR (e := (.exit 6)) E0Ok Z4 [] ZbM [0, 1] (sB Yg <| sN) (by kernel_rfl) (by intro h; cases h)
theorem ZbN (Y0 : GBody) : ∀ (k : Nat) (Y1 : Int) (Y2 : (List Nat)) (hk : ((Y0.Mesh.Places.length : Int) - Y1).toNat < k), (Z1s Y0 k Y1 Y2).length = Y2.length := by
  intro k
  induction k with
  | zero => intro Y1 Y2 hk; exact absurd hk (Nat.not_lt_zero _)
  | succ k ih =>
    intro Y1 Y2 hk
    cases Yg : (decide (Y1 < (Y0.Mesh.Places.length : Int))) with
    | true =>
      have e : Z1s Y0 (k + 1) Y1 Y2 = (Z1s Y0 k (Y1 + 1) (Y2.set 3 (Z3p Y0 Y1 Y2))) := by simp only [Z1s, Yg, cond_true]
      rw [e, ih (Y1 + 1) (Y2.set 3 (Z3p Y0 Y1 Y2)) (by simp_all <;> omega)]; simp
    | false =>
      have e : Z1s Y0 (k + 1) Y1 Y2 = Y2 := by simp only [Z1s, Yg, cond_false]
      first | (rw [e]; done) | (rw [e]; rfl)
def Z4k (Y0 : GBody) : (List Nat) := (Z1s Y0 (((Y0.Mesh.Places.length : Int) - 0).toNat + 1) 0 (Z2b Y0))
@[simp] theorem Z9R (Y0 : GBody) : (Z4k Y0).length = ((Z2b Y0) : (List Nat)).length := ZbN Y0 (((Y0.Mesh.Places.length : Int) - 0).toNat + 1) 0 (Z2b Y0) (by exact Nat.lt_succ_self _)
def ZJ (Y0 : GBody) : (List Nat) := (Z4k Y0)
theorem Z8n (b : GBody) : (ZJ b).length = 4 := by
  unfold ZJ
  rw [Z9R, Z9Q, Z9P, Z9O]; simp
theorem ZeI (Y0 : GBody) (hp0 : Y0.Mesh.Places.length ≤ 1073741824) (hp1 : Y0.Mesh.Triangles.length ≤ 1073741824) (hp2 : ∀ t ∈ Y0.Mesh.Triangles, t.length ≤ 1073741824) (hp3 : Y0.Springs.length ≤ 1073741824) (hp4 : Y0.Weights.length ≤ 1073741824) (hp5 : OkBd Y0)  : Fn prog 133 [.ref (GBody.cells Y0) 0] (.own 0) [.vec 27 1 ((ZJ Y0).map (cF .f32)) false] := by
 have y0 : (0 : Int) ≤ 4 := (by omega)
 have y1 : (4 : Int) ≤ 2147483648 := (by omega)
 have y2 : OkE Y0.Mesh.Places.length Y0.Mesh.Triangles := (by exact hp5.e)
 refine fnS E0Ok Z4 (c := bodyOf f133) [] (.own 0) [.vec 27 1 ((Z4k Y0).map (cF .f32)) false] func133 (sC (show (4 : Int) = 4 from rfl) <| sC y0 <| sC y1 <| sZ GSpring.cells Y0.Springs <| sL (mR false [0, 1, 1, 3, 8, 10, 137]) 1 (lp_cast (st2 := ⟨.ref (GBody.cells Y0) 0 :: .any :: .nils :: .own 0 :: .ref (GBody.cells Y0) 0 :: an 8 (.own 0 :: .ref (GBody.cells Y0) 0 :: .ref (GBody.cells Y0) 0 :: .ref (GBody.cells Y0) 0 :: .ref (GBody.cells Y0) 0 :: .ref (GBody.cells Y0) 0 :: .ref (GBody.cells Y0) 2 :: .sl (Y0.Springs.map GSpring.cells) :: .i .i64 (Y0.Springs.length : Int) :: .i .i64 0 :: an 137 []), [.vec 27 1 (List.replicate (Int.toNat 4) [.f .f32 0]) false]⟩) (lp_val (Z6H Y0) (x := (Z29 Y0)) (ZcT Y0 hp0 hp1 hp2 hp3 hp4 hp5 (((Y0.Springs.length : Int) - 0).toNat + 1) 0 (List.replicate 4 0) (show 0 ≤ 0 from (by omega)) (show (List.replicate 4 0).length = 4 from (by simp; done)) (Nat.lt_succ_self _)) rfl) (by simp [Z9r, cF])) <| sZ (cL (cI .i64)) Y0.Mesh.Triangles <| sL Z8e 1 (lp_val (Z6I Y0) (x := (Z2a Y0)) (ZcV Y0 hp0 hp1 hp2 hp3 hp4 hp5 (((Y0.Mesh.Triangles.length : Int) - 0).toNat + 1) 0 (Z29 Y0) (show 0 ≤ 0 from (by omega)) (show (Z29 Y0).length = (Z29 Y0).length from (by omega)) (Nat.lt_succ_self _)) rfl) <| sF (Fn.sub (args := [.ref (GBody.cells Y0) 0]) (r := .own 0) (new := [.nest 49 ((Z0 Y0.Mesh).map fun l => l.map (cI .i64)) false]) [some 2] (Zas Y0.Mesh hp0 hp1 hp2 y2)) <| sM (nlen_ok (l := (Z0 Y0.Mesh)) (f := fun l => l.map (cI .i64))) <| sL Z8h 2 (lp_val (Z6J Y0) (x := (Z2b Y0)) (ZcX Y0 hp0 hp1 hp2 hp3 hp4 hp5 ((((Z0 Y0.Mesh).length : Int) - 0).toNat + 1) 0 (Z2a Y0) (show 0 ≤ 0 from (by omega)) (show (Z2a Y0).length = (Z2a Y0).length from (by omega)) (Nat.lt_succ_self _)) rfl) <| sZ GVector.cells Y0.Mesh.Places <| sL Z8k 2 (lp_val (Z6K Y0) (x := (Z4k Y0)) (ZcZ Y0 hp0 hp1 hp2 hp3 hp4 hp5 (((Y0.Mesh.Places.length : Int) - 0).toNat + 1) 0 (Z2b Y0) (show 0 ≤ 0 from (by omega)) (show (Z2b Y0).length = (Z2b Y0).length from (by omega)) (Nat.lt_succ_self _)) rfl) <| sK [0] sN) rfl (by kernel_rfl) (by kernel_rfl) rfl ?_ ?_
 · rfl
 · simp [ZJ]
def Z6s (Y3 : GBody) : Nat := (fop .add .f32 (fop .add .f32 (fop .add .f32 ((ZJ Y3).getD 0 default) ((ZJ Y3).getD 1 default)) ((ZJ Y3).getD 2 default)) ((ZJ Y3).getD 3 default))
def Z2G (Y3 : GBody) : Nat := (Z6s Y3)
theorem Zat (Y3 : GBody) (hp0 : Y3.Mesh.Places.length ≤ 1073741824) (hp1 : Y3.Mesh.Triangles.length ≤ 1073741824) (hp2 : ∀ t ∈ Y3.Mesh.Triangles, t.length ≤ 1073741824) (hp3 : Y3.Springs.length ≤ 1073741824) (hp4 : Y3.Weights.length ≤ 1073741824) (hp5 : OkBd Y3)  : Fn prog 92 [.ref (GBody.cells Y3) 0] (.f .f32 (Z2G Y3)) [] := by
 have y0 : (0 : Int) ≤ 0 := (by omega)
 have y1 : 0 < ((ZJ Y3).length : Int) := (by have q := Z8n Y3; omega)
 have y2 : 0 < (ZJ Y3).length := (by omega)
 have y3 : (0 : Int) ≤ 1 := (by omega)
 have y4 : 1 < ((ZJ Y3).length : Int) := (by have q := Z8n Y3; omega)
 have y5 : 1 < (ZJ Y3).length := (by omega)
 have y6 : (0 : Int) ≤ 2 := (by omega)
 have y7 : 2 < ((ZJ Y3).length : Int) := (by have q := Z8n Y3; omega)
 have y8 : 2 < (ZJ Y3).length := (by omega)
 have y9 : (0 : Int) ≤ 3 := (by omega)
 have y10 : 3 < ((ZJ Y3).length : Int) := (by have q := Z8n Y3; omega)
 have y11 : 3 < (ZJ Y3).length := (by omega)
 refine fnS E0Ok Z4 (c := bodyOf f92) [] (.f .f32 (Z6s Y3)) [] func92 (sF (ZeI Y3 hp0 hp1 hp2 hp3 hp4 hp5) <| sK [14, 14] <| sX (cF .f32) (ZJ Y3) 0 y0 y1 <| sV (cF .f32) (ZJ Y3) 0 y2 <| sX (cF .f32) (ZJ Y3) 1 y3 y4 <| sV (cF .f32) (ZJ Y3) 1 y5 <| sX (cF .f32) (ZJ Y3) 2 y6 y7 <| sV (cF .f32) (ZJ Y3) 2 y8 <| sX (cF .f32) (ZJ Y3) 3 y9 y10 <| sV (cF .f32) (ZJ Y3) 3 y11 <| sK [] sN) rfl (by kernel_rfl) (by kernel_rfl) rfl ?_ ?_
 · rfl
 · rfl
def Z7n (Ym : (List Int)) : (List Int) := (([] : List Int) ++ Ym)
theorem ZfB (Ym : (List Int)) (hp0 : Ym.length ≤ 1073741824)  : Fn prog 144 [.sl (Ym.map (cI .i64))] (.own 0) [.vec 2 1 ((Z7n Ym).map (cI .i64)) false] := by
 have y0 : ([] : List Int).length + Ym.length ≤ 1073741824 := (by simp_all <;> omega)
 refine fnS E0Ok Z4 (c := bodyOf f144) [] (.own 0) [.vec 2 1 (([] : List (List AV)) ++ (Ym.map (cI .i64))) false] func144 (sC (show ([] : List (List AV)).length + (Ym.map (cI .i64)).length ≤ 1073741824 from (by simpa using y0)) <| sC (show (Ym.map (cI .i64)).all (fun cs => cs.length == 1 && cs.all isS) = true from (src_ok (fun _ => rfl))) <| sK [0] sN) rfl (by kernel_rfl) (by kernel_rfl) rfl ?_ ?_
 · rfl
 · simp [Z7n, cI]
@[simp] theorem ZgU (l : List Int) : Z7n l = l := by simp [Z7n]
theorem ZfC (Ym : (List Int)) (hp0 : Ym.length ≤ 1073741824) : Fn prog 144 [.sl (Ym.map (cI .i64))] (.own 0) [.vec 2 1 (Ym.map (cI .i64)) false] := by
 simpa only [ZgU] using ZfB  Ym hp0
def Z3e (Y4 : GMesh) : Nat → Int → (List (List Int)) → (List (List Int))
  | 0, _, _ => default
  | k + 1, Y7, Yd => (cond (decide (Y7 < (Y4.Triangles.length : Int)))
    (Z3e Y4 k (Y7 + 1) (Yd ++ [(Y4.Triangles.getD Y7.toNat default)]))
    Yd)
def Z7t (Y4 : GMesh) (r : (List (List Int))) : Ex × St := ((.exit 0), ⟨.ref (GMesh.cells Y4) 0 :: .any :: .ptr 0 0 0 :: .ptr 1 0 0 :: .any :: .any :: .ref (GMesh.cells Y4) 0 :: .ref (GMesh.cells Y4) 0 :: .ref (GMesh.cells Y4) 0 :: .sl (Y4.Places.map GVector.cells) :: .own 2 :: an 25 [], [.box 38 [.nils, .nils], .box 38 [.own 2, .own 3], .vec 40 3 (([] : List (List AV)) ++ (Y4.Places.map GVector.cells)) false, .nest 49 (r.map fun l => l.map (cI .i64)) false]⟩)
def Zau (Y4 : GMesh) (Y7 : Int) (Yd : (List (List Int))) : St := ⟨.ref (GMesh.cells Y4) 0 :: .any :: .ptr 0 0 0 :: .ptr 3 0 0 :: .i .i64 Y7 :: .any :: .ref (GMesh.cells Y4) 0 :: .ref (GMesh.cells Y4) 0 :: .ref (GMesh.cells Y4) 0 :: .sl (Y4.Places.map GVector.cells) :: .own 1 :: an 25 [], [.box 38 [.nils, .nils], .vec 40 3 (([] : List (List AV)) ++ (Y4.Places.map GVector.cells)) false, .nest 49 (Yd.map fun l => l.map (cI .i64)) false, .box 38 [.own 1, .own 2]]⟩
theorem Zeg (Y4 : GMesh) (hp0 : Y4.Places.length ≤ 1073741824) (hp1 : Y4.Triangles.length ≤ 1073741824) (hp2 : ∀ t ∈ Y4.Triangles, t.length ≤ 1073741824) : ∀ (k : Nat) (Y7 : Int) (Yd : (List (List Int))) (Z9s : 0 ≤ Y7) (Z9t : (Yd.length : Int) = Y7) (hk : ((Y4.Triangles.length : Int) - Y7).toNat < k), Lp prog 0 (sub (bodyOf f130) [1, 1, 0, 1, 0, 0]) (Zau Y4 Y7 Yd) (Z7t Y4 (Z3e Y4 k Y7 Yd)).1 (Z7t Y4 (Z3e Y4 k Y7 Yd)).2 := by
 intro k
 induction k with
 | zero => intro Y7 Yd Z9s Z9t hk; exact absurd hk (Nat.not_lt_zero _)
 | succ k ih =>
  intro Y7 Yd Z9s Z9t hk
  have p {a C} (s : Scr a C) := sZ (cL (cI .i64)) Y4.Triangles <| s
  cases Yg : (decide (Y7 < (Y4.Triangles.length : Int))) with
  | true =>
   have Yt := of_decide_eq_true Yg
   have YA : (0 : Int) ≤ Y7 := by clear p; exact (by assumption)
   have YE : Y7 < (Y4.Triangles.length : Int) := by clear p; exact (by assumption)
   have YG : (Y4.Triangles.getD Y7.toNat default).length ≤ 1073741824 := by clear p; exact (by simp_all <;> omega)
   have YH : Yd.length + [(Y4.Triangles.getD Y7.toNat default)].length ≤ 1073741824 := by clear p; exact (by simp_all <;> omega)
   have YL : (-9223372036854775808 : Int) ≤ (Y7 + 1) := by clear p; exact (by omega)
   have YQ : (Y7 + 1) ≤ (9223372036854775807 : Int) := by clear p; exact (by omega)
   have e : Z3e Y4 (k + 1) Y7 Yd = (Z3e Y4 k (Y7 + 1) (Yd ++ [(Y4.Triangles.getD Y7.toNat default)])) := by simp only [Z3e, Yg, cond_true]
   rw [e]
   exact nextS E0Ok Z4 [] (mR false [0, 1, 1, 3, 1, 5, 25]) [0, 1, 2, 3] (⟨.ref (GMesh.cells Y4) 0 :: .any :: .ptr 0 0 0 :: .ptr 3 0 0 :: .i .i64 (Y7 + 1) :: .any :: .ref (GMesh.cells Y4) 0 :: .ref (GMesh.cells Y4) 0 :: .ref (GMesh.cells Y4) 0 :: .sl (Y4.Places.map GVector.cells) :: .own 1 :: an 25 [], [.box 38 [.nils, .nils], .vec 40 3 (([] : List (List AV)) ++ (Y4.Places.map GVector.cells)) false, .nest 49 ((Yd.map fun l => l.map (cI .i64)) ++ [((Y4.Triangles.getD Y7.toNat default).map (cI .i64))]) false, .box 38 [.own 1, .own 2]]⟩) (p (sB Yg <| sK [11, 11] <| sG (cL (cI .i64)) Y4.Triangles Y7 YA YE <| sF (ZfC (Y4.Triangles.getD Y7.toNat default) YG) <| sC (show (Yd.map fun l => l.map (cI .i64)).length + [((Y4.Triangles.getD Y7.toNat default).map (cI .i64))].length ≤ 1073741824 from (by simpa using YH)) <| sI (Y7 + 1) YL YQ <| sN)) (by kernel_rfl) (show _ = ⟨.ref (GMesh.cells Y4) 0 :: .any :: .ptr 0 0 0 :: .ptr 3 0 0 :: .i .i64 (Y7 + 1) :: .any :: .ref (GMesh.cells Y4) 0 :: .ref (GMesh.cells Y4) 0 :: .ref (GMesh.cells Y4) 0 :: .sl (Y4.Places.map GVector.cells) :: .own 1 :: an 25 [], [.box 38 [.nils, .nils], .vec 40 3 (([] : List (List AV)) ++ (Y4.Places.map GVector.cells)) false, .nest 49 ((Yd ++ [(Y4.Triangles.getD Y7.toNat default)]).map fun l => l.map (cI .i64)) false, .box 38 [.own 1, .own 2]]⟩ from (by simp [GVector.cells, cL, cI])) (ih (Y7 + 1) (Yd ++ [(Y4.Triangles.getD Y7.toNat default)]) (show 0 ≤ (Y7 + 1) from (by omega)) (show ((Yd ++ [(Y4.Triangles.getD Y7.toNat default)]).length : Int) = (Y7 + 1) from (by simp_all <;> omega)) (by omega))
  | false =>
   have Yt := of_decide_eq_false Yg
   have e : Z3e Y4 (k + 1) Y7 Yd = Yd := by simp only [Z3e, Yg, cond_false]
   rw [e]
   exact outR (e := (.exit 0)) E0Ok Z4 [] (mR false [0, 1, 1, 2, 2, 5, 25]) [0, 3, 1, 2] (p (sB Yg <| sN)) (by kernel_rfl) (by intro h; cases h)
def Z5s (Y4 : GMesh) : (List (List Int)) := (Z3e Y4 (((Y4.Triangles.length : Int) - 0).toNat + 1) 0 ([] : List (List Int)))
def Z67 (Y4 : GMesh) : GMesh := (⟨(([] : List GVector) ++ Y4.Places), (Z5s Y4)⟩ : GMesh)
theorem ZfD (Y4 : GMesh) (hp0 : Y4.Places.length ≤ 1073741824) (hp1 : Y4.Triangles.length ≤ 1073741824) (hp2 : ∀ t ∈ Y4.Triangles, t.length ≤ 1073741824)  : Fn prog 130 [.ref (GMesh.cells Y4) 0] (.agg [.own 0, .own 1]) [.vec 40 3 (((Z67 Y4).Places).map GVector.cells) false, .nest 49 (((Z67 Y4).Triangles).map fun l => l.map (cI .i64)) false] := by
 have y0 : ([] : List GVector).length + Y4.Places.length ≤ 1073741824 := (by simp_all <;> omega)
 refine fnS E0Ok Z4 (c := bodyOf f130) [] (.agg [.own 0, .own 1]) [.vec 40 3 (([] : List (List AV)) ++ (Y4.Places.map GVector.cells)) false, .nest 49 ((Z5s Y4).map fun l => l.map (cI .i64)) false] func130 (sC (show ([] : List (List AV)).length + (Y4.Places.map GVector.cells).length ≤ 1073741824 from (by simpa using y0)) <| sC (show (Y4.Places.map GVector.cells).all (fun cs => cs.length == 3 && cs.all isS) = true from (src_ok (fun _ => rfl))) <| sL (mR false [0, 1, 1, 3, 1, 5, 25]) 4 (lp_cast (st2 := ⟨.ref (GMesh.cells Y4) 0 :: .any :: .ptr 0 0 0 :: .ptr 3 0 0 :: .i .i64 0 :: .any :: .ref (GMesh.cells Y4) 0 :: .ref (GMesh.cells Y4) 0 :: .ref (GMesh.cells Y4) 0 :: .sl (Y4.Places.map GVector.cells) :: .own 1 :: an 25 [], [.box 38 [.nils, .nils], .vec 40 3 (([] : List (List AV)) ++ (Y4.Places.map GVector.cells)) false, .nest 49 [] false, .box 38 [.own 1, .own 2]]⟩) (lp_val (Z7t Y4) (x := (Z5s Y4)) (Zeg Y4 hp0 hp1 hp2 (((Y4.Triangles.length : Int) - 0).toNat + 1) 0 ([] : List (List Int)) (show 0 ≤ 0 from (by omega)) (show (([] : List (List Int)).length : Int) = 0 from (by simp)) (Nat.lt_succ_self _)) rfl) (by simp [Zau, GVector.cells, cL, cI])) <| sK [2, 3] sN) rfl (by kernel_rfl) (by kernel_rfl) rfl ?_ ?_
 · rfl
 · simp [Z67, GVector.cells]
@[simp] theorem ZgV (m : GMesh) : Z67 m = m := by
  unfold Z67 Z5s
  rw [app_loop (f := fun i => (m.Triangles.getD i.toNat default)) (n := (m.Triangles.length : Int)) (lo := Z3e m) (fun k i r => rfl) _ _ _ (Nat.lt_succ_self _)]
  simp [getD_range2]
theorem ZfE (Y4 : GMesh) (hp0 : Y4.Places.length ≤ 1073741824) (hp1 : Y4.Triangles.length ≤ 1073741824) (hp2 : ∀ t ∈ Y4.Triangles, t.length ≤ 1073741824) : Fn prog 130 [.ref (GMesh.cells Y4) 0] (.agg [.own 0, .own 1]) [.vec 40 3 (Y4.Places.map GVector.cells) false, .nest 49 (Y4.Triangles.map fun l => l.map (cI .i64)) false] := by
 simpa only [ZgV] using ZfD  Y4 hp0 hp1 hp2
def Z3k (Y3 : GBody) : GBody := (⟨Y3.Mesh, (([] : List GSpring) ++ Y3.Springs), Y3.Film, Y3.Bend, (([] : List Nat) ++ Y3.Weights), Y3.Fall⟩ : GBody)
theorem ZfF (Y3 : GBody) (hp0 : Y3.Mesh.Places.length ≤ 1073741824) (hp1 : Y3.Mesh.Triangles.length ≤ 1073741824) (hp2 : ∀ t ∈ Y3.Mesh.Triangles, t.length ≤ 1073741824) (hp3 : Y3.Springs.length ≤ 1073741824) (hp4 : Y3.Weights.length ≤ 1073741824)  : Fn prog 86 [.ref (GBody.cells Y3) 0] (.agg [.own 0, .own 1, .own 2, .f .f32 ((Z3k Y3).Film), .f .f32 ((Z3k Y3).Bend), .own 3, .f .f32 ((Z3k Y3).Fall.X), .f .f32 ((Z3k Y3).Fall.Y), .f .f32 ((Z3k Y3).Fall.Z)]) [.vec 40 3 (((Z3k Y3).Mesh.Places).map GVector.cells) false, .nest 49 (((Z3k Y3).Mesh.Triangles).map fun l => l.map (cI .i64)) false, .vec 133 4 (((Z3k Y3).Springs).map GSpring.cells) false, .vec 27 1 (((Z3k Y3).Weights).map (cF .f32)) false] := by
 have y0 : ([] : List GSpring).length + Y3.Springs.length ≤ 1073741824 := (by simp_all <;> omega)
 have y1 : ([] : List Nat).length + Y3.Weights.length ≤ 1073741824 := (by simp_all <;> omega)
 refine fnS E0Ok Z4 (c := bodyOf f86) [] (.agg [.own 0, .own 1, .own 2, .f .f32 Y3.Film, .f .f32 Y3.Bend, .own 3, .f .f32 Y3.Fall.X, .f .f32 Y3.Fall.Y, .f .f32 Y3.Fall.Z]) [.vec 40 3 (Y3.Mesh.Places.map GVector.cells) false, .nest 49 (Y3.Mesh.Triangles.map fun l => l.map (cI .i64)) false, .vec 133 4 (([] : List (List AV)) ++ (Y3.Springs.map GSpring.cells)) false, .vec 27 1 (([] : List (List AV)) ++ (Y3.Weights.map (cF .f32))) false] func86 (sF (Fn.sub (args := [.ref (GBody.cells Y3) 0]) (r := .agg [.own 0, .own 1]) (new := [.vec 40 3 (Y3.Mesh.Places.map GVector.cells) false, .nest 49 (Y3.Mesh.Triangles.map fun l => l.map (cI .i64)) false]) [some 2] (ZfE Y3.Mesh hp0 hp1 hp2)) <| sC (show ([] : List (List AV)).length + (Y3.Springs.map GSpring.cells).length ≤ 1073741824 from (by simpa using y0)) <| sC (show (Y3.Springs.map GSpring.cells).all (fun cs => cs.length == 4 && cs.all isS) = true from (src_ok (fun _ => rfl))) <| sC (show ([] : List (List AV)).length + (Y3.Weights.map (cF .f32)).length ≤ 1073741824 from (by simpa using y1)) <| sC (show (Y3.Weights.map (cF .f32)).all (fun cs => cs.length == 1 && cs.all isS) = true from (src_ok (fun _ => rfl))) <| sK [2, 3, 4, 5] sN) rfl (by kernel_rfl) (by kernel_rfl) rfl ?_ ?_
 · rfl
 · simp [Z3k, GSpring.cells, cF]
@[simp] theorem ZgW (b : GBody) : Z3k b = b := by simp [Z3k]
theorem Zc7 (Y3 : GBody) (hp0 : Y3.Mesh.Places.length ≤ 1073741824) (hp1 : Y3.Mesh.Triangles.length ≤ 1073741824) (hp2 : ∀ t ∈ Y3.Mesh.Triangles, t.length ≤ 1073741824) (hp3 : Y3.Springs.length ≤ 1073741824) (hp4 : Y3.Weights.length ≤ 1073741824) : Fn prog 86 [.ref (GBody.cells Y3) 0] (.agg [.own 0, .own 1, .own 2, .f .f32 Y3.Film, .f .f32 Y3.Bend, .own 3, .f .f32 Y3.Fall.X, .f .f32 Y3.Fall.Y, .f .f32 Y3.Fall.Z]) [.vec 40 3 (Y3.Mesh.Places.map GVector.cells) false, .nest 49 (Y3.Mesh.Triangles.map fun l => l.map (cI .i64)) false, .vec 133 4 (Y3.Springs.map GSpring.cells) false, .vec 27 1 (Y3.Weights.map (cF .f32)) false] := by
 simpa only [ZgW] using ZfF  Y3 hp0 hp1 hp2 hp3 hp4
def Z1d (Y3 : GBody) (Yj : (List GVector)) (Yi : Nat) : Nat → Int → (List GVector) → (List GVector)
  | 0, _, _ => default
  | k + 1, Y1, Y8 => (cond (decide (Y1 < (Yj.length : Int)))
    (Z1d Y3 Yj Yi k (Y1 + 1) (Y8.set Y1.toNat (Zx (Y3.Mesh.Places.getD Y1.toNat default) (Zl (Yj.getD Y1.toNat default) Yi))))
    Y8)
def Z6L (Y3 : GBody) (Yj : (List GVector)) (Yi : Nat) (r : (List GVector)) : Ex × St := ((.exit 0), ⟨.ref (GBody.cells Y3) 0 :: .sl (Yj.map GVector.cells) :: an 4 (.ptr 0 0 0 :: .ptr 1 0 0 :: .any :: .ref (GBody.cells Y3) 0 :: .agg [.own 2, .own 3, .own 4, .f .f32 Y3.Film, .f .f32 Y3.Bend, .own 5, .f .f32 Y3.Fall.X, .f .f32 Y3.Fall.Y, .f .f32 Y3.Fall.Z] :: .sl (Yj.map GVector.cells) :: an 26 []), [.box 42 [.nils, .nils, .nils, .f .f32 0, .f .f32 0, .nils, .f .f32 0, .f .f32 0, .f .f32 0], .box 42 [.own 2, .own 3, .own 4, .f .f32 Y3.Film, .f .f32 Y3.Bend, .own 5, .f .f32 Y3.Fall.X, .f .f32 Y3.Fall.Y, .f .f32 Y3.Fall.Z], .vec 40 3 (r.map GVector.cells) false, .nest 49 (Y3.Mesh.Triangles.map fun l => l.map (cI .i64)) false, .vec 133 4 (Y3.Springs.map GSpring.cells) false, .vec 27 1 (Y3.Weights.map (cF .f32)) false]⟩)
def Zd0 (Y3 : GBody) (Yj : (List GVector)) (Yi : Nat) (Y1 : Int) (Y8 : (List GVector)) : St := ⟨.ref (GBody.cells Y3) 0 :: .sl (Yj.map GVector.cells) :: .f .f32 Yi :: .any :: .any :: .any :: .ptr 0 0 0 :: .ptr 5 0 0 :: .any :: .ref (GBody.cells Y3) 0 :: .agg [.own 1, .own 2, .own 3, .f .f32 Y3.Film, .f .f32 Y3.Bend, .own 4, .f .f32 Y3.Fall.X, .f .f32 Y3.Fall.Y, .f .f32 Y3.Fall.Z] :: .sl (Yj.map GVector.cells) :: .i .i64 (Yj.length : Int) :: .i .i64 Y1 :: an 24 [], [.box 42 [.nils, .nils, .nils, .f .f32 0, .f .f32 0, .nils, .f .f32 0, .f .f32 0, .f .f32 0], .vec 40 3 (Y8.map GVector.cells) false, .nest 49 (Y3.Mesh.Triangles.map fun l => l.map (cI .i64)) false, .vec 133 4 (Y3.Springs.map GSpring.cells) false, .vec 27 1 (Y3.Weights.map (cF .f32)) false, .box 42 [.own 1, .own 2, .own 3, .f .f32 Y3.Film, .f .f32 Y3.Bend, .own 4, .f .f32 Y3.Fall.X, .f .f32 Y3.Fall.Y, .f .f32 Y3.Fall.Z]]⟩
theorem Zd1 (Y3 : GBody) (Yj : (List GVector)) (Yi : Nat) (hp0 : Y3.Mesh.Places.length ≤ 1073741824) (hp1 : Y3.Mesh.Triangles.length ≤ 1073741824) (hp2 : ∀ t ∈ Y3.Mesh.Triangles, t.length ≤ 1073741824) (hp3 : Y3.Springs.length ≤ 1073741824) (hp4 : Y3.Weights.length ≤ 1073741824) (hp5 : Yj.length ≤ 1073741824) (hp6 : Yj.length ≤ Y3.Mesh.Places.length) : ∀ (k : Nat) (Y1 : Int) (Y8 : (List GVector)) (Z8o : 0 ≤ Y1) (Z8p : Y8.length = Y3.Mesh.Places.length) (hk : ((Yj.length : Int) - Y1).toNat < k), Lp prog 0 (sub (bodyOf f122) [1, 1, 0, 1, 0, 0]) (Zd0 Y3 Yj Yi Y1 Y8) (Z6L Y3 Yj Yi (Z1d Y3 Yj Yi k Y1 Y8)).1 (Z6L Y3 Yj Yi (Z1d Y3 Yj Yi k Y1 Y8)).2 := by
 intro k
 induction k with
 | zero => intro Y1 Y8 Z8o Z8p hk; exact absurd hk (Nat.not_lt_zero _)
 | succ k ih =>
  intro Y1 Y8 Z8o Z8p hk
  cases Yg : (decide (Y1 < (Yj.length : Int))) with
  | true =>
   have Yt := of_decide_eq_true Yg
   have YA : (0 : Int) ≤ Y1 := (by assumption)
   have YE : Y1 < (Y3.Mesh.Places.length : Int) := (by omega)
   have YG : Y1 < (Yj.length : Int) := (by assumption)
   have YH : Y1 < (Y8.length : Int) := (by omega)
   have YL : Y1.toNat < Y8.length := (by omega)
   have YQ : (-9223372036854775808 : Int) ≤ (Y1 + 1) := (by omega)
   have YW : (Y1 + 1) ≤ (9223372036854775807 : Int) := (by omega)
   have e : Z1d Y3 Yj Yi (k + 1) Y1 Y8 = (Z1d Y3 Yj Yi k (Y1 + 1) (Y8.set Y1.toNat (Zx (Y3.Mesh.Places.getD Y1.toNat default) (Zl (Yj.getD Y1.toNat default) Yi)))) := by simp only [Z1d, Yg, cond_true]
   rw [e]
   exact nextS E0Ok Z4 [] (mR false [0, 3, 3, 2, 1, 5, 24]) [0, 1, 2, 3, 4, 5] (⟨.ref (GBody.cells Y3) 0 :: .sl (Yj.map GVector.cells) :: .f .f32 Yi :: .any :: .any :: .any :: .ptr 0 0 0 :: .ptr 5 0 0 :: .any :: .ref (GBody.cells Y3) 0 :: .agg [.own 1, .own 2, .own 3, .f .f32 Y3.Film, .f .f32 Y3.Bend, .own 4, .f .f32 Y3.Fall.X, .f .f32 Y3.Fall.Y, .f .f32 Y3.Fall.Z] :: .sl (Yj.map GVector.cells) :: .i .i64 (Yj.length : Int) :: .i .i64 (Y1 + 1) :: an 24 [], [.box 42 [.nils, .nils, .nils, .f .f32 0, .f .f32 0, .nils, .f .f32 0, .f .f32 0, .f .f32 0], .vec 40 3 ((Y8.map GVector.cells).set Y1.toNat [.f .f32 ((Zx (Y3.Mesh.Places.getD Y1.toNat default) (Zl (Yj.getD Y1.toNat default) Yi)).X), .f .f32 ((Zx (Y3.Mesh.Places.getD Y1.toNat default) (Zl (Yj.getD Y1.toNat default) Yi)).Y), .f .f32 ((Zx (Y3.Mesh.Places.getD Y1.toNat default) (Zl (Yj.getD Y1.toNat default) Yi)).Z)]) false, .nest 49 (Y3.Mesh.Triangles.map fun l => l.map (cI .i64)) false, .vec 133 4 (Y3.Springs.map GSpring.cells) false, .vec 27 1 (Y3.Weights.map (cF .f32)) false, .box 42 [.own 1, .own 2, .own 3, .f .f32 Y3.Film, .f .f32 Y3.Bend, .own 4, .f .f32 Y3.Fall.X, .f .f32 Y3.Fall.Y, .f .f32 Y3.Fall.Z]]⟩) (sB Yg <| sK [19, 19] <| sG GVector.cells Y3.Mesh.Places Y1 YA YE <| sG GVector.cells Yj Y1 YA YG <| sF (Z3H (Yj.getD Y1.toNat default) Yi) <| sF (Z3A (Y3.Mesh.Places.getD Y1.toNat default) (Zl (Yj.getD Y1.toNat default) Yi)) <| sX GVector.cells Y8 Y1 YA YH <| sC (maplt (c := GVector.cells) (l := Y8) YL) <| sI (Y1 + 1) YQ YW <| sN) (by kernel_rfl) (show _ = ⟨.ref (GBody.cells Y3) 0 :: .sl (Yj.map GVector.cells) :: .f .f32 Yi :: .any :: .any :: .any :: .ptr 0 0 0 :: .ptr 5 0 0 :: .any :: .ref (GBody.cells Y3) 0 :: .agg [.own 1, .own 2, .own 3, .f .f32 Y3.Film, .f .f32 Y3.Bend, .own 4, .f .f32 Y3.Fall.X, .f .f32 Y3.Fall.Y, .f .f32 Y3.Fall.Z] :: .sl (Yj.map GVector.cells) :: .i .i64 (Yj.length : Int) :: .i .i64 (Y1 + 1) :: an 24 [], [.box 42 [.nils, .nils, .nils, .f .f32 0, .f .f32 0, .nils, .f .f32 0, .f .f32 0, .f .f32 0], .vec 40 3 ((Y8.set Y1.toNat (Zx (Y3.Mesh.Places.getD Y1.toNat default) (Zl (Yj.getD Y1.toNat default) Yi))).map GVector.cells) false, .nest 49 (Y3.Mesh.Triangles.map fun l => l.map (cI .i64)) false, .vec 133 4 (Y3.Springs.map GSpring.cells) false, .vec 27 1 (Y3.Weights.map (cF .f32)) false, .box 42 [.own 1, .own 2, .own 3, .f .f32 Y3.Film, .f .f32 Y3.Bend, .own 4, .f .f32 Y3.Fall.X, .f .f32 Y3.Fall.Y, .f .f32 Y3.Fall.Z]]⟩ from (by simp [List.map_set, GVector.cells])) (ih (Y1 + 1) (Y8.set Y1.toNat (Zx (Y3.Mesh.Places.getD Y1.toNat default) (Zl (Yj.getD Y1.toNat default) Yi))) (show 0 ≤ (Y1 + 1) from (by omega)) (show (Y8.set Y1.toNat (Zx (Y3.Mesh.Places.getD Y1.toNat default) (Zl (Yj.getD Y1.toNat default) Yi))).length = Y3.Mesh.Places.length from (by simp_all <;> omega)) (by omega))
  | false =>
   have Yt := of_decide_eq_false Yg
   have e : Z1d Y3 Yj Yi (k + 1) Y1 Y8 = Y8 := by simp only [Z1d, Yg, cond_false]
   rw [e]
   exact outR (e := (.exit 0)) E0Ok Z4 [] (mR false [0, 2, 4, 2, 1, 3, 26]) [0, 5, 1, 2, 3, 4] (sB Yg <| sN) (by kernel_rfl) (by intro h; cases h)
theorem ZbO (Y3 : GBody) (Yj : (List GVector)) (Yi : Nat) : ∀ (k : Nat) (Y1 : Int) (Y8 : (List GVector)) (hk : ((Yj.length : Int) - Y1).toNat < k), (Z1d Y3 Yj Yi k Y1 Y8).length = Y8.length := by
  intro k
  induction k with
  | zero => intro Y1 Y8 hk; exact absurd hk (Nat.not_lt_zero _)
  | succ k ih =>
    intro Y1 Y8 hk
    cases Yg : (decide (Y1 < (Yj.length : Int))) with
    | true =>
      have e : Z1d Y3 Yj Yi (k + 1) Y1 Y8 = (Z1d Y3 Yj Yi k (Y1 + 1) (Y8.set Y1.toNat (Zx (Y3.Mesh.Places.getD Y1.toNat default) (Zl (Yj.getD Y1.toNat default) Yi)))) := by simp only [Z1d, Yg, cond_true]
      rw [e, ih (Y1 + 1) (Y8.set Y1.toNat (Zx (Y3.Mesh.Places.getD Y1.toNat default) (Zl (Yj.getD Y1.toNat default) Yi))) (by simp_all <;> omega)]; simp
    | false =>
      have e : Z1d Y3 Yj Yi (k + 1) Y1 Y8 = Y8 := by simp only [Z1d, Yg, cond_false]
      first | (rw [e]; done) | (rw [e]; rfl)
def Z3T (Y3 : GBody) (Yj : (List GVector)) (Yi : Nat) : (List GVector) := (Z1d Y3 Yj Yi (((Yj.length : Int) - 0).toNat + 1) 0 Y3.Mesh.Places)
@[simp] theorem ZfG (Y3 : GBody) (Yj : (List GVector)) (Yi : Nat) : (Z3T Y3 Yj Yi).length = (Y3.Mesh.Places : (List GVector)).length := ZbO Y3 Yj Yi (((Yj.length : Int) - 0).toNat + 1) 0 Y3.Mesh.Places (by exact Nat.lt_succ_self _)
def Zd (Y3 : GBody) (Yj : (List GVector)) (Yi : Nat) : GBody := (⟨(⟨(Z3T Y3 Yj Yi), Y3.Mesh.Triangles⟩ : GMesh), Y3.Springs, Y3.Film, Y3.Bend, Y3.Weights, Y3.Fall⟩ : GBody)
theorem Z73 (b : GBody) (v : List GVector) (s : Nat) : (Zd b v s).Mesh.Places.length ≤ b.Mesh.Places.length := by
  unfold Zd
  simp
theorem Z74 (b : GBody) (v : List GVector) (s : Nat) : (Zd b v s).Mesh.Triangles.length ≤ b.Mesh.Triangles.length := by
  unfold Zd
  simp
theorem Z75 (b : GBody) (v : List GVector) (s : Nat) : (Zd b v s).Weights.length ≤ b.Weights.length := by
  unfold Zd
  simp
theorem Z76 (b : GBody) (v : List GVector) (s : Nat) : (Zd b v s).Springs.length ≤ b.Springs.length := by
  unfold Zd
  simp
theorem ZdE (b : GBody) (v : List GVector) (s : Nat) : ∀ t ∈ (Zd b v s).Mesh.Triangles, t ∈ b.Mesh.Triangles := by
  unfold Zd
  simp
theorem ZeJ (Y3 : GBody) (Yj : (List GVector)) (Yi : Nat) (hp0 : Y3.Mesh.Places.length ≤ 1073741824) (hp1 : Y3.Mesh.Triangles.length ≤ 1073741824) (hp2 : ∀ t ∈ Y3.Mesh.Triangles, t.length ≤ 1073741824) (hp3 : Y3.Springs.length ≤ 1073741824) (hp4 : Y3.Weights.length ≤ 1073741824) (hp5 : Yj.length ≤ 1073741824) (hp6 : Yj.length ≤ Y3.Mesh.Places.length)  : Fn prog 122 [.ref (GBody.cells Y3) 0, .sl (Yj.map GVector.cells), .f .f32 Yi] (.agg [.own 0, .own 1, .own 2, .f .f32 ((Zd Y3 Yj Yi).Film), .f .f32 ((Zd Y3 Yj Yi).Bend), .own 3, .f .f32 ((Zd Y3 Yj Yi).Fall.X), .f .f32 ((Zd Y3 Yj Yi).Fall.Y), .f .f32 ((Zd Y3 Yj Yi).Fall.Z)]) [.vec 40 3 (((Zd Y3 Yj Yi).Mesh.Places).map GVector.cells) false, .nest 49 (((Zd Y3 Yj Yi).Mesh.Triangles).map fun l => l.map (cI .i64)) false, .vec 133 4 (((Zd Y3 Yj Yi).Springs).map GSpring.cells) false, .vec 27 1 (((Zd Y3 Yj Yi).Weights).map (cF .f32)) false] := by
 refine fnS E0Ok Z4 (c := bodyOf f122) [] (.agg [.own 0, .own 1, .own 2, .f .f32 Y3.Film, .f .f32 Y3.Bend, .own 3, .f .f32 Y3.Fall.X, .f .f32 Y3.Fall.Y, .f .f32 Y3.Fall.Z]) [.vec 40 3 ((Z3T Y3 Yj Yi).map GVector.cells) false, .nest 49 (Y3.Mesh.Triangles.map fun l => l.map (cI .i64)) false, .vec 133 4 (Y3.Springs.map GSpring.cells) false, .vec 27 1 (Y3.Weights.map (cF .f32)) false] func122 (sF (Zc7 Y3 hp0 hp1 hp2 hp3 hp4) <| sZ GVector.cells Yj <| sL (mR false [0, 3, 3, 2, 1, 5, 24]) 6 (lp_val (Z6L Y3 Yj Yi) (x := (Z3T Y3 Yj Yi)) (Zd1 Y3 Yj Yi hp0 hp1 hp2 hp3 hp4 hp5 hp6 (((Yj.length : Int) - 0).toNat + 1) 0 Y3.Mesh.Places (show 0 ≤ 0 from (by omega)) (show Y3.Mesh.Places.length = Y3.Mesh.Places.length from (by simp)) (Nat.lt_succ_self _)) rfl) <| sK [2, 3, 4, 5] sN) rfl (by kernel_rfl) (by kernel_rfl) rfl ?_ ?_
 · rfl
 · simp [Zd]
theorem Z8q (b : GBody) (v : List GVector) (s : Nat) : (Z3T b v s).length = b.Mesh.Places.length := by simp
theorem ZbP {b : GBody} (h : OkBd b) (v : List GVector) (s : Nat) : OkBd (Zd b v s) := by
  unfold Zd
  exact ⟨by simp only [Z8q]; exact h.e, by simp only [Z8q]; exact h.w, by simp only [Z8q]; exact h.a, by simp only [Z8q]; exact h.b⟩
def Z1F (Y3 : GBody) (Yj : (List GVector)) (Yf : Nat) : Nat → Nat → Int → (Int × Nat × Nat × Nat × Nat × Nat × (List GVector) × (List (List Int)) × (List GSpring) × (List Nat)) ⊕ (Unit)
  | 0, _, _ => .inl default
  | k + 1, Yh, YZ => (cond (decide (YZ ≤ 20))
    (cond (fcmp .lss .f32 (Z2G (Zd Y3 Yj Yh)) (Z2G Y3))
      (.inl (YZ, (Zd Y3 Yj Yh).Film, (Zd Y3 Yj Yh).Bend, (Zd Y3 Yj Yh).Fall.X, (Zd Y3 Yj Yh).Fall.Y, (Zd Y3 Yj Yh).Fall.Z, (Zd Y3 Yj Yh).Mesh.Places, (Zd Y3 Yj Yh).Mesh.Triangles, (Zd Y3 Yj Yh).Springs, (Zd Y3 Yj Yh).Weights))
      (Z1F Y3 Yj Yf k (fop .quo .f32 Yh 1073741824) (YZ + 1)))
    (.inr ()))
def Z5Y (Y3 : GBody) (Yj : (List GVector)) (Yf : Nat) : (Int × Nat × Nat × Nat × Nat × Nat × (List GVector) × (List (List Int)) × (List GSpring) × (List Nat)) ⊕ (Unit) → Ex × St
  | .inl r => (.ret, ⟨an 6 (.ptr 0 0 0 :: .i .i64 r.1 :: .b true :: an 22 []), [.box 42 [.own 1, .own 2, .own 3, .f .f32 r.2.1, .f .f32 r.2.2.1, .own 4, .f .f32 r.2.2.2.1, .f .f32 r.2.2.2.2.1, .f .f32 r.2.2.2.2.2.1], .vec 40 3 (r.2.2.2.2.2.2.1.map GVector.cells) false, .nest 49 (r.2.2.2.2.2.2.2.1.map fun l => l.map (cI .i64)) false, .vec 133 4 (r.2.2.2.2.2.2.2.2.1.map GSpring.cells) false, .vec 27 1 (r.2.2.2.2.2.2.2.2.2.map (cF .f32)) false]⟩)
  | .inr r => ((.exit 0), ⟨.ref (GBody.cells Y3) 0 :: an 5 (.ptr 0 0 0 :: an 5 (.ref (GBody.cells Y3) 0 :: .f .f32 (Z2G Y3) :: an 17 [])), [.box 42 [.nils, .nils, .nils, .f .f32 0, .f .f32 0, .nils, .f .f32 0, .f .f32 0, .f .f32 0]]⟩)
def Zeh (Y3 : GBody) (Yj : (List GVector)) (Yf : Nat) (Yh : Nat) (YZ : Int) : St := ⟨.ref (GBody.cells Y3) 0 :: .sl (Yj.map GVector.cells) :: .f .f32 Yh :: .any :: .any :: .any :: .ptr 0 0 0 :: .any :: .any :: .f .f32 (Z2G Y3) :: .i .i64 YZ :: .any :: .ref (GBody.cells Y3) 0 :: .f .f32 (Z2G Y3) :: an 17 [], [.box 42 [.nils, .nils, .nils, .f .f32 0, .f .f32 0, .nils, .f .f32 0, .f .f32 0, .f .f32 0]]⟩
theorem Zav (Y3 : GBody) (Yj : (List GVector)) (Yf : Nat) (hp0 : Y3.Mesh.Places.length ≤ 1073741824) (hp1 : Y3.Mesh.Triangles.length ≤ 1073741824) (hp2 : ∀ t ∈ Y3.Mesh.Triangles, t.length ≤ 1073741824) (hp3 : Y3.Springs.length ≤ 1073741824) (hp4 : Y3.Weights.length ≤ 1073741824) (hp5 : Yj.length ≤ 1073741824) (hp6 : OkBd Y3) (hp7 : Yj.length ≤ Y3.Mesh.Places.length) : ∀ (k : Nat) (Yh : Nat) (YZ : Int) (Z9u : 0 ≤ YZ) (hk : (21 + (Yj.length : Int) - YZ).toNat < k), Lp prog 0 (sub (bodyOf f70) [1, 1, 0, 1, 0, 0]) (Zeh Y3 Yj Yf Yh YZ) (Z5Y Y3 Yj Yf (Z1F Y3 Yj Yf k Yh YZ)).1 (Z5Y Y3 Yj Yf (Z1F Y3 Yj Yf k Yh YZ)).2 := by
 intro k
 induction k with
 | zero => intro Yh YZ Z9u hk; exact absurd hk (Nat.not_lt_zero _)
 | succ k ih =>
  intro Yh YZ Z9u hk
  cases Yg : (decide (YZ ≤ 20)) with
  | true =>
   have Yt := of_decide_eq_true Yg
   have l_1 := (Z73 Y3 Yj Yh)
   have l_2 := (Z74 Y3 Yj Yh)
   have l_3 := (Z75 Y3 Yj Yh)
   have l_4 := (Z76 Y3 Yj Yh)
   have YA : (Zd Y3 Yj Yh).Mesh.Places.length ≤ 1073741824 := (by omega)
   have YE : (Zd Y3 Yj Yh).Mesh.Triangles.length ≤ 1073741824 := (by assumption)
   have YG : ∀ t ∈ (Zd Y3 Yj Yh).Mesh.Triangles, t.length ≤ 1073741824 := (by assumption)
   have YH : (Zd Y3 Yj Yh).Springs.length ≤ 1073741824 := (by assumption)
   have YL : (Zd Y3 Yj Yh).Weights.length ≤ 1073741824 := (by assumption)
   have YQ : OkBd (Zd Y3 Yj Yh) := (by exact ZbP hp6 _ _)
   have p {a C} (s : Scr a C) := sB Yg <| sF (ZeJ Y3 Yj Yh hp0 hp1 hp2 hp3 hp4 hp5 hp7) <| sF (Fn.castA (args' := [.ref [.sl (((Zd Y3 Yj Yh).Mesh.Places).map GVector.cells), .sl ((((Zd Y3 Yj Yh).Mesh.Triangles).map fun l => l.map (cI .i64)).map fun l => [.sl l]), .sl (((Zd Y3 Yj Yh).Springs).map GSpring.cells), .f .f32 ((Zd Y3 Yj Yh).Film), .f .f32 ((Zd Y3 Yj Yh).Bend), .sl (((Zd Y3 Yj Yh).Weights).map (cF .f32)), .f .f32 ((Zd Y3 Yj Yh).Fall.X), .f .f32 ((Zd Y3 Yj Yh).Fall.Y), .f .f32 ((Zd Y3 Yj Yh).Fall.Z)] 0]) (Zat (Zd Y3 Yj Yh) YA YE YG YH YL YQ) (by simp [cL, Function.comp_def]; rfl)) <| s
   cases Yq : (fcmp .lss .f32 (Z2G (Zd Y3 Yj Yh)) (Z2G Y3)) with
   | true =>
    have e : Z1F Y3 Yj Yf (k + 1) Yh YZ = (.inl (YZ, (Zd Y3 Yj Yh).Film, (Zd Y3 Yj Yh).Bend, (Zd Y3 Yj Yh).Fall.X, (Zd Y3 Yj Yh).Fall.Y, (Zd Y3 Yj Yh).Fall.Z, (Zd Y3 Yj Yh).Mesh.Places, (Zd Y3 Yj Yh).Mesh.Triangles, (Zd Y3 Yj Yh).Springs, (Zd Y3 Yj Yh).Weights)) := by simp only [Z1F, Yg, Yq, cond_true]
    rw [e]
    exact outR (e := .ret) E0Ok Z4 [] (mR false [6, 3, 22]) [0, 1, 2, 3, 4] (p (sB Yq <| sN)) (by kernel_rfl) (by intro h; cases h)
   | false =>
    have YW : (-9223372036854775808 : Int) ≤ (YZ + 1) := by clear p; exact (by omega)
    have y_7 : (YZ + 1) ≤ (9223372036854775807 : Int) := by clear p; exact (by omega)
    have e : Z1F Y3 Yj Yf (k + 1) Yh YZ = (Z1F Y3 Yj Yf k (fop .quo .f32 Yh 1073741824) (YZ + 1)) := by simp only [Z1F, Yg, Yq, cond_true, cond_false]
    rw [e]
    exact nextR E0Ok Z4 [] (mR false [0, 3, 3, 1, 2, 2, 1, 2, 17]) [0] (ih (fop .quo .f32 Yh 1073741824) (YZ + 1) (show 0 ≤ (YZ + 1) from (by omega)) (by omega)) (p (sB Yq <| sI (YZ + 1) YW y_7 <| sN)) (by kernel_rfl)
  | false =>
   have Yt := of_decide_eq_false Yg
   have e : Z1F Y3 Yj Yf (k + 1) Yh YZ = (.inr ()) := by simp only [Z1F, Yg, cond_false]
   rw [e]
   exact outR (e := (.exit 0)) E0Ok Z4 [] (mR false [0, 1, 5, 1, 5, 2, 17]) [0] (sB Yg <| sN) (by kernel_rfl) (by intro h; cases h)
def Z48 (Y3 : GBody) (Yj : (List GVector)) (Yf : Nat) : (Int × Nat × Nat × Nat × Nat × Nat × (List GVector) × (List (List Int)) × (List GSpring) × (List Nat)) ⊕ (Unit) := (Z1F Y3 Yj Yf ((21 + (Yj.length : Int) - 0).toNat + 1) Yf 0)
def Zo (Y3 : GBody) (Yj : (List GVector)) (Yf : Nat) : GBody × Int × Bool := (match (Z48 Y3 Yj Yf) with
  | .inl r1 => ((⟨(⟨r1.2.2.2.2.2.2.1, r1.2.2.2.2.2.2.2.1⟩ : GMesh), r1.2.2.2.2.2.2.2.2.1, r1.2.1, r1.2.2.1, r1.2.2.2.2.2.2.2.2.2, (⟨r1.2.2.2.1, r1.2.2.2.2.1, r1.2.2.2.2.2.1⟩ : GVector)⟩ : GBody), r1.1, true)
  | .inr r1 => (Y3, 20, false))
theorem Zhu (b : GBody) (v : List GVector) (s : Nat) : ∀ (k x : Nat) (n : Int), (21 + (v.length : Int) - n).toNat < k → ∀ r, Z1F b v s k x n = .inl r → ∃ y, (⟨(⟨r.2.2.2.2.2.2.1, r.2.2.2.2.2.2.2.1⟩ : GMesh), r.2.2.2.2.2.2.2.2.1, r.2.1, r.2.2.1, r.2.2.2.2.2.2.2.2.2, (⟨r.2.2.2.1, r.2.2.2.2.1, r.2.2.2.2.2.1⟩ : GVector)⟩ : GBody) = Zd b v y := by
  intro k
  induction k with
  | zero => intro x n hk; exact absurd hk (Nat.not_lt_zero _)
  | succ k ih =>
    intro x n hk r e
    rw [Z1F] at e
    cases h : decide (n ≤ 20) with
    | false => rw [h] at e; cases e
    | true =>
      have hn := of_decide_eq_true h
      rw [h, cond_true] at e
      cases h2 : fcmp .lss .f32 (Z2G (Zd b v x)) (Z2G b) with
      | true => rw [h2, cond_true] at e; cases e; exact ⟨x, rfl⟩
      | false => rw [h2, cond_false] at e; exact ih _ _ (by omega) r e
theorem Zaw (b : GBody) (v : List GVector) (s : Nat) : (Zo b v s).1 = b ∨ ∃ y, (Zo b v s).1 = Zd b v y := by
  unfold Zo Z48
  cases h : Z1F b v s ((21 + (v.length : Int) - 0).toNat + 1) s 0 with
  | inl r => exact .inr (Zhu b v s _ s 0 (Nat.lt_succ_self _) r h)
  | inr r => exact .inl rfl
theorem ZaP (b : GBody) (v : List GVector) (s : Nat) : (Zo b v s).1.Mesh.Places.length ≤ b.Mesh.Places.length := by
  rcases Zaw b v s with h | ⟨y, h⟩ <;> rw [h]
  · exact Nat.le_refl _
  · exact Z73 b v y
theorem ZaQ (b : GBody) (v : List GVector) (s : Nat) : (Zo b v s).1.Mesh.Triangles.length ≤ b.Mesh.Triangles.length := by
  rcases Zaw b v s with h | ⟨y, h⟩ <;> rw [h]
  · exact Nat.le_refl _
  · exact Z74 b v y
theorem ZaR (b : GBody) (v : List GVector) (s : Nat) : (Zo b v s).1.Weights.length ≤ b.Weights.length := by
  rcases Zaw b v s with h | ⟨y, h⟩ <;> rw [h]
  · exact Nat.le_refl _
  · exact Z75 b v y
theorem ZaS (b : GBody) (v : List GVector) (s : Nat) : (Zo b v s).1.Springs.length ≤ b.Springs.length := by
  rcases Zaw b v s with h | ⟨y, h⟩ <;> rw [h]
  · exact Nat.le_refl _
  · exact Z76 b v y
theorem ZeK (b : GBody) (v : List GVector) (s : Nat) : ∀ t ∈ (Zo b v s).1.Mesh.Triangles, t ∈ b.Mesh.Triangles := by
  rcases Zaw b v s with h | ⟨y, h⟩ <;> rw [h]
  · exact fun t ht => ht
  · exact ZdE b v y
theorem ZfH (Y3 : GBody) (Yj : (List GVector)) (Yf : Nat) (hp0 : Y3.Mesh.Places.length ≤ 1073741824) (hp1 : Y3.Mesh.Triangles.length ≤ 1073741824) (hp2 : ∀ t ∈ Y3.Mesh.Triangles, t.length ≤ 1073741824) (hp3 : Y3.Springs.length ≤ 1073741824) (hp4 : Y3.Weights.length ≤ 1073741824) (hp5 : Yj.length ≤ 1073741824) (hp6 : OkBd Y3) (hp7 : Yj.length ≤ Y3.Mesh.Places.length)  : Fn prog 70 [.ref (GBody.cells Y3) 0, .sl (Yj.map GVector.cells), .f .f32 Yf] (.tup [.agg [.own 0, .own 1, .own 2, .f .f32 ((Zo Y3 Yj Yf).1.Film), .f .f32 ((Zo Y3 Yj Yf).1.Bend), .own 3, .f .f32 ((Zo Y3 Yj Yf).1.Fall.X), .f .f32 ((Zo Y3 Yj Yf).1.Fall.Y), .f .f32 ((Zo Y3 Yj Yf).1.Fall.Z)], .i .i64 ((Zo Y3 Yj Yf).2.1), .b ((Zo Y3 Yj Yf).2.2)]) [.vec 40 3 (((Zo Y3 Yj Yf).1.Mesh.Places).map GVector.cells) false, .nest 49 (((Zo Y3 Yj Yf).1.Mesh.Triangles).map fun l => l.map (cI .i64)) false, .vec 133 4 (((Zo Y3 Yj Yf).1.Springs).map GSpring.cells) false, .vec 27 1 (((Zo Y3 Yj Yf).1.Weights).map (cF .f32)) false] := by
 have p {a C} (s : Scr a C) := sF (Zat Y3 hp0 hp1 hp2 hp3 hp4 hp6) <| s
 cases h0 : (Z48 Y3 Yj Yf) with
 | inl r1 =>
  have hv : Zo Y3 Yj Yf = ((⟨(⟨r1.2.2.2.2.2.2.1, r1.2.2.2.2.2.2.2.1⟩ : GMesh), r1.2.2.2.2.2.2.2.2.1, r1.2.1, r1.2.2.1, r1.2.2.2.2.2.2.2.2.2, (⟨r1.2.2.2.1, r1.2.2.2.2.1, r1.2.2.2.2.2.1⟩ : GVector)⟩ : GBody), r1.1, true) := by unfold Zo; rw [h0]
  refine fnS E0Ok Z4 (c := bodyOf f70) [] (.tup [.agg [.own 0, .own 1, .own 2, .f .f32 r1.2.1, .f .f32 r1.2.2.1, .own 3, .f .f32 r1.2.2.2.1, .f .f32 r1.2.2.2.2.1, .f .f32 r1.2.2.2.2.2.1], .i .i64 r1.1, .b true]) [.vec 40 3 (r1.2.2.2.2.2.2.1.map GVector.cells) false, .nest 49 (r1.2.2.2.2.2.2.2.1.map fun l => l.map (cI .i64)) false, .vec 133 4 (r1.2.2.2.2.2.2.2.2.1.map GSpring.cells) false, .vec 27 1 (r1.2.2.2.2.2.2.2.2.2.map (cF .f32)) false] func70 (p (sL (mR false [0, 3, 3, 1, 2, 2, 1, 2, 17]) 1 (lp_val (Z5Y Y3 Yj Yf) (x := (Z48 Y3 Yj Yf)) (Zav Y3 Yj Yf hp0 hp1 hp2 hp3 hp4 hp5 hp6 hp7 ((21 + (Yj.length : Int) - 0).toNat + 1) Yf 0 (show 0 ≤ 0 from (by omega)) (Nat.lt_succ_self _)) h0) <| sK [1, 2, 3, 4] sN)) rfl (by kernel_rfl) (by kernel_rfl) rfl ?_ ?_
  · rw [hv]
  · rw [hv]
 | inr r1 =>
  have hv : Zo Y3 Yj Yf = (Y3, 20, false) := by unfold Zo; rw [h0]
  refine fnS E0Ok Z4 (c := bodyOf f70) [] (.tup [.agg [.own 0, .own 1, .own 2, .f .f32 Y3.Film, .f .f32 Y3.Bend, .own 3, .f .f32 Y3.Fall.X, .f .f32 Y3.Fall.Y, .f .f32 Y3.Fall.Z], .i .i64 20, .b false]) [.vec 40 3 (Y3.Mesh.Places.map GVector.cells) false, .nest 49 (Y3.Mesh.Triangles.map fun l => l.map (cI .i64)) false, .vec 133 4 (Y3.Springs.map GSpring.cells) false, .vec 27 1 (Y3.Weights.map (cF .f32)) false] func70 (p (sL (mR false [0, 3, 3, 1, 2, 2, 1, 2, 17]) 1 (lp_val (Z5Y Y3 Yj Yf) (x := (Z48 Y3 Yj Yf)) (Zav Y3 Yj Yf hp0 hp1 hp2 hp3 hp4 hp5 hp6 hp7 ((21 + (Yj.length : Int) - 0).toNat + 1) Yf 0 (show 0 ≤ 0 from (by omega)) (Nat.lt_succ_self _)) h0) <| sF (Zc7 Y3 hp0 hp1 hp2 hp3 hp4) <| sK [1, 2, 3, 4] sN)) rfl (by kernel_rfl) (by kernel_rfl) rfl ?_ ?_
  · rw [hv]
  · rw [hv]
def Z9 (Y3 : GBody) (Ya : (List Int)) (Yf : Nat) : GBody × Int × Bool × Bool := (cond (Z1E Y3)
  (cond (Z3S Y3 Ya)
    (cond (Z3L Yf)
      ((Zo Y3 (ZI Y3 Ya) Yf).1, (Zo Y3 (ZI Y3 Ya) Yf).2.1, (Zo Y3 (ZI Y3 Ya) Yf).2.2, true)
      ((⟨(⟨([] : List GVector), ([] : List (List Int))⟩ : GMesh), ([] : List GSpring), 0, 0, ([] : List Nat), (⟨0, 0, 0⟩ : GVector)⟩ : GBody), 0, false, false))
    ((⟨(⟨([] : List GVector), ([] : List (List Int))⟩ : GMesh), ([] : List GSpring), 0, 0, ([] : List Nat), (⟨0, 0, 0⟩ : GVector)⟩ : GBody), 0, false, false))
  ((⟨(⟨([] : List GVector), ([] : List (List Int))⟩ : GMesh), ([] : List GSpring), 0, 0, ([] : List Nat), (⟨0, 0, 0⟩ : GVector)⟩ : GBody), 0, false, false))
theorem Z68 (b : GBody) (l : List Int) (s : Nat) : (Z9 b l s).1 = (⟨(⟨([] : List GVector), ([] : List (List Int))⟩ : GMesh), ([] : List GSpring), 0, 0, ([] : List Nat), (⟨0, 0, 0⟩ : GVector)⟩ : GBody) ∨ ∃ v, (Z9 b l s).1 = (Zo b v s).1 := by
  unfold Z9
  cases Z1E b with
  | false => left; rfl
  | true =>
    cases Z3S b l with
    | false => left; rfl
    | true =>
      cases Z3L s with
      | false => left; rfl
      | true => right; simp only [cond_true]; exact ⟨ZI b l, rfl⟩
theorem Z4o (b : GBody) (l : List Int) (s : Nat) : (Z9 b l s).1.Mesh.Places.length ≤ b.Mesh.Places.length := by
  rcases Z68 b l s with h | ⟨v, h⟩ <;> rw [h]
  · first | exact Nat.zero_le _ | (intro t ht; cases ht)
  · exact ZaP b v s
theorem Z4p (b : GBody) (l : List Int) (s : Nat) : (Z9 b l s).1.Mesh.Triangles.length ≤ b.Mesh.Triangles.length := by
  rcases Z68 b l s with h | ⟨v, h⟩ <;> rw [h]
  · first | exact Nat.zero_le _ | (intro t ht; cases ht)
  · exact ZaQ b v s
theorem Z4q (b : GBody) (l : List Int) (s : Nat) : (Z9 b l s).1.Weights.length ≤ b.Weights.length := by
  rcases Z68 b l s with h | ⟨v, h⟩ <;> rw [h]
  · first | exact Nat.zero_le _ | (intro t ht; cases ht)
  · exact ZaR b v s
theorem Z4r (b : GBody) (l : List Int) (s : Nat) : (Z9 b l s).1.Springs.length ≤ b.Springs.length := by
  rcases Z68 b l s with h | ⟨v, h⟩ <;> rw [h]
  · first | exact Nat.zero_le _ | (intro t ht; cases ht)
  · exact ZaS b v s
theorem Z4s (b : GBody) (l : List Int) (s : Nat) : ∀ t ∈ (Z9 b l s).1.Mesh.Triangles, t ∈ b.Mesh.Triangles := by
  rcases Z68 b l s with h | ⟨v, h⟩ <;> rw [h]
  · first | exact Nat.zero_le _ | (intro t ht; cases ht)
  · exact ZeK b v s
theorem ZeL (Y3 : GBody) (Ya : (List Int)) (Yf : Nat) (hp0 : Y3.Mesh.Places.length ≤ 1073741824) (hp1 : Y3.Mesh.Triangles.length ≤ 1073741824) (hp2 : ∀ t ∈ Y3.Mesh.Triangles, t.length ≤ 1073741824) (hp3 : Y3.Springs.length ≤ 1073741824) (hp4 : Y3.Weights.length ≤ 1073741824) (hp5 : Ya.length ≤ 1073741824)  : Fn prog 28 [.agg [.sl (Y3.Mesh.Places.map GVector.cells), .sl (Y3.Mesh.Triangles.map (cL (cI .i64))), .sl (Y3.Springs.map GSpring.cells), .f .f32 Y3.Film, .f .f32 Y3.Bend, .sl (Y3.Weights.map (cF .f32)), .f .f32 Y3.Fall.X, .f .f32 Y3.Fall.Y, .f .f32 Y3.Fall.Z], .sl (Ya.map (cI .i64)), .f .f32 Yf] (.tup [.agg [.own 0, .own 1, .own 2, .f .f32 ((Z9 Y3 Ya Yf).1.Film), .f .f32 ((Z9 Y3 Ya Yf).1.Bend), .own 3, .f .f32 ((Z9 Y3 Ya Yf).1.Fall.X), .f .f32 ((Z9 Y3 Ya Yf).1.Fall.Y), .f .f32 ((Z9 Y3 Ya Yf).1.Fall.Z)], .i .i64 ((Z9 Y3 Ya Yf).2.1), .b ((Z9 Y3 Ya Yf).2.2.1), .b ((Z9 Y3 Ya Yf).2.2.2)]) [.vec 40 3 (((Z9 Y3 Ya Yf).1.Mesh.Places).map GVector.cells) false, .nest 49 (((Z9 Y3 Ya Yf).1.Mesh.Triangles).map fun l => l.map (cI .i64)) false, .vec 133 4 (((Z9 Y3 Ya Yf).1.Springs).map GSpring.cells) false, .vec 27 1 (((Z9 Y3 Ya Yf).1.Weights).map (cF .f32)) false] := by
 have p {a C} (s : Scr a C) := sF (ZfY Y3 hp0 hp1 hp2 hp3 hp4) <| s
 cases h0 : (Z1E Y3) with
 | true =>
  have q {a C} (s : Scr a C) := p (sB' h0 <| sB' h0 <| sF (Zf2 Y3 Ya hp0 hp1 hp2 hp3 hp4 hp5) <| sB' h0 <| sB' h0 <| s)
  clear p
  cases h1 : (Z3S Y3 Ya) with
  | true =>
   have p {a C} (s : Scr a C) := q (sB' h1 <| sB' h1 <| sF (ZcK Yf) <| sB' h1 <| sB' h1 <| s)
   clear q
   cases h2 : (Z3L Yf) with
   | true =>
    have y0 : OkBd Y3 := by clear p; exact (by exact Zdo _ (by assumption))
    have y1 : OkIx Y3.Mesh.Places.length (fun x => x) Ya := by clear p; exact (by exact Zgs _ _ (by assumption) (by assumption))
    have y2 : (ZI Y3 Ya).length ≤ 1073741824 := by clear p; exact (by simp only [Z8b]; omega)
    have y3 : (ZI Y3 Ya).length ≤ Y3.Mesh.Places.length := by clear p; exact (by simp only [Z8b]; omega)
    have l1 := (ZaP Y3 (ZI Y3 Ya) Yf)
    have l2 := (ZaQ Y3 (ZI Y3 Ya) Yf)
    have l3 := (ZaR Y3 (ZI Y3 Ya) Yf)
    have l4 := (ZaS Y3 (ZI Y3 Ya) Yf)
    refine fnS E0Ok Z4 (c := bodyOf f28) [] (.tup [.agg [.own 0, .own 1, .own 2, .f .f32 ((Zo Y3 (ZI Y3 Ya) Yf).1.Film), .f .f32 ((Zo Y3 (ZI Y3 Ya) Yf).1.Bend), .own 3, .f .f32 ((Zo Y3 (ZI Y3 Ya) Yf).1.Fall.X), .f .f32 ((Zo Y3 (ZI Y3 Ya) Yf).1.Fall.Y), .f .f32 ((Zo Y3 (ZI Y3 Ya) Yf).1.Fall.Z)], .i .i64 ((Zo Y3 (ZI Y3 Ya) Yf).2.1), .b ((Zo Y3 (ZI Y3 Ya) Yf).2.2), .b true]) [.vec 40 3 (((Zo Y3 (ZI Y3 Ya) Yf).1.Mesh.Places).map GVector.cells) false, .nest 49 (((Zo Y3 (ZI Y3 Ya) Yf).1.Mesh.Triangles).map fun l => l.map (cI .i64)) false, .vec 133 4 (((Zo Y3 (ZI Y3 Ya) Yf).1.Springs).map GSpring.cells) false, .vec 27 1 (((Zo Y3 (ZI Y3 Ya) Yf).1.Weights).map (cF .f32)) false] func28 (p (sB' h2 <| sF (Zf4 Y3 Ya hp0 hp1 hp2 hp3 hp4 hp5 y0 y1) <| sF (ZfH Y3 (ZI Y3 Ya) Yf hp0 hp1 hp2 hp3 hp4 y2 y0 y3) <| sK [3, 4, 5, 6] sN)) rfl (by kernel_rfl) (by kernel_rfl) rfl ?_ ?_
    · simp only [Z9, h0, h1, h2, cond_true]
    · simp [Z9, h0, h1, h2]
   | false =>
    refine fnS E0Ok Z4 (c := bodyOf f28) [(.row 1 0, .vec 40 3 [] false), (.row 1 1, .nest 49 [] false), (.row 1 2, .vec 133 4 [] false), (.row 1 5, .vec 27 1 [] false)] (.tup [.agg [.own 0, .own 1, .own 2, .f .f32 0, .f .f32 0, .own 3, .f .f32 0, .f .f32 0, .f .f32 0], .i .i64 0, .b false, .b false]) [.vec 40 3 [] false, .nest 49 [] false, .vec 133 4 [] false, .vec 27 1 [] false] func28 (p (sB' h2 <| sK [2, 3, 4, 5] sN)) rfl (by kernel_rfl) (by kernel_rfl) rfl ?_ ?_
    · simp only [Z9, h0, h1, h2, cond_true, cond_false]
    · simp [Z9, h0, h1, h2, GVector.cells, cL, cI, GSpring.cells, cF]
  | false =>
   refine fnS E0Ok Z4 (c := bodyOf f28) [(.row 1 0, .vec 40 3 [] false), (.row 1 1, .nest 49 [] false), (.row 1 2, .vec 133 4 [] false), (.row 1 5, .vec 27 1 [] false)] (.tup [.agg [.own 0, .own 1, .own 2, .f .f32 0, .f .f32 0, .own 3, .f .f32 0, .f .f32 0, .f .f32 0], .i .i64 0, .b false, .b false]) [.vec 40 3 [] false, .nest 49 [] false, .vec 133 4 [] false, .vec 27 1 [] false] func28 (q (sB' h1 <| sB' h1 <| sB' h1 <| sB' h1 <| sB (show true = true from rfl) <| sK [2, 3, 4, 5] sN)) rfl (by kernel_rfl) (by kernel_rfl) rfl ?_ ?_
   · simp only [Z9, h0, h1, cond_true, cond_false]
   · simp [Z9, h0, h1, GVector.cells, cL, cI, GSpring.cells, cF]
 | false =>
  refine fnS E0Ok Z4 (c := bodyOf f28) [(.row 1 0, .vec 40 3 [] false), (.row 1 1, .nest 49 [] false), (.row 1 2, .vec 133 4 [] false), (.row 1 5, .vec 27 1 [] false)] (.tup [.agg [.own 0, .own 1, .own 2, .f .f32 0, .f .f32 0, .own 3, .f .f32 0, .f .f32 0, .f .f32 0], .i .i64 0, .b false, .b false]) [.vec 40 3 [] false, .nest 49 [] false, .vec 133 4 [] false, .vec 27 1 [] false] func28 (p (sB' h0 <| sB' h0 <| sB' h0 <| sB' h0 <| sB (show true = true from rfl) <| sB (show true = true from rfl) <| sB (show true = true from rfl) <| sB (show true = true from rfl) <| sB (show true = true from rfl) <| sK [2, 3, 4, 5] sN)) rfl (by kernel_rfl) (by kernel_rfl) rfl ?_ ?_
  · simp only [Z9, h0, cond_false]
  · simp [Z9, h0, GVector.cells, cL, cI, GSpring.cells, cF]
def Z1n (n_0 : Int) (YF : Int) (Yw : Int) : Bool := (cond (decide (n_0 ≥ YF))
  (decide (n_0 ≤ Yw))
  false)
theorem Z7o (n_0 : Int) (YF : Int) (Yw : Int)   : Fn prog 83 [.i .i64 n_0, .i .i64 YF, .i .i64 Yw] (.b (Z1n n_0 YF Yw)) [] := by
 cases h0 : (decide (n_0 ≥ YF)) with
 | true =>
  have gh0 := of_decide_eq_true h0
  refine fnS E0Ok Z4 (c := bodyOf f83) [] (.b (decide (n_0 ≤ Yw))) [] func83 (sB h0 <| sB h0 <| sB h0 <| sB h0 <| sK [] sN) rfl (by kernel_rfl) (by kernel_rfl) rfl ?_ ?_
  · simp only [Z1n, h0, cond_true]
  · rfl
 | false =>
  have gh0 := of_decide_eq_false h0
  refine fnS E0Ok Z4 (c := bodyOf f83) [] (.b false) [] func83 (sB h0 <| sB h0 <| sB h0 <| sB h0 <| sK [] sN) rfl (by kernel_rfl) (by kernel_rfl) rfl ?_ ?_
  · simp only [Z1n, h0, cond_false]
  · rfl
def Z24 (Y4 : GMesh) (Y1 : Int) : Nat → Int → (Unit) ⊕ (Unit)
  | 0, _ => .inl default
  | k + 1, Y6 => (cond (decide (Y6 < ((Y4.Triangles.getD Y1.toNat default).length : Int)))
    (cond (Z1n ((Y4.Triangles.getD Y1.toNat default).getD Y6.toNat default) 0 (IntKind.wrap .i64 ((Y4.Places.length : Int) - 1)))
      (Z24 Y4 Y1 k (Y6 + 1))
      (.inl ()))
    (.inr ()))
def Z5g (Y4 : GMesh) (Y1 : Int) : (Unit) ⊕ (Unit) → Ex × St
  | .inl r => (.ret, ⟨.any :: .any :: .b false :: an 66 [], []⟩)
  | .inr r => ((.exit 2), ⟨.agg [.sl (Y4.Places.map GVector.cells), .sl (Y4.Triangles.map (cL (cI .i64)))] :: .ptr 0 0 0 :: .any :: .i .i64 (Y4.Places.length : Int) :: .any :: .sl ((Y4.Triangles.getD Y1.toNat default).map (cI .i64)) :: .any :: .any :: .ptr 0 0 0 :: .sl (Y4.Places.map GVector.cells) :: .i .i64 (Y4.Places.length : Int) :: .i .i64 (Y4.Places.length : Int) :: .b (decide ((Y4.Places.length : Int) > 64)) :: .b (decide ((Y4.Places.length : Int) > 64)) :: .ptr 0 0 1 :: .sl (Y4.Triangles.map (cL (cI .i64))) :: .i .i64 (Y4.Triangles.length : Int) :: .b (decide ((Y4.Triangles.length : Int) > 128)) :: .b (decide ((Y4.Triangles.length : Int) > 128)) :: .ptr 0 0 1 :: .sl (Y4.Triangles.map (cL (cI .i64))) :: .i .i64 (Y4.Triangles.length : Int) :: .i .i64 Y1 :: .b (decide (Y1 < (Y4.Triangles.length : Int))) :: .ref [.sl ((Y4.Triangles.getD Y1.toNat default).map (cI .i64))] 0 :: .sl ((Y4.Triangles.getD Y1.toNat default).map (cI .i64)) :: .sl ((Y4.Triangles.getD Y1.toNat default).map (cI .i64)) :: .i .i64 ((Y4.Triangles.getD Y1.toNat default).length : Int) :: .b (((Y4.Triangles.getD Y1.toNat default).length : Int) != 3) :: .b (((Y4.Triangles.getD Y1.toNat default).length : Int) != 3) :: .sl ((Y4.Triangles.getD Y1.toNat default).map (cI .i64)) :: .ref [.i .i64 ((Y4.Triangles.getD Y1.toNat default).getD 0 default)] 0 :: .i .i64 ((Y4.Triangles.getD Y1.toNat default).getD 0 default) :: .sl ((Y4.Triangles.getD Y1.toNat default).map (cI .i64)) :: .ref [.i .i64 ((Y4.Triangles.getD Y1.toNat default).getD 1 default)] 0 :: .i .i64 ((Y4.Triangles.getD Y1.toNat default).getD 1 default) :: .b (((Y4.Triangles.getD Y1.toNat default).getD 0 default) == ((Y4.Triangles.getD Y1.toNat default).getD 1 default)) :: .b (((Y4.Triangles.getD Y1.toNat default).getD 0 default) == ((Y4.Triangles.getD Y1.toNat default).getD 1 default)) :: .b (((Y4.Triangles.getD Y1.toNat default).getD 0 default) == ((Y4.Triangles.getD Y1.toNat default).getD 1 default)) :: .sl ((Y4.Triangles.getD Y1.toNat default).map (cI .i64)) :: .ref [.i .i64 ((Y4.Triangles.getD Y1.toNat default).getD 1 default)] 0 :: .i .i64 ((Y4.Triangles.getD Y1.toNat default).getD 1 default) :: .sl ((Y4.Triangles.getD Y1.toNat default).map (cI .i64)) :: .ref [.i .i64 ((Y4.Triangles.getD Y1.toNat default).getD 2 default)] 0 :: .i .i64 ((Y4.Triangles.getD Y1.toNat default).getD 2 default) :: .b (((Y4.Triangles.getD Y1.toNat default).getD 1 default) == ((Y4.Triangles.getD Y1.toNat default).getD 2 default)) :: .b (((Y4.Triangles.getD Y1.toNat default).getD 1 default) == ((Y4.Triangles.getD Y1.toNat default).getD 2 default)) :: .b (((Y4.Triangles.getD Y1.toNat default).getD 1 default) == ((Y4.Triangles.getD Y1.toNat default).getD 2 default)) :: .sl ((Y4.Triangles.getD Y1.toNat default).map (cI .i64)) :: .ref [.i .i64 ((Y4.Triangles.getD Y1.toNat default).getD 0 default)] 0 :: .i .i64 ((Y4.Triangles.getD Y1.toNat default).getD 0 default) :: .sl ((Y4.Triangles.getD Y1.toNat default).map (cI .i64)) :: .ref [.i .i64 ((Y4.Triangles.getD Y1.toNat default).getD 2 default)] 0 :: .i .i64 ((Y4.Triangles.getD Y1.toNat default).getD 2 default) :: .b (((Y4.Triangles.getD Y1.toNat default).getD 0 default) == ((Y4.Triangles.getD Y1.toNat default).getD 2 default)) :: .b (((Y4.Triangles.getD Y1.toNat default).getD 0 default) == ((Y4.Triangles.getD Y1.toNat default).getD 2 default)) :: .sl ((Y4.Triangles.getD Y1.toNat default).map (cI .i64)) :: .i .i64 ((Y4.Triangles.getD Y1.toNat default).length : Int) :: an 11 [], [.box 38 [.sl (Y4.Places.map GVector.cells), .sl (Y4.Triangles.map (cL (cI .i64)))]]⟩)
def Zcr (Y4 : GMesh) (Y1 : Int) (Y6 : Int) : St := ⟨.agg [.sl (Y4.Places.map GVector.cells), .sl (Y4.Triangles.map (cL (cI .i64)))] :: .ptr 0 0 0 :: .any :: .i .i64 (Y4.Places.length : Int) :: .any :: .sl ((Y4.Triangles.getD Y1.toNat default).map (cI .i64)) :: .any :: .any :: .ptr 0 0 0 :: .sl (Y4.Places.map GVector.cells) :: .i .i64 (Y4.Places.length : Int) :: .i .i64 (Y4.Places.length : Int) :: .b (decide ((Y4.Places.length : Int) > 64)) :: .b (decide ((Y4.Places.length : Int) > 64)) :: .ptr 0 0 1 :: .sl (Y4.Triangles.map (cL (cI .i64))) :: .i .i64 (Y4.Triangles.length : Int) :: .b (decide ((Y4.Triangles.length : Int) > 128)) :: .b (decide ((Y4.Triangles.length : Int) > 128)) :: .ptr 0 0 1 :: .sl (Y4.Triangles.map (cL (cI .i64))) :: .i .i64 (Y4.Triangles.length : Int) :: .i .i64 Y1 :: .b (decide (Y1 < (Y4.Triangles.length : Int))) :: .ref [.sl ((Y4.Triangles.getD Y1.toNat default).map (cI .i64))] 0 :: .sl ((Y4.Triangles.getD Y1.toNat default).map (cI .i64)) :: .sl ((Y4.Triangles.getD Y1.toNat default).map (cI .i64)) :: .i .i64 ((Y4.Triangles.getD Y1.toNat default).length : Int) :: .b (((Y4.Triangles.getD Y1.toNat default).length : Int) != 3) :: .b (((Y4.Triangles.getD Y1.toNat default).length : Int) != 3) :: .sl ((Y4.Triangles.getD Y1.toNat default).map (cI .i64)) :: .ref [.i .i64 ((Y4.Triangles.getD Y1.toNat default).getD 0 default)] 0 :: .i .i64 ((Y4.Triangles.getD Y1.toNat default).getD 0 default) :: .sl ((Y4.Triangles.getD Y1.toNat default).map (cI .i64)) :: .ref [.i .i64 ((Y4.Triangles.getD Y1.toNat default).getD 1 default)] 0 :: .i .i64 ((Y4.Triangles.getD Y1.toNat default).getD 1 default) :: .b (((Y4.Triangles.getD Y1.toNat default).getD 0 default) == ((Y4.Triangles.getD Y1.toNat default).getD 1 default)) :: .b (((Y4.Triangles.getD Y1.toNat default).getD 0 default) == ((Y4.Triangles.getD Y1.toNat default).getD 1 default)) :: .b (((Y4.Triangles.getD Y1.toNat default).getD 0 default) == ((Y4.Triangles.getD Y1.toNat default).getD 1 default)) :: .sl ((Y4.Triangles.getD Y1.toNat default).map (cI .i64)) :: .ref [.i .i64 ((Y4.Triangles.getD Y1.toNat default).getD 1 default)] 0 :: .i .i64 ((Y4.Triangles.getD Y1.toNat default).getD 1 default) :: .sl ((Y4.Triangles.getD Y1.toNat default).map (cI .i64)) :: .ref [.i .i64 ((Y4.Triangles.getD Y1.toNat default).getD 2 default)] 0 :: .i .i64 ((Y4.Triangles.getD Y1.toNat default).getD 2 default) :: .b (((Y4.Triangles.getD Y1.toNat default).getD 1 default) == ((Y4.Triangles.getD Y1.toNat default).getD 2 default)) :: .b (((Y4.Triangles.getD Y1.toNat default).getD 1 default) == ((Y4.Triangles.getD Y1.toNat default).getD 2 default)) :: .b (((Y4.Triangles.getD Y1.toNat default).getD 1 default) == ((Y4.Triangles.getD Y1.toNat default).getD 2 default)) :: .sl ((Y4.Triangles.getD Y1.toNat default).map (cI .i64)) :: .ref [.i .i64 ((Y4.Triangles.getD Y1.toNat default).getD 0 default)] 0 :: .i .i64 ((Y4.Triangles.getD Y1.toNat default).getD 0 default) :: .sl ((Y4.Triangles.getD Y1.toNat default).map (cI .i64)) :: .ref [.i .i64 ((Y4.Triangles.getD Y1.toNat default).getD 2 default)] 0 :: .i .i64 ((Y4.Triangles.getD Y1.toNat default).getD 2 default) :: .b (((Y4.Triangles.getD Y1.toNat default).getD 0 default) == ((Y4.Triangles.getD Y1.toNat default).getD 2 default)) :: .b (((Y4.Triangles.getD Y1.toNat default).getD 0 default) == ((Y4.Triangles.getD Y1.toNat default).getD 2 default)) :: .sl ((Y4.Triangles.getD Y1.toNat default).map (cI .i64)) :: .i .i64 ((Y4.Triangles.getD Y1.toNat default).length : Int) :: .i .i64 Y6 :: an 10 [], [.box 38 [.sl (Y4.Places.map GVector.cells), .sl (Y4.Triangles.map (cL (cI .i64)))]]⟩
def Z5E : List Bool := (mR false [0, 2, 1, 1, 1, 1, 2, 51, 10])
def Zbt : List Bool := (mR false [0, 2, 1, 1, 1, 1, 2, 50, 11])
theorem Z8X (Y4 : GMesh) (Y1 : Int) (hp0 : Y4.Places.length ≤ 1073741824) (hp1 : Y4.Triangles.length ≤ 1073741824) (hp2 : ∀ t ∈ Y4.Triangles, t.length ≤ 1073741824) (Z49 : (decide ((Y4.Places.length : Int) > 64)) = false) (Z4a : (decide ((Y4.Triangles.length : Int) > 128)) = false) (Z4b : 0 ≤ Y1) (Zgu : (((Y4.Triangles.getD Y1.toNat default).length : Int) != 3) = false) (Zgv : (decide ((Y4.Places.length : Int) > 64)) = false) (Zgw : (decide ((Y4.Triangles.length : Int) > 128)) = false) (Zgx : (decide (Y1 < (Y4.Triangles.length : Int))) = true) : ∀ (k : Nat) (Y6 : Int) (Z7P : 0 ≤ Y6) (hk : (((Y4.Triangles.getD Y1.toNat default).length : Int) - Y6).toNat < k), Lp prog 0 (sub (bodyOf f105) [1, 1, 1, 0, 1, 0, 0, 1, 1, 0, 0, 1, 1, 1, 0, 0]) (Zcr Y4 Y1 Y6) (Z5g Y4 Y1 (Z24 Y4 Y1 k Y6)).1 (Z5g Y4 Y1 (Z24 Y4 Y1 k Y6)).2 := by
 intro k
 induction k with
 | zero => intro Y6 Z7P hk; exact absurd hk (Nat.not_lt_zero _)
 | succ k ih =>
  intro Y6 Z7P hk
  cases YD : (decide (Y6 < ((Y4.Triangles.getD Y1.toNat default).length : Int))) with
  | true =>
   have YB := of_decide_eq_true YD
   have Y15 : (0 : Int) ≤ Y6 := (by assumption)
   have Y16 : Y6 < ((Y4.Triangles.getD Y1.toNat default).length : Int) := (by assumption)
   have p {a C} (s : Scr a C) := sB YD <| sG (cI .i64) (Y4.Triangles.getD Y1.toNat default) Y6 Y15 Y16 <| sW .i64 ((Y4.Places.length : Int) - 1) <| sF (Z7o ((Y4.Triangles.getD Y1.toNat default).getD Y6.toNat default) 0 (IntKind.wrap .i64 ((Y4.Places.length : Int) - 1))) <| s
   cases YV : (Z1n ((Y4.Triangles.getD Y1.toNat default).getD Y6.toNat default) 0 (IntKind.wrap .i64 ((Y4.Places.length : Int) - 1))) with
   | true =>
    have Y12 : (-9223372036854775808 : Int) ≤ (Y6 + 1) := by clear p; exact (by omega)
    have Y10 : (Y6 + 1) ≤ (9223372036854775807 : Int) := by clear p; exact (by simp_all <;> omega)
    have e : Z24 Y4 Y1 (k + 1) Y6 = (Z24 Y4 Y1 k (Y6 + 1)) := by simp only [Z24, YD, YV, cond_true]
    rw [e]
    exact nextR E0Ok Z4 [] Z5E [0] (ih (Y6 + 1) (show 0 ≤ (Y6 + 1) from (by omega)) (by omega)) (p (sB' YV <| sI (Y6 + 1) Y12 Y10 <| sN)) (by kernel_rfl)
   | false =>
    have e : Z24 Y4 Y1 (k + 1) Y6 = (.inl ()) := by simp only [Z24, YD, YV, cond_true, cond_false]
    rw [e]
    exact outR (e := .ret) E0Ok Z4 [] (mR false [2, 1, 66]) [] (p (sB' YV <| sN)) (by kernel_rfl) (by intro h; cases h)
  | false =>
   have YB := of_decide_eq_false YD
   have e : Z24 Y4 Y1 (k + 1) Y6 = (.inr ()) := by simp only [Z24, YD, cond_false]
   rw [e]
   exact outR (e := (.exit 2)) E0Ok Z4 [] Zbt [0] (sB YD <| sN) (by kernel_rfl) (by intro h; cases h)
def Z3J (Y4 : GMesh) (Y1 : Int) : (Unit) ⊕ (Unit) := (Z24 Y4 Y1 ((((Y4.Triangles.getD Y1.toNat default).length : Int) - 0).toNat + 1) 0)
def Zw (Y4 : GMesh) : Nat → Int → (Unit) ⊕ (Unit)
  | 0, _ => .inl default
  | k + 1, Y1 => (cond (decide (Y1 < (Y4.Triangles.length : Int)))
    (cond (((Y4.Triangles.getD Y1.toNat default).length : Int) != 3)
      (.inl ())
      (cond (((Y4.Triangles.getD Y1.toNat default).getD 0 default) == ((Y4.Triangles.getD Y1.toNat default).getD 1 default))
        (.inl ())
        (cond (((Y4.Triangles.getD Y1.toNat default).getD 1 default) == ((Y4.Triangles.getD Y1.toNat default).getD 2 default))
          (.inl ())
          (cond (((Y4.Triangles.getD Y1.toNat default).getD 0 default) == ((Y4.Triangles.getD Y1.toNat default).getD 2 default))
            (.inl ())
            (match (Z3J Y4 Y1) with
              | .inl r_6 => (.inl ())
              | .inr r_6 => (Zw Y4 k (Y1 + 1)))))))
    (.inr ()))
def Z5h (Y4 : GMesh) : (Unit) ⊕ (Unit) → Ex × St
  | .inl r => (.ret, ⟨.any :: .any :: .b false :: an 66 [], []⟩)
  | .inr r => ((.exit 0), ⟨.agg [.sl (Y4.Places.map GVector.cells), .sl (Y4.Triangles.map (cL (cI .i64)))] :: .ptr 0 0 0 :: .any :: .i .i64 (Y4.Places.length : Int) :: an 4 (.ptr 0 0 0 :: .sl (Y4.Places.map GVector.cells) :: .i .i64 (Y4.Places.length : Int) :: .i .i64 (Y4.Places.length : Int) :: .b (decide ((Y4.Places.length : Int) > 64)) :: .b (decide ((Y4.Places.length : Int) > 64)) :: .ptr 0 0 1 :: .sl (Y4.Triangles.map (cL (cI .i64))) :: .i .i64 (Y4.Triangles.length : Int) :: .b (decide ((Y4.Triangles.length : Int) > 128)) :: .b (decide ((Y4.Triangles.length : Int) > 128)) :: .ptr 0 0 1 :: .sl (Y4.Triangles.map (cL (cI .i64))) :: an 48 []), [.box 38 [.sl (Y4.Places.map GVector.cells), .sl (Y4.Triangles.map (cL (cI .i64)))]]⟩)
def Zcs (Y4 : GMesh) (Y1 : Int) : St := ⟨.agg [.sl (Y4.Places.map GVector.cells), .sl (Y4.Triangles.map (cL (cI .i64)))] :: .ptr 0 0 0 :: .any :: .i .i64 (Y4.Places.length : Int) :: an 4 (.ptr 0 0 0 :: .sl (Y4.Places.map GVector.cells) :: .i .i64 (Y4.Places.length : Int) :: .i .i64 (Y4.Places.length : Int) :: .b (decide ((Y4.Places.length : Int) > 64)) :: .b (decide ((Y4.Places.length : Int) > 64)) :: .ptr 0 0 1 :: .sl (Y4.Triangles.map (cL (cI .i64))) :: .i .i64 (Y4.Triangles.length : Int) :: .b (decide ((Y4.Triangles.length : Int) > 128)) :: .b (decide ((Y4.Triangles.length : Int) > 128)) :: .ptr 0 0 1 :: .sl (Y4.Triangles.map (cL (cI .i64))) :: .i .i64 (Y4.Triangles.length : Int) :: .i .i64 Y1 :: an 46 []), [.box 38 [.sl (Y4.Places.map GVector.cells), .sl (Y4.Triangles.map (cL (cI .i64)))]]⟩
theorem Z8Y (Y4 : GMesh) (hp0 : Y4.Places.length ≤ 1073741824) (hp1 : Y4.Triangles.length ≤ 1073741824) (hp2 : ∀ t ∈ Y4.Triangles, t.length ≤ 1073741824) (Z49 : (decide ((Y4.Places.length : Int) > 64)) = false) (Z4a : (decide ((Y4.Triangles.length : Int) > 128)) = false) : ∀ (k : Nat) (Y1 : Int) (Z4b : 0 ≤ Y1) (hk : ((Y4.Triangles.length : Int) - Y1).toNat < k), Lp prog 0 (sub (bodyOf f105) [1, 1, 1, 0, 1, 0, 0]) (Zcs Y4 Y1) (Z5h Y4 (Zw Y4 k Y1)).1 (Z5h Y4 (Zw Y4 k Y1)).2 := by
 intro k
 induction k with
 | zero => intro Y1 Z4b hk; exact absurd hk (Nat.not_lt_zero _)
 | succ k ih =>
  intro Y1 Z4b hk
  cases Yg : (decide (Y1 < (Y4.Triangles.length : Int))) with
  | true =>
   have Yt := of_decide_eq_true Yg
   have YA : (0 : Int) ≤ Y1 := (by assumption)
   have YE : Y1 < (Y4.Triangles.length : Int) := (by assumption)
   have p {a C} (s : Scr a C) := sB Yg <| sG (cL (cI .i64)) Y4.Triangles Y1 YA YE <| sK [28, 28] <| sZ (cI .i64) (Y4.Triangles.getD Y1.toNat default) <| s
   cases Yq : (((Y4.Triangles.getD Y1.toNat default).length : Int) != 3) with
   | true =>
    have Y11 := bne_iff_ne.1 Yq
    have e : Zw Y4 (k + 1) Y1 = (.inl ()) := by simp only [Zw, Yg, Yq, cond_true]
    rw [e]
    exact outR (e := .ret) E0Ok Z4 [] (mR false [2, 1, 66]) [] (p (sB Yq <| sB Yq <| sB Yq <| sB Yq <| sB Yq <| sB Yq <| sB Yq <| sB Yq <| sB (show true = true from rfl) <| sB (show true = true from rfl) <| sB (show true = true from rfl) <| sB (show true = true from rfl) <| sB (show true = true from rfl) <| sB (show true = true from rfl) <| sB (show true = true from rfl) <| sB (show true = true from rfl) <| sB (show true = true from rfl) <| sB (show true = true from rfl) <| sB (show true = true from rfl) <| sB (show true = true from rfl) <| sB (show true = true from rfl) <| sB (show true = true from rfl) <| sB (show true = true from rfl) <| sB (show true = true from rfl) <| sB (show true = true from rfl) <| sN)) (by kernel_rfl) (by intro h; cases h)
   | false =>
    have Y11 := bne_eq_false_iff_eq.1 Yq
    have YG : (0 : Int) ≤ 0 := by clear p; exact (by omega)
    have YH : 0 < ((Y4.Triangles.getD Y1.toNat default).length : Int) := by clear p; exact (by omega)
    have YL : (0 : Int) ≤ 1 := by clear p; exact (by omega)
    have YQ : 1 < ((Y4.Triangles.getD Y1.toNat default).length : Int) := by clear p; exact (by omega)
    have q {a C} (s : Scr a C) := p (sB Yq <| sB Yq <| sG (cI .i64) (Y4.Triangles.getD Y1.toNat default) 0 YG YH <| sB Yq <| sB Yq <| sB Yq <| sG (cI .i64) (Y4.Triangles.getD Y1.toNat default) 1 YL YQ <| sB Yq <| sB Yq <| sB Yq <| s)
    clear p
    cases YM : (((Y4.Triangles.getD Y1.toNat default).getD 0 default) == ((Y4.Triangles.getD Y1.toNat default).getD 1 default)) with
    | true =>
     have Y1e := eq_of_beq YM
     have e : Zw Y4 (k + 1) Y1 = (.inl ()) := by simp only [Zw, Yg, Yq, YM, cond_true, cond_false]
     rw [e]
     exact outR (e := .ret) E0Ok Z4 [] (mR false [2, 1, 66]) [] (q (sB YM <| sB YM <| sB YM <| sB YM <| sB YM <| sB YM <| sB YM <| sB YM <| sB (show true = true from rfl) <| sB (show true = true from rfl) <| sB (show true = true from rfl) <| sB (show true = true from rfl) <| sB (show true = true from rfl) <| sB (show true = true from rfl) <| sB (show true = true from rfl) <| sB (show true = true from rfl) <| sB (show true = true from rfl) <| sN)) (by kernel_rfl) (by intro h; cases h)
    | false =>
     have Y1e := ne_of_beq_false YM
     have YW : (0 : Int) ≤ 2 := by clear q; exact (by omega)
     have y_7 : 2 < ((Y4.Triangles.getD Y1.toNat default).length : Int) := by clear q; exact (by omega)
     have p {a C} (s : Scr a C) := q (sB YM <| sB YM <| sG (cI .i64) (Y4.Triangles.getD Y1.toNat default) 1 YL YQ <| sB YM <| sB YM <| sB YM <| sG (cI .i64) (Y4.Triangles.getD Y1.toNat default) 2 YW y_7 <| sB YM <| sB YM <| sB YM <| s)
     clear q
     cases YX : (((Y4.Triangles.getD Y1.toNat default).getD 1 default) == ((Y4.Triangles.getD Y1.toNat default).getD 2 default)) with
     | true =>
      have Y1x := eq_of_beq YX
      have e : Zw Y4 (k + 1) Y1 = (.inl ()) := by simp only [Zw, Yg, Yq, YM, YX, cond_true, cond_false]
      rw [e]
      exact outR (e := .ret) E0Ok Z4 [] (mR false [2, 1, 66]) [] (p (sB YX <| sB YX <| sB YX <| sB YX <| sB YX <| sB YX <| sB YX <| sB YX <| sB (show true = true from rfl) <| sN)) (by kernel_rfl) (by intro h; cases h)
     | false =>
      have Y1x := ne_of_beq_false YX
      have q {a C} (s : Scr a C) := p (sB YX <| sB YX <| sG (cI .i64) (Y4.Triangles.getD Y1.toNat default) 0 YG YH <| sB YX <| sB YX <| sB YX <| sG (cI .i64) (Y4.Triangles.getD Y1.toNat default) 2 YW y_7 <| sB YX <| sB YX <| sB YX <| s)
      clear p
      cases h_4 : (((Y4.Triangles.getD Y1.toNat default).getD 0 default) == ((Y4.Triangles.getD Y1.toNat default).getD 2 default)) with
      | true =>
       have gh_4 := eq_of_beq h_4
       have e : Zw Y4 (k + 1) Y1 = (.inl ()) := by simp only [Zw, Yg, Yq, YM, YX, h_4, cond_true, cond_false]
       rw [e]
       exact outR (e := .ret) E0Ok Z4 [] (mR false [2, 1, 66]) [] (q (sB h_4 <| sN)) (by kernel_rfl) (by intro h; cases h)
      | false =>
       have gh_4 := ne_of_beq_false h_4
       have p {a C} (s : Scr a C) := q (sB h_4 <| sZ (cI .i64) (Y4.Triangles.getD Y1.toNat default) <| s)
       clear q
       cases h_5 : (Z3J Y4 Y1) with
       | inl r_6 =>
        have e : Zw Y4 (k + 1) Y1 = (.inl ()) := by simp only [Zw, Yg, Yq, YM, YX, h_4, h_5, cond_true, cond_false]
        rw [e]
        exact outR (e := .ret) E0Ok Z4 [] (mR false [2, 1, 66]) [] (p (sL Z5E 1 (lp_val (Z5g Y4 Y1) (x := (Z3J Y4 Y1)) (Z8X Y4 Y1 hp0 hp1 hp2 Z49 Z4a Z4b Yq Z49 Z4a Yg ((((Y4.Triangles.getD Y1.toNat default).length : Int) - 0).toNat + 1) 0 (show 0 ≤ 0 from (by assumption)) (Nat.lt_succ_self _)) h_5) <| sN)) (by kernel_rfl) (by intro h; cases h)
       | inr r_6 =>
        have y_8 : (-9223372036854775808 : Int) ≤ (Y1 + 1) := by clear p; exact (by omega)
        have y_9 : (Y1 + 1) ≤ (9223372036854775807 : Int) := by clear p; exact (by omega)
        have e : Zw Y4 (k + 1) Y1 = (Zw Y4 k (Y1 + 1)) := by simp only [Zw, Yg, Yq, YM, YX, h_4, h_5, cond_true, cond_false]
        rw [e]
        exact nextR E0Ok Z4 [] (mR false [0, 2, 1, 1, 4, 15, 46]) [0] (ih (Y1 + 1) (show 0 ≤ (Y1 + 1) from (by omega)) (by omega)) (p (sL Z5E 1 (lp_val (Z5g Y4 Y1) (x := (Z3J Y4 Y1)) (Z8X Y4 Y1 hp0 hp1 hp2 Z49 Z4a Z4b Yq Z49 Z4a Yg ((((Y4.Triangles.getD Y1.toNat default).length : Int) - 0).toNat + 1) 0 (show 0 ≤ 0 from (by assumption)) (Nat.lt_succ_self _)) h_5) <| sI (Y1 + 1) y_8 y_9 <| sN)) (by kernel_rfl)
  | false =>
   have Yt := of_decide_eq_false Yg
   have e : Zw Y4 (k + 1) Y1 = (.inr ()) := by simp only [Zw, Yg, cond_false]
   rw [e]
   exact outR (e := (.exit 0)) E0Ok Z4 [] (mR false [0, 2, 1, 1, 4, 13, 48]) [0] (sB Yg <| sN) (by kernel_rfl) (by intro h; cases h)
def Z4c (Y4 : GMesh) : (Unit) ⊕ (Unit) := (Zw Y4 (((Y4.Triangles.length : Int) - 0).toNat + 1) 0)
def Z1M (Y4 : GMesh) : Bool := (cond (decide ((Y4.Places.length : Int) > 64))
  false
  (cond (decide ((Y4.Triangles.length : Int) > 128))
    false
    (match (Z4c Y4) with
      | .inl r3 => false
      | .inr r3 => true)))
theorem Zei (Y4 : GMesh) (hp0 : Y4.Places.length ≤ 1073741824) (hp1 : Y4.Triangles.length ≤ 1073741824) (hp2 : ∀ t ∈ Y4.Triangles, t.length ≤ 1073741824)  : Fn prog 105 [.agg [.sl (Y4.Places.map GVector.cells), .sl (Y4.Triangles.map (cL (cI .i64)))]] (.b (Z1M Y4)) [] := by
 have p {a C} (s : Scr a C) := sZ GVector.cells Y4.Places <| s
 cases h0 : (decide ((Y4.Places.length : Int) > 64)) with
 | true =>
  have gh0 := of_decide_eq_true h0
  refine fnS E0Ok Z4 (c := bodyOf f105) [] (.b false) [] func105 (p (sB h0 <| sB h0 <| sB h0 <| sB h0 <| sB h0 <| sB (show true = true from rfl) <| sK [] sN)) rfl (by kernel_rfl) (by kernel_rfl) rfl ?_ ?_
  · simp only [Z1M, h0, cond_true]
  · rfl
 | false =>
  have gh0 := of_decide_eq_false h0
  have q {a C} (s : Scr a C) := p (sB h0 <| sB h0 <| sB h0 <| sZ (cL (cI .i64)) Y4.Triangles <| sB h0 <| sB h0 <| s)
  clear p
  cases h1 : (decide ((Y4.Triangles.length : Int) > 128)) with
  | true =>
   have gh1 := of_decide_eq_true h1
   refine fnS E0Ok Z4 (c := bodyOf f105) [] (.b false) [] func105 (q (sB h1 <| sK [] sN)) rfl (by kernel_rfl) (by kernel_rfl) rfl ?_ ?_
   · simp only [Z1M, h0, h1, cond_true, cond_false]
   · rfl
  | false =>
   have gh1 := of_decide_eq_false h1
   have p {a C} (s : Scr a C) := q (sB h1 <| sZ (cL (cI .i64)) Y4.Triangles <| s)
   clear q
   cases h2 : (Z4c Y4) with
   | inl r3 =>
    refine fnS E0Ok Z4 (c := bodyOf f105) [] (.b false) [] func105 (p (sL (mR false [0, 2, 1, 1, 4, 15, 46]) 1 (lp_val (Z5h Y4) (x := (Z4c Y4)) (Z8Y Y4 hp0 hp1 hp2 h0 h1 (((Y4.Triangles.length : Int) - 0).toNat + 1) 0 (show 0 ≤ 0 from (by omega)) (Nat.lt_succ_self _)) h2) <| sK [] sN)) rfl (by kernel_rfl) (by kernel_rfl) rfl ?_ ?_
    · simp only [Z1M, h0, h1, h2, cond_false]
    · rfl
   | inr r3 =>
    refine fnS E0Ok Z4 (c := bodyOf f105) [] (.b true) [] func105 (p (sL (mR false [0, 2, 1, 1, 4, 15, 46]) 1 (lp_val (Z5h Y4) (x := (Z4c Y4)) (Z8Y Y4 hp0 hp1 hp2 h0 h1 (((Y4.Triangles.length : Int) - 0).toNat + 1) 0 (show 0 ≤ 0 from (by omega)) (Nat.lt_succ_self _)) h2) <| sK [] sN)) rfl (by kernel_rfl) (by kernel_rfl) rfl ?_ ?_
    · simp only [Z1M, h0, h1, h2, cond_false]
    · rfl
theorem triB (t : List Int) (n : Int) : (!((t.length : Int) != 3) && (!(t.getD 0 default == t.getD 1 default) && (!(t.getD 1 default == t.getD 2 default) && (!(t.getD 0 default == t.getD 2 default) && t.all fun x => Z1n x 0 (IntKind.wrap .i64 (n - 1)))))) = ZL t n := by
  unfold ZL
  cases hl : ((t.length : Int) != 3) with
  | true => rfl
  | false =>
    have hl3 : t.length = 3 := by simp at hl; omega
    match t, hl3 with
    | [a, b, c], _ =>
      simp only [List.getD_cons_zero, List.getD_cons_succ, List.all_cons, List.all_nil, Bool.and_true]
      rw [show Z1n = ZK from rfl]
      cases (a == b) <;> cases (b == c) <;> cases (a == c) <;> cases ZK a 0 (IntKind.wrap .i64 (n - 1)) <;> cases ZK b 0 (IntKind.wrap .i64 (n - 1)) <;> cases ZK c 0 (IntKind.wrap .i64 (n - 1)) <;> rfl
theorem Zg1 (m : GMesh) (k : Nat) (i : Int) : Zw m (k + 1) i = cond (decide (i < (m.Triangles.length : Int))) (cond (ZL (m.Triangles.getD i.toNat default) (m.Places.length : Int)) (Zw m k (i + 1)) (.inl ())) (.inr ()) := by
  rw [Zw, ← triB]
  have hin : Z3J m i = cond ((m.Triangles.getD i.toNat default).all fun x => Z1n x 0 (IntKind.wrap .i64 ((m.Places.length : Int) - 1))) (.inr ()) (.inl ()) := by
    unfold Z3J
    exact all_from (a := m.Triangles.getD i.toNat default) (p := fun x => Z1n x 0 (IntKind.wrap .i64 ((m.Places.length : Int) - 1))) (lo := Z24 m i) (x := ()) (y := ()) (fun k i => rfl)
  rw [hin]
  generalize m.Triangles.getD i.toNat default = t
  generalize (t.all fun x => Z1n x 0 (IntKind.wrap .i64 ((m.Places.length : Int) - 1))) = q
  cases ((t.length : Int) != 3) <;> cases (t.getD 0 default == t.getD 1 default) <;> cases (t.getD 1 default == t.getD 2 default) <;> cases (t.getD 0 default == t.getD 2 default) <;> cases q <;> rfl
theorem Zg2 (m : GMesh) : Z1M m = Z1m m := by
  rw [Z9f]
  unfold Z1M Z4c
  rw [all_from (a := m.Triangles) (p := fun t => ZL t (m.Places.length : Int)) (lo := Zw m) (x := ()) (y := ()) (Zg1 m)]
  cases (m.Triangles.all fun t => ZL t (m.Places.length : Int)) <;> rfl
def ZG (Y3 : GBody) : Nat → Int → (Unit) ⊕ (Unit)
  | 0, _ => .inl default
  | k + 1, Y1 => (cond (decide (Y1 < (Y3.Springs.length : Int)))
    (cond (Z1n ((Y3.Springs.getD Y1.toNat default).A) 0 (IntKind.wrap .i64 ((Y3.Mesh.Places.length : Int) - 1)))
      (cond (Z1n ((Y3.Springs.getD Y1.toNat default).B) 0 (IntKind.wrap .i64 ((Y3.Mesh.Places.length : Int) - 1)))
        (cond ((Y3.Springs.getD Y1.toNat default).A == (Y3.Springs.getD Y1.toNat default).B)
          (.inl ())
          (cond (fcmp .geq .f32 ((Y3.Springs.getD Y1.toNat default).Long) 0)
            (ZG Y3 k (Y1 + 1))
            (.inl ())))
        (.inl ()))
      (.inl ()))
    (.inr ()))
def Z5i (Y3 : GBody) : (Unit) ⊕ (Unit) → Ex × St
  | .inl r => (.ret, ⟨.any :: .any :: .b false :: an 59 [], []⟩)
  | .inr r => ((.exit 0), ⟨.agg [.sl (Y3.Mesh.Places.map GVector.cells), .sl (Y3.Mesh.Triangles.map (cL (cI .i64))), .sl (Y3.Springs.map GSpring.cells), .f .f32 Y3.Film, .f .f32 Y3.Bend, .sl (Y3.Weights.map (cF .f32)), .f .f32 Y3.Fall.X, .f .f32 Y3.Fall.Y, .f .f32 Y3.Fall.Z] :: .ptr 0 0 0 :: .any :: .i .i64 (Y3.Mesh.Places.length : Int) :: .any :: .any :: .ptr 0 0 0 :: .ptr 0 0 0 :: .sl (Y3.Mesh.Places.map GVector.cells) :: .i .i64 (Y3.Mesh.Places.length : Int) :: .ptr 0 0 0 :: .agg [.sl (Y3.Mesh.Places.map GVector.cells), .sl (Y3.Mesh.Triangles.map (cL (cI .i64)))] :: .b (Z1M Y3.Mesh) :: .b (!(Z1M Y3.Mesh)) :: .b (!(Z1M Y3.Mesh)) :: .ptr 0 0 2 :: .sl (Y3.Springs.map GSpring.cells) :: .i .i64 (Y3.Springs.length : Int) :: .b (decide ((Y3.Springs.length : Int) > 200)) :: .b (decide ((Y3.Springs.length : Int) > 200)) :: .b (decide ((Y3.Springs.length : Int) > 200)) :: .ptr 0 0 5 :: .sl (Y3.Weights.map (cF .f32)) :: .i .i64 (Y3.Weights.length : Int) :: .i .i64 (Y3.Mesh.Places.length : Int) :: .b ((Y3.Weights.length : Int) != (Y3.Mesh.Places.length : Int)) :: .b ((Y3.Weights.length : Int) != (Y3.Mesh.Places.length : Int)) :: .ptr 0 0 2 :: .sl (Y3.Springs.map GSpring.cells) :: an 33 [], [.box 42 [.sl (Y3.Mesh.Places.map GVector.cells), .sl (Y3.Mesh.Triangles.map (cL (cI .i64))), .sl (Y3.Springs.map GSpring.cells), .f .f32 Y3.Film, .f .f32 Y3.Bend, .sl (Y3.Weights.map (cF .f32)), .f .f32 Y3.Fall.X, .f .f32 Y3.Fall.Y, .f .f32 Y3.Fall.Z]]⟩)
def Zct (Y3 : GBody) (Y1 : Int) : St := ⟨.agg [.sl (Y3.Mesh.Places.map GVector.cells), .sl (Y3.Mesh.Triangles.map (cL (cI .i64))), .sl (Y3.Springs.map GSpring.cells), .f .f32 Y3.Film, .f .f32 Y3.Bend, .sl (Y3.Weights.map (cF .f32)), .f .f32 Y3.Fall.X, .f .f32 Y3.Fall.Y, .f .f32 Y3.Fall.Z] :: .ptr 0 0 0 :: .any :: .i .i64 (Y3.Mesh.Places.length : Int) :: .any :: .any :: .ptr 0 0 0 :: .ptr 0 0 0 :: .sl (Y3.Mesh.Places.map GVector.cells) :: .i .i64 (Y3.Mesh.Places.length : Int) :: .ptr 0 0 0 :: .agg [.sl (Y3.Mesh.Places.map GVector.cells), .sl (Y3.Mesh.Triangles.map (cL (cI .i64)))] :: .b (Z1M Y3.Mesh) :: .b (!(Z1M Y3.Mesh)) :: .b (!(Z1M Y3.Mesh)) :: .ptr 0 0 2 :: .sl (Y3.Springs.map GSpring.cells) :: .i .i64 (Y3.Springs.length : Int) :: .b (decide ((Y3.Springs.length : Int) > 200)) :: .b (decide ((Y3.Springs.length : Int) > 200)) :: .b (decide ((Y3.Springs.length : Int) > 200)) :: .ptr 0 0 5 :: .sl (Y3.Weights.map (cF .f32)) :: .i .i64 (Y3.Weights.length : Int) :: .i .i64 (Y3.Mesh.Places.length : Int) :: .b ((Y3.Weights.length : Int) != (Y3.Mesh.Places.length : Int)) :: .b ((Y3.Weights.length : Int) != (Y3.Mesh.Places.length : Int)) :: .ptr 0 0 2 :: .sl (Y3.Springs.map GSpring.cells) :: .i .i64 (Y3.Springs.length : Int) :: .i .i64 Y1 :: an 31 [], [.box 42 [.sl (Y3.Mesh.Places.map GVector.cells), .sl (Y3.Mesh.Triangles.map (cL (cI .i64))), .sl (Y3.Springs.map GSpring.cells), .f .f32 Y3.Film, .f .f32 Y3.Bend, .sl (Y3.Weights.map (cF .f32)), .f .f32 Y3.Fall.X, .f .f32 Y3.Fall.Y, .f .f32 Y3.Fall.Z]]⟩
theorem Z8Z (Y3 : GBody) (hp0 : Y3.Mesh.Places.length ≤ 1073741824) (hp1 : Y3.Mesh.Triangles.length ≤ 1073741824) (hp2 : ∀ t ∈ Y3.Mesh.Triangles, t.length ≤ 1073741824) (hp3 : Y3.Springs.length ≤ 1073741824) (hp4 : Y3.Weights.length ≤ 1073741824) (Zgy : ((Y3.Weights.length : Int) != (Y3.Mesh.Places.length : Int)) = false) (Zgz : (decide ((Y3.Springs.length : Int) > 200)) = false) (ZgA : (Z1M Y3.Mesh) = true) : ∀ (k : Nat) (Y1 : Int) (Z7Q : 0 ≤ Y1) (hk : ((Y3.Springs.length : Int) - Y1).toNat < k), Lp prog 0 (sub (bodyOf f56) [1, 1, 1, 0, 1, 0, 0]) (Zct Y3 Y1) (Z5i Y3 (ZG Y3 k Y1)).1 (Z5i Y3 (ZG Y3 k Y1)).2 := by
 intro k
 induction k with
 | zero => intro Y1 Z7Q hk; exact absurd hk (Nat.not_lt_zero _)
 | succ k ih =>
  intro Y1 Z7Q hk
  cases Yg : (decide (Y1 < (Y3.Springs.length : Int))) with
  | true =>
   have Yt := of_decide_eq_true Yg
   have YA : (0 : Int) ≤ Y1 := (by assumption)
   have YE : Y1 < (Y3.Springs.length : Int) := (by assumption)
   have p {a C} (s : Scr a C) := sB Yg <| sG GSpring.cells Y3.Springs Y1 YA YE <| sW .i64 ((Y3.Mesh.Places.length : Int) - 1) <| sF (Z7o ((Y3.Springs.getD Y1.toNat default).A) 0 (IntKind.wrap .i64 ((Y3.Mesh.Places.length : Int) - 1))) <| s
   cases Yq : (Z1n ((Y3.Springs.getD Y1.toNat default).A) 0 (IntKind.wrap .i64 ((Y3.Mesh.Places.length : Int) - 1))) with
   | true =>
    have q {a C} (s : Scr a C) := p (sB' Yq <| sB' Yq <| sB' Yq <| sB' Yq <| sW .i64 ((Y3.Mesh.Places.length : Int) - 1) <| sB' Yq <| sF (Z7o ((Y3.Springs.getD Y1.toNat default).B) 0 (IntKind.wrap .i64 ((Y3.Mesh.Places.length : Int) - 1))) <| sB' Yq <| sB' Yq <| s)
    clear p
    cases YM : (Z1n ((Y3.Springs.getD Y1.toNat default).B) 0 (IntKind.wrap .i64 ((Y3.Mesh.Places.length : Int) - 1))) with
    | true =>
     have p {a C} (s : Scr a C) := q (sB' YM <| sB' YM <| sB' YM <| sB' YM <| sB' YM <| sB' YM <| s)
     clear q
     cases YX : ((Y3.Springs.getD Y1.toNat default).A == (Y3.Springs.getD Y1.toNat default).B) with
     | true =>
      have Y1x := eq_of_beq YX
      have e : ZG Y3 (k + 1) Y1 = (.inl ()) := by simp only [ZG, Yg, Yq, YM, YX, cond_true]
      rw [e]
      exact outR (e := .ret) E0Ok Z4 [] (mR false [2, 1, 59]) [] (p (sB YX <| sB YX <| sB YX <| sB YX <| sB YX <| sB (show true = true from rfl) <| sN)) (by kernel_rfl) (by intro h; cases h)
     | false =>
      have Y1x := ne_of_beq_false YX
      have q {a C} (s : Scr a C) := p (sB YX <| sB YX <| sB YX <| sB YX <| sB YX <| s)
      clear p
      cases h_4 : (fcmp .geq .f32 ((Y3.Springs.getD Y1.toNat default).Long) 0) with
      | true =>
       have YG : (-9223372036854775808 : Int) ≤ (Y1 + 1) := by clear q; exact (by omega)
       have YH : (Y1 + 1) ≤ (9223372036854775807 : Int) := by clear q; exact (by omega)
       have e : ZG Y3 (k + 1) Y1 = (ZG Y3 k (Y1 + 1)) := by simp only [ZG, Yg, Yq, YM, YX, h_4, cond_true, cond_false]
       rw [e]
       exact nextR E0Ok Z4 [] (mR false [0, 2, 1, 1, 2, 25, 31]) [0] (ih (Y1 + 1) (show 0 ≤ (Y1 + 1) from (by omega)) (by omega)) (q (sB' h_4 <| sI (Y1 + 1) YG YH <| sN)) (by kernel_rfl)
      | false =>
       have e : ZG Y3 (k + 1) Y1 = (.inl ()) := by simp only [ZG, Yg, Yq, YM, YX, h_4, cond_true, cond_false]
       rw [e]
       exact outR (e := .ret) E0Ok Z4 [] (mR false [2, 1, 59]) [] (q (sB' h_4 <| sN)) (by kernel_rfl) (by intro h; cases h)
    | false =>
     have e : ZG Y3 (k + 1) Y1 = (.inl ()) := by simp only [ZG, Yg, Yq, YM, cond_true, cond_false]
     rw [e]
     exact outR (e := .ret) E0Ok Z4 [] (mR false [2, 1, 59]) [] (q (sB' YM <| sB' YM <| sB' YM <| sB' YM <| sB' YM <| sB' YM <| sB (show true = true from rfl) <| sB (show true = true from rfl) <| sB (show true = true from rfl) <| sB (show true = true from rfl) <| sB (show true = true from rfl) <| sB (show true = true from rfl) <| sN)) (by kernel_rfl) (by intro h; cases h)
   | false =>
    have e : ZG Y3 (k + 1) Y1 = (.inl ()) := by simp only [ZG, Yg, Yq, cond_true, cond_false]
    rw [e]
    exact outR (e := .ret) E0Ok Z4 [] (mR false [2, 1, 59]) [] (p (sB' Yq <| sB' Yq <| sB' Yq <| sB' Yq <| sB' Yq <| sB' Yq <| sB' Yq <| sB (show true = true from rfl) <| sB (show true = true from rfl) <| sB (show true = true from rfl) <| sB (show true = true from rfl) <| sB (show true = true from rfl) <| sB (show true = true from rfl) <| sB (show true = true from rfl) <| sB (show true = true from rfl) <| sB (show true = true from rfl) <| sB (show true = true from rfl) <| sB (show true = true from rfl) <| sB (show true = true from rfl) <| sN)) (by kernel_rfl) (by intro h; cases h)
  | false =>
   have Yt := of_decide_eq_false Yg
   have e : ZG Y3 (k + 1) Y1 = (.inr ()) := by simp only [ZG, Yg, cond_false]
   rw [e]
   exact outR (e := (.exit 0)) E0Ok Z4 [] (mR false [0, 2, 1, 1, 2, 23, 33]) [0] (sB Yg <| sN) (by kernel_rfl) (by intro h; cases h)
end Go.Ab
