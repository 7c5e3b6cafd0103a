/- The functions of this seat as plain Lean, and that the program's are these. Printed by a program of the prover's own. -/
import Derived.Test.YtpndflbllggeiaaGreatB3
set_option linter.unusedVariables false
set_option linter.unusedSimpArgs false
set_option maxRecDepth 100000
namespace Go.Ab
open Go.RowKit Go.Proofs.Tryz
theorem ZaH (Y0 : GBody) (Y1 : Int) (Y5 : (List GVector)) : ∀ (k : Nat) (Y6 : Int) (Yo : (List GVector)) (hk : ((3 : Int) - Y6).toNat < k), (ZN Y0 Y1 Y5 k Y6 Yo).length = Yo.length := by
  intro k
  induction k with
  | zero => intro Y6 Yo hk; exact absurd hk (Nat.not_lt_zero _)
  | succ k ih =>
    intro Y6 Yo hk
    cases YD : (decide (Y6 < 3)) with
    | true =>
      have e : ZN Y0 Y1 Y5 (k + 1) Y6 Yo = (ZN Y0 Y1 Y5 k (Y6 + 1) (Yo.set (((Y0.Mesh.Triangles.getD Y1.toNat default).getD Y6.toNat default).toNat) (Z2a Y0 Y1 Y6 Yo))) := by simp only [ZN, YD, cond_true]
      rw [e, ih (Y6 + 1) (Yo.set (((Y0.Mesh.Triangles.getD Y1.toNat default).getD Y6.toNat default).toNat) (Z2a Y0 Y1 Y6 Yo)) (by simp_all <;> omega)]; simp
    | false =>
      have e : ZN Y0 Y1 Y5 (k + 1) Y6 Yo = Yo := by simp only [ZN, YD, cond_false]
      first | (rw [e]; done) | (rw [e]; rfl)
def Z2s (Y0 : GBody) (Y1 : Int) (Y5 : (List GVector)) : (List GVector) := (ZN Y0 Y1 Y5 (((3 : Int) - 0).toNat + 1) 0 Y5)
@[simp] theorem Zep (Y0 : GBody) (Y1 : Int) (Y5 : (List GVector)) : (Z2s Y0 Y1 Y5).length = (Y5 : (List GVector)).length := ZaH Y0 Y1 Y5 (((3 : Int) - 0).toNat + 1) 0 Y5 (by exact Nat.lt_succ_self _)
def Z10 (Y0 : GBody) : Nat → Int → (List GVector) → (List GVector)
  | 0, _, _ => default
  | k + 1, Y1, Y5 => (cond (decide (Y1 < (Y0.Mesh.Triangles.length : Int)))
    (Z10 Y0 k (Y1 + 1) (Z2s Y0 Y1 Y5))
    Y5)
def Z6f (Y0 : GBody) (r : (List GVector)) : Ex × St := ((.exit 2), ⟨.ref (GBody.cells Y0) 0 :: .any :: .nils :: .ref (GBody.cells Y0) 0 :: .own 0 :: an 15 (.ref (GBody.cells Y0) 0 :: .ref (GBody.cells Y0) 0 :: .ref (GBody.cells Y0) 0 :: .ref (GBody.cells Y0) 0 :: .ref (GBody.cells Y0) 0 :: .ref (GBody.cells Y0) 0 :: .sl (Y0.Mesh.Places.map GVector.cells) :: .i .i64 (Y0.Mesh.Places.length : Int) :: .own 0 :: .ref (GBody.cells Y0) 0 :: .ref (GBody.cells Y0) 0 :: .ref (GBody.cells Y0) 2 :: .sl (Y0.Springs.map GSpring.cells) :: an 52 (.ref (GBody.cells Y0) 0 :: .ref (GBody.cells Y0) 0 :: .ref (GBody.cells Y0) 1 :: .sl (Y0.Mesh.Triangles.map (cL (cI .i64))) :: an 191 [])), [.vec 40 3 (r.map GVector.cells) false]⟩)
def ZbD (Y0 : GBody) (Y1 : Int) (Y5 : (List GVector)) : St := ⟨.ref (GBody.cells Y0) 0 :: .any :: .nils :: .ref (GBody.cells Y0) 0 :: .own 0 :: an 15 (.ref (GBody.cells Y0) 0 :: .ref (GBody.cells Y0) 0 :: .ref (GBody.cells Y0) 0 :: .ref (GBody.cells Y0) 0 :: .ref (GBody.cells Y0) 0 :: .ref (GBody.cells Y0) 0 :: .sl (Y0.Mesh.Places.map GVector.cells) :: .i .i64 (Y0.Mesh.Places.length : Int) :: .own 0 :: .ref (GBody.cells Y0) 0 :: .ref (GBody.cells Y0) 0 :: .ref (GBody.cells Y0) 2 :: .sl (Y0.Springs.map GSpring.cells) :: an 52 (.ref (GBody.cells Y0) 0 :: .ref (GBody.cells Y0) 0 :: .ref (GBody.cells Y0) 1 :: .sl (Y0.Mesh.Triangles.map (cL (cI .i64))) :: .i .i64 (Y0.Mesh.Triangles.length : Int) :: .i .i64 Y1 :: an 189 [])), [.vec 40 3 (Y5.map GVector.cells) false]⟩
def Z7A : List Bool := (mR false [0, 1, 1, 3, 15, 13, 52, 6, 189])
def ZaI : List Bool := (mR false [0, 1, 1, 3, 15, 13, 52, 4, 191])
theorem ZbE (Y0 : GBody) (hp0 : Y0.Mesh.Places.length ≤ 1073741824) (hp1 : Y0.Mesh.Triangles.length ≤ 1073741824) (hp2 : ∀ t ∈ Y0.Mesh.Triangles, t.length ≤ 1073741824) (hp3 : Y0.Springs.length ≤ 1073741824) (hp4 : Y0.Weights.length ≤ 1073741824) (hp5 : OkBd Y0) : ∀ (k : Nat) (Y1 : Int) (Y5 : (List GVector)) (Z4p : 0 ≤ Y1) (Z4q : Y5.length = Y0.Mesh.Places.length) (hk : ((Y0.Mesh.Triangles.length : Int) - Y1).toNat < k), Lp prog 0 (sub (bodyOf f51) [1, 1, 1, 1, 0, 1, 0, 0]) (ZbD Y0 Y1 Y5) (Z6f Y0 (Z10 Y0 k Y1 Y5)).1 (Z6f Y0 (Z10 Y0 k Y1 Y5)).2 := by
 intro k
 induction k with
 | zero => intro Y1 Y5 Z4p Z4q hk; exact absurd hk (Nat.not_lt_zero _)
 | succ k ih =>
  intro Y1 Y5 Z4p Z4q hk
  cases Yl : (decide (Y1 < (Y0.Mesh.Triangles.length : Int))) with
  | true =>
   have Yw := of_decide_eq_true Yl
   have YF : (0 : Int) ≤ Y1 := (by assumption)
   have YG : Y1 < (Y0.Mesh.Triangles.length : Int) := (by assumption)
   have YH : (Y0.Mesh.Triangles.getD Y1.toNat default).length ≤ 1073741824 := (by exact tri3L hp5.e (by assumption) Yl)
   have YI : (Y0.Mesh.Triangles.getD Y1.toNat default).length = 3 ∧ ∀ x ∈ (Y0.Mesh.Triangles.getD Y1.toNat default), 0 ≤ x ∧ x < (Y0.Mesh.Places.length : Int) := (by exact tri3 hp5.e (by assumption) Yl)
   have YP : (-9223372036854775808 : Int) ≤ (Y1 + 1) := (by omega)
   have YS : (Y1 + 1) ≤ (9223372036854775807 : Int) := (by omega)
   have e : Z10 Y0 (k + 1) Y1 Y5 = (Z10 Y0 k (Y1 + 1) (Z2s Y0 Y1 Y5)) := by simp only [Z10, Yl, cond_true]
   rw [e]
   exact nextR E0Ok Z5 [] Z7A [0] (ih (Y1 + 1) (Z2s Y0 Y1 Y5) (show 0 ≤ (Y1 + 1) from (by omega)) (show (Z2s Y0 Y1 Y5).length = Y0.Mesh.Places.length from (by simp_all <;> omega)) (by omega)) (sB Yl <| sG (cL (cI .i64)) Y0.Mesh.Triangles Y1 YF YG <| sF (Fn.sub (args := [.ref (GBody.cells Y0) 0, .sl ((Y0.Mesh.Triangles.getD Y1.toNat default).map (cI .i64))]) (r := .agg [.f .f32 ((Ze Y0.Mesh (Y0.Mesh.Triangles.getD Y1.toNat default)).X), .f .f32 ((Ze Y0.Mesh (Y0.Mesh.Triangles.getD Y1.toNat default)).Y), .f .f32 ((Ze Y0.Mesh (Y0.Mesh.Triangles.getD Y1.toNat default)).Z)]) (new := []) [some 2, none] (Zde Y0.Mesh (Y0.Mesh.Triangles.getD Y1.toNat default) hp0 hp1 hp2 YH YI)) <| sK [8, 8] <| sF (ZaC (Ze Y0.Mesh (Y0.Mesh.Triangles.getD Y1.toNat default))) <| sF (ZaD (fneg .f32 (fop .mul .f32 1056964608 Y0.Film)) (Z2I (Ze Y0.Mesh (Y0.Mesh.Triangles.getD Y1.toNat default)))) <| sL Z7x 2 (lp_val (Z6e Y0 Y1 Y5) (x := (Z2s Y0 Y1 Y5)) (ZbC Y0 Y1 Y5 hp0 hp1 hp2 hp3 hp4 hp5 Z4p Z4q Yl (((3 : Int) - 0).toNat + 1) 0 Y5 (show 0 ≤ 0 from (by omega)) (show Y5.length = Y5.length from (by omega)) (Nat.lt_succ_self _)) rfl) <| sI (Y1 + 1) YP YS <| sN) (by kernel_rfl)
  | false =>
   have Yw := of_decide_eq_false Yl
   have e : Z10 Y0 (k + 1) Y1 Y5 = Y5 := by simp only [Z10, Yl, cond_false]
   rw [e]
   exact outR (e := (.exit 2)) E0Ok Z5 [] ZaI [0] (sB Yl <| sN) (by kernel_rfl) (by intro h; cases h)
theorem ZaJ (Y0 : GBody) : ∀ (k : Nat) (Y1 : Int) (Y5 : (List GVector)) (hk : ((Y0.Mesh.Triangles.length : Int) - Y1).toNat < k), (Z10 Y0 k Y1 Y5).length = Y5.length := by
  intro k
  induction k with
  | zero => intro Y1 Y5 hk; exact absurd hk (Nat.not_lt_zero _)
  | succ k ih =>
    intro Y1 Y5 hk
    cases Yl : (decide (Y1 < (Y0.Mesh.Triangles.length : Int))) with
    | true =>
      have e : Z10 Y0 (k + 1) Y1 Y5 = (Z10 Y0 k (Y1 + 1) (Z2s Y0 Y1 Y5)) := by simp only [Z10, Yl, cond_true]
      rw [e, ih (Y1 + 1) (Z2s Y0 Y1 Y5) (by simp_all <;> omega)]; simp
    | false =>
      have e : Z10 Y0 (k + 1) Y1 Y5 = Y5 := by simp only [Z10, Yl, cond_false]
      first | (rw [e]; done) | (rw [e]; rfl)
def Z2V (Y0 : GBody) : (List GVector) := (Z10 Y0 (((Y0.Mesh.Triangles.length : Int) - 0).toNat + 1) 0 (Z2U Y0))
@[simp] theorem Zeq (Y0 : GBody) : (Z2V Y0).length = ((Z2U Y0) : (List GVector)).length := ZaJ Y0 (((Y0.Mesh.Triangles.length : Int) - 0).toNat + 1) 0 (Z2U Y0) (by exact Nat.lt_succ_self _)
def Z9 (Y0 : GBody) (Y1 : Int) (Y5 : (List GVector)) : GVector := (Zz (Y5.getD ((((Z0 Y0.Mesh).getD Y1.toNat default).getD 0 default).toNat) default) (Zn (Z1N Y0.Mesh ((Z0 Y0.Mesh).getD Y1.toNat default)) Y0.Bend))
def Zc (Y0 : GBody) (Y1 : Int) (Y5 : (List GVector)) : GVector := (Zz ((Y5.set ((((Z0 Y0.Mesh).getD Y1.toNat default).getD 0 default).toNat) (Z9 Y0 Y1 Y5)).getD ((((Z0 Y0.Mesh).getD Y1.toNat default).getD 1 default).toNat) default) (Zn (Z1N Y0.Mesh ((Z0 Y0.Mesh).getD Y1.toNat default)) Y0.Bend))
def Zh (Y0 : GBody) (Y1 : Int) (Y5 : (List GVector)) : GVector := (Zz (((Y5.set ((((Z0 Y0.Mesh).getD Y1.toNat default).getD 0 default).toNat) (Z9 Y0 Y1 Y5)).set ((((Z0 Y0.Mesh).getD Y1.toNat default).getD 1 default).toNat) (Zc Y0 Y1 Y5)).getD ((((Z0 Y0.Mesh).getD Y1.toNat default).getD 2 default).toNat) default) (Zn (Z1N Y0.Mesh ((Z0 Y0.Mesh).getD Y1.toNat default)) (fneg .f32 Y0.Bend)))
def Z2B (Y0 : GBody) (Y1 : Int) (Y5 : (List GVector)) : GVector := (Zz ((((Y5.set ((((Z0 Y0.Mesh).getD Y1.toNat default).getD 0 default).toNat) (Z9 Y0 Y1 Y5)).set ((((Z0 Y0.Mesh).getD Y1.toNat default).getD 1 default).toNat) (Zc Y0 Y1 Y5)).set ((((Z0 Y0.Mesh).getD Y1.toNat default).getD 2 default).toNat) (Zh Y0 Y1 Y5)).getD ((((Z0 Y0.Mesh).getD Y1.toNat default).getD 3 default).toNat) default) (Zn (Z1N Y0.Mesh ((Z0 Y0.Mesh).getD Y1.toNat default)) (fneg .f32 Y0.Bend)))
def Z11 (Y0 : GBody) : Nat → Int → (List GVector) → (List GVector)
  | 0, _, _ => default
  | k + 1, Y1, Y5 => (cond (decide (Y1 < ((Z0 Y0.Mesh).length : Int)))
    (Z11 Y0 k (Y1 + 1) ((((Y5.set ((((Z0 Y0.Mesh).getD Y1.toNat default).getD 0 default).toNat) (Z9 Y0 Y1 Y5)).set ((((Z0 Y0.Mesh).getD Y1.toNat default).getD 1 default).toNat) (Zc Y0 Y1 Y5)).set ((((Z0 Y0.Mesh).getD Y1.toNat default).getD 2 default).toNat) (Zh Y0 Y1 Y5)).set ((((Z0 Y0.Mesh).getD Y1.toNat default).getD 3 default).toNat) (Z2B Y0 Y1 Y5)))
    Y5)
def Z6g (Y0 : GBody) (r : (List GVector)) : Ex × St := ((.exit 6), ⟨.ref (GBody.cells Y0) 0 :: .any :: .nils :: .ref (GBody.cells Y0) 0 :: .own 0 :: an 10 (.own 1 :: an 4 (.ref (GBody.cells Y0) 0 :: .ref (GBody.cells Y0) 0 :: .ref (GBody.cells Y0) 0 :: .ref (GBody.cells Y0) 0 :: .ref (GBody.cells Y0) 0 :: .ref (GBody.cells Y0) 0 :: .sl (Y0.Mesh.Places.map GVector.cells) :: .i .i64 (Y0.Mesh.Places.length : Int) :: .own 0 :: .ref (GBody.cells Y0) 0 :: .ref (GBody.cells Y0) 0 :: .ref (GBody.cells Y0) 2 :: .sl (Y0.Springs.map GSpring.cells) :: an 52 (.ref (GBody.cells Y0) 0 :: .ref (GBody.cells Y0) 0 :: .ref (GBody.cells Y0) 1 :: .sl (Y0.Mesh.Triangles.map (cL (cI .i64))) :: an 72 (.ref (GBody.cells Y0) 0 :: .own 1 :: .own 1 :: an 116 [])))), [.vec 40 3 (r.map GVector.cells) false, .nest 49 ((Z0 Y0.Mesh).map fun l => l.map (cI .i64)) false]⟩)
def Z8u (Y0 : GBody) (Y1 : Int) (Y5 : (List GVector)) : St := ⟨.ref (GBody.cells Y0) 0 :: .any :: .nils :: .ref (GBody.cells Y0) 0 :: .own 0 :: an 10 (.own 1 :: an 4 (.ref (GBody.cells Y0) 0 :: .ref (GBody.cells Y0) 0 :: .ref (GBody.cells Y0) 0 :: .ref (GBody.cells Y0) 0 :: .ref (GBody.cells Y0) 0 :: .ref (GBody.cells Y0) 0 :: .sl (Y0.Mesh.Places.map GVector.cells) :: .i .i64 (Y0.Mesh.Places.length : Int) :: .own 0 :: .ref (GBody.cells Y0) 0 :: .ref (GBody.cells Y0) 0 :: .ref (GBody.cells Y0) 2 :: .sl (Y0.Springs.map GSpring.cells) :: an 52 (.ref (GBody.cells Y0) 0 :: .ref (GBody.cells Y0) 0 :: .ref (GBody.cells Y0) 1 :: .sl (Y0.Mesh.Triangles.map (cL (cI .i64))) :: an 72 (.ref (GBody.cells Y0) 0 :: .own 1 :: .own 1 :: .i .i64 ((Z0 Y0.Mesh).length : Int) :: .i .i64 Y1 :: an 114 [])))), [.vec 40 3 (Y5.map GVector.cells) false, .nest 49 ((Z0 Y0.Mesh).map fun l => l.map (cI .i64)) false]⟩
def Z7B : List Bool := (mR false [0, 1, 1, 3, 10, 1, 4, 13, 52, 4, 72, 5, 114])
def ZaK : List Bool := (mR false [0, 1, 1, 3, 10, 1, 4, 13, 52, 4, 72, 3, 116])
set_option maxHeartbeats 1000000 in
theorem ZbF (Y0 : GBody) (hp0 : Y0.Mesh.Places.length ≤ 1073741824) (hp1 : Y0.Mesh.Triangles.length ≤ 1073741824) (hp2 : ∀ t ∈ Y0.Mesh.Triangles, t.length ≤ 1073741824) (hp3 : Y0.Springs.length ≤ 1073741824) (hp4 : Y0.Weights.length ≤ 1073741824) (hp5 : OkBd Y0) : ∀ (k : Nat) (Y1 : Int) (Y5 : (List GVector)) (Z7C : 0 ≤ Y1) (Z7D : Y5.length = Y0.Mesh.Places.length) (hk : (((Z0 Y0.Mesh).length : Int) - Y1).toNat < k), Lp prog 0 (sub (bodyOf f51) [1, 1, 1, 1, 1, 1, 0, 1, 0, 0]) (Z8u Y0 Y1 Y5) (Z6g Y0 (Z11 Y0 k Y1 Y5)).1 (Z6g Y0 (Z11 Y0 k Y1 Y5)).2 := by
 intro k
 induction k with
 | zero => intro Y1 Y5 Z7C Z7D hk; exact absurd hk (Nat.not_lt_zero _)
 | succ k ih =>
  intro Y1 Y5 Z7C Z7D hk
  cases Yl : (decide (Y1 < ((Z0 Y0.Mesh).length : Int))) with
  | true =>
   have Yw := of_decide_eq_true Yl
   have YF : (0 : Int) ≤ Y1 := (by assumption)
   have YG : Int.toNat Y1 < (Z0 Y0.Mesh).length := (by omega)
   have YH : Y1.toNat < (Z0 Y0.Mesh).length := (by assumption)
   have YI : ((Z0 Y0.Mesh).getD Y1.toNat default).length ≤ 1073741824 := (by exact ZgA hp5.e (by assumption) Yl)
   have YP : ((Z0 Y0.Mesh).getD Y1.toNat default).length = 4 ∧ ∀ x ∈ ((Z0 Y0.Mesh).getD Y1.toNat default), 0 ≤ x ∧ x < (Y0.Mesh.Places.length : Int) := (by exact hin4 hp5.e (by assumption) Yl)
   have YS : (0 : Int) ≤ 0 := (by omega)
   have y_6 : 0 < (((Z0 Y0.Mesh).getD Y1.toNat default).length : Int) := (by omega)
   have y_7 : 0 < ((Z0 Y0.Mesh).getD Y1.toNat default).length := (by omega)
   have y_8 : (0 : Int) ≤ (((Z0 Y0.Mesh).getD Y1.toNat default).getD 0 default) := (by (have q := Z3F _ hp5.e; (have q := Okh.at (hin4 hp5.e (by assumption) Yl); omega)))
   have y_9 : (((Z0 Y0.Mesh).getD Y1.toNat default).getD 0 default) < (Y5.length : Int) := (by (have q := Z3F _ hp5.e; (have q := Okh.at (hin4 hp5.e (by assumption) Yl); omega)))
   have Y18 : (((Z0 Y0.Mesh).getD Y1.toNat default).getD 0 default).toNat < Y5.length := (by omega)
   have Y1c : (0 : Int) ≤ 1 := (by omega)
   have Y1g : 1 < (((Z0 Y0.Mesh).getD Y1.toNat default).length : Int) := (by omega)
   have Y1h : 1 < ((Z0 Y0.Mesh).getD Y1.toNat default).length := (by omega)
   have Y1q : (0 : Int) ≤ (((Z0 Y0.Mesh).getD Y1.toNat default).getD 1 default) := (by (have q := Z3F _ hp5.e; (have q := Okh.at (hin4 hp5.e (by assumption) Yl); omega)))
   have Y1r : (((Z0 Y0.Mesh).getD Y1.toNat default).getD 1 default) < ((Y5.set ((((Z0 Y0.Mesh).getD Y1.toNat default).getD 0 default).toNat) (Z9 Y0 Y1 Y5)).length : Int) := (by (have q := Z3F _ hp5.e; (have q := Okh.at (hin4 hp5.e (by assumption) Yl); (simp only [List.length_set]; omega))))
   have Y1s : (((Z0 Y0.Mesh).getD Y1.toNat default).getD 1 default).toNat < (Y5.set ((((Z0 Y0.Mesh).getD Y1.toNat default).getD 0 default).toNat) (Z9 Y0 Y1 Y5)).length := (by omega)
   have Y1t : (0 : Int) ≤ 2 := (by omega)
   have Y1u : 2 < (((Z0 Y0.Mesh).getD Y1.toNat default).length : Int) := (by omega)
   have Y1v : 2 < ((Z0 Y0.Mesh).getD Y1.toNat default).length := (by omega)
   have Y1z : (0 : Int) ≤ (((Z0 Y0.Mesh).getD Y1.toNat default).getD 2 default) := (by (have q := Z3F _ hp5.e; (have q := Okh.at (hin4 hp5.e (by assumption) Yl); omega)))
   have Y1A : (((Z0 Y0.Mesh).getD Y1.toNat default).getD 2 default) < (((Y5.set ((((Z0 Y0.Mesh).getD Y1.toNat default).getD 0 default).toNat) (Z9 Y0 Y1 Y5)).set ((((Z0 Y0.Mesh).getD Y1.toNat default).getD 1 default).toNat) (Zc Y0 Y1 Y5)).length : Int) := (by (have q := Z3F _ hp5.e; (have q := Okh.at (hin4 hp5.e (by assumption) Yl); (simp only [List.length_set]; omega))))
   have Y1B : (((Z0 Y0.Mesh).getD Y1.toNat default).getD 2 default).toNat < ((Y5.set ((((Z0 Y0.Mesh).getD Y1.toNat default).getD 0 default).toNat) (Z9 Y0 Y1 Y5)).set ((((Z0 Y0.Mesh).getD Y1.toNat default).getD 1 default).toNat) (Zc Y0 Y1 Y5)).length := (by omega)
   have Y1C : (0 : Int) ≤ 3 := (by omega)
   have Y1D : 3 < (((Z0 Y0.Mesh).getD Y1.toNat default).length : Int) := (by omega)
   have Y1E : 3 < ((Z0 Y0.Mesh).getD Y1.toNat default).length := (by omega)
   have Y1F : (0 : Int) ≤ (((Z0 Y0.Mesh).getD Y1.toNat default).getD 3 default) := (by (have q := Z3F _ hp5.e; (have q := Okh.at (hin4 hp5.e (by assumption) Yl); omega)))
   have Y1G : (((Z0 Y0.Mesh).getD Y1.toNat default).getD 3 default) < ((((Y5.set ((((Z0 Y0.Mesh).getD Y1.toNat default).getD 0 default).toNat) (Z9 Y0 Y1 Y5)).set ((((Z0 Y0.Mesh).getD Y1.toNat default).getD 1 default).toNat) (Zc Y0 Y1 Y5)).set ((((Z0 Y0.Mesh).getD Y1.toNat default).getD 2 default).toNat) (Zh Y0 Y1 Y5)).length : Int) := (by (have q := Z3F _ hp5.e; (have q := Okh.at (hin4 hp5.e (by assumption) Yl); (simp only [List.length_set]; omega))))
   have Y1H : (((Z0 Y0.Mesh).getD Y1.toNat default).getD 3 default).toNat < (((Y5.set ((((Z0 Y0.Mesh).getD Y1.toNat default).getD 0 default).toNat) (Z9 Y0 Y1 Y5)).set ((((Z0 Y0.Mesh).getD Y1.toNat default).getD 1 default).toNat) (Zc Y0 Y1 Y5)).set ((((Z0 Y0.Mesh).getD Y1.toNat default).getD 2 default).toNat) (Zh Y0 Y1 Y5)).length := (by omega)
   have Y1K : (-9223372036854775808 : Int) ≤ (Y1 + 1) := (by omega)
   have Y1L : (Y1 + 1) ≤ (9223372036854775807 : Int) := (by have q := Z3F _ hp5.e; omega)
   have e : Z11 Y0 (k + 1) Y1 Y5 = (Z11 Y0 k (Y1 + 1) ((((Y5.set ((((Z0 Y0.Mesh).getD Y1.toNat default).getD 0 default).toNat) (Z9 Y0 Y1 Y5)).set ((((Z0 Y0.Mesh).getD Y1.toNat default).getD 1 default).toNat) (Zc Y0 Y1 Y5)).set ((((Z0 Y0.Mesh).getD Y1.toNat default).getD 2 default).toNat) (Zh Y0 Y1 Y5)).set ((((Z0 Y0.Mesh).getD Y1.toNat default).getD 3 default).toNat) (Z2B Y0 Y1 Y5))) := by simp only [Z11, Yl, cond_true]
   rw [e]
   exact nextS E0Ok Z5 [] Z7B [0, 1] (⟨.ref (GBody.cells Y0) 0 :: .any :: .nils :: .ref (GBody.cells Y0) 0 :: .own 0 :: an 10 (.own 1 :: an 4 (.ref (GBody.cells Y0) 0 :: .ref (GBody.cells Y0) 0 :: .ref (GBody.cells Y0) 0 :: .ref (GBody.cells Y0) 0 :: .ref (GBody.cells Y0) 0 :: .ref (GBody.cells Y0) 0 :: .sl (Y0.Mesh.Places.map GVector.cells) :: .i .i64 (Y0.Mesh.Places.length : Int) :: .own 0 :: .ref (GBody.cells Y0) 0 :: .ref (GBody.cells Y0) 0 :: .ref (GBody.cells Y0) 2 :: .sl (Y0.Springs.map GSpring.cells) :: an 52 (.ref (GBody.cells Y0) 0 :: .ref (GBody.cells Y0) 0 :: .ref (GBody.cells Y0) 1 :: .sl (Y0.Mesh.Triangles.map (cL (cI .i64))) :: an 72 (.ref (GBody.cells Y0) 0 :: .own 1 :: .own 1 :: .i .i64 ((Z0 Y0.Mesh).length : Int) :: .i .i64 (Y1 + 1) :: an 114 [])))), [.vec 40 3 (((((Y5.map GVector.cells).set ((((Z0 Y0.Mesh).getD Y1.toNat default).getD 0 default).toNat) [.f .f32 ((Z9 Y0 Y1 Y5).X), .f .f32 ((Z9 Y0 Y1 Y5).Y), .f .f32 ((Z9 Y0 Y1 Y5).Z)]).set ((((Z0 Y0.Mesh).getD Y1.toNat default).getD 1 default).toNat) [.f .f32 ((Zc Y0 Y1 Y5).X), .f .f32 ((Zc Y0 Y1 Y5).Y), .f .f32 ((Zc Y0 Y1 Y5).Z)]).set ((((Z0 Y0.Mesh).getD Y1.toNat default).getD 2 default).toNat) [.f .f32 ((Zh Y0 Y1 Y5).X), .f .f32 ((Zh Y0 Y1 Y5).Y), .f .f32 ((Zh Y0 Y1 Y5).Z)]).set ((((Z0 Y0.Mesh).getD Y1.toNat default).getD 3 default).toNat) [.f .f32 ((Z2B Y0 Y1 Y5).X), .f .f32 ((Z2B Y0 Y1 Y5).Y), .f .f32 ((Z2B Y0 Y1 Y5).Z)]) false, .nest 49 ((Z0 Y0.Mesh).map fun l => l.map (cI .i64)) false]⟩) (sB Yl <| sC (nestix (c := (cI .i64)) (l := (Z0 Y0.Mesh)) (i := Y1) YF YG) <| sC (nestlt (c := (cI .i64)) (l := (Z0 Y0.Mesh)) YH) <| sF (Fn.sub (args := [.ref (GBody.cells Y0) 0, .sl (((Z0 Y0.Mesh).map fun l => l.map (cI .i64)).getD Y1.toNat [])]) (r := .agg [.f .f32 ((Z1N Y0.Mesh ((Z0 Y0.Mesh).getD Y1.toNat default)).X), .f .f32 ((Z1N Y0.Mesh ((Z0 Y0.Mesh).getD Y1.toNat default)).Y), .f .f32 ((Z1N Y0.Mesh ((Z0 Y0.Mesh).getD Y1.toNat default)).Z)]) (new := []) [some 2, none] (Fn.castA (args' := [.ref [.sl (Y0.Mesh.Places.map GVector.cells), .sl (Y0.Mesh.Triangles.map (cL (cI .i64)))] 0, .sl (((Z0 Y0.Mesh).map fun l => l.map (cI .i64)).getD Y1.toNat [])]) (Ze9 Y0.Mesh ((Z0 Y0.Mesh).getD Y1.toNat default) hp0 hp1 hp2 YI YP) (by simp [cI]; rfl))) <| sK [17, 17] <| sC (iidx_ok (c := (cI .i64)) (l := (Z0 Y0.Mesh)) (j := Y1.toNat) (i := 0) YS y_6) <| sE (iget_ok (c := (cI .i64)) (l := (Z0 Y0.Mesh)) (j := Y1.toNat) (k := 0) y_7) <| sC (iidx_ok (c := (cI .i64)) (l := (Z0 Y0.Mesh)) (j := Y1.toNat) (i := 0) YS y_6) <| sE (iget_ok (c := (cI .i64)) (l := (Z0 Y0.Mesh)) (j := Y1.toNat) (k := 0) y_7) <| sX GVector.cells Y5 (((Z0 Y0.Mesh).getD Y1.toNat default).getD 0 default) y_8 y_9 <| sV GVector.cells Y5 ((((Z0 Y0.Mesh).getD Y1.toNat default).getD 0 default).toNat) Y18 <| sF (Z30 (Z1N Y0.Mesh ((Z0 Y0.Mesh).getD Y1.toNat default)) Y0.Bend) <| sF (Z3b (Y5.getD ((((Z0 Y0.Mesh).getD Y1.toNat default).getD 0 default).toNat) default) (Zn (Z1N Y0.Mesh ((Z0 Y0.Mesh).getD Y1.toNat default)) Y0.Bend)) <| sX GVector.cells Y5 (((Z0 Y0.Mesh).getD Y1.toNat default).getD 0 default) y_8 y_9 <| sC (maplt (c := GVector.cells) (l := Y5) Y18) <| sK [17, 17] <| sC (iidx_ok (c := (cI .i64)) (l := (Z0 Y0.Mesh)) (j := Y1.toNat) (i := 1) Y1c Y1g) <| sE (iget_ok (c := (cI .i64)) (l := (Z0 Y0.Mesh)) (j := Y1.toNat) (k := 1) Y1h) <| sC (iidx_ok (c := (cI .i64)) (l := (Z0 Y0.Mesh)) (j := Y1.toNat) (i := 1) Y1c Y1g) <| sE (iget_ok (c := (cI .i64)) (l := (Z0 Y0.Mesh)) (j := Y1.toNat) (k := 1) Y1h) <| sC (show 0 ≤ (((Z0 Y0.Mesh).getD Y1.toNat default).getD 1 default) ∧ Int.toNat (((Z0 Y0.Mesh).getD Y1.toNat default).getD 1 default) < ((Y5.map GVector.cells).set ((((Z0 Y0.Mesh).getD Y1.toNat default).getD 0 default).toNat) [.f .f32 ((Z9 Y0 Y1 Y5).X), .f .f32 ((Z9 Y0 Y1 Y5).Y), .f .f32 ((Z9 Y0 Y1 Y5).Z)]).length from (by simpa using idx_ok (c := GVector.cells) (l := (Y5.set ((((Z0 Y0.Mesh).getD Y1.toNat default).getD 0 default).toNat) (Z9 Y0 Y1 Y5))) (i := (((Z0 Y0.Mesh).getD Y1.toNat default).getD 1 default)) Y1q Y1r)) <| sE (show ((Y5.map GVector.cells).set ((((Z0 Y0.Mesh).getD Y1.toNat default).getD 0 default).toNat) [.f .f32 ((Z9 Y0 Y1 Y5).X), .f .f32 ((Z9 Y0 Y1 Y5).Y), .f .f32 ((Z9 Y0 Y1 Y5).Z)])[(((Z0 Y0.Mesh).getD Y1.toNat default).getD 1 default).toNat]? = some [.f .f32 (((Y5.set ((((Z0 Y0.Mesh).getD Y1.toNat default).getD 0 default).toNat) (Z9 Y0 Y1 Y5)).getD ((((Z0 Y0.Mesh).getD Y1.toNat default).getD 1 default).toNat) default).X), .f .f32 (((Y5.set ((((Z0 Y0.Mesh).getD Y1.toNat default).getD 0 default).toNat) (Z9 Y0 Y1 Y5)).getD ((((Z0 Y0.Mesh).getD Y1.toNat default).getD 1 default).toNat) default).Y), .f .f32 (((Y5.set ((((Z0 Y0.Mesh).getD Y1.toNat default).getD 0 default).toNat) (Z9 Y0 Y1 Y5)).getD ((((Z0 Y0.Mesh).getD Y1.toNat default).getD 1 default).toNat) default).Z)] from (by have q := vget_ok (c := GVector.cells) (l := (Y5.set ((((Z0 Y0.Mesh).getD Y1.toNat default).getD 0 default).toNat) (Z9 Y0 Y1 Y5))) (k := (((Z0 Y0.Mesh).getD Y1.toNat default).getD 1 default).toNat) Y1s; (simp only [List.map_set, List.map_append, List.map_cons, List.map_nil, List.map_replicate] at q; exact q))) <| sF (Z30 (Z1N Y0.Mesh ((Z0 Y0.Mesh).getD Y1.toNat default)) Y0.Bend) <| sF (Z3b ((Y5.set ((((Z0 Y0.Mesh).getD Y1.toNat default).getD 0 default).toNat) (Z9 Y0 Y1 Y5)).getD ((((Z0 Y0.Mesh).getD Y1.toNat default).getD 1 default).toNat) default) (Zn (Z1N Y0.Mesh ((Z0 Y0.Mesh).getD Y1.toNat default)) Y0.Bend)) <| sC (show 0 ≤ (((Z0 Y0.Mesh).getD Y1.toNat default).getD 1 default) ∧ Int.toNat (((Z0 Y0.Mesh).getD Y1.toNat default).getD 1 default) < ((Y5.map GVector.cells).set ((((Z0 Y0.Mesh).getD Y1.toNat default).getD 0 default).toNat) [.f .f32 ((Z9 Y0 Y1 Y5).X), .f .f32 ((Z9 Y0 Y1 Y5).Y), .f .f32 ((Z9 Y0 Y1 Y5).Z)]).length from (by simpa using idx_ok (c := GVector.cells) (l := (Y5.set ((((Z0 Y0.Mesh).getD Y1.toNat default).getD 0 default).toNat) (Z9 Y0 Y1 Y5))) (i := (((Z0 Y0.Mesh).getD Y1.toNat default).getD 1 default)) Y1q Y1r)) <| sC (show (((Z0 Y0.Mesh).getD Y1.toNat default).getD 1 default).toNat < ((Y5.map GVector.cells).set ((((Z0 Y0.Mesh).getD Y1.toNat default).getD 0 default).toNat) [.f .f32 ((Z9 Y0 Y1 Y5).X), .f .f32 ((Z9 Y0 Y1 Y5).Y), .f .f32 ((Z9 Y0 Y1 Y5).Z)]).length from (by simpa using Y1s)) <| sK [18, 18] <| sC (iidx_ok (c := (cI .i64)) (l := (Z0 Y0.Mesh)) (j := Y1.toNat) (i := 2) Y1t Y1u) <| sE (iget_ok (c := (cI .i64)) (l := (Z0 Y0.Mesh)) (j := Y1.toNat) (k := 2) Y1v) <| sC (iidx_ok (c := (cI .i64)) (l := (Z0 Y0.Mesh)) (j := Y1.toNat) (i := 2) Y1t Y1u) <| sE (iget_ok (c := (cI .i64)) (l := (Z0 Y0.Mesh)) (j := Y1.toNat) (k := 2) Y1v) <| sC (show 0 ≤ (((Z0 Y0.Mesh).getD Y1.toNat default).getD 2 default) ∧ Int.toNat (((Z0 Y0.Mesh).getD Y1.toNat default).getD 2 default) < (((Y5.map GVector.cells).set ((((Z0 Y0.Mesh).getD Y1.toNat default).getD 0 default).toNat) [.f .f32 ((Z9 Y0 Y1 Y5).X), .f .f32 ((Z9 Y0 Y1 Y5).Y), .f .f32 ((Z9 Y0 Y1 Y5).Z)]).set ((((Z0 Y0.Mesh).getD Y1.toNat default).getD 1 default).toNat) [.f .f32 ((Zc Y0 Y1 Y5).X), .f .f32 ((Zc Y0 Y1 Y5).Y), .f .f32 ((Zc Y0 Y1 Y5).Z)]).length from (by simpa using idx_ok (c := GVector.cells) (l := ((Y5.set ((((Z0 Y0.Mesh).getD Y1.toNat default).getD 0 default).toNat) (Z9 Y0 Y1 Y5)).set ((((Z0 Y0.Mesh).getD Y1.toNat default).getD 1 default).toNat) (Zc Y0 Y1 Y5))) (i := (((Z0 Y0.Mesh).getD Y1.toNat default).getD 2 default)) Y1z Y1A)) <| sE (show (((Y5.map GVector.cells).set ((((Z0 Y0.Mesh).getD Y1.toNat default).getD 0 default).toNat) [.f .f32 ((Z9 Y0 Y1 Y5).X), .f .f32 ((Z9 Y0 Y1 Y5).Y), .f .f32 ((Z9 Y0 Y1 Y5).Z)]).set ((((Z0 Y0.Mesh).getD Y1.toNat default).getD 1 default).toNat) [.f .f32 ((Zc Y0 Y1 Y5).X), .f .f32 ((Zc Y0 Y1 Y5).Y), .f .f32 ((Zc Y0 Y1 Y5).Z)])[(((Z0 Y0.Mesh).getD Y1.toNat default).getD 2 default).toNat]? = some [.f .f32 ((((Y5.set ((((Z0 Y0.Mesh).getD Y1.toNat default).getD 0 default).toNat) (Z9 Y0 Y1 Y5)).set ((((Z0 Y0.Mesh).getD Y1.toNat default).getD 1 default).toNat) (Zc Y0 Y1 Y5)).getD ((((Z0 Y0.Mesh).getD Y1.toNat default).getD 2 default).toNat) default).X), .f .f32 ((((Y5.set ((((Z0 Y0.Mesh).getD Y1.toNat default).getD 0 default).toNat) (Z9 Y0 Y1 Y5)).set ((((Z0 Y0.Mesh).getD Y1.toNat default).getD 1 default).toNat) (Zc Y0 Y1 Y5)).getD ((((Z0 Y0.Mesh).getD Y1.toNat default).getD 2 default).toNat) default).Y), .f .f32 ((((Y5.set ((((Z0 Y0.Mesh).getD Y1.toNat default).getD 0 default).toNat) (Z9 Y0 Y1 Y5)).set ((((Z0 Y0.Mesh).getD Y1.toNat default).getD 1 default).toNat) (Zc Y0 Y1 Y5)).getD ((((Z0 Y0.Mesh).getD Y1.toNat default).getD 2 default).toNat) default).Z)] from (by have q := vget_ok (c := GVector.cells) (l := ((Y5.set ((((Z0 Y0.Mesh).getD Y1.toNat default).getD 0 default).toNat) (Z9 Y0 Y1 Y5)).set ((((Z0 Y0.Mesh).getD Y1.toNat default).getD 1 default).toNat) (Zc Y0 Y1 Y5))) (k := (((Z0 Y0.Mesh).getD Y1.toNat default).getD 2 default).toNat) Y1B; (simp only [List.map_set, List.map_append, List.map_cons, List.map_nil, List.map_replicate] at q; exact q))) <| sF (Z30 (Z1N Y0.Mesh ((Z0 Y0.Mesh).getD Y1.toNat default)) (fneg .f32 Y0.Bend)) <| sF (Z3b (((Y5.set ((((Z0 Y0.Mesh).getD Y1.toNat default).getD 0 default).toNat) (Z9 Y0 Y1 Y5)).set ((((Z0 Y0.Mesh).getD Y1.toNat default).getD 1 default).toNat) (Zc Y0 Y1 Y5)).getD ((((Z0 Y0.Mesh).getD Y1.toNat default).getD 2 default).toNat) default) (Zn (Z1N Y0.Mesh ((Z0 Y0.Mesh).getD Y1.toNat default)) (fneg .f32 Y0.Bend))) <| sC (show 0 ≤ (((Z0 Y0.Mesh).getD Y1.toNat default).getD 2 default) ∧ Int.toNat (((Z0 Y0.Mesh).getD Y1.toNat default).getD 2 default) < (((Y5.map GVector.cells).set ((((Z0 Y0.Mesh).getD Y1.toNat default).getD 0 default).toNat) [.f .f32 ((Z9 Y0 Y1 Y5).X), .f .f32 ((Z9 Y0 Y1 Y5).Y), .f .f32 ((Z9 Y0 Y1 Y5).Z)]).set ((((Z0 Y0.Mesh).getD Y1.toNat default).getD 1 default).toNat) [.f .f32 ((Zc Y0 Y1 Y5).X), .f .f32 ((Zc Y0 Y1 Y5).Y), .f .f32 ((Zc Y0 Y1 Y5).Z)]).length from (by simpa using idx_ok (c := GVector.cells) (l := ((Y5.set ((((Z0 Y0.Mesh).getD Y1.toNat default).getD 0 default).toNat) (Z9 Y0 Y1 Y5)).set ((((Z0 Y0.Mesh).getD Y1.toNat default).getD 1 default).toNat) (Zc Y0 Y1 Y5))) (i := (((Z0 Y0.Mesh).getD Y1.toNat default).getD 2 default)) Y1z Y1A)) <| sC (show (((Z0 Y0.Mesh).getD Y1.toNat default).getD 2 default).toNat < (((Y5.map GVector.cells).set ((((Z0 Y0.Mesh).getD Y1.toNat default).getD 0 default).toNat) [.f .f32 ((Z9 Y0 Y1 Y5).X), .f .f32 ((Z9 Y0 Y1 Y5).Y), .f .f32 ((Z9 Y0 Y1 Y5).Z)]).set ((((Z0 Y0.Mesh).getD Y1.toNat default).getD 1 default).toNat) [.f .f32 ((Zc Y0 Y1 Y5).X), .f .f32 ((Zc Y0 Y1 Y5).Y), .f .f32 ((Zc Y0 Y1 Y5).Z)]).length from (by simpa using Y1B)) <| sK [18, 18] <| sC (iidx_ok (c := (cI .i64)) (l := (Z0 Y0.Mesh)) (j := Y1.toNat) (i := 3) Y1C Y1D) <| sE (iget_ok (c := (cI .i64)) (l := (Z0 Y0.Mesh)) (j := Y1.toNat) (k := 3) Y1E) <| sC (iidx_ok (c := (cI .i64)) (l := (Z0 Y0.Mesh)) (j := Y1.toNat) (i := 3) Y1C Y1D) <| sE (iget_ok (c := (cI .i64)) (l := (Z0 Y0.Mesh)) (j := Y1.toNat) (k := 3) Y1E) <| sC (show 0 ≤ (((Z0 Y0.Mesh).getD Y1.toNat default).getD 3 default) ∧ Int.toNat (((Z0 Y0.Mesh).getD Y1.toNat default).getD 3 default) < ((((Y5.map GVector.cells).set ((((Z0 Y0.Mesh).getD Y1.toNat default).getD 0 default).toNat) [.f .f32 ((Z9 Y0 Y1 Y5).X), .f .f32 ((Z9 Y0 Y1 Y5).Y), .f .f32 ((Z9 Y0 Y1 Y5).Z)]).set ((((Z0 Y0.Mesh).getD Y1.toNat default).getD 1 default).toNat) [.f .f32 ((Zc Y0 Y1 Y5).X), .f .f32 ((Zc Y0 Y1 Y5).Y), .f .f32 ((Zc Y0 Y1 Y5).Z)]).set ((((Z0 Y0.Mesh).getD Y1.toNat default).getD 2 default).toNat) [.f .f32 ((Zh Y0 Y1 Y5).X), .f .f32 ((Zh Y0 Y1 Y5).Y), .f .f32 ((Zh Y0 Y1 Y5).Z)]).length from (by simpa using idx_ok (c := GVector.cells) (l := (((Y5.set ((((Z0 Y0.Mesh).getD Y1.toNat default).getD 0 default).toNat) (Z9 Y0 Y1 Y5)).set ((((Z0 Y0.Mesh).getD Y1.toNat default).getD 1 default).toNat) (Zc Y0 Y1 Y5)).set ((((Z0 Y0.Mesh).getD Y1.toNat default).getD 2 default).toNat) (Zh Y0 Y1 Y5))) (i := (((Z0 Y0.Mesh).getD Y1.toNat default).getD 3 default)) Y1F Y1G)) <| sE (show ((((Y5.map GVector.cells).set ((((Z0 Y0.Mesh).getD Y1.toNat default).getD 0 default).toNat) [.f .f32 ((Z9 Y0 Y1 Y5).X), .f .f32 ((Z9 Y0 Y1 Y5).Y), .f .f32 ((Z9 Y0 Y1 Y5).Z)]).set ((((Z0 Y0.Mesh).getD Y1.toNat default).getD 1 default).toNat) [.f .f32 ((Zc Y0 Y1 Y5).X), .f .f32 ((Zc Y0 Y1 Y5).Y), .f .f32 ((Zc Y0 Y1 Y5).Z)]).set ((((Z0 Y0.Mesh).getD Y1.toNat default).getD 2 default).toNat) [.f .f32 ((Zh Y0 Y1 Y5).X), .f .f32 ((Zh Y0 Y1 Y5).Y), .f .f32 ((Zh Y0 Y1 Y5).Z)])[(((Z0 Y0.Mesh).getD Y1.toNat default).getD 3 default).toNat]? = some [.f .f32 (((((Y5.set ((((Z0 Y0.Mesh).getD Y1.toNat default).getD 0 default).toNat) (Z9 Y0 Y1 Y5)).set ((((Z0 Y0.Mesh).getD Y1.toNat default).getD 1 default).toNat) (Zc Y0 Y1 Y5)).set ((((Z0 Y0.Mesh).getD Y1.toNat default).getD 2 default).toNat) (Zh Y0 Y1 Y5)).getD ((((Z0 Y0.Mesh).getD Y1.toNat default).getD 3 default).toNat) default).X), .f .f32 (((((Y5.set ((((Z0 Y0.Mesh).getD Y1.toNat default).getD 0 default).toNat) (Z9 Y0 Y1 Y5)).set ((((Z0 Y0.Mesh).getD Y1.toNat default).getD 1 default).toNat) (Zc Y0 Y1 Y5)).set ((((Z0 Y0.Mesh).getD Y1.toNat default).getD 2 default).toNat) (Zh Y0 Y1 Y5)).getD ((((Z0 Y0.Mesh).getD Y1.toNat default).getD 3 default).toNat) default).Y), .f .f32 (((((Y5.set ((((Z0 Y0.Mesh).getD Y1.toNat default).getD 0 default).toNat) (Z9 Y0 Y1 Y5)).set ((((Z0 Y0.Mesh).getD Y1.toNat default).getD 1 default).toNat) (Zc Y0 Y1 Y5)).set ((((Z0 Y0.Mesh).getD Y1.toNat default).getD 2 default).toNat) (Zh Y0 Y1 Y5)).getD ((((Z0 Y0.Mesh).getD Y1.toNat default).getD 3 default).toNat) default).Z)] from (by have q := vget_ok (c := GVector.cells) (l := (((Y5.set ((((Z0 Y0.Mesh).getD Y1.toNat default).getD 0 default).toNat) (Z9 Y0 Y1 Y5)).set ((((Z0 Y0.Mesh).getD Y1.toNat default).getD 1 default).toNat) (Zc Y0 Y1 Y5)).set ((((Z0 Y0.Mesh).getD Y1.toNat default).getD 2 default).toNat) (Zh Y0 Y1 Y5))) (k := (((Z0 Y0.Mesh).getD Y1.toNat default).getD 3 default).toNat) Y1H; (simp only [List.map_set, List.map_append, List.map_cons, List.map_nil, List.map_replicate] at q; exact q))) <| sF (Z30 (Z1N Y0.Mesh ((Z0 Y0.Mesh).getD Y1.toNat default)) (fneg .f32 Y0.Bend)) <| sF (Z3b ((((Y5.set ((((Z0 Y0.Mesh).getD Y1.toNat default).getD 0 default).toNat) (Z9 Y0 Y1 Y5)).set ((((Z0 Y0.Mesh).getD Y1.toNat default).getD 1 default).toNat) (Zc Y0 Y1 Y5)).set ((((Z0 Y0.Mesh).getD Y1.toNat default).getD 2 default).toNat) (Zh Y0 Y1 Y5)).getD ((((Z0 Y0.Mesh).getD Y1.toNat default).getD 3 default).toNat) default) (Zn (Z1N Y0.Mesh ((Z0 Y0.Mesh).getD Y1.toNat default)) (fneg .f32 Y0.Bend))) <| sC (show 0 ≤ (((Z0 Y0.Mesh).getD Y1.toNat default).getD 3 default) ∧ Int.toNat (((Z0 Y0.Mesh).getD Y1.toNat default).getD 3 default) < ((((Y5.map GVector.cells).set ((((Z0 Y0.Mesh).getD Y1.toNat default).getD 0 default).toNat) [.f .f32 ((Z9 Y0 Y1 Y5).X), .f .f32 ((Z9 Y0 Y1 Y5).Y), .f .f32 ((Z9 Y0 Y1 Y5).Z)]).set ((((Z0 Y0.Mesh).getD Y1.toNat default).getD 1 default).toNat) [.f .f32 ((Zc Y0 Y1 Y5).X), .f .f32 ((Zc Y0 Y1 Y5).Y), .f .f32 ((Zc Y0 Y1 Y5).Z)]).set ((((Z0 Y0.Mesh).getD Y1.toNat default).getD 2 default).toNat) [.f .f32 ((Zh Y0 Y1 Y5).X), .f .f32 ((Zh Y0 Y1 Y5).Y), .f .f32 ((Zh Y0 Y1 Y5).Z)]).length from (by simpa using idx_ok (c := GVector.cells) (l := (((Y5.set ((((Z0 Y0.Mesh).getD Y1.toNat default).getD 0 default).toNat) (Z9 Y0 Y1 Y5)).set ((((Z0 Y0.Mesh).getD Y1.toNat default).getD 1 default).toNat) (Zc Y0 Y1 Y5)).set ((((Z0 Y0.Mesh).getD Y1.toNat default).getD 2 default).toNat) (Zh Y0 Y1 Y5))) (i := (((Z0 Y0.Mesh).getD Y1.toNat default).getD 3 default)) Y1F Y1G)) <| sC (show (((Z0 Y0.Mesh).getD Y1.toNat default).getD 3 default).toNat < ((((Y5.map GVector.cells).set ((((Z0 Y0.Mesh).getD Y1.toNat default).getD 0 default).toNat) [.f .f32 ((Z9 Y0 Y1 Y5).X), .f .f32 ((Z9 Y0 Y1 Y5).Y), .f .f32 ((Z9 Y0 Y1 Y5).Z)]).set ((((Z0 Y0.Mesh).getD Y1.toNat default).getD 1 default).toNat) [.f .f32 ((Zc Y0 Y1 Y5).X), .f .f32 ((Zc Y0 Y1 Y5).Y), .f .f32 ((Zc Y0 Y1 Y5).Z)]).set ((((Z0 Y0.Mesh).getD Y1.toNat default).getD 2 default).toNat) [.f .f32 ((Zh Y0 Y1 Y5).X), .f .f32 ((Zh Y0 Y1 Y5).Y), .f .f32 ((Zh Y0 Y1 Y5).Z)]).length from (by simpa using Y1H)) <| sI (Y1 + 1) Y1K Y1L <| sN) (by kernel_rfl) (by simp [Z8u, List.map_set, GVector.cells]) (ih (Y1 + 1) ((((Y5.set ((((Z0 Y0.Mesh).getD Y1.toNat default).getD 0 default).toNat) (Z9 Y0 Y1 Y5)).set ((((Z0 Y0.Mesh).getD Y1.toNat default).getD 1 default).toNat) (Zc Y0 Y1 Y5)).set ((((Z0 Y0.Mesh).getD Y1.toNat default).getD 2 default).toNat) (Zh Y0 Y1 Y5)).set ((((Z0 Y0.Mesh).getD Y1.toNat default).getD 3 default).toNat) (Z2B Y0 Y1 Y5)) (show 0 ≤ (Y1 + 1) from (by omega)) (show ((((Y5.set ((((Z0 Y0.Mesh).getD Y1.toNat default).getD 0 default).toNat) (Z9 Y0 Y1 Y5)).set ((((Z0 Y0.Mesh).getD Y1.toNat default).getD 1 default).toNat) (Zc Y0 Y1 Y5)).set ((((Z0 Y0.Mesh).getD Y1.toNat default).getD 2 default).toNat) (Zh Y0 Y1 Y5)).set ((((Z0 Y0.Mesh).getD Y1.toNat default).getD 3 default).toNat) (Z2B Y0 Y1 Y5)).length = Y0.Mesh.Places.length from (by (have q := Z3F _ hp5.e; (have q := Okh.at (hin4 hp5.e (by assumption) Yl); (simp only [List.length_set]; omega))))) (by omega))
  | false =>
   have Yw := of_decide_eq_false Yl
   have e : Z11 Y0 (k + 1) Y1 Y5 = Y5 := by simp only [Z11, Yl, cond_false]
   rw [e]
   exact outR (e := (.exit 6)) E0Ok Z5 [] ZaK [0, 1] (sB Yl <| sN) (by kernel_rfl) (by intro h; cases h)
theorem ZaL (Y0 : GBody) : ∀ (k : Nat) (Y1 : Int) (Y5 : (List GVector)) (hk : (((Z0 Y0.Mesh).length : Int) - Y1).toNat < k), (Z11 Y0 k Y1 Y5).length = Y5.length := by
  intro k
  induction k with
  | zero => intro Y1 Y5 hk; exact absurd hk (Nat.not_lt_zero _)
  | succ k ih =>
    intro Y1 Y5 hk
    cases Yl : (decide (Y1 < ((Z0 Y0.Mesh).length : Int))) with
    | true =>
      have e : Z11 Y0 (k + 1) Y1 Y5 = (Z11 Y0 k (Y1 + 1) ((((Y5.set ((((Z0 Y0.Mesh).getD Y1.toNat default).getD 0 default).toNat) (Z9 Y0 Y1 Y5)).set ((((Z0 Y0.Mesh).getD Y1.toNat default).getD 1 default).toNat) (Zc Y0 Y1 Y5)).set ((((Z0 Y0.Mesh).getD Y1.toNat default).getD 2 default).toNat) (Zh Y0 Y1 Y5)).set ((((Z0 Y0.Mesh).getD Y1.toNat default).getD 3 default).toNat) (Z2B Y0 Y1 Y5))) := by simp only [Z11, Yl, cond_true]
      rw [e, ih (Y1 + 1) ((((Y5.set ((((Z0 Y0.Mesh).getD Y1.toNat default).getD 0 default).toNat) (Z9 Y0 Y1 Y5)).set ((((Z0 Y0.Mesh).getD Y1.toNat default).getD 1 default).toNat) (Zc Y0 Y1 Y5)).set ((((Z0 Y0.Mesh).getD Y1.toNat default).getD 2 default).toNat) (Zh Y0 Y1 Y5)).set ((((Z0 Y0.Mesh).getD Y1.toNat default).getD 3 default).toNat) (Z2B Y0 Y1 Y5)) (by simp_all <;> omega)]; simp
    | false =>
      have e : Z11 Y0 (k + 1) Y1 Y5 = Y5 := by simp only [Z11, Yl, cond_false]
      first | (rw [e]; done) | (rw [e]; rfl)
def Z2W (Y0 : GBody) : (List GVector) := (Z11 Y0 ((((Z0 Y0.Mesh).length : Int) - 0).toNat + 1) 0 (Z2V Y0))
@[simp] theorem Zer (Y0 : GBody) : (Z2W Y0).length = ((Z2V Y0) : (List GVector)).length := ZaL Y0 ((((Z0 Y0.Mesh).length : Int) - 0).toNat + 1) 0 (Z2V Y0) (by exact Nat.lt_succ_self _)
def Z12 (Y0 : GBody) : Nat → Int → (List GVector) → (List GVector)
  | 0, _, _ => default
  | k + 1, Y1, Y5 => (cond (decide (Y1 < (Y0.Mesh.Places.length : Int)))
    (Z12 Y0 k (Y1 + 1) (Y5.set Y1.toNat (Zz (Y5.getD Y1.toNat default) (Zn Y0.Fall (Y0.Weights.getD Y1.toNat default)))))
    Y5)
def Z6h (Y0 : GBody) (r : (List GVector)) : Ex × St := ((.exit 8), ⟨.ref (GBody.cells Y0) 0 :: .any :: .nils :: .ref (GBody.cells Y0) 0 :: .own 0 :: an 10 (.own 1 :: an 4 (.ref (GBody.cells Y0) 0 :: .ref (GBody.cells Y0) 0 :: .ref (GBody.cells Y0) 0 :: .ref (GBody.cells Y0) 0 :: .ref (GBody.cells Y0) 0 :: .ref (GBody.cells Y0) 0 :: .sl (Y0.Mesh.Places.map GVector.cells) :: .i .i64 (Y0.Mesh.Places.length : Int) :: .own 0 :: .ref (GBody.cells Y0) 0 :: .ref (GBody.cells Y0) 0 :: .ref (GBody.cells Y0) 2 :: .sl (Y0.Springs.map GSpring.cells) :: an 52 (.ref (GBody.cells Y0) 0 :: .ref (GBody.cells Y0) 0 :: .ref (GBody.cells Y0) 1 :: .sl (Y0.Mesh.Triangles.map (cL (cI .i64))) :: an 72 (.ref (GBody.cells Y0) 0 :: .own 1 :: .own 1 :: an 86 (.ref (GBody.cells Y0) 0 :: .ref (GBody.cells Y0) 0 :: .ref (GBody.cells Y0) 0 :: .sl (Y0.Mesh.Places.map GVector.cells) :: an 26 []))))), [.vec 40 3 (r.map GVector.cells) false, .nest 49 ((Z0 Y0.Mesh).map fun l => l.map (cI .i64)) false]⟩)
def Z8v (Y0 : GBody) (Y1 : Int) (Y5 : (List GVector)) : St := ⟨.ref (GBody.cells Y0) 0 :: .any :: .nils :: .ref (GBody.cells Y0) 0 :: .own 0 :: an 10 (.own 1 :: an 4 (.ref (GBody.cells Y0) 0 :: .ref (GBody.cells Y0) 0 :: .ref (GBody.cells Y0) 0 :: .ref (GBody.cells Y0) 0 :: .ref (GBody.cells Y0) 0 :: .ref (GBody.cells Y0) 0 :: .sl (Y0.Mesh.Places.map GVector.cells) :: .i .i64 (Y0.Mesh.Places.length : Int) :: .own 0 :: .ref (GBody.cells Y0) 0 :: .ref (GBody.cells Y0) 0 :: .ref (GBody.cells Y0) 2 :: .sl (Y0.Springs.map GSpring.cells) :: an 52 (.ref (GBody.cells Y0) 0 :: .ref (GBody.cells Y0) 0 :: .ref (GBody.cells Y0) 1 :: .sl (Y0.Mesh.Triangles.map (cL (cI .i64))) :: an 72 (.ref (GBody.cells Y0) 0 :: .own 1 :: .own 1 :: an 86 (.ref (GBody.cells Y0) 0 :: .ref (GBody.cells Y0) 0 :: .ref (GBody.cells Y0) 0 :: .sl (Y0.Mesh.Places.map GVector.cells) :: .i .i64 (Y0.Mesh.Places.length : Int) :: .i .i64 Y1 :: an 24 []))))), [.vec 40 3 (Y5.map GVector.cells) false, .nest 49 ((Z0 Y0.Mesh).map fun l => l.map (cI .i64)) false]⟩
def Z7E : List Bool := (mR false [0, 1, 1, 3, 10, 1, 4, 13, 52, 4, 72, 3, 86, 6, 24])
def ZaM : List Bool := (mR false [0, 1, 1, 3, 10, 1, 4, 13, 52, 4, 72, 3, 86, 4, 26])
theorem ZbG (Y0 : GBody) (hp0 : Y0.Mesh.Places.length ≤ 1073741824) (hp1 : Y0.Mesh.Triangles.length ≤ 1073741824) (hp2 : ∀ t ∈ Y0.Mesh.Triangles, t.length ≤ 1073741824) (hp3 : Y0.Springs.length ≤ 1073741824) (hp4 : Y0.Weights.length ≤ 1073741824) (hp5 : OkBd Y0) : ∀ (k : Nat) (Y1 : Int) (Y5 : (List GVector)) (Z7F : 0 ≤ Y1) (Z7G : Y5.length = Y0.Mesh.Places.length) (hk : ((Y0.Mesh.Places.length : Int) - Y1).toNat < k), Lp prog 0 (sub (bodyOf f51) [1, 1, 1, 1, 1, 1, 1, 0, 1, 0, 0]) (Z8v Y0 Y1 Y5) (Z6h Y0 (Z12 Y0 k Y1 Y5)).1 (Z6h Y0 (Z12 Y0 k Y1 Y5)).2 := by
 intro k
 induction k with
 | zero => intro Y1 Y5 Z7F Z7G hk; exact absurd hk (Nat.not_lt_zero _)
 | succ k ih =>
  intro Y1 Y5 Z7F Z7G hk
  cases Yl : (decide (Y1 < (Y0.Mesh.Places.length : Int))) with
  | true =>
   have Yw := of_decide_eq_true Yl
   have YF : (0 : Int) ≤ Y1 := (by assumption)
   have YG : Y1 < (Y5.length : Int) := (by omega)
   have YH : Y1.toNat < Y5.length := (by omega)
   have YI : Y1 < (Y0.Weights.length : Int) := (by have q := hp5.w; omega)
   have YP : (-9223372036854775808 : Int) ≤ (Y1 + 1) := (by omega)
   have YS : (Y1 + 1) ≤ (9223372036854775807 : Int) := (by omega)
   have e : Z12 Y0 (k + 1) Y1 Y5 = (Z12 Y0 k (Y1 + 1) (Y5.set Y1.toNat (Zz (Y5.getD Y1.toNat default) (Zn Y0.Fall (Y0.Weights.getD Y1.toNat default))))) := by simp only [Z12, Yl, cond_true]
   rw [e]
   exact nextS E0Ok Z5 [] Z7E [0, 1] (⟨.ref (GBody.cells Y0) 0 :: .any :: .nils :: .ref (GBody.cells Y0) 0 :: .own 0 :: an 10 (.own 1 :: an 4 (.ref (GBody.cells Y0) 0 :: .ref (GBody.cells Y0) 0 :: .ref (GBody.cells Y0) 0 :: .ref (GBody.cells Y0) 0 :: .ref (GBody.cells Y0) 0 :: .ref (GBody.cells Y0) 0 :: .sl (Y0.Mesh.Places.map GVector.cells) :: .i .i64 (Y0.Mesh.Places.length : Int) :: .own 0 :: .ref (GBody.cells Y0) 0 :: .ref (GBody.cells Y0) 0 :: .ref (GBody.cells Y0) 2 :: .sl (Y0.Springs.map GSpring.cells) :: an 52 (.ref (GBody.cells Y0) 0 :: .ref (GBody.cells Y0) 0 :: .ref (GBody.cells Y0) 1 :: .sl (Y0.Mesh.Triangles.map (cL (cI .i64))) :: an 72 (.ref (GBody.cells Y0) 0 :: .own 1 :: .own 1 :: an 86 (.ref (GBody.cells Y0) 0 :: .ref (GBody.cells Y0) 0 :: .ref (GBody.cells Y0) 0 :: .sl (Y0.Mesh.Places.map GVector.cells) :: .i .i64 (Y0.Mesh.Places.length : Int) :: .i .i64 (Y1 + 1) :: an 24 []))))), [.vec 40 3 ((Y5.map GVector.cells).set Y1.toNat [.f .f32 ((Zz (Y5.getD Y1.toNat default) (Zn Y0.Fall (Y0.Weights.getD Y1.toNat default))).X), .f .f32 ((Zz (Y5.getD Y1.toNat default) (Zn Y0.Fall (Y0.Weights.getD Y1.toNat default))).Y), .f .f32 ((Zz (Y5.getD Y1.toNat default) (Zn Y0.Fall (Y0.Weights.getD Y1.toNat default))).Z)]) false, .nest 49 ((Z0 Y0.Mesh).map fun l => l.map (cI .i64)) false]⟩) (sB Yl <| sK [19, 19] <| sX GVector.cells Y5 Y1 YF YG <| sV GVector.cells Y5 Y1.toNat YH <| sG (cF .f32) Y0.Weights Y1 YF YI <| sF (Z30 Y0.Fall (Y0.Weights.getD Y1.toNat default)) <| sF (Z3b (Y5.getD Y1.toNat default) (Zn Y0.Fall (Y0.Weights.getD Y1.toNat default))) <| sX GVector.cells Y5 Y1 YF YG <| sC (maplt (c := GVector.cells) (l := Y5) YH) <| sI (Y1 + 1) YP YS <| sN) (by kernel_rfl) (by simp [Z8v, List.map_set, GVector.cells]) (ih (Y1 + 1) (Y5.set Y1.toNat (Zz (Y5.getD Y1.toNat default) (Zn Y0.Fall (Y0.Weights.getD Y1.toNat default)))) (show 0 ≤ (Y1 + 1) from (by omega)) (show (Y5.set Y1.toNat (Zz (Y5.getD Y1.toNat default) (Zn Y0.Fall (Y0.Weights.getD Y1.toNat default)))).length = Y0.Mesh.Places.length from (by simp_all <;> omega)) (by omega))
  | false =>
   have Yw := of_decide_eq_false Yl
   have e : Z12 Y0 (k + 1) Y1 Y5 = Y5 := by simp only [Z12, Yl, cond_false]
   rw [e]
   exact outR (e := (.exit 8)) E0Ok Z5 [] ZaM [0, 1] (sB Yl <| sN) (by kernel_rfl) (by intro h; cases h)
theorem ZaN (Y0 : GBody) : ∀ (k : Nat) (Y1 : Int) (Y5 : (List GVector)) (hk : ((Y0.Mesh.Places.length : Int) - Y1).toNat < k), (Z12 Y0 k Y1 Y5).length = Y5.length := by
  intro k
  induction k with
  | zero => intro Y1 Y5 hk; exact absurd hk (Nat.not_lt_zero _)
  | succ k ih =>
    intro Y1 Y5 hk
    cases Yl : (decide (Y1 < (Y0.Mesh.Places.length : Int))) with
    | true =>
      have e : Z12 Y0 (k + 1) Y1 Y5 = (Z12 Y0 k (Y1 + 1) (Y5.set Y1.toNat (Zz (Y5.getD Y1.toNat default) (Zn Y0.Fall (Y0.Weights.getD Y1.toNat default))))) := by simp only [Z12, Yl, cond_true]
      rw [e, ih (Y1 + 1) (Y5.set Y1.toNat (Zz (Y5.getD Y1.toNat default) (Zn Y0.Fall (Y0.Weights.getD Y1.toNat default)))) (by simp_all <;> omega)]; simp
    | false =>
      have e : Z12 Y0 (k + 1) Y1 Y5 = Y5 := by simp only [Z12, Yl, cond_false]
      first | (rw [e]; done) | (rw [e]; rfl)
def Z3V (Y0 : GBody) : (List GVector) := (Z12 Y0 (((Y0.Mesh.Places.length : Int) - 0).toNat + 1) 0 (Z2W Y0))
@[simp] theorem Zes (Y0 : GBody) : (Z3V Y0).length = ((Z2W Y0) : (List GVector)).length := ZaN Y0 (((Y0.Mesh.Places.length : Int) - 0).toNat + 1) 0 (Z2W Y0) (by exact Nat.lt_succ_self _)
def Z2P (Y0 : GBody) : (List GVector) := (Z3V Y0)
@[simp] theorem Zfl (Y0 : GBody) : (Z2P Y0).length = Y0.Mesh.Places.length := by
  first | (simp [Z2P]; done)
theorem Zdh (Y0 : GBody) (hp0 : Y0.Mesh.Places.length ≤ 1073741824) (hp1 : Y0.Mesh.Triangles.length ≤ 1073741824) (hp2 : ∀ t ∈ Y0.Mesh.Triangles, t.length ≤ 1073741824) (hp3 : Y0.Springs.length ≤ 1073741824) (hp4 : Y0.Weights.length ≤ 1073741824) (hp5 : OkBd Y0)  : Fn prog 51 [.ref (GBody.cells Y0) 0] (.own 0) [.vec 40 3 ((Z2P Y0).map GVector.cells) false] := by
 have y0 : (0 : Int) ≤ (Y0.Mesh.Places.length : Int) := (by omega)
 have y1 : ((Y0.Mesh.Places.length : Int) : Int) ≤ 2147483648 := (by omega)
 have y2 : OkE Y0.Mesh.Places.length Y0.Mesh.Triangles := (by exact hp5.e)
 refine fnS E0Ok Z5 (c := bodyOf f51) [] (.own 0) [.vec 40 3 ((Z3V Y0).map GVector.cells) false] func51 (sZ GVector.cells Y0.Mesh.Places <| sC (show (Y0.Mesh.Places.length : Int) = (Y0.Mesh.Places.length : Int) from rfl) <| sC y0 <| sC y1 <| sZ GSpring.cells Y0.Springs <| sL (mR false [0, 1, 1, 3, 15, 15, 245]) 1 (lp_cast (st2 := ⟨.ref (GBody.cells Y0) 0 :: .any :: .nils :: .ref (GBody.cells Y0) 0 :: .own 0 :: an 15 (.ref (GBody.cells Y0) 0 :: .ref (GBody.cells Y0) 0 :: .ref (GBody.cells Y0) 0 :: .ref (GBody.cells Y0) 0 :: .ref (GBody.cells Y0) 0 :: .ref (GBody.cells Y0) 0 :: .sl (Y0.Mesh.Places.map GVector.cells) :: .i .i64 (Y0.Mesh.Places.length : Int) :: .own 0 :: .ref (GBody.cells Y0) 0 :: .ref (GBody.cells Y0) 0 :: .ref (GBody.cells Y0) 2 :: .sl (Y0.Springs.map GSpring.cells) :: .i .i64 (Y0.Springs.length : Int) :: .i .i64 0 :: an 245 []), [.vec 40 3 (List.replicate (Int.toNat (Y0.Mesh.Places.length : Int)) [.f .f32 0, .f .f32 0, .f .f32 0]) false]⟩) (lp_val (Z6b Y0) (x := (Z2U Y0)) (ZbB Y0 hp0 hp1 hp2 hp3 hp4 hp5 (((Y0.Springs.length : Int) - 0).toNat + 1) 0 (List.replicate (Y0.Mesh.Places.length : Int).toNat (⟨0, 0, 0⟩ : GVector)) (show 0 ≤ 0 from (by omega)) (show (List.replicate (Y0.Mesh.Places.length : Int).toNat (⟨0, 0, 0⟩ : GVector)).length = Y0.Mesh.Places.length from (by simp; done)) (Nat.lt_succ_self _)) rfl) (by simp [Z6c, GVector.cells])) <| sZ (cL (cI .i64)) Y0.Mesh.Triangles <| sL Z7A 1 (lp_val (Z6f Y0) (x := (Z2V Y0)) (ZbE Y0 hp0 hp1 hp2 hp3 hp4 hp5 (((Y0.Mesh.Triangles.length : Int) - 0).toNat + 1) 0 (Z2U Y0) (show 0 ≤ 0 from (by omega)) (show (Z2U Y0).length = Y0.Mesh.Places.length from (by simp; done)) (Nat.lt_succ_self _)) rfl) <| sF (Fn.sub (args := [.ref (GBody.cells Y0) 0]) (r := .own 0) (new := [.nest 49 ((Z0 Y0.Mesh).map fun l => l.map (cI .i64)) false]) [some 2] (Zdg Y0.Mesh hp0 hp1 hp2 y2)) <| sM (nlen_ok (l := (Z0 Y0.Mesh)) (f := fun l => l.map (cI .i64))) <| sL Z7B 2 (lp_val (Z6g Y0) (x := (Z2W Y0)) (ZbF Y0 hp0 hp1 hp2 hp3 hp4 hp5 ((((Z0 Y0.Mesh).length : Int) - 0).toNat + 1) 0 (Z2V Y0) (show 0 ≤ 0 from (by omega)) (show (Z2V Y0).length = Y0.Mesh.Places.length from (by simp; done)) (Nat.lt_succ_self _)) rfl) <| sZ GVector.cells Y0.Mesh.Places <| sL Z7E 2 (lp_val (Z6h Y0) (x := (Z3V Y0)) (ZbG Y0 hp0 hp1 hp2 hp3 hp4 hp5 (((Y0.Mesh.Places.length : Int) - 0).toNat + 1) 0 (Z2W Y0) (show 0 ≤ 0 from (by omega)) (show (Z2W Y0).length = Y0.Mesh.Places.length from (by simp; done)) (Nat.lt_succ_self _)) rfl) <| sK [0] sN) rfl (by kernel_rfl) (by kernel_rfl) rfl ?_ ?_
 · rfl
 · simp [Z2P]
def Z1y (Ya : GBody) (Y3 : (List Int)) : Nat → Int → (List GVector) → (List GVector)
  | 0, _, _ => default
  | k + 1, Y1, Y5 => (cond (decide (Y1 < (Y3.length : Int)))
    (Z1y Ya Y3 k (Y1 + 1) (Y5.set ((Y3.getD Y1.toNat default).toNat) (⟨0, 0, 0⟩ : GVector)))
    Y5)
def Z6X (Ya : GBody) (Y3 : (List Int)) (r : (List GVector)) : Ex × St := ((.exit 0), ⟨.ref (GBody.cells Ya) 0 :: .sl (Y3.map (cI .i64)) :: .any :: .any :: .nils :: .own 0 :: .any :: .ref (GBody.cells Ya) 0 :: .own 0 :: .sl (Y3.map (cI .i64)) :: an 13 [], [.vec 40 3 (r.map GVector.cells) false]⟩)
def Z9w (Ya : GBody) (Y3 : (List Int)) (Y1 : Int) (Y5 : (List GVector)) : St := ⟨.ref (GBody.cells Ya) 0 :: .sl (Y3.map (cI .i64)) :: .any :: .any :: .nils :: .own 0 :: .any :: .ref (GBody.cells Ya) 0 :: .own 0 :: .sl (Y3.map (cI .i64)) :: .i .i64 (Y3.length : Int) :: .i .i64 Y1 :: an 11 [], [.vec 40 3 (Y5.map GVector.cells) false]⟩
theorem ZcI (Ya : GBody) (Y3 : (List Int)) (hp0 : Ya.Mesh.Places.length ≤ 1073741824) (hp1 : Ya.Mesh.Triangles.length ≤ 1073741824) (hp2 : ∀ t ∈ Ya.Mesh.Triangles, t.length ≤ 1073741824) (hp3 : Ya.Springs.length ≤ 1073741824) (hp4 : Ya.Weights.length ≤ 1073741824) (hp5 : Y3.length ≤ 1073741824) (hp6 : OkBd Ya) (hp7 : OkIx Ya.Mesh.Places.length (fun x => x) Y3) : ∀ (k : Nat) (Y1 : Int) (Y5 : (List GVector)) (Z8w : 0 ≤ Y1) (Z8x : Y5.length = Ya.Mesh.Places.length) (hk : ((Y3.length : Int) - Y1).toNat < k), Lp prog 0 (sub (bodyOf f65) [1, 1, 0, 1, 0, 0]) (Z9w Ya Y3 Y1 Y5) (Z6X Ya Y3 (Z1y Ya Y3 k Y1 Y5)).1 (Z6X Ya Y3 (Z1y Ya Y3 k Y1 Y5)).2 := by
 intro k
 induction k with
 | zero => intro Y1 Y5 Z8w Z8x hk; exact absurd hk (Nat.not_lt_zero _)
 | succ k ih =>
  intro Y1 Y5 Z8w Z8x hk
  cases Yl : (decide (Y1 < (Y3.length : Int))) with
  | true =>
   have Yw := of_decide_eq_true Yl
   have YF : (0 : Int) ≤ Y1 := (by assumption)
   have YG : Y1 < (Y3.length : Int) := (by assumption)
   have YH : (0 : Int) ≤ (Y3.getD Y1.toNat default) := (by have q := OkIx.at hp7 (by assumption) Yw; omega)
   have YI : (Y3.getD Y1.toNat default) < (Y5.length : Int) := (by have q := OkIx.at hp7 (by assumption) Yw; omega)
   have YP : (Y3.getD Y1.toNat default).toNat < Y5.length := (by omega)
   have YS : (-9223372036854775808 : Int) ≤ (Y1 + 1) := (by omega)
   have y_6 : (Y1 + 1) ≤ (9223372036854775807 : Int) := (by omega)
   have e : Z1y Ya Y3 (k + 1) Y1 Y5 = (Z1y Ya Y3 k (Y1 + 1) (Y5.set ((Y3.getD Y1.toNat default).toNat) (⟨0, 0, 0⟩ : GVector))) := by simp only [Z1y, Yl, cond_true]
   rw [e]
   exact nextS E0Ok Z5 [] (mR false [0, 2, 2, 2, 1, 5, 11]) [0] (⟨.ref (GBody.cells Ya) 0 :: .sl (Y3.map (cI .i64)) :: .any :: .any :: .nils :: .own 0 :: .any :: .ref (GBody.cells Ya) 0 :: .own 0 :: .sl (Y3.map (cI .i64)) :: .i .i64 (Y3.length : Int) :: .i .i64 (Y1 + 1) :: an 11 [], [.vec 40 3 ((Y5.map GVector.cells).set ((Y3.getD Y1.toNat default).toNat) [.f .f32 0, .f .f32 0, .f .f32 0]) false]⟩) (sB Yl <| sG (cI .i64) Y3 Y1 YF YG <| sX GVector.cells Y5 (Y3.getD Y1.toNat default) YH YI <| sC (maplt (c := GVector.cells) (l := Y5) YP) <| sI (Y1 + 1) YS y_6 <| sN) (by kernel_rfl) (by simp [Z9w, List.map_set, GVector.cells]) (ih (Y1 + 1) (Y5.set ((Y3.getD Y1.toNat default).toNat) (⟨0, 0, 0⟩ : GVector)) (show 0 ≤ (Y1 + 1) from (by omega)) (show (Y5.set ((Y3.getD Y1.toNat default).toNat) (⟨0, 0, 0⟩ : GVector)).length = Ya.Mesh.Places.length from (by have q := OkIx.at hp7 (by assumption) Yw; (simp only [List.length_set]; omega))) (by omega))
  | false =>
   have Yw := of_decide_eq_false Yl
   have e : Z1y Ya Y3 (k + 1) Y1 Y5 = Y5 := by simp only [Z1y, Yl, cond_false]
   rw [e]
   exact outR (e := (.exit 0)) E0Ok Z5 [] (mR false [0, 2, 2, 2, 1, 3, 13]) [0] (sB Yl <| sN) (by kernel_rfl) (by intro h; cases h)
theorem ZbH (Ya : GBody) (Y3 : (List Int)) : ∀ (k : Nat) (Y1 : Int) (Y5 : (List GVector)) (hk : ((Y3.length : Int) - Y1).toNat < k), (Z1y Ya Y3 k Y1 Y5).length = Y5.length := by
  intro k
  induction k with
  | zero => intro Y1 Y5 hk; exact absurd hk (Nat.not_lt_zero _)
  | succ k ih =>
    intro Y1 Y5 hk
    cases Yl : (decide (Y1 < (Y3.length : Int))) with
    | true =>
      have e : Z1y Ya Y3 (k + 1) Y1 Y5 = (Z1y Ya Y3 k (Y1 + 1) (Y5.set ((Y3.getD Y1.toNat default).toNat) (⟨0, 0, 0⟩ : GVector))) := by simp only [Z1y, Yl, cond_true]
      rw [e, ih (Y1 + 1) (Y5.set ((Y3.getD Y1.toNat default).toNat) (⟨0, 0, 0⟩ : GVector)) (by simp_all <;> omega)]; simp
    | false =>
      have e : Z1y Ya Y3 (k + 1) Y1 Y5 = Y5 := by simp only [Z1y, Yl, cond_false]
      first | (rw [e]; done) | (rw [e]; rfl)
def Z4c (Ya : GBody) (Y3 : (List Int)) : (List GVector) := (Z1y Ya Y3 (((Y3.length : Int) - 0).toNat + 1) 0 (Z2P Ya))
@[simp] theorem Zf3 (Ya : GBody) (Y3 : (List Int)) : (Z4c Ya Y3).length = ((Z2P Ya) : (List GVector)).length := ZbH Ya Y3 (((Y3.length : Int) - 0).toNat + 1) 0 (Z2P Ya) (by exact Nat.lt_succ_self _)
def Z1w (Ya : GBody) (Y3 : (List Int)) : (List GVector) := (Z4c Ya Y3)
@[simp] theorem Zb9 (Ya : GBody) (Y3 : (List Int)) : (Z1w Ya Y3).length = Ya.Mesh.Places.length := by
  first | (simp [Z1w]; done)
theorem Zea (Ya : GBody) (Y3 : (List Int)) (hp0 : Ya.Mesh.Places.length ≤ 1073741824) (hp1 : Ya.Mesh.Triangles.length ≤ 1073741824) (hp2 : ∀ t ∈ Ya.Mesh.Triangles, t.length ≤ 1073741824) (hp3 : Ya.Springs.length ≤ 1073741824) (hp4 : Ya.Weights.length ≤ 1073741824) (hp5 : Y3.length ≤ 1073741824) (hp6 : OkBd Ya) (hp7 : OkIx Ya.Mesh.Places.length (fun x => x) Y3)  : Fn prog 65 [.ref (GBody.cells Ya) 0, .sl (Y3.map (cI .i64))] (.own 0) [.vec 40 3 ((Z1w Ya Y3).map GVector.cells) false] := by
 refine fnS E0Ok Z5 (c := bodyOf f65) [] (.own 0) [.vec 40 3 ((Z4c Ya Y3).map GVector.cells) false] func65 (sF (Zdh Ya hp0 hp1 hp2 hp3 hp4 hp6) <| sZ (cI .i64) Y3 <| sL (mR false [0, 2, 2, 2, 1, 5, 11]) 1 (lp_val (Z6X Ya Y3) (x := (Z4c Ya Y3)) (ZcI Ya Y3 hp0 hp1 hp2 hp3 hp4 hp5 hp6 hp7 (((Y3.length : Int) - 0).toNat + 1) 0 (Z2P Ya) (show 0 ≤ 0 from (by omega)) (show (Z2P Ya).length = Ya.Mesh.Places.length from (by simp; done)) (Nat.lt_succ_self _)) rfl) <| sK [0] sN) rfl (by kernel_rfl) (by kernel_rfl) rfl ?_ ?_
 · rfl
 · simp [Z1w]
def Z7f (Yn : (List Int)) : (List Int) := (([] : List Int) ++ Yn)
theorem ZeG (Yn : (List Int)) (hp0 : Yn.length ≤ 1073741824)  : Fn prog 144 [.sl (Yn.map (cI .i64))] (.own 0) [.vec 2 1 ((Z7f Yn).map (cI .i64)) false] := by
 have y0 : ([] : List Int).length + Yn.length ≤ 1073741824 := (by simp_all <;> omega)
 refine fnS E0Ok Z5 (c := bodyOf f144) [] (.own 0) [.vec 2 1 (([] : List (List AV)) ++ (Yn.map (cI .i64))) false] func144 (sC (show ([] : List (List AV)).length + (Yn.map (cI .i64)).length ≤ 1073741824 from (by simpa using y0)) <| sC (show (Yn.map (cI .i64)).all (fun cs => cs.length == 1 && cs.all isS) = true from (src_ok (fun _ => rfl))) <| sK [0] sN) rfl (by kernel_rfl) (by kernel_rfl) rfl ?_ ?_
 · rfl
 · simp [Z7f, cI]
@[simp] theorem Zg1 (l : List Int) : Z7f l = l := by simp [Z7f]
theorem ZeH (Yn : (List Int)) (hp0 : Yn.length ≤ 1073741824) : Fn prog 144 [.sl (Yn.map (cI .i64))] (.own 0) [.vec 2 1 (Yn.map (cI .i64)) false] := by
 simpa only [Zg1] using ZeG  Yn hp0
def Z37 (Y2 : GMesh) : Nat → Int → (List (List Int)) → (List (List Int))
  | 0, _, _ => default
  | k + 1, Y7, Yb => (cond (decide (Y7 < (Y2.Triangles.length : Int)))
    (Z37 Y2 k (Y7 + 1) (Yb ++ [(Y2.Triangles.getD Y7.toNat default)]))
    Yb)
def Z7j (Y2 : GMesh) (r : (List (List Int))) : Ex × St := ((.exit 0), ⟨.ref (GMesh.cells Y2) 0 :: .any :: .ptr 0 0 0 :: .ptr 1 0 0 :: .any :: .any :: .ref (GMesh.cells Y2) 0 :: .ref (GMesh.cells Y2) 0 :: .ref (GMesh.cells Y2) 0 :: .sl (Y2.Places.map GVector.cells) :: .own 2 :: an 25 [], [.box 38 [.nils, .nils], .box 38 [.own 2, .own 3], .vec 40 3 (([] : List (List AV)) ++ (Y2.Places.map GVector.cells)) false, .nest 49 (r.map fun l => l.map (cI .i64)) false]⟩)
def Z7k (Y2 : GMesh) (Y7 : Int) (Yb : (List (List Int))) : St := ⟨.ref (GMesh.cells Y2) 0 :: .any :: .ptr 0 0 0 :: .ptr 3 0 0 :: .i .i64 Y7 :: .any :: .ref (GMesh.cells Y2) 0 :: .ref (GMesh.cells Y2) 0 :: .ref (GMesh.cells Y2) 0 :: .sl (Y2.Places.map GVector.cells) :: .own 1 :: an 25 [], [.box 38 [.nils, .nils], .vec 40 3 (([] : List (List AV)) ++ (Y2.Places.map GVector.cells)) false, .nest 49 (Yb.map fun l => l.map (cI .i64)) false, .box 38 [.own 1, .own 2]]⟩
theorem Zdi (Y2 : GMesh) (hp0 : Y2.Places.length ≤ 1073741824) (hp1 : Y2.Triangles.length ≤ 1073741824) (hp2 : ∀ t ∈ Y2.Triangles, t.length ≤ 1073741824) : ∀ (k : Nat) (Y7 : Int) (Yb : (List (List Int))) (Z94 : 0 ≤ Y7) (Z95 : (Yb.length : Int) = Y7) (hk : ((Y2.Triangles.length : Int) - Y7).toNat < k), Lp prog 0 (sub (bodyOf f130) [1, 1, 0, 1, 0, 0]) (Z7k Y2 Y7 Yb) (Z7j Y2 (Z37 Y2 k Y7 Yb)).1 (Z7j Y2 (Z37 Y2 k Y7 Yb)).2 := by
 intro k
 induction k with
 | zero => intro Y7 Yb Z94 Z95 hk; exact absurd hk (Nat.not_lt_zero _)
 | succ k ih =>
  intro Y7 Yb Z94 Z95 hk
  have p {a C} (s : Scr a C) := sZ (cL (cI .i64)) Y2.Triangles <| s
  cases Yl : (decide (Y7 < (Y2.Triangles.length : Int))) with
  | true =>
   have Yw := of_decide_eq_true Yl
   have YF : (0 : Int) ≤ Y7 := by clear p; exact (by assumption)
   have YG : Y7 < (Y2.Triangles.length : Int) := by clear p; exact (by assumption)
   have YH : (Y2.Triangles.getD Y7.toNat default).length ≤ 1073741824 := by clear p; exact (by simp_all <;> omega)
   have YI : Yb.length + [(Y2.Triangles.getD Y7.toNat default)].length ≤ 1073741824 := by clear p; exact (by simp_all <;> omega)
   have YP : (-9223372036854775808 : Int) ≤ (Y7 + 1) := by clear p; exact (by omega)
   have YS : (Y7 + 1) ≤ (9223372036854775807 : Int) := by clear p; exact (by omega)
   have e : Z37 Y2 (k + 1) Y7 Yb = (Z37 Y2 k (Y7 + 1) (Yb ++ [(Y2.Triangles.getD Y7.toNat default)])) := by simp only [Z37, Yl, cond_true]
   rw [e]
   exact nextS E0Ok Z5 [] (mR false [0, 1, 1, 3, 1, 5, 25]) [0, 1, 2, 3] (⟨.ref (GMesh.cells Y2) 0 :: .any :: .ptr 0 0 0 :: .ptr 3 0 0 :: .i .i64 (Y7 + 1) :: .any :: .ref (GMesh.cells Y2) 0 :: .ref (GMesh.cells Y2) 0 :: .ref (GMesh.cells Y2) 0 :: .sl (Y2.Places.map GVector.cells) :: .own 1 :: an 25 [], [.box 38 [.nils, .nils], .vec 40 3 (([] : List (List AV)) ++ (Y2.Places.map GVector.cells)) false, .nest 49 ((Yb.map fun l => l.map (cI .i64)) ++ [((Y2.Triangles.getD Y7.toNat default).map (cI .i64))]) false, .box 38 [.own 1, .own 2]]⟩) (p (sB Yl <| sK [11, 11] <| sG (cL (cI .i64)) Y2.Triangles Y7 YF YG <| sF (ZeH (Y2.Triangles.getD Y7.toNat default) YH) <| sC (show (Yb.map fun l => l.map (cI .i64)).length + [((Y2.Triangles.getD Y7.toNat default).map (cI .i64))].length ≤ 1073741824 from (by simpa using YI)) <| sI (Y7 + 1) YP YS <| sN)) (by kernel_rfl) (by simp [Z7k, GVector.cells, cL, cI]) (ih (Y7 + 1) (Yb ++ [(Y2.Triangles.getD Y7.toNat default)]) (show 0 ≤ (Y7 + 1) from (by omega)) (show ((Yb ++ [(Y2.Triangles.getD Y7.toNat default)]).length : Int) = (Y7 + 1) from (by simp_all <;> omega)) (by omega))
  | false =>
   have Yw := of_decide_eq_false Yl
   have e : Z37 Y2 (k + 1) Y7 Yb = Yb := by simp only [Z37, Yl, cond_false]
   rw [e]
   exact outR (e := (.exit 0)) E0Ok Z5 [] (mR false [0, 1, 1, 2, 2, 5, 25]) [0, 3, 1, 2] (p (sB Yl <| sN)) (by kernel_rfl) (by intro h; cases h)
def Z58 (Y2 : GMesh) : (List (List Int)) := (Z37 Y2 (((Y2.Triangles.length : Int) - 0).toNat + 1) 0 ([] : List (List Int)))
def Z5S (Y2 : GMesh) : GMesh := (⟨(([] : List GVector) ++ Y2.Places), (Z58 Y2)⟩ : GMesh)
theorem ZeI (Y2 : GMesh) (hp0 : Y2.Places.length ≤ 1073741824) (hp1 : Y2.Triangles.length ≤ 1073741824) (hp2 : ∀ t ∈ Y2.Triangles, t.length ≤ 1073741824)  : Fn prog 130 [.ref (GMesh.cells Y2) 0] (.agg [.own 0, .own 1]) [.vec 40 3 (((Z5S Y2).Places).map GVector.cells) false, .nest 49 (((Z5S Y2).Triangles).map fun l => l.map (cI .i64)) false] := by
 have y0 : ([] : List GVector).length + Y2.Places.length ≤ 1073741824 := (by simp_all <;> omega)
 refine fnS E0Ok Z5 (c := bodyOf f130) [] (.agg [.own 0, .own 1]) [.vec 40 3 (([] : List (List AV)) ++ (Y2.Places.map GVector.cells)) false, .nest 49 ((Z58 Y2).map fun l => l.map (cI .i64)) false] func130 (sC (show ([] : List (List AV)).length + (Y2.Places.map GVector.cells).length ≤ 1073741824 from (by simpa using y0)) <| sC (show (Y2.Places.map GVector.cells).all (fun cs => cs.length == 3 && cs.all isS) = true from (src_ok (fun _ => rfl))) <| sL (mR false [0, 1, 1, 3, 1, 5, 25]) 4 (lp_cast (st2 := ⟨.ref (GMesh.cells Y2) 0 :: .any :: .ptr 0 0 0 :: .ptr 3 0 0 :: .i .i64 0 :: .any :: .ref (GMesh.cells Y2) 0 :: .ref (GMesh.cells Y2) 0 :: .ref (GMesh.cells Y2) 0 :: .sl (Y2.Places.map GVector.cells) :: .own 1 :: an 25 [], [.box 38 [.nils, .nils], .vec 40 3 (([] : List (List AV)) ++ (Y2.Places.map GVector.cells)) false, .nest 49 [] false, .box 38 [.own 1, .own 2]]⟩) (lp_val (Z7j Y2) (x := (Z58 Y2)) (Zdi Y2 hp0 hp1 hp2 (((Y2.Triangles.length : Int) - 0).toNat + 1) 0 ([] : List (List Int)) (show 0 ≤ 0 from (by omega)) (show (([] : List (List Int)).length : Int) = 0 from (by simp)) (Nat.lt_succ_self _)) rfl) (by simp [Z7k, GVector.cells, cL, cI])) <| sK [2, 3] sN) rfl (by kernel_rfl) (by kernel_rfl) rfl ?_ ?_
 · rfl
 · simp [Z5S, GVector.cells]
@[simp] theorem Zg2 (m : GMesh) : Z5S m = m := by
  unfold Z5S Z58
  rw [app_loop (f := fun i => (m.Triangles.getD i.toNat default)) (n := (m.Triangles.length : Int)) (lo := Z37 m) (fun k i r => rfl) _ _ _ (Nat.lt_succ_self _)]
  simp [getD_range2]
theorem ZeJ (Y2 : GMesh) (hp0 : Y2.Places.length ≤ 1073741824) (hp1 : Y2.Triangles.length ≤ 1073741824) (hp2 : ∀ t ∈ Y2.Triangles, t.length ≤ 1073741824) : Fn prog 130 [.ref (GMesh.cells Y2) 0] (.agg [.own 0, .own 1]) [.vec 40 3 (Y2.Places.map GVector.cells) false, .nest 49 (Y2.Triangles.map fun l => l.map (cI .i64)) false] := by
 simpa only [Zg2] using ZeI  Y2 hp0 hp1 hp2
def Z3e (Ya : GBody) : GBody := (⟨Ya.Mesh, (([] : List GSpring) ++ Ya.Springs), Ya.Film, Ya.Bend, (([] : List Nat) ++ Ya.Weights), Ya.Fall⟩ : GBody)
theorem ZeK (Ya : GBody) (hp0 : Ya.Mesh.Places.length ≤ 1073741824) (hp1 : Ya.Mesh.Triangles.length ≤ 1073741824) (hp2 : ∀ t ∈ Ya.Mesh.Triangles, t.length ≤ 1073741824) (hp3 : Ya.Springs.length ≤ 1073741824) (hp4 : Ya.Weights.length ≤ 1073741824)  : Fn prog 86 [.ref (GBody.cells Ya) 0] (.agg [.own 0, .own 1, .own 2, .f .f32 ((Z3e Ya).Film), .f .f32 ((Z3e Ya).Bend), .own 3, .f .f32 ((Z3e Ya).Fall.X), .f .f32 ((Z3e Ya).Fall.Y), .f .f32 ((Z3e Ya).Fall.Z)]) [.vec 40 3 (((Z3e Ya).Mesh.Places).map GVector.cells) false, .nest 49 (((Z3e Ya).Mesh.Triangles).map fun l => l.map (cI .i64)) false, .vec 133 4 (((Z3e Ya).Springs).map GSpring.cells) false, .vec 27 1 (((Z3e Ya).Weights).map (cF .f32)) false] := by
 have y0 : ([] : List GSpring).length + Ya.Springs.length ≤ 1073741824 := (by simp_all <;> omega)
 have y1 : ([] : List Nat).length + Ya.Weights.length ≤ 1073741824 := (by simp_all <;> omega)
 refine fnS E0Ok Z5 (c := bodyOf f86) [] (.agg [.own 0, .own 1, .own 2, .f .f32 Ya.Film, .f .f32 Ya.Bend, .own 3, .f .f32 Ya.Fall.X, .f .f32 Ya.Fall.Y, .f .f32 Ya.Fall.Z]) [.vec 40 3 (Ya.Mesh.Places.map GVector.cells) false, .nest 49 (Ya.Mesh.Triangles.map fun l => l.map (cI .i64)) false, .vec 133 4 (([] : List (List AV)) ++ (Ya.Springs.map GSpring.cells)) false, .vec 27 1 (([] : List (List AV)) ++ (Ya.Weights.map (cF .f32))) false] func86 (sF (Fn.sub (args := [.ref (GBody.cells Ya) 0]) (r := .agg [.own 0, .own 1]) (new := [.vec 40 3 (Ya.Mesh.Places.map GVector.cells) false, .nest 49 (Ya.Mesh.Triangles.map fun l => l.map (cI .i64)) false]) [some 2] (ZeJ Ya.Mesh hp0 hp1 hp2)) <| sC (show ([] : List (List AV)).length + (Ya.Springs.map GSpring.cells).length ≤ 1073741824 from (by simpa using y0)) <| sC (show (Ya.Springs.map GSpring.cells).all (fun cs => cs.length == 4 && cs.all isS) = true from (src_ok (fun _ => rfl))) <| sC (show ([] : List (List AV)).length + (Ya.Weights.map (cF .f32)).length ≤ 1073741824 from (by simpa using y1)) <| sC (show (Ya.Weights.map (cF .f32)).all (fun cs => cs.length == 1 && cs.all isS) = true from (src_ok (fun _ => rfl))) <| sK [2, 3, 4, 5] sN) rfl (by kernel_rfl) (by kernel_rfl) rfl ?_ ?_
 · rfl
 · simp [Z3e, GSpring.cells, cF]
@[simp] theorem Zg3 (b : GBody) : Z3e b = b := by simp [Z3e]
theorem ZeL (Ya : GBody) (hp0 : Ya.Mesh.Places.length ≤ 1073741824) (hp1 : Ya.Mesh.Triangles.length ≤ 1073741824) (hp2 : ∀ t ∈ Ya.Mesh.Triangles, t.length ≤ 1073741824) (hp3 : Ya.Springs.length ≤ 1073741824) (hp4 : Ya.Weights.length ≤ 1073741824) : Fn prog 86 [.ref (GBody.cells Ya) 0] (.agg [.own 0, .own 1, .own 2, .f .f32 Ya.Film, .f .f32 Ya.Bend, .own 3, .f .f32 Ya.Fall.X, .f .f32 Ya.Fall.Y, .f .f32 Ya.Fall.Z]) [.vec 40 3 (Ya.Mesh.Places.map GVector.cells) false, .nest 49 (Ya.Mesh.Triangles.map fun l => l.map (cI .i64)) false, .vec 133 4 (Ya.Springs.map GSpring.cells) false, .vec 27 1 (Ya.Weights.map (cF .f32)) false] := by
 simpa only [Zg3] using ZeK  Ya hp0 hp1 hp2 hp3 hp4
def Z1e (Ya : GBody) (Yq : (List GVector)) (Yj : Nat) : Nat → Int → (List GVector) → (List GVector)
  | 0, _, _ => default
  | k + 1, Y1, Yh => (cond (decide (Y1 < (Yq.length : Int)))
    (Z1e Ya Yq Yj k (Y1 + 1) (Yh.set Y1.toNat (Zz (Ya.Mesh.Places.getD Y1.toNat default) (Zn (Yq.getD Y1.toNat default) Yj))))
    Yh)
def Z6C (Ya : GBody) (Yq : (List GVector)) (Yj : Nat) (r : (List GVector)) : Ex × St := ((.exit 0), ⟨.ref (GBody.cells Ya) 0 :: .sl (Yq.map GVector.cells) :: an 4 (.ptr 0 0 0 :: .ptr 1 0 0 :: .any :: .ref (GBody.cells Ya) 0 :: .agg [.own 2, .own 3, .own 4, .f .f32 Ya.Film, .f .f32 Ya.Bend, .own 5, .f .f32 Ya.Fall.X, .f .f32 Ya.Fall.Y, .f .f32 Ya.Fall.Z] :: .sl (Yq.map GVector.cells) :: an 26 []), [.box 42 [.nils, .nils, .nils, .f .f32 0, .f .f32 0, .nils, .f .f32 0, .f .f32 0, .f .f32 0], .box 42 [.own 2, .own 3, .own 4, .f .f32 Ya.Film, .f .f32 Ya.Bend, .own 5, .f .f32 Ya.Fall.X, .f .f32 Ya.Fall.Y, .f .f32 Ya.Fall.Z], .vec 40 3 (r.map GVector.cells) false, .nest 49 (Ya.Mesh.Triangles.map fun l => l.map (cI .i64)) false, .vec 133 4 (Ya.Springs.map GSpring.cells) false, .vec 27 1 (Ya.Weights.map (cF .f32)) false]⟩)
def Z96 (Ya : GBody) (Yq : (List GVector)) (Yj : Nat) (Y1 : Int) (Yh : (List GVector)) : St := ⟨.ref (GBody.cells Ya) 0 :: .sl (Yq.map GVector.cells) :: .f .f32 Yj :: .any :: .any :: .any :: .ptr 0 0 0 :: .ptr 5 0 0 :: .any :: .ref (GBody.cells Ya) 0 :: .agg [.own 1, .own 2, .own 3, .f .f32 Ya.Film, .f .f32 Ya.Bend, .own 4, .f .f32 Ya.Fall.X, .f .f32 Ya.Fall.Y, .f .f32 Ya.Fall.Z] :: .sl (Yq.map GVector.cells) :: .i .i64 (Yq.length : Int) :: .i .i64 Y1 :: an 24 [], [.box 42 [.nils, .nils, .nils, .f .f32 0, .f .f32 0, .nils, .f .f32 0, .f .f32 0, .f .f32 0], .vec 40 3 (Yh.map GVector.cells) false, .nest 49 (Ya.Mesh.Triangles.map fun l => l.map (cI .i64)) false, .vec 133 4 (Ya.Springs.map GSpring.cells) false, .vec 27 1 (Ya.Weights.map (cF .f32)) false, .box 42 [.own 1, .own 2, .own 3, .f .f32 Ya.Film, .f .f32 Ya.Bend, .own 4, .f .f32 Ya.Fall.X, .f .f32 Ya.Fall.Y, .f .f32 Ya.Fall.Z]]⟩
theorem Zca (Ya : GBody) (Yq : (List GVector)) (Yj : Nat) (hp0 : Ya.Mesh.Places.length ≤ 1073741824) (hp1 : Ya.Mesh.Triangles.length ≤ 1073741824) (hp2 : ∀ t ∈ Ya.Mesh.Triangles, t.length ≤ 1073741824) (hp3 : Ya.Springs.length ≤ 1073741824) (hp4 : Ya.Weights.length ≤ 1073741824) (hp5 : Yq.length ≤ 1073741824) (hp6 : Yq.length ≤ Ya.Mesh.Places.length) : ∀ (k : Nat) (Y1 : Int) (Yh : (List GVector)) (Z80 : 0 ≤ Y1) (Z81 : Yh.length = Ya.Mesh.Places.length) (hk : ((Yq.length : Int) - Y1).toNat < k), Lp prog 0 (sub (bodyOf f122) [1, 1, 0, 1, 0, 0]) (Z96 Ya Yq Yj Y1 Yh) (Z6C Ya Yq Yj (Z1e Ya Yq Yj k Y1 Yh)).1 (Z6C Ya Yq Yj (Z1e Ya Yq Yj k Y1 Yh)).2 := by
 intro k
 induction k with
 | zero => intro Y1 Yh Z80 Z81 hk; exact absurd hk (Nat.not_lt_zero _)
 | succ k ih =>
  intro Y1 Yh Z80 Z81 hk
  cases Yl : (decide (Y1 < (Yq.length : Int))) with
  | true =>
   have Yw := of_decide_eq_true Yl
   have YF : (0 : Int) ≤ Y1 := (by assumption)
   have YG : Y1 < (Ya.Mesh.Places.length : Int) := (by omega)
   have YH : Y1 < (Yq.length : Int) := (by assumption)
   have YI : Y1 < (Yh.length : Int) := (by omega)
   have YP : Y1.toNat < Yh.length := (by omega)
   have YS : (-9223372036854775808 : Int) ≤ (Y1 + 1) := (by omega)
   have y_6 : (Y1 + 1) ≤ (9223372036854775807 : Int) := (by omega)
   have e : Z1e Ya Yq Yj (k + 1) Y1 Yh = (Z1e Ya Yq Yj k (Y1 + 1) (Yh.set Y1.toNat (Zz (Ya.Mesh.Places.getD Y1.toNat default) (Zn (Yq.getD Y1.toNat default) Yj)))) := by simp only [Z1e, Yl, cond_true]
   rw [e]
   exact nextS E0Ok Z5 [] (mR false [0, 3, 3, 2, 1, 5, 24]) [0, 1, 2, 3, 4, 5] (⟨.ref (GBody.cells Ya) 0 :: .sl (Yq.map GVector.cells) :: .f .f32 Yj :: .any :: .any :: .any :: .ptr 0 0 0 :: .ptr 5 0 0 :: .any :: .ref (GBody.cells Ya) 0 :: .agg [.own 1, .own 2, .own 3, .f .f32 Ya.Film, .f .f32 Ya.Bend, .own 4, .f .f32 Ya.Fall.X, .f .f32 Ya.Fall.Y, .f .f32 Ya.Fall.Z] :: .sl (Yq.map GVector.cells) :: .i .i64 (Yq.length : Int) :: .i .i64 (Y1 + 1) :: an 24 [], [.box 42 [.nils, .nils, .nils, .f .f32 0, .f .f32 0, .nils, .f .f32 0, .f .f32 0, .f .f32 0], .vec 40 3 ((Yh.map GVector.cells).set Y1.toNat [.f .f32 ((Zz (Ya.Mesh.Places.getD Y1.toNat default) (Zn (Yq.getD Y1.toNat default) Yj)).X), .f .f32 ((Zz (Ya.Mesh.Places.getD Y1.toNat default) (Zn (Yq.getD Y1.toNat default) Yj)).Y), .f .f32 ((Zz (Ya.Mesh.Places.getD Y1.toNat default) (Zn (Yq.getD Y1.toNat default) Yj)).Z)]) false, .nest 49 (Ya.Mesh.Triangles.map fun l => l.map (cI .i64)) false, .vec 133 4 (Ya.Springs.map GSpring.cells) false, .vec 27 1 (Ya.Weights.map (cF .f32)) false, .box 42 [.own 1, .own 2, .own 3, .f .f32 Ya.Film, .f .f32 Ya.Bend, .own 4, .f .f32 Ya.Fall.X, .f .f32 Ya.Fall.Y, .f .f32 Ya.Fall.Z]]⟩) (sB Yl <| sK [19, 19] <| sG GVector.cells Ya.Mesh.Places Y1 YF YG <| sG GVector.cells Yq Y1 YF YH <| sF (Z30 (Yq.getD Y1.toNat default) Yj) <| sF (Z3b (Ya.Mesh.Places.getD Y1.toNat default) (Zn (Yq.getD Y1.toNat default) Yj)) <| sX GVector.cells Yh Y1 YF YI <| sC (maplt (c := GVector.cells) (l := Yh) YP) <| sI (Y1 + 1) YS y_6 <| sN) (by kernel_rfl) (by simp [Z96, List.map_set, GVector.cells]) (ih (Y1 + 1) (Yh.set Y1.toNat (Zz (Ya.Mesh.Places.getD Y1.toNat default) (Zn (Yq.getD Y1.toNat default) Yj))) (show 0 ≤ (Y1 + 1) from (by omega)) (show (Yh.set Y1.toNat (Zz (Ya.Mesh.Places.getD Y1.toNat default) (Zn (Yq.getD Y1.toNat default) Yj))).length = Ya.Mesh.Places.length from (by simp_all <;> omega)) (by omega))
  | false =>
   have Yw := of_decide_eq_false Yl
   have e : Z1e Ya Yq Yj (k + 1) Y1 Yh = Yh := by simp only [Z1e, Yl, cond_false]
   rw [e]
   exact outR (e := (.exit 0)) E0Ok Z5 [] (mR false [0, 2, 4, 2, 1, 3, 26]) [0, 5, 1, 2, 3, 4] (sB Yl <| sN) (by kernel_rfl) (by intro h; cases h)
theorem Zba (Ya : GBody) (Yq : (List GVector)) (Yj : Nat) : ∀ (k : Nat) (Y1 : Int) (Yh : (List GVector)) (hk : ((Yq.length : Int) - Y1).toNat < k), (Z1e Ya Yq Yj k Y1 Yh).length = Yh.length := by
  intro k
  induction k with
  | zero => intro Y1 Yh hk; exact absurd hk (Nat.not_lt_zero _)
  | succ k ih =>
    intro Y1 Yh hk
    cases Yl : (decide (Y1 < (Yq.length : Int))) with
    | true =>
      have e : Z1e Ya Yq Yj (k + 1) Y1 Yh = (Z1e Ya Yq Yj k (Y1 + 1) (Yh.set Y1.toNat (Zz (Ya.Mesh.Places.getD Y1.toNat default) (Zn (Yq.getD Y1.toNat default) Yj)))) := by simp only [Z1e, Yl, cond_true]
      rw [e, ih (Y1 + 1) (Yh.set Y1.toNat (Zz (Ya.Mesh.Places.getD Y1.toNat default) (Zn (Yq.getD Y1.toNat default) Yj))) (by simp_all <;> omega)]; simp
    | false =>
      have e : Z1e Ya Yq Yj (k + 1) Y1 Yh = Yh := by simp only [Z1e, Yl, cond_false]
      first | (rw [e]; done) | (rw [e]; rfl)
def Z47 (Ya : GBody) (Yq : (List GVector)) (Yj : Nat) : (List GVector) := (Z1e Ya Yq Yj (((Yq.length : Int) - 0).toNat + 1) 0 Ya.Mesh.Places)
@[simp] theorem ZeM (Ya : GBody) (Yq : (List GVector)) (Yj : Nat) : (Z47 Ya Yq Yj).length = (Ya.Mesh.Places : (List GVector)).length := Zba Ya Yq Yj (((Yq.length : Int) - 0).toNat + 1) 0 Ya.Mesh.Places (by exact Nat.lt_succ_self _)
def Zi (Ya : GBody) (Yq : (List GVector)) (Yj : Nat) : GBody := (⟨(⟨(Z47 Ya Yq Yj), Ya.Mesh.Triangles⟩ : GMesh), Ya.Springs, Ya.Film, Ya.Bend, Ya.Weights, Ya.Fall⟩ : GBody)
theorem Z9x (b : GBody) (v : List GVector) (s : Nat) : (Zi b v s).Mesh.Places.length ≤ b.Mesh.Places.length := by
  unfold Zi
  simp
theorem Z9y (b : GBody) (v : List GVector) (s : Nat) : (Zi b v s).Mesh.Triangles.length ≤ b.Mesh.Triangles.length := by
  unfold Zi
  simp
theorem Z9z (b : GBody) (v : List GVector) (s : Nat) : (Zi b v s).Weights.length ≤ b.Weights.length := by
  unfold Zi
  simp
theorem Z9A (b : GBody) (v : List GVector) (s : Nat) : (Zi b v s).Springs.length ≤ b.Springs.length := by
  unfold Zi
  simp
theorem ZcJ (b : GBody) (v : List GVector) (s : Nat) : ∀ t ∈ (Zi b v s).Mesh.Triangles, t ∈ b.Mesh.Triangles := by
  unfold Zi
  simp
theorem ZdL (Ya : GBody) (Yq : (List GVector)) (Yj : Nat) (hp0 : Ya.Mesh.Places.length ≤ 1073741824) (hp1 : Ya.Mesh.Triangles.length ≤ 1073741824) (hp2 : ∀ t ∈ Ya.Mesh.Triangles, t.length ≤ 1073741824) (hp3 : Ya.Springs.length ≤ 1073741824) (hp4 : Ya.Weights.length ≤ 1073741824) (hp5 : Yq.length ≤ 1073741824) (hp6 : Yq.length ≤ Ya.Mesh.Places.length)  : Fn prog 122 [.ref (GBody.cells Ya) 0, .sl (Yq.map GVector.cells), .f .f32 Yj] (.agg [.own 0, .own 1, .own 2, .f .f32 ((Zi Ya Yq Yj).Film), .f .f32 ((Zi Ya Yq Yj).Bend), .own 3, .f .f32 ((Zi Ya Yq Yj).Fall.X), .f .f32 ((Zi Ya Yq Yj).Fall.Y), .f .f32 ((Zi Ya Yq Yj).Fall.Z)]) [.vec 40 3 (((Zi Ya Yq Yj).Mesh.Places).map GVector.cells) false, .nest 49 (((Zi Ya Yq Yj).Mesh.Triangles).map fun l => l.map (cI .i64)) false, .vec 133 4 (((Zi Ya Yq Yj).Springs).map GSpring.cells) false, .vec 27 1 (((Zi Ya Yq Yj).Weights).map (cF .f32)) false] := by
 refine fnS E0Ok Z5 (c := bodyOf f122) [] (.agg [.own 0, .own 1, .own 2, .f .f32 Ya.Film, .f .f32 Ya.Bend, .own 3, .f .f32 Ya.Fall.X, .f .f32 Ya.Fall.Y, .f .f32 Ya.Fall.Z]) [.vec 40 3 ((Z47 Ya Yq Yj).map GVector.cells) false, .nest 49 (Ya.Mesh.Triangles.map fun l => l.map (cI .i64)) false, .vec 133 4 (Ya.Springs.map GSpring.cells) false, .vec 27 1 (Ya.Weights.map (cF .f32)) false] func122 (sF (ZeL Ya hp0 hp1 hp2 hp3 hp4) <| sZ GVector.cells Yq <| sL (mR false [0, 3, 3, 2, 1, 5, 24]) 6 (lp_val (Z6C Ya Yq Yj) (x := (Z47 Ya Yq Yj)) (Zca Ya Yq Yj hp0 hp1 hp2 hp3 hp4 hp5 hp6 (((Yq.length : Int) - 0).toNat + 1) 0 Ya.Mesh.Places (show 0 ≤ 0 from (by omega)) (show Ya.Mesh.Places.length = Ya.Mesh.Places.length from (by simp)) (Nat.lt_succ_self _)) rfl) <| sK [2, 3, 4, 5] sN) rfl (by kernel_rfl) (by kernel_rfl) rfl ?_ ?_
 · rfl
 · simp [Zi]
def Z1H (Y2 : GMotion) (Y3 : (List Int)) (Yc : Nat) (Yd : Nat) (Y8 : Nat) (Y1 : Int) : GVector := (Zn (Zz (Y2.Speeds.getD Y1.toNat default) (Zn ((Z1w Y2.Body Y3).getD Y1.toNat default) (fop .quo .f32 Y8 Yc))) Yd)
def Z1I (Y2 : GMotion) (Y3 : (List Int)) (Yc : Nat) (Yd : Nat) (Y8 : Nat) : Nat → Int → (List GVector) → (List GVector)
  | 0, _, _ => default
  | k + 1, Y1, Yb => (cond (decide (Y1 < (Y2.Speeds.length : Int)))
    (cond (ZU Y3 Y1)
      (Z1I Y2 Y3 Yc Yd Y8 k (Y1 + 1) (Yb ++ [(⟨0, 0, 0⟩ : GVector)]))
      (Z1I Y2 Y3 Yc Yd Y8 k (Y1 + 1) (Yb ++ [(Z1H Y2 Y3 Yc Yd Y8 Y1)])))
    Yb)
def Z6Y (Y2 : GMotion) (Y3 : (List Int)) (Yc : Nat) (Yd : Nat) (Y8 : Nat) (r : (List GVector)) : Ex × St := ((.exit 0), ⟨.ref (GMotion.cells Y2) 0 :: .sl (Y3.map (cI .i64)) :: .any :: .any :: .f .f32 Y8 :: an 5 (.ptr 0 0 0 :: .any :: .own 1 :: .any :: .any :: .ref (GMotion.cells Y2) 0 :: .ref (GMotion.cells Y2) 0 :: .ref (GMotion.cells Y2) 0 :: .sl (Y3.map (cI .i64)) :: .own 2 :: .any :: .ref (GMotion.cells Y2) 0 :: .ref (GMotion.cells Y2) 0 :: .ref (GMotion.cells Y2) 9 :: .sl (Y2.Speeds.map GVector.cells) :: an 39 []), [.box 66 [.nils, .nils, .nils, .f .f32 0, .f .f32 0, .nils, .f .f32 0, .f .f32 0, .f .f32 0, .nils], .vec 40 3 (r.map GVector.cells) false, .vec 40 3 ((Z1w Y2.Body Y3).map GVector.cells) false]⟩)
def Z5g (Y2 : GMotion) (Y3 : (List Int)) (Yc : Nat) (Yd : Nat) (Y8 : Nat) (Y1 : Int) (Yb : (List GVector)) : St := ⟨.ref (GMotion.cells Y2) 0 :: .sl (Y3.map (cI .i64)) :: .f .f32 Yc :: .f .f32 Yd :: .f .f32 Y8 :: an 5 (.ptr 0 0 0 :: .own 1 :: .own 2 :: .any :: .any :: .ref (GMotion.cells Y2) 0 :: .ref (GMotion.cells Y2) 0 :: .ref (GMotion.cells Y2) 0 :: .sl (Y3.map (cI .i64)) :: .own 1 :: .any :: .ref (GMotion.cells Y2) 0 :: .ref (GMotion.cells Y2) 0 :: .ref (GMotion.cells Y2) 9 :: .sl (Y2.Speeds.map GVector.cells) :: .i .i64 (Y2.Speeds.length : Int) :: .i .i64 Y1 :: an 37 []), [.box 66 [.nils, .nils, .nils, .f .f32 0, .f .f32 0, .nils, .f .f32 0, .f .f32 0, .f .f32 0, .nils], .vec 40 3 ((Z1w Y2.Body Y3).map GVector.cells) false, .vec 40 3 (Yb.map GVector.cells) false]⟩
def ZbI : List Bool := (mR false [0, 2, 2, 1, 5, 1, 1, 1, 2, 5, 1, 4, 39])
theorem ZcK (Y2 : GMotion) (Y3 : (List Int)) (Yc : Nat) (Yd : Nat) (Y8 : Nat) (hp0 : Y2.Body.Mesh.Places.length ≤ 1073741824) (hp1 : Y2.Body.Mesh.Triangles.length ≤ 1073741824) (hp2 : ∀ t ∈ Y2.Body.Mesh.Triangles, t.length ≤ 1073741824) (hp3 : Y2.Body.Springs.length ≤ 1073741824) (hp4 : Y2.Body.Weights.length ≤ 1073741824) (hp5 : Y2.Speeds.length ≤ 1073741824) (hp6 : Y3.length ≤ 1073741824) (hp7 : OkBd Y2.Body) (hp8 : Y2.Speeds.length = Y2.Body.Mesh.Places.length) (hp9 : OkIx Y2.Body.Mesh.Places.length (fun x => x) Y3) : ∀ (k : Nat) (Y1 : Int) (Yb : (List GVector)) (Z8y : 0 ≤ Y1) (Z8z : (Yb.length : Int) = Y1) (hk : ((Y2.Speeds.length : Int) - Y1).toNat < k), Lp prog 0 (sub (bodyOf f77) [1, 1, 1, 0, 1, 0, 0]) (Z5g Y2 Y3 Yc Yd Y8 Y1 Yb) (Z6Y Y2 Y3 Yc Yd Y8 (Z1I Y2 Y3 Yc Yd Y8 k Y1 Yb)).1 (Z6Y Y2 Y3 Yc Yd Y8 (Z1I Y2 Y3 Yc Yd Y8 k Y1 Yb)).2 := by
 intro k
 induction k with
 | zero => intro Y1 Yb Z8y Z8z hk; exact absurd hk (Nat.not_lt_zero _)
 | succ k ih =>
  intro Y1 Yb Z8y Z8z hk
  cases Yl : (decide (Y1 < (Y2.Speeds.length : Int))) with
  | true =>
   have Yw := of_decide_eq_true Yl
   have YF : (0 : Int) ≤ Y1 := (by assumption)
   have YG : Y1 < (Y2.Speeds.length : Int) := (by assumption)
   have YH : Y1 < ((Z1w Y2.Body Y3).length : Int) := (by have q := Zb9 Y2.Body Y3; omega)
   have YI : Y1.toNat < (Z1w Y2.Body Y3).length := (by omega)
   have p {a C} (s : Scr a C) := sB Yl <| sK [19, 19] <| sG GVector.cells Y2.Speeds Y1 YF YG <| sX GVector.cells (Z1w Y2.Body Y3) Y1 YF YH <| sV GVector.cells (Z1w Y2.Body Y3) Y1.toNat YI <| sF (Z30 ((Z1w Y2.Body Y3).getD Y1.toNat default) (fop .quo .f32 Y8 Yc)) <| sF (Z3b (Y2.Speeds.getD Y1.toNat default) (Zn ((Z1w Y2.Body Y3).getD Y1.toNat default) (fop .quo .f32 Y8 Yc))) <| sF (Z30 (Zz (Y2.Speeds.getD Y1.toNat default) (Zn ((Z1w Y2.Body Y3).getD Y1.toNat default) (fop .quo .f32 Y8 Yc))) Yd) <| sF (Z9n Y3 Y1 hp6) <| s
   cases Yr : (ZU Y3 Y1) with
   | true =>
    have YP : Yb.length + ([(⟨0, 0, 0⟩ : GVector)]).length ≤ 1073741824 := by clear p; exact (by simp_all <;> omega)
    have YS : (-9223372036854775808 : Int) ≤ (Y1 + 1) := by clear p; exact (by omega)
    have y_6 : (Y1 + 1) ≤ (9223372036854775807 : Int) := by clear p; exact (by omega)
    have e : Z1I Y2 Y3 Yc Yd Y8 (k + 1) Y1 Yb = (Z1I Y2 Y3 Yc Yd Y8 k (Y1 + 1) (Yb ++ [(⟨0, 0, 0⟩ : GVector)])) := by simp only [Z1I, Yl, Yr, cond_true]
    rw [e]
    exact nextS E0Ok Z5 [] (mR false [0, 5, 5, 3, 2, 5, 1, 6, 37]) [0, 1, 2] (⟨.ref (GMotion.cells Y2) 0 :: .sl (Y3.map (cI .i64)) :: .f .f32 Yc :: .f .f32 Yd :: .f .f32 Y8 :: an 5 (.ptr 0 0 0 :: .own 1 :: .own 2 :: .any :: .any :: .ref (GMotion.cells Y2) 0 :: .ref (GMotion.cells Y2) 0 :: .ref (GMotion.cells Y2) 0 :: .sl (Y3.map (cI .i64)) :: .own 1 :: .any :: .ref (GMotion.cells Y2) 0 :: .ref (GMotion.cells Y2) 0 :: .ref (GMotion.cells Y2) 9 :: .sl (Y2.Speeds.map GVector.cells) :: .i .i64 (Y2.Speeds.length : Int) :: .i .i64 (Y1 + 1) :: an 37 []), [.box 66 [.nils, .nils, .nils, .f .f32 0, .f .f32 0, .nils, .f .f32 0, .f .f32 0, .f .f32 0, .nils], .vec 40 3 ((Z1w Y2.Body Y3).map GVector.cells) false, .vec 40 3 ((Yb.map GVector.cells) ++ ([[.f .f32 0, .f .f32 0, .f .f32 0]] : List (List AV))) false]⟩) (p (sB Yr <| sC (show (Yb.map GVector.cells).length + ([[.f .f32 0, .f .f32 0, .f .f32 0]] : List (List AV)).length ≤ 1073741824 from (by simpa using YP)) <| sI (Y1 + 1) YS y_6 <| sN)) (by kernel_rfl) (by simp [Z5g, GVector.cells]) (ih (Y1 + 1) (Yb ++ [(⟨0, 0, 0⟩ : GVector)]) (show 0 ≤ (Y1 + 1) from (by omega)) (show ((Yb ++ [(⟨0, 0, 0⟩ : GVector)]).length : Int) = (Y1 + 1) from (by simp_all <;> omega)) (by omega))
   | false =>
    have YP : Yb.length + ([(Z1H Y2 Y3 Yc Yd Y8 Y1)]).length ≤ 1073741824 := by clear p; exact (by simp_all <;> omega)
    have YS : (-9223372036854775808 : Int) ≤ (Y1 + 1) := by clear p; exact (by omega)
    have y_6 : (Y1 + 1) ≤ (9223372036854775807 : Int) := by clear p; exact (by omega)
    have e : Z1I Y2 Y3 Yc Yd Y8 (k + 1) Y1 Yb = (Z1I Y2 Y3 Yc Yd Y8 k (Y1 + 1) (Yb ++ [(Z1H Y2 Y3 Yc Yd Y8 Y1)])) := by simp only [Z1I, Yl, Yr, cond_true, cond_false]
    rw [e]
    exact nextS E0Ok Z5 [] (mR false [0, 5, 5, 3, 2, 5, 1, 6, 37]) [0, 1, 2] (⟨.ref (GMotion.cells Y2) 0 :: .sl (Y3.map (cI .i64)) :: .f .f32 Yc :: .f .f32 Yd :: .f .f32 Y8 :: an 5 (.ptr 0 0 0 :: .own 1 :: .own 2 :: .any :: .any :: .ref (GMotion.cells Y2) 0 :: .ref (GMotion.cells Y2) 0 :: .ref (GMotion.cells Y2) 0 :: .sl (Y3.map (cI .i64)) :: .own 1 :: .any :: .ref (GMotion.cells Y2) 0 :: .ref (GMotion.cells Y2) 0 :: .ref (GMotion.cells Y2) 9 :: .sl (Y2.Speeds.map GVector.cells) :: .i .i64 (Y2.Speeds.length : Int) :: .i .i64 (Y1 + 1) :: an 37 []), [.box 66 [.nils, .nils, .nils, .f .f32 0, .f .f32 0, .nils, .f .f32 0, .f .f32 0, .f .f32 0, .nils], .vec 40 3 ((Z1w Y2.Body Y3).map GVector.cells) false, .vec 40 3 ((Yb.map GVector.cells) ++ ([[.f .f32 ((Z1H Y2 Y3 Yc Yd Y8 Y1).X), .f .f32 ((Z1H Y2 Y3 Yc Yd Y8 Y1).Y), .f .f32 ((Z1H Y2 Y3 Yc Yd Y8 Y1).Z)]] : List (List AV))) false]⟩) (p (sB Yr <| sC (show (Yb.map GVector.cells).length + ([[.f .f32 ((Z1H Y2 Y3 Yc Yd Y8 Y1).X), .f .f32 ((Z1H Y2 Y3 Yc Yd Y8 Y1).Y), .f .f32 ((Z1H Y2 Y3 Yc Yd Y8 Y1).Z)]] : List (List AV)).length ≤ 1073741824 from (by simpa using YP)) <| sI (Y1 + 1) YS y_6 <| sN)) (by kernel_rfl) (by simp [Z5g, GVector.cells]) (ih (Y1 + 1) (Yb ++ [(Z1H Y2 Y3 Yc Yd Y8 Y1)]) (show 0 ≤ (Y1 + 1) from (by omega)) (show ((Yb ++ [(Z1H Y2 Y3 Yc Yd Y8 Y1)]).length : Int) = (Y1 + 1) from (by simp_all <;> omega)) (by omega))
  | false =>
   have Yw := of_decide_eq_false Yl
   have e : Z1I Y2 Y3 Yc Yd Y8 (k + 1) Y1 Yb = Yb := by simp only [Z1I, Yl, cond_false]
   rw [e]
   exact outR (e := (.exit 0)) E0Ok Z5 [] ZbI [0, 2, 1] (sB Yl <| sN) (by kernel_rfl) (by intro h; cases h)
end Go.Ab
