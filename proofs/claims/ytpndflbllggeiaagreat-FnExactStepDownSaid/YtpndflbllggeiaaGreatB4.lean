/- The functions of this seat as plain Lean, and that the program's are these. Printed by a program of the prover's own. -/
import Derived.Test.YtpndflbllggeiaaGreatB3
set_option linter.unusedVariables false
set_option linter.unusedSimpArgs false
set_option maxRecDepth 100000
namespace Go.Ab
open Go.RowKit Go.Proofs.Tryz
theorem Zbm (Y0 : GBody) (Y1 : Int) (Y2 : (List GVector)) : ∀ (k : Nat) (Y6 : Int) (Yo : (List GVector)) (hk : ((3 : Int) - Y6).toNat < k), (ZM Y0 Y1 Y2 k Y6 Yo).length = Yo.length := by
  intro k
  induction k with
  | zero => intro Y6 Yo hk; exact absurd hk (Nat.not_lt_zero _)
  | succ k ih =>
    intro Y6 Yo hk
    cases YD : (decide (Y6 < 3)) with
    | true =>
      have e : ZM Y0 Y1 Y2 (k + 1) Y6 Yo = (ZM Y0 Y1 Y2 k (Y6 + 1) (Yo.set (((Y0.Mesh.Triangles.getD Y1.toNat default).getD Y6.toNat default).toNat) (Z23 Y0 Y1 Y6 Yo))) := by simp only [ZM, YD, cond_true]
      rw [e, ih (Y6 + 1) (Yo.set (((Y0.Mesh.Triangles.getD Y1.toNat default).getD Y6.toNat default).toNat) (Z23 Y0 Y1 Y6 Yo)) (by simp_all <;> omega)]; simp
    | false =>
      have e : ZM Y0 Y1 Y2 (k + 1) Y6 Yo = Yo := by simp only [ZM, YD, cond_false]
      first | (rw [e]; done) | (rw [e]; rfl)
def Z2z (Y0 : GBody) (Y1 : Int) (Y2 : (List GVector)) : (List GVector) := (ZM Y0 Y1 Y2 (((3 : Int) - 0).toNat + 1) 0 Y2)
@[simp] theorem Zfn (Y0 : GBody) (Y1 : Int) (Y2 : (List GVector)) : (Z2z Y0 Y1 Y2).length = (Y2 : (List GVector)).length := Zbm Y0 Y1 Y2 (((3 : Int) - 0).toNat + 1) 0 Y2 (by exact Nat.lt_succ_self _)
def ZY (Y0 : GBody) : Nat → Int → (List GVector) → (List GVector)
  | 0, _, _ => default
  | k + 1, Y1, Y2 => (cond (decide (Y1 < (Y0.Mesh.Triangles.length : Int)))
    (ZY Y0 k (Y1 + 1) (Z2z Y0 Y1 Y2))
    Y2)
def Z6p (Y0 : GBody) (r : (List GVector)) : Ex × St := ((.exit 2), ⟨.ref (GBody.cells Y0) 0 :: .any :: .nils :: .ref (GBody.cells Y0) 0 :: .own 0 :: an 15 (.ref (GBody.cells Y0) 0 :: .ref (GBody.cells Y0) 0 :: .ref (GBody.cells Y0) 0 :: .ref (GBody.cells Y0) 0 :: .ref (GBody.cells Y0) 0 :: .ref (GBody.cells Y0) 0 :: .sl (Y0.Mesh.Places.map GVector.cells) :: .i .i64 (Y0.Mesh.Places.length : Int) :: .own 0 :: .ref (GBody.cells Y0) 0 :: .ref (GBody.cells Y0) 0 :: .ref (GBody.cells Y0) 2 :: .sl (Y0.Springs.map GSpring.cells) :: an 52 (.ref (GBody.cells Y0) 0 :: .ref (GBody.cells Y0) 0 :: .ref (GBody.cells Y0) 1 :: .sl (Y0.Mesh.Triangles.map (cL (cI .i64))) :: an 191 [])), [.vec 40 3 (r.map GVector.cells) false]⟩)
def Zck (Y0 : GBody) (Y1 : Int) (Y2 : (List GVector)) : St := ⟨.ref (GBody.cells Y0) 0 :: .any :: .nils :: .ref (GBody.cells Y0) 0 :: .own 0 :: an 15 (.ref (GBody.cells Y0) 0 :: .ref (GBody.cells Y0) 0 :: .ref (GBody.cells Y0) 0 :: .ref (GBody.cells Y0) 0 :: .ref (GBody.cells Y0) 0 :: .ref (GBody.cells Y0) 0 :: .sl (Y0.Mesh.Places.map GVector.cells) :: .i .i64 (Y0.Mesh.Places.length : Int) :: .own 0 :: .ref (GBody.cells Y0) 0 :: .ref (GBody.cells Y0) 0 :: .ref (GBody.cells Y0) 2 :: .sl (Y0.Springs.map GSpring.cells) :: an 52 (.ref (GBody.cells Y0) 0 :: .ref (GBody.cells Y0) 0 :: .ref (GBody.cells Y0) 1 :: .sl (Y0.Mesh.Triangles.map (cL (cI .i64))) :: .i .i64 (Y0.Mesh.Triangles.length : Int) :: .i .i64 Y1 :: an 189 [])), [.vec 40 3 (Y2.map GVector.cells) false]⟩
def Z7I : List Bool := (mR false [0, 1, 1, 3, 15, 13, 52, 6, 189])
def Zbn : List Bool := (mR false [0, 1, 1, 3, 15, 13, 52, 4, 191])
theorem Zcl (Y0 : GBody) (hp0 : Y0.Mesh.Places.length ≤ 1073741824) (hp1 : Y0.Mesh.Triangles.length ≤ 1073741824) (hp2 : ∀ t ∈ Y0.Mesh.Triangles, t.length ≤ 1073741824) (hp3 : Y0.Springs.length ≤ 1073741824) (hp4 : Y0.Weights.length ≤ 1073741824) (hp5 : OkBd Y0) : ∀ (k : Nat) (Y1 : Int) (Y2 : (List GVector)) (Z4J : 0 ≤ Y1) (Z4K : Y2.length = Y0.Mesh.Places.length) (hk : ((Y0.Mesh.Triangles.length : Int) - Y1).toNat < k), Lp prog 0 (sub (bodyOf f51) [1, 1, 1, 1, 0, 1, 0, 0]) (Zck Y0 Y1 Y2) (Z6p Y0 (ZY Y0 k Y1 Y2)).1 (Z6p Y0 (ZY Y0 k Y1 Y2)).2 := by
 intro k
 induction k with
 | zero => intro Y1 Y2 Z4J Z4K hk; exact absurd hk (Nat.not_lt_zero _)
 | succ k ih =>
  intro Y1 Y2 Z4J Z4K hk
  cases Yg : (decide (Y1 < (Y0.Mesh.Triangles.length : Int))) with
  | true =>
   have Yt := of_decide_eq_true Yg
   have YA : (0 : Int) ≤ Y1 := (by assumption)
   have YE : Y1 < (Y0.Mesh.Triangles.length : Int) := (by assumption)
   have YG : (Y0.Mesh.Triangles.getD Y1.toNat default).length ≤ 1073741824 := (by exact tri3L hp5.e (by assumption) Yg)
   have YH : (Y0.Mesh.Triangles.getD Y1.toNat default).length = 3 ∧ ∀ x ∈ (Y0.Mesh.Triangles.getD Y1.toNat default), 0 ≤ x ∧ x < (Y0.Mesh.Places.length : Int) := (by exact tri3 hp5.e (by assumption) Yg)
   have YL : (-9223372036854775808 : Int) ≤ (Y1 + 1) := (by omega)
   have YQ : (Y1 + 1) ≤ (9223372036854775807 : Int) := (by omega)
   have e : ZY Y0 (k + 1) Y1 Y2 = (ZY Y0 k (Y1 + 1) (Z2z Y0 Y1 Y2)) := by simp only [ZY, Yg, cond_true]
   rw [e]
   exact nextR E0Ok Z4 [] Z7I [0] (ih (Y1 + 1) (Z2z Y0 Y1 Y2) (show 0 ≤ (Y1 + 1) from (by omega)) (show (Z2z Y0 Y1 Y2).length = Y0.Mesh.Places.length from (by simp_all <;> omega)) (by omega)) (sB Yg <| sG (cL (cI .i64)) Y0.Mesh.Triangles Y1 YA YE <| sF (Fn.sub (args := [.ref (GBody.cells Y0) 0, .sl ((Y0.Mesh.Triangles.getD Y1.toNat default).map (cI .i64))]) (r := .agg [.f .f32 ((Zc Y0.Mesh (Y0.Mesh.Triangles.getD Y1.toNat default)).X), .f .f32 ((Zc Y0.Mesh (Y0.Mesh.Triangles.getD Y1.toNat default)).Y), .f .f32 ((Zc Y0.Mesh (Y0.Mesh.Triangles.getD Y1.toNat default)).Z)]) (new := []) [some 2, none] (Zao Y0.Mesh (Y0.Mesh.Triangles.getD Y1.toNat default) hp0 hp1 hp2 YG YH)) <| sK [8, 8] <| sF (Z6X (Zc Y0.Mesh (Y0.Mesh.Triangles.getD Y1.toNat default))) <| sF (Zbh (fneg .f32 (fop .mul .f32 1056964608 Y0.Film)) (Z1U (Zc Y0.Mesh (Y0.Mesh.Triangles.getD Y1.toNat default)))) <| sL Z7F 2 (lp_val (Z6o Y0 Y1 Y2) (x := (Z2z Y0 Y1 Y2)) (Zcj Y0 Y1 Y2 hp0 hp1 hp2 hp3 hp4 hp5 Z4J Z4K Yg (((3 : Int) - 0).toNat + 1) 0 Y2 (show 0 ≤ 0 from (by omega)) (show Y2.length = Y2.length from (by omega)) (Nat.lt_succ_self _)) rfl) <| sI (Y1 + 1) YL YQ <| sN) (by kernel_rfl)
  | false =>
   have Yt := of_decide_eq_false Yg
   have e : ZY Y0 (k + 1) Y1 Y2 = Y2 := by simp only [ZY, Yg, cond_false]
   rw [e]
   exact outR (e := (.exit 2)) E0Ok Z4 [] Zbn [0] (sB Yg <| sN) (by kernel_rfl) (by intro h; cases h)
theorem Zbo (Y0 : GBody) : ∀ (k : Nat) (Y1 : Int) (Y2 : (List GVector)) (hk : ((Y0.Mesh.Triangles.length : Int) - Y1).toNat < k), (ZY Y0 k Y1 Y2).length = Y2.length := by
  intro k
  induction k with
  | zero => intro Y1 Y2 hk; exact absurd hk (Nat.not_lt_zero _)
  | succ k ih =>
    intro Y1 Y2 hk
    cases Yg : (decide (Y1 < (Y0.Mesh.Triangles.length : Int))) with
    | true =>
      have e : ZY Y0 (k + 1) Y1 Y2 = (ZY Y0 k (Y1 + 1) (Z2z Y0 Y1 Y2)) := by simp only [ZY, Yg, cond_true]
      rw [e, ih (Y1 + 1) (Z2z Y0 Y1 Y2) (by simp_all <;> omega)]; simp
    | false =>
      have e : ZY Y0 (k + 1) Y1 Y2 = Y2 := by simp only [ZY, Yg, cond_false]
      first | (rw [e]; done) | (rw [e]; rfl)
def Z32 (Y0 : GBody) : (List GVector) := (ZY Y0 (((Y0.Mesh.Triangles.length : Int) - 0).toNat + 1) 0 (Z31 Y0))
@[simp] theorem Zfo (Y0 : GBody) : (Z32 Y0).length = ((Z31 Y0) : (List GVector)).length := Zbo Y0 (((Y0.Mesh.Triangles.length : Int) - 0).toNat + 1) 0 (Z31 Y0) (by exact Nat.lt_succ_self _)
def Z8 (Y0 : GBody) (Y1 : Int) (Y2 : (List GVector)) : GVector := (Zx (Y2.getD ((((Z0 Y0.Mesh).getD Y1.toNat default).getD 0 default).toNat) default) (Zl (ZO Y0.Mesh ((Z0 Y0.Mesh).getD Y1.toNat default)) Y0.Bend))
def Zb (Y0 : GBody) (Y1 : Int) (Y2 : (List GVector)) : GVector := (Zx ((Y2.set ((((Z0 Y0.Mesh).getD Y1.toNat default).getD 0 default).toNat) (Z8 Y0 Y1 Y2)).getD ((((Z0 Y0.Mesh).getD Y1.toNat default).getD 1 default).toNat) default) (Zl (ZO Y0.Mesh ((Z0 Y0.Mesh).getD Y1.toNat default)) Y0.Bend))
def Zh (Y0 : GBody) (Y1 : Int) (Y2 : (List GVector)) : GVector := (Zx (((Y2.set ((((Z0 Y0.Mesh).getD Y1.toNat default).getD 0 default).toNat) (Z8 Y0 Y1 Y2)).set ((((Z0 Y0.Mesh).getD Y1.toNat default).getD 1 default).toNat) (Zb Y0 Y1 Y2)).getD ((((Z0 Y0.Mesh).getD Y1.toNat default).getD 2 default).toNat) default) (Zl (ZO Y0.Mesh ((Z0 Y0.Mesh).getD Y1.toNat default)) (fneg .f32 Y0.Bend)))
def Z2r (Y0 : GBody) (Y1 : Int) (Y2 : (List GVector)) : GVector := (Zx ((((Y2.set ((((Z0 Y0.Mesh).getD Y1.toNat default).getD 0 default).toNat) (Z8 Y0 Y1 Y2)).set ((((Z0 Y0.Mesh).getD Y1.toNat default).getD 1 default).toNat) (Zb Y0 Y1 Y2)).set ((((Z0 Y0.Mesh).getD Y1.toNat default).getD 2 default).toNat) (Zh Y0 Y1 Y2)).getD ((((Z0 Y0.Mesh).getD Y1.toNat default).getD 3 default).toNat) default) (Zl (ZO Y0.Mesh ((Z0 Y0.Mesh).getD Y1.toNat default)) (fneg .f32 Y0.Bend)))
def ZZ (Y0 : GBody) : Nat → Int → (List GVector) → (List GVector)
  | 0, _, _ => default
  | k + 1, Y1, Y2 => (cond (decide (Y1 < ((Z0 Y0.Mesh).length : Int)))
    (ZZ Y0 k (Y1 + 1) ((((Y2.set ((((Z0 Y0.Mesh).getD Y1.toNat default).getD 0 default).toNat) (Z8 Y0 Y1 Y2)).set ((((Z0 Y0.Mesh).getD Y1.toNat default).getD 1 default).toNat) (Zb Y0 Y1 Y2)).set ((((Z0 Y0.Mesh).getD Y1.toNat default).getD 2 default).toNat) (Zh Y0 Y1 Y2)).set ((((Z0 Y0.Mesh).getD Y1.toNat default).getD 3 default).toNat) (Z2r Y0 Y1 Y2)))
    Y2)
def Z6q (Y0 : GBody) (r : (List GVector)) : Ex × St := ((.exit 6), ⟨.ref (GBody.cells Y0) 0 :: .any :: .nils :: .ref (GBody.cells Y0) 0 :: .own 0 :: an 10 (.own 1 :: an 4 (.ref (GBody.cells Y0) 0 :: .ref (GBody.cells Y0) 0 :: .ref (GBody.cells Y0) 0 :: .ref (GBody.cells Y0) 0 :: .ref (GBody.cells Y0) 0 :: .ref (GBody.cells Y0) 0 :: .sl (Y0.Mesh.Places.map GVector.cells) :: .i .i64 (Y0.Mesh.Places.length : Int) :: .own 0 :: .ref (GBody.cells Y0) 0 :: .ref (GBody.cells Y0) 0 :: .ref (GBody.cells Y0) 2 :: .sl (Y0.Springs.map GSpring.cells) :: an 52 (.ref (GBody.cells Y0) 0 :: .ref (GBody.cells Y0) 0 :: .ref (GBody.cells Y0) 1 :: .sl (Y0.Mesh.Triangles.map (cL (cI .i64))) :: an 72 (.ref (GBody.cells Y0) 0 :: .own 1 :: .own 1 :: an 116 [])))), [.vec 40 3 (r.map GVector.cells) false, .nest 49 ((Z0 Y0.Mesh).map fun l => l.map (cI .i64)) false]⟩)
def Zcm (Y0 : GBody) (Y1 : Int) (Y2 : (List GVector)) : St := ⟨.ref (GBody.cells Y0) 0 :: .any :: .nils :: .ref (GBody.cells Y0) 0 :: .own 0 :: an 10 (.own 1 :: an 4 (.ref (GBody.cells Y0) 0 :: .ref (GBody.cells Y0) 0 :: .ref (GBody.cells Y0) 0 :: .ref (GBody.cells Y0) 0 :: .ref (GBody.cells Y0) 0 :: .ref (GBody.cells Y0) 0 :: .sl (Y0.Mesh.Places.map GVector.cells) :: .i .i64 (Y0.Mesh.Places.length : Int) :: .own 0 :: .ref (GBody.cells Y0) 0 :: .ref (GBody.cells Y0) 0 :: .ref (GBody.cells Y0) 2 :: .sl (Y0.Springs.map GSpring.cells) :: an 52 (.ref (GBody.cells Y0) 0 :: .ref (GBody.cells Y0) 0 :: .ref (GBody.cells Y0) 1 :: .sl (Y0.Mesh.Triangles.map (cL (cI .i64))) :: an 72 (.ref (GBody.cells Y0) 0 :: .own 1 :: .own 1 :: .i .i64 ((Z0 Y0.Mesh).length : Int) :: .i .i64 Y1 :: an 114 [])))), [.vec 40 3 (Y2.map GVector.cells) false, .nest 49 ((Z0 Y0.Mesh).map fun l => l.map (cI .i64)) false]⟩
def Z7J : List Bool := (mR false [0, 1, 1, 3, 10, 1, 4, 13, 52, 4, 72, 5, 114])
def Zbp : List Bool := (mR false [0, 1, 1, 3, 10, 1, 4, 13, 52, 4, 72, 3, 116])
set_option maxHeartbeats 1000000 in
theorem Zcn (Y0 : GBody) (hp0 : Y0.Mesh.Places.length ≤ 1073741824) (hp1 : Y0.Mesh.Triangles.length ≤ 1073741824) (hp2 : ∀ t ∈ Y0.Mesh.Triangles, t.length ≤ 1073741824) (hp3 : Y0.Springs.length ≤ 1073741824) (hp4 : Y0.Weights.length ≤ 1073741824) (hp5 : OkBd Y0) : ∀ (k : Nat) (Y1 : Int) (Y2 : (List GVector)) (Z7K : 0 ≤ Y1) (Z7L : Y2.length = Y0.Mesh.Places.length) (hk : (((Z0 Y0.Mesh).length : Int) - Y1).toNat < k), Lp prog 0 (sub (bodyOf f51) [1, 1, 1, 1, 1, 1, 0, 1, 0, 0]) (Zcm Y0 Y1 Y2) (Z6q Y0 (ZZ Y0 k Y1 Y2)).1 (Z6q Y0 (ZZ Y0 k Y1 Y2)).2 := by
 intro k
 induction k with
 | zero => intro Y1 Y2 Z7K Z7L hk; exact absurd hk (Nat.not_lt_zero _)
 | succ k ih =>
  intro Y1 Y2 Z7K Z7L hk
  cases Yg : (decide (Y1 < ((Z0 Y0.Mesh).length : Int))) with
  | true =>
   have Yt := of_decide_eq_true Yg
   have YA : (0 : Int) ≤ Y1 := (by assumption)
   have YE : Int.toNat Y1 < (Z0 Y0.Mesh).length := (by omega)
   have YG : Y1.toNat < (Z0 Y0.Mesh).length := (by assumption)
   have YH : ((Z0 Y0.Mesh).getD Y1.toNat default).length ≤ 1073741824 := (by exact Zhk hp5.e (by assumption) Yg)
   have YL : ((Z0 Y0.Mesh).getD Y1.toNat default).length = 4 ∧ ∀ x ∈ ((Z0 Y0.Mesh).getD Y1.toNat default), 0 ≤ x ∧ x < (Y0.Mesh.Places.length : Int) := (by exact hin4 hp5.e (by assumption) Yg)
   have YQ : (0 : Int) ≤ 0 := (by omega)
   have YW : 0 < (((Z0 Y0.Mesh).getD Y1.toNat default).length : Int) := (by omega)
   have y_7 : 0 < ((Z0 Y0.Mesh).getD Y1.toNat default).length := (by omega)
   have y_8 : (0 : Int) ≤ (((Z0 Y0.Mesh).getD Y1.toNat default).getD 0 default) := (by (have q := Z3B _ hp5.e; (have q := Okh.at (hin4 hp5.e (by assumption) Yg); omega)))
   have y_9 : (((Z0 Y0.Mesh).getD Y1.toNat default).getD 0 default) < (Y2.length : Int) := (by (have q := Z3B _ hp5.e; (have q := Okh.at (hin4 hp5.e (by assumption) Yg); omega)))
   have Y13 : (((Z0 Y0.Mesh).getD Y1.toNat default).getD 0 default).toNat < Y2.length := (by omega)
   have Y1c : (0 : Int) ≤ 1 := (by omega)
   have Y1g : 1 < (((Z0 Y0.Mesh).getD Y1.toNat default).length : Int) := (by omega)
   have Y1h : 1 < ((Z0 Y0.Mesh).getD Y1.toNat default).length := (by omega)
   have Y1q : (0 : Int) ≤ (((Z0 Y0.Mesh).getD Y1.toNat default).getD 1 default) := (by (have q := Z3B _ hp5.e; (have q := Okh.at (hin4 hp5.e (by assumption) Yg); omega)))
   have Y1r : (((Z0 Y0.Mesh).getD Y1.toNat default).getD 1 default) < ((Y2.set ((((Z0 Y0.Mesh).getD Y1.toNat default).getD 0 default).toNat) (Z8 Y0 Y1 Y2)).length : Int) := (by (have q := Z3B _ hp5.e; (have q := Okh.at (hin4 hp5.e (by assumption) Yg); (simp only [List.length_set]; omega))))
   have Y1s : (((Z0 Y0.Mesh).getD Y1.toNat default).getD 1 default).toNat < (Y2.set ((((Z0 Y0.Mesh).getD Y1.toNat default).getD 0 default).toNat) (Z8 Y0 Y1 Y2)).length := (by omega)
   have Y1t : (0 : Int) ≤ 2 := (by omega)
   have Y1u : 2 < (((Z0 Y0.Mesh).getD Y1.toNat default).length : Int) := (by omega)
   have Y1v : 2 < ((Z0 Y0.Mesh).getD Y1.toNat default).length := (by omega)
   have Y1z : (0 : Int) ≤ (((Z0 Y0.Mesh).getD Y1.toNat default).getD 2 default) := (by (have q := Z3B _ hp5.e; (have q := Okh.at (hin4 hp5.e (by assumption) Yg); omega)))
   have Y1A : (((Z0 Y0.Mesh).getD Y1.toNat default).getD 2 default) < (((Y2.set ((((Z0 Y0.Mesh).getD Y1.toNat default).getD 0 default).toNat) (Z8 Y0 Y1 Y2)).set ((((Z0 Y0.Mesh).getD Y1.toNat default).getD 1 default).toNat) (Zb Y0 Y1 Y2)).length : Int) := (by (have q := Z3B _ hp5.e; (have q := Okh.at (hin4 hp5.e (by assumption) Yg); (simp only [List.length_set]; omega))))
   have Y1B : (((Z0 Y0.Mesh).getD Y1.toNat default).getD 2 default).toNat < ((Y2.set ((((Z0 Y0.Mesh).getD Y1.toNat default).getD 0 default).toNat) (Z8 Y0 Y1 Y2)).set ((((Z0 Y0.Mesh).getD Y1.toNat default).getD 1 default).toNat) (Zb Y0 Y1 Y2)).length := (by omega)
   have Y1C : (0 : Int) ≤ 3 := (by omega)
   have Y1D : 3 < (((Z0 Y0.Mesh).getD Y1.toNat default).length : Int) := (by omega)
   have Y1E : 3 < ((Z0 Y0.Mesh).getD Y1.toNat default).length := (by omega)
   have Y1F : (0 : Int) ≤ (((Z0 Y0.Mesh).getD Y1.toNat default).getD 3 default) := (by (have q := Z3B _ hp5.e; (have q := Okh.at (hin4 hp5.e (by assumption) Yg); omega)))
   have Y1G : (((Z0 Y0.Mesh).getD Y1.toNat default).getD 3 default) < ((((Y2.set ((((Z0 Y0.Mesh).getD Y1.toNat default).getD 0 default).toNat) (Z8 Y0 Y1 Y2)).set ((((Z0 Y0.Mesh).getD Y1.toNat default).getD 1 default).toNat) (Zb Y0 Y1 Y2)).set ((((Z0 Y0.Mesh).getD Y1.toNat default).getD 2 default).toNat) (Zh Y0 Y1 Y2)).length : Int) := (by (have q := Z3B _ hp5.e; (have q := Okh.at (hin4 hp5.e (by assumption) Yg); (simp only [List.length_set]; omega))))
   have Y1H : (((Z0 Y0.Mesh).getD Y1.toNat default).getD 3 default).toNat < (((Y2.set ((((Z0 Y0.Mesh).getD Y1.toNat default).getD 0 default).toNat) (Z8 Y0 Y1 Y2)).set ((((Z0 Y0.Mesh).getD Y1.toNat default).getD 1 default).toNat) (Zb Y0 Y1 Y2)).set ((((Z0 Y0.Mesh).getD Y1.toNat default).getD 2 default).toNat) (Zh Y0 Y1 Y2)).length := (by omega)
   have Y1J : (-9223372036854775808 : Int) ≤ (Y1 + 1) := (by omega)
   have Y1K : (Y1 + 1) ≤ (9223372036854775807 : Int) := (by have q := Z3B _ hp5.e; omega)
   have e : ZZ Y0 (k + 1) Y1 Y2 = (ZZ Y0 k (Y1 + 1) ((((Y2.set ((((Z0 Y0.Mesh).getD Y1.toNat default).getD 0 default).toNat) (Z8 Y0 Y1 Y2)).set ((((Z0 Y0.Mesh).getD Y1.toNat default).getD 1 default).toNat) (Zb Y0 Y1 Y2)).set ((((Z0 Y0.Mesh).getD Y1.toNat default).getD 2 default).toNat) (Zh Y0 Y1 Y2)).set ((((Z0 Y0.Mesh).getD Y1.toNat default).getD 3 default).toNat) (Z2r Y0 Y1 Y2))) := by simp only [ZZ, Yg, cond_true]
   rw [e]
   exact nextS E0Ok Z4 [] Z7J [0, 1] (⟨.ref (GBody.cells Y0) 0 :: .any :: .nils :: .ref (GBody.cells Y0) 0 :: .own 0 :: an 10 (.own 1 :: an 4 (.ref (GBody.cells Y0) 0 :: .ref (GBody.cells Y0) 0 :: .ref (GBody.cells Y0) 0 :: .ref (GBody.cells Y0) 0 :: .ref (GBody.cells Y0) 0 :: .ref (GBody.cells Y0) 0 :: .sl (Y0.Mesh.Places.map GVector.cells) :: .i .i64 (Y0.Mesh.Places.length : Int) :: .own 0 :: .ref (GBody.cells Y0) 0 :: .ref (GBody.cells Y0) 0 :: .ref (GBody.cells Y0) 2 :: .sl (Y0.Springs.map GSpring.cells) :: an 52 (.ref (GBody.cells Y0) 0 :: .ref (GBody.cells Y0) 0 :: .ref (GBody.cells Y0) 1 :: .sl (Y0.Mesh.Triangles.map (cL (cI .i64))) :: an 72 (.ref (GBody.cells Y0) 0 :: .own 1 :: .own 1 :: .i .i64 ((Z0 Y0.Mesh).length : Int) :: .i .i64 (Y1 + 1) :: an 114 [])))), [.vec 40 3 (((((Y2.map GVector.cells).set ((((Z0 Y0.Mesh).getD Y1.toNat default).getD 0 default).toNat) [.f .f32 ((Z8 Y0 Y1 Y2).X), .f .f32 ((Z8 Y0 Y1 Y2).Y), .f .f32 ((Z8 Y0 Y1 Y2).Z)]).set ((((Z0 Y0.Mesh).getD Y1.toNat default).getD 1 default).toNat) [.f .f32 ((Zb Y0 Y1 Y2).X), .f .f32 ((Zb Y0 Y1 Y2).Y), .f .f32 ((Zb Y0 Y1 Y2).Z)]).set ((((Z0 Y0.Mesh).getD Y1.toNat default).getD 2 default).toNat) [.f .f32 ((Zh Y0 Y1 Y2).X), .f .f32 ((Zh Y0 Y1 Y2).Y), .f .f32 ((Zh Y0 Y1 Y2).Z)]).set ((((Z0 Y0.Mesh).getD Y1.toNat default).getD 3 default).toNat) [.f .f32 ((Z2r Y0 Y1 Y2).X), .f .f32 ((Z2r Y0 Y1 Y2).Y), .f .f32 ((Z2r Y0 Y1 Y2).Z)]) false, .nest 49 ((Z0 Y0.Mesh).map fun l => l.map (cI .i64)) false]⟩) (sB Yg <| sC (nestix (c := (cI .i64)) (l := (Z0 Y0.Mesh)) (i := Y1) YA YE) <| sC (nestlt (c := (cI .i64)) (l := (Z0 Y0.Mesh)) YG) <| sF (Fn.sub (args := [.ref (GBody.cells Y0) 0, .sl (((Z0 Y0.Mesh).map fun l => l.map (cI .i64)).getD Y1.toNat [])]) (r := .agg [.f .f32 ((ZO Y0.Mesh ((Z0 Y0.Mesh).getD Y1.toNat default)).X), .f .f32 ((ZO Y0.Mesh ((Z0 Y0.Mesh).getD Y1.toNat default)).Y), .f .f32 ((ZO Y0.Mesh ((Z0 Y0.Mesh).getD Y1.toNat default)).Z)]) (new := []) [some 2, none] (Fn.castA (args' := [.ref [.sl (Y0.Mesh.Places.map GVector.cells), .sl (Y0.Mesh.Triangles.map (cL (cI .i64)))] 0, .sl (((Z0 Y0.Mesh).map fun l => l.map (cI .i64)).getD Y1.toNat [])]) (Zbj Y0.Mesh ((Z0 Y0.Mesh).getD Y1.toNat default) hp0 hp1 hp2 YH YL) (by simp [cI]; rfl))) <| sK [17, 17] <| sC (iidx_ok (c := (cI .i64)) (l := (Z0 Y0.Mesh)) (j := Y1.toNat) (i := 0) YQ YW) <| sE (iget_ok (c := (cI .i64)) (l := (Z0 Y0.Mesh)) (j := Y1.toNat) (k := 0) y_7) <| sC (iidx_ok (c := (cI .i64)) (l := (Z0 Y0.Mesh)) (j := Y1.toNat) (i := 0) YQ YW) <| sE (iget_ok (c := (cI .i64)) (l := (Z0 Y0.Mesh)) (j := Y1.toNat) (k := 0) y_7) <| sX GVector.cells Y2 (((Z0 Y0.Mesh).getD Y1.toNat default).getD 0 default) y_8 y_9 <| sV GVector.cells Y2 ((((Z0 Y0.Mesh).getD Y1.toNat default).getD 0 default).toNat) Y13 <| sF (Z3H (ZO Y0.Mesh ((Z0 Y0.Mesh).getD Y1.toNat default)) Y0.Bend) <| sF (Z3A (Y2.getD ((((Z0 Y0.Mesh).getD Y1.toNat default).getD 0 default).toNat) default) (Zl (ZO Y0.Mesh ((Z0 Y0.Mesh).getD Y1.toNat default)) Y0.Bend)) <| sX GVector.cells Y2 (((Z0 Y0.Mesh).getD Y1.toNat default).getD 0 default) y_8 y_9 <| sC (maplt (c := GVector.cells) (l := Y2) Y13) <| sK [17, 17] <| sC (iidx_ok (c := (cI .i64)) (l := (Z0 Y0.Mesh)) (j := Y1.toNat) (i := 1) Y1c Y1g) <| sE (iget_ok (c := (cI .i64)) (l := (Z0 Y0.Mesh)) (j := Y1.toNat) (k := 1) Y1h) <| sC (iidx_ok (c := (cI .i64)) (l := (Z0 Y0.Mesh)) (j := Y1.toNat) (i := 1) Y1c Y1g) <| sE (iget_ok (c := (cI .i64)) (l := (Z0 Y0.Mesh)) (j := Y1.toNat) (k := 1) Y1h) <| sC (show 0 ≤ (((Z0 Y0.Mesh).getD Y1.toNat default).getD 1 default) ∧ Int.toNat (((Z0 Y0.Mesh).getD Y1.toNat default).getD 1 default) < ((Y2.map GVector.cells).set ((((Z0 Y0.Mesh).getD Y1.toNat default).getD 0 default).toNat) [.f .f32 ((Z8 Y0 Y1 Y2).X), .f .f32 ((Z8 Y0 Y1 Y2).Y), .f .f32 ((Z8 Y0 Y1 Y2).Z)]).length from (by simpa using idx_ok (c := GVector.cells) (l := (Y2.set ((((Z0 Y0.Mesh).getD Y1.toNat default).getD 0 default).toNat) (Z8 Y0 Y1 Y2))) (i := (((Z0 Y0.Mesh).getD Y1.toNat default).getD 1 default)) Y1q Y1r)) <| sE (show ((Y2.map GVector.cells).set ((((Z0 Y0.Mesh).getD Y1.toNat default).getD 0 default).toNat) [.f .f32 ((Z8 Y0 Y1 Y2).X), .f .f32 ((Z8 Y0 Y1 Y2).Y), .f .f32 ((Z8 Y0 Y1 Y2).Z)])[(((Z0 Y0.Mesh).getD Y1.toNat default).getD 1 default).toNat]? = some [.f .f32 (((Y2.set ((((Z0 Y0.Mesh).getD Y1.toNat default).getD 0 default).toNat) (Z8 Y0 Y1 Y2)).getD ((((Z0 Y0.Mesh).getD Y1.toNat default).getD 1 default).toNat) default).X), .f .f32 (((Y2.set ((((Z0 Y0.Mesh).getD Y1.toNat default).getD 0 default).toNat) (Z8 Y0 Y1 Y2)).getD ((((Z0 Y0.Mesh).getD Y1.toNat default).getD 1 default).toNat) default).Y), .f .f32 (((Y2.set ((((Z0 Y0.Mesh).getD Y1.toNat default).getD 0 default).toNat) (Z8 Y0 Y1 Y2)).getD ((((Z0 Y0.Mesh).getD Y1.toNat default).getD 1 default).toNat) default).Z)] from (by have q := vget_ok (c := GVector.cells) (l := (Y2.set ((((Z0 Y0.Mesh).getD Y1.toNat default).getD 0 default).toNat) (Z8 Y0 Y1 Y2))) (k := (((Z0 Y0.Mesh).getD Y1.toNat default).getD 1 default).toNat) Y1s; (simp only [List.map_set, List.map_append, List.map_cons, List.map_nil, List.map_replicate] at q; exact q))) <| sF (Z3H (ZO Y0.Mesh ((Z0 Y0.Mesh).getD Y1.toNat default)) Y0.Bend) <| sF (Z3A ((Y2.set ((((Z0 Y0.Mesh).getD Y1.toNat default).getD 0 default).toNat) (Z8 Y0 Y1 Y2)).getD ((((Z0 Y0.Mesh).getD Y1.toNat default).getD 1 default).toNat) default) (Zl (ZO Y0.Mesh ((Z0 Y0.Mesh).getD Y1.toNat default)) Y0.Bend)) <| sC (show 0 ≤ (((Z0 Y0.Mesh).getD Y1.toNat default).getD 1 default) ∧ Int.toNat (((Z0 Y0.Mesh).getD Y1.toNat default).getD 1 default) < ((Y2.map GVector.cells).set ((((Z0 Y0.Mesh).getD Y1.toNat default).getD 0 default).toNat) [.f .f32 ((Z8 Y0 Y1 Y2).X), .f .f32 ((Z8 Y0 Y1 Y2).Y), .f .f32 ((Z8 Y0 Y1 Y2).Z)]).length from (by simpa using idx_ok (c := GVector.cells) (l := (Y2.set ((((Z0 Y0.Mesh).getD Y1.toNat default).getD 0 default).toNat) (Z8 Y0 Y1 Y2))) (i := (((Z0 Y0.Mesh).getD Y1.toNat default).getD 1 default)) Y1q Y1r)) <| sC (show (((Z0 Y0.Mesh).getD Y1.toNat default).getD 1 default).toNat < ((Y2.map GVector.cells).set ((((Z0 Y0.Mesh).getD Y1.toNat default).getD 0 default).toNat) [.f .f32 ((Z8 Y0 Y1 Y2).X), .f .f32 ((Z8 Y0 Y1 Y2).Y), .f .f32 ((Z8 Y0 Y1 Y2).Z)]).length from (by simpa using Y1s)) <| sK [18, 18] <| sC (iidx_ok (c := (cI .i64)) (l := (Z0 Y0.Mesh)) (j := Y1.toNat) (i := 2) Y1t Y1u) <| sE (iget_ok (c := (cI .i64)) (l := (Z0 Y0.Mesh)) (j := Y1.toNat) (k := 2) Y1v) <| sC (iidx_ok (c := (cI .i64)) (l := (Z0 Y0.Mesh)) (j := Y1.toNat) (i := 2) Y1t Y1u) <| sE (iget_ok (c := (cI .i64)) (l := (Z0 Y0.Mesh)) (j := Y1.toNat) (k := 2) Y1v) <| sC (show 0 ≤ (((Z0 Y0.Mesh).getD Y1.toNat default).getD 2 default) ∧ Int.toNat (((Z0 Y0.Mesh).getD Y1.toNat default).getD 2 default) < (((Y2.map GVector.cells).set ((((Z0 Y0.Mesh).getD Y1.toNat default).getD 0 default).toNat) [.f .f32 ((Z8 Y0 Y1 Y2).X), .f .f32 ((Z8 Y0 Y1 Y2).Y), .f .f32 ((Z8 Y0 Y1 Y2).Z)]).set ((((Z0 Y0.Mesh).getD Y1.toNat default).getD 1 default).toNat) [.f .f32 ((Zb Y0 Y1 Y2).X), .f .f32 ((Zb Y0 Y1 Y2).Y), .f .f32 ((Zb Y0 Y1 Y2).Z)]).length from (by simpa using idx_ok (c := GVector.cells) (l := ((Y2.set ((((Z0 Y0.Mesh).getD Y1.toNat default).getD 0 default).toNat) (Z8 Y0 Y1 Y2)).set ((((Z0 Y0.Mesh).getD Y1.toNat default).getD 1 default).toNat) (Zb Y0 Y1 Y2))) (i := (((Z0 Y0.Mesh).getD Y1.toNat default).getD 2 default)) Y1z Y1A)) <| sE (show (((Y2.map GVector.cells).set ((((Z0 Y0.Mesh).getD Y1.toNat default).getD 0 default).toNat) [.f .f32 ((Z8 Y0 Y1 Y2).X), .f .f32 ((Z8 Y0 Y1 Y2).Y), .f .f32 ((Z8 Y0 Y1 Y2).Z)]).set ((((Z0 Y0.Mesh).getD Y1.toNat default).getD 1 default).toNat) [.f .f32 ((Zb Y0 Y1 Y2).X), .f .f32 ((Zb Y0 Y1 Y2).Y), .f .f32 ((Zb Y0 Y1 Y2).Z)])[(((Z0 Y0.Mesh).getD Y1.toNat default).getD 2 default).toNat]? = some [.f .f32 ((((Y2.set ((((Z0 Y0.Mesh).getD Y1.toNat default).getD 0 default).toNat) (Z8 Y0 Y1 Y2)).set ((((Z0 Y0.Mesh).getD Y1.toNat default).getD 1 default).toNat) (Zb Y0 Y1 Y2)).getD ((((Z0 Y0.Mesh).getD Y1.toNat default).getD 2 default).toNat) default).X), .f .f32 ((((Y2.set ((((Z0 Y0.Mesh).getD Y1.toNat default).getD 0 default).toNat) (Z8 Y0 Y1 Y2)).set ((((Z0 Y0.Mesh).getD Y1.toNat default).getD 1 default).toNat) (Zb Y0 Y1 Y2)).getD ((((Z0 Y0.Mesh).getD Y1.toNat default).getD 2 default).toNat) default).Y), .f .f32 ((((Y2.set ((((Z0 Y0.Mesh).getD Y1.toNat default).getD 0 default).toNat) (Z8 Y0 Y1 Y2)).set ((((Z0 Y0.Mesh).getD Y1.toNat default).getD 1 default).toNat) (Zb Y0 Y1 Y2)).getD ((((Z0 Y0.Mesh).getD Y1.toNat default).getD 2 default).toNat) default).Z)] from (by have q := vget_ok (c := GVector.cells) (l := ((Y2.set ((((Z0 Y0.Mesh).getD Y1.toNat default).getD 0 default).toNat) (Z8 Y0 Y1 Y2)).set ((((Z0 Y0.Mesh).getD Y1.toNat default).getD 1 default).toNat) (Zb Y0 Y1 Y2))) (k := (((Z0 Y0.Mesh).getD Y1.toNat default).getD 2 default).toNat) Y1B; (simp only [List.map_set, List.map_append, List.map_cons, List.map_nil, List.map_replicate] at q; exact q))) <| sF (Z3H (ZO Y0.Mesh ((Z0 Y0.Mesh).getD Y1.toNat default)) (fneg .f32 Y0.Bend)) <| sF (Z3A (((Y2.set ((((Z0 Y0.Mesh).getD Y1.toNat default).getD 0 default).toNat) (Z8 Y0 Y1 Y2)).set ((((Z0 Y0.Mesh).getD Y1.toNat default).getD 1 default).toNat) (Zb Y0 Y1 Y2)).getD ((((Z0 Y0.Mesh).getD Y1.toNat default).getD 2 default).toNat) default) (Zl (ZO Y0.Mesh ((Z0 Y0.Mesh).getD Y1.toNat default)) (fneg .f32 Y0.Bend))) <| sC (show 0 ≤ (((Z0 Y0.Mesh).getD Y1.toNat default).getD 2 default) ∧ Int.toNat (((Z0 Y0.Mesh).getD Y1.toNat default).getD 2 default) < (((Y2.map GVector.cells).set ((((Z0 Y0.Mesh).getD Y1.toNat default).getD 0 default).toNat) [.f .f32 ((Z8 Y0 Y1 Y2).X), .f .f32 ((Z8 Y0 Y1 Y2).Y), .f .f32 ((Z8 Y0 Y1 Y2).Z)]).set ((((Z0 Y0.Mesh).getD Y1.toNat default).getD 1 default).toNat) [.f .f32 ((Zb Y0 Y1 Y2).X), .f .f32 ((Zb Y0 Y1 Y2).Y), .f .f32 ((Zb Y0 Y1 Y2).Z)]).length from (by simpa using idx_ok (c := GVector.cells) (l := ((Y2.set ((((Z0 Y0.Mesh).getD Y1.toNat default).getD 0 default).toNat) (Z8 Y0 Y1 Y2)).set ((((Z0 Y0.Mesh).getD Y1.toNat default).getD 1 default).toNat) (Zb Y0 Y1 Y2))) (i := (((Z0 Y0.Mesh).getD Y1.toNat default).getD 2 default)) Y1z Y1A)) <| sC (show (((Z0 Y0.Mesh).getD Y1.toNat default).getD 2 default).toNat < (((Y2.map GVector.cells).set ((((Z0 Y0.Mesh).getD Y1.toNat default).getD 0 default).toNat) [.f .f32 ((Z8 Y0 Y1 Y2).X), .f .f32 ((Z8 Y0 Y1 Y2).Y), .f .f32 ((Z8 Y0 Y1 Y2).Z)]).set ((((Z0 Y0.Mesh).getD Y1.toNat default).getD 1 default).toNat) [.f .f32 ((Zb Y0 Y1 Y2).X), .f .f32 ((Zb Y0 Y1 Y2).Y), .f .f32 ((Zb Y0 Y1 Y2).Z)]).length from (by simpa using Y1B)) <| sK [18, 18] <| sC (iidx_ok (c := (cI .i64)) (l := (Z0 Y0.Mesh)) (j := Y1.toNat) (i := 3) Y1C Y1D) <| sE (iget_ok (c := (cI .i64)) (l := (Z0 Y0.Mesh)) (j := Y1.toNat) (k := 3) Y1E) <| sC (iidx_ok (c := (cI .i64)) (l := (Z0 Y0.Mesh)) (j := Y1.toNat) (i := 3) Y1C Y1D) <| sE (iget_ok (c := (cI .i64)) (l := (Z0 Y0.Mesh)) (j := Y1.toNat) (k := 3) Y1E) <| sC (show 0 ≤ (((Z0 Y0.Mesh).getD Y1.toNat default).getD 3 default) ∧ Int.toNat (((Z0 Y0.Mesh).getD Y1.toNat default).getD 3 default) < ((((Y2.map GVector.cells).set ((((Z0 Y0.Mesh).getD Y1.toNat default).getD 0 default).toNat) [.f .f32 ((Z8 Y0 Y1 Y2).X), .f .f32 ((Z8 Y0 Y1 Y2).Y), .f .f32 ((Z8 Y0 Y1 Y2).Z)]).set ((((Z0 Y0.Mesh).getD Y1.toNat default).getD 1 default).toNat) [.f .f32 ((Zb Y0 Y1 Y2).X), .f .f32 ((Zb Y0 Y1 Y2).Y), .f .f32 ((Zb Y0 Y1 Y2).Z)]).set ((((Z0 Y0.Mesh).getD Y1.toNat default).getD 2 default).toNat) [.f .f32 ((Zh Y0 Y1 Y2).X), .f .f32 ((Zh Y0 Y1 Y2).Y), .f .f32 ((Zh Y0 Y1 Y2).Z)]).length from (by simpa using idx_ok (c := GVector.cells) (l := (((Y2.set ((((Z0 Y0.Mesh).getD Y1.toNat default).getD 0 default).toNat) (Z8 Y0 Y1 Y2)).set ((((Z0 Y0.Mesh).getD Y1.toNat default).getD 1 default).toNat) (Zb Y0 Y1 Y2)).set ((((Z0 Y0.Mesh).getD Y1.toNat default).getD 2 default).toNat) (Zh Y0 Y1 Y2))) (i := (((Z0 Y0.Mesh).getD Y1.toNat default).getD 3 default)) Y1F Y1G)) <| sE (show ((((Y2.map GVector.cells).set ((((Z0 Y0.Mesh).getD Y1.toNat default).getD 0 default).toNat) [.f .f32 ((Z8 Y0 Y1 Y2).X), .f .f32 ((Z8 Y0 Y1 Y2).Y), .f .f32 ((Z8 Y0 Y1 Y2).Z)]).set ((((Z0 Y0.Mesh).getD Y1.toNat default).getD 1 default).toNat) [.f .f32 ((Zb Y0 Y1 Y2).X), .f .f32 ((Zb Y0 Y1 Y2).Y), .f .f32 ((Zb Y0 Y1 Y2).Z)]).set ((((Z0 Y0.Mesh).getD Y1.toNat default).getD 2 default).toNat) [.f .f32 ((Zh Y0 Y1 Y2).X), .f .f32 ((Zh Y0 Y1 Y2).Y), .f .f32 ((Zh Y0 Y1 Y2).Z)])[(((Z0 Y0.Mesh).getD Y1.toNat default).getD 3 default).toNat]? = some [.f .f32 (((((Y2.set ((((Z0 Y0.Mesh).getD Y1.toNat default).getD 0 default).toNat) (Z8 Y0 Y1 Y2)).set ((((Z0 Y0.Mesh).getD Y1.toNat default).getD 1 default).toNat) (Zb Y0 Y1 Y2)).set ((((Z0 Y0.Mesh).getD Y1.toNat default).getD 2 default).toNat) (Zh Y0 Y1 Y2)).getD ((((Z0 Y0.Mesh).getD Y1.toNat default).getD 3 default).toNat) default).X), .f .f32 (((((Y2.set ((((Z0 Y0.Mesh).getD Y1.toNat default).getD 0 default).toNat) (Z8 Y0 Y1 Y2)).set ((((Z0 Y0.Mesh).getD Y1.toNat default).getD 1 default).toNat) (Zb Y0 Y1 Y2)).set ((((Z0 Y0.Mesh).getD Y1.toNat default).getD 2 default).toNat) (Zh Y0 Y1 Y2)).getD ((((Z0 Y0.Mesh).getD Y1.toNat default).getD 3 default).toNat) default).Y), .f .f32 (((((Y2.set ((((Z0 Y0.Mesh).getD Y1.toNat default).getD 0 default).toNat) (Z8 Y0 Y1 Y2)).set ((((Z0 Y0.Mesh).getD Y1.toNat default).getD 1 default).toNat) (Zb Y0 Y1 Y2)).set ((((Z0 Y0.Mesh).getD Y1.toNat default).getD 2 default).toNat) (Zh Y0 Y1 Y2)).getD ((((Z0 Y0.Mesh).getD Y1.toNat default).getD 3 default).toNat) default).Z)] from (by have q := vget_ok (c := GVector.cells) (l := (((Y2.set ((((Z0 Y0.Mesh).getD Y1.toNat default).getD 0 default).toNat) (Z8 Y0 Y1 Y2)).set ((((Z0 Y0.Mesh).getD Y1.toNat default).getD 1 default).toNat) (Zb Y0 Y1 Y2)).set ((((Z0 Y0.Mesh).getD Y1.toNat default).getD 2 default).toNat) (Zh Y0 Y1 Y2))) (k := (((Z0 Y0.Mesh).getD Y1.toNat default).getD 3 default).toNat) Y1H; (simp only [List.map_set, List.map_append, List.map_cons, List.map_nil, List.map_replicate] at q; exact q))) <| sF (Z3H (ZO Y0.Mesh ((Z0 Y0.Mesh).getD Y1.toNat default)) (fneg .f32 Y0.Bend)) <| sF (Z3A ((((Y2.set ((((Z0 Y0.Mesh).getD Y1.toNat default).getD 0 default).toNat) (Z8 Y0 Y1 Y2)).set ((((Z0 Y0.Mesh).getD Y1.toNat default).getD 1 default).toNat) (Zb Y0 Y1 Y2)).set ((((Z0 Y0.Mesh).getD Y1.toNat default).getD 2 default).toNat) (Zh Y0 Y1 Y2)).getD ((((Z0 Y0.Mesh).getD Y1.toNat default).getD 3 default).toNat) default) (Zl (ZO Y0.Mesh ((Z0 Y0.Mesh).getD Y1.toNat default)) (fneg .f32 Y0.Bend))) <| sC (show 0 ≤ (((Z0 Y0.Mesh).getD Y1.toNat default).getD 3 default) ∧ Int.toNat (((Z0 Y0.Mesh).getD Y1.toNat default).getD 3 default) < ((((Y2.map GVector.cells).set ((((Z0 Y0.Mesh).getD Y1.toNat default).getD 0 default).toNat) [.f .f32 ((Z8 Y0 Y1 Y2).X), .f .f32 ((Z8 Y0 Y1 Y2).Y), .f .f32 ((Z8 Y0 Y1 Y2).Z)]).set ((((Z0 Y0.Mesh).getD Y1.toNat default).getD 1 default).toNat) [.f .f32 ((Zb Y0 Y1 Y2).X), .f .f32 ((Zb Y0 Y1 Y2).Y), .f .f32 ((Zb Y0 Y1 Y2).Z)]).set ((((Z0 Y0.Mesh).getD Y1.toNat default).getD 2 default).toNat) [.f .f32 ((Zh Y0 Y1 Y2).X), .f .f32 ((Zh Y0 Y1 Y2).Y), .f .f32 ((Zh Y0 Y1 Y2).Z)]).length from (by simpa using idx_ok (c := GVector.cells) (l := (((Y2.set ((((Z0 Y0.Mesh).getD Y1.toNat default).getD 0 default).toNat) (Z8 Y0 Y1 Y2)).set ((((Z0 Y0.Mesh).getD Y1.toNat default).getD 1 default).toNat) (Zb Y0 Y1 Y2)).set ((((Z0 Y0.Mesh).getD Y1.toNat default).getD 2 default).toNat) (Zh Y0 Y1 Y2))) (i := (((Z0 Y0.Mesh).getD Y1.toNat default).getD 3 default)) Y1F Y1G)) <| sC (show (((Z0 Y0.Mesh).getD Y1.toNat default).getD 3 default).toNat < ((((Y2.map GVector.cells).set ((((Z0 Y0.Mesh).getD Y1.toNat default).getD 0 default).toNat) [.f .f32 ((Z8 Y0 Y1 Y2).X), .f .f32 ((Z8 Y0 Y1 Y2).Y), .f .f32 ((Z8 Y0 Y1 Y2).Z)]).set ((((Z0 Y0.Mesh).getD Y1.toNat default).getD 1 default).toNat) [.f .f32 ((Zb Y0 Y1 Y2).X), .f .f32 ((Zb Y0 Y1 Y2).Y), .f .f32 ((Zb Y0 Y1 Y2).Z)]).set ((((Z0 Y0.Mesh).getD Y1.toNat default).getD 2 default).toNat) [.f .f32 ((Zh Y0 Y1 Y2).X), .f .f32 ((Zh Y0 Y1 Y2).Y), .f .f32 ((Zh Y0 Y1 Y2).Z)]).length from (by simpa using Y1H)) <| sI (Y1 + 1) Y1J Y1K <| sN) (by kernel_rfl) (show _ = ⟨.ref (GBody.cells Y0) 0 :: .any :: .nils :: .ref (GBody.cells Y0) 0 :: .own 0 :: an 10 (.own 1 :: an 4 (.ref (GBody.cells Y0) 0 :: .ref (GBody.cells Y0) 0 :: .ref (GBody.cells Y0) 0 :: .ref (GBody.cells Y0) 0 :: .ref (GBody.cells Y0) 0 :: .ref (GBody.cells Y0) 0 :: .sl (Y0.Mesh.Places.map GVector.cells) :: .i .i64 (Y0.Mesh.Places.length : Int) :: .own 0 :: .ref (GBody.cells Y0) 0 :: .ref (GBody.cells Y0) 0 :: .ref (GBody.cells Y0) 2 :: .sl (Y0.Springs.map GSpring.cells) :: an 52 (.ref (GBody.cells Y0) 0 :: .ref (GBody.cells Y0) 0 :: .ref (GBody.cells Y0) 1 :: .sl (Y0.Mesh.Triangles.map (cL (cI .i64))) :: an 72 (.ref (GBody.cells Y0) 0 :: .own 1 :: .own 1 :: .i .i64 ((Z0 Y0.Mesh).length : Int) :: .i .i64 (Y1 + 1) :: an 114 [])))), [.vec 40 3 (((((Y2.set ((((Z0 Y0.Mesh).getD Y1.toNat default).getD 0 default).toNat) (Z8 Y0 Y1 Y2)).set ((((Z0 Y0.Mesh).getD Y1.toNat default).getD 1 default).toNat) (Zb Y0 Y1 Y2)).set ((((Z0 Y0.Mesh).getD Y1.toNat default).getD 2 default).toNat) (Zh Y0 Y1 Y2)).set ((((Z0 Y0.Mesh).getD Y1.toNat default).getD 3 default).toNat) (Z2r Y0 Y1 Y2)).map GVector.cells) false, .nest 49 ((Z0 Y0.Mesh).map fun l => l.map (cI .i64)) false]⟩ from (by simp [List.map_set, GVector.cells])) (ih (Y1 + 1) ((((Y2.set ((((Z0 Y0.Mesh).getD Y1.toNat default).getD 0 default).toNat) (Z8 Y0 Y1 Y2)).set ((((Z0 Y0.Mesh).getD Y1.toNat default).getD 1 default).toNat) (Zb Y0 Y1 Y2)).set ((((Z0 Y0.Mesh).getD Y1.toNat default).getD 2 default).toNat) (Zh Y0 Y1 Y2)).set ((((Z0 Y0.Mesh).getD Y1.toNat default).getD 3 default).toNat) (Z2r Y0 Y1 Y2)) (show 0 ≤ (Y1 + 1) from (by omega)) (show ((((Y2.set ((((Z0 Y0.Mesh).getD Y1.toNat default).getD 0 default).toNat) (Z8 Y0 Y1 Y2)).set ((((Z0 Y0.Mesh).getD Y1.toNat default).getD 1 default).toNat) (Zb Y0 Y1 Y2)).set ((((Z0 Y0.Mesh).getD Y1.toNat default).getD 2 default).toNat) (Zh Y0 Y1 Y2)).set ((((Z0 Y0.Mesh).getD Y1.toNat default).getD 3 default).toNat) (Z2r Y0 Y1 Y2)).length = Y0.Mesh.Places.length from (by (have q := Z3B _ hp5.e; (have q := Okh.at (hin4 hp5.e (by assumption) Yg); (simp only [List.length_set]; omega))))) (by omega))
  | false =>
   have Yt := of_decide_eq_false Yg
   have e : ZZ Y0 (k + 1) Y1 Y2 = Y2 := by simp only [ZZ, Yg, cond_false]
   rw [e]
   exact outR (e := (.exit 6)) E0Ok Z4 [] Zbp [0, 1] (sB Yg <| sN) (by kernel_rfl) (by intro h; cases h)
theorem Zbq (Y0 : GBody) : ∀ (k : Nat) (Y1 : Int) (Y2 : (List GVector)) (hk : (((Z0 Y0.Mesh).length : Int) - Y1).toNat < k), (ZZ Y0 k Y1 Y2).length = Y2.length := by
  intro k
  induction k with
  | zero => intro Y1 Y2 hk; exact absurd hk (Nat.not_lt_zero _)
  | succ k ih =>
    intro Y1 Y2 hk
    cases Yg : (decide (Y1 < ((Z0 Y0.Mesh).length : Int))) with
    | true =>
      have e : ZZ Y0 (k + 1) Y1 Y2 = (ZZ Y0 k (Y1 + 1) ((((Y2.set ((((Z0 Y0.Mesh).getD Y1.toNat default).getD 0 default).toNat) (Z8 Y0 Y1 Y2)).set ((((Z0 Y0.Mesh).getD Y1.toNat default).getD 1 default).toNat) (Zb Y0 Y1 Y2)).set ((((Z0 Y0.Mesh).getD Y1.toNat default).getD 2 default).toNat) (Zh Y0 Y1 Y2)).set ((((Z0 Y0.Mesh).getD Y1.toNat default).getD 3 default).toNat) (Z2r Y0 Y1 Y2))) := by simp only [ZZ, Yg, cond_true]
      rw [e, ih (Y1 + 1) ((((Y2.set ((((Z0 Y0.Mesh).getD Y1.toNat default).getD 0 default).toNat) (Z8 Y0 Y1 Y2)).set ((((Z0 Y0.Mesh).getD Y1.toNat default).getD 1 default).toNat) (Zb Y0 Y1 Y2)).set ((((Z0 Y0.Mesh).getD Y1.toNat default).getD 2 default).toNat) (Zh Y0 Y1 Y2)).set ((((Z0 Y0.Mesh).getD Y1.toNat default).getD 3 default).toNat) (Z2r Y0 Y1 Y2)) (by simp_all <;> omega)]; simp
    | false =>
      have e : ZZ Y0 (k + 1) Y1 Y2 = Y2 := by simp only [ZZ, Yg, cond_false]
      first | (rw [e]; done) | (rw [e]; rfl)
def Z33 (Y0 : GBody) : (List GVector) := (ZZ Y0 ((((Z0 Y0.Mesh).length : Int) - 0).toNat + 1) 0 (Z32 Y0))
@[simp] theorem Zfp (Y0 : GBody) : (Z33 Y0).length = ((Z32 Y0) : (List GVector)).length := Zbq Y0 ((((Z0 Y0.Mesh).length : Int) - 0).toNat + 1) 0 (Z32 Y0) (by exact Nat.lt_succ_self _)
def Z10 (Y0 : GBody) : Nat → Int → (List GVector) → (List GVector)
  | 0, _, _ => default
  | k + 1, Y1, Y2 => (cond (decide (Y1 < (Y0.Mesh.Places.length : Int)))
    (Z10 Y0 k (Y1 + 1) (Y2.set Y1.toNat (Zx (Y2.getD Y1.toNat default) (Zl Y0.Fall (Y0.Weights.getD Y1.toNat default)))))
    Y2)
def Z6r (Y0 : GBody) (r : (List GVector)) : Ex × St := ((.exit 8), ⟨.ref (GBody.cells Y0) 0 :: .any :: .nils :: .ref (GBody.cells Y0) 0 :: .own 0 :: an 10 (.own 1 :: an 4 (.ref (GBody.cells Y0) 0 :: .ref (GBody.cells Y0) 0 :: .ref (GBody.cells Y0) 0 :: .ref (GBody.cells Y0) 0 :: .ref (GBody.cells Y0) 0 :: .ref (GBody.cells Y0) 0 :: .sl (Y0.Mesh.Places.map GVector.cells) :: .i .i64 (Y0.Mesh.Places.length : Int) :: .own 0 :: .ref (GBody.cells Y0) 0 :: .ref (GBody.cells Y0) 0 :: .ref (GBody.cells Y0) 2 :: .sl (Y0.Springs.map GSpring.cells) :: an 52 (.ref (GBody.cells Y0) 0 :: .ref (GBody.cells Y0) 0 :: .ref (GBody.cells Y0) 1 :: .sl (Y0.Mesh.Triangles.map (cL (cI .i64))) :: an 72 (.ref (GBody.cells Y0) 0 :: .own 1 :: .own 1 :: an 86 (.ref (GBody.cells Y0) 0 :: .ref (GBody.cells Y0) 0 :: .ref (GBody.cells Y0) 0 :: .sl (Y0.Mesh.Places.map GVector.cells) :: an 26 []))))), [.vec 40 3 (r.map GVector.cells) false, .nest 49 ((Z0 Y0.Mesh).map fun l => l.map (cI .i64)) false]⟩)
def Zco (Y0 : GBody) (Y1 : Int) (Y2 : (List GVector)) : St := ⟨.ref (GBody.cells Y0) 0 :: .any :: .nils :: .ref (GBody.cells Y0) 0 :: .own 0 :: an 10 (.own 1 :: an 4 (.ref (GBody.cells Y0) 0 :: .ref (GBody.cells Y0) 0 :: .ref (GBody.cells Y0) 0 :: .ref (GBody.cells Y0) 0 :: .ref (GBody.cells Y0) 0 :: .ref (GBody.cells Y0) 0 :: .sl (Y0.Mesh.Places.map GVector.cells) :: .i .i64 (Y0.Mesh.Places.length : Int) :: .own 0 :: .ref (GBody.cells Y0) 0 :: .ref (GBody.cells Y0) 0 :: .ref (GBody.cells Y0) 2 :: .sl (Y0.Springs.map GSpring.cells) :: an 52 (.ref (GBody.cells Y0) 0 :: .ref (GBody.cells Y0) 0 :: .ref (GBody.cells Y0) 1 :: .sl (Y0.Mesh.Triangles.map (cL (cI .i64))) :: an 72 (.ref (GBody.cells Y0) 0 :: .own 1 :: .own 1 :: an 86 (.ref (GBody.cells Y0) 0 :: .ref (GBody.cells Y0) 0 :: .ref (GBody.cells Y0) 0 :: .sl (Y0.Mesh.Places.map GVector.cells) :: .i .i64 (Y0.Mesh.Places.length : Int) :: .i .i64 Y1 :: an 24 []))))), [.vec 40 3 (Y2.map GVector.cells) false, .nest 49 ((Z0 Y0.Mesh).map fun l => l.map (cI .i64)) false]⟩
def Z7M : List Bool := (mR false [0, 1, 1, 3, 10, 1, 4, 13, 52, 4, 72, 3, 86, 6, 24])
def Zbr : List Bool := (mR false [0, 1, 1, 3, 10, 1, 4, 13, 52, 4, 72, 3, 86, 4, 26])
theorem Zcp (Y0 : GBody) (hp0 : Y0.Mesh.Places.length ≤ 1073741824) (hp1 : Y0.Mesh.Triangles.length ≤ 1073741824) (hp2 : ∀ t ∈ Y0.Mesh.Triangles, t.length ≤ 1073741824) (hp3 : Y0.Springs.length ≤ 1073741824) (hp4 : Y0.Weights.length ≤ 1073741824) (hp5 : OkBd Y0) : ∀ (k : Nat) (Y1 : Int) (Y2 : (List GVector)) (Z7N : 0 ≤ Y1) (Z7O : Y2.length = Y0.Mesh.Places.length) (hk : ((Y0.Mesh.Places.length : Int) - Y1).toNat < k), Lp prog 0 (sub (bodyOf f51) [1, 1, 1, 1, 1, 1, 1, 0, 1, 0, 0]) (Zco Y0 Y1 Y2) (Z6r Y0 (Z10 Y0 k Y1 Y2)).1 (Z6r Y0 (Z10 Y0 k Y1 Y2)).2 := by
 intro k
 induction k with
 | zero => intro Y1 Y2 Z7N Z7O hk; exact absurd hk (Nat.not_lt_zero _)
 | succ k ih =>
  intro Y1 Y2 Z7N Z7O hk
  cases Yg : (decide (Y1 < (Y0.Mesh.Places.length : Int))) with
  | true =>
   have Yt := of_decide_eq_true Yg
   have YA : (0 : Int) ≤ Y1 := (by assumption)
   have YE : Y1 < (Y2.length : Int) := (by omega)
   have YG : Y1.toNat < Y2.length := (by omega)
   have YH : Y1 < (Y0.Weights.length : Int) := (by have q := hp5.w; omega)
   have YL : (-9223372036854775808 : Int) ≤ (Y1 + 1) := (by omega)
   have YQ : (Y1 + 1) ≤ (9223372036854775807 : Int) := (by omega)
   have e : Z10 Y0 (k + 1) Y1 Y2 = (Z10 Y0 k (Y1 + 1) (Y2.set Y1.toNat (Zx (Y2.getD Y1.toNat default) (Zl Y0.Fall (Y0.Weights.getD Y1.toNat default))))) := by simp only [Z10, Yg, cond_true]
   rw [e]
   exact nextS E0Ok Z4 [] Z7M [0, 1] (⟨.ref (GBody.cells Y0) 0 :: .any :: .nils :: .ref (GBody.cells Y0) 0 :: .own 0 :: an 10 (.own 1 :: an 4 (.ref (GBody.cells Y0) 0 :: .ref (GBody.cells Y0) 0 :: .ref (GBody.cells Y0) 0 :: .ref (GBody.cells Y0) 0 :: .ref (GBody.cells Y0) 0 :: .ref (GBody.cells Y0) 0 :: .sl (Y0.Mesh.Places.map GVector.cells) :: .i .i64 (Y0.Mesh.Places.length : Int) :: .own 0 :: .ref (GBody.cells Y0) 0 :: .ref (GBody.cells Y0) 0 :: .ref (GBody.cells Y0) 2 :: .sl (Y0.Springs.map GSpring.cells) :: an 52 (.ref (GBody.cells Y0) 0 :: .ref (GBody.cells Y0) 0 :: .ref (GBody.cells Y0) 1 :: .sl (Y0.Mesh.Triangles.map (cL (cI .i64))) :: an 72 (.ref (GBody.cells Y0) 0 :: .own 1 :: .own 1 :: an 86 (.ref (GBody.cells Y0) 0 :: .ref (GBody.cells Y0) 0 :: .ref (GBody.cells Y0) 0 :: .sl (Y0.Mesh.Places.map GVector.cells) :: .i .i64 (Y0.Mesh.Places.length : Int) :: .i .i64 (Y1 + 1) :: an 24 []))))), [.vec 40 3 ((Y2.map GVector.cells).set Y1.toNat [.f .f32 ((Zx (Y2.getD Y1.toNat default) (Zl Y0.Fall (Y0.Weights.getD Y1.toNat default))).X), .f .f32 ((Zx (Y2.getD Y1.toNat default) (Zl Y0.Fall (Y0.Weights.getD Y1.toNat default))).Y), .f .f32 ((Zx (Y2.getD Y1.toNat default) (Zl Y0.Fall (Y0.Weights.getD Y1.toNat default))).Z)]) false, .nest 49 ((Z0 Y0.Mesh).map fun l => l.map (cI .i64)) false]⟩) (sB Yg <| sK [19, 19] <| sX GVector.cells Y2 Y1 YA YE <| sV GVector.cells Y2 Y1.toNat YG <| sG (cF .f32) Y0.Weights Y1 YA YH <| sF (Z3H Y0.Fall (Y0.Weights.getD Y1.toNat default)) <| sF (Z3A (Y2.getD Y1.toNat default) (Zl Y0.Fall (Y0.Weights.getD Y1.toNat default))) <| sX GVector.cells Y2 Y1 YA YE <| sC (maplt (c := GVector.cells) (l := Y2) YG) <| sI (Y1 + 1) YL YQ <| sN) (by kernel_rfl) (show _ = ⟨.ref (GBody.cells Y0) 0 :: .any :: .nils :: .ref (GBody.cells Y0) 0 :: .own 0 :: an 10 (.own 1 :: an 4 (.ref (GBody.cells Y0) 0 :: .ref (GBody.cells Y0) 0 :: .ref (GBody.cells Y0) 0 :: .ref (GBody.cells Y0) 0 :: .ref (GBody.cells Y0) 0 :: .ref (GBody.cells Y0) 0 :: .sl (Y0.Mesh.Places.map GVector.cells) :: .i .i64 (Y0.Mesh.Places.length : Int) :: .own 0 :: .ref (GBody.cells Y0) 0 :: .ref (GBody.cells Y0) 0 :: .ref (GBody.cells Y0) 2 :: .sl (Y0.Springs.map GSpring.cells) :: an 52 (.ref (GBody.cells Y0) 0 :: .ref (GBody.cells Y0) 0 :: .ref (GBody.cells Y0) 1 :: .sl (Y0.Mesh.Triangles.map (cL (cI .i64))) :: an 72 (.ref (GBody.cells Y0) 0 :: .own 1 :: .own 1 :: an 86 (.ref (GBody.cells Y0) 0 :: .ref (GBody.cells Y0) 0 :: .ref (GBody.cells Y0) 0 :: .sl (Y0.Mesh.Places.map GVector.cells) :: .i .i64 (Y0.Mesh.Places.length : Int) :: .i .i64 (Y1 + 1) :: an 24 []))))), [.vec 40 3 ((Y2.set Y1.toNat (Zx (Y2.getD Y1.toNat default) (Zl Y0.Fall (Y0.Weights.getD Y1.toNat default)))).map GVector.cells) false, .nest 49 ((Z0 Y0.Mesh).map fun l => l.map (cI .i64)) false]⟩ from (by simp [List.map_set, GVector.cells])) (ih (Y1 + 1) (Y2.set Y1.toNat (Zx (Y2.getD Y1.toNat default) (Zl Y0.Fall (Y0.Weights.getD Y1.toNat default)))) (show 0 ≤ (Y1 + 1) from (by omega)) (show (Y2.set Y1.toNat (Zx (Y2.getD Y1.toNat default) (Zl Y0.Fall (Y0.Weights.getD Y1.toNat default)))).length = Y0.Mesh.Places.length from (by simp_all <;> omega)) (by omega))
  | false =>
   have Yt := of_decide_eq_false Yg
   have e : Z10 Y0 (k + 1) Y1 Y2 = Y2 := by simp only [Z10, Yg, cond_false]
   rw [e]
   exact outR (e := (.exit 8)) E0Ok Z4 [] Zbr [0, 1] (sB Yg <| sN) (by kernel_rfl) (by intro h; cases h)
theorem Zbs (Y0 : GBody) : ∀ (k : Nat) (Y1 : Int) (Y2 : (List GVector)) (hk : ((Y0.Mesh.Places.length : Int) - Y1).toNat < k), (Z10 Y0 k Y1 Y2).length = Y2.length := by
  intro k
  induction k with
  | zero => intro Y1 Y2 hk; exact absurd hk (Nat.not_lt_zero _)
  | succ k ih =>
    intro Y1 Y2 hk
    cases Yg : (decide (Y1 < (Y0.Mesh.Places.length : Int))) with
    | true =>
      have e : Z10 Y0 (k + 1) Y1 Y2 = (Z10 Y0 k (Y1 + 1) (Y2.set Y1.toNat (Zx (Y2.getD Y1.toNat default) (Zl Y0.Fall (Y0.Weights.getD Y1.toNat default))))) := by simp only [Z10, Yg, cond_true]
      rw [e, ih (Y1 + 1) (Y2.set Y1.toNat (Zx (Y2.getD Y1.toNat default) (Zl Y0.Fall (Y0.Weights.getD Y1.toNat default)))) (by simp_all <;> omega)]; simp
    | false =>
      have e : Z10 Y0 (k + 1) Y1 Y2 = Y2 := by simp only [Z10, Yg, cond_false]
      first | (rw [e]; done) | (rw [e]; rfl)
def Z47 (Y0 : GBody) : (List GVector) := (Z10 Y0 (((Y0.Mesh.Places.length : Int) - 0).toNat + 1) 0 (Z33 Y0))
@[simp] theorem Zfq (Y0 : GBody) : (Z47 Y0).length = ((Z33 Y0) : (List GVector)).length := Zbs Y0 (((Y0.Mesh.Places.length : Int) - 0).toNat + 1) 0 (Z33 Y0) (by exact Nat.lt_succ_self _)
def Z2X (Y0 : GBody) : (List GVector) := (Z47 Y0)
@[simp] theorem Zge (Y0 : GBody) : (Z2X Y0).length = Y0.Mesh.Places.length := by
  first | (simp [Z2X]; done)
theorem Zef (Y0 : GBody) (hp0 : Y0.Mesh.Places.length ≤ 1073741824) (hp1 : Y0.Mesh.Triangles.length ≤ 1073741824) (hp2 : ∀ t ∈ Y0.Mesh.Triangles, t.length ≤ 1073741824) (hp3 : Y0.Springs.length ≤ 1073741824) (hp4 : Y0.Weights.length ≤ 1073741824) (hp5 : OkBd Y0)  : Fn prog 51 [.ref (GBody.cells Y0) 0] (.own 0) [.vec 40 3 ((Z2X Y0).map GVector.cells) false] := by
 have y0 : (0 : Int) ≤ (Y0.Mesh.Places.length : Int) := (by omega)
 have y1 : ((Y0.Mesh.Places.length : Int) : Int) ≤ 2147483648 := (by omega)
 have y2 : OkE Y0.Mesh.Places.length Y0.Mesh.Triangles := (by exact hp5.e)
 refine fnS E0Ok Z4 (c := bodyOf f51) [] (.own 0) [.vec 40 3 ((Z47 Y0).map GVector.cells) false] func51 (sZ GVector.cells Y0.Mesh.Places <| sC (show (Y0.Mesh.Places.length : Int) = (Y0.Mesh.Places.length : Int) from rfl) <| sC y0 <| sC y1 <| sZ GSpring.cells Y0.Springs <| sL (mR false [0, 1, 1, 3, 15, 15, 245]) 1 (lp_cast (st2 := ⟨.ref (GBody.cells Y0) 0 :: .any :: .nils :: .ref (GBody.cells Y0) 0 :: .own 0 :: an 15 (.ref (GBody.cells Y0) 0 :: .ref (GBody.cells Y0) 0 :: .ref (GBody.cells Y0) 0 :: .ref (GBody.cells Y0) 0 :: .ref (GBody.cells Y0) 0 :: .ref (GBody.cells Y0) 0 :: .sl (Y0.Mesh.Places.map GVector.cells) :: .i .i64 (Y0.Mesh.Places.length : Int) :: .own 0 :: .ref (GBody.cells Y0) 0 :: .ref (GBody.cells Y0) 0 :: .ref (GBody.cells Y0) 2 :: .sl (Y0.Springs.map GSpring.cells) :: .i .i64 (Y0.Springs.length : Int) :: .i .i64 0 :: an 245 []), [.vec 40 3 (List.replicate (Int.toNat (Y0.Mesh.Places.length : Int)) [.f .f32 0, .f .f32 0, .f .f32 0]) false]⟩) (lp_val (Z6m Y0) (x := (Z31 Y0)) (Zch Y0 hp0 hp1 hp2 hp3 hp4 hp5 (((Y0.Springs.length : Int) - 0).toNat + 1) 0 (List.replicate (Y0.Mesh.Places.length : Int).toNat (⟨0, 0, 0⟩ : GVector)) (show 0 ≤ 0 from (by omega)) (show (List.replicate (Y0.Mesh.Places.length : Int).toNat (⟨0, 0, 0⟩ : GVector)).length = Y0.Mesh.Places.length from (by simp; done)) (Nat.lt_succ_self _)) rfl) (by simp [Z8U, GVector.cells])) <| sZ (cL (cI .i64)) Y0.Mesh.Triangles <| sL Z7I 1 (lp_val (Z6p Y0) (x := (Z32 Y0)) (Zcl Y0 hp0 hp1 hp2 hp3 hp4 hp5 (((Y0.Mesh.Triangles.length : Int) - 0).toNat + 1) 0 (Z31 Y0) (show 0 ≤ 0 from (by omega)) (show (Z31 Y0).length = Y0.Mesh.Places.length from (by simp; done)) (Nat.lt_succ_self _)) rfl) <| sF (Fn.sub (args := [.ref (GBody.cells Y0) 0]) (r := .own 0) (new := [.nest 49 ((Z0 Y0.Mesh).map fun l => l.map (cI .i64)) false]) [some 2] (Zas Y0.Mesh hp0 hp1 hp2 y2)) <| sM (nlen_ok (l := (Z0 Y0.Mesh)) (f := fun l => l.map (cI .i64))) <| sL Z7J 2 (lp_val (Z6q Y0) (x := (Z33 Y0)) (Zcn Y0 hp0 hp1 hp2 hp3 hp4 hp5 ((((Z0 Y0.Mesh).length : Int) - 0).toNat + 1) 0 (Z32 Y0) (show 0 ≤ 0 from (by omega)) (show (Z32 Y0).length = Y0.Mesh.Places.length from (by simp; done)) (Nat.lt_succ_self _)) rfl) <| sZ GVector.cells Y0.Mesh.Places <| sL Z7M 2 (lp_val (Z6r Y0) (x := (Z47 Y0)) (Zcp Y0 hp0 hp1 hp2 hp3 hp4 hp5 (((Y0.Mesh.Places.length : Int) - 0).toNat + 1) 0 (Z33 Y0) (show 0 ≤ 0 from (by omega)) (show (Z33 Y0).length = Y0.Mesh.Places.length from (by simp; done)) (Nat.lt_succ_self _)) rfl) <| sK [0] sN) rfl (by kernel_rfl) (by kernel_rfl) rfl ?_ ?_
 · rfl
 · simp [Z2X]
def Z1x (Y3 : GBody) (Ya : (List Int)) : Nat → Int → (List GVector) → (List GVector)
  | 0, _, _ => default
  | k + 1, Y1, Y2 => (cond (decide (Y1 < (Ya.length : Int)))
    (Z1x Y3 Ya k (Y1 + 1) (Y2.set ((Ya.getD Y1.toNat default).toNat) (⟨0, 0, 0⟩ : GVector)))
    Y2)
def Z72 (Y3 : GBody) (Ya : (List Int)) (r : (List GVector)) : Ex × St := ((.exit 0), ⟨.ref (GBody.cells Y3) 0 :: .sl (Ya.map (cI .i64)) :: .any :: .any :: .nils :: .own 0 :: .any :: .ref (GBody.cells Y3) 0 :: .own 0 :: .sl (Ya.map (cI .i64)) :: an 13 [], [.vec 40 3 (r.map GVector.cells) false]⟩)
def ZdC (Y3 : GBody) (Ya : (List Int)) (Y1 : Int) (Y2 : (List GVector)) : St := ⟨.ref (GBody.cells Y3) 0 :: .sl (Ya.map (cI .i64)) :: .any :: .any :: .nils :: .own 0 :: .any :: .ref (GBody.cells Y3) 0 :: .own 0 :: .sl (Ya.map (cI .i64)) :: .i .i64 (Ya.length : Int) :: .i .i64 Y1 :: an 11 [], [.vec 40 3 (Y2.map GVector.cells) false]⟩
theorem ZdD (Y3 : GBody) (Ya : (List Int)) (hp0 : Y3.Mesh.Places.length ≤ 1073741824) (hp1 : Y3.Mesh.Triangles.length ≤ 1073741824) (hp2 : ∀ t ∈ Y3.Mesh.Triangles, t.length ≤ 1073741824) (hp3 : Y3.Springs.length ≤ 1073741824) (hp4 : Y3.Weights.length ≤ 1073741824) (hp5 : Ya.length ≤ 1073741824) (hp6 : OkBd Y3) (hp7 : OkIx Y3.Mesh.Places.length (fun x => x) Ya) : ∀ (k : Nat) (Y1 : Int) (Y2 : (List GVector)) (Z8V : 0 ≤ Y1) (Z8W : Y2.length = Y3.Mesh.Places.length) (hk : ((Ya.length : Int) - Y1).toNat < k), Lp prog 0 (sub (bodyOf f65) [1, 1, 0, 1, 0, 0]) (ZdC Y3 Ya Y1 Y2) (Z72 Y3 Ya (Z1x Y3 Ya k Y1 Y2)).1 (Z72 Y3 Ya (Z1x Y3 Ya k Y1 Y2)).2 := by
 intro k
 induction k with
 | zero => intro Y1 Y2 Z8V Z8W hk; exact absurd hk (Nat.not_lt_zero _)
 | succ k ih =>
  intro Y1 Y2 Z8V Z8W hk
  cases Yg : (decide (Y1 < (Ya.length : Int))) with
  | true =>
   have Yt := of_decide_eq_true Yg
   have YA : (0 : Int) ≤ Y1 := (by assumption)
   have YE : Y1 < (Ya.length : Int) := (by assumption)
   have YG : (0 : Int) ≤ (Ya.getD Y1.toNat default) := (by have q := OkIx.at hp7 (by assumption) Yt; omega)
   have YH : (Ya.getD Y1.toNat default) < (Y2.length : Int) := (by have q := OkIx.at hp7 (by assumption) Yt; omega)
   have YL : (Ya.getD Y1.toNat default).toNat < Y2.length := (by omega)
   have YQ : (-9223372036854775808 : Int) ≤ (Y1 + 1) := (by omega)
   have YW : (Y1 + 1) ≤ (9223372036854775807 : Int) := (by omega)
   have e : Z1x Y3 Ya (k + 1) Y1 Y2 = (Z1x Y3 Ya k (Y1 + 1) (Y2.set ((Ya.getD Y1.toNat default).toNat) (⟨0, 0, 0⟩ : GVector))) := by simp only [Z1x, Yg, cond_true]
   rw [e]
   exact nextS E0Ok Z4 [] (mR false [0, 2, 2, 2, 1, 5, 11]) [0] (⟨.ref (GBody.cells Y3) 0 :: .sl (Ya.map (cI .i64)) :: .any :: .any :: .nils :: .own 0 :: .any :: .ref (GBody.cells Y3) 0 :: .own 0 :: .sl (Ya.map (cI .i64)) :: .i .i64 (Ya.length : Int) :: .i .i64 (Y1 + 1) :: an 11 [], [.vec 40 3 ((Y2.map GVector.cells).set ((Ya.getD Y1.toNat default).toNat) [.f .f32 0, .f .f32 0, .f .f32 0]) false]⟩) (sB Yg <| sG (cI .i64) Ya Y1 YA YE <| sX GVector.cells Y2 (Ya.getD Y1.toNat default) YG YH <| sC (maplt (c := GVector.cells) (l := Y2) YL) <| sI (Y1 + 1) YQ YW <| sN) (by kernel_rfl) (show _ = ⟨.ref (GBody.cells Y3) 0 :: .sl (Ya.map (cI .i64)) :: .any :: .any :: .nils :: .own 0 :: .any :: .ref (GBody.cells Y3) 0 :: .own 0 :: .sl (Ya.map (cI .i64)) :: .i .i64 (Ya.length : Int) :: .i .i64 (Y1 + 1) :: an 11 [], [.vec 40 3 ((Y2.set ((Ya.getD Y1.toNat default).toNat) (⟨0, 0, 0⟩ : GVector)).map GVector.cells) false]⟩ from (by simp [List.map_set, GVector.cells])) (ih (Y1 + 1) (Y2.set ((Ya.getD Y1.toNat default).toNat) (⟨0, 0, 0⟩ : GVector)) (show 0 ≤ (Y1 + 1) from (by omega)) (show (Y2.set ((Ya.getD Y1.toNat default).toNat) (⟨0, 0, 0⟩ : GVector)).length = Y3.Mesh.Places.length from (by have q := OkIx.at hp7 (by assumption) Yt; (simp only [List.length_set]; omega))) (by omega))
  | false =>
   have Yt := of_decide_eq_false Yg
   have e : Z1x Y3 Ya (k + 1) Y1 Y2 = Y2 := by simp only [Z1x, Yg, cond_false]
   rw [e]
   exact outR (e := (.exit 0)) E0Ok Z4 [] (mR false [0, 2, 2, 2, 1, 3, 13]) [0] (sB Yg <| sN) (by kernel_rfl) (by intro h; cases h)
theorem Zcq (Y3 : GBody) (Ya : (List Int)) : ∀ (k : Nat) (Y1 : Int) (Y2 : (List GVector)) (hk : ((Ya.length : Int) - Y1).toNat < k), (Z1x Y3 Ya k Y1 Y2).length = Y2.length := by
  intro k
  induction k with
  | zero => intro Y1 Y2 hk; exact absurd hk (Nat.not_lt_zero _)
  | succ k ih =>
    intro Y1 Y2 hk
    cases Yg : (decide (Y1 < (Ya.length : Int))) with
    | true =>
      have e : Z1x Y3 Ya (k + 1) Y1 Y2 = (Z1x Y3 Ya k (Y1 + 1) (Y2.set ((Ya.getD Y1.toNat default).toNat) (⟨0, 0, 0⟩ : GVector))) := by simp only [Z1x, Yg, cond_true]
      rw [e, ih (Y1 + 1) (Y2.set ((Ya.getD Y1.toNat default).toNat) (⟨0, 0, 0⟩ : GVector)) (by simp_all <;> omega)]; simp
    | false =>
      have e : Z1x Y3 Ya (k + 1) Y1 Y2 = Y2 := by simp only [Z1x, Yg, cond_false]
      first | (rw [e]; done) | (rw [e]; rfl)
def Z4u (Y3 : GBody) (Ya : (List Int)) : (List GVector) := (Z1x Y3 Ya (((Ya.length : Int) - 0).toNat + 1) 0 (Z2X Y3))
@[simp] theorem ZfV (Y3 : GBody) (Ya : (List Int)) : (Z4u Y3 Ya).length = ((Z2X Y3) : (List GVector)).length := Zcq Y3 Ya (((Ya.length : Int) - 0).toNat + 1) 0 (Z2X Y3) (by exact Nat.lt_succ_self _)
def ZI (Y3 : GBody) (Ya : (List Int)) : (List GVector) := (Z4u Y3 Ya)
@[simp] theorem Z8b (Y3 : GBody) (Ya : (List Int)) : (ZI Y3 Ya).length = Y3.Mesh.Places.length := by
  first | (simp [ZI]; done)
theorem Zf4 (Y3 : GBody) (Ya : (List Int)) (hp0 : Y3.Mesh.Places.length ≤ 1073741824) (hp1 : Y3.Mesh.Triangles.length ≤ 1073741824) (hp2 : ∀ t ∈ Y3.Mesh.Triangles, t.length ≤ 1073741824) (hp3 : Y3.Springs.length ≤ 1073741824) (hp4 : Y3.Weights.length ≤ 1073741824) (hp5 : Ya.length ≤ 1073741824) (hp6 : OkBd Y3) (hp7 : OkIx Y3.Mesh.Places.length (fun x => x) Ya)  : Fn prog 65 [.ref (GBody.cells Y3) 0, .sl (Ya.map (cI .i64))] (.own 0) [.vec 40 3 ((ZI Y3 Ya).map GVector.cells) false] := by
 refine fnS E0Ok Z4 (c := bodyOf f65) [] (.own 0) [.vec 40 3 ((Z4u Y3 Ya).map GVector.cells) false] func65 (sF (Zef Y3 hp0 hp1 hp2 hp3 hp4 hp6) <| sZ (cI .i64) Ya <| sL (mR false [0, 2, 2, 2, 1, 5, 11]) 1 (lp_val (Z72 Y3 Ya) (x := (Z4u Y3 Ya)) (ZdD Y3 Ya hp0 hp1 hp2 hp3 hp4 hp5 hp6 hp7 (((Ya.length : Int) - 0).toNat + 1) 0 (Z2X Y3) (show 0 ≤ 0 from (by omega)) (show (Z2X Y3).length = Y3.Mesh.Places.length from (by simp; done)) (Nat.lt_succ_self _)) rfl) <| sK [0] sN) rfl (by kernel_rfl) (by kernel_rfl) rfl ?_ ?_
 · rfl
 · simp [ZI]
def Z6G (Y0 : GBody) (Y1 : Int) : GVector := (Z1P (Y0.Mesh.Places.getD ((Y0.Springs.getD Y1.toNat default).B).toNat default) (Y0.Mesh.Places.getD ((Y0.Springs.getD Y1.toNat default).A).toNat default))
def ZcS (Y0 : GBody) (Y1 : Int) : Nat := (fop .mul .f32 (fop .sub .f32 (Z1U (Z6G Y0 Y1)) ((Y0.Springs.getD Y1.toNat default).Long)) (fop .sub .f32 (Z1U (Z6G Y0 Y1)) ((Y0.Springs.getD Y1.toNat default).Long)))
def Z3n (Y0 : GBody) (Y1 : Int) (Y2 : (List Nat)) : Nat := (fop .add .f32 (Y2.getD 0 default) (fop .mul .f32 (fop .mul .f32 1056964608 ((Y0.Springs.getD Y1.toNat default).Stiff)) (ZcS Y0 Y1)))
def Z1q (Y0 : GBody) : Nat → Int → (List Nat) → (List Nat)
  | 0, _, _ => default
  | k + 1, Y1, Y2 => (cond (decide (Y1 < (Y0.Springs.length : Int)))
    (Z1q Y0 k (Y1 + 1) (Y2.set 0 (Z3n Y0 Y1 Y2)))
    Y2)
def Z6H (Y0 : GBody) (r : (List Nat)) : Ex × St := ((.exit 0), ⟨.ref (GBody.cells Y0) 0 :: .any :: .nils :: .own 0 :: .ref (GBody.cells Y0) 0 :: an 8 (.own 0 :: .ref (GBody.cells Y0) 0 :: .ref (GBody.cells Y0) 0 :: .ref (GBody.cells Y0) 0 :: .ref (GBody.cells Y0) 0 :: .ref (GBody.cells Y0) 0 :: .ref (GBody.cells Y0) 2 :: .sl (Y0.Springs.map GSpring.cells) :: an 139 []), [.vec 27 1 (r.map (cF .f32)) false]⟩)
def Z9r (Y0 : GBody) (Y1 : Int) (Y2 : (List Nat)) : St := ⟨.ref (GBody.cells Y0) 0 :: .any :: .nils :: .own 0 :: .ref (GBody.cells Y0) 0 :: an 8 (.own 0 :: .ref (GBody.cells Y0) 0 :: .ref (GBody.cells Y0) 0 :: .ref (GBody.cells Y0) 0 :: .ref (GBody.cells Y0) 0 :: .ref (GBody.cells Y0) 0 :: .ref (GBody.cells Y0) 2 :: .sl (Y0.Springs.map GSpring.cells) :: .i .i64 (Y0.Springs.length : Int) :: .i .i64 Y1 :: an 137 []), [.vec 27 1 (Y2.map (cF .f32)) false]⟩
theorem ZcT (Y0 : GBody) (hp0 : Y0.Mesh.Places.length ≤ 1073741824) (hp1 : Y0.Mesh.Triangles.length ≤ 1073741824) (hp2 : ∀ t ∈ Y0.Mesh.Triangles, t.length ≤ 1073741824) (hp3 : Y0.Springs.length ≤ 1073741824) (hp4 : Y0.Weights.length ≤ 1073741824) (hp5 : OkBd Y0) : ∀ (k : Nat) (Y1 : Int) (Y2 : (List Nat)) (Z8c : 0 ≤ Y1) (Z8d : Y2.length = 4) (hk : ((Y0.Springs.length : Int) - Y1).toNat < k), Lp prog 0 (sub (bodyOf f133) [1, 1, 1, 0, 1, 0, 0]) (Z9r Y0 Y1 Y2) (Z6H Y0 (Z1q Y0 k Y1 Y2)).1 (Z6H Y0 (Z1q Y0 k Y1 Y2)).2 := by
 intro k
 induction k with
 | zero => intro Y1 Y2 Z8c Z8d hk; exact absurd hk (Nat.not_lt_zero _)
 | succ k ih =>
  intro Y1 Y2 Z8c Z8d hk
  cases Yg : (decide (Y1 < (Y0.Springs.length : Int))) with
  | true =>
   have Yt := of_decide_eq_true Yg
   have YA : (0 : Int) ≤ Y1 := (by assumption)
   have YE : Y1 < (Y0.Springs.length : Int) := (by assumption)
   have YG : (0 : Int) ≤ ((Y0.Springs.getD Y1.toNat default).B) := (by (have q := hp5.w; (have q := Z3l hp5 (by assumption) Yg; omega)))
   have YH : ((Y0.Springs.getD Y1.toNat default).B) < (Y0.Mesh.Places.length : Int) := (by (have q := hp5.w; (have q := Z3l hp5 (by assumption) Yg; omega)))
   have YL : (0 : Int) ≤ ((Y0.Springs.getD Y1.toNat default).A) := (by (have q := hp5.w; (have q := Z3l hp5 (by assumption) Yg; omega)))
   have YQ : ((Y0.Springs.getD Y1.toNat default).A) < (Y0.Mesh.Places.length : Int) := (by (have q := hp5.w; (have q := Z3l hp5 (by assumption) Yg; omega)))
   have YW : (0 : Int) ≤ 0 := (by omega)
   have y_7 : 0 < (Y2.length : Int) := (by omega)
   have y_8 : 0 < Y2.length := (by omega)
   have y_9 : (-9223372036854775808 : Int) ≤ (Y1 + 1) := (by omega)
   have Y13 : (Y1 + 1) ≤ (9223372036854775807 : Int) := (by omega)
   have e : Z1q Y0 (k + 1) Y1 Y2 = (Z1q Y0 k (Y1 + 1) (Y2.set 0 (Z3n Y0 Y1 Y2))) := by simp only [Z1q, Yg, cond_true]
   rw [e]
   exact nextS E0Ok Z4 [] (mR false [0, 1, 1, 3, 8, 10, 137]) [0] (⟨.ref (GBody.cells Y0) 0 :: .any :: .nils :: .own 0 :: .ref (GBody.cells Y0) 0 :: an 8 (.own 0 :: .ref (GBody.cells Y0) 0 :: .ref (GBody.cells Y0) 0 :: .ref (GBody.cells Y0) 0 :: .ref (GBody.cells Y0) 0 :: .ref (GBody.cells Y0) 0 :: .ref (GBody.cells Y0) 2 :: .sl (Y0.Springs.map GSpring.cells) :: .i .i64 (Y0.Springs.length : Int) :: .i .i64 (Y1 + 1) :: an 137 []), [.vec 27 1 ((Y2.map (cF .f32)).set 0 [.f .f32 (Z3n Y0 Y1 Y2)]) false]⟩) (sB Yg <| sG GSpring.cells Y0.Springs Y1 YA YE <| sK [20, 20] <| sG GVector.cells Y0.Mesh.Places ((Y0.Springs.getD Y1.toNat default).B) YG YH <| sG GVector.cells Y0.Mesh.Places ((Y0.Springs.getD Y1.toNat default).A) YL YQ <| sF (Z59 (Y0.Mesh.Places.getD ((Y0.Springs.getD Y1.toNat default).B).toNat default) (Y0.Mesh.Places.getD ((Y0.Springs.getD Y1.toNat default).A).toNat default)) <| sF (Z6X (Z6G Y0 Y1)) <| sK [10, 10] <| sX (cF .f32) Y2 0 YW y_7 <| sV (cF .f32) Y2 0 y_8 <| sX (cF .f32) Y2 0 YW y_7 <| sC (maplt (c := (cF .f32)) (l := Y2) y_8) <| sI (Y1 + 1) y_9 Y13 <| sN) (by kernel_rfl) (show _ = ⟨.ref (GBody.cells Y0) 0 :: .any :: .nils :: .own 0 :: .ref (GBody.cells Y0) 0 :: an 8 (.own 0 :: .ref (GBody.cells Y0) 0 :: .ref (GBody.cells Y0) 0 :: .ref (GBody.cells Y0) 0 :: .ref (GBody.cells Y0) 0 :: .ref (GBody.cells Y0) 0 :: .ref (GBody.cells Y0) 2 :: .sl (Y0.Springs.map GSpring.cells) :: .i .i64 (Y0.Springs.length : Int) :: .i .i64 (Y1 + 1) :: an 137 []), [.vec 27 1 ((Y2.set 0 (Z3n Y0 Y1 Y2)).map (cF .f32)) false]⟩ from (by simp [List.map_set, cF])) (ih (Y1 + 1) (Y2.set 0 (Z3n Y0 Y1 Y2)) (show 0 ≤ (Y1 + 1) from (by omega)) (show (Y2.set 0 (Z3n Y0 Y1 Y2)).length = 4 from (by simp_all <;> omega)) (by omega))
  | false =>
   have Yt := of_decide_eq_false Yg
   have e : Z1q Y0 (k + 1) Y1 Y2 = Y2 := by simp only [Z1q, Yg, cond_false]
   rw [e]
   exact outR (e := (.exit 0)) E0Ok Z4 [] (mR false [0, 1, 1, 3, 8, 8, 139]) [0] (sB Yg <| sN) (by kernel_rfl) (by intro h; cases h)
theorem ZbH (Y0 : GBody) : ∀ (k : Nat) (Y1 : Int) (Y2 : (List Nat)) (hk : ((Y0.Springs.length : Int) - Y1).toNat < k), (Z1q Y0 k Y1 Y2).length = Y2.length := by
  intro k
  induction k with
  | zero => intro Y1 Y2 hk; exact absurd hk (Nat.not_lt_zero _)
  | succ k ih =>
    intro Y1 Y2 hk
    cases Yg : (decide (Y1 < (Y0.Springs.length : Int))) with
    | true =>
      have e : Z1q Y0 (k + 1) Y1 Y2 = (Z1q Y0 k (Y1 + 1) (Y2.set 0 (Z3n Y0 Y1 Y2))) := by simp only [Z1q, Yg, cond_true]
      rw [e, ih (Y1 + 1) (Y2.set 0 (Z3n Y0 Y1 Y2)) (by simp_all <;> omega)]; simp
    | false =>
      have e : Z1q Y0 (k + 1) Y1 Y2 = Y2 := by simp only [Z1q, Yg, cond_false]
      first | (rw [e]; done) | (rw [e]; rfl)
def Z29 (Y0 : GBody) : (List Nat) := (Z1q Y0 (((Y0.Springs.length : Int) - 0).toNat + 1) 0 (List.replicate 4 0))
@[simp] theorem Z9O (Y0 : GBody) : (Z29 Y0).length = ((List.replicate 4 0) : (List Nat)).length := ZbH Y0 (((Y0.Springs.length : Int) - 0).toNat + 1) 0 (List.replicate 4 0) (by exact Nat.lt_succ_self _)
def Z3o (Y0 : GBody) (Y1 : Int) (Y2 : (List Nat)) : Nat := (fop .add .f32 (Y2.getD 1 default) (fop .mul .f32 Y0.Film (fop .mul .f32 1056964608 (Z1U (Zc Y0.Mesh (Y0.Mesh.Triangles.getD Y1.toNat default))))))
def Z1r (Y0 : GBody) : Nat → Int → (List Nat) → (List Nat)
  | 0, _, _ => default
  | k + 1, Y1, Y2 => (cond (decide (Y1 < (Y0.Mesh.Triangles.length : Int)))
    (Z1r Y0 k (Y1 + 1) (Y2.set 1 (Z3o Y0 Y1 Y2)))
    Y2)
def Z6I (Y0 : GBody) (r : (List Nat)) : Ex × St := ((.exit 2), ⟨.ref (GBody.cells Y0) 0 :: .any :: .nils :: .own 0 :: .ref (GBody.cells Y0) 0 :: an 8 (.own 0 :: .ref (GBody.cells Y0) 0 :: .ref (GBody.cells Y0) 0 :: .ref (GBody.cells Y0) 0 :: .ref (GBody.cells Y0) 0 :: .ref (GBody.cells Y0) 0 :: .ref (GBody.cells Y0) 2 :: .sl (Y0.Springs.map GSpring.cells) :: an 45 (.ref (GBody.cells Y0) 0 :: .ref (GBody.cells Y0) 0 :: .ref (GBody.cells Y0) 1 :: .sl (Y0.Mesh.Triangles.map (cL (cI .i64))) :: an 90 [])), [.vec 27 1 (r.map (cF .f32)) false]⟩)
def ZcU (Y0 : GBody) (Y1 : Int) (Y2 : (List Nat)) : St := ⟨.ref (GBody.cells Y0) 0 :: .any :: .nils :: .own 0 :: .ref (GBody.cells Y0) 0 :: an 8 (.own 0 :: .ref (GBody.cells Y0) 0 :: .ref (GBody.cells Y0) 0 :: .ref (GBody.cells Y0) 0 :: .ref (GBody.cells Y0) 0 :: .ref (GBody.cells Y0) 0 :: .ref (GBody.cells Y0) 2 :: .sl (Y0.Springs.map GSpring.cells) :: an 45 (.ref (GBody.cells Y0) 0 :: .ref (GBody.cells Y0) 0 :: .ref (GBody.cells Y0) 1 :: .sl (Y0.Mesh.Triangles.map (cL (cI .i64))) :: .i .i64 (Y0.Mesh.Triangles.length : Int) :: .i .i64 Y1 :: an 88 [])), [.vec 27 1 (Y2.map (cF .f32)) false]⟩
def Z8e : List Bool := (mR false [0, 1, 1, 3, 8, 8, 45, 6, 88])
def ZbI : List Bool := (mR false [0, 1, 1, 3, 8, 8, 45, 4, 90])
theorem ZcV (Y0 : GBody) (hp0 : Y0.Mesh.Places.length ≤ 1073741824) (hp1 : Y0.Mesh.Triangles.length ≤ 1073741824) (hp2 : ∀ t ∈ Y0.Mesh.Triangles, t.length ≤ 1073741824) (hp3 : Y0.Springs.length ≤ 1073741824) (hp4 : Y0.Weights.length ≤ 1073741824) (hp5 : OkBd Y0) : ∀ (k : Nat) (Y1 : Int) (Y2 : (List Nat)) (Z8f : 0 ≤ Y1) (Z8g : Y2.length = (Z29 Y0).length) (hk : ((Y0.Mesh.Triangles.length : Int) - Y1).toNat < k), Lp prog 0 (sub (bodyOf f133) [1, 1, 1, 1, 0, 1, 0, 0]) (ZcU Y0 Y1 Y2) (Z6I Y0 (Z1r Y0 k Y1 Y2)).1 (Z6I Y0 (Z1r Y0 k Y1 Y2)).2 := by
 intro k
 induction k with
 | zero => intro Y1 Y2 Z8f Z8g hk; exact absurd hk (Nat.not_lt_zero _)
 | succ k ih =>
  intro Y1 Y2 Z8f Z8g hk
  cases Yg : (decide (Y1 < (Y0.Mesh.Triangles.length : Int))) with
  | true =>
   have Yt := of_decide_eq_true Yg
   have YA : (0 : Int) ≤ 1 := (by omega)
   have YE : 1 < (Y2.length : Int) := (by simp_all <;> omega)
   have YG : 1 < Y2.length := (by omega)
   have YH : (0 : Int) ≤ Y1 := (by assumption)
   have YL : Y1 < (Y0.Mesh.Triangles.length : Int) := (by assumption)
   have YQ : (Y0.Mesh.Triangles.getD Y1.toNat default).length ≤ 1073741824 := (by exact tri3L hp5.e (by assumption) Yg)
   have YW : (Y0.Mesh.Triangles.getD Y1.toNat default).length = 3 ∧ ∀ x ∈ (Y0.Mesh.Triangles.getD Y1.toNat default), 0 ≤ x ∧ x < (Y0.Mesh.Places.length : Int) := (by exact tri3 hp5.e (by assumption) Yg)
   have y_7 : (-9223372036854775808 : Int) ≤ (Y1 + 1) := (by omega)
   have y_8 : (Y1 + 1) ≤ (9223372036854775807 : Int) := (by omega)
   have e : Z1r Y0 (k + 1) Y1 Y2 = (Z1r Y0 k (Y1 + 1) (Y2.set 1 (Z3o Y0 Y1 Y2))) := by simp only [Z1r, Yg, cond_true]
   rw [e]
   exact nextS E0Ok Z4 [] Z8e [0] (⟨.ref (GBody.cells Y0) 0 :: .any :: .nils :: .own 0 :: .ref (GBody.cells Y0) 0 :: an 8 (.own 0 :: .ref (GBody.cells Y0) 0 :: .ref (GBody.cells Y0) 0 :: .ref (GBody.cells Y0) 0 :: .ref (GBody.cells Y0) 0 :: .ref (GBody.cells Y0) 0 :: .ref (GBody.cells Y0) 2 :: .sl (Y0.Springs.map GSpring.cells) :: an 45 (.ref (GBody.cells Y0) 0 :: .ref (GBody.cells Y0) 0 :: .ref (GBody.cells Y0) 1 :: .sl (Y0.Mesh.Triangles.map (cL (cI .i64))) :: .i .i64 (Y0.Mesh.Triangles.length : Int) :: .i .i64 (Y1 + 1) :: an 88 [])), [.vec 27 1 ((Y2.map (cF .f32)).set 1 [.f .f32 (Z3o Y0 Y1 Y2)]) false]⟩) (sB Yg <| sK [19, 19] <| sX (cF .f32) Y2 1 YA YE <| sV (cF .f32) Y2 1 YG <| sG (cL (cI .i64)) Y0.Mesh.Triangles Y1 YH YL <| sF (Fn.sub (args := [.ref (GBody.cells Y0) 0, .sl ((Y0.Mesh.Triangles.getD Y1.toNat default).map (cI .i64))]) (r := .agg [.f .f32 ((Zc Y0.Mesh (Y0.Mesh.Triangles.getD Y1.toNat default)).X), .f .f32 ((Zc Y0.Mesh (Y0.Mesh.Triangles.getD Y1.toNat default)).Y), .f .f32 ((Zc Y0.Mesh (Y0.Mesh.Triangles.getD Y1.toNat default)).Z)]) (new := []) [some 2, none] (Zao Y0.Mesh (Y0.Mesh.Triangles.getD Y1.toNat default) hp0 hp1 hp2 YQ YW)) <| sF (Z6X (Zc Y0.Mesh (Y0.Mesh.Triangles.getD Y1.toNat default))) <| sX (cF .f32) Y2 1 YA YE <| sC (maplt (c := (cF .f32)) (l := Y2) YG) <| sI (Y1 + 1) y_7 y_8 <| sN) (by kernel_rfl) (show _ = ⟨.ref (GBody.cells Y0) 0 :: .any :: .nils :: .own 0 :: .ref (GBody.cells Y0) 0 :: an 8 (.own 0 :: .ref (GBody.cells Y0) 0 :: .ref (GBody.cells Y0) 0 :: .ref (GBody.cells Y0) 0 :: .ref (GBody.cells Y0) 0 :: .ref (GBody.cells Y0) 0 :: .ref (GBody.cells Y0) 2 :: .sl (Y0.Springs.map GSpring.cells) :: an 45 (.ref (GBody.cells Y0) 0 :: .ref (GBody.cells Y0) 0 :: .ref (GBody.cells Y0) 1 :: .sl (Y0.Mesh.Triangles.map (cL (cI .i64))) :: .i .i64 (Y0.Mesh.Triangles.length : Int) :: .i .i64 (Y1 + 1) :: an 88 [])), [.vec 27 1 ((Y2.set 1 (Z3o Y0 Y1 Y2)).map (cF .f32)) false]⟩ from (by simp [List.map_set, cF])) (ih (Y1 + 1) (Y2.set 1 (Z3o Y0 Y1 Y2)) (show 0 ≤ (Y1 + 1) from (by omega)) (show (Y2.set 1 (Z3o Y0 Y1 Y2)).length = (Z29 Y0).length from (by simp_all <;> omega)) (by omega))
  | false =>
   have Yt := of_decide_eq_false Yg
   have e : Z1r Y0 (k + 1) Y1 Y2 = Y2 := by simp only [Z1r, Yg, cond_false]
   rw [e]
   exact outR (e := (.exit 2)) E0Ok Z4 [] ZbI [0] (sB Yg <| sN) (by kernel_rfl) (by intro h; cases h)
theorem ZbJ (Y0 : GBody) : ∀ (k : Nat) (Y1 : Int) (Y2 : (List Nat)) (hk : ((Y0.Mesh.Triangles.length : Int) - Y1).toNat < k), (Z1r Y0 k Y1 Y2).length = Y2.length := by
  intro k
  induction k with
  | zero => intro Y1 Y2 hk; exact absurd hk (Nat.not_lt_zero _)
  | succ k ih =>
    intro Y1 Y2 hk
    cases Yg : (decide (Y1 < (Y0.Mesh.Triangles.length : Int))) with
    | true =>
      have e : Z1r Y0 (k + 1) Y1 Y2 = (Z1r Y0 k (Y1 + 1) (Y2.set 1 (Z3o Y0 Y1 Y2))) := by simp only [Z1r, Yg, cond_true]
      rw [e, ih (Y1 + 1) (Y2.set 1 (Z3o Y0 Y1 Y2)) (by simp_all <;> omega)]; simp
    | false =>
      have e : Z1r Y0 (k + 1) Y1 Y2 = Y2 := by simp only [Z1r, Yg, cond_false]
      first | (rw [e]; done) | (rw [e]; rfl)
def Z2a (Y0 : GBody) : (List Nat) := (Z1r Y0 (((Y0.Mesh.Triangles.length : Int) - 0).toNat + 1) 0 (Z29 Y0))
@[simp] theorem Z9P (Y0 : GBody) : (Z2a Y0).length = ((Z29 Y0) : (List Nat)).length := ZbJ Y0 (((Y0.Mesh.Triangles.length : Int) - 0).toNat + 1) 0 (Z29 Y0) (by exact Nat.lt_succ_self _)
def Z36 (Y0 : GBody) (Y1 : Int) : Nat := (Z4F (ZO Y0.Mesh ((Z0 Y0.Mesh).getD Y1.toNat default)) (ZO Y0.Mesh ((Z0 Y0.Mesh).getD Y1.toNat default)))
def Z1c (Y0 : GBody) : Nat → Int → (List Nat) → (List Nat)
  | 0, _, _ => default
  | k + 1, Y1, Y2 => (cond (decide (Y1 < ((Z0 Y0.Mesh).length : Int)))
    (Z1c Y0 k (Y1 + 1) (Y2.set 2 (fop .add .f32 (Y2.getD 2 default) (fop .mul .f32 (fop .mul .f32 1056964608 Y0.Bend) (Z36 Y0 Y1)))))
    Y2)
def Z6J (Y0 : GBody) (r : (List Nat)) : Ex × St := ((.exit 4), ⟨.ref (GBody.cells Y0) 0 :: .any :: .nils :: .own 0 :: .ref (GBody.cells Y0) 0 :: an 4 (.own 1 :: .any :: .any :: .any :: .own 0 :: .ref (GBody.cells Y0) 0 :: .ref (GBody.cells Y0) 0 :: .ref (GBody.cells Y0) 0 :: .ref (GBody.cells Y0) 0 :: .ref (GBody.cells Y0) 0 :: .ref (GBody.cells Y0) 2 :: .sl (Y0.Springs.map GSpring.cells) :: an 45 (.ref (GBody.cells Y0) 0 :: .ref (GBody.cells Y0) 0 :: .ref (GBody.cells Y0) 1 :: .sl (Y0.Mesh.Triangles.map (cL (cI .i64))) :: an 26 (.ref (GBody.cells Y0) 0 :: .own 1 :: .own 1 :: an 61 []))), [.vec 27 1 (r.map (cF .f32)) false, .nest 49 ((Z0 Y0.Mesh).map fun l => l.map (cI .i64)) false]⟩)
def ZcW (Y0 : GBody) (Y1 : Int) (Y2 : (List Nat)) : St := ⟨.ref (GBody.cells Y0) 0 :: .any :: .nils :: .own 0 :: .ref (GBody.cells Y0) 0 :: an 4 (.own 1 :: .any :: .any :: .any :: .own 0 :: .ref (GBody.cells Y0) 0 :: .ref (GBody.cells Y0) 0 :: .ref (GBody.cells Y0) 0 :: .ref (GBody.cells Y0) 0 :: .ref (GBody.cells Y0) 0 :: .ref (GBody.cells Y0) 2 :: .sl (Y0.Springs.map GSpring.cells) :: an 45 (.ref (GBody.cells Y0) 0 :: .ref (GBody.cells Y0) 0 :: .ref (GBody.cells Y0) 1 :: .sl (Y0.Mesh.Triangles.map (cL (cI .i64))) :: an 26 (.ref (GBody.cells Y0) 0 :: .own 1 :: .own 1 :: .i .i64 ((Z0 Y0.Mesh).length : Int) :: .i .i64 Y1 :: an 59 []))), [.vec 27 1 (Y2.map (cF .f32)) false, .nest 49 ((Z0 Y0.Mesh).map fun l => l.map (cI .i64)) false]⟩
def Z8h : List Bool := (mR false [0, 1, 1, 3, 4, 1, 3, 8, 45, 4, 26, 5, 59])
def ZbK : List Bool := (mR false [0, 1, 1, 3, 4, 1, 3, 8, 45, 4, 26, 3, 61])
theorem ZcX (Y0 : GBody) (hp0 : Y0.Mesh.Places.length ≤ 1073741824) (hp1 : Y0.Mesh.Triangles.length ≤ 1073741824) (hp2 : ∀ t ∈ Y0.Mesh.Triangles, t.length ≤ 1073741824) (hp3 : Y0.Springs.length ≤ 1073741824) (hp4 : Y0.Weights.length ≤ 1073741824) (hp5 : OkBd Y0) : ∀ (k : Nat) (Y1 : Int) (Y2 : (List Nat)) (Z8i : 0 ≤ Y1) (Z8j : Y2.length = (Z2a Y0).length) (hk : (((Z0 Y0.Mesh).length : Int) - Y1).toNat < k), Lp prog 0 (sub (bodyOf f133) [1, 1, 1, 1, 1, 1, 0, 1, 0, 0]) (ZcW Y0 Y1 Y2) (Z6J Y0 (Z1c Y0 k Y1 Y2)).1 (Z6J Y0 (Z1c Y0 k Y1 Y2)).2 := by
 intro k
 induction k with
 | zero => intro Y1 Y2 Z8i Z8j hk; exact absurd hk (Nat.not_lt_zero _)
 | succ k ih =>
  intro Y1 Y2 Z8i Z8j hk
  cases Yg : (decide (Y1 < ((Z0 Y0.Mesh).length : Int))) with
  | true =>
   have Yt := of_decide_eq_true Yg
   have YA : (0 : Int) ≤ Y1 := (by assumption)
   have YE : Int.toNat Y1 < (Z0 Y0.Mesh).length := (by omega)
   have YG : Y1.toNat < (Z0 Y0.Mesh).length := (by assumption)
   have YH : ((Z0 Y0.Mesh).getD Y1.toNat default).length ≤ 1073741824 := (by exact Zhk hp5.e (by assumption) Yg)
   have YL : ((Z0 Y0.Mesh).getD Y1.toNat default).length = 4 ∧ ∀ x ∈ ((Z0 Y0.Mesh).getD Y1.toNat default), 0 ≤ x ∧ x < (Y0.Mesh.Places.length : Int) := (by exact hin4 hp5.e (by assumption) Yg)
   have YQ : (0 : Int) ≤ 2 := (by omega)
   have YW : 2 < (Y2.length : Int) := (by simp_all <;> omega)
   have y_7 : 2 < Y2.length := (by omega)
   have y_8 : (-9223372036854775808 : Int) ≤ (Y1 + 1) := (by omega)
   have y_9 : (Y1 + 1) ≤ (9223372036854775807 : Int) := (by have q := hp5.w; (have q := Z3B _ hp5.e; omega))
   have e : Z1c Y0 (k + 1) Y1 Y2 = (Z1c Y0 k (Y1 + 1) (Y2.set 2 (fop .add .f32 (Y2.getD 2 default) (fop .mul .f32 (fop .mul .f32 1056964608 Y0.Bend) (Z36 Y0 Y1))))) := by simp only [Z1c, Yg, cond_true]
   rw [e]
   exact nextS E0Ok Z4 [] Z8h [0, 1] (⟨.ref (GBody.cells Y0) 0 :: .any :: .nils :: .own 0 :: .ref (GBody.cells Y0) 0 :: an 4 (.own 1 :: .any :: .any :: .any :: .own 0 :: .ref (GBody.cells Y0) 0 :: .ref (GBody.cells Y0) 0 :: .ref (GBody.cells Y0) 0 :: .ref (GBody.cells Y0) 0 :: .ref (GBody.cells Y0) 0 :: .ref (GBody.cells Y0) 2 :: .sl (Y0.Springs.map GSpring.cells) :: an 45 (.ref (GBody.cells Y0) 0 :: .ref (GBody.cells Y0) 0 :: .ref (GBody.cells Y0) 1 :: .sl (Y0.Mesh.Triangles.map (cL (cI .i64))) :: an 26 (.ref (GBody.cells Y0) 0 :: .own 1 :: .own 1 :: .i .i64 ((Z0 Y0.Mesh).length : Int) :: .i .i64 (Y1 + 1) :: an 59 []))), [.vec 27 1 ((Y2.map (cF .f32)).set 2 [.f .f32 (fop .add .f32 (Y2.getD 2 default) (fop .mul .f32 (fop .mul .f32 1056964608 Y0.Bend) (Z36 Y0 Y1)))]) false, .nest 49 ((Z0 Y0.Mesh).map fun l => l.map (cI .i64)) false]⟩) (sB Yg <| sC (nestix (c := (cI .i64)) (l := (Z0 Y0.Mesh)) (i := Y1) YA YE) <| sC (nestlt (c := (cI .i64)) (l := (Z0 Y0.Mesh)) YG) <| sF (Fn.sub (args := [.ref (GBody.cells Y0) 0, .sl (((Z0 Y0.Mesh).map fun l => l.map (cI .i64)).getD Y1.toNat [])]) (r := .agg [.f .f32 ((ZO Y0.Mesh ((Z0 Y0.Mesh).getD Y1.toNat default)).X), .f .f32 ((ZO Y0.Mesh ((Z0 Y0.Mesh).getD Y1.toNat default)).Y), .f .f32 ((ZO Y0.Mesh ((Z0 Y0.Mesh).getD Y1.toNat default)).Z)]) (new := []) [some 2, none] (Fn.castA (args' := [.ref [.sl (Y0.Mesh.Places.map GVector.cells), .sl (Y0.Mesh.Triangles.map (cL (cI .i64)))] 0, .sl (((Z0 Y0.Mesh).map fun l => l.map (cI .i64)).getD Y1.toNat [])]) (Zbj Y0.Mesh ((Z0 Y0.Mesh).getD Y1.toNat default) hp0 hp1 hp2 YH YL) (by simp [cI]; rfl))) <| sK [12, 12] <| sX (cF .f32) Y2 2 YQ YW <| sV (cF .f32) Y2 2 y_7 <| sF (Z84 (ZO Y0.Mesh ((Z0 Y0.Mesh).getD Y1.toNat default)) (ZO Y0.Mesh ((Z0 Y0.Mesh).getD Y1.toNat default))) <| sX (cF .f32) Y2 2 YQ YW <| sC (maplt (c := (cF .f32)) (l := Y2) y_7) <| sI (Y1 + 1) y_8 y_9 <| sN) (by kernel_rfl) (show _ = ⟨.ref (GBody.cells Y0) 0 :: .any :: .nils :: .own 0 :: .ref (GBody.cells Y0) 0 :: an 4 (.own 1 :: .any :: .any :: .any :: .own 0 :: .ref (GBody.cells Y0) 0 :: .ref (GBody.cells Y0) 0 :: .ref (GBody.cells Y0) 0 :: .ref (GBody.cells Y0) 0 :: .ref (GBody.cells Y0) 0 :: .ref (GBody.cells Y0) 2 :: .sl (Y0.Springs.map GSpring.cells) :: an 45 (.ref (GBody.cells Y0) 0 :: .ref (GBody.cells Y0) 0 :: .ref (GBody.cells Y0) 1 :: .sl (Y0.Mesh.Triangles.map (cL (cI .i64))) :: an 26 (.ref (GBody.cells Y0) 0 :: .own 1 :: .own 1 :: .i .i64 ((Z0 Y0.Mesh).length : Int) :: .i .i64 (Y1 + 1) :: an 59 []))), [.vec 27 1 ((Y2.set 2 (fop .add .f32 (Y2.getD 2 default) (fop .mul .f32 (fop .mul .f32 1056964608 Y0.Bend) (Z36 Y0 Y1)))).map (cF .f32)) false, .nest 49 ((Z0 Y0.Mesh).map fun l => l.map (cI .i64)) false]⟩ from (by simp [List.map_set, cF])) (ih (Y1 + 1) (Y2.set 2 (fop .add .f32 (Y2.getD 2 default) (fop .mul .f32 (fop .mul .f32 1056964608 Y0.Bend) (Z36 Y0 Y1)))) (show 0 ≤ (Y1 + 1) from (by omega)) (show (Y2.set 2 (fop .add .f32 (Y2.getD 2 default) (fop .mul .f32 (fop .mul .f32 1056964608 Y0.Bend) (Z36 Y0 Y1)))).length = (Z2a Y0).length from (by simp_all <;> omega)) (by omega))
  | false =>
   have Yt := of_decide_eq_false Yg
   have e : Z1c Y0 (k + 1) Y1 Y2 = Y2 := by simp only [Z1c, Yg, cond_false]
   rw [e]
   exact outR (e := (.exit 4)) E0Ok Z4 [] ZbK [0, 1] (sB Yg <| sN) (by kernel_rfl) (by intro h; cases h)
end Go.Ab
