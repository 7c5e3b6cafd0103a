/- The functions of this seat as plain Lean, and that the program's are these. Printed by a program of the prover's own. -/
import Derived.Test.YtpndflbllggeiaaGreatB3
set_option linter.unusedVariables false
set_option linter.unusedSimpArgs false
set_option maxRecDepth 100000
namespace Go.Ab
open Go.RowKit Go.Proofs.Tryz
theorem Z88 (arr_0 : GBody) (x_l0 : Int) (r0_l1 : (List GVector)) : ∀ (k : Nat) (x_l0_1 : Int) (r0_l1_1 : (List GVector)) (hk : ((3 : Int) - x_l0_1).toNat < k), (ZA arr_0 x_l0 r0_l1 k x_l0_1 r0_l1_1).length = r0_l1_1.length := by
  intro k
  induction k with
  | zero => intro x_l0_1 r0_l1_1 hk; exact absurd hk (Nat.not_lt_zero _)
  | succ k ih =>
    intro x_l0_1 r0_l1_1 hk
    cases h__0 : (decide (x_l0_1 < 3)) with
    | true =>
      have e : ZA arr_0 x_l0 r0_l1 (k + 1) x_l0_1 r0_l1_1 = (ZA arr_0 x_l0 r0_l1 k (x_l0_1 + 1) (r0_l1_1.set (((arr_0.Mesh.Triangles.getD x_l0.toNat default).getD x_l0_1.toNat default).toNat) (Z1y arr_0 x_l0 x_l0_1 r0_l1_1))) := by simp only [ZA, h__0, cond_true]
      rw [e, ih (x_l0_1 + 1) (r0_l1_1.set (((arr_0.Mesh.Triangles.getD x_l0.toNat default).getD x_l0_1.toNat default).toNat) (Z1y arr_0 x_l0 x_l0_1 r0_l1_1)) (by simp_all <;> omega)]; simp
    | false =>
      have e : ZA arr_0 x_l0 r0_l1 (k + 1) x_l0_1 r0_l1_1 = r0_l1_1 := by simp only [ZA, h__0, cond_false]
      first | (rw [e]; done) | (rw [e]; rfl)
def Z1W (arr_0 : GBody) (x_l0 : Int) (r0_l1 : (List GVector)) : (List GVector) := (ZA arr_0 x_l0 r0_l1 (((3 : Int) - 0).toNat + 1) 0 r0_l1)
@[simp] theorem ZaW (arr_0 : GBody) (x_l0 : Int) (r0_l1 : (List GVector)) : (Z1W arr_0 x_l0 r0_l1).length = (r0_l1 : (List GVector)).length := Z88 arr_0 x_l0 r0_l1 (((3 : Int) - 0).toNat + 1) 0 r0_l1 (by exact Nat.lt_succ_self _)
def ZH (arr_0 : GBody) : Nat → Int → (List GVector) → (List GVector)
  | 0, _, _ => default
  | k + 1, x_l0, r0_l1 => (cond (decide (x_l0 < (arr_0.Mesh.Triangles.length : Int)))
    (ZH arr_0 k (x_l0 + 1) (Z1W arr_0 x_l0 r0_l1))
    r0_l1)
def Z51 (arr_0 : GBody) (r : (List GVector)) : Ex × St := ((.exit 2), ⟨.ref (GBody.cells arr_0) 0 :: .any :: .nils :: .ref (GBody.cells arr_0) 0 :: .own 0 :: an 15 (.ref (GBody.cells arr_0) 0 :: .ref (GBody.cells arr_0) 0 :: .ref (GBody.cells arr_0) 0 :: .ref (GBody.cells arr_0) 0 :: .ref (GBody.cells arr_0) 0 :: .ref (GBody.cells arr_0) 0 :: .sl (arr_0.Mesh.Places.map GVector.cells) :: .i .i64 (arr_0.Mesh.Places.length : Int) :: .own 0 :: .ref (GBody.cells arr_0) 0 :: .ref (GBody.cells arr_0) 0 :: .ref (GBody.cells arr_0) 2 :: .sl (arr_0.Springs.map GSpring.cells) :: an 52 (.ref (GBody.cells arr_0) 0 :: .ref (GBody.cells arr_0) 0 :: .ref (GBody.cells arr_0) 1 :: .sl (arr_0.Mesh.Triangles.map (cL (cI .i64))) :: an 191 [])), [.vec 40 3 (r.map GVector.cells) false]⟩)
def Z8S (arr_0 : GBody) (x_l0 : Int) (r0_l1 : (List GVector)) : St := ⟨.ref (GBody.cells arr_0) 0 :: .any :: .nils :: .ref (GBody.cells arr_0) 0 :: .own 0 :: an 15 (.ref (GBody.cells arr_0) 0 :: .ref (GBody.cells arr_0) 0 :: .ref (GBody.cells arr_0) 0 :: .ref (GBody.cells arr_0) 0 :: .ref (GBody.cells arr_0) 0 :: .ref (GBody.cells arr_0) 0 :: .sl (arr_0.Mesh.Places.map GVector.cells) :: .i .i64 (arr_0.Mesh.Places.length : Int) :: .own 0 :: .ref (GBody.cells arr_0) 0 :: .ref (GBody.cells arr_0) 0 :: .ref (GBody.cells arr_0) 2 :: .sl (arr_0.Springs.map GSpring.cells) :: an 52 (.ref (GBody.cells arr_0) 0 :: .ref (GBody.cells arr_0) 0 :: .ref (GBody.cells arr_0) 1 :: .sl (arr_0.Mesh.Triangles.map (cL (cI .i64))) :: .i .i64 (arr_0.Mesh.Triangles.length : Int) :: .i .i64 x_l0 :: an 189 [])), [.vec 40 3 (r0_l1.map GVector.cells) false]⟩
def Z5W : List Bool := (mR false [0, 1, 1, 3, 15, 13, 52, 6, 189])
def Z89 : List Bool := (mR false [0, 1, 1, 3, 15, 13, 52, 4, 191])
theorem Z8T (arr_0 : GBody) (hp0 : arr_0.Mesh.Places.length ≤ 1073741824) (hp1 : arr_0.Mesh.Triangles.length ≤ 1073741824) (hp2 : ∀ t ∈ arr_0.Mesh.Triangles, t.length ≤ 1073741824) (hp3 : arr_0.Springs.length ≤ 1073741824) (hp4 : arr_0.Weights.length ≤ 1073741824) (hp5 : OkBd arr_0) : ∀ (k : Nat) (x_l0 : Int) (r0_l1 : (List GVector)) (Z3E : 0 ≤ x_l0) (Z3F : r0_l1.length = arr_0.Mesh.Places.length) (hk : ((arr_0.Mesh.Triangles.length : Int) - x_l0).toNat < k), Lp prog 0 (sub (bodyOf f51) [1, 1, 1, 1, 0, 1, 0, 0]) (Z8S arr_0 x_l0 r0_l1) (Z51 arr_0 (ZH arr_0 k x_l0 r0_l1)).1 (Z51 arr_0 (ZH arr_0 k x_l0 r0_l1)).2 := by
 intro k
 induction k with
 | zero => intro x_l0 r0_l1 Z3E Z3F hk; exact absurd hk (Nat.not_lt_zero _)
 | succ k ih =>
  intro x_l0 r0_l1 Z3E Z3F hk
  cases h_0 : (decide (x_l0 < (arr_0.Mesh.Triangles.length : Int))) with
  | true =>
   have gh_0 := of_decide_eq_true h_0
   have y_0 : (0 : Int) ≤ x_l0 := (by assumption)
   have y_1 : x_l0 < (arr_0.Mesh.Triangles.length : Int) := (by assumption)
   have y_2 : (arr_0.Mesh.Triangles.getD x_l0.toNat default).length ≤ 1073741824 := (by exact tri3L hp5.e (by assumption) h_0)
   have y_3 : (arr_0.Mesh.Triangles.getD x_l0.toNat default).length = 3 ∧ ∀ x ∈ (arr_0.Mesh.Triangles.getD x_l0.toNat default), 0 ≤ x ∧ x < (arr_0.Mesh.Places.length : Int) := (by exact tri3 hp5.e (by assumption) h_0)
   have y_4 : (-9223372036854775808 : Int) ≤ (x_l0 + 1) := (by omega)
   have y_5 : (x_l0 + 1) ≤ (9223372036854775807 : Int) := (by omega)
   have e : ZH arr_0 (k + 1) x_l0 r0_l1 = (ZH arr_0 k (x_l0 + 1) (Z1W arr_0 x_l0 r0_l1)) := by simp only [ZH, h_0, cond_true]
   rw [e]
   exact nextR E0Ok Z3 [] Z5W [0] (ih (x_l0 + 1) (Z1W arr_0 x_l0 r0_l1) (show 0 ≤ (x_l0 + 1) from (by omega)) (show (Z1W arr_0 x_l0 r0_l1).length = arr_0.Mesh.Places.length from (by simp_all <;> omega)) (by omega)) (sB h_0 <| sG (cL (cI .i64)) arr_0.Mesh.Triangles x_l0 y_0 y_1 <| sF (Fn.sub (args := [.ref (GBody.cells arr_0) 0, .sl ((arr_0.Mesh.Triangles.getD x_l0.toNat default).map (cI .i64))]) (r := .agg [.f .f32 ((Z9 arr_0.Mesh (arr_0.Mesh.Triangles.getD x_l0.toNat default)).X), .f .f32 ((Z9 arr_0.Mesh (arr_0.Mesh.Triangles.getD x_l0.toNat default)).Y), .f .f32 ((Z9 arr_0.Mesh (arr_0.Mesh.Triangles.getD x_l0.toNat default)).Z)]) (new := []) [some 2, none] (Za9 arr_0.Mesh (arr_0.Mesh.Triangles.getD x_l0.toNat default) hp0 hp1 hp2 y_2 y_3)) <| sK [8, 8] <| sF (Z83 (Z9 arr_0.Mesh (arr_0.Mesh.Triangles.getD x_l0.toNat default))) <| sF (Z84 (fneg .f32 (fop .mul .f32 1056964608 arr_0.Film)) (Z1V (Z9 arr_0.Mesh (arr_0.Mesh.Triangles.getD x_l0.toNat default)))) <| sL Z5T 2 (lp_val (Z50 arr_0 x_l0 r0_l1) (x := (Z1W arr_0 x_l0 r0_l1)) (Z8R arr_0 x_l0 r0_l1 hp0 hp1 hp2 hp3 hp4 hp5 Z3E Z3F h_0 (((3 : Int) - 0).toNat + 1) 0 r0_l1 (show 0 ≤ 0 from (by omega)) (show r0_l1.length = r0_l1.length from (by omega)) (Nat.lt_succ_self _)) rfl) <| sI (x_l0 + 1) y_4 y_5 <| sN) (by kernel_rfl)
  | false =>
   have gh_0 := of_decide_eq_false h_0
   have e : ZH arr_0 (k + 1) x_l0 r0_l1 = r0_l1 := by simp only [ZH, h_0, cond_false]
   rw [e]
   exact outR (e := (.exit 2)) E0Ok Z3 [] Z89 [0] (sB h_0 <| sN) (by kernel_rfl) (by intro h; cases h)
theorem Z8a (arr_0 : GBody) : ∀ (k : Nat) (x_l0 : Int) (r0_l1 : (List GVector)) (hk : ((arr_0.Mesh.Triangles.length : Int) - x_l0).toNat < k), (ZH arr_0 k x_l0 r0_l1).length = r0_l1.length := by
  intro k
  induction k with
  | zero => intro x_l0 r0_l1 hk; exact absurd hk (Nat.not_lt_zero _)
  | succ k ih =>
    intro x_l0 r0_l1 hk
    cases h_0 : (decide (x_l0 < (arr_0.Mesh.Triangles.length : Int))) with
    | true =>
      have e : ZH arr_0 (k + 1) x_l0 r0_l1 = (ZH arr_0 k (x_l0 + 1) (Z1W arr_0 x_l0 r0_l1)) := by simp only [ZH, h_0, cond_true]
      rw [e, ih (x_l0 + 1) (Z1W arr_0 x_l0 r0_l1) (by simp_all <;> omega)]; simp
    | false =>
      have e : ZH arr_0 (k + 1) x_l0 r0_l1 = r0_l1 := by simp only [ZH, h_0, cond_false]
      first | (rw [e]; done) | (rw [e]; rfl)
def Z2l (arr_0 : GBody) : (List GVector) := (ZH arr_0 (((arr_0.Mesh.Triangles.length : Int) - 0).toNat + 1) 0 (Z2k arr_0))
@[simp] theorem ZaX (arr_0 : GBody) : (Z2l arr_0).length = ((Z2k arr_0) : (List GVector)).length := Z8a arr_0 (((arr_0.Mesh.Triangles.length : Int) - 0).toNat + 1) 0 (Z2k arr_0) (by exact Nat.lt_succ_self _)
def Z6 (arr_0 : GBody) (x_l0 : Int) (r0_l1 : (List GVector)) : GVector := (ZP (r0_l1.getD ((((Z0 arr_0.Mesh).getD x_l0.toNat default).getD 0 default).toNat) default) (Zw (Z1m arr_0.Mesh ((Z0 arr_0.Mesh).getD x_l0.toNat default)) arr_0.Bend))
def Z8 (arr_0 : GBody) (x_l0 : Int) (r0_l1 : (List GVector)) : GVector := (ZP ((r0_l1.set ((((Z0 arr_0.Mesh).getD x_l0.toNat default).getD 0 default).toNat) (Z6 arr_0 x_l0 r0_l1)).getD ((((Z0 arr_0.Mesh).getD x_l0.toNat default).getD 1 default).toNat) default) (Zw (Z1m arr_0.Mesh ((Z0 arr_0.Mesh).getD x_l0.toNat default)) arr_0.Bend))
def Zd (arr_0 : GBody) (x_l0 : Int) (r0_l1 : (List GVector)) : GVector := (ZP (((r0_l1.set ((((Z0 arr_0.Mesh).getD x_l0.toNat default).getD 0 default).toNat) (Z6 arr_0 x_l0 r0_l1)).set ((((Z0 arr_0.Mesh).getD x_l0.toNat default).getD 1 default).toNat) (Z8 arr_0 x_l0 r0_l1)).getD ((((Z0 arr_0.Mesh).getD x_l0.toNat default).getD 2 default).toNat) default) (Zw (Z1m arr_0.Mesh ((Z0 arr_0.Mesh).getD x_l0.toNat default)) (fneg .f32 arr_0.Bend)))
def Z1P (arr_0 : GBody) (x_l0 : Int) (r0_l1 : (List GVector)) : GVector := (ZP ((((r0_l1.set ((((Z0 arr_0.Mesh).getD x_l0.toNat default).getD 0 default).toNat) (Z6 arr_0 x_l0 r0_l1)).set ((((Z0 arr_0.Mesh).getD x_l0.toNat default).getD 1 default).toNat) (Z8 arr_0 x_l0 r0_l1)).set ((((Z0 arr_0.Mesh).getD x_l0.toNat default).getD 2 default).toNat) (Zd arr_0 x_l0 r0_l1)).getD ((((Z0 arr_0.Mesh).getD x_l0.toNat default).getD 3 default).toNat) default) (Zw (Z1m arr_0.Mesh ((Z0 arr_0.Mesh).getD x_l0.toNat default)) (fneg .f32 arr_0.Bend)))
def ZI (arr_0 : GBody) : Nat → Int → (List GVector) → (List GVector)
  | 0, _, _ => default
  | k + 1, x_l0, r0_l1 => (cond (decide (x_l0 < ((Z0 arr_0.Mesh).length : Int)))
    (ZI arr_0 k (x_l0 + 1) ((((r0_l1.set ((((Z0 arr_0.Mesh).getD x_l0.toNat default).getD 0 default).toNat) (Z6 arr_0 x_l0 r0_l1)).set ((((Z0 arr_0.Mesh).getD x_l0.toNat default).getD 1 default).toNat) (Z8 arr_0 x_l0 r0_l1)).set ((((Z0 arr_0.Mesh).getD x_l0.toNat default).getD 2 default).toNat) (Zd arr_0 x_l0 r0_l1)).set ((((Z0 arr_0.Mesh).getD x_l0.toNat default).getD 3 default).toNat) (Z1P arr_0 x_l0 r0_l1)))
    r0_l1)
def Z52 (arr_0 : GBody) (r : (List GVector)) : Ex × St := ((.exit 6), ⟨.ref (GBody.cells arr_0) 0 :: .any :: .nils :: .ref (GBody.cells arr_0) 0 :: .own 0 :: an 10 (.own 1 :: an 4 (.ref (GBody.cells arr_0) 0 :: .ref (GBody.cells arr_0) 0 :: .ref (GBody.cells arr_0) 0 :: .ref (GBody.cells arr_0) 0 :: .ref (GBody.cells arr_0) 0 :: .ref (GBody.cells arr_0) 0 :: .sl (arr_0.Mesh.Places.map GVector.cells) :: .i .i64 (arr_0.Mesh.Places.length : Int) :: .own 0 :: .ref (GBody.cells arr_0) 0 :: .ref (GBody.cells arr_0) 0 :: .ref (GBody.cells arr_0) 2 :: .sl (arr_0.Springs.map GSpring.cells) :: an 52 (.ref (GBody.cells arr_0) 0 :: .ref (GBody.cells arr_0) 0 :: .ref (GBody.cells arr_0) 1 :: .sl (arr_0.Mesh.Triangles.map (cL (cI .i64))) :: an 72 (.ref (GBody.cells arr_0) 0 :: .own 1 :: .own 1 :: an 116 [])))), [.vec 40 3 (r.map GVector.cells) false, .nest 49 ((Z0 arr_0.Mesh).map fun l => l.map (cI .i64)) false]⟩)
def Z8U (arr_0 : GBody) (x_l0 : Int) (r0_l1 : (List GVector)) : St := ⟨.ref (GBody.cells arr_0) 0 :: .any :: .nils :: .ref (GBody.cells arr_0) 0 :: .own 0 :: an 10 (.own 1 :: an 4 (.ref (GBody.cells arr_0) 0 :: .ref (GBody.cells arr_0) 0 :: .ref (GBody.cells arr_0) 0 :: .ref (GBody.cells arr_0) 0 :: .ref (GBody.cells arr_0) 0 :: .ref (GBody.cells arr_0) 0 :: .sl (arr_0.Mesh.Places.map GVector.cells) :: .i .i64 (arr_0.Mesh.Places.length : Int) :: .own 0 :: .ref (GBody.cells arr_0) 0 :: .ref (GBody.cells arr_0) 0 :: .ref (GBody.cells arr_0) 2 :: .sl (arr_0.Springs.map GSpring.cells) :: an 52 (.ref (GBody.cells arr_0) 0 :: .ref (GBody.cells arr_0) 0 :: .ref (GBody.cells arr_0) 1 :: .sl (arr_0.Mesh.Triangles.map (cL (cI .i64))) :: an 72 (.ref (GBody.cells arr_0) 0 :: .own 1 :: .own 1 :: .i .i64 ((Z0 arr_0.Mesh).length : Int) :: .i .i64 x_l0 :: an 114 [])))), [.vec 40 3 (r0_l1.map GVector.cells) false, .nest 49 ((Z0 arr_0.Mesh).map fun l => l.map (cI .i64)) false]⟩
def Z5X : List Bool := (mR false [0, 1, 1, 3, 10, 1, 4, 13, 52, 4, 72, 5, 114])
def Z8b : List Bool := (mR false [0, 1, 1, 3, 10, 1, 4, 13, 52, 4, 72, 3, 116])
set_option maxHeartbeats 1000000 in
theorem Z8V (arr_0 : GBody) (hp0 : arr_0.Mesh.Places.length ≤ 1073741824) (hp1 : arr_0.Mesh.Triangles.length ≤ 1073741824) (hp2 : ∀ t ∈ arr_0.Mesh.Triangles, t.length ≤ 1073741824) (hp3 : arr_0.Springs.length ≤ 1073741824) (hp4 : arr_0.Weights.length ≤ 1073741824) (hp5 : OkBd arr_0) : ∀ (k : Nat) (x_l0 : Int) (r0_l1 : (List GVector)) (Z5Y : 0 ≤ x_l0) (Z5Z : r0_l1.length = arr_0.Mesh.Places.length) (hk : (((Z0 arr_0.Mesh).length : Int) - x_l0).toNat < k), Lp prog 0 (sub (bodyOf f51) [1, 1, 1, 1, 1, 1, 0, 1, 0, 0]) (Z8U arr_0 x_l0 r0_l1) (Z52 arr_0 (ZI arr_0 k x_l0 r0_l1)).1 (Z52 arr_0 (ZI arr_0 k x_l0 r0_l1)).2 := by
 intro k
 induction k with
 | zero => intro x_l0 r0_l1 Z5Y Z5Z hk; exact absurd hk (Nat.not_lt_zero _)
 | succ k ih =>
  intro x_l0 r0_l1 Z5Y Z5Z hk
  cases h_0 : (decide (x_l0 < ((Z0 arr_0.Mesh).length : Int))) with
  | true =>
   have gh_0 := of_decide_eq_true h_0
   have y_0 : (0 : Int) ≤ x_l0 := (by assumption)
   have y_1 : Int.toNat x_l0 < (Z0 arr_0.Mesh).length := (by omega)
   have y_2 : x_l0.toNat < (Z0 arr_0.Mesh).length := (by assumption)
   have y_3 : ((Z0 arr_0.Mesh).getD x_l0.toNat default).length ≤ 1073741824 := (by exact ZcJ hp5.e (by assumption) h_0)
   have y_4 : ((Z0 arr_0.Mesh).getD x_l0.toNat default).length = 4 ∧ ∀ x ∈ ((Z0 arr_0.Mesh).getD x_l0.toNat default), 0 ≤ x ∧ x < (arr_0.Mesh.Places.length : Int) := (by exact hin4 hp5.e (by assumption) h_0)
   have y_5 : (0 : Int) ≤ 0 := (by omega)
   have y_6 : 0 < (((Z0 arr_0.Mesh).getD x_l0.toNat default).length : Int) := (by omega)
   have y_7 : 0 < ((Z0 arr_0.Mesh).getD x_l0.toNat default).length := (by omega)
   have y_8 : (0 : Int) ≤ (((Z0 arr_0.Mesh).getD x_l0.toNat default).getD 0 default) := (by (have q := Z2Y _ hp5.e; (have q := Okh.at (hin4 hp5.e (by assumption) h_0); omega)))
   have y_9 : (((Z0 arr_0.Mesh).getD x_l0.toNat default).getD 0 default) < (r0_l1.length : Int) := (by (have q := Z2Y _ hp5.e; (have q := Okh.at (hin4 hp5.e (by assumption) h_0); omega)))
   have y_10 : (((Z0 arr_0.Mesh).getD x_l0.toNat default).getD 0 default).toNat < r0_l1.length := (by omega)
   have y_11 : (0 : Int) ≤ 1 := (by omega)
   have y_12 : 1 < (((Z0 arr_0.Mesh).getD x_l0.toNat default).length : Int) := (by omega)
   have y_13 : 1 < ((Z0 arr_0.Mesh).getD x_l0.toNat default).length := (by omega)
   have y_14 : (0 : Int) ≤ (((Z0 arr_0.Mesh).getD x_l0.toNat default).getD 1 default) := (by (have q := Z2Y _ hp5.e; (have q := Okh.at (hin4 hp5.e (by assumption) h_0); omega)))
   have y_15 : (((Z0 arr_0.Mesh).getD x_l0.toNat default).getD 1 default) < ((r0_l1.set ((((Z0 arr_0.Mesh).getD x_l0.toNat default).getD 0 default).toNat) (Z6 arr_0 x_l0 r0_l1)).length : Int) := (by (have q := Z2Y _ hp5.e; (have q := Okh.at (hin4 hp5.e (by assumption) h_0); (simp only [List.length_set]; omega))))
   have y_16 : (((Z0 arr_0.Mesh).getD x_l0.toNat default).getD 1 default).toNat < (r0_l1.set ((((Z0 arr_0.Mesh).getD x_l0.toNat default).getD 0 default).toNat) (Z6 arr_0 x_l0 r0_l1)).length := (by omega)
   have y_17 : (0 : Int) ≤ 2 := (by omega)
   have y_18 : 2 < (((Z0 arr_0.Mesh).getD x_l0.toNat default).length : Int) := (by omega)
   have y_19 : 2 < ((Z0 arr_0.Mesh).getD x_l0.toNat default).length := (by omega)
   have y_20 : (0 : Int) ≤ (((Z0 arr_0.Mesh).getD x_l0.toNat default).getD 2 default) := (by (have q := Z2Y _ hp5.e; (have q := Okh.at (hin4 hp5.e (by assumption) h_0); omega)))
   have y_21 : (((Z0 arr_0.Mesh).getD x_l0.toNat default).getD 2 default) < (((r0_l1.set ((((Z0 arr_0.Mesh).getD x_l0.toNat default).getD 0 default).toNat) (Z6 arr_0 x_l0 r0_l1)).set ((((Z0 arr_0.Mesh).getD x_l0.toNat default).getD 1 default).toNat) (Z8 arr_0 x_l0 r0_l1)).length : Int) := (by (have q := Z2Y _ hp5.e; (have q := Okh.at (hin4 hp5.e (by assumption) h_0); (simp only [List.length_set]; omega))))
   have y_22 : (((Z0 arr_0.Mesh).getD x_l0.toNat default).getD 2 default).toNat < ((r0_l1.set ((((Z0 arr_0.Mesh).getD x_l0.toNat default).getD 0 default).toNat) (Z6 arr_0 x_l0 r0_l1)).set ((((Z0 arr_0.Mesh).getD x_l0.toNat default).getD 1 default).toNat) (Z8 arr_0 x_l0 r0_l1)).length := (by omega)
   have y_23 : (0 : Int) ≤ 3 := (by omega)
   have y_24 : 3 < (((Z0 arr_0.Mesh).getD x_l0.toNat default).length : Int) := (by omega)
   have y_25 : 3 < ((Z0 arr_0.Mesh).getD x_l0.toNat default).length := (by omega)
   have y_26 : (0 : Int) ≤ (((Z0 arr_0.Mesh).getD x_l0.toNat default).getD 3 default) := (by (have q := Z2Y _ hp5.e; (have q := Okh.at (hin4 hp5.e (by assumption) h_0); omega)))
   have y_27 : (((Z0 arr_0.Mesh).getD x_l0.toNat default).getD 3 default) < ((((r0_l1.set ((((Z0 arr_0.Mesh).getD x_l0.toNat default).getD 0 default).toNat) (Z6 arr_0 x_l0 r0_l1)).set ((((Z0 arr_0.Mesh).getD x_l0.toNat default).getD 1 default).toNat) (Z8 arr_0 x_l0 r0_l1)).set ((((Z0 arr_0.Mesh).getD x_l0.toNat default).getD 2 default).toNat) (Zd arr_0 x_l0 r0_l1)).length : Int) := (by (have q := Z2Y _ hp5.e; (have q := Okh.at (hin4 hp5.e (by assumption) h_0); (simp only [List.length_set]; omega))))
   have y_28 : (((Z0 arr_0.Mesh).getD x_l0.toNat default).getD 3 default).toNat < (((r0_l1.set ((((Z0 arr_0.Mesh).getD x_l0.toNat default).getD 0 default).toNat) (Z6 arr_0 x_l0 r0_l1)).set ((((Z0 arr_0.Mesh).getD x_l0.toNat default).getD 1 default).toNat) (Z8 arr_0 x_l0 r0_l1)).set ((((Z0 arr_0.Mesh).getD x_l0.toNat default).getD 2 default).toNat) (Zd arr_0 x_l0 r0_l1)).length := (by omega)
   have y_29 : (-9223372036854775808 : Int) ≤ (x_l0 + 1) := (by omega)
   have y_30 : (x_l0 + 1) ≤ (9223372036854775807 : Int) := (by have q := Z2Y _ hp5.e; omega)
   have e : ZI arr_0 (k + 1) x_l0 r0_l1 = (ZI arr_0 k (x_l0 + 1) ((((r0_l1.set ((((Z0 arr_0.Mesh).getD x_l0.toNat default).getD 0 default).toNat) (Z6 arr_0 x_l0 r0_l1)).set ((((Z0 arr_0.Mesh).getD x_l0.toNat default).getD 1 default).toNat) (Z8 arr_0 x_l0 r0_l1)).set ((((Z0 arr_0.Mesh).getD x_l0.toNat default).getD 2 default).toNat) (Zd arr_0 x_l0 r0_l1)).set ((((Z0 arr_0.Mesh).getD x_l0.toNat default).getD 3 default).toNat) (Z1P arr_0 x_l0 r0_l1))) := by simp only [ZI, h_0, cond_true]
   rw [e]
   exact nextS E0Ok Z3 [] Z5X [0, 1] (⟨.ref (GBody.cells arr_0) 0 :: .any :: .nils :: .ref (GBody.cells arr_0) 0 :: .own 0 :: an 10 (.own 1 :: an 4 (.ref (GBody.cells arr_0) 0 :: .ref (GBody.cells arr_0) 0 :: .ref (GBody.cells arr_0) 0 :: .ref (GBody.cells arr_0) 0 :: .ref (GBody.cells arr_0) 0 :: .ref (GBody.cells arr_0) 0 :: .sl (arr_0.Mesh.Places.map GVector.cells) :: .i .i64 (arr_0.Mesh.Places.length : Int) :: .own 0 :: .ref (GBody.cells arr_0) 0 :: .ref (GBody.cells arr_0) 0 :: .ref (GBody.cells arr_0) 2 :: .sl (arr_0.Springs.map GSpring.cells) :: an 52 (.ref (GBody.cells arr_0) 0 :: .ref (GBody.cells arr_0) 0 :: .ref (GBody.cells arr_0) 1 :: .sl (arr_0.Mesh.Triangles.map (cL (cI .i64))) :: an 72 (.ref (GBody.cells arr_0) 0 :: .own 1 :: .own 1 :: .i .i64 ((Z0 arr_0.Mesh).length : Int) :: .i .i64 (x_l0 + 1) :: an 114 [])))), [.vec 40 3 (((((r0_l1.map GVector.cells).set ((((Z0 arr_0.Mesh).getD x_l0.toNat default).getD 0 default).toNat) [.f .f32 ((Z6 arr_0 x_l0 r0_l1).X), .f .f32 ((Z6 arr_0 x_l0 r0_l1).Y), .f .f32 ((Z6 arr_0 x_l0 r0_l1).Z)]).set ((((Z0 arr_0.Mesh).getD x_l0.toNat default).getD 1 default).toNat) [.f .f32 ((Z8 arr_0 x_l0 r0_l1).X), .f .f32 ((Z8 arr_0 x_l0 r0_l1).Y), .f .f32 ((Z8 arr_0 x_l0 r0_l1).Z)]).set ((((Z0 arr_0.Mesh).getD x_l0.toNat default).getD 2 default).toNat) [.f .f32 ((Zd arr_0 x_l0 r0_l1).X), .f .f32 ((Zd arr_0 x_l0 r0_l1).Y), .f .f32 ((Zd arr_0 x_l0 r0_l1).Z)]).set ((((Z0 arr_0.Mesh).getD x_l0.toNat default).getD 3 default).toNat) [.f .f32 ((Z1P arr_0 x_l0 r0_l1).X), .f .f32 ((Z1P arr_0 x_l0 r0_l1).Y), .f .f32 ((Z1P arr_0 x_l0 r0_l1).Z)]) false, .nest 49 ((Z0 arr_0.Mesh).map fun l => l.map (cI .i64)) false]⟩) (sB h_0 <| sC (nestix (c := (cI .i64)) (l := (Z0 arr_0.Mesh)) (i := x_l0) y_0 y_1) <| sC (nestlt (c := (cI .i64)) (l := (Z0 arr_0.Mesh)) y_2) <| sF (Fn.sub (args := [.ref (GBody.cells arr_0) 0, .sl (((Z0 arr_0.Mesh).map fun l => l.map (cI .i64)).getD x_l0.toNat [])]) (r := .agg [.f .f32 ((Z1m arr_0.Mesh ((Z0 arr_0.Mesh).getD x_l0.toNat default)).X), .f .f32 ((Z1m arr_0.Mesh ((Z0 arr_0.Mesh).getD x_l0.toNat default)).Y), .f .f32 ((Z1m arr_0.Mesh ((Z0 arr_0.Mesh).getD x_l0.toNat default)).Z)]) (new := []) [some 2, none] (Fn.castA (args' := [.ref [.sl (arr_0.Mesh.Places.map GVector.cells), .sl (arr_0.Mesh.Triangles.map (cL (cI .i64)))] 0, .sl (((Z0 arr_0.Mesh).map fun l => l.map (cI .i64)).getD x_l0.toNat [])]) (ZaL arr_0.Mesh ((Z0 arr_0.Mesh).getD x_l0.toNat default) hp0 hp1 hp2 y_3 y_4) (by simp [cI]; rfl))) <| sK [17, 17] <| sC (iidx_ok (c := (cI .i64)) (l := (Z0 arr_0.Mesh)) (j := x_l0.toNat) (i := 0) y_5 y_6) <| sE (iget_ok (c := (cI .i64)) (l := (Z0 arr_0.Mesh)) (j := x_l0.toNat) (k := 0) y_7) <| sC (iidx_ok (c := (cI .i64)) (l := (Z0 arr_0.Mesh)) (j := x_l0.toNat) (i := 0) y_5 y_6) <| sE (iget_ok (c := (cI .i64)) (l := (Z0 arr_0.Mesh)) (j := x_l0.toNat) (k := 0) y_7) <| sX GVector.cells r0_l1 (((Z0 arr_0.Mesh).getD x_l0.toNat default).getD 0 default) y_8 y_9 <| sV GVector.cells r0_l1 ((((Z0 arr_0.Mesh).getD x_l0.toNat default).getD 0 default).toNat) y_10 <| sF (Z35 (Z1m arr_0.Mesh ((Z0 arr_0.Mesh).getD x_l0.toNat default)) arr_0.Bend) <| sF (Z2X (r0_l1.getD ((((Z0 arr_0.Mesh).getD x_l0.toNat default).getD 0 default).toNat) default) (Zw (Z1m arr_0.Mesh ((Z0 arr_0.Mesh).getD x_l0.toNat default)) arr_0.Bend)) <| sX GVector.cells r0_l1 (((Z0 arr_0.Mesh).getD x_l0.toNat default).getD 0 default) y_8 y_9 <| sC (maplt (c := GVector.cells) (l := r0_l1) y_10) <| sK [17, 17] <| sC (iidx_ok (c := (cI .i64)) (l := (Z0 arr_0.Mesh)) (j := x_l0.toNat) (i := 1) y_11 y_12) <| sE (iget_ok (c := (cI .i64)) (l := (Z0 arr_0.Mesh)) (j := x_l0.toNat) (k := 1) y_13) <| sC (iidx_ok (c := (cI .i64)) (l := (Z0 arr_0.Mesh)) (j := x_l0.toNat) (i := 1) y_11 y_12) <| sE (iget_ok (c := (cI .i64)) (l := (Z0 arr_0.Mesh)) (j := x_l0.toNat) (k := 1) y_13) <| sC (show 0 ≤ (((Z0 arr_0.Mesh).getD x_l0.toNat default).getD 1 default) ∧ Int.toNat (((Z0 arr_0.Mesh).getD x_l0.toNat default).getD 1 default) < ((r0_l1.map GVector.cells).set ((((Z0 arr_0.Mesh).getD x_l0.toNat default).getD 0 default).toNat) [.f .f32 ((Z6 arr_0 x_l0 r0_l1).X), .f .f32 ((Z6 arr_0 x_l0 r0_l1).Y), .f .f32 ((Z6 arr_0 x_l0 r0_l1).Z)]).length from (by simpa using idx_ok (c := GVector.cells) (l := (r0_l1.set ((((Z0 arr_0.Mesh).getD x_l0.toNat default).getD 0 default).toNat) (Z6 arr_0 x_l0 r0_l1))) (i := (((Z0 arr_0.Mesh).getD x_l0.toNat default).getD 1 default)) y_14 y_15)) <| sE (show ((r0_l1.map GVector.cells).set ((((Z0 arr_0.Mesh).getD x_l0.toNat default).getD 0 default).toNat) [.f .f32 ((Z6 arr_0 x_l0 r0_l1).X), .f .f32 ((Z6 arr_0 x_l0 r0_l1).Y), .f .f32 ((Z6 arr_0 x_l0 r0_l1).Z)])[(((Z0 arr_0.Mesh).getD x_l0.toNat default).getD 1 default).toNat]? = some [.f .f32 (((r0_l1.set ((((Z0 arr_0.Mesh).getD x_l0.toNat default).getD 0 default).toNat) (Z6 arr_0 x_l0 r0_l1)).getD ((((Z0 arr_0.Mesh).getD x_l0.toNat default).getD 1 default).toNat) default).X), .f .f32 (((r0_l1.set ((((Z0 arr_0.Mesh).getD x_l0.toNat default).getD 0 default).toNat) (Z6 arr_0 x_l0 r0_l1)).getD ((((Z0 arr_0.Mesh).getD x_l0.toNat default).getD 1 default).toNat) default).Y), .f .f32 (((r0_l1.set ((((Z0 arr_0.Mesh).getD x_l0.toNat default).getD 0 default).toNat) (Z6 arr_0 x_l0 r0_l1)).getD ((((Z0 arr_0.Mesh).getD x_l0.toNat default).getD 1 default).toNat) default).Z)] from (by have q := vget_ok (c := GVector.cells) (l := (r0_l1.set ((((Z0 arr_0.Mesh).getD x_l0.toNat default).getD 0 default).toNat) (Z6 arr_0 x_l0 r0_l1))) (k := (((Z0 arr_0.Mesh).getD x_l0.toNat default).getD 1 default).toNat) y_16; (simp only [List.map_set, List.map_append, List.map_cons, List.map_nil, List.map_replicate] at q; exact q))) <| sF (Z35 (Z1m arr_0.Mesh ((Z0 arr_0.Mesh).getD x_l0.toNat default)) arr_0.Bend) <| sF (Z2X ((r0_l1.set ((((Z0 arr_0.Mesh).getD x_l0.toNat default).getD 0 default).toNat) (Z6 arr_0 x_l0 r0_l1)).getD ((((Z0 arr_0.Mesh).getD x_l0.toNat default).getD 1 default).toNat) default) (Zw (Z1m arr_0.Mesh ((Z0 arr_0.Mesh).getD x_l0.toNat default)) arr_0.Bend)) <| sC (show 0 ≤ (((Z0 arr_0.Mesh).getD x_l0.toNat default).getD 1 default) ∧ Int.toNat (((Z0 arr_0.Mesh).getD x_l0.toNat default).getD 1 default) < ((r0_l1.map GVector.cells).set ((((Z0 arr_0.Mesh).getD x_l0.toNat default).getD 0 default).toNat) [.f .f32 ((Z6 arr_0 x_l0 r0_l1).X), .f .f32 ((Z6 arr_0 x_l0 r0_l1).Y), .f .f32 ((Z6 arr_0 x_l0 r0_l1).Z)]).length from (by simpa using idx_ok (c := GVector.cells) (l := (r0_l1.set ((((Z0 arr_0.Mesh).getD x_l0.toNat default).getD 0 default).toNat) (Z6 arr_0 x_l0 r0_l1))) (i := (((Z0 arr_0.Mesh).getD x_l0.toNat default).getD 1 default)) y_14 y_15)) <| sC (show (((Z0 arr_0.Mesh).getD x_l0.toNat default).getD 1 default).toNat < ((r0_l1.map GVector.cells).set ((((Z0 arr_0.Mesh).getD x_l0.toNat default).getD 0 default).toNat) [.f .f32 ((Z6 arr_0 x_l0 r0_l1).X), .f .f32 ((Z6 arr_0 x_l0 r0_l1).Y), .f .f32 ((Z6 arr_0 x_l0 r0_l1).Z)]).length from (by simpa using y_16)) <| sK [18, 18] <| sC (iidx_ok (c := (cI .i64)) (l := (Z0 arr_0.Mesh)) (j := x_l0.toNat) (i := 2) y_17 y_18) <| sE (iget_ok (c := (cI .i64)) (l := (Z0 arr_0.Mesh)) (j := x_l0.toNat) (k := 2) y_19) <| sC (iidx_ok (c := (cI .i64)) (l := (Z0 arr_0.Mesh)) (j := x_l0.toNat) (i := 2) y_17 y_18) <| sE (iget_ok (c := (cI .i64)) (l := (Z0 arr_0.Mesh)) (j := x_l0.toNat) (k := 2) y_19) <| sC (show 0 ≤ (((Z0 arr_0.Mesh).getD x_l0.toNat default).getD 2 default) ∧ Int.toNat (((Z0 arr_0.Mesh).getD x_l0.toNat default).getD 2 default) < (((r0_l1.map GVector.cells).set ((((Z0 arr_0.Mesh).getD x_l0.toNat default).getD 0 default).toNat) [.f .f32 ((Z6 arr_0 x_l0 r0_l1).X), .f .f32 ((Z6 arr_0 x_l0 r0_l1).Y), .f .f32 ((Z6 arr_0 x_l0 r0_l1).Z)]).set ((((Z0 arr_0.Mesh).getD x_l0.toNat default).getD 1 default).toNat) [.f .f32 ((Z8 arr_0 x_l0 r0_l1).X), .f .f32 ((Z8 arr_0 x_l0 r0_l1).Y), .f .f32 ((Z8 arr_0 x_l0 r0_l1).Z)]).length from (by simpa using idx_ok (c := GVector.cells) (l := ((r0_l1.set ((((Z0 arr_0.Mesh).getD x_l0.toNat default).getD 0 default).toNat) (Z6 arr_0 x_l0 r0_l1)).set ((((Z0 arr_0.Mesh).getD x_l0.toNat default).getD 1 default).toNat) (Z8 arr_0 x_l0 r0_l1))) (i := (((Z0 arr_0.Mesh).getD x_l0.toNat default).getD 2 default)) y_20 y_21)) <| sE (show (((r0_l1.map GVector.cells).set ((((Z0 arr_0.Mesh).getD x_l0.toNat default).getD 0 default).toNat) [.f .f32 ((Z6 arr_0 x_l0 r0_l1).X), .f .f32 ((Z6 arr_0 x_l0 r0_l1).Y), .f .f32 ((Z6 arr_0 x_l0 r0_l1).Z)]).set ((((Z0 arr_0.Mesh).getD x_l0.toNat default).getD 1 default).toNat) [.f .f32 ((Z8 arr_0 x_l0 r0_l1).X), .f .f32 ((Z8 arr_0 x_l0 r0_l1).Y), .f .f32 ((Z8 arr_0 x_l0 r0_l1).Z)])[(((Z0 arr_0.Mesh).getD x_l0.toNat default).getD 2 default).toNat]? = some [.f .f32 ((((r0_l1.set ((((Z0 arr_0.Mesh).getD x_l0.toNat default).getD 0 default).toNat) (Z6 arr_0 x_l0 r0_l1)).set ((((Z0 arr_0.Mesh).getD x_l0.toNat default).getD 1 default).toNat) (Z8 arr_0 x_l0 r0_l1)).getD ((((Z0 arr_0.Mesh).getD x_l0.toNat default).getD 2 default).toNat) default).X), .f .f32 ((((r0_l1.set ((((Z0 arr_0.Mesh).getD x_l0.toNat default).getD 0 default).toNat) (Z6 arr_0 x_l0 r0_l1)).set ((((Z0 arr_0.Mesh).getD x_l0.toNat default).getD 1 default).toNat) (Z8 arr_0 x_l0 r0_l1)).getD ((((Z0 arr_0.Mesh).getD x_l0.toNat default).getD 2 default).toNat) default).Y), .f .f32 ((((r0_l1.set ((((Z0 arr_0.Mesh).getD x_l0.toNat default).getD 0 default).toNat) (Z6 arr_0 x_l0 r0_l1)).set ((((Z0 arr_0.Mesh).getD x_l0.toNat default).getD 1 default).toNat) (Z8 arr_0 x_l0 r0_l1)).getD ((((Z0 arr_0.Mesh).getD x_l0.toNat default).getD 2 default).toNat) default).Z)] from (by have q := vget_ok (c := GVector.cells) (l := ((r0_l1.set ((((Z0 arr_0.Mesh).getD x_l0.toNat default).getD 0 default).toNat) (Z6 arr_0 x_l0 r0_l1)).set ((((Z0 arr_0.Mesh).getD x_l0.toNat default).getD 1 default).toNat) (Z8 arr_0 x_l0 r0_l1))) (k := (((Z0 arr_0.Mesh).getD x_l0.toNat default).getD 2 default).toNat) y_22; (simp only [List.map_set, List.map_append, List.map_cons, List.map_nil, List.map_replicate] at q; exact q))) <| sF (Z35 (Z1m arr_0.Mesh ((Z0 arr_0.Mesh).getD x_l0.toNat default)) (fneg .f32 arr_0.Bend)) <| sF (Z2X (((r0_l1.set ((((Z0 arr_0.Mesh).getD x_l0.toNat default).getD 0 default).toNat) (Z6 arr_0 x_l0 r0_l1)).set ((((Z0 arr_0.Mesh).getD x_l0.toNat default).getD 1 default).toNat) (Z8 arr_0 x_l0 r0_l1)).getD ((((Z0 arr_0.Mesh).getD x_l0.toNat default).getD 2 default).toNat) default) (Zw (Z1m arr_0.Mesh ((Z0 arr_0.Mesh).getD x_l0.toNat default)) (fneg .f32 arr_0.Bend))) <| sC (show 0 ≤ (((Z0 arr_0.Mesh).getD x_l0.toNat default).getD 2 default) ∧ Int.toNat (((Z0 arr_0.Mesh).getD x_l0.toNat default).getD 2 default) < (((r0_l1.map GVector.cells).set ((((Z0 arr_0.Mesh).getD x_l0.toNat default).getD 0 default).toNat) [.f .f32 ((Z6 arr_0 x_l0 r0_l1).X), .f .f32 ((Z6 arr_0 x_l0 r0_l1).Y), .f .f32 ((Z6 arr_0 x_l0 r0_l1).Z)]).set ((((Z0 arr_0.Mesh).getD x_l0.toNat default).getD 1 default).toNat) [.f .f32 ((Z8 arr_0 x_l0 r0_l1).X), .f .f32 ((Z8 arr_0 x_l0 r0_l1).Y), .f .f32 ((Z8 arr_0 x_l0 r0_l1).Z)]).length from (by simpa using idx_ok (c := GVector.cells) (l := ((r0_l1.set ((((Z0 arr_0.Mesh).getD x_l0.toNat default).getD 0 default).toNat) (Z6 arr_0 x_l0 r0_l1)).set ((((Z0 arr_0.Mesh).getD x_l0.toNat default).getD 1 default).toNat) (Z8 arr_0 x_l0 r0_l1))) (i := (((Z0 arr_0.Mesh).getD x_l0.toNat default).getD 2 default)) y_20 y_21)) <| sC (show (((Z0 arr_0.Mesh).getD x_l0.toNat default).getD 2 default).toNat < (((r0_l1.map GVector.cells).set ((((Z0 arr_0.Mesh).getD x_l0.toNat default).getD 0 default).toNat) [.f .f32 ((Z6 arr_0 x_l0 r0_l1).X), .f .f32 ((Z6 arr_0 x_l0 r0_l1).Y), .f .f32 ((Z6 arr_0 x_l0 r0_l1).Z)]).set ((((Z0 arr_0.Mesh).getD x_l0.toNat default).getD 1 default).toNat) [.f .f32 ((Z8 arr_0 x_l0 r0_l1).X), .f .f32 ((Z8 arr_0 x_l0 r0_l1).Y), .f .f32 ((Z8 arr_0 x_l0 r0_l1).Z)]).length from (by simpa using y_22)) <| sK [18, 18] <| sC (iidx_ok (c := (cI .i64)) (l := (Z0 arr_0.Mesh)) (j := x_l0.toNat) (i := 3) y_23 y_24) <| sE (iget_ok (c := (cI .i64)) (l := (Z0 arr_0.Mesh)) (j := x_l0.toNat) (k := 3) y_25) <| sC (iidx_ok (c := (cI .i64)) (l := (Z0 arr_0.Mesh)) (j := x_l0.toNat) (i := 3) y_23 y_24) <| sE (iget_ok (c := (cI .i64)) (l := (Z0 arr_0.Mesh)) (j := x_l0.toNat) (k := 3) y_25) <| sC (show 0 ≤ (((Z0 arr_0.Mesh).getD x_l0.toNat default).getD 3 default) ∧ Int.toNat (((Z0 arr_0.Mesh).getD x_l0.toNat default).getD 3 default) < ((((r0_l1.map GVector.cells).set ((((Z0 arr_0.Mesh).getD x_l0.toNat default).getD 0 default).toNat) [.f .f32 ((Z6 arr_0 x_l0 r0_l1).X), .f .f32 ((Z6 arr_0 x_l0 r0_l1).Y), .f .f32 ((Z6 arr_0 x_l0 r0_l1).Z)]).set ((((Z0 arr_0.Mesh).getD x_l0.toNat default).getD 1 default).toNat) [.f .f32 ((Z8 arr_0 x_l0 r0_l1).X), .f .f32 ((Z8 arr_0 x_l0 r0_l1).Y), .f .f32 ((Z8 arr_0 x_l0 r0_l1).Z)]).set ((((Z0 arr_0.Mesh).getD x_l0.toNat default).getD 2 default).toNat) [.f .f32 ((Zd arr_0 x_l0 r0_l1).X), .f .f32 ((Zd arr_0 x_l0 r0_l1).Y), .f .f32 ((Zd arr_0 x_l0 r0_l1).Z)]).length from (by simpa using idx_ok (c := GVector.cells) (l := (((r0_l1.set ((((Z0 arr_0.Mesh).getD x_l0.toNat default).getD 0 default).toNat) (Z6 arr_0 x_l0 r0_l1)).set ((((Z0 arr_0.Mesh).getD x_l0.toNat default).getD 1 default).toNat) (Z8 arr_0 x_l0 r0_l1)).set ((((Z0 arr_0.Mesh).getD x_l0.toNat default).getD 2 default).toNat) (Zd arr_0 x_l0 r0_l1))) (i := (((Z0 arr_0.Mesh).getD x_l0.toNat default).getD 3 default)) y_26 y_27)) <| sE (show ((((r0_l1.map GVector.cells).set ((((Z0 arr_0.Mesh).getD x_l0.toNat default).getD 0 default).toNat) [.f .f32 ((Z6 arr_0 x_l0 r0_l1).X), .f .f32 ((Z6 arr_0 x_l0 r0_l1).Y), .f .f32 ((Z6 arr_0 x_l0 r0_l1).Z)]).set ((((Z0 arr_0.Mesh).getD x_l0.toNat default).getD 1 default).toNat) [.f .f32 ((Z8 arr_0 x_l0 r0_l1).X), .f .f32 ((Z8 arr_0 x_l0 r0_l1).Y), .f .f32 ((Z8 arr_0 x_l0 r0_l1).Z)]).set ((((Z0 arr_0.Mesh).getD x_l0.toNat default).getD 2 default).toNat) [.f .f32 ((Zd arr_0 x_l0 r0_l1).X), .f .f32 ((Zd arr_0 x_l0 r0_l1).Y), .f .f32 ((Zd arr_0 x_l0 r0_l1).Z)])[(((Z0 arr_0.Mesh).getD x_l0.toNat default).getD 3 default).toNat]? = some [.f .f32 (((((r0_l1.set ((((Z0 arr_0.Mesh).getD x_l0.toNat default).getD 0 default).toNat) (Z6 arr_0 x_l0 r0_l1)).set ((((Z0 arr_0.Mesh).getD x_l0.toNat default).getD 1 default).toNat) (Z8 arr_0 x_l0 r0_l1)).set ((((Z0 arr_0.Mesh).getD x_l0.toNat default).getD 2 default).toNat) (Zd arr_0 x_l0 r0_l1)).getD ((((Z0 arr_0.Mesh).getD x_l0.toNat default).getD 3 default).toNat) default).X), .f .f32 (((((r0_l1.set ((((Z0 arr_0.Mesh).getD x_l0.toNat default).getD 0 default).toNat) (Z6 arr_0 x_l0 r0_l1)).set ((((Z0 arr_0.Mesh).getD x_l0.toNat default).getD 1 default).toNat) (Z8 arr_0 x_l0 r0_l1)).set ((((Z0 arr_0.Mesh).getD x_l0.toNat default).getD 2 default).toNat) (Zd arr_0 x_l0 r0_l1)).getD ((((Z0 arr_0.Mesh).getD x_l0.toNat default).getD 3 default).toNat) default).Y), .f .f32 (((((r0_l1.set ((((Z0 arr_0.Mesh).getD x_l0.toNat default).getD 0 default).toNat) (Z6 arr_0 x_l0 r0_l1)).set ((((Z0 arr_0.Mesh).getD x_l0.toNat default).getD 1 default).toNat) (Z8 arr_0 x_l0 r0_l1)).set ((((Z0 arr_0.Mesh).getD x_l0.toNat default).getD 2 default).toNat) (Zd arr_0 x_l0 r0_l1)).getD ((((Z0 arr_0.Mesh).getD x_l0.toNat default).getD 3 default).toNat) default).Z)] from (by have q := vget_ok (c := GVector.cells) (l := (((r0_l1.set ((((Z0 arr_0.Mesh).getD x_l0.toNat default).getD 0 default).toNat) (Z6 arr_0 x_l0 r0_l1)).set ((((Z0 arr_0.Mesh).getD x_l0.toNat default).getD 1 default).toNat) (Z8 arr_0 x_l0 r0_l1)).set ((((Z0 arr_0.Mesh).getD x_l0.toNat default).getD 2 default).toNat) (Zd arr_0 x_l0 r0_l1))) (k := (((Z0 arr_0.Mesh).getD x_l0.toNat default).getD 3 default).toNat) y_28; (simp only [List.map_set, List.map_append, List.map_cons, List.map_nil, List.map_replicate] at q; exact q))) <| sF (Z35 (Z1m arr_0.Mesh ((Z0 arr_0.Mesh).getD x_l0.toNat default)) (fneg .f32 arr_0.Bend)) <| sF (Z2X ((((r0_l1.set ((((Z0 arr_0.Mesh).getD x_l0.toNat default).getD 0 default).toNat) (Z6 arr_0 x_l0 r0_l1)).set ((((Z0 arr_0.Mesh).getD x_l0.toNat default).getD 1 default).toNat) (Z8 arr_0 x_l0 r0_l1)).set ((((Z0 arr_0.Mesh).getD x_l0.toNat default).getD 2 default).toNat) (Zd arr_0 x_l0 r0_l1)).getD ((((Z0 arr_0.Mesh).getD x_l0.toNat default).getD 3 default).toNat) default) (Zw (Z1m arr_0.Mesh ((Z0 arr_0.Mesh).getD x_l0.toNat default)) (fneg .f32 arr_0.Bend))) <| sC (show 0 ≤ (((Z0 arr_0.Mesh).getD x_l0.toNat default).getD 3 default) ∧ Int.toNat (((Z0 arr_0.Mesh).getD x_l0.toNat default).getD 3 default) < ((((r0_l1.map GVector.cells).set ((((Z0 arr_0.Mesh).getD x_l0.toNat default).getD 0 default).toNat) [.f .f32 ((Z6 arr_0 x_l0 r0_l1).X), .f .f32 ((Z6 arr_0 x_l0 r0_l1).Y), .f .f32 ((Z6 arr_0 x_l0 r0_l1).Z)]).set ((((Z0 arr_0.Mesh).getD x_l0.toNat default).getD 1 default).toNat) [.f .f32 ((Z8 arr_0 x_l0 r0_l1).X), .f .f32 ((Z8 arr_0 x_l0 r0_l1).Y), .f .f32 ((Z8 arr_0 x_l0 r0_l1).Z)]).set ((((Z0 arr_0.Mesh).getD x_l0.toNat default).getD 2 default).toNat) [.f .f32 ((Zd arr_0 x_l0 r0_l1).X), .f .f32 ((Zd arr_0 x_l0 r0_l1).Y), .f .f32 ((Zd arr_0 x_l0 r0_l1).Z)]).length from (by simpa using idx_ok (c := GVector.cells) (l := (((r0_l1.set ((((Z0 arr_0.Mesh).getD x_l0.toNat default).getD 0 default).toNat) (Z6 arr_0 x_l0 r0_l1)).set ((((Z0 arr_0.Mesh).getD x_l0.toNat default).getD 1 default).toNat) (Z8 arr_0 x_l0 r0_l1)).set ((((Z0 arr_0.Mesh).getD x_l0.toNat default).getD 2 default).toNat) (Zd arr_0 x_l0 r0_l1))) (i := (((Z0 arr_0.Mesh).getD x_l0.toNat default).getD 3 default)) y_26 y_27)) <| sC (show (((Z0 arr_0.Mesh).getD x_l0.toNat default).getD 3 default).toNat < ((((r0_l1.map GVector.cells).set ((((Z0 arr_0.Mesh).getD x_l0.toNat default).getD 0 default).toNat) [.f .f32 ((Z6 arr_0 x_l0 r0_l1).X), .f .f32 ((Z6 arr_0 x_l0 r0_l1).Y), .f .f32 ((Z6 arr_0 x_l0 r0_l1).Z)]).set ((((Z0 arr_0.Mesh).getD x_l0.toNat default).getD 1 default).toNat) [.f .f32 ((Z8 arr_0 x_l0 r0_l1).X), .f .f32 ((Z8 arr_0 x_l0 r0_l1).Y), .f .f32 ((Z8 arr_0 x_l0 r0_l1).Z)]).set ((((Z0 arr_0.Mesh).getD x_l0.toNat default).getD 2 default).toNat) [.f .f32 ((Zd arr_0 x_l0 r0_l1).X), .f .f32 ((Zd arr_0 x_l0 r0_l1).Y), .f .f32 ((Zd arr_0 x_l0 r0_l1).Z)]).length from (by simpa using y_28)) <| sI (x_l0 + 1) y_29 y_30 <| sN) (by kernel_rfl) (show _ = ⟨.ref (GBody.cells arr_0) 0 :: .any :: .nils :: .ref (GBody.cells arr_0) 0 :: .own 0 :: an 10 (.own 1 :: an 4 (.ref (GBody.cells arr_0) 0 :: .ref (GBody.cells arr_0) 0 :: .ref (GBody.cells arr_0) 0 :: .ref (GBody.cells arr_0) 0 :: .ref (GBody.cells arr_0) 0 :: .ref (GBody.cells arr_0) 0 :: .sl (arr_0.Mesh.Places.map GVector.cells) :: .i .i64 (arr_0.Mesh.Places.length : Int) :: .own 0 :: .ref (GBody.cells arr_0) 0 :: .ref (GBody.cells arr_0) 0 :: .ref (GBody.cells arr_0) 2 :: .sl (arr_0.Springs.map GSpring.cells) :: an 52 (.ref (GBody.cells arr_0) 0 :: .ref (GBody.cells arr_0) 0 :: .ref (GBody.cells arr_0) 1 :: .sl (arr_0.Mesh.Triangles.map (cL (cI .i64))) :: an 72 (.ref (GBody.cells arr_0) 0 :: .own 1 :: .own 1 :: .i .i64 ((Z0 arr_0.Mesh).length : Int) :: .i .i64 (x_l0 + 1) :: an 114 [])))), [.vec 40 3 (((((r0_l1.set ((((Z0 arr_0.Mesh).getD x_l0.toNat default).getD 0 default).toNat) (Z6 arr_0 x_l0 r0_l1)).set ((((Z0 arr_0.Mesh).getD x_l0.toNat default).getD 1 default).toNat) (Z8 arr_0 x_l0 r0_l1)).set ((((Z0 arr_0.Mesh).getD x_l0.toNat default).getD 2 default).toNat) (Zd arr_0 x_l0 r0_l1)).set ((((Z0 arr_0.Mesh).getD x_l0.toNat default).getD 3 default).toNat) (Z1P arr_0 x_l0 r0_l1)).map GVector.cells) false, .nest 49 ((Z0 arr_0.Mesh).map fun l => l.map (cI .i64)) false]⟩ from (by simp [List.map_set, GVector.cells])) (ih (x_l0 + 1) ((((r0_l1.set ((((Z0 arr_0.Mesh).getD x_l0.toNat default).getD 0 default).toNat) (Z6 arr_0 x_l0 r0_l1)).set ((((Z0 arr_0.Mesh).getD x_l0.toNat default).getD 1 default).toNat) (Z8 arr_0 x_l0 r0_l1)).set ((((Z0 arr_0.Mesh).getD x_l0.toNat default).getD 2 default).toNat) (Zd arr_0 x_l0 r0_l1)).set ((((Z0 arr_0.Mesh).getD x_l0.toNat default).getD 3 default).toNat) (Z1P arr_0 x_l0 r0_l1)) (show 0 ≤ (x_l0 + 1) from (by omega)) (show ((((r0_l1.set ((((Z0 arr_0.Mesh).getD x_l0.toNat default).getD 0 default).toNat) (Z6 arr_0 x_l0 r0_l1)).set ((((Z0 arr_0.Mesh).getD x_l0.toNat default).getD 1 default).toNat) (Z8 arr_0 x_l0 r0_l1)).set ((((Z0 arr_0.Mesh).getD x_l0.toNat default).getD 2 default).toNat) (Zd arr_0 x_l0 r0_l1)).set ((((Z0 arr_0.Mesh).getD x_l0.toNat default).getD 3 default).toNat) (Z1P arr_0 x_l0 r0_l1)).length = arr_0.Mesh.Places.length from (by (have q := Z2Y _ hp5.e; (have q := Okh.at (hin4 hp5.e (by assumption) h_0); (simp only [List.length_set]; omega))))) (by omega))
  | false =>
   have gh_0 := of_decide_eq_false h_0
   have e : ZI arr_0 (k + 1) x_l0 r0_l1 = r0_l1 := by simp only [ZI, h_0, cond_false]
   rw [e]
   exact outR (e := (.exit 6)) E0Ok Z3 [] Z8b [0, 1] (sB h_0 <| sN) (by kernel_rfl) (by intro h; cases h)
theorem Z8c (arr_0 : GBody) : ∀ (k : Nat) (x_l0 : Int) (r0_l1 : (List GVector)) (hk : (((Z0 arr_0.Mesh).length : Int) - x_l0).toNat < k), (ZI arr_0 k x_l0 r0_l1).length = r0_l1.length := by
  intro k
  induction k with
  | zero => intro x_l0 r0_l1 hk; exact absurd hk (Nat.not_lt_zero _)
  | succ k ih =>
    intro x_l0 r0_l1 hk
    cases h_0 : (decide (x_l0 < ((Z0 arr_0.Mesh).length : Int))) with
    | true =>
      have e : ZI arr_0 (k + 1) x_l0 r0_l1 = (ZI arr_0 k (x_l0 + 1) ((((r0_l1.set ((((Z0 arr_0.Mesh).getD x_l0.toNat default).getD 0 default).toNat) (Z6 arr_0 x_l0 r0_l1)).set ((((Z0 arr_0.Mesh).getD x_l0.toNat default).getD 1 default).toNat) (Z8 arr_0 x_l0 r0_l1)).set ((((Z0 arr_0.Mesh).getD x_l0.toNat default).getD 2 default).toNat) (Zd arr_0 x_l0 r0_l1)).set ((((Z0 arr_0.Mesh).getD x_l0.toNat default).getD 3 default).toNat) (Z1P arr_0 x_l0 r0_l1))) := by simp only [ZI, h_0, cond_true]
      rw [e, ih (x_l0 + 1) ((((r0_l1.set ((((Z0 arr_0.Mesh).getD x_l0.toNat default).getD 0 default).toNat) (Z6 arr_0 x_l0 r0_l1)).set ((((Z0 arr_0.Mesh).getD x_l0.toNat default).getD 1 default).toNat) (Z8 arr_0 x_l0 r0_l1)).set ((((Z0 arr_0.Mesh).getD x_l0.toNat default).getD 2 default).toNat) (Zd arr_0 x_l0 r0_l1)).set ((((Z0 arr_0.Mesh).getD x_l0.toNat default).getD 3 default).toNat) (Z1P arr_0 x_l0 r0_l1)) (by simp_all <;> omega)]; simp
    | false =>
      have e : ZI arr_0 (k + 1) x_l0 r0_l1 = r0_l1 := by simp only [ZI, h_0, cond_false]
      first | (rw [e]; done) | (rw [e]; rfl)
def Z2m (arr_0 : GBody) : (List GVector) := (ZI arr_0 ((((Z0 arr_0.Mesh).length : Int) - 0).toNat + 1) 0 (Z2l arr_0))
@[simp] theorem ZaY (arr_0 : GBody) : (Z2m arr_0).length = ((Z2l arr_0) : (List GVector)).length := Z8c arr_0 ((((Z0 arr_0.Mesh).length : Int) - 0).toNat + 1) 0 (Z2l arr_0) (by exact Nat.lt_succ_self _)
def ZJ (arr_0 : GBody) : Nat → Int → (List GVector) → (List GVector)
  | 0, _, _ => default
  | k + 1, x_l0, r0_l1 => (cond (decide (x_l0 < (arr_0.Mesh.Places.length : Int)))
    (ZJ arr_0 k (x_l0 + 1) (r0_l1.set x_l0.toNat (ZP (r0_l1.getD x_l0.toNat default) (Zw arr_0.Fall (arr_0.Weights.getD x_l0.toNat default)))))
    r0_l1)
def Z53 (arr_0 : GBody) (r : (List GVector)) : Ex × St := ((.exit 8), ⟨.ref (GBody.cells arr_0) 0 :: .any :: .nils :: .ref (GBody.cells arr_0) 0 :: .own 0 :: an 10 (.own 1 :: an 4 (.ref (GBody.cells arr_0) 0 :: .ref (GBody.cells arr_0) 0 :: .ref (GBody.cells arr_0) 0 :: .ref (GBody.cells arr_0) 0 :: .ref (GBody.cells arr_0) 0 :: .ref (GBody.cells arr_0) 0 :: .sl (arr_0.Mesh.Places.map GVector.cells) :: .i .i64 (arr_0.Mesh.Places.length : Int) :: .own 0 :: .ref (GBody.cells arr_0) 0 :: .ref (GBody.cells arr_0) 0 :: .ref (GBody.cells arr_0) 2 :: .sl (arr_0.Springs.map GSpring.cells) :: an 52 (.ref (GBody.cells arr_0) 0 :: .ref (GBody.cells arr_0) 0 :: .ref (GBody.cells arr_0) 1 :: .sl (arr_0.Mesh.Triangles.map (cL (cI .i64))) :: an 72 (.ref (GBody.cells arr_0) 0 :: .own 1 :: .own 1 :: an 86 (.ref (GBody.cells arr_0) 0 :: .ref (GBody.cells arr_0) 0 :: .ref (GBody.cells arr_0) 0 :: .sl (arr_0.Mesh.Places.map GVector.cells) :: an 26 []))))), [.vec 40 3 (r.map GVector.cells) false, .nest 49 ((Z0 arr_0.Mesh).map fun l => l.map (cI .i64)) false]⟩)
def Z8W (arr_0 : GBody) (x_l0 : Int) (r0_l1 : (List GVector)) : St := ⟨.ref (GBody.cells arr_0) 0 :: .any :: .nils :: .ref (GBody.cells arr_0) 0 :: .own 0 :: an 10 (.own 1 :: an 4 (.ref (GBody.cells arr_0) 0 :: .ref (GBody.cells arr_0) 0 :: .ref (GBody.cells arr_0) 0 :: .ref (GBody.cells arr_0) 0 :: .ref (GBody.cells arr_0) 0 :: .ref (GBody.cells arr_0) 0 :: .sl (arr_0.Mesh.Places.map GVector.cells) :: .i .i64 (arr_0.Mesh.Places.length : Int) :: .own 0 :: .ref (GBody.cells arr_0) 0 :: .ref (GBody.cells arr_0) 0 :: .ref (GBody.cells arr_0) 2 :: .sl (arr_0.Springs.map GSpring.cells) :: an 52 (.ref (GBody.cells arr_0) 0 :: .ref (GBody.cells arr_0) 0 :: .ref (GBody.cells arr_0) 1 :: .sl (arr_0.Mesh.Triangles.map (cL (cI .i64))) :: an 72 (.ref (GBody.cells arr_0) 0 :: .own 1 :: .own 1 :: an 86 (.ref (GBody.cells arr_0) 0 :: .ref (GBody.cells arr_0) 0 :: .ref (GBody.cells arr_0) 0 :: .sl (arr_0.Mesh.Places.map GVector.cells) :: .i .i64 (arr_0.Mesh.Places.length : Int) :: .i .i64 x_l0 :: an 24 []))))), [.vec 40 3 (r0_l1.map GVector.cells) false, .nest 49 ((Z0 arr_0.Mesh).map fun l => l.map (cI .i64)) false]⟩
def Z60 : List Bool := (mR false [0, 1, 1, 3, 10, 1, 4, 13, 52, 4, 72, 3, 86, 6, 24])
def Z8d : List Bool := (mR false [0, 1, 1, 3, 10, 1, 4, 13, 52, 4, 72, 3, 86, 4, 26])
theorem Z8X (arr_0 : GBody) (hp0 : arr_0.Mesh.Places.length ≤ 1073741824) (hp1 : arr_0.Mesh.Triangles.length ≤ 1073741824) (hp2 : ∀ t ∈ arr_0.Mesh.Triangles, t.length ≤ 1073741824) (hp3 : arr_0.Springs.length ≤ 1073741824) (hp4 : arr_0.Weights.length ≤ 1073741824) (hp5 : OkBd arr_0) : ∀ (k : Nat) (x_l0 : Int) (r0_l1 : (List GVector)) (Z61 : 0 ≤ x_l0) (Z62 : r0_l1.length = arr_0.Mesh.Places.length) (hk : ((arr_0.Mesh.Places.length : Int) - x_l0).toNat < k), Lp prog 0 (sub (bodyOf f51) [1, 1, 1, 1, 1, 1, 1, 0, 1, 0, 0]) (Z8W arr_0 x_l0 r0_l1) (Z53 arr_0 (ZJ arr_0 k x_l0 r0_l1)).1 (Z53 arr_0 (ZJ arr_0 k x_l0 r0_l1)).2 := by
 intro k
 induction k with
 | zero => intro x_l0 r0_l1 Z61 Z62 hk; exact absurd hk (Nat.not_lt_zero _)
 | succ k ih =>
  intro x_l0 r0_l1 Z61 Z62 hk
  cases h_0 : (decide (x_l0 < (arr_0.Mesh.Places.length : Int))) with
  | true =>
   have gh_0 := of_decide_eq_true h_0
   have y_0 : (0 : Int) ≤ x_l0 := (by assumption)
   have y_1 : x_l0 < (r0_l1.length : Int) := (by omega)
   have y_2 : x_l0.toNat < r0_l1.length := (by omega)
   have y_3 : x_l0 < (arr_0.Weights.length : Int) := (by have q := hp5.w; omega)
   have y_4 : (-9223372036854775808 : Int) ≤ (x_l0 + 1) := (by omega)
   have y_5 : (x_l0 + 1) ≤ (9223372036854775807 : Int) := (by omega)
   have e : ZJ arr_0 (k + 1) x_l0 r0_l1 = (ZJ arr_0 k (x_l0 + 1) (r0_l1.set x_l0.toNat (ZP (r0_l1.getD x_l0.toNat default) (Zw arr_0.Fall (arr_0.Weights.getD x_l0.toNat default))))) := by simp only [ZJ, h_0, cond_true]
   rw [e]
   exact nextS E0Ok Z3 [] Z60 [0, 1] (⟨.ref (GBody.cells arr_0) 0 :: .any :: .nils :: .ref (GBody.cells arr_0) 0 :: .own 0 :: an 10 (.own 1 :: an 4 (.ref (GBody.cells arr_0) 0 :: .ref (GBody.cells arr_0) 0 :: .ref (GBody.cells arr_0) 0 :: .ref (GBody.cells arr_0) 0 :: .ref (GBody.cells arr_0) 0 :: .ref (GBody.cells arr_0) 0 :: .sl (arr_0.Mesh.Places.map GVector.cells) :: .i .i64 (arr_0.Mesh.Places.length : Int) :: .own 0 :: .ref (GBody.cells arr_0) 0 :: .ref (GBody.cells arr_0) 0 :: .ref (GBody.cells arr_0) 2 :: .sl (arr_0.Springs.map GSpring.cells) :: an 52 (.ref (GBody.cells arr_0) 0 :: .ref (GBody.cells arr_0) 0 :: .ref (GBody.cells arr_0) 1 :: .sl (arr_0.Mesh.Triangles.map (cL (cI .i64))) :: an 72 (.ref (GBody.cells arr_0) 0 :: .own 1 :: .own 1 :: an 86 (.ref (GBody.cells arr_0) 0 :: .ref (GBody.cells arr_0) 0 :: .ref (GBody.cells arr_0) 0 :: .sl (arr_0.Mesh.Places.map GVector.cells) :: .i .i64 (arr_0.Mesh.Places.length : Int) :: .i .i64 (x_l0 + 1) :: an 24 []))))), [.vec 40 3 ((r0_l1.map GVector.cells).set x_l0.toNat [.f .f32 ((ZP (r0_l1.getD x_l0.toNat default) (Zw arr_0.Fall (arr_0.Weights.getD x_l0.toNat default))).X), .f .f32 ((ZP (r0_l1.getD x_l0.toNat default) (Zw arr_0.Fall (arr_0.Weights.getD x_l0.toNat default))).Y), .f .f32 ((ZP (r0_l1.getD x_l0.toNat default) (Zw arr_0.Fall (arr_0.Weights.getD x_l0.toNat default))).Z)]) false, .nest 49 ((Z0 arr_0.Mesh).map fun l => l.map (cI .i64)) false]⟩) (sB h_0 <| sK [19, 19] <| sX GVector.cells r0_l1 x_l0 y_0 y_1 <| sV GVector.cells r0_l1 x_l0.toNat y_2 <| sG (cF .f32) arr_0.Weights x_l0 y_0 y_3 <| sF (Z35 arr_0.Fall (arr_0.Weights.getD x_l0.toNat default)) <| sF (Z2X (r0_l1.getD x_l0.toNat default) (Zw arr_0.Fall (arr_0.Weights.getD x_l0.toNat default))) <| sX GVector.cells r0_l1 x_l0 y_0 y_1 <| sC (maplt (c := GVector.cells) (l := r0_l1) y_2) <| sI (x_l0 + 1) y_4 y_5 <| sN) (by kernel_rfl) (show _ = ⟨.ref (GBody.cells arr_0) 0 :: .any :: .nils :: .ref (GBody.cells arr_0) 0 :: .own 0 :: an 10 (.own 1 :: an 4 (.ref (GBody.cells arr_0) 0 :: .ref (GBody.cells arr_0) 0 :: .ref (GBody.cells arr_0) 0 :: .ref (GBody.cells arr_0) 0 :: .ref (GBody.cells arr_0) 0 :: .ref (GBody.cells arr_0) 0 :: .sl (arr_0.Mesh.Places.map GVector.cells) :: .i .i64 (arr_0.Mesh.Places.length : Int) :: .own 0 :: .ref (GBody.cells arr_0) 0 :: .ref (GBody.cells arr_0) 0 :: .ref (GBody.cells arr_0) 2 :: .sl (arr_0.Springs.map GSpring.cells) :: an 52 (.ref (GBody.cells arr_0) 0 :: .ref (GBody.cells arr_0) 0 :: .ref (GBody.cells arr_0) 1 :: .sl (arr_0.Mesh.Triangles.map (cL (cI .i64))) :: an 72 (.ref (GBody.cells arr_0) 0 :: .own 1 :: .own 1 :: an 86 (.ref (GBody.cells arr_0) 0 :: .ref (GBody.cells arr_0) 0 :: .ref (GBody.cells arr_0) 0 :: .sl (arr_0.Mesh.Places.map GVector.cells) :: .i .i64 (arr_0.Mesh.Places.length : Int) :: .i .i64 (x_l0 + 1) :: an 24 []))))), [.vec 40 3 ((r0_l1.set x_l0.toNat (ZP (r0_l1.getD x_l0.toNat default) (Zw arr_0.Fall (arr_0.Weights.getD x_l0.toNat default)))).map GVector.cells) false, .nest 49 ((Z0 arr_0.Mesh).map fun l => l.map (cI .i64)) false]⟩ from (by simp [List.map_set, GVector.cells])) (ih (x_l0 + 1) (r0_l1.set x_l0.toNat (ZP (r0_l1.getD x_l0.toNat default) (Zw arr_0.Fall (arr_0.Weights.getD x_l0.toNat default)))) (show 0 ≤ (x_l0 + 1) from (by omega)) (show (r0_l1.set x_l0.toNat (ZP (r0_l1.getD x_l0.toNat default) (Zw arr_0.Fall (arr_0.Weights.getD x_l0.toNat default)))).length = arr_0.Mesh.Places.length from (by simp_all <;> omega)) (by omega))
  | false =>
   have gh_0 := of_decide_eq_false h_0
   have e : ZJ arr_0 (k + 1) x_l0 r0_l1 = r0_l1 := by simp only [ZJ, h_0, cond_false]
   rw [e]
   exact outR (e := (.exit 8)) E0Ok Z3 [] Z8d [0, 1] (sB h_0 <| sN) (by kernel_rfl) (by intro h; cases h)
theorem Z8e (arr_0 : GBody) : ∀ (k : Nat) (x_l0 : Int) (r0_l1 : (List GVector)) (hk : ((arr_0.Mesh.Places.length : Int) - x_l0).toNat < k), (ZJ arr_0 k x_l0 r0_l1).length = r0_l1.length := by
  intro k
  induction k with
  | zero => intro x_l0 r0_l1 hk; exact absurd hk (Nat.not_lt_zero _)
  | succ k ih =>
    intro x_l0 r0_l1 hk
    cases h_0 : (decide (x_l0 < (arr_0.Mesh.Places.length : Int))) with
    | true =>
      have e : ZJ arr_0 (k + 1) x_l0 r0_l1 = (ZJ arr_0 k (x_l0 + 1) (r0_l1.set x_l0.toNat (ZP (r0_l1.getD x_l0.toNat default) (Zw arr_0.Fall (arr_0.Weights.getD x_l0.toNat default))))) := by simp only [ZJ, h_0, cond_true]
      rw [e, ih (x_l0 + 1) (r0_l1.set x_l0.toNat (ZP (r0_l1.getD x_l0.toNat default) (Zw arr_0.Fall (arr_0.Weights.getD x_l0.toNat default)))) (by simp_all <;> omega)]; simp
    | false =>
      have e : ZJ arr_0 (k + 1) x_l0 r0_l1 = r0_l1 := by simp only [ZJ, h_0, cond_false]
      first | (rw [e]; done) | (rw [e]; rfl)
def Z3b (arr_0 : GBody) : (List GVector) := (ZJ arr_0 (((arr_0.Mesh.Places.length : Int) - 0).toNat + 1) 0 (Z2m arr_0))
@[simp] theorem ZaZ (arr_0 : GBody) : (Z3b arr_0).length = ((Z2m arr_0) : (List GVector)).length := Z8e arr_0 (((arr_0.Mesh.Places.length : Int) - 0).toNat + 1) 0 (Z2m arr_0) (by exact Nat.lt_succ_self _)
def Z2g (arr_0 : GBody) : (List GVector) := (Z3b arr_0)
@[simp] theorem ZbF (arr_0 : GBody) : (Z2g arr_0).length = arr_0.Mesh.Places.length := by
  first | (simp [Z2g]; done)
theorem Zac (arr_0 : GBody) (hp0 : arr_0.Mesh.Places.length ≤ 1073741824) (hp1 : arr_0.Mesh.Triangles.length ≤ 1073741824) (hp2 : ∀ t ∈ arr_0.Mesh.Triangles, t.length ≤ 1073741824) (hp3 : arr_0.Springs.length ≤ 1073741824) (hp4 : arr_0.Weights.length ≤ 1073741824) (hp5 : OkBd arr_0)  : Fn prog 51 [.ref (GBody.cells arr_0) 0] (.own 0) [.vec 40 3 ((Z2g arr_0).map GVector.cells) false] := by
 have y0 : (0 : Int) ≤ (arr_0.Mesh.Places.length : Int) := (by omega)
 have y1 : ((arr_0.Mesh.Places.length : Int) : Int) ≤ 2147483648 := (by omega)
 have y2 : OkE arr_0.Mesh.Places.length arr_0.Mesh.Triangles := (by exact hp5.e)
 refine fnS E0Ok Z3 (c := bodyOf f51) [] (.own 0) [.vec 40 3 ((Z3b arr_0).map GVector.cells) false] func51 (sZ GVector.cells arr_0.Mesh.Places <| sC (show (arr_0.Mesh.Places.length : Int) = (arr_0.Mesh.Places.length : Int) from rfl) <| sC y0 <| sC y1 <| sZ GSpring.cells arr_0.Springs <| sL (mR false [0, 1, 1, 3, 15, 15, 245]) 1 (lp_cast (st2 := ⟨.ref (GBody.cells arr_0) 0 :: .any :: .nils :: .ref (GBody.cells arr_0) 0 :: .own 0 :: an 15 (.ref (GBody.cells arr_0) 0 :: .ref (GBody.cells arr_0) 0 :: .ref (GBody.cells arr_0) 0 :: .ref (GBody.cells arr_0) 0 :: .ref (GBody.cells arr_0) 0 :: .ref (GBody.cells arr_0) 0 :: .sl (arr_0.Mesh.Places.map GVector.cells) :: .i .i64 (arr_0.Mesh.Places.length : Int) :: .own 0 :: .ref (GBody.cells arr_0) 0 :: .ref (GBody.cells arr_0) 0 :: .ref (GBody.cells arr_0) 2 :: .sl (arr_0.Springs.map GSpring.cells) :: .i .i64 (arr_0.Springs.length : Int) :: .i .i64 0 :: an 245 []), [.vec 40 3 (List.replicate (Int.toNat (arr_0.Mesh.Places.length : Int)) [.f .f32 0, .f .f32 0, .f .f32 0]) false]⟩) (lp_val (Z4Y arr_0) (x := (Z2k arr_0)) (Z8P arr_0 hp0 hp1 hp2 hp3 hp4 hp5 (((arr_0.Springs.length : Int) - 0).toNat + 1) 0 (List.replicate (arr_0.Mesh.Places.length : Int).toNat (⟨0, 0, 0⟩ : GVector)) (show 0 ≤ 0 from (by omega)) (show (List.replicate (arr_0.Mesh.Places.length : Int).toNat (⟨0, 0, 0⟩ : GVector)).length = arr_0.Mesh.Places.length from (by simp; done)) (Nat.lt_succ_self _)) rfl) (by simp [Z6K, GVector.cells])) <| sZ (cL (cI .i64)) arr_0.Mesh.Triangles <| sL Z5W 1 (lp_val (Z51 arr_0) (x := (Z2l arr_0)) (Z8T arr_0 hp0 hp1 hp2 hp3 hp4 hp5 (((arr_0.Mesh.Triangles.length : Int) - 0).toNat + 1) 0 (Z2k arr_0) (show 0 ≤ 0 from (by omega)) (show (Z2k arr_0).length = arr_0.Mesh.Places.length from (by simp; done)) (Nat.lt_succ_self _)) rfl) <| sF (Fn.sub (args := [.ref (GBody.cells arr_0) 0]) (r := .own 0) (new := [.nest 49 ((Z0 arr_0.Mesh).map fun l => l.map (cI .i64)) false]) [some 2] (Zab arr_0.Mesh hp0 hp1 hp2 y2)) <| sM (nlen_ok (l := (Z0 arr_0.Mesh)) (f := fun l => l.map (cI .i64))) <| sL Z5X 2 (lp_val (Z52 arr_0) (x := (Z2m arr_0)) (Z8V arr_0 hp0 hp1 hp2 hp3 hp4 hp5 ((((Z0 arr_0.Mesh).length : Int) - 0).toNat + 1) 0 (Z2l arr_0) (show 0 ≤ 0 from (by omega)) (show (Z2l arr_0).length = arr_0.Mesh.Places.length from (by simp; done)) (Nat.lt_succ_self _)) rfl) <| sZ GVector.cells arr_0.Mesh.Places <| sL Z60 2 (lp_val (Z53 arr_0) (x := (Z3b arr_0)) (Z8X arr_0 hp0 hp1 hp2 hp3 hp4 hp5 (((arr_0.Mesh.Places.length : Int) - 0).toNat + 1) 0 (Z2m arr_0) (show 0 ≤ 0 from (by omega)) (show (Z2m arr_0).length = arr_0.Mesh.Places.length from (by simp; done)) (Nat.lt_succ_self _)) rfl) <| sK [0] sN) rfl (by kernel_rfl) (by kernel_rfl) rfl ?_ ?_
 · rfl
 · simp [Z2g]
def Z16 (b_0 : GBody) (held_1 : (List Int)) : Nat → Int → (List GVector) → (List GVector)
  | 0, _, _ => default
  | k + 1, x_l0, r0_l1 => (cond (decide (x_l0 < (held_1.length : Int)))
    (Z16 b_0 held_1 k (x_l0 + 1) (r0_l1.set ((held_1.getD x_l0.toNat default).toNat) (⟨0, 0, 0⟩ : GVector)))
    r0_l1)
def Z5r (b_0 : GBody) (held_1 : (List Int)) (r : (List GVector)) : Ex × St := ((.exit 0), ⟨.ref (GBody.cells b_0) 0 :: .sl (held_1.map (cI .i64)) :: .any :: .any :: .nils :: .own 0 :: .any :: .ref (GBody.cells b_0) 0 :: .own 0 :: .sl (held_1.map (cI .i64)) :: an 13 [], [.vec 40 3 (r.map GVector.cells) false]⟩)
def Z9J (b_0 : GBody) (held_1 : (List Int)) (x_l0 : Int) (r0_l1 : (List GVector)) : St := ⟨.ref (GBody.cells b_0) 0 :: .sl (held_1.map (cI .i64)) :: .any :: .any :: .nils :: .own 0 :: .any :: .ref (GBody.cells b_0) 0 :: .own 0 :: .sl (held_1.map (cI .i64)) :: .i .i64 (held_1.length : Int) :: .i .i64 x_l0 :: an 11 [], [.vec 40 3 (r0_l1.map GVector.cells) false]⟩
theorem Z9K (b_0 : GBody) (held_1 : (List Int)) (hp0 : b_0.Mesh.Places.length ≤ 1073741824) (hp1 : b_0.Mesh.Triangles.length ≤ 1073741824) (hp2 : ∀ t ∈ b_0.Mesh.Triangles, t.length ≤ 1073741824) (hp3 : b_0.Springs.length ≤ 1073741824) (hp4 : b_0.Weights.length ≤ 1073741824) (hp5 : held_1.length ≤ 1073741824) (hp6 : OkBd b_0) (hp7 : OkIx b_0.Mesh.Places.length (fun x => x) held_1) : ∀ (k : Nat) (x_l0 : Int) (r0_l1 : (List GVector)) (Z6L : 0 ≤ x_l0) (Z6M : r0_l1.length = b_0.Mesh.Places.length) (hk : ((held_1.length : Int) - x_l0).toNat < k), Lp prog 0 (sub (bodyOf f65) [1, 1, 0, 1, 0, 0]) (Z9J b_0 held_1 x_l0 r0_l1) (Z5r b_0 held_1 (Z16 b_0 held_1 k x_l0 r0_l1)).1 (Z5r b_0 held_1 (Z16 b_0 held_1 k x_l0 r0_l1)).2 := by
 intro k
 induction k with
 | zero => intro x_l0 r0_l1 Z6L Z6M hk; exact absurd hk (Nat.not_lt_zero _)
 | succ k ih =>
  intro x_l0 r0_l1 Z6L Z6M hk
  cases h_0 : (decide (x_l0 < (held_1.length : Int))) with
  | true =>
   have gh_0 := of_decide_eq_true h_0
   have y_0 : (0 : Int) ≤ x_l0 := (by assumption)
   have y_1 : x_l0 < (held_1.length : Int) := (by assumption)
   have y_2 : (0 : Int) ≤ (held_1.getD x_l0.toNat default) := (by have q := OkIx.at hp7 (by assumption) gh_0; omega)
   have y_3 : (held_1.getD x_l0.toNat default) < (r0_l1.length : Int) := (by have q := OkIx.at hp7 (by assumption) gh_0; omega)
   have y_4 : (held_1.getD x_l0.toNat default).toNat < r0_l1.length := (by omega)
   have y_5 : (-9223372036854775808 : Int) ≤ (x_l0 + 1) := (by omega)
   have y_6 : (x_l0 + 1) ≤ (9223372036854775807 : Int) := (by omega)
   have e : Z16 b_0 held_1 (k + 1) x_l0 r0_l1 = (Z16 b_0 held_1 k (x_l0 + 1) (r0_l1.set ((held_1.getD x_l0.toNat default).toNat) (⟨0, 0, 0⟩ : GVector))) := by simp only [Z16, h_0, cond_true]
   rw [e]
   exact nextS E0Ok Z3 [] (mR false [0, 2, 2, 2, 1, 5, 11]) [0] (⟨.ref (GBody.cells b_0) 0 :: .sl (held_1.map (cI .i64)) :: .any :: .any :: .nils :: .own 0 :: .any :: .ref (GBody.cells b_0) 0 :: .own 0 :: .sl (held_1.map (cI .i64)) :: .i .i64 (held_1.length : Int) :: .i .i64 (x_l0 + 1) :: an 11 [], [.vec 40 3 ((r0_l1.map GVector.cells).set ((held_1.getD x_l0.toNat default).toNat) [.f .f32 0, .f .f32 0, .f .f32 0]) false]⟩) (sB h_0 <| sG (cI .i64) held_1 x_l0 y_0 y_1 <| sX GVector.cells r0_l1 (held_1.getD x_l0.toNat default) y_2 y_3 <| sC (maplt (c := GVector.cells) (l := r0_l1) y_4) <| sI (x_l0 + 1) y_5 y_6 <| sN) (by kernel_rfl) (show _ = ⟨.ref (GBody.cells b_0) 0 :: .sl (held_1.map (cI .i64)) :: .any :: .any :: .nils :: .own 0 :: .any :: .ref (GBody.cells b_0) 0 :: .own 0 :: .sl (held_1.map (cI .i64)) :: .i .i64 (held_1.length : Int) :: .i .i64 (x_l0 + 1) :: an 11 [], [.vec 40 3 ((r0_l1.set ((held_1.getD x_l0.toNat default).toNat) (⟨0, 0, 0⟩ : GVector)).map GVector.cells) false]⟩ from (by simp [List.map_set, GVector.cells])) (ih (x_l0 + 1) (r0_l1.set ((held_1.getD x_l0.toNat default).toNat) (⟨0, 0, 0⟩ : GVector)) (show 0 ≤ (x_l0 + 1) from (by omega)) (show (r0_l1.set ((held_1.getD x_l0.toNat default).toNat) (⟨0, 0, 0⟩ : GVector)).length = b_0.Mesh.Places.length from (by have q := OkIx.at hp7 (by assumption) gh_0; (simp only [List.length_set]; omega))) (by omega))
  | false =>
   have gh_0 := of_decide_eq_false h_0
   have e : Z16 b_0 held_1 (k + 1) x_l0 r0_l1 = r0_l1 := by simp only [Z16, h_0, cond_false]
   rw [e]
   exact outR (e := (.exit 0)) E0Ok Z3 [] (mR false [0, 2, 2, 2, 1, 3, 13]) [0] (sB h_0 <| sN) (by kernel_rfl) (by intro h; cases h)
theorem Z8Y (b_0 : GBody) (held_1 : (List Int)) : ∀ (k : Nat) (x_l0 : Int) (r0_l1 : (List GVector)) (hk : ((held_1.length : Int) - x_l0).toNat < k), (Z16 b_0 held_1 k x_l0 r0_l1).length = r0_l1.length := by
  intro k
  induction k with
  | zero => intro x_l0 r0_l1 hk; exact absurd hk (Nat.not_lt_zero _)
  | succ k ih =>
    intro x_l0 r0_l1 hk
    cases h_0 : (decide (x_l0 < (held_1.length : Int))) with
    | true =>
      have e : Z16 b_0 held_1 (k + 1) x_l0 r0_l1 = (Z16 b_0 held_1 k (x_l0 + 1) (r0_l1.set ((held_1.getD x_l0.toNat default).toNat) (⟨0, 0, 0⟩ : GVector))) := by simp only [Z16, h_0, cond_true]
      rw [e, ih (x_l0 + 1) (r0_l1.set ((held_1.getD x_l0.toNat default).toNat) (⟨0, 0, 0⟩ : GVector)) (by simp_all <;> omega)]; simp
    | false =>
      have e : Z16 b_0 held_1 (k + 1) x_l0 r0_l1 = r0_l1 := by simp only [Z16, h_0, cond_false]
      first | (rw [e]; done) | (rw [e]; rfl)
def Z3s (b_0 : GBody) (held_1 : (List Int)) : (List GVector) := (Z16 b_0 held_1 (((held_1.length : Int) - 0).toNat + 1) 0 (Z2g b_0))
@[simp] theorem Zbp (b_0 : GBody) (held_1 : (List Int)) : (Z3s b_0 held_1).length = ((Z2g b_0) : (List GVector)).length := Z8Y b_0 held_1 (((held_1.length : Int) - 0).toNat + 1) 0 (Z2g b_0) (by exact Nat.lt_succ_self _)
def Z3c (b_0 : GBody) (held_1 : (List Int)) : (List GVector) := (Z3s b_0 held_1)
@[simp] theorem Zc6 (b_0 : GBody) (held_1 : (List Int)) : (Z3c b_0 held_1).length = b_0.Mesh.Places.length := by
  first | (simp [Z3c]; done)
theorem ZaM (b_0 : GBody) (held_1 : (List Int)) (hp0 : b_0.Mesh.Places.length ≤ 1073741824) (hp1 : b_0.Mesh.Triangles.length ≤ 1073741824) (hp2 : ∀ t ∈ b_0.Mesh.Triangles, t.length ≤ 1073741824) (hp3 : b_0.Springs.length ≤ 1073741824) (hp4 : b_0.Weights.length ≤ 1073741824) (hp5 : held_1.length ≤ 1073741824) (hp6 : OkBd b_0) (hp7 : OkIx b_0.Mesh.Places.length (fun x => x) held_1)  : Fn prog 65 [.ref (GBody.cells b_0) 0, .sl (held_1.map (cI .i64))] (.own 0) [.vec 40 3 ((Z3c b_0 held_1).map GVector.cells) false] := by
 refine fnS E0Ok Z3 (c := bodyOf f65) [] (.own 0) [.vec 40 3 ((Z3s b_0 held_1).map GVector.cells) false] func65 (sF (Zac b_0 hp0 hp1 hp2 hp3 hp4 hp6) <| sZ (cI .i64) held_1 <| sL (mR false [0, 2, 2, 2, 1, 5, 11]) 1 (lp_val (Z5r b_0 held_1) (x := (Z3s b_0 held_1)) (Z9K b_0 held_1 hp0 hp1 hp2 hp3 hp4 hp5 hp6 hp7 (((held_1.length : Int) - 0).toNat + 1) 0 (Z2g b_0) (show 0 ≤ 0 from (by omega)) (show (Z2g b_0).length = b_0.Mesh.Places.length from (by simp; done)) (Nat.lt_succ_self _)) rfl) <| sK [0] sN) rfl (by kernel_rfl) (by kernel_rfl) rfl ?_ ?_
 · rfl
 · simp [Z3c]
def Zp (b_0 : GBody) (held_1 : (List Int)) : (List GVector) × Bool := (cond (Z1a b_0)
  (cond (Z31 b_0 held_1)
    ((Z3c b_0 held_1), true)
    (([] : List GVector), false))
  (([] : List GVector), false))
theorem Z7W (b_0 : GBody) (held_1 : (List Int)) : (Zp b_0 held_1).1.length ≤ b_0.Mesh.Places.length := by
  cases h0 : (Z1a b_0) with
  | true =>
    cases h1 : (Z31 b_0 held_1) with
    | true =>
      first | (simp [Zp, h0, h1]; done)
    | false =>
      first | (simp [Zp, h0, h1]; done)
  | false =>
    first | (simp [Zp, h0]; done)
theorem Z9L (b_0 : GBody) (held_1 : (List Int)) (hp0 : b_0.Mesh.Places.length ≤ 1073741824) (hp1 : b_0.Mesh.Triangles.length ≤ 1073741824) (hp2 : ∀ t ∈ b_0.Mesh.Triangles, t.length ≤ 1073741824) (hp3 : b_0.Springs.length ≤ 1073741824) (hp4 : b_0.Weights.length ≤ 1073741824) (hp5 : held_1.length ≤ 1073741824)  : Fn prog 25 [.agg [.sl (b_0.Mesh.Places.map GVector.cells), .sl (b_0.Mesh.Triangles.map (cL (cI .i64))), .sl (b_0.Springs.map GSpring.cells), .f .f32 b_0.Film, .f .f32 b_0.Bend, .sl (b_0.Weights.map (cF .f32)), .f .f32 b_0.Fall.X, .f .f32 b_0.Fall.Y, .f .f32 b_0.Fall.Z], .sl (held_1.map (cI .i64))] (.tup [.own 0, .b ((Zp b_0 held_1).2)]) [.vec 40 3 (((Zp b_0 held_1).1).map GVector.cells) false] := by
 have p {a C} (s : Scr a C) := sF (Zbs b_0 hp0 hp1 hp2 hp3 hp4) <| s
 cases h0 : (Z1a b_0) with
 | true =>
  have q {a C} (s : Scr a C) := p (sB' h0 <| sB' h0 <| sF (ZaJ b_0 held_1 hp0 hp1 hp2 hp3 hp4 hp5) <| sB' h0 <| sB' h0 <| s)
  clear p
  cases h1 : (Z31 b_0 held_1) with
  | true =>
   have y0 : OkBd b_0 := by clear q; exact (by exact ZaI _ (by assumption))
   have y1 : OkIx b_0.Mesh.Places.length (fun x => x) held_1 := by clear q; exact (by exact ZbQ _ _ (by assumption) (by assumption))
   refine fnS E0Ok Z3 (c := bodyOf f25) [] (.tup [.own 0, .b true]) [.vec 40 3 ((Z3c b_0 held_1).map GVector.cells) false] func25 (q (sB' h1 <| sF (ZaM b_0 held_1 hp0 hp1 hp2 hp3 hp4 hp5 y0 y1) <| sK [1] sN)) rfl (by kernel_rfl) (by kernel_rfl) rfl ?_ ?_
   · simp only [Zp, h0, h1, cond_true]
   · simp [Zp, h0, h1]
  | false =>
   refine fnS E0Ok Z3 (c := bodyOf f25) [(.tm 4, .vec 40 3 [] false)] (.tup [.own 0, .b false]) [.vec 40 3 [] false] func25 (q (sB' h1 <| sK [1] sN)) rfl (by kernel_rfl) (by kernel_rfl) rfl ?_ ?_
   · simp only [Zp, h0, h1, cond_true, cond_false]
   · simp [Zp, h0, h1, GVector.cells]
 | false =>
  refine fnS E0Ok Z3 (c := bodyOf f25) [(.tm 4, .vec 40 3 [] false)] (.tup [.own 0, .b false]) [.vec 40 3 [] false] func25 (p (sB' h0 <| sB' h0 <| sB' h0 <| sB' h0 <| sB (show true = true from rfl) <| sK [1] sN)) rfl (by kernel_rfl) (by kernel_rfl) rfl ?_ ?_
  · simp only [Zp, h0, cond_false]
  · simp [Zp, h0, GVector.cells]
def Z12 (n_0 : Int) (low_1 : Int) (high_2 : Int) : Bool := (cond (decide (n_0 ≥ low_1))
  (decide (n_0 ≤ high_2))
  false)
theorem Z5E (n_0 : Int) (low_1 : Int) (high_2 : Int)   : Fn prog 83 [.i .i64 n_0, .i .i64 low_1, .i .i64 high_2] (.b (Z12 n_0 low_1 high_2)) [] := by
 cases h0 : (decide (n_0 ≥ low_1)) with
 | true =>
  have gh0 := of_decide_eq_true h0
  refine fnS E0Ok Z3 (c := bodyOf f83) [] (.b (decide (n_0 ≤ high_2))) [] func83 (sB h0 <| sB h0 <| sB h0 <| sB h0 <| sK [] sN) rfl (by kernel_rfl) (by kernel_rfl) rfl ?_ ?_
  · simp only [Z12, h0, cond_true]
  · rfl
 | false =>
  have gh0 := of_decide_eq_false h0
  refine fnS E0Ok Z3 (c := bodyOf f83) [] (.b false) [] func83 (sB h0 <| sB h0 <| sB h0 <| sB h0 <| sK [] sN) rfl (by kernel_rfl) (by kernel_rfl) rfl ?_ ?_
  · simp only [Z12, h0, cond_false]
  · rfl
def Z1z (m_0 : GMesh) (x_l0 : Int) : Nat → Int → (Unit) ⊕ (Unit)
  | 0, _ => .inl default
  | k + 1, x_l0_1 => (cond (decide (x_l0_1 < ((m_0.Triangles.getD x_l0.toNat default).length : Int)))
    (cond (Z12 ((m_0.Triangles.getD x_l0.toNat default).getD x_l0_1.toNat default) 0 (IntKind.wrap .i64 ((m_0.Places.length : Int) - 1)))
      (Z1z m_0 x_l0 k (x_l0_1 + 1))
      (.inl ()))
    (.inr ()))
def Z45 (m_0 : GMesh) (x_l0 : Int) : (Unit) ⊕ (Unit) → Ex × St
  | .inl r => (.ret, ⟨.any :: .any :: .b false :: an 66 [], []⟩)
  | .inr r => ((.exit 2), ⟨.agg [.sl (m_0.Places.map GVector.cells), .sl (m_0.Triangles.map (cL (cI .i64)))] :: .ptr 0 0 0 :: .any :: .i .i64 (m_0.Places.length : Int) :: .any :: .sl ((m_0.Triangles.getD x_l0.toNat default).map (cI .i64)) :: .any :: .any :: .ptr 0 0 0 :: .sl (m_0.Places.map GVector.cells) :: .i .i64 (m_0.Places.length : Int) :: .i .i64 (m_0.Places.length : Int) :: .b (decide ((m_0.Places.length : Int) > 64)) :: .b (decide ((m_0.Places.length : Int) > 64)) :: .ptr 0 0 1 :: .sl (m_0.Triangles.map (cL (cI .i64))) :: .i .i64 (m_0.Triangles.length : Int) :: .b (decide ((m_0.Triangles.length : Int) > 128)) :: .b (decide ((m_0.Triangles.length : Int) > 128)) :: .ptr 0 0 1 :: .sl (m_0.Triangles.map (cL (cI .i64))) :: .i .i64 (m_0.Triangles.length : Int) :: .i .i64 x_l0 :: .b (decide (x_l0 < (m_0.Triangles.length : Int))) :: .ref [.sl ((m_0.Triangles.getD x_l0.toNat default).map (cI .i64))] 0 :: .sl ((m_0.Triangles.getD x_l0.toNat default).map (cI .i64)) :: .sl ((m_0.Triangles.getD x_l0.toNat default).map (cI .i64)) :: .i .i64 ((m_0.Triangles.getD x_l0.toNat default).length : Int) :: .b (((m_0.Triangles.getD x_l0.toNat default).length : Int) != 3) :: .b (((m_0.Triangles.getD x_l0.toNat default).length : Int) != 3) :: .sl ((m_0.Triangles.getD x_l0.toNat default).map (cI .i64)) :: .ref [.i .i64 ((m_0.Triangles.getD x_l0.toNat default).getD 0 default)] 0 :: .i .i64 ((m_0.Triangles.getD x_l0.toNat default).getD 0 default) :: .sl ((m_0.Triangles.getD x_l0.toNat default).map (cI .i64)) :: .ref [.i .i64 ((m_0.Triangles.getD x_l0.toNat default).getD 1 default)] 0 :: .i .i64 ((m_0.Triangles.getD x_l0.toNat default).getD 1 default) :: .b (((m_0.Triangles.getD x_l0.toNat default).getD 0 default) == ((m_0.Triangles.getD x_l0.toNat default).getD 1 default)) :: .b (((m_0.Triangles.getD x_l0.toNat default).getD 0 default) == ((m_0.Triangles.getD x_l0.toNat default).getD 1 default)) :: .b (((m_0.Triangles.getD x_l0.toNat default).getD 0 default) == ((m_0.Triangles.getD x_l0.toNat default).getD 1 default)) :: .sl ((m_0.Triangles.getD x_l0.toNat default).map (cI .i64)) :: .ref [.i .i64 ((m_0.Triangles.getD x_l0.toNat default).getD 1 default)] 0 :: .i .i64 ((m_0.Triangles.getD x_l0.toNat default).getD 1 default) :: .sl ((m_0.Triangles.getD x_l0.toNat default).map (cI .i64)) :: .ref [.i .i64 ((m_0.Triangles.getD x_l0.toNat default).getD 2 default)] 0 :: .i .i64 ((m_0.Triangles.getD x_l0.toNat default).getD 2 default) :: .b (((m_0.Triangles.getD x_l0.toNat default).getD 1 default) == ((m_0.Triangles.getD x_l0.toNat default).getD 2 default)) :: .b (((m_0.Triangles.getD x_l0.toNat default).getD 1 default) == ((m_0.Triangles.getD x_l0.toNat default).getD 2 default)) :: .b (((m_0.Triangles.getD x_l0.toNat default).getD 1 default) == ((m_0.Triangles.getD x_l0.toNat default).getD 2 default)) :: .sl ((m_0.Triangles.getD x_l0.toNat default).map (cI .i64)) :: .ref [.i .i64 ((m_0.Triangles.getD x_l0.toNat default).getD 0 default)] 0 :: .i .i64 ((m_0.Triangles.getD x_l0.toNat default).getD 0 default) :: .sl ((m_0.Triangles.getD x_l0.toNat default).map (cI .i64)) :: .ref [.i .i64 ((m_0.Triangles.getD x_l0.toNat default).getD 2 default)] 0 :: .i .i64 ((m_0.Triangles.getD x_l0.toNat default).getD 2 default) :: .b (((m_0.Triangles.getD x_l0.toNat default).getD 0 default) == ((m_0.Triangles.getD x_l0.toNat default).getD 2 default)) :: .b (((m_0.Triangles.getD x_l0.toNat default).getD 0 default) == ((m_0.Triangles.getD x_l0.toNat default).getD 2 default)) :: .sl ((m_0.Triangles.getD x_l0.toNat default).map (cI .i64)) :: .i .i64 ((m_0.Triangles.getD x_l0.toNat default).length : Int) :: an 11 [], [.box 38 [.sl (m_0.Places.map GVector.cells), .sl (m_0.Triangles.map (cL (cI .i64)))]]⟩)
def Z8Z (m_0 : GMesh) (x_l0 : Int) (x_l0_1 : Int) : St := ⟨.agg [.sl (m_0.Places.map GVector.cells), .sl (m_0.Triangles.map (cL (cI .i64)))] :: .ptr 0 0 0 :: .any :: .i .i64 (m_0.Places.length : Int) :: .any :: .sl ((m_0.Triangles.getD x_l0.toNat default).map (cI .i64)) :: .any :: .any :: .ptr 0 0 0 :: .sl (m_0.Places.map GVector.cells) :: .i .i64 (m_0.Places.length : Int) :: .i .i64 (m_0.Places.length : Int) :: .b (decide ((m_0.Places.length : Int) > 64)) :: .b (decide ((m_0.Places.length : Int) > 64)) :: .ptr 0 0 1 :: .sl (m_0.Triangles.map (cL (cI .i64))) :: .i .i64 (m_0.Triangles.length : Int) :: .b (decide ((m_0.Triangles.length : Int) > 128)) :: .b (decide ((m_0.Triangles.length : Int) > 128)) :: .ptr 0 0 1 :: .sl (m_0.Triangles.map (cL (cI .i64))) :: .i .i64 (m_0.Triangles.length : Int) :: .i .i64 x_l0 :: .b (decide (x_l0 < (m_0.Triangles.length : Int))) :: .ref [.sl ((m_0.Triangles.getD x_l0.toNat default).map (cI .i64))] 0 :: .sl ((m_0.Triangles.getD x_l0.toNat default).map (cI .i64)) :: .sl ((m_0.Triangles.getD x_l0.toNat default).map (cI .i64)) :: .i .i64 ((m_0.Triangles.getD x_l0.toNat default).length : Int) :: .b (((m_0.Triangles.getD x_l0.toNat default).length : Int) != 3) :: .b (((m_0.Triangles.getD x_l0.toNat default).length : Int) != 3) :: .sl ((m_0.Triangles.getD x_l0.toNat default).map (cI .i64)) :: .ref [.i .i64 ((m_0.Triangles.getD x_l0.toNat default).getD 0 default)] 0 :: .i .i64 ((m_0.Triangles.getD x_l0.toNat default).getD 0 default) :: .sl ((m_0.Triangles.getD x_l0.toNat default).map (cI .i64)) :: .ref [.i .i64 ((m_0.Triangles.getD x_l0.toNat default).getD 1 default)] 0 :: .i .i64 ((m_0.Triangles.getD x_l0.toNat default).getD 1 default) :: .b (((m_0.Triangles.getD x_l0.toNat default).getD 0 default) == ((m_0.Triangles.getD x_l0.toNat default).getD 1 default)) :: .b (((m_0.Triangles.getD x_l0.toNat default).getD 0 default) == ((m_0.Triangles.getD x_l0.toNat default).getD 1 default)) :: .b (((m_0.Triangles.getD x_l0.toNat default).getD 0 default) == ((m_0.Triangles.getD x_l0.toNat default).getD 1 default)) :: .sl ((m_0.Triangles.getD x_l0.toNat default).map (cI .i64)) :: .ref [.i .i64 ((m_0.Triangles.getD x_l0.toNat default).getD 1 default)] 0 :: .i .i64 ((m_0.Triangles.getD x_l0.toNat default).getD 1 default) :: .sl ((m_0.Triangles.getD x_l0.toNat default).map (cI .i64)) :: .ref [.i .i64 ((m_0.Triangles.getD x_l0.toNat default).getD 2 default)] 0 :: .i .i64 ((m_0.Triangles.getD x_l0.toNat default).getD 2 default) :: .b (((m_0.Triangles.getD x_l0.toNat default).getD 1 default) == ((m_0.Triangles.getD x_l0.toNat default).getD 2 default)) :: .b (((m_0.Triangles.getD x_l0.toNat default).getD 1 default) == ((m_0.Triangles.getD x_l0.toNat default).getD 2 default)) :: .b (((m_0.Triangles.getD x_l0.toNat default).getD 1 default) == ((m_0.Triangles.getD x_l0.toNat default).getD 2 default)) :: .sl ((m_0.Triangles.getD x_l0.toNat default).map (cI .i64)) :: .ref [.i .i64 ((m_0.Triangles.getD x_l0.toNat default).getD 0 default)] 0 :: .i .i64 ((m_0.Triangles.getD x_l0.toNat default).getD 0 default) :: .sl ((m_0.Triangles.getD x_l0.toNat default).map (cI .i64)) :: .ref [.i .i64 ((m_0.Triangles.getD x_l0.toNat default).getD 2 default)] 0 :: .i .i64 ((m_0.Triangles.getD x_l0.toNat default).getD 2 default) :: .b (((m_0.Triangles.getD x_l0.toNat default).getD 0 default) == ((m_0.Triangles.getD x_l0.toNat default).getD 2 default)) :: .b (((m_0.Triangles.getD x_l0.toNat default).getD 0 default) == ((m_0.Triangles.getD x_l0.toNat default).getD 2 default)) :: .sl ((m_0.Triangles.getD x_l0.toNat default).map (cI .i64)) :: .i .i64 ((m_0.Triangles.getD x_l0.toNat default).length : Int) :: .i .i64 x_l0_1 :: an 10 [], [.box 38 [.sl (m_0.Places.map GVector.cells), .sl (m_0.Triangles.map (cL (cI .i64)))]]⟩
def Z4o : List Bool := (mR false [0, 2, 1, 1, 1, 1, 2, 51, 10])
def Z8f : List Bool := (mR false [0, 2, 1, 1, 1, 1, 2, 50, 11])
theorem Z6N (m_0 : GMesh) (x_l0 : Int) (hp0 : m_0.Places.length ≤ 1073741824) (hp1 : m_0.Triangles.length ≤ 1073741824) (hp2 : ∀ t ∈ m_0.Triangles, t.length ≤ 1073741824) (Z3d : (decide ((m_0.Places.length : Int) > 64)) = false) (Z3e : (decide ((m_0.Triangles.length : Int) > 128)) = false) (Z3f : 0 ≤ x_l0) (ZbS : (((m_0.Triangles.getD x_l0.toNat default).length : Int) != 3) = false) (ZbT : (decide ((m_0.Places.length : Int) > 64)) = false) (ZbU : (decide ((m_0.Triangles.length : Int) > 128)) = false) (ZbV : (decide (x_l0 < (m_0.Triangles.length : Int))) = true) : ∀ (k : Nat) (x_l0_1 : Int) (Z63 : 0 ≤ x_l0_1) (hk : (((m_0.Triangles.getD x_l0.toNat default).length : Int) - x_l0_1).toNat < k), Lp prog 0 (sub (bodyOf f105) [1, 1, 1, 0, 1, 0, 0, 1, 1, 0, 0, 1, 1, 1, 0, 0]) (Z8Z m_0 x_l0 x_l0_1) (Z45 m_0 x_l0 (Z1z m_0 x_l0 k x_l0_1)).1 (Z45 m_0 x_l0 (Z1z m_0 x_l0 k x_l0_1)).2 := by
 intro k
 induction k with
 | zero => intro x_l0_1 Z63 hk; exact absurd hk (Nat.not_lt_zero _)
 | succ k ih =>
  intro x_l0_1 Z63 hk
  cases h__0 : (decide (x_l0_1 < ((m_0.Triangles.getD x_l0.toNat default).length : Int))) with
  | true =>
   have gh__0 := of_decide_eq_true h__0
   have y__0 : (0 : Int) ≤ x_l0_1 := (by assumption)
   have y__1 : x_l0_1 < ((m_0.Triangles.getD x_l0.toNat default).length : Int) := (by assumption)
   have p {a C} (s : Scr a C) := sB h__0 <| sG (cI .i64) (m_0.Triangles.getD x_l0.toNat default) x_l0_1 y__0 y__1 <| sW .i64 ((m_0.Places.length : Int) - 1) <| sF (Z5E ((m_0.Triangles.getD x_l0.toNat default).getD x_l0_1.toNat default) 0 (IntKind.wrap .i64 ((m_0.Places.length : Int) - 1))) <| s
   cases h__1 : (Z12 ((m_0.Triangles.getD x_l0.toNat default).getD x_l0_1.toNat default) 0 (IntKind.wrap .i64 ((m_0.Places.length : Int) - 1))) with
   | true =>
    have y__2 : (-9223372036854775808 : Int) ≤ (x_l0_1 + 1) := by clear p; exact (by omega)
    have y__3 : (x_l0_1 + 1) ≤ (9223372036854775807 : Int) := by clear p; exact (by simp_all <;> omega)
    have e : Z1z m_0 x_l0 (k + 1) x_l0_1 = (Z1z m_0 x_l0 k (x_l0_1 + 1)) := by simp only [Z1z, h__0, h__1, cond_true]
    rw [e]
    exact nextR E0Ok Z3 [] Z4o [0] (ih (x_l0_1 + 1) (show 0 ≤ (x_l0_1 + 1) from (by omega)) (by omega)) (p (sB' h__1 <| sI (x_l0_1 + 1) y__2 y__3 <| sN)) (by kernel_rfl)
   | false =>
    have e : Z1z m_0 x_l0 (k + 1) x_l0_1 = (.inl ()) := by simp only [Z1z, h__0, h__1, cond_true, cond_false]
    rw [e]
    exact outR (e := .ret) E0Ok Z3 [] (mR false [2, 1, 66]) [] (p (sB' h__1 <| sN)) (by kernel_rfl) (by intro h; cases h)
  | false =>
   have gh__0 := of_decide_eq_false h__0
   have e : Z1z m_0 x_l0 (k + 1) x_l0_1 = (.inr ()) := by simp only [Z1z, h__0, cond_false]
   rw [e]
   exact outR (e := (.exit 2)) E0Ok Z3 [] Z8f [0] (sB h__0 <| sN) (by kernel_rfl) (by intro h; cases h)
def Z2T (m_0 : GMesh) (x_l0 : Int) : (Unit) ⊕ (Unit) := (Z1z m_0 x_l0 ((((m_0.Triangles.getD x_l0.toNat default).length : Int) - 0).toNat + 1) 0)
def Zo (m_0 : GMesh) : Nat → Int → (Unit) ⊕ (Unit)
  | 0, _ => .inl default
  | k + 1, x_l0 => (cond (decide (x_l0 < (m_0.Triangles.length : Int)))
    (cond (((m_0.Triangles.getD x_l0.toNat default).length : Int) != 3)
      (.inl ())
      (cond (((m_0.Triangles.getD x_l0.toNat default).getD 0 default) == ((m_0.Triangles.getD x_l0.toNat default).getD 1 default))
        (.inl ())
        (cond (((m_0.Triangles.getD x_l0.toNat default).getD 1 default) == ((m_0.Triangles.getD x_l0.toNat default).getD 2 default))
          (.inl ())
          (cond (((m_0.Triangles.getD x_l0.toNat default).getD 0 default) == ((m_0.Triangles.getD x_l0.toNat default).getD 2 default))
            (.inl ())
            (match (Z2T m_0 x_l0) with
              | .inl r_6 => (.inl ())
              | .inr r_6 => (Zo m_0 k (x_l0 + 1)))))))
    (.inr ()))
def Z46 (m_0 : GMesh) : (Unit) ⊕ (Unit) → Ex × St
  | .inl r => (.ret, ⟨.any :: .any :: .b false :: an 66 [], []⟩)
  | .inr r => ((.exit 0), ⟨.agg [.sl (m_0.Places.map GVector.cells), .sl (m_0.Triangles.map (cL (cI .i64)))] :: .ptr 0 0 0 :: .any :: .i .i64 (m_0.Places.length : Int) :: an 4 (.ptr 0 0 0 :: .sl (m_0.Places.map GVector.cells) :: .i .i64 (m_0.Places.length : Int) :: .i .i64 (m_0.Places.length : Int) :: .b (decide ((m_0.Places.length : Int) > 64)) :: .b (decide ((m_0.Places.length : Int) > 64)) :: .ptr 0 0 1 :: .sl (m_0.Triangles.map (cL (cI .i64))) :: .i .i64 (m_0.Triangles.length : Int) :: .b (decide ((m_0.Triangles.length : Int) > 128)) :: .b (decide ((m_0.Triangles.length : Int) > 128)) :: .ptr 0 0 1 :: .sl (m_0.Triangles.map (cL (cI .i64))) :: an 48 []), [.box 38 [.sl (m_0.Places.map GVector.cells), .sl (m_0.Triangles.map (cL (cI .i64)))]]⟩)
def Z90 (m_0 : GMesh) (x_l0 : Int) : St := ⟨.agg [.sl (m_0.Places.map GVector.cells), .sl (m_0.Triangles.map (cL (cI .i64)))] :: .ptr 0 0 0 :: .any :: .i .i64 (m_0.Places.length : Int) :: an 4 (.ptr 0 0 0 :: .sl (m_0.Places.map GVector.cells) :: .i .i64 (m_0.Places.length : Int) :: .i .i64 (m_0.Places.length : Int) :: .b (decide ((m_0.Places.length : Int) > 64)) :: .b (decide ((m_0.Places.length : Int) > 64)) :: .ptr 0 0 1 :: .sl (m_0.Triangles.map (cL (cI .i64))) :: .i .i64 (m_0.Triangles.length : Int) :: .b (decide ((m_0.Triangles.length : Int) > 128)) :: .b (decide ((m_0.Triangles.length : Int) > 128)) :: .ptr 0 0 1 :: .sl (m_0.Triangles.map (cL (cI .i64))) :: .i .i64 (m_0.Triangles.length : Int) :: .i .i64 x_l0 :: an 46 []), [.box 38 [.sl (m_0.Places.map GVector.cells), .sl (m_0.Triangles.map (cL (cI .i64)))]]⟩
theorem Z6O (m_0 : GMesh) (hp0 : m_0.Places.length ≤ 1073741824) (hp1 : m_0.Triangles.length ≤ 1073741824) (hp2 : ∀ t ∈ m_0.Triangles, t.length ≤ 1073741824) (Z3d : (decide ((m_0.Places.length : Int) > 64)) = false) (Z3e : (decide ((m_0.Triangles.length : Int) > 128)) = false) : ∀ (k : Nat) (x_l0 : Int) (Z3f : 0 ≤ x_l0) (hk : ((m_0.Triangles.length : Int) - x_l0).toNat < k), Lp prog 0 (sub (bodyOf f105) [1, 1, 1, 0, 1, 0, 0]) (Z90 m_0 x_l0) (Z46 m_0 (Zo m_0 k x_l0)).1 (Z46 m_0 (Zo m_0 k x_l0)).2 := by
 intro k
 induction k with
 | zero => intro x_l0 Z3f hk; exact absurd hk (Nat.not_lt_zero _)
 | succ k ih =>
  intro x_l0 Z3f hk
  cases h_0 : (decide (x_l0 < (m_0.Triangles.length : Int))) with
  | true =>
   have gh_0 := of_decide_eq_true h_0
   have y_0 : (0 : Int) ≤ x_l0 := (by assumption)
   have y_1 : x_l0 < (m_0.Triangles.length : Int) := (by assumption)
   have p {a C} (s : Scr a C) := sB h_0 <| sG (cL (cI .i64)) m_0.Triangles x_l0 y_0 y_1 <| sK [28, 28] <| sZ (cI .i64) (m_0.Triangles.getD x_l0.toNat default) <| s
   cases h_1 : (((m_0.Triangles.getD x_l0.toNat default).length : Int) != 3) with
   | true =>
    have gh_1 := bne_iff_ne.1 h_1
    have e : Zo m_0 (k + 1) x_l0 = (.inl ()) := by simp only [Zo, h_0, h_1, cond_true]
    rw [e]
    exact outR (e := .ret) E0Ok Z3 [] (mR false [2, 1, 66]) [] (p (sB h_1 <| sB h_1 <| sB h_1 <| sB h_1 <| sB h_1 <| sB h_1 <| sB h_1 <| sB h_1 <| sB (show true = true from rfl) <| sB (show true = true from rfl) <| sB (show true = true from rfl) <| sB (show true = true from rfl) <| sB (show true = true from rfl) <| sB (show true = true from rfl) <| sB (show true = true from rfl) <| sB (show true = true from rfl) <| sB (show true = true from rfl) <| sB (show true = true from rfl) <| sB (show true = true from rfl) <| sB (show true = true from rfl) <| sB (show true = true from rfl) <| sB (show true = true from rfl) <| sB (show true = true from rfl) <| sB (show true = true from rfl) <| sB (show true = true from rfl) <| sN)) (by kernel_rfl) (by intro h; cases h)
   | false =>
    have gh_1 := bne_eq_false_iff_eq.1 h_1
    have y_2 : (0 : Int) ≤ 0 := by clear p; exact (by omega)
    have y_3 : 0 < ((m_0.Triangles.getD x_l0.toNat default).length : Int) := by clear p; exact (by omega)
    have y_4 : (0 : Int) ≤ 1 := by clear p; exact (by omega)
    have y_5 : 1 < ((m_0.Triangles.getD x_l0.toNat default).length : Int) := by clear p; exact (by omega)
    have q {a C} (s : Scr a C) := p (sB h_1 <| sB h_1 <| sG (cI .i64) (m_0.Triangles.getD x_l0.toNat default) 0 y_2 y_3 <| sB h_1 <| sB h_1 <| sB h_1 <| sG (cI .i64) (m_0.Triangles.getD x_l0.toNat default) 1 y_4 y_5 <| sB h_1 <| sB h_1 <| sB h_1 <| s)
    clear p
    cases h_2 : (((m_0.Triangles.getD x_l0.toNat default).getD 0 default) == ((m_0.Triangles.getD x_l0.toNat default).getD 1 default)) with
    | true =>
     have gh_2 := eq_of_beq h_2
     have e : Zo m_0 (k + 1) x_l0 = (.inl ()) := by simp only [Zo, h_0, h_1, h_2, cond_true, cond_false]
     rw [e]
     exact outR (e := .ret) E0Ok Z3 [] (mR false [2, 1, 66]) [] (q (sB h_2 <| sB h_2 <| sB h_2 <| sB h_2 <| sB h_2 <| sB h_2 <| sB h_2 <| sB h_2 <| sB (show true = true from rfl) <| sB (show true = true from rfl) <| sB (show true = true from rfl) <| sB (show true = true from rfl) <| sB (show true = true from rfl) <| sB (show true = true from rfl) <| sB (show true = true from rfl) <| sB (show true = true from rfl) <| sB (show true = true from rfl) <| sN)) (by kernel_rfl) (by intro h; cases h)
    | false =>
     have gh_2 := ne_of_beq_false h_2
     have y_6 : (0 : Int) ≤ 2 := by clear q; exact (by omega)
     have y_7 : 2 < ((m_0.Triangles.getD x_l0.toNat default).length : Int) := by clear q; exact (by omega)
     have p {a C} (s : Scr a C) := q (sB h_2 <| sB h_2 <| sG (cI .i64) (m_0.Triangles.getD x_l0.toNat default) 1 y_4 y_5 <| sB h_2 <| sB h_2 <| sB h_2 <| sG (cI .i64) (m_0.Triangles.getD x_l0.toNat default) 2 y_6 y_7 <| sB h_2 <| sB h_2 <| sB h_2 <| s)
     clear q
     cases h_3 : (((m_0.Triangles.getD x_l0.toNat default).getD 1 default) == ((m_0.Triangles.getD x_l0.toNat default).getD 2 default)) with
     | true =>
      have gh_3 := eq_of_beq h_3
      have e : Zo m_0 (k + 1) x_l0 = (.inl ()) := by simp only [Zo, h_0, h_1, h_2, h_3, cond_true, cond_false]
      rw [e]
      exact outR (e := .ret) E0Ok Z3 [] (mR false [2, 1, 66]) [] (p (sB h_3 <| sB h_3 <| sB h_3 <| sB h_3 <| sB h_3 <| sB h_3 <| sB h_3 <| sB h_3 <| sB (show true = true from rfl) <| sN)) (by kernel_rfl) (by intro h; cases h)
     | false =>
      have gh_3 := ne_of_beq_false h_3
      have q {a C} (s : Scr a C) := p (sB h_3 <| sB h_3 <| sG (cI .i64) (m_0.Triangles.getD x_l0.toNat default) 0 y_2 y_3 <| sB h_3 <| sB h_3 <| sB h_3 <| sG (cI .i64) (m_0.Triangles.getD x_l0.toNat default) 2 y_6 y_7 <| sB h_3 <| sB h_3 <| sB h_3 <| s)
      clear p
      cases h_4 : (((m_0.Triangles.getD x_l0.toNat default).getD 0 default) == ((m_0.Triangles.getD x_l0.toNat default).getD 2 default)) with
      | true =>
       have gh_4 := eq_of_beq h_4
       have e : Zo m_0 (k + 1) x_l0 = (.inl ()) := by simp only [Zo, h_0, h_1, h_2, h_3, h_4, cond_true, cond_false]
       rw [e]
       exact outR (e := .ret) E0Ok Z3 [] (mR false [2, 1, 66]) [] (q (sB h_4 <| sN)) (by kernel_rfl) (by intro h; cases h)
      | false =>
       have gh_4 := ne_of_beq_false h_4
       have p {a C} (s : Scr a C) := q (sB h_4 <| sZ (cI .i64) (m_0.Triangles.getD x_l0.toNat default) <| s)
       clear q
       cases h_5 : (Z2T m_0 x_l0) with
       | inl r_6 =>
        have e : Zo m_0 (k + 1) x_l0 = (.inl ()) := by simp only [Zo, h_0, h_1, h_2, h_3, h_4, h_5, cond_true, cond_false]
        rw [e]
        exact outR (e := .ret) E0Ok Z3 [] (mR false [2, 1, 66]) [] (p (sL Z4o 1 (lp_val (Z45 m_0 x_l0) (x := (Z2T m_0 x_l0)) (Z6N m_0 x_l0 hp0 hp1 hp2 Z3d Z3e Z3f h_1 Z3d Z3e h_0 ((((m_0.Triangles.getD x_l0.toNat default).length : Int) - 0).toNat + 1) 0 (show 0 ≤ 0 from (by assumption)) (Nat.lt_succ_self _)) h_5) <| sN)) (by kernel_rfl) (by intro h; cases h)
       | inr r_6 =>
        have y_8 : (-9223372036854775808 : Int) ≤ (x_l0 + 1) := by clear p; exact (by omega)
        have y_9 : (x_l0 + 1) ≤ (9223372036854775807 : Int) := by clear p; exact (by omega)
        have e : Zo m_0 (k + 1) x_l0 = (Zo m_0 k (x_l0 + 1)) := by simp only [Zo, h_0, h_1, h_2, h_3, h_4, h_5, cond_true, cond_false]
        rw [e]
        exact nextR E0Ok Z3 [] (mR false [0, 2, 1, 1, 4, 15, 46]) [0] (ih (x_l0 + 1) (show 0 ≤ (x_l0 + 1) from (by omega)) (by omega)) (p (sL Z4o 1 (lp_val (Z45 m_0 x_l0) (x := (Z2T m_0 x_l0)) (Z6N m_0 x_l0 hp0 hp1 hp2 Z3d Z3e Z3f h_1 Z3d Z3e h_0 ((((m_0.Triangles.getD x_l0.toNat default).length : Int) - 0).toNat + 1) 0 (show 0 ≤ 0 from (by assumption)) (Nat.lt_succ_self _)) h_5) <| sI (x_l0 + 1) y_8 y_9 <| sN)) (by kernel_rfl)
  | false =>
   have gh_0 := of_decide_eq_false h_0
   have e : Zo m_0 (k + 1) x_l0 = (.inr ()) := by simp only [Zo, h_0, cond_false]
   rw [e]
   exact outR (e := (.exit 0)) E0Ok Z3 [] (mR false [0, 2, 1, 1, 4, 13, 48]) [0] (sB h_0 <| sN) (by kernel_rfl) (by intro h; cases h)
def Z3g (m_0 : GMesh) : (Unit) ⊕ (Unit) := (Zo m_0 (((m_0.Triangles.length : Int) - 0).toNat + 1) 0)
def Z1k (m_0 : GMesh) : Bool := (cond (decide ((m_0.Places.length : Int) > 64))
  false
  (cond (decide ((m_0.Triangles.length : Int) > 128))
    false
    (match (Z3g m_0) with
      | .inl r3 => false
      | .inr r3 => true)))
theorem Zad (m_0 : GMesh) (hp0 : m_0.Places.length ≤ 1073741824) (hp1 : m_0.Triangles.length ≤ 1073741824) (hp2 : ∀ t ∈ m_0.Triangles, t.length ≤ 1073741824)  : Fn prog 105 [.agg [.sl (m_0.Places.map GVector.cells), .sl (m_0.Triangles.map (cL (cI .i64)))]] (.b (Z1k m_0)) [] := by
 have p {a C} (s : Scr a C) := sZ GVector.cells m_0.Places <| s
 cases h0 : (decide ((m_0.Places.length : Int) > 64)) with
 | true =>
  have gh0 := of_decide_eq_true h0
  refine fnS E0Ok Z3 (c := bodyOf f105) [] (.b false) [] func105 (p (sB h0 <| sB h0 <| sB h0 <| sB h0 <| sB h0 <| sB (show true = true from rfl) <| sK [] sN)) rfl (by kernel_rfl) (by kernel_rfl) rfl ?_ ?_
  · simp only [Z1k, h0, cond_true]
  · rfl
 | false =>
  have gh0 := of_decide_eq_false h0
  have q {a C} (s : Scr a C) := p (sB h0 <| sB h0 <| sB h0 <| sZ (cL (cI .i64)) m_0.Triangles <| sB h0 <| sB h0 <| s)
  clear p
  cases h1 : (decide ((m_0.Triangles.length : Int) > 128)) with
  | true =>
   have gh1 := of_decide_eq_true h1
   refine fnS E0Ok Z3 (c := bodyOf f105) [] (.b false) [] func105 (q (sB h1 <| sK [] sN)) rfl (by kernel_rfl) (by kernel_rfl) rfl ?_ ?_
   · simp only [Z1k, h0, h1, cond_true, cond_false]
   · rfl
  | false =>
   have gh1 := of_decide_eq_false h1
   have p {a C} (s : Scr a C) := q (sB h1 <| sZ (cL (cI .i64)) m_0.Triangles <| s)
   clear q
   cases h2 : (Z3g m_0) with
   | inl r3 =>
    refine fnS E0Ok Z3 (c := bodyOf f105) [] (.b false) [] func105 (p (sL (mR false [0, 2, 1, 1, 4, 15, 46]) 1 (lp_val (Z46 m_0) (x := (Z3g m_0)) (Z6O m_0 hp0 hp1 hp2 h0 h1 (((m_0.Triangles.length : Int) - 0).toNat + 1) 0 (show 0 ≤ 0 from (by omega)) (Nat.lt_succ_self _)) h2) <| sK [] sN)) rfl (by kernel_rfl) (by kernel_rfl) rfl ?_ ?_
    · simp only [Z1k, h0, h1, h2, cond_false]
    · rfl
   | inr r3 =>
    refine fnS E0Ok Z3 (c := bodyOf f105) [] (.b true) [] func105 (p (sL (mR false [0, 2, 1, 1, 4, 15, 46]) 1 (lp_val (Z46 m_0) (x := (Z3g m_0)) (Z6O m_0 hp0 hp1 hp2 h0 h1 (((m_0.Triangles.length : Int) - 0).toNat + 1) 0 (show 0 ≤ 0 from (by omega)) (Nat.lt_succ_self _)) h2) <| sK [] sN)) rfl (by kernel_rfl) (by kernel_rfl) rfl ?_ ?_
    · simp only [Z1k, h0, h1, h2, cond_false]
    · rfl
end Go.Ab
