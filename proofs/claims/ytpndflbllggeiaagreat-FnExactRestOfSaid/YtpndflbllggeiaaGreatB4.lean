/- The functions of this seat as plain Lean, and that the program's are these. Printed by a program of the prover's own. -/
import Derived.Test.YtpndflbllggeiaaGreatB3
set_option linter.unusedVariables false
set_option linter.unusedSimpArgs false
set_option maxRecDepth 100000
namespace Go.Ab
open Go.RowKit Go.Proofs.Tryz
theorem Z73 (arr_0 : GBody) (x_l0 : Int) (r0_l1 : (List GVector)) : ∀ (k : Nat) (x_l0_1 : Int) (r0_l1_1 : (List GVector)) (hk : ((3 : Int) - x_l0_1).toNat < k), (Zt arr_0 x_l0 r0_l1 k x_l0_1 r0_l1_1).length = r0_l1_1.length := by
  intro k
  induction k with
  | zero => intro x_l0_1 r0_l1_1 hk; exact absurd hk (Nat.not_lt_zero _)
  | succ k ih =>
    intro x_l0_1 r0_l1_1 hk
    cases h__0 : (decide (x_l0_1 < 3)) with
    | true =>
      have e : Zt arr_0 x_l0 r0_l1 (k + 1) x_l0_1 r0_l1_1 = (Zt arr_0 x_l0 r0_l1 k (x_l0_1 + 1) (r0_l1_1.set (((arr_0.Mesh.Triangles.getD x_l0.toNat default).getD x_l0_1.toNat default).toNat) (Z1l arr_0 x_l0 x_l0_1 r0_l1_1))) := by simp only [Zt, h__0, cond_true]
      rw [e, ih (x_l0_1 + 1) (r0_l1_1.set (((arr_0.Mesh.Triangles.getD x_l0.toNat default).getD x_l0_1.toNat default).toNat) (Z1l arr_0 x_l0 x_l0_1 r0_l1_1)) (by simp_all <;> omega)]; simp
    | false =>
      have e : Zt arr_0 x_l0 r0_l1 (k + 1) x_l0_1 r0_l1_1 = r0_l1_1 := by simp only [Zt, h__0, cond_false]
      first | (rw [e]; done) | (rw [e]; rfl)
def Z1G (arr_0 : GBody) (x_l0 : Int) (r0_l1 : (List GVector)) : (List GVector) := (Zt arr_0 x_l0 r0_l1 (((3 : Int) - 0).toNat + 1) 0 r0_l1)
@[simp] theorem Z9G (arr_0 : GBody) (x_l0 : Int) (r0_l1 : (List GVector)) : (Z1G arr_0 x_l0 r0_l1).length = (r0_l1 : (List GVector)).length := Z73 arr_0 x_l0 r0_l1 (((3 : Int) - 0).toNat + 1) 0 r0_l1 (by exact Nat.lt_succ_self _)
def Zz (arr_0 : GBody) : Nat → Int → (List GVector) → (List GVector)
  | 0, _, _ => default
  | k + 1, x_l0, r0_l1 => (cond (decide (x_l0 < (arr_0.Mesh.Triangles.length : Int)))
    (Zz arr_0 k (x_l0 + 1) (Z1G arr_0 x_l0 r0_l1))
    r0_l1)
def Z4q (arr_0 : GBody) (r : (List GVector)) : Ex × St := ((.exit 2), ⟨.ref (GBody.cells arr_0) 0 :: .any :: .nils :: .ref (GBody.cells arr_0) 0 :: .own 0 :: an 15 (.ref (GBody.cells arr_0) 0 :: .ref (GBody.cells arr_0) 0 :: .ref (GBody.cells arr_0) 0 :: .ref (GBody.cells arr_0) 0 :: .ref (GBody.cells arr_0) 0 :: .ref (GBody.cells arr_0) 0 :: .sl (arr_0.Mesh.Places.map GVector.cells) :: .i .i64 (arr_0.Mesh.Places.length : Int) :: .own 0 :: .ref (GBody.cells arr_0) 0 :: .ref (GBody.cells arr_0) 0 :: .ref (GBody.cells arr_0) 2 :: .sl (arr_0.Springs.map GSpring.cells) :: an 52 (.ref (GBody.cells arr_0) 0 :: .ref (GBody.cells arr_0) 0 :: .ref (GBody.cells arr_0) 1 :: .sl (arr_0.Mesh.Triangles.map (cL (cI .i64))) :: an 191 [])), [.vec 40 3 (r.map GVector.cells) false]⟩)
def Z7K (arr_0 : GBody) (x_l0 : Int) (r0_l1 : (List GVector)) : St := ⟨.ref (GBody.cells arr_0) 0 :: .any :: .nils :: .ref (GBody.cells arr_0) 0 :: .own 0 :: an 15 (.ref (GBody.cells arr_0) 0 :: .ref (GBody.cells arr_0) 0 :: .ref (GBody.cells arr_0) 0 :: .ref (GBody.cells arr_0) 0 :: .ref (GBody.cells arr_0) 0 :: .ref (GBody.cells arr_0) 0 :: .sl (arr_0.Mesh.Places.map GVector.cells) :: .i .i64 (arr_0.Mesh.Places.length : Int) :: .own 0 :: .ref (GBody.cells arr_0) 0 :: .ref (GBody.cells arr_0) 0 :: .ref (GBody.cells arr_0) 2 :: .sl (arr_0.Springs.map GSpring.cells) :: an 52 (.ref (GBody.cells arr_0) 0 :: .ref (GBody.cells arr_0) 0 :: .ref (GBody.cells arr_0) 1 :: .sl (arr_0.Mesh.Triangles.map (cL (cI .i64))) :: .i .i64 (arr_0.Mesh.Triangles.length : Int) :: .i .i64 x_l0 :: an 189 [])), [.vec 40 3 (r0_l1.map GVector.cells) false]⟩
def Z5h : List Bool := (mR false [0, 1, 1, 3, 15, 13, 52, 6, 189])
def Z74 : List Bool := (mR false [0, 1, 1, 3, 15, 13, 52, 4, 191])
theorem Z7L (arr_0 : GBody) (hp0 : arr_0.Mesh.Places.length ≤ 1073741824) (hp1 : arr_0.Mesh.Triangles.length ≤ 1073741824) (hp2 : ∀ t ∈ arr_0.Mesh.Triangles, t.length ≤ 1073741824) (hp3 : arr_0.Springs.length ≤ 1073741824) (hp4 : arr_0.Weights.length ≤ 1073741824) (hp5 : OkBd arr_0) : ∀ (k : Nat) (x_l0 : Int) (r0_l1 : (List GVector)) (Z3n : 0 ≤ x_l0) (Z3o : r0_l1.length = arr_0.Mesh.Places.length) (hk : ((arr_0.Mesh.Triangles.length : Int) - x_l0).toNat < k), Lp prog 0 (sub (bodyOf f51) [1, 1, 1, 1, 0, 1, 0, 0]) (Z7K arr_0 x_l0 r0_l1) (Z4q arr_0 (Zz arr_0 k x_l0 r0_l1)).1 (Z4q arr_0 (Zz arr_0 k x_l0 r0_l1)).2 := by
 intro k
 induction k with
 | zero => intro x_l0 r0_l1 Z3n Z3o hk; exact absurd hk (Nat.not_lt_zero _)
 | succ k ih =>
  intro x_l0 r0_l1 Z3n Z3o hk
  cases h_0 : (decide (x_l0 < (arr_0.Mesh.Triangles.length : Int))) with
  | true =>
   have gh_0 := of_decide_eq_true h_0
   have y_0 : (0 : Int) ≤ x_l0 := (by assumption)
   have y_1 : x_l0 < (arr_0.Mesh.Triangles.length : Int) := (by assumption)
   have y_2 : (arr_0.Mesh.Triangles.getD x_l0.toNat default).length ≤ 1073741824 := (by exact tri3L hp5.e (by assumption) h_0)
   have y_3 : (arr_0.Mesh.Triangles.getD x_l0.toNat default).length = 3 ∧ ∀ x ∈ (arr_0.Mesh.Triangles.getD x_l0.toNat default), 0 ≤ x ∧ x < (arr_0.Mesh.Places.length : Int) := (by exact tri3 hp5.e (by assumption) h_0)
   have y_4 : (-9223372036854775808 : Int) ≤ (x_l0 + 1) := (by omega)
   have y_5 : (x_l0 + 1) ≤ (9223372036854775807 : Int) := (by omega)
   have e : Zz arr_0 (k + 1) x_l0 r0_l1 = (Zz arr_0 k (x_l0 + 1) (Z1G arr_0 x_l0 r0_l1)) := by simp only [Zz, h_0, cond_true]
   rw [e]
   exact nextR E0Ok Z3 [] Z5h [0] (ih (x_l0 + 1) (Z1G arr_0 x_l0 r0_l1) (show 0 ≤ (x_l0 + 1) from (by omega)) (show (Z1G arr_0 x_l0 r0_l1).length = arr_0.Mesh.Places.length from (by simp_all <;> omega)) (by omega)) (sB h_0 <| sG (cL (cI .i64)) arr_0.Mesh.Triangles x_l0 y_0 y_1 <| sF (Fn.sub (args := [.ref (GBody.cells arr_0) 0, .sl ((arr_0.Mesh.Triangles.getD x_l0.toNat default).map (cI .i64))]) (r := .agg [.f .f32 ((Z9 arr_0.Mesh (arr_0.Mesh.Triangles.getD x_l0.toNat default)).X), .f .f32 ((Z9 arr_0.Mesh (arr_0.Mesh.Triangles.getD x_l0.toNat default)).Y), .f .f32 ((Z9 arr_0.Mesh (arr_0.Mesh.Triangles.getD x_l0.toNat default)).Z)]) (new := []) [some 2, none] (Z8Y arr_0.Mesh (arr_0.Mesh.Triangles.getD x_l0.toNat default) hp0 hp1 hp2 y_2 y_3)) <| sK [8, 8] <| sF (Z6h (Z9 arr_0.Mesh (arr_0.Mesh.Triangles.getD x_l0.toNat default))) <| sF (Z6Z (fneg .f32 (fop .mul .f32 1056964608 arr_0.Film)) (Zg (Z9 arr_0.Mesh (arr_0.Mesh.Triangles.getD x_l0.toNat default)))) <| sL Z5e 2 (lp_val (Z4p arr_0 x_l0 r0_l1) (x := (Z1G arr_0 x_l0 r0_l1)) (Z7J arr_0 x_l0 r0_l1 hp0 hp1 hp2 hp3 hp4 hp5 Z3n Z3o h_0 (((3 : Int) - 0).toNat + 1) 0 r0_l1 (show 0 ≤ 0 from (by omega)) (show r0_l1.length = r0_l1.length from (by omega)) (Nat.lt_succ_self _)) rfl) <| sI (x_l0 + 1) y_4 y_5 <| sN) (by kernel_rfl)
  | false =>
   have gh_0 := of_decide_eq_false h_0
   have e : Zz arr_0 (k + 1) x_l0 r0_l1 = r0_l1 := by simp only [Zz, h_0, cond_false]
   rw [e]
   exact outR (e := (.exit 2)) E0Ok Z3 [] Z74 [0] (sB h_0 <| sN) (by kernel_rfl) (by intro h; cases h)
theorem Z75 (arr_0 : GBody) : ∀ (k : Nat) (x_l0 : Int) (r0_l1 : (List GVector)) (hk : ((arr_0.Mesh.Triangles.length : Int) - x_l0).toNat < k), (Zz arr_0 k x_l0 r0_l1).length = r0_l1.length := by
  intro k
  induction k with
  | zero => intro x_l0 r0_l1 hk; exact absurd hk (Nat.not_lt_zero _)
  | succ k ih =>
    intro x_l0 r0_l1 hk
    cases h_0 : (decide (x_l0 < (arr_0.Mesh.Triangles.length : Int))) with
    | true =>
      have e : Zz arr_0 (k + 1) x_l0 r0_l1 = (Zz arr_0 k (x_l0 + 1) (Z1G arr_0 x_l0 r0_l1)) := by simp only [Zz, h_0, cond_true]
      rw [e, ih (x_l0 + 1) (Z1G arr_0 x_l0 r0_l1) (by simp_all <;> omega)]; simp
    | false =>
      have e : Zz arr_0 (k + 1) x_l0 r0_l1 = r0_l1 := by simp only [Zz, h_0, cond_false]
      first | (rw [e]; done) | (rw [e]; rfl)
def Z24 (arr_0 : GBody) : (List GVector) := (Zz arr_0 (((arr_0.Mesh.Triangles.length : Int) - 0).toNat + 1) 0 (Z23 arr_0))
@[simp] theorem Z9H (arr_0 : GBody) : (Z24 arr_0).length = ((Z23 arr_0) : (List GVector)).length := Z75 arr_0 (((arr_0.Mesh.Triangles.length : Int) - 0).toNat + 1) 0 (Z23 arr_0) (by exact Nat.lt_succ_self _)
def Z6 (arr_0 : GBody) (x_l0 : Int) (r0_l1 : (List GVector)) : GVector := (ZG (r0_l1.getD ((((Z0 arr_0.Mesh).getD x_l0.toNat default).getD 0 default).toNat) default) (Zq (Z1b arr_0.Mesh ((Z0 arr_0.Mesh).getD x_l0.toNat default)) arr_0.Bend))
def Z8 (arr_0 : GBody) (x_l0 : Int) (r0_l1 : (List GVector)) : GVector := (ZG ((r0_l1.set ((((Z0 arr_0.Mesh).getD x_l0.toNat default).getD 0 default).toNat) (Z6 arr_0 x_l0 r0_l1)).getD ((((Z0 arr_0.Mesh).getD x_l0.toNat default).getD 1 default).toNat) default) (Zq (Z1b arr_0.Mesh ((Z0 arr_0.Mesh).getD x_l0.toNat default)) arr_0.Bend))
def Zb (arr_0 : GBody) (x_l0 : Int) (r0_l1 : (List GVector)) : GVector := (ZG (((r0_l1.set ((((Z0 arr_0.Mesh).getD x_l0.toNat default).getD 0 default).toNat) (Z6 arr_0 x_l0 r0_l1)).set ((((Z0 arr_0.Mesh).getD x_l0.toNat default).getD 1 default).toNat) (Z8 arr_0 x_l0 r0_l1)).getD ((((Z0 arr_0.Mesh).getD x_l0.toNat default).getD 2 default).toNat) default) (Zq (Z1b arr_0.Mesh ((Z0 arr_0.Mesh).getD x_l0.toNat default)) (fneg .f32 arr_0.Bend)))
def Z1A (arr_0 : GBody) (x_l0 : Int) (r0_l1 : (List GVector)) : GVector := (ZG ((((r0_l1.set ((((Z0 arr_0.Mesh).getD x_l0.toNat default).getD 0 default).toNat) (Z6 arr_0 x_l0 r0_l1)).set ((((Z0 arr_0.Mesh).getD x_l0.toNat default).getD 1 default).toNat) (Z8 arr_0 x_l0 r0_l1)).set ((((Z0 arr_0.Mesh).getD x_l0.toNat default).getD 2 default).toNat) (Zb arr_0 x_l0 r0_l1)).getD ((((Z0 arr_0.Mesh).getD x_l0.toNat default).getD 3 default).toNat) default) (Zq (Z1b arr_0.Mesh ((Z0 arr_0.Mesh).getD x_l0.toNat default)) (fneg .f32 arr_0.Bend)))
def ZA (arr_0 : GBody) : Nat → Int → (List GVector) → (List GVector)
  | 0, _, _ => default
  | k + 1, x_l0, r0_l1 => (cond (decide (x_l0 < ((Z0 arr_0.Mesh).length : Int)))
    (ZA arr_0 k (x_l0 + 1) ((((r0_l1.set ((((Z0 arr_0.Mesh).getD x_l0.toNat default).getD 0 default).toNat) (Z6 arr_0 x_l0 r0_l1)).set ((((Z0 arr_0.Mesh).getD x_l0.toNat default).getD 1 default).toNat) (Z8 arr_0 x_l0 r0_l1)).set ((((Z0 arr_0.Mesh).getD x_l0.toNat default).getD 2 default).toNat) (Zb arr_0 x_l0 r0_l1)).set ((((Z0 arr_0.Mesh).getD x_l0.toNat default).getD 3 default).toNat) (Z1A arr_0 x_l0 r0_l1)))
    r0_l1)
def Z4r (arr_0 : GBody) (r : (List GVector)) : Ex × St := ((.exit 6), ⟨.ref (GBody.cells arr_0) 0 :: .any :: .nils :: .ref (GBody.cells arr_0) 0 :: .own 0 :: an 10 (.own 1 :: an 4 (.ref (GBody.cells arr_0) 0 :: .ref (GBody.cells arr_0) 0 :: .ref (GBody.cells arr_0) 0 :: .ref (GBody.cells arr_0) 0 :: .ref (GBody.cells arr_0) 0 :: .ref (GBody.cells arr_0) 0 :: .sl (arr_0.Mesh.Places.map GVector.cells) :: .i .i64 (arr_0.Mesh.Places.length : Int) :: .own 0 :: .ref (GBody.cells arr_0) 0 :: .ref (GBody.cells arr_0) 0 :: .ref (GBody.cells arr_0) 2 :: .sl (arr_0.Springs.map GSpring.cells) :: an 52 (.ref (GBody.cells arr_0) 0 :: .ref (GBody.cells arr_0) 0 :: .ref (GBody.cells arr_0) 1 :: .sl (arr_0.Mesh.Triangles.map (cL (cI .i64))) :: an 72 (.ref (GBody.cells arr_0) 0 :: .own 1 :: .own 1 :: an 116 [])))), [.vec 40 3 (r.map GVector.cells) false, .nest 49 ((Z0 arr_0.Mesh).map fun l => l.map (cI .i64)) false]⟩)
def Z7M (arr_0 : GBody) (x_l0 : Int) (r0_l1 : (List GVector)) : St := ⟨.ref (GBody.cells arr_0) 0 :: .any :: .nils :: .ref (GBody.cells arr_0) 0 :: .own 0 :: an 10 (.own 1 :: an 4 (.ref (GBody.cells arr_0) 0 :: .ref (GBody.cells arr_0) 0 :: .ref (GBody.cells arr_0) 0 :: .ref (GBody.cells arr_0) 0 :: .ref (GBody.cells arr_0) 0 :: .ref (GBody.cells arr_0) 0 :: .sl (arr_0.Mesh.Places.map GVector.cells) :: .i .i64 (arr_0.Mesh.Places.length : Int) :: .own 0 :: .ref (GBody.cells arr_0) 0 :: .ref (GBody.cells arr_0) 0 :: .ref (GBody.cells arr_0) 2 :: .sl (arr_0.Springs.map GSpring.cells) :: an 52 (.ref (GBody.cells arr_0) 0 :: .ref (GBody.cells arr_0) 0 :: .ref (GBody.cells arr_0) 1 :: .sl (arr_0.Mesh.Triangles.map (cL (cI .i64))) :: an 72 (.ref (GBody.cells arr_0) 0 :: .own 1 :: .own 1 :: .i .i64 ((Z0 arr_0.Mesh).length : Int) :: .i .i64 x_l0 :: an 114 [])))), [.vec 40 3 (r0_l1.map GVector.cells) false, .nest 49 ((Z0 arr_0.Mesh).map fun l => l.map (cI .i64)) false]⟩
def Z5i : List Bool := (mR false [0, 1, 1, 3, 10, 1, 4, 13, 52, 4, 72, 5, 114])
def Z76 : List Bool := (mR false [0, 1, 1, 3, 10, 1, 4, 13, 52, 4, 72, 3, 116])
set_option maxHeartbeats 1000000 in
theorem Z7N (arr_0 : GBody) (hp0 : arr_0.Mesh.Places.length ≤ 1073741824) (hp1 : arr_0.Mesh.Triangles.length ≤ 1073741824) (hp2 : ∀ t ∈ arr_0.Mesh.Triangles, t.length ≤ 1073741824) (hp3 : arr_0.Springs.length ≤ 1073741824) (hp4 : arr_0.Weights.length ≤ 1073741824) (hp5 : OkBd arr_0) : ∀ (k : Nat) (x_l0 : Int) (r0_l1 : (List GVector)) (Z5j : 0 ≤ x_l0) (Z5k : r0_l1.length = arr_0.Mesh.Places.length) (hk : (((Z0 arr_0.Mesh).length : Int) - x_l0).toNat < k), Lp prog 0 (sub (bodyOf f51) [1, 1, 1, 1, 1, 1, 0, 1, 0, 0]) (Z7M arr_0 x_l0 r0_l1) (Z4r arr_0 (ZA arr_0 k x_l0 r0_l1)).1 (Z4r arr_0 (ZA arr_0 k x_l0 r0_l1)).2 := by
 intro k
 induction k with
 | zero => intro x_l0 r0_l1 Z5j Z5k hk; exact absurd hk (Nat.not_lt_zero _)
 | succ k ih =>
  intro x_l0 r0_l1 Z5j Z5k hk
  cases h_0 : (decide (x_l0 < ((Z0 arr_0.Mesh).length : Int))) with
  | true =>
   have gh_0 := of_decide_eq_true h_0
   have y_0 : (0 : Int) ≤ x_l0 := (by assumption)
   have y_1 : Int.toNat x_l0 < (Z0 arr_0.Mesh).length := (by omega)
   have y_2 : x_l0.toNat < (Z0 arr_0.Mesh).length := (by assumption)
   have y_3 : ((Z0 arr_0.Mesh).getD x_l0.toNat default).length ≤ 1073741824 := (by exact Zbv hp5.e (by assumption) h_0)
   have y_4 : ((Z0 arr_0.Mesh).getD x_l0.toNat default).length = 4 ∧ ∀ x ∈ ((Z0 arr_0.Mesh).getD x_l0.toNat default), 0 ≤ x ∧ x < (arr_0.Mesh.Places.length : Int) := (by exact hin4 hp5.e (by assumption) h_0)
   have y_5 : (0 : Int) ≤ 0 := (by omega)
   have y_6 : 0 < (((Z0 arr_0.Mesh).getD x_l0.toNat default).length : Int) := (by omega)
   have y_7 : 0 < ((Z0 arr_0.Mesh).getD x_l0.toNat default).length := (by omega)
   have y_8 : (0 : Int) ≤ (((Z0 arr_0.Mesh).getD x_l0.toNat default).getD 0 default) := (by (have q := Z2G _ hp5.e; (have q := Okh.at (hin4 hp5.e (by assumption) h_0); omega)))
   have y_9 : (((Z0 arr_0.Mesh).getD x_l0.toNat default).getD 0 default) < (r0_l1.length : Int) := (by (have q := Z2G _ hp5.e; (have q := Okh.at (hin4 hp5.e (by assumption) h_0); omega)))
   have y_10 : (((Z0 arr_0.Mesh).getD x_l0.toNat default).getD 0 default).toNat < r0_l1.length := (by omega)
   have y_11 : (0 : Int) ≤ 1 := (by omega)
   have y_12 : 1 < (((Z0 arr_0.Mesh).getD x_l0.toNat default).length : Int) := (by omega)
   have y_13 : 1 < ((Z0 arr_0.Mesh).getD x_l0.toNat default).length := (by omega)
   have y_14 : (0 : Int) ≤ (((Z0 arr_0.Mesh).getD x_l0.toNat default).getD 1 default) := (by (have q := Z2G _ hp5.e; (have q := Okh.at (hin4 hp5.e (by assumption) h_0); omega)))
   have y_15 : (((Z0 arr_0.Mesh).getD x_l0.toNat default).getD 1 default) < ((r0_l1.set ((((Z0 arr_0.Mesh).getD x_l0.toNat default).getD 0 default).toNat) (Z6 arr_0 x_l0 r0_l1)).length : Int) := (by (have q := Z2G _ hp5.e; (have q := Okh.at (hin4 hp5.e (by assumption) h_0); (simp only [List.length_set]; omega))))
   have y_16 : (((Z0 arr_0.Mesh).getD x_l0.toNat default).getD 1 default).toNat < (r0_l1.set ((((Z0 arr_0.Mesh).getD x_l0.toNat default).getD 0 default).toNat) (Z6 arr_0 x_l0 r0_l1)).length := (by omega)
   have y_17 : (0 : Int) ≤ 2 := (by omega)
   have y_18 : 2 < (((Z0 arr_0.Mesh).getD x_l0.toNat default).length : Int) := (by omega)
   have y_19 : 2 < ((Z0 arr_0.Mesh).getD x_l0.toNat default).length := (by omega)
   have y_20 : (0 : Int) ≤ (((Z0 arr_0.Mesh).getD x_l0.toNat default).getD 2 default) := (by (have q := Z2G _ hp5.e; (have q := Okh.at (hin4 hp5.e (by assumption) h_0); omega)))
   have y_21 : (((Z0 arr_0.Mesh).getD x_l0.toNat default).getD 2 default) < (((r0_l1.set ((((Z0 arr_0.Mesh).getD x_l0.toNat default).getD 0 default).toNat) (Z6 arr_0 x_l0 r0_l1)).set ((((Z0 arr_0.Mesh).getD x_l0.toNat default).getD 1 default).toNat) (Z8 arr_0 x_l0 r0_l1)).length : Int) := (by (have q := Z2G _ hp5.e; (have q := Okh.at (hin4 hp5.e (by assumption) h_0); (simp only [List.length_set]; omega))))
   have y_22 : (((Z0 arr_0.Mesh).getD x_l0.toNat default).getD 2 default).toNat < ((r0_l1.set ((((Z0 arr_0.Mesh).getD x_l0.toNat default).getD 0 default).toNat) (Z6 arr_0 x_l0 r0_l1)).set ((((Z0 arr_0.Mesh).getD x_l0.toNat default).getD 1 default).toNat) (Z8 arr_0 x_l0 r0_l1)).length := (by omega)
   have y_23 : (0 : Int) ≤ 3 := (by omega)
   have y_24 : 3 < (((Z0 arr_0.Mesh).getD x_l0.toNat default).length : Int) := (by omega)
   have y_25 : 3 < ((Z0 arr_0.Mesh).getD x_l0.toNat default).length := (by omega)
   have y_26 : (0 : Int) ≤ (((Z0 arr_0.Mesh).getD x_l0.toNat default).getD 3 default) := (by (have q := Z2G _ hp5.e; (have q := Okh.at (hin4 hp5.e (by assumption) h_0); omega)))
   have y_27 : (((Z0 arr_0.Mesh).getD x_l0.toNat default).getD 3 default) < ((((r0_l1.set ((((Z0 arr_0.Mesh).getD x_l0.toNat default).getD 0 default).toNat) (Z6 arr_0 x_l0 r0_l1)).set ((((Z0 arr_0.Mesh).getD x_l0.toNat default).getD 1 default).toNat) (Z8 arr_0 x_l0 r0_l1)).set ((((Z0 arr_0.Mesh).getD x_l0.toNat default).getD 2 default).toNat) (Zb arr_0 x_l0 r0_l1)).length : Int) := (by (have q := Z2G _ hp5.e; (have q := Okh.at (hin4 hp5.e (by assumption) h_0); (simp only [List.length_set]; omega))))
   have y_28 : (((Z0 arr_0.Mesh).getD x_l0.toNat default).getD 3 default).toNat < (((r0_l1.set ((((Z0 arr_0.Mesh).getD x_l0.toNat default).getD 0 default).toNat) (Z6 arr_0 x_l0 r0_l1)).set ((((Z0 arr_0.Mesh).getD x_l0.toNat default).getD 1 default).toNat) (Z8 arr_0 x_l0 r0_l1)).set ((((Z0 arr_0.Mesh).getD x_l0.toNat default).getD 2 default).toNat) (Zb arr_0 x_l0 r0_l1)).length := (by omega)
   have y_29 : (-9223372036854775808 : Int) ≤ (x_l0 + 1) := (by omega)
   have y_30 : (x_l0 + 1) ≤ (9223372036854775807 : Int) := (by have q := Z2G _ hp5.e; omega)
   have e : ZA arr_0 (k + 1) x_l0 r0_l1 = (ZA arr_0 k (x_l0 + 1) ((((r0_l1.set ((((Z0 arr_0.Mesh).getD x_l0.toNat default).getD 0 default).toNat) (Z6 arr_0 x_l0 r0_l1)).set ((((Z0 arr_0.Mesh).getD x_l0.toNat default).getD 1 default).toNat) (Z8 arr_0 x_l0 r0_l1)).set ((((Z0 arr_0.Mesh).getD x_l0.toNat default).getD 2 default).toNat) (Zb arr_0 x_l0 r0_l1)).set ((((Z0 arr_0.Mesh).getD x_l0.toNat default).getD 3 default).toNat) (Z1A arr_0 x_l0 r0_l1))) := by simp only [ZA, h_0, cond_true]
   rw [e]
   exact nextS E0Ok Z3 [] Z5i [0, 1] (⟨.ref (GBody.cells arr_0) 0 :: .any :: .nils :: .ref (GBody.cells arr_0) 0 :: .own 0 :: an 10 (.own 1 :: an 4 (.ref (GBody.cells arr_0) 0 :: .ref (GBody.cells arr_0) 0 :: .ref (GBody.cells arr_0) 0 :: .ref (GBody.cells arr_0) 0 :: .ref (GBody.cells arr_0) 0 :: .ref (GBody.cells arr_0) 0 :: .sl (arr_0.Mesh.Places.map GVector.cells) :: .i .i64 (arr_0.Mesh.Places.length : Int) :: .own 0 :: .ref (GBody.cells arr_0) 0 :: .ref (GBody.cells arr_0) 0 :: .ref (GBody.cells arr_0) 2 :: .sl (arr_0.Springs.map GSpring.cells) :: an 52 (.ref (GBody.cells arr_0) 0 :: .ref (GBody.cells arr_0) 0 :: .ref (GBody.cells arr_0) 1 :: .sl (arr_0.Mesh.Triangles.map (cL (cI .i64))) :: an 72 (.ref (GBody.cells arr_0) 0 :: .own 1 :: .own 1 :: .i .i64 ((Z0 arr_0.Mesh).length : Int) :: .i .i64 (x_l0 + 1) :: an 114 [])))), [.vec 40 3 (((((r0_l1.map GVector.cells).set ((((Z0 arr_0.Mesh).getD x_l0.toNat default).getD 0 default).toNat) [.f .f32 ((Z6 arr_0 x_l0 r0_l1).X), .f .f32 ((Z6 arr_0 x_l0 r0_l1).Y), .f .f32 ((Z6 arr_0 x_l0 r0_l1).Z)]).set ((((Z0 arr_0.Mesh).getD x_l0.toNat default).getD 1 default).toNat) [.f .f32 ((Z8 arr_0 x_l0 r0_l1).X), .f .f32 ((Z8 arr_0 x_l0 r0_l1).Y), .f .f32 ((Z8 arr_0 x_l0 r0_l1).Z)]).set ((((Z0 arr_0.Mesh).getD x_l0.toNat default).getD 2 default).toNat) [.f .f32 ((Zb arr_0 x_l0 r0_l1).X), .f .f32 ((Zb arr_0 x_l0 r0_l1).Y), .f .f32 ((Zb arr_0 x_l0 r0_l1).Z)]).set ((((Z0 arr_0.Mesh).getD x_l0.toNat default).getD 3 default).toNat) [.f .f32 ((Z1A arr_0 x_l0 r0_l1).X), .f .f32 ((Z1A arr_0 x_l0 r0_l1).Y), .f .f32 ((Z1A arr_0 x_l0 r0_l1).Z)]) false, .nest 49 ((Z0 arr_0.Mesh).map fun l => l.map (cI .i64)) false]⟩) (sB h_0 <| sC (nestix (c := (cI .i64)) (l := (Z0 arr_0.Mesh)) (i := x_l0) y_0 y_1) <| sC (nestlt (c := (cI .i64)) (l := (Z0 arr_0.Mesh)) y_2) <| sF (Fn.sub (args := [.ref (GBody.cells arr_0) 0, .sl (((Z0 arr_0.Mesh).map fun l => l.map (cI .i64)).getD x_l0.toNat [])]) (r := .agg [.f .f32 ((Z1b arr_0.Mesh ((Z0 arr_0.Mesh).getD x_l0.toNat default)).X), .f .f32 ((Z1b arr_0.Mesh ((Z0 arr_0.Mesh).getD x_l0.toNat default)).Y), .f .f32 ((Z1b arr_0.Mesh ((Z0 arr_0.Mesh).getD x_l0.toNat default)).Z)]) (new := []) [some 2, none] (Fn.castA (args' := [.ref [.sl (arr_0.Mesh.Places.map GVector.cells), .sl (arr_0.Mesh.Triangles.map (cL (cI .i64)))] 0, .sl (((Z0 arr_0.Mesh).map fun l => l.map (cI .i64)).getD x_l0.toNat [])]) (Z9x arr_0.Mesh ((Z0 arr_0.Mesh).getD x_l0.toNat default) hp0 hp1 hp2 y_3 y_4) (by simp [cI]; rfl))) <| sK [17, 17] <| sC (iidx_ok (c := (cI .i64)) (l := (Z0 arr_0.Mesh)) (j := x_l0.toNat) (i := 0) y_5 y_6) <| sE (iget_ok (c := (cI .i64)) (l := (Z0 arr_0.Mesh)) (j := x_l0.toNat) (k := 0) y_7) <| sC (iidx_ok (c := (cI .i64)) (l := (Z0 arr_0.Mesh)) (j := x_l0.toNat) (i := 0) y_5 y_6) <| sE (iget_ok (c := (cI .i64)) (l := (Z0 arr_0.Mesh)) (j := x_l0.toNat) (k := 0) y_7) <| sX GVector.cells r0_l1 (((Z0 arr_0.Mesh).getD x_l0.toNat default).getD 0 default) y_8 y_9 <| sV GVector.cells r0_l1 ((((Z0 arr_0.Mesh).getD x_l0.toNat default).getD 0 default).toNat) y_10 <| sF (Z2N (Z1b arr_0.Mesh ((Z0 arr_0.Mesh).getD x_l0.toNat default)) arr_0.Bend) <| sF (Z2F (r0_l1.getD ((((Z0 arr_0.Mesh).getD x_l0.toNat default).getD 0 default).toNat) default) (Zq (Z1b arr_0.Mesh ((Z0 arr_0.Mesh).getD x_l0.toNat default)) arr_0.Bend)) <| sX GVector.cells r0_l1 (((Z0 arr_0.Mesh).getD x_l0.toNat default).getD 0 default) y_8 y_9 <| sC (maplt (c := GVector.cells) (l := r0_l1) y_10) <| sK [17, 17] <| sC (iidx_ok (c := (cI .i64)) (l := (Z0 arr_0.Mesh)) (j := x_l0.toNat) (i := 1) y_11 y_12) <| sE (iget_ok (c := (cI .i64)) (l := (Z0 arr_0.Mesh)) (j := x_l0.toNat) (k := 1) y_13) <| sC (iidx_ok (c := (cI .i64)) (l := (Z0 arr_0.Mesh)) (j := x_l0.toNat) (i := 1) y_11 y_12) <| sE (iget_ok (c := (cI .i64)) (l := (Z0 arr_0.Mesh)) (j := x_l0.toNat) (k := 1) y_13) <| sC (show 0 ≤ (((Z0 arr_0.Mesh).getD x_l0.toNat default).getD 1 default) ∧ Int.toNat (((Z0 arr_0.Mesh).getD x_l0.toNat default).getD 1 default) < ((r0_l1.map GVector.cells).set ((((Z0 arr_0.Mesh).getD x_l0.toNat default).getD 0 default).toNat) [.f .f32 ((Z6 arr_0 x_l0 r0_l1).X), .f .f32 ((Z6 arr_0 x_l0 r0_l1).Y), .f .f32 ((Z6 arr_0 x_l0 r0_l1).Z)]).length from (by simpa using idx_ok (c := GVector.cells) (l := (r0_l1.set ((((Z0 arr_0.Mesh).getD x_l0.toNat default).getD 0 default).toNat) (Z6 arr_0 x_l0 r0_l1))) (i := (((Z0 arr_0.Mesh).getD x_l0.toNat default).getD 1 default)) y_14 y_15)) <| sE (show ((r0_l1.map GVector.cells).set ((((Z0 arr_0.Mesh).getD x_l0.toNat default).getD 0 default).toNat) [.f .f32 ((Z6 arr_0 x_l0 r0_l1).X), .f .f32 ((Z6 arr_0 x_l0 r0_l1).Y), .f .f32 ((Z6 arr_0 x_l0 r0_l1).Z)])[(((Z0 arr_0.Mesh).getD x_l0.toNat default).getD 1 default).toNat]? = some [.f .f32 (((r0_l1.set ((((Z0 arr_0.Mesh).getD x_l0.toNat default).getD 0 default).toNat) (Z6 arr_0 x_l0 r0_l1)).getD ((((Z0 arr_0.Mesh).getD x_l0.toNat default).getD 1 default).toNat) default).X), .f .f32 (((r0_l1.set ((((Z0 arr_0.Mesh).getD x_l0.toNat default).getD 0 default).toNat) (Z6 arr_0 x_l0 r0_l1)).getD ((((Z0 arr_0.Mesh).getD x_l0.toNat default).getD 1 default).toNat) default).Y), .f .f32 (((r0_l1.set ((((Z0 arr_0.Mesh).getD x_l0.toNat default).getD 0 default).toNat) (Z6 arr_0 x_l0 r0_l1)).getD ((((Z0 arr_0.Mesh).getD x_l0.toNat default).getD 1 default).toNat) default).Z)] from (by have q := vget_ok (c := GVector.cells) (l := (r0_l1.set ((((Z0 arr_0.Mesh).getD x_l0.toNat default).getD 0 default).toNat) (Z6 arr_0 x_l0 r0_l1))) (k := (((Z0 arr_0.Mesh).getD x_l0.toNat default).getD 1 default).toNat) y_16; (simp only [List.map_set, List.map_append, List.map_cons, List.map_nil, List.map_replicate] at q; exact q))) <| sF (Z2N (Z1b arr_0.Mesh ((Z0 arr_0.Mesh).getD x_l0.toNat default)) arr_0.Bend) <| sF (Z2F ((r0_l1.set ((((Z0 arr_0.Mesh).getD x_l0.toNat default).getD 0 default).toNat) (Z6 arr_0 x_l0 r0_l1)).getD ((((Z0 arr_0.Mesh).getD x_l0.toNat default).getD 1 default).toNat) default) (Zq (Z1b arr_0.Mesh ((Z0 arr_0.Mesh).getD x_l0.toNat default)) arr_0.Bend)) <| sC (show 0 ≤ (((Z0 arr_0.Mesh).getD x_l0.toNat default).getD 1 default) ∧ Int.toNat (((Z0 arr_0.Mesh).getD x_l0.toNat default).getD 1 default) < ((r0_l1.map GVector.cells).set ((((Z0 arr_0.Mesh).getD x_l0.toNat default).getD 0 default).toNat) [.f .f32 ((Z6 arr_0 x_l0 r0_l1).X), .f .f32 ((Z6 arr_0 x_l0 r0_l1).Y), .f .f32 ((Z6 arr_0 x_l0 r0_l1).Z)]).length from (by simpa using idx_ok (c := GVector.cells) (l := (r0_l1.set ((((Z0 arr_0.Mesh).getD x_l0.toNat default).getD 0 default).toNat) (Z6 arr_0 x_l0 r0_l1))) (i := (((Z0 arr_0.Mesh).getD x_l0.toNat default).getD 1 default)) y_14 y_15)) <| sC (show (((Z0 arr_0.Mesh).getD x_l0.toNat default).getD 1 default).toNat < ((r0_l1.map GVector.cells).set ((((Z0 arr_0.Mesh).getD x_l0.toNat default).getD 0 default).toNat) [.f .f32 ((Z6 arr_0 x_l0 r0_l1).X), .f .f32 ((Z6 arr_0 x_l0 r0_l1).Y), .f .f32 ((Z6 arr_0 x_l0 r0_l1).Z)]).length from (by simpa using y_16)) <| sK [18, 18] <| sC (iidx_ok (c := (cI .i64)) (l := (Z0 arr_0.Mesh)) (j := x_l0.toNat) (i := 2) y_17 y_18) <| sE (iget_ok (c := (cI .i64)) (l := (Z0 arr_0.Mesh)) (j := x_l0.toNat) (k := 2) y_19) <| sC (iidx_ok (c := (cI .i64)) (l := (Z0 arr_0.Mesh)) (j := x_l0.toNat) (i := 2) y_17 y_18) <| sE (iget_ok (c := (cI .i64)) (l := (Z0 arr_0.Mesh)) (j := x_l0.toNat) (k := 2) y_19) <| sC (show 0 ≤ (((Z0 arr_0.Mesh).getD x_l0.toNat default).getD 2 default) ∧ Int.toNat (((Z0 arr_0.Mesh).getD x_l0.toNat default).getD 2 default) < (((r0_l1.map GVector.cells).set ((((Z0 arr_0.Mesh).getD x_l0.toNat default).getD 0 default).toNat) [.f .f32 ((Z6 arr_0 x_l0 r0_l1).X), .f .f32 ((Z6 arr_0 x_l0 r0_l1).Y), .f .f32 ((Z6 arr_0 x_l0 r0_l1).Z)]).set ((((Z0 arr_0.Mesh).getD x_l0.toNat default).getD 1 default).toNat) [.f .f32 ((Z8 arr_0 x_l0 r0_l1).X), .f .f32 ((Z8 arr_0 x_l0 r0_l1).Y), .f .f32 ((Z8 arr_0 x_l0 r0_l1).Z)]).length from (by simpa using idx_ok (c := GVector.cells) (l := ((r0_l1.set ((((Z0 arr_0.Mesh).getD x_l0.toNat default).getD 0 default).toNat) (Z6 arr_0 x_l0 r0_l1)).set ((((Z0 arr_0.Mesh).getD x_l0.toNat default).getD 1 default).toNat) (Z8 arr_0 x_l0 r0_l1))) (i := (((Z0 arr_0.Mesh).getD x_l0.toNat default).getD 2 default)) y_20 y_21)) <| sE (show (((r0_l1.map GVector.cells).set ((((Z0 arr_0.Mesh).getD x_l0.toNat default).getD 0 default).toNat) [.f .f32 ((Z6 arr_0 x_l0 r0_l1).X), .f .f32 ((Z6 arr_0 x_l0 r0_l1).Y), .f .f32 ((Z6 arr_0 x_l0 r0_l1).Z)]).set ((((Z0 arr_0.Mesh).getD x_l0.toNat default).getD 1 default).toNat) [.f .f32 ((Z8 arr_0 x_l0 r0_l1).X), .f .f32 ((Z8 arr_0 x_l0 r0_l1).Y), .f .f32 ((Z8 arr_0 x_l0 r0_l1).Z)])[(((Z0 arr_0.Mesh).getD x_l0.toNat default).getD 2 default).toNat]? = some [.f .f32 ((((r0_l1.set ((((Z0 arr_0.Mesh).getD x_l0.toNat default).getD 0 default).toNat) (Z6 arr_0 x_l0 r0_l1)).set ((((Z0 arr_0.Mesh).getD x_l0.toNat default).getD 1 default).toNat) (Z8 arr_0 x_l0 r0_l1)).getD ((((Z0 arr_0.Mesh).getD x_l0.toNat default).getD 2 default).toNat) default).X), .f .f32 ((((r0_l1.set ((((Z0 arr_0.Mesh).getD x_l0.toNat default).getD 0 default).toNat) (Z6 arr_0 x_l0 r0_l1)).set ((((Z0 arr_0.Mesh).getD x_l0.toNat default).getD 1 default).toNat) (Z8 arr_0 x_l0 r0_l1)).getD ((((Z0 arr_0.Mesh).getD x_l0.toNat default).getD 2 default).toNat) default).Y), .f .f32 ((((r0_l1.set ((((Z0 arr_0.Mesh).getD x_l0.toNat default).getD 0 default).toNat) (Z6 arr_0 x_l0 r0_l1)).set ((((Z0 arr_0.Mesh).getD x_l0.toNat default).getD 1 default).toNat) (Z8 arr_0 x_l0 r0_l1)).getD ((((Z0 arr_0.Mesh).getD x_l0.toNat default).getD 2 default).toNat) default).Z)] from (by have q := vget_ok (c := GVector.cells) (l := ((r0_l1.set ((((Z0 arr_0.Mesh).getD x_l0.toNat default).getD 0 default).toNat) (Z6 arr_0 x_l0 r0_l1)).set ((((Z0 arr_0.Mesh).getD x_l0.toNat default).getD 1 default).toNat) (Z8 arr_0 x_l0 r0_l1))) (k := (((Z0 arr_0.Mesh).getD x_l0.toNat default).getD 2 default).toNat) y_22; (simp only [List.map_set, List.map_append, List.map_cons, List.map_nil, List.map_replicate] at q; exact q))) <| sF (Z2N (Z1b arr_0.Mesh ((Z0 arr_0.Mesh).getD x_l0.toNat default)) (fneg .f32 arr_0.Bend)) <| sF (Z2F (((r0_l1.set ((((Z0 arr_0.Mesh).getD x_l0.toNat default).getD 0 default).toNat) (Z6 arr_0 x_l0 r0_l1)).set ((((Z0 arr_0.Mesh).getD x_l0.toNat default).getD 1 default).toNat) (Z8 arr_0 x_l0 r0_l1)).getD ((((Z0 arr_0.Mesh).getD x_l0.toNat default).getD 2 default).toNat) default) (Zq (Z1b arr_0.Mesh ((Z0 arr_0.Mesh).getD x_l0.toNat default)) (fneg .f32 arr_0.Bend))) <| sC (show 0 ≤ (((Z0 arr_0.Mesh).getD x_l0.toNat default).getD 2 default) ∧ Int.toNat (((Z0 arr_0.Mesh).getD x_l0.toNat default).getD 2 default) < (((r0_l1.map GVector.cells).set ((((Z0 arr_0.Mesh).getD x_l0.toNat default).getD 0 default).toNat) [.f .f32 ((Z6 arr_0 x_l0 r0_l1).X), .f .f32 ((Z6 arr_0 x_l0 r0_l1).Y), .f .f32 ((Z6 arr_0 x_l0 r0_l1).Z)]).set ((((Z0 arr_0.Mesh).getD x_l0.toNat default).getD 1 default).toNat) [.f .f32 ((Z8 arr_0 x_l0 r0_l1).X), .f .f32 ((Z8 arr_0 x_l0 r0_l1).Y), .f .f32 ((Z8 arr_0 x_l0 r0_l1).Z)]).length from (by simpa using idx_ok (c := GVector.cells) (l := ((r0_l1.set ((((Z0 arr_0.Mesh).getD x_l0.toNat default).getD 0 default).toNat) (Z6 arr_0 x_l0 r0_l1)).set ((((Z0 arr_0.Mesh).getD x_l0.toNat default).getD 1 default).toNat) (Z8 arr_0 x_l0 r0_l1))) (i := (((Z0 arr_0.Mesh).getD x_l0.toNat default).getD 2 default)) y_20 y_21)) <| sC (show (((Z0 arr_0.Mesh).getD x_l0.toNat default).getD 2 default).toNat < (((r0_l1.map GVector.cells).set ((((Z0 arr_0.Mesh).getD x_l0.toNat default).getD 0 default).toNat) [.f .f32 ((Z6 arr_0 x_l0 r0_l1).X), .f .f32 ((Z6 arr_0 x_l0 r0_l1).Y), .f .f32 ((Z6 arr_0 x_l0 r0_l1).Z)]).set ((((Z0 arr_0.Mesh).getD x_l0.toNat default).getD 1 default).toNat) [.f .f32 ((Z8 arr_0 x_l0 r0_l1).X), .f .f32 ((Z8 arr_0 x_l0 r0_l1).Y), .f .f32 ((Z8 arr_0 x_l0 r0_l1).Z)]).length from (by simpa using y_22)) <| sK [18, 18] <| sC (iidx_ok (c := (cI .i64)) (l := (Z0 arr_0.Mesh)) (j := x_l0.toNat) (i := 3) y_23 y_24) <| sE (iget_ok (c := (cI .i64)) (l := (Z0 arr_0.Mesh)) (j := x_l0.toNat) (k := 3) y_25) <| sC (iidx_ok (c := (cI .i64)) (l := (Z0 arr_0.Mesh)) (j := x_l0.toNat) (i := 3) y_23 y_24) <| sE (iget_ok (c := (cI .i64)) (l := (Z0 arr_0.Mesh)) (j := x_l0.toNat) (k := 3) y_25) <| sC (show 0 ≤ (((Z0 arr_0.Mesh).getD x_l0.toNat default).getD 3 default) ∧ Int.toNat (((Z0 arr_0.Mesh).getD x_l0.toNat default).getD 3 default) < ((((r0_l1.map GVector.cells).set ((((Z0 arr_0.Mesh).getD x_l0.toNat default).getD 0 default).toNat) [.f .f32 ((Z6 arr_0 x_l0 r0_l1).X), .f .f32 ((Z6 arr_0 x_l0 r0_l1).Y), .f .f32 ((Z6 arr_0 x_l0 r0_l1).Z)]).set ((((Z0 arr_0.Mesh).getD x_l0.toNat default).getD 1 default).toNat) [.f .f32 ((Z8 arr_0 x_l0 r0_l1).X), .f .f32 ((Z8 arr_0 x_l0 r0_l1).Y), .f .f32 ((Z8 arr_0 x_l0 r0_l1).Z)]).set ((((Z0 arr_0.Mesh).getD x_l0.toNat default).getD 2 default).toNat) [.f .f32 ((Zb arr_0 x_l0 r0_l1).X), .f .f32 ((Zb arr_0 x_l0 r0_l1).Y), .f .f32 ((Zb arr_0 x_l0 r0_l1).Z)]).length from (by simpa using idx_ok (c := GVector.cells) (l := (((r0_l1.set ((((Z0 arr_0.Mesh).getD x_l0.toNat default).getD 0 default).toNat) (Z6 arr_0 x_l0 r0_l1)).set ((((Z0 arr_0.Mesh).getD x_l0.toNat default).getD 1 default).toNat) (Z8 arr_0 x_l0 r0_l1)).set ((((Z0 arr_0.Mesh).getD x_l0.toNat default).getD 2 default).toNat) (Zb arr_0 x_l0 r0_l1))) (i := (((Z0 arr_0.Mesh).getD x_l0.toNat default).getD 3 default)) y_26 y_27)) <| sE (show ((((r0_l1.map GVector.cells).set ((((Z0 arr_0.Mesh).getD x_l0.toNat default).getD 0 default).toNat) [.f .f32 ((Z6 arr_0 x_l0 r0_l1).X), .f .f32 ((Z6 arr_0 x_l0 r0_l1).Y), .f .f32 ((Z6 arr_0 x_l0 r0_l1).Z)]).set ((((Z0 arr_0.Mesh).getD x_l0.toNat default).getD 1 default).toNat) [.f .f32 ((Z8 arr_0 x_l0 r0_l1).X), .f .f32 ((Z8 arr_0 x_l0 r0_l1).Y), .f .f32 ((Z8 arr_0 x_l0 r0_l1).Z)]).set ((((Z0 arr_0.Mesh).getD x_l0.toNat default).getD 2 default).toNat) [.f .f32 ((Zb arr_0 x_l0 r0_l1).X), .f .f32 ((Zb arr_0 x_l0 r0_l1).Y), .f .f32 ((Zb arr_0 x_l0 r0_l1).Z)])[(((Z0 arr_0.Mesh).getD x_l0.toNat default).getD 3 default).toNat]? = some [.f .f32 (((((r0_l1.set ((((Z0 arr_0.Mesh).getD x_l0.toNat default).getD 0 default).toNat) (Z6 arr_0 x_l0 r0_l1)).set ((((Z0 arr_0.Mesh).getD x_l0.toNat default).getD 1 default).toNat) (Z8 arr_0 x_l0 r0_l1)).set ((((Z0 arr_0.Mesh).getD x_l0.toNat default).getD 2 default).toNat) (Zb arr_0 x_l0 r0_l1)).getD ((((Z0 arr_0.Mesh).getD x_l0.toNat default).getD 3 default).toNat) default).X), .f .f32 (((((r0_l1.set ((((Z0 arr_0.Mesh).getD x_l0.toNat default).getD 0 default).toNat) (Z6 arr_0 x_l0 r0_l1)).set ((((Z0 arr_0.Mesh).getD x_l0.toNat default).getD 1 default).toNat) (Z8 arr_0 x_l0 r0_l1)).set ((((Z0 arr_0.Mesh).getD x_l0.toNat default).getD 2 default).toNat) (Zb arr_0 x_l0 r0_l1)).getD ((((Z0 arr_0.Mesh).getD x_l0.toNat default).getD 3 default).toNat) default).Y), .f .f32 (((((r0_l1.set ((((Z0 arr_0.Mesh).getD x_l0.toNat default).getD 0 default).toNat) (Z6 arr_0 x_l0 r0_l1)).set ((((Z0 arr_0.Mesh).getD x_l0.toNat default).getD 1 default).toNat) (Z8 arr_0 x_l0 r0_l1)).set ((((Z0 arr_0.Mesh).getD x_l0.toNat default).getD 2 default).toNat) (Zb arr_0 x_l0 r0_l1)).getD ((((Z0 arr_0.Mesh).getD x_l0.toNat default).getD 3 default).toNat) default).Z)] from (by have q := vget_ok (c := GVector.cells) (l := (((r0_l1.set ((((Z0 arr_0.Mesh).getD x_l0.toNat default).getD 0 default).toNat) (Z6 arr_0 x_l0 r0_l1)).set ((((Z0 arr_0.Mesh).getD x_l0.toNat default).getD 1 default).toNat) (Z8 arr_0 x_l0 r0_l1)).set ((((Z0 arr_0.Mesh).getD x_l0.toNat default).getD 2 default).toNat) (Zb arr_0 x_l0 r0_l1))) (k := (((Z0 arr_0.Mesh).getD x_l0.toNat default).getD 3 default).toNat) y_28; (simp only [List.map_set, List.map_append, List.map_cons, List.map_nil, List.map_replicate] at q; exact q))) <| sF (Z2N (Z1b arr_0.Mesh ((Z0 arr_0.Mesh).getD x_l0.toNat default)) (fneg .f32 arr_0.Bend)) <| sF (Z2F ((((r0_l1.set ((((Z0 arr_0.Mesh).getD x_l0.toNat default).getD 0 default).toNat) (Z6 arr_0 x_l0 r0_l1)).set ((((Z0 arr_0.Mesh).getD x_l0.toNat default).getD 1 default).toNat) (Z8 arr_0 x_l0 r0_l1)).set ((((Z0 arr_0.Mesh).getD x_l0.toNat default).getD 2 default).toNat) (Zb arr_0 x_l0 r0_l1)).getD ((((Z0 arr_0.Mesh).getD x_l0.toNat default).getD 3 default).toNat) default) (Zq (Z1b arr_0.Mesh ((Z0 arr_0.Mesh).getD x_l0.toNat default)) (fneg .f32 arr_0.Bend))) <| sC (show 0 ≤ (((Z0 arr_0.Mesh).getD x_l0.toNat default).getD 3 default) ∧ Int.toNat (((Z0 arr_0.Mesh).getD x_l0.toNat default).getD 3 default) < ((((r0_l1.map GVector.cells).set ((((Z0 arr_0.Mesh).getD x_l0.toNat default).getD 0 default).toNat) [.f .f32 ((Z6 arr_0 x_l0 r0_l1).X), .f .f32 ((Z6 arr_0 x_l0 r0_l1).Y), .f .f32 ((Z6 arr_0 x_l0 r0_l1).Z)]).set ((((Z0 arr_0.Mesh).getD x_l0.toNat default).getD 1 default).toNat) [.f .f32 ((Z8 arr_0 x_l0 r0_l1).X), .f .f32 ((Z8 arr_0 x_l0 r0_l1).Y), .f .f32 ((Z8 arr_0 x_l0 r0_l1).Z)]).set ((((Z0 arr_0.Mesh).getD x_l0.toNat default).getD 2 default).toNat) [.f .f32 ((Zb arr_0 x_l0 r0_l1).X), .f .f32 ((Zb arr_0 x_l0 r0_l1).Y), .f .f32 ((Zb arr_0 x_l0 r0_l1).Z)]).length from (by simpa using idx_ok (c := GVector.cells) (l := (((r0_l1.set ((((Z0 arr_0.Mesh).getD x_l0.toNat default).getD 0 default).toNat) (Z6 arr_0 x_l0 r0_l1)).set ((((Z0 arr_0.Mesh).getD x_l0.toNat default).getD 1 default).toNat) (Z8 arr_0 x_l0 r0_l1)).set ((((Z0 arr_0.Mesh).getD x_l0.toNat default).getD 2 default).toNat) (Zb arr_0 x_l0 r0_l1))) (i := (((Z0 arr_0.Mesh).getD x_l0.toNat default).getD 3 default)) y_26 y_27)) <| sC (show (((Z0 arr_0.Mesh).getD x_l0.toNat default).getD 3 default).toNat < ((((r0_l1.map GVector.cells).set ((((Z0 arr_0.Mesh).getD x_l0.toNat default).getD 0 default).toNat) [.f .f32 ((Z6 arr_0 x_l0 r0_l1).X), .f .f32 ((Z6 arr_0 x_l0 r0_l1).Y), .f .f32 ((Z6 arr_0 x_l0 r0_l1).Z)]).set ((((Z0 arr_0.Mesh).getD x_l0.toNat default).getD 1 default).toNat) [.f .f32 ((Z8 arr_0 x_l0 r0_l1).X), .f .f32 ((Z8 arr_0 x_l0 r0_l1).Y), .f .f32 ((Z8 arr_0 x_l0 r0_l1).Z)]).set ((((Z0 arr_0.Mesh).getD x_l0.toNat default).getD 2 default).toNat) [.f .f32 ((Zb arr_0 x_l0 r0_l1).X), .f .f32 ((Zb arr_0 x_l0 r0_l1).Y), .f .f32 ((Zb arr_0 x_l0 r0_l1).Z)]).length from (by simpa using y_28)) <| sI (x_l0 + 1) y_29 y_30 <| sN) (by kernel_rfl) (show _ = ⟨.ref (GBody.cells arr_0) 0 :: .any :: .nils :: .ref (GBody.cells arr_0) 0 :: .own 0 :: an 10 (.own 1 :: an 4 (.ref (GBody.cells arr_0) 0 :: .ref (GBody.cells arr_0) 0 :: .ref (GBody.cells arr_0) 0 :: .ref (GBody.cells arr_0) 0 :: .ref (GBody.cells arr_0) 0 :: .ref (GBody.cells arr_0) 0 :: .sl (arr_0.Mesh.Places.map GVector.cells) :: .i .i64 (arr_0.Mesh.Places.length : Int) :: .own 0 :: .ref (GBody.cells arr_0) 0 :: .ref (GBody.cells arr_0) 0 :: .ref (GBody.cells arr_0) 2 :: .sl (arr_0.Springs.map GSpring.cells) :: an 52 (.ref (GBody.cells arr_0) 0 :: .ref (GBody.cells arr_0) 0 :: .ref (GBody.cells arr_0) 1 :: .sl (arr_0.Mesh.Triangles.map (cL (cI .i64))) :: an 72 (.ref (GBody.cells arr_0) 0 :: .own 1 :: .own 1 :: .i .i64 ((Z0 arr_0.Mesh).length : Int) :: .i .i64 (x_l0 + 1) :: an 114 [])))), [.vec 40 3 (((((r0_l1.set ((((Z0 arr_0.Mesh).getD x_l0.toNat default).getD 0 default).toNat) (Z6 arr_0 x_l0 r0_l1)).set ((((Z0 arr_0.Mesh).getD x_l0.toNat default).getD 1 default).toNat) (Z8 arr_0 x_l0 r0_l1)).set ((((Z0 arr_0.Mesh).getD x_l0.toNat default).getD 2 default).toNat) (Zb arr_0 x_l0 r0_l1)).set ((((Z0 arr_0.Mesh).getD x_l0.toNat default).getD 3 default).toNat) (Z1A arr_0 x_l0 r0_l1)).map GVector.cells) false, .nest 49 ((Z0 arr_0.Mesh).map fun l => l.map (cI .i64)) false]⟩ from (by simp [List.map_set, GVector.cells])) (ih (x_l0 + 1) ((((r0_l1.set ((((Z0 arr_0.Mesh).getD x_l0.toNat default).getD 0 default).toNat) (Z6 arr_0 x_l0 r0_l1)).set ((((Z0 arr_0.Mesh).getD x_l0.toNat default).getD 1 default).toNat) (Z8 arr_0 x_l0 r0_l1)).set ((((Z0 arr_0.Mesh).getD x_l0.toNat default).getD 2 default).toNat) (Zb arr_0 x_l0 r0_l1)).set ((((Z0 arr_0.Mesh).getD x_l0.toNat default).getD 3 default).toNat) (Z1A arr_0 x_l0 r0_l1)) (show 0 ≤ (x_l0 + 1) from (by omega)) (show ((((r0_l1.set ((((Z0 arr_0.Mesh).getD x_l0.toNat default).getD 0 default).toNat) (Z6 arr_0 x_l0 r0_l1)).set ((((Z0 arr_0.Mesh).getD x_l0.toNat default).getD 1 default).toNat) (Z8 arr_0 x_l0 r0_l1)).set ((((Z0 arr_0.Mesh).getD x_l0.toNat default).getD 2 default).toNat) (Zb arr_0 x_l0 r0_l1)).set ((((Z0 arr_0.Mesh).getD x_l0.toNat default).getD 3 default).toNat) (Z1A arr_0 x_l0 r0_l1)).length = arr_0.Mesh.Places.length from (by (have q := Z2G _ hp5.e; (have q := Okh.at (hin4 hp5.e (by assumption) h_0); (simp only [List.length_set]; omega))))) (by omega))
  | false =>
   have gh_0 := of_decide_eq_false h_0
   have e : ZA arr_0 (k + 1) x_l0 r0_l1 = r0_l1 := by simp only [ZA, h_0, cond_false]
   rw [e]
   exact outR (e := (.exit 6)) E0Ok Z3 [] Z76 [0, 1] (sB h_0 <| sN) (by kernel_rfl) (by intro h; cases h)
theorem Z77 (arr_0 : GBody) : ∀ (k : Nat) (x_l0 : Int) (r0_l1 : (List GVector)) (hk : (((Z0 arr_0.Mesh).length : Int) - x_l0).toNat < k), (ZA arr_0 k x_l0 r0_l1).length = r0_l1.length := by
  intro k
  induction k with
  | zero => intro x_l0 r0_l1 hk; exact absurd hk (Nat.not_lt_zero _)
  | succ k ih =>
    intro x_l0 r0_l1 hk
    cases h_0 : (decide (x_l0 < ((Z0 arr_0.Mesh).length : Int))) with
    | true =>
      have e : ZA arr_0 (k + 1) x_l0 r0_l1 = (ZA arr_0 k (x_l0 + 1) ((((r0_l1.set ((((Z0 arr_0.Mesh).getD x_l0.toNat default).getD 0 default).toNat) (Z6 arr_0 x_l0 r0_l1)).set ((((Z0 arr_0.Mesh).getD x_l0.toNat default).getD 1 default).toNat) (Z8 arr_0 x_l0 r0_l1)).set ((((Z0 arr_0.Mesh).getD x_l0.toNat default).getD 2 default).toNat) (Zb arr_0 x_l0 r0_l1)).set ((((Z0 arr_0.Mesh).getD x_l0.toNat default).getD 3 default).toNat) (Z1A arr_0 x_l0 r0_l1))) := by simp only [ZA, h_0, cond_true]
      rw [e, ih (x_l0 + 1) ((((r0_l1.set ((((Z0 arr_0.Mesh).getD x_l0.toNat default).getD 0 default).toNat) (Z6 arr_0 x_l0 r0_l1)).set ((((Z0 arr_0.Mesh).getD x_l0.toNat default).getD 1 default).toNat) (Z8 arr_0 x_l0 r0_l1)).set ((((Z0 arr_0.Mesh).getD x_l0.toNat default).getD 2 default).toNat) (Zb arr_0 x_l0 r0_l1)).set ((((Z0 arr_0.Mesh).getD x_l0.toNat default).getD 3 default).toNat) (Z1A arr_0 x_l0 r0_l1)) (by simp_all <;> omega)]; simp
    | false =>
      have e : ZA arr_0 (k + 1) x_l0 r0_l1 = r0_l1 := by simp only [ZA, h_0, cond_false]
      first | (rw [e]; done) | (rw [e]; rfl)
def Z25 (arr_0 : GBody) : (List GVector) := (ZA arr_0 ((((Z0 arr_0.Mesh).length : Int) - 0).toNat + 1) 0 (Z24 arr_0))
@[simp] theorem Z9I (arr_0 : GBody) : (Z25 arr_0).length = ((Z24 arr_0) : (List GVector)).length := Z77 arr_0 ((((Z0 arr_0.Mesh).length : Int) - 0).toNat + 1) 0 (Z24 arr_0) (by exact Nat.lt_succ_self _)
def ZB (arr_0 : GBody) : Nat → Int → (List GVector) → (List GVector)
  | 0, _, _ => default
  | k + 1, x_l0, r0_l1 => (cond (decide (x_l0 < (arr_0.Mesh.Places.length : Int)))
    (ZB arr_0 k (x_l0 + 1) (r0_l1.set x_l0.toNat (ZG (r0_l1.getD x_l0.toNat default) (Zq arr_0.Fall (arr_0.Weights.getD x_l0.toNat default)))))
    r0_l1)
def Z4s (arr_0 : GBody) (r : (List GVector)) : Ex × St := ((.exit 8), ⟨.ref (GBody.cells arr_0) 0 :: .any :: .nils :: .ref (GBody.cells arr_0) 0 :: .own 0 :: an 10 (.own 1 :: an 4 (.ref (GBody.cells arr_0) 0 :: .ref (GBody.cells arr_0) 0 :: .ref (GBody.cells arr_0) 0 :: .ref (GBody.cells arr_0) 0 :: .ref (GBody.cells arr_0) 0 :: .ref (GBody.cells arr_0) 0 :: .sl (arr_0.Mesh.Places.map GVector.cells) :: .i .i64 (arr_0.Mesh.Places.length : Int) :: .own 0 :: .ref (GBody.cells arr_0) 0 :: .ref (GBody.cells arr_0) 0 :: .ref (GBody.cells arr_0) 2 :: .sl (arr_0.Springs.map GSpring.cells) :: an 52 (.ref (GBody.cells arr_0) 0 :: .ref (GBody.cells arr_0) 0 :: .ref (GBody.cells arr_0) 1 :: .sl (arr_0.Mesh.Triangles.map (cL (cI .i64))) :: an 72 (.ref (GBody.cells arr_0) 0 :: .own 1 :: .own 1 :: an 86 (.ref (GBody.cells arr_0) 0 :: .ref (GBody.cells arr_0) 0 :: .ref (GBody.cells arr_0) 0 :: .sl (arr_0.Mesh.Places.map GVector.cells) :: an 26 []))))), [.vec 40 3 (r.map GVector.cells) false, .nest 49 ((Z0 arr_0.Mesh).map fun l => l.map (cI .i64)) false]⟩)
def Z7O (arr_0 : GBody) (x_l0 : Int) (r0_l1 : (List GVector)) : St := ⟨.ref (GBody.cells arr_0) 0 :: .any :: .nils :: .ref (GBody.cells arr_0) 0 :: .own 0 :: an 10 (.own 1 :: an 4 (.ref (GBody.cells arr_0) 0 :: .ref (GBody.cells arr_0) 0 :: .ref (GBody.cells arr_0) 0 :: .ref (GBody.cells arr_0) 0 :: .ref (GBody.cells arr_0) 0 :: .ref (GBody.cells arr_0) 0 :: .sl (arr_0.Mesh.Places.map GVector.cells) :: .i .i64 (arr_0.Mesh.Places.length : Int) :: .own 0 :: .ref (GBody.cells arr_0) 0 :: .ref (GBody.cells arr_0) 0 :: .ref (GBody.cells arr_0) 2 :: .sl (arr_0.Springs.map GSpring.cells) :: an 52 (.ref (GBody.cells arr_0) 0 :: .ref (GBody.cells arr_0) 0 :: .ref (GBody.cells arr_0) 1 :: .sl (arr_0.Mesh.Triangles.map (cL (cI .i64))) :: an 72 (.ref (GBody.cells arr_0) 0 :: .own 1 :: .own 1 :: an 86 (.ref (GBody.cells arr_0) 0 :: .ref (GBody.cells arr_0) 0 :: .ref (GBody.cells arr_0) 0 :: .sl (arr_0.Mesh.Places.map GVector.cells) :: .i .i64 (arr_0.Mesh.Places.length : Int) :: .i .i64 x_l0 :: an 24 []))))), [.vec 40 3 (r0_l1.map GVector.cells) false, .nest 49 ((Z0 arr_0.Mesh).map fun l => l.map (cI .i64)) false]⟩
def Z5l : List Bool := (mR false [0, 1, 1, 3, 10, 1, 4, 13, 52, 4, 72, 3, 86, 6, 24])
def Z78 : List Bool := (mR false [0, 1, 1, 3, 10, 1, 4, 13, 52, 4, 72, 3, 86, 4, 26])
theorem Z7P (arr_0 : GBody) (hp0 : arr_0.Mesh.Places.length ≤ 1073741824) (hp1 : arr_0.Mesh.Triangles.length ≤ 1073741824) (hp2 : ∀ t ∈ arr_0.Mesh.Triangles, t.length ≤ 1073741824) (hp3 : arr_0.Springs.length ≤ 1073741824) (hp4 : arr_0.Weights.length ≤ 1073741824) (hp5 : OkBd arr_0) : ∀ (k : Nat) (x_l0 : Int) (r0_l1 : (List GVector)) (Z5m : 0 ≤ x_l0) (Z5n : r0_l1.length = arr_0.Mesh.Places.length) (hk : ((arr_0.Mesh.Places.length : Int) - x_l0).toNat < k), Lp prog 0 (sub (bodyOf f51) [1, 1, 1, 1, 1, 1, 1, 0, 1, 0, 0]) (Z7O arr_0 x_l0 r0_l1) (Z4s arr_0 (ZB arr_0 k x_l0 r0_l1)).1 (Z4s arr_0 (ZB arr_0 k x_l0 r0_l1)).2 := by
 intro k
 induction k with
 | zero => intro x_l0 r0_l1 Z5m Z5n hk; exact absurd hk (Nat.not_lt_zero _)
 | succ k ih =>
  intro x_l0 r0_l1 Z5m Z5n hk
  cases h_0 : (decide (x_l0 < (arr_0.Mesh.Places.length : Int))) with
  | true =>
   have gh_0 := of_decide_eq_true h_0
   have y_0 : (0 : Int) ≤ x_l0 := (by assumption)
   have y_1 : x_l0 < (r0_l1.length : Int) := (by omega)
   have y_2 : x_l0.toNat < r0_l1.length := (by omega)
   have y_3 : x_l0 < (arr_0.Weights.length : Int) := (by have q := hp5.w; omega)
   have y_4 : (-9223372036854775808 : Int) ≤ (x_l0 + 1) := (by omega)
   have y_5 : (x_l0 + 1) ≤ (9223372036854775807 : Int) := (by omega)
   have e : ZB arr_0 (k + 1) x_l0 r0_l1 = (ZB arr_0 k (x_l0 + 1) (r0_l1.set x_l0.toNat (ZG (r0_l1.getD x_l0.toNat default) (Zq arr_0.Fall (arr_0.Weights.getD x_l0.toNat default))))) := by simp only [ZB, h_0, cond_true]
   rw [e]
   exact nextS E0Ok Z3 [] Z5l [0, 1] (⟨.ref (GBody.cells arr_0) 0 :: .any :: .nils :: .ref (GBody.cells arr_0) 0 :: .own 0 :: an 10 (.own 1 :: an 4 (.ref (GBody.cells arr_0) 0 :: .ref (GBody.cells arr_0) 0 :: .ref (GBody.cells arr_0) 0 :: .ref (GBody.cells arr_0) 0 :: .ref (GBody.cells arr_0) 0 :: .ref (GBody.cells arr_0) 0 :: .sl (arr_0.Mesh.Places.map GVector.cells) :: .i .i64 (arr_0.Mesh.Places.length : Int) :: .own 0 :: .ref (GBody.cells arr_0) 0 :: .ref (GBody.cells arr_0) 0 :: .ref (GBody.cells arr_0) 2 :: .sl (arr_0.Springs.map GSpring.cells) :: an 52 (.ref (GBody.cells arr_0) 0 :: .ref (GBody.cells arr_0) 0 :: .ref (GBody.cells arr_0) 1 :: .sl (arr_0.Mesh.Triangles.map (cL (cI .i64))) :: an 72 (.ref (GBody.cells arr_0) 0 :: .own 1 :: .own 1 :: an 86 (.ref (GBody.cells arr_0) 0 :: .ref (GBody.cells arr_0) 0 :: .ref (GBody.cells arr_0) 0 :: .sl (arr_0.Mesh.Places.map GVector.cells) :: .i .i64 (arr_0.Mesh.Places.length : Int) :: .i .i64 (x_l0 + 1) :: an 24 []))))), [.vec 40 3 ((r0_l1.map GVector.cells).set x_l0.toNat [.f .f32 ((ZG (r0_l1.getD x_l0.toNat default) (Zq arr_0.Fall (arr_0.Weights.getD x_l0.toNat default))).X), .f .f32 ((ZG (r0_l1.getD x_l0.toNat default) (Zq arr_0.Fall (arr_0.Weights.getD x_l0.toNat default))).Y), .f .f32 ((ZG (r0_l1.getD x_l0.toNat default) (Zq arr_0.Fall (arr_0.Weights.getD x_l0.toNat default))).Z)]) false, .nest 49 ((Z0 arr_0.Mesh).map fun l => l.map (cI .i64)) false]⟩) (sB h_0 <| sK [19, 19] <| sX GVector.cells r0_l1 x_l0 y_0 y_1 <| sV GVector.cells r0_l1 x_l0.toNat y_2 <| sG (cF .f32) arr_0.Weights x_l0 y_0 y_3 <| sF (Z2N arr_0.Fall (arr_0.Weights.getD x_l0.toNat default)) <| sF (Z2F (r0_l1.getD x_l0.toNat default) (Zq arr_0.Fall (arr_0.Weights.getD x_l0.toNat default))) <| sX GVector.cells r0_l1 x_l0 y_0 y_1 <| sC (maplt (c := GVector.cells) (l := r0_l1) y_2) <| sI (x_l0 + 1) y_4 y_5 <| sN) (by kernel_rfl) (show _ = ⟨.ref (GBody.cells arr_0) 0 :: .any :: .nils :: .ref (GBody.cells arr_0) 0 :: .own 0 :: an 10 (.own 1 :: an 4 (.ref (GBody.cells arr_0) 0 :: .ref (GBody.cells arr_0) 0 :: .ref (GBody.cells arr_0) 0 :: .ref (GBody.cells arr_0) 0 :: .ref (GBody.cells arr_0) 0 :: .ref (GBody.cells arr_0) 0 :: .sl (arr_0.Mesh.Places.map GVector.cells) :: .i .i64 (arr_0.Mesh.Places.length : Int) :: .own 0 :: .ref (GBody.cells arr_0) 0 :: .ref (GBody.cells arr_0) 0 :: .ref (GBody.cells arr_0) 2 :: .sl (arr_0.Springs.map GSpring.cells) :: an 52 (.ref (GBody.cells arr_0) 0 :: .ref (GBody.cells arr_0) 0 :: .ref (GBody.cells arr_0) 1 :: .sl (arr_0.Mesh.Triangles.map (cL (cI .i64))) :: an 72 (.ref (GBody.cells arr_0) 0 :: .own 1 :: .own 1 :: an 86 (.ref (GBody.cells arr_0) 0 :: .ref (GBody.cells arr_0) 0 :: .ref (GBody.cells arr_0) 0 :: .sl (arr_0.Mesh.Places.map GVector.cells) :: .i .i64 (arr_0.Mesh.Places.length : Int) :: .i .i64 (x_l0 + 1) :: an 24 []))))), [.vec 40 3 ((r0_l1.set x_l0.toNat (ZG (r0_l1.getD x_l0.toNat default) (Zq arr_0.Fall (arr_0.Weights.getD x_l0.toNat default)))).map GVector.cells) false, .nest 49 ((Z0 arr_0.Mesh).map fun l => l.map (cI .i64)) false]⟩ from (by simp [List.map_set, GVector.cells])) (ih (x_l0 + 1) (r0_l1.set x_l0.toNat (ZG (r0_l1.getD x_l0.toNat default) (Zq arr_0.Fall (arr_0.Weights.getD x_l0.toNat default)))) (show 0 ≤ (x_l0 + 1) from (by omega)) (show (r0_l1.set x_l0.toNat (ZG (r0_l1.getD x_l0.toNat default) (Zq arr_0.Fall (arr_0.Weights.getD x_l0.toNat default)))).length = arr_0.Mesh.Places.length from (by simp_all <;> omega)) (by omega))
  | false =>
   have gh_0 := of_decide_eq_false h_0
   have e : ZB arr_0 (k + 1) x_l0 r0_l1 = r0_l1 := by simp only [ZB, h_0, cond_false]
   rw [e]
   exact outR (e := (.exit 8)) E0Ok Z3 [] Z78 [0, 1] (sB h_0 <| sN) (by kernel_rfl) (by intro h; cases h)
theorem Z79 (arr_0 : GBody) : ∀ (k : Nat) (x_l0 : Int) (r0_l1 : (List GVector)) (hk : ((arr_0.Mesh.Places.length : Int) - x_l0).toNat < k), (ZB arr_0 k x_l0 r0_l1).length = r0_l1.length := by
  intro k
  induction k with
  | zero => intro x_l0 r0_l1 hk; exact absurd hk (Nat.not_lt_zero _)
  | succ k ih =>
    intro x_l0 r0_l1 hk
    cases h_0 : (decide (x_l0 < (arr_0.Mesh.Places.length : Int))) with
    | true =>
      have e : ZB arr_0 (k + 1) x_l0 r0_l1 = (ZB arr_0 k (x_l0 + 1) (r0_l1.set x_l0.toNat (ZG (r0_l1.getD x_l0.toNat default) (Zq arr_0.Fall (arr_0.Weights.getD x_l0.toNat default))))) := by simp only [ZB, h_0, cond_true]
      rw [e, ih (x_l0 + 1) (r0_l1.set x_l0.toNat (ZG (r0_l1.getD x_l0.toNat default) (Zq arr_0.Fall (arr_0.Weights.getD x_l0.toNat default)))) (by simp_all <;> omega)]; simp
    | false =>
      have e : ZB arr_0 (k + 1) x_l0 r0_l1 = r0_l1 := by simp only [ZB, h_0, cond_false]
      first | (rw [e]; done) | (rw [e]; rfl)
def Z2U (arr_0 : GBody) : (List GVector) := (ZB arr_0 (((arr_0.Mesh.Places.length : Int) - 0).toNat + 1) 0 (Z25 arr_0))
@[simp] theorem Z9J (arr_0 : GBody) : (Z2U arr_0).length = ((Z25 arr_0) : (List GVector)).length := Z79 arr_0 (((arr_0.Mesh.Places.length : Int) - 0).toNat + 1) 0 (Z25 arr_0) (by exact Nat.lt_succ_self _)
def Z1Y (arr_0 : GBody) : (List GVector) := (Z2U arr_0)
@[simp] theorem Zas (arr_0 : GBody) : (Z1Y arr_0).length = arr_0.Mesh.Places.length := by
  first | (simp [Z1Y]; done)
theorem Z91 (arr_0 : GBody) (hp0 : arr_0.Mesh.Places.length ≤ 1073741824) (hp1 : arr_0.Mesh.Triangles.length ≤ 1073741824) (hp2 : ∀ t ∈ arr_0.Mesh.Triangles, t.length ≤ 1073741824) (hp3 : arr_0.Springs.length ≤ 1073741824) (hp4 : arr_0.Weights.length ≤ 1073741824) (hp5 : OkBd arr_0)  : Fn prog 51 [.ref (GBody.cells arr_0) 0] (.own 0) [.vec 40 3 ((Z1Y arr_0).map GVector.cells) false] := by
 have y0 : (0 : Int) ≤ (arr_0.Mesh.Places.length : Int) := (by omega)
 have y1 : ((arr_0.Mesh.Places.length : Int) : Int) ≤ 2147483648 := (by omega)
 have y2 : OkE arr_0.Mesh.Places.length arr_0.Mesh.Triangles := (by exact hp5.e)
 refine fnS E0Ok Z3 (c := bodyOf f51) [] (.own 0) [.vec 40 3 ((Z2U arr_0).map GVector.cells) false] func51 (sZ GVector.cells arr_0.Mesh.Places <| sC (show (arr_0.Mesh.Places.length : Int) = (arr_0.Mesh.Places.length : Int) from rfl) <| sC y0 <| sC y1 <| sZ GSpring.cells arr_0.Springs <| sL (mR false [0, 1, 1, 3, 15, 15, 245]) 1 (lp_cast (st2 := ⟨.ref (GBody.cells arr_0) 0 :: .any :: .nils :: .ref (GBody.cells arr_0) 0 :: .own 0 :: an 15 (.ref (GBody.cells arr_0) 0 :: .ref (GBody.cells arr_0) 0 :: .ref (GBody.cells arr_0) 0 :: .ref (GBody.cells arr_0) 0 :: .ref (GBody.cells arr_0) 0 :: .ref (GBody.cells arr_0) 0 :: .sl (arr_0.Mesh.Places.map GVector.cells) :: .i .i64 (arr_0.Mesh.Places.length : Int) :: .own 0 :: .ref (GBody.cells arr_0) 0 :: .ref (GBody.cells arr_0) 0 :: .ref (GBody.cells arr_0) 2 :: .sl (arr_0.Springs.map GSpring.cells) :: .i .i64 (arr_0.Springs.length : Int) :: .i .i64 0 :: an 245 []), [.vec 40 3 (List.replicate (Int.toNat (arr_0.Mesh.Places.length : Int)) [.f .f32 0, .f .f32 0, .f .f32 0]) false]⟩) (lp_val (Z4n arr_0) (x := (Z23 arr_0)) (Z7H arr_0 hp0 hp1 hp2 hp3 hp4 hp5 (((arr_0.Springs.length : Int) - 0).toNat + 1) 0 (List.replicate (arr_0.Mesh.Places.length : Int).toNat (⟨0, 0, 0⟩ : GVector)) (show 0 ≤ 0 from (by omega)) (show (List.replicate (arr_0.Mesh.Places.length : Int).toNat (⟨0, 0, 0⟩ : GVector)).length = arr_0.Mesh.Places.length from (by simp; done)) (Nat.lt_succ_self _)) rfl) (by simp [Z64, GVector.cells])) <| sZ (cL (cI .i64)) arr_0.Mesh.Triangles <| sL Z5h 1 (lp_val (Z4q arr_0) (x := (Z24 arr_0)) (Z7L arr_0 hp0 hp1 hp2 hp3 hp4 hp5 (((arr_0.Mesh.Triangles.length : Int) - 0).toNat + 1) 0 (Z23 arr_0) (show 0 ≤ 0 from (by omega)) (show (Z23 arr_0).length = arr_0.Mesh.Places.length from (by simp; done)) (Nat.lt_succ_self _)) rfl) <| sF (Fn.sub (args := [.ref (GBody.cells arr_0) 0]) (r := .own 0) (new := [.nest 49 ((Z0 arr_0.Mesh).map fun l => l.map (cI .i64)) false]) [some 2] (Z90 arr_0.Mesh hp0 hp1 hp2 y2)) <| sM (nlen_ok (l := (Z0 arr_0.Mesh)) (f := fun l => l.map (cI .i64))) <| sL Z5i 2 (lp_val (Z4r arr_0) (x := (Z25 arr_0)) (Z7N arr_0 hp0 hp1 hp2 hp3 hp4 hp5 ((((Z0 arr_0.Mesh).length : Int) - 0).toNat + 1) 0 (Z24 arr_0) (show 0 ≤ 0 from (by omega)) (show (Z24 arr_0).length = arr_0.Mesh.Places.length from (by simp; done)) (Nat.lt_succ_self _)) rfl) <| sZ GVector.cells arr_0.Mesh.Places <| sL Z5l 2 (lp_val (Z4s arr_0) (x := (Z2U arr_0)) (Z7P arr_0 hp0 hp1 hp2 hp3 hp4 hp5 (((arr_0.Mesh.Places.length : Int) - 0).toNat + 1) 0 (Z25 arr_0) (show 0 ≤ 0 from (by omega)) (show (Z25 arr_0).length = arr_0.Mesh.Places.length from (by simp; done)) (Nat.lt_succ_self _)) rfl) <| sK [0] sN) rfl (by kernel_rfl) (by kernel_rfl) rfl ?_ ?_
 · rfl
 · simp [Z1Y]
def ZY (b_0 : GBody) (held_1 : (List Int)) : Nat → Int → (List GVector) → (List GVector)
  | 0, _, _ => default
  | k + 1, x_l0, r0_l1 => (cond (decide (x_l0 < (held_1.length : Int)))
    (ZY b_0 held_1 k (x_l0 + 1) (r0_l1.set ((held_1.getD x_l0.toNat default).toNat) (⟨0, 0, 0⟩ : GVector)))
    r0_l1)
def Z4P (b_0 : GBody) (held_1 : (List Int)) (r : (List GVector)) : Ex × St := ((.exit 0), ⟨.ref (GBody.cells b_0) 0 :: .sl (held_1.map (cI .i64)) :: .any :: .any :: .nils :: .own 0 :: .any :: .ref (GBody.cells b_0) 0 :: .own 0 :: .sl (held_1.map (cI .i64)) :: an 13 [], [.vec 40 3 (r.map GVector.cells) false]⟩)
def Z8z (b_0 : GBody) (held_1 : (List Int)) (x_l0 : Int) (r0_l1 : (List GVector)) : St := ⟨.ref (GBody.cells b_0) 0 :: .sl (held_1.map (cI .i64)) :: .any :: .any :: .nils :: .own 0 :: .any :: .ref (GBody.cells b_0) 0 :: .own 0 :: .sl (held_1.map (cI .i64)) :: .i .i64 (held_1.length : Int) :: .i .i64 x_l0 :: an 11 [], [.vec 40 3 (r0_l1.map GVector.cells) false]⟩
theorem Z8A (b_0 : GBody) (held_1 : (List Int)) (hp0 : b_0.Mesh.Places.length ≤ 1073741824) (hp1 : b_0.Mesh.Triangles.length ≤ 1073741824) (hp2 : ∀ t ∈ b_0.Mesh.Triangles, t.length ≤ 1073741824) (hp3 : b_0.Springs.length ≤ 1073741824) (hp4 : b_0.Weights.length ≤ 1073741824) (hp5 : held_1.length ≤ 1073741824) (hp6 : OkBd b_0) (hp7 : OkIx b_0.Mesh.Places.length (fun x => x) held_1) : ∀ (k : Nat) (x_l0 : Int) (r0_l1 : (List GVector)) (Z65 : 0 ≤ x_l0) (Z66 : r0_l1.length = b_0.Mesh.Places.length) (hk : ((held_1.length : Int) - x_l0).toNat < k), Lp prog 0 (sub (bodyOf f65) [1, 1, 0, 1, 0, 0]) (Z8z b_0 held_1 x_l0 r0_l1) (Z4P b_0 held_1 (ZY b_0 held_1 k x_l0 r0_l1)).1 (Z4P b_0 held_1 (ZY b_0 held_1 k x_l0 r0_l1)).2 := by
 intro k
 induction k with
 | zero => intro x_l0 r0_l1 Z65 Z66 hk; exact absurd hk (Nat.not_lt_zero _)
 | succ k ih =>
  intro x_l0 r0_l1 Z65 Z66 hk
  cases h_0 : (decide (x_l0 < (held_1.length : Int))) with
  | true =>
   have gh_0 := of_decide_eq_true h_0
   have y_0 : (0 : Int) ≤ x_l0 := (by assumption)
   have y_1 : x_l0 < (held_1.length : Int) := (by assumption)
   have y_2 : (0 : Int) ≤ (held_1.getD x_l0.toNat default) := (by have q := OkIx.at hp7 (by assumption) gh_0; omega)
   have y_3 : (held_1.getD x_l0.toNat default) < (r0_l1.length : Int) := (by have q := OkIx.at hp7 (by assumption) gh_0; omega)
   have y_4 : (held_1.getD x_l0.toNat default).toNat < r0_l1.length := (by omega)
   have y_5 : (-9223372036854775808 : Int) ≤ (x_l0 + 1) := (by omega)
   have y_6 : (x_l0 + 1) ≤ (9223372036854775807 : Int) := (by omega)
   have e : ZY b_0 held_1 (k + 1) x_l0 r0_l1 = (ZY b_0 held_1 k (x_l0 + 1) (r0_l1.set ((held_1.getD x_l0.toNat default).toNat) (⟨0, 0, 0⟩ : GVector))) := by simp only [ZY, h_0, cond_true]
   rw [e]
   exact nextS E0Ok Z3 [] (mR false [0, 2, 2, 2, 1, 5, 11]) [0] (⟨.ref (GBody.cells b_0) 0 :: .sl (held_1.map (cI .i64)) :: .any :: .any :: .nils :: .own 0 :: .any :: .ref (GBody.cells b_0) 0 :: .own 0 :: .sl (held_1.map (cI .i64)) :: .i .i64 (held_1.length : Int) :: .i .i64 (x_l0 + 1) :: an 11 [], [.vec 40 3 ((r0_l1.map GVector.cells).set ((held_1.getD x_l0.toNat default).toNat) [.f .f32 0, .f .f32 0, .f .f32 0]) false]⟩) (sB h_0 <| sG (cI .i64) held_1 x_l0 y_0 y_1 <| sX GVector.cells r0_l1 (held_1.getD x_l0.toNat default) y_2 y_3 <| sC (maplt (c := GVector.cells) (l := r0_l1) y_4) <| sI (x_l0 + 1) y_5 y_6 <| sN) (by kernel_rfl) (show _ = ⟨.ref (GBody.cells b_0) 0 :: .sl (held_1.map (cI .i64)) :: .any :: .any :: .nils :: .own 0 :: .any :: .ref (GBody.cells b_0) 0 :: .own 0 :: .sl (held_1.map (cI .i64)) :: .i .i64 (held_1.length : Int) :: .i .i64 (x_l0 + 1) :: an 11 [], [.vec 40 3 ((r0_l1.set ((held_1.getD x_l0.toNat default).toNat) (⟨0, 0, 0⟩ : GVector)).map GVector.cells) false]⟩ from (by simp [List.map_set, GVector.cells])) (ih (x_l0 + 1) (r0_l1.set ((held_1.getD x_l0.toNat default).toNat) (⟨0, 0, 0⟩ : GVector)) (show 0 ≤ (x_l0 + 1) from (by omega)) (show (r0_l1.set ((held_1.getD x_l0.toNat default).toNat) (⟨0, 0, 0⟩ : GVector)).length = b_0.Mesh.Places.length from (by have q := OkIx.at hp7 (by assumption) gh_0; (simp only [List.length_set]; omega))) (by omega))
  | false =>
   have gh_0 := of_decide_eq_false h_0
   have e : ZY b_0 held_1 (k + 1) x_l0 r0_l1 = r0_l1 := by simp only [ZY, h_0, cond_false]
   rw [e]
   exact outR (e := (.exit 0)) E0Ok Z3 [] (mR false [0, 2, 2, 2, 1, 3, 13]) [0] (sB h_0 <| sN) (by kernel_rfl) (by intro h; cases h)
theorem Z7Q (b_0 : GBody) (held_1 : (List Int)) : ∀ (k : Nat) (x_l0 : Int) (r0_l1 : (List GVector)) (hk : ((held_1.length : Int) - x_l0).toNat < k), (ZY b_0 held_1 k x_l0 r0_l1).length = r0_l1.length := by
  intro k
  induction k with
  | zero => intro x_l0 r0_l1 hk; exact absurd hk (Nat.not_lt_zero _)
  | succ k ih =>
    intro x_l0 r0_l1 hk
    cases h_0 : (decide (x_l0 < (held_1.length : Int))) with
    | true =>
      have e : ZY b_0 held_1 (k + 1) x_l0 r0_l1 = (ZY b_0 held_1 k (x_l0 + 1) (r0_l1.set ((held_1.getD x_l0.toNat default).toNat) (⟨0, 0, 0⟩ : GVector))) := by simp only [ZY, h_0, cond_true]
      rw [e, ih (x_l0 + 1) (r0_l1.set ((held_1.getD x_l0.toNat default).toNat) (⟨0, 0, 0⟩ : GVector)) (by simp_all <;> omega)]; simp
    | false =>
      have e : ZY b_0 held_1 (k + 1) x_l0 r0_l1 = r0_l1 := by simp only [ZY, h_0, cond_false]
      first | (rw [e]; done) | (rw [e]; rfl)
def Z3b (b_0 : GBody) (held_1 : (List Int)) : (List GVector) := (ZY b_0 held_1 (((held_1.length : Int) - 0).toNat + 1) 0 (Z1Y b_0))
@[simp] theorem Zac (b_0 : GBody) (held_1 : (List Int)) : (Z3b b_0 held_1).length = ((Z1Y b_0) : (List GVector)).length := Z7Q b_0 held_1 (((held_1.length : Int) - 0).toNat + 1) 0 (Z1Y b_0) (by exact Nat.lt_succ_self _)
def Z2x (b_0 : GBody) (held_1 : (List Int)) : (List GVector) := (Z3b b_0 held_1)
@[simp] theorem Z5F (b_0 : GBody) (held_1 : (List Int)) : (Z2x b_0 held_1).length = b_0.Mesh.Places.length := by
  first | (simp [Z2x]; done)
theorem Z9y (b_0 : GBody) (held_1 : (List Int)) (hp0 : b_0.Mesh.Places.length ≤ 1073741824) (hp1 : b_0.Mesh.Triangles.length ≤ 1073741824) (hp2 : ∀ t ∈ b_0.Mesh.Triangles, t.length ≤ 1073741824) (hp3 : b_0.Springs.length ≤ 1073741824) (hp4 : b_0.Weights.length ≤ 1073741824) (hp5 : held_1.length ≤ 1073741824) (hp6 : OkBd b_0) (hp7 : OkIx b_0.Mesh.Places.length (fun x => x) held_1)  : Fn prog 65 [.ref (GBody.cells b_0) 0, .sl (held_1.map (cI .i64))] (.own 0) [.vec 40 3 ((Z2x b_0 held_1).map GVector.cells) false] := by
 refine fnS E0Ok Z3 (c := bodyOf f65) [] (.own 0) [.vec 40 3 ((Z3b b_0 held_1).map GVector.cells) false] func65 (sF (Z91 b_0 hp0 hp1 hp2 hp3 hp4 hp6) <| sZ (cI .i64) held_1 <| sL (mR false [0, 2, 2, 2, 1, 5, 11]) 1 (lp_val (Z4P b_0 held_1) (x := (Z3b b_0 held_1)) (Z8A b_0 held_1 hp0 hp1 hp2 hp3 hp4 hp5 hp6 hp7 (((held_1.length : Int) - 0).toNat + 1) 0 (Z1Y b_0) (show 0 ≤ 0 from (by omega)) (show (Z1Y b_0).length = b_0.Mesh.Places.length from (by simp; done)) (Nat.lt_succ_self _)) rfl) <| sK [0] sN) rfl (by kernel_rfl) (by kernel_rfl) rfl ?_ ?_
 · rfl
 · simp [Z2x]
def Zn (list_0 : (List GVector)) : Nat → Nat → Int → (Nat) ⊕ (Nat)
  | 0, _, _ => .inl default
  | k + 1, out_l0, x_l1 => (cond (decide (x_l1 < (list_0.length : Int)))
    (cond (fcmp .gtr .f32 (Zg (list_0.getD x_l1.toNat default)) out_l0)
      (cond (fcmp .neq .f32 (Zg (list_0.getD x_l1.toNat default)) (Zg (list_0.getD x_l1.toNat default)))
        (.inl (Zg (list_0.getD x_l1.toNat default)))
        (Zn list_0 k (Zg (list_0.getD x_l1.toNat default)) (x_l1 + 1)))
      (cond (fcmp .neq .f32 (Zg (list_0.getD x_l1.toNat default)) (Zg (list_0.getD x_l1.toNat default)))
        (.inl (Zg (list_0.getD x_l1.toNat default)))
        (cond (fcmp .neq .f32 out_l0 out_l0)
          (.inl out_l0)
          (Zn list_0 k out_l0 (x_l1 + 1)))))
    (.inr out_l0))
def Z3y (list_0 : (List GVector)) : (Nat) ⊕ (Nat) → Ex × St
  | .inl r => (.ret, ⟨.any :: .any :: .f .f32 r :: an 28 [], []⟩)
  | .inr r => ((.exit 0), ⟨.sl (list_0.map GVector.cells) :: .any :: .any :: .f .f32 r :: .any :: .any :: .sl (list_0.map GVector.cells) :: an 24 [], []⟩)
def Z7i (list_0 : (List GVector)) (out_l0 : Nat) (x_l1 : Int) : St := ⟨.sl (list_0.map GVector.cells) :: .any :: .any :: .f .f32 out_l0 :: .any :: .any :: .sl (list_0.map GVector.cells) :: .i .i64 (list_0.length : Int) :: .i .i64 x_l1 :: an 22 [], []⟩
theorem Z5G (list_0 : (List GVector)) (hp0 : list_0.length ≤ 1073741824) : ∀ (k : Nat) (out_l0 : Nat) (x_l1 : Int) (Z4V : 0 ≤ x_l1) (hk : ((list_0.length : Int) - x_l1).toNat < k), Lp prog 0 (sub (bodyOf f64) [1, 1, 0, 1, 0, 0]) (Z7i list_0 out_l0 x_l1) (Z3y list_0 (Zn list_0 k out_l0 x_l1)).1 (Z3y list_0 (Zn list_0 k out_l0 x_l1)).2 := by
 intro k
 induction k with
 | zero => intro out_l0 x_l1 Z4V hk; exact absurd hk (Nat.not_lt_zero _)
 | succ k ih =>
  intro out_l0 x_l1 Z4V hk
  cases h_0 : (decide (x_l1 < (list_0.length : Int))) with
  | true =>
   have gh_0 := of_decide_eq_true h_0
   have y_0 : (0 : Int) ≤ x_l1 := (by assumption)
   have y_1 : x_l1 < (list_0.length : Int) := (by assumption)
   have p {a C} (s : Scr a C) := sB h_0 <| sG GVector.cells list_0 x_l1 y_0 y_1 <| sF (Z6h (list_0.getD x_l1.toNat default)) <| s
   cases h_1 : (fcmp .gtr .f32 (Zg (list_0.getD x_l1.toNat default)) out_l0) with
   | true =>
    have q {a C} (s : Scr a C) := p (sB h_1 <| sB h_1 <| sB h_1 <| sB h_1 <| sB (show true = true from rfl) <| s)
    clear p
    cases h_2 : (fcmp .neq .f32 (Zg (list_0.getD x_l1.toNat default)) (Zg (list_0.getD x_l1.toNat default))) with
    | true =>
     have e : Zn list_0 (k + 1) out_l0 x_l1 = (.inl (Zg (list_0.getD x_l1.toNat default))) := by simp only [Zn, h_0, h_1, h_2, cond_true]
     rw [e]
     exact outR (e := .ret) E0Ok Z3 [] (mR false [2, 1, 28]) [] (q (sB h_2 <| sN)) (by kernel_rfl) (by intro h; cases h)
    | false =>
     have y_2 : (-9223372036854775808 : Int) ≤ (x_l1 + 1) := by clear q; exact (by omega)
     have y_3 : (x_l1 + 1) ≤ (9223372036854775807 : Int) := by clear q; exact (by omega)
     have e : Zn list_0 (k + 1) out_l0 x_l1 = (Zn list_0 k (Zg (list_0.getD x_l1.toNat default)) (x_l1 + 1)) := by simp only [Zn, h_0, h_1, h_2, cond_true, cond_false]
     rw [e]
     exact nextR E0Ok Z3 [] (mR false [0, 1, 2, 1, 2, 3, 22]) [] (ih (Zg (list_0.getD x_l1.toNat default)) (x_l1 + 1) (show 0 ≤ (x_l1 + 1) from (by omega)) (by omega)) (q (sB h_2 <| sI (x_l1 + 1) y_2 y_3 <| sN)) (by kernel_rfl)
   | false =>
    have q {a C} (s : Scr a C) := p (sB h_1 <| sB h_1 <| sB h_1 <| sB h_1 <| s)
    clear p
    cases h_2 : (fcmp .neq .f32 (Zg (list_0.getD x_l1.toNat default)) (Zg (list_0.getD x_l1.toNat default))) with
    | true =>
     have e : Zn list_0 (k + 1) out_l0 x_l1 = (.inl (Zg (list_0.getD x_l1.toNat default))) := by simp only [Zn, h_0, h_1, h_2, cond_true, cond_false]
     rw [e]
     exact outR (e := .ret) E0Ok Z3 [] (mR false [2, 1, 28]) [] (q (sB h_2 <| sB h_2 <| sN)) (by kernel_rfl) (by intro h; cases h)
    | false =>
     have p {a C} (s : Scr a C) := q (sB h_2 <| s)
     clear q
     cases h_3 : (fcmp .neq .f32 out_l0 out_l0) with
     | true =>
      have e : Zn list_0 (k + 1) out_l0 x_l1 = (.inl out_l0) := by simp only [Zn, h_0, h_1, h_2, h_3, cond_true, cond_false]
      rw [e]
      exact outR (e := .ret) E0Ok Z3 [] (mR false [2, 1, 28]) [] (p (sB h_3 <| sN)) (by kernel_rfl) (by intro h; cases h)
     | false =>
      have y_2 : (-9223372036854775808 : Int) ≤ (x_l1 + 1) := by clear p; exact (by omega)
      have y_3 : (x_l1 + 1) ≤ (9223372036854775807 : Int) := by clear p; exact (by omega)
      have e : Zn list_0 (k + 1) out_l0 x_l1 = (Zn list_0 k out_l0 (x_l1 + 1)) := by simp only [Zn, h_0, h_1, h_2, h_3, cond_true, cond_false]
      rw [e]
      exact nextR E0Ok Z3 [] (mR false [0, 1, 2, 1, 2, 3, 22]) [] (ih out_l0 (x_l1 + 1) (show 0 ≤ (x_l1 + 1) from (by omega)) (by omega)) (p (sB h_3 <| sI (x_l1 + 1) y_2 y_3 <| sN)) (by kernel_rfl)
  | false =>
   have gh_0 := of_decide_eq_false h_0
   have e : Zn list_0 (k + 1) out_l0 x_l1 = (.inr out_l0) := by simp only [Zn, h_0, cond_false]
   rw [e]
   exact outR (e := (.exit 0)) E0Ok Z3 [] (mR false [0, 1, 2, 1, 2, 1, 24]) [] (sB h_0 <| sN) (by kernel_rfl) (by intro h; cases h)
def Z2P (list_0 : (List GVector)) : (Nat) ⊕ (Nat) := (Zn list_0 (((list_0.length : Int) - 0).toNat + 1) 0 0)
def Z2M (list_0 : (List GVector)) : Nat := (match (Z2P list_0) with
  | .inl r1 => r1
  | .inr r1 => r1)
theorem Z8B (list_0 : (List GVector)) (hp0 : list_0.length ≤ 1073741824)  : Fn prog 64 [.sl (list_0.map GVector.cells)] (.f .f32 (Z2M list_0)) [] := by
 have p {a C} (s : Scr a C) := sZ GVector.cells list_0 <| s
 cases h0 : (Z2P list_0) with
 | inl r1 =>
  refine fnS E0Ok Z3 (c := bodyOf f64) [] (.f .f32 r1) [] func64 (p (sL (mR false [0, 1, 2, 1, 2, 3, 22]) 0 (lp_val (Z3y list_0) (x := (Z2P list_0)) (Z5G list_0 hp0 (((list_0.length : Int) - 0).toNat + 1) 0 0 (show 0 ≤ 0 from (by omega)) (Nat.lt_succ_self _)) h0) <| sK [] sN)) rfl (by kernel_rfl) (by kernel_rfl) rfl ?_ ?_
  · simp only [Z2M, h0]
  · rfl
 | inr r1 =>
  refine fnS E0Ok Z3 (c := bodyOf f64) [] (.f .f32 r1) [] func64 (p (sL (mR false [0, 1, 2, 1, 2, 3, 22]) 0 (lp_val (Z3y list_0) (x := (Z2P list_0)) (Z5G list_0 hp0 (((list_0.length : Int) - 0).toNat + 1) 0 0 (show 0 ≤ 0 from (by omega)) (Nat.lt_succ_self _)) h0) <| sK [] sN)) rfl (by kernel_rfl) (by kernel_rfl) rfl ?_ ?_
  · simp only [Z2M, h0]
  · rfl
def Z26 (b_0 : GBody) (held_1 : (List Int)) : Nat × Bool := (cond (Z17 b_0)
  (cond (Z2J b_0 held_1)
    ((Z2M (Z2x b_0 held_1)), true)
    (0, false))
  (0, false))
theorem Z9W (b_0 : GBody) (held_1 : (List Int)) (hp0 : b_0.Mesh.Places.length ≤ 1073741824) (hp1 : b_0.Mesh.Triangles.length ≤ 1073741824) (hp2 : ∀ t ∈ b_0.Mesh.Triangles, t.length ≤ 1073741824) (hp3 : b_0.Springs.length ≤ 1073741824) (hp4 : b_0.Weights.length ≤ 1073741824) (hp5 : held_1.length ≤ 1073741824)  : Fn prog 20 [.agg [.sl (b_0.Mesh.Places.map GVector.cells), .sl (b_0.Mesh.Triangles.map (cL (cI .i64))), .sl (b_0.Springs.map GSpring.cells), .f .f32 b_0.Film, .f .f32 b_0.Bend, .sl (b_0.Weights.map (cF .f32)), .f .f32 b_0.Fall.X, .f .f32 b_0.Fall.Y, .f .f32 b_0.Fall.Z], .sl (held_1.map (cI .i64))] (.tup [.f .f32 ((Z26 b_0 held_1).1), .b ((Z26 b_0 held_1).2)]) [] := by
 have p {a C} (s : Scr a C) := sF (Zaf b_0 hp0 hp1 hp2 hp3 hp4) <| s
 cases h0 : (Z17 b_0) with
 | true =>
  have q {a C} (s : Scr a C) := p (sB' h0 <| sB' h0 <| sF (Z9v b_0 held_1 hp0 hp1 hp2 hp3 hp4 hp5) <| sB' h0 <| sB' h0 <| s)
  clear p
  cases h1 : (Z2J b_0 held_1) with
  | true =>
   have y0 : OkBd b_0 := by clear q; exact (by exact Z9u _ (by assumption))
   have y1 : OkIx b_0.Mesh.Places.length (fun x => x) held_1 := by clear q; exact (by exact ZaC _ _ (by assumption) (by assumption))
   have y2 : (Z2x b_0 held_1).length ≤ 1073741824 := by clear q; exact (by simp only [Z5F]; omega)
   refine fnS E0Ok Z3 (c := bodyOf f20) [] (.tup [.f .f32 (Z2M (Z2x b_0 held_1)), .b true]) [] func20 (q (sB' h1 <| sF (Z9y b_0 held_1 hp0 hp1 hp2 hp3 hp4 hp5 y0 y1) <| sF (Z8B (Z2x b_0 held_1) y2) <| sK [] sN)) rfl (by kernel_rfl) (by kernel_rfl) rfl ?_ ?_
   · simp only [Z26, h0, h1, cond_true]
   · rfl
  | false =>
   refine fnS E0Ok Z3 (c := bodyOf f20) [] (.tup [.f .f32 0, .b false]) [] func20 (q (sB' h1 <| sK [] sN)) rfl (by kernel_rfl) (by kernel_rfl) rfl ?_ ?_
   · simp only [Z26, h0, h1, cond_true, cond_false]
   · rfl
 | false =>
  refine fnS E0Ok Z3 (c := bodyOf f20) [] (.tup [.f .f32 0, .b false]) [] func20 (p (sB' h0 <| sB' h0 <| sB' h0 <| sB' h0 <| sB (show true = true from rfl) <| sK [] sN)) rfl (by kernel_rfl) (by kernel_rfl) rfl ?_ ?_
  · simp only [Z26, h0, cond_false]
  · rfl
def ZU (n_0 : Int) (low_1 : Int) (high_2 : Int) : Bool := (cond (decide (n_0 ≥ low_1))
  (decide (n_0 ≤ high_2))
  false)
theorem Z50 (n_0 : Int) (low_1 : Int) (high_2 : Int)   : Fn prog 83 [.i .i64 n_0, .i .i64 low_1, .i .i64 high_2] (.b (ZU n_0 low_1 high_2)) [] := by
 cases h0 : (decide (n_0 ≥ low_1)) with
 | true =>
  have gh0 := of_decide_eq_true h0
  refine fnS E0Ok Z3 (c := bodyOf f83) [] (.b (decide (n_0 ≤ high_2))) [] func83 (sB h0 <| sB h0 <| sB h0 <| sB h0 <| sK [] sN) rfl (by kernel_rfl) (by kernel_rfl) rfl ?_ ?_
  · simp only [ZU, h0, cond_true]
  · rfl
 | false =>
  have gh0 := of_decide_eq_false h0
  refine fnS E0Ok Z3 (c := bodyOf f83) [] (.b false) [] func83 (sB h0 <| sB h0 <| sB h0 <| sB h0 <| sK [] sN) rfl (by kernel_rfl) (by kernel_rfl) rfl ?_ ?_
  · simp only [ZU, h0, cond_false]
  · rfl
def Z1m (m_0 : GMesh) (x_l0 : Int) : Nat → Int → (Unit) ⊕ (Unit)
  | 0, _ => .inl default
  | k + 1, x_l0_1 => (cond (decide (x_l0_1 < ((m_0.Triangles.getD x_l0.toNat default).length : Int)))
    (cond (ZU ((m_0.Triangles.getD x_l0.toNat default).getD x_l0_1.toNat default) 0 (IntKind.wrap .i64 ((m_0.Places.length : Int) - 1)))
      (Z1m m_0 x_l0 k (x_l0_1 + 1))
      (.inl ()))
    (.inr ()))
def Z3I (m_0 : GMesh) (x_l0 : Int) : (Unit) ⊕ (Unit) → Ex × St
  | .inl r => (.ret, ⟨.any :: .any :: .b false :: an 66 [], []⟩)
  | .inr r => ((.exit 2), ⟨.agg [.sl (m_0.Places.map GVector.cells), .sl (m_0.Triangles.map (cL (cI .i64)))] :: .ptr 0 0 0 :: .any :: .i .i64 (m_0.Places.length : Int) :: .any :: .sl ((m_0.Triangles.getD x_l0.toNat default).map (cI .i64)) :: .any :: .any :: .ptr 0 0 0 :: .sl (m_0.Places.map GVector.cells) :: .i .i64 (m_0.Places.length : Int) :: .i .i64 (m_0.Places.length : Int) :: .b (decide ((m_0.Places.length : Int) > 64)) :: .b (decide ((m_0.Places.length : Int) > 64)) :: .ptr 0 0 1 :: .sl (m_0.Triangles.map (cL (cI .i64))) :: .i .i64 (m_0.Triangles.length : Int) :: .b (decide ((m_0.Triangles.length : Int) > 128)) :: .b (decide ((m_0.Triangles.length : Int) > 128)) :: .ptr 0 0 1 :: .sl (m_0.Triangles.map (cL (cI .i64))) :: .i .i64 (m_0.Triangles.length : Int) :: .i .i64 x_l0 :: .b (decide (x_l0 < (m_0.Triangles.length : Int))) :: .ref [.sl ((m_0.Triangles.getD x_l0.toNat default).map (cI .i64))] 0 :: .sl ((m_0.Triangles.getD x_l0.toNat default).map (cI .i64)) :: .sl ((m_0.Triangles.getD x_l0.toNat default).map (cI .i64)) :: .i .i64 ((m_0.Triangles.getD x_l0.toNat default).length : Int) :: .b (((m_0.Triangles.getD x_l0.toNat default).length : Int) != 3) :: .b (((m_0.Triangles.getD x_l0.toNat default).length : Int) != 3) :: .sl ((m_0.Triangles.getD x_l0.toNat default).map (cI .i64)) :: .ref [.i .i64 ((m_0.Triangles.getD x_l0.toNat default).getD 0 default)] 0 :: .i .i64 ((m_0.Triangles.getD x_l0.toNat default).getD 0 default) :: .sl ((m_0.Triangles.getD x_l0.toNat default).map (cI .i64)) :: .ref [.i .i64 ((m_0.Triangles.getD x_l0.toNat default).getD 1 default)] 0 :: .i .i64 ((m_0.Triangles.getD x_l0.toNat default).getD 1 default) :: .b (((m_0.Triangles.getD x_l0.toNat default).getD 0 default) == ((m_0.Triangles.getD x_l0.toNat default).getD 1 default)) :: .b (((m_0.Triangles.getD x_l0.toNat default).getD 0 default) == ((m_0.Triangles.getD x_l0.toNat default).getD 1 default)) :: .b (((m_0.Triangles.getD x_l0.toNat default).getD 0 default) == ((m_0.Triangles.getD x_l0.toNat default).getD 1 default)) :: .sl ((m_0.Triangles.getD x_l0.toNat default).map (cI .i64)) :: .ref [.i .i64 ((m_0.Triangles.getD x_l0.toNat default).getD 1 default)] 0 :: .i .i64 ((m_0.Triangles.getD x_l0.toNat default).getD 1 default) :: .sl ((m_0.Triangles.getD x_l0.toNat default).map (cI .i64)) :: .ref [.i .i64 ((m_0.Triangles.getD x_l0.toNat default).getD 2 default)] 0 :: .i .i64 ((m_0.Triangles.getD x_l0.toNat default).getD 2 default) :: .b (((m_0.Triangles.getD x_l0.toNat default).getD 1 default) == ((m_0.Triangles.getD x_l0.toNat default).getD 2 default)) :: .b (((m_0.Triangles.getD x_l0.toNat default).getD 1 default) == ((m_0.Triangles.getD x_l0.toNat default).getD 2 default)) :: .b (((m_0.Triangles.getD x_l0.toNat default).getD 1 default) == ((m_0.Triangles.getD x_l0.toNat default).getD 2 default)) :: .sl ((m_0.Triangles.getD x_l0.toNat default).map (cI .i64)) :: .ref [.i .i64 ((m_0.Triangles.getD x_l0.toNat default).getD 0 default)] 0 :: .i .i64 ((m_0.Triangles.getD x_l0.toNat default).getD 0 default) :: .sl ((m_0.Triangles.getD x_l0.toNat default).map (cI .i64)) :: .ref [.i .i64 ((m_0.Triangles.getD x_l0.toNat default).getD 2 default)] 0 :: .i .i64 ((m_0.Triangles.getD x_l0.toNat default).getD 2 default) :: .b (((m_0.Triangles.getD x_l0.toNat default).getD 0 default) == ((m_0.Triangles.getD x_l0.toNat default).getD 2 default)) :: .b (((m_0.Triangles.getD x_l0.toNat default).getD 0 default) == ((m_0.Triangles.getD x_l0.toNat default).getD 2 default)) :: .sl ((m_0.Triangles.getD x_l0.toNat default).map (cI .i64)) :: .i .i64 ((m_0.Triangles.getD x_l0.toNat default).length : Int) :: an 11 [], [.box 38 [.sl (m_0.Places.map GVector.cells), .sl (m_0.Triangles.map (cL (cI .i64)))]]⟩)
def Z7R (m_0 : GMesh) (x_l0 : Int) (x_l0_1 : Int) : St := ⟨.agg [.sl (m_0.Places.map GVector.cells), .sl (m_0.Triangles.map (cL (cI .i64)))] :: .ptr 0 0 0 :: .any :: .i .i64 (m_0.Places.length : Int) :: .any :: .sl ((m_0.Triangles.getD x_l0.toNat default).map (cI .i64)) :: .any :: .any :: .ptr 0 0 0 :: .sl (m_0.Places.map GVector.cells) :: .i .i64 (m_0.Places.length : Int) :: .i .i64 (m_0.Places.length : Int) :: .b (decide ((m_0.Places.length : Int) > 64)) :: .b (decide ((m_0.Places.length : Int) > 64)) :: .ptr 0 0 1 :: .sl (m_0.Triangles.map (cL (cI .i64))) :: .i .i64 (m_0.Triangles.length : Int) :: .b (decide ((m_0.Triangles.length : Int) > 128)) :: .b (decide ((m_0.Triangles.length : Int) > 128)) :: .ptr 0 0 1 :: .sl (m_0.Triangles.map (cL (cI .i64))) :: .i .i64 (m_0.Triangles.length : Int) :: .i .i64 x_l0 :: .b (decide (x_l0 < (m_0.Triangles.length : Int))) :: .ref [.sl ((m_0.Triangles.getD x_l0.toNat default).map (cI .i64))] 0 :: .sl ((m_0.Triangles.getD x_l0.toNat default).map (cI .i64)) :: .sl ((m_0.Triangles.getD x_l0.toNat default).map (cI .i64)) :: .i .i64 ((m_0.Triangles.getD x_l0.toNat default).length : Int) :: .b (((m_0.Triangles.getD x_l0.toNat default).length : Int) != 3) :: .b (((m_0.Triangles.getD x_l0.toNat default).length : Int) != 3) :: .sl ((m_0.Triangles.getD x_l0.toNat default).map (cI .i64)) :: .ref [.i .i64 ((m_0.Triangles.getD x_l0.toNat default).getD 0 default)] 0 :: .i .i64 ((m_0.Triangles.getD x_l0.toNat default).getD 0 default) :: .sl ((m_0.Triangles.getD x_l0.toNat default).map (cI .i64)) :: .ref [.i .i64 ((m_0.Triangles.getD x_l0.toNat default).getD 1 default)] 0 :: .i .i64 ((m_0.Triangles.getD x_l0.toNat default).getD 1 default) :: .b (((m_0.Triangles.getD x_l0.toNat default).getD 0 default) == ((m_0.Triangles.getD x_l0.toNat default).getD 1 default)) :: .b (((m_0.Triangles.getD x_l0.toNat default).getD 0 default) == ((m_0.Triangles.getD x_l0.toNat default).getD 1 default)) :: .b (((m_0.Triangles.getD x_l0.toNat default).getD 0 default) == ((m_0.Triangles.getD x_l0.toNat default).getD 1 default)) :: .sl ((m_0.Triangles.getD x_l0.toNat default).map (cI .i64)) :: .ref [.i .i64 ((m_0.Triangles.getD x_l0.toNat default).getD 1 default)] 0 :: .i .i64 ((m_0.Triangles.getD x_l0.toNat default).getD 1 default) :: .sl ((m_0.Triangles.getD x_l0.toNat default).map (cI .i64)) :: .ref [.i .i64 ((m_0.Triangles.getD x_l0.toNat default).getD 2 default)] 0 :: .i .i64 ((m_0.Triangles.getD x_l0.toNat default).getD 2 default) :: .b (((m_0.Triangles.getD x_l0.toNat default).getD 1 default) == ((m_0.Triangles.getD x_l0.toNat default).getD 2 default)) :: .b (((m_0.Triangles.getD x_l0.toNat default).getD 1 default) == ((m_0.Triangles.getD x_l0.toNat default).getD 2 default)) :: .b (((m_0.Triangles.getD x_l0.toNat default).getD 1 default) == ((m_0.Triangles.getD x_l0.toNat default).getD 2 default)) :: .sl ((m_0.Triangles.getD x_l0.toNat default).map (cI .i64)) :: .ref [.i .i64 ((m_0.Triangles.getD x_l0.toNat default).getD 0 default)] 0 :: .i .i64 ((m_0.Triangles.getD x_l0.toNat default).getD 0 default) :: .sl ((m_0.Triangles.getD x_l0.toNat default).map (cI .i64)) :: .ref [.i .i64 ((m_0.Triangles.getD x_l0.toNat default).getD 2 default)] 0 :: .i .i64 ((m_0.Triangles.getD x_l0.toNat default).getD 2 default) :: .b (((m_0.Triangles.getD x_l0.toNat default).getD 0 default) == ((m_0.Triangles.getD x_l0.toNat default).getD 2 default)) :: .b (((m_0.Triangles.getD x_l0.toNat default).getD 0 default) == ((m_0.Triangles.getD x_l0.toNat default).getD 2 default)) :: .sl ((m_0.Triangles.getD x_l0.toNat default).map (cI .i64)) :: .i .i64 ((m_0.Triangles.getD x_l0.toNat default).length : Int) :: .i .i64 x_l0_1 :: an 10 [], [.box 38 [.sl (m_0.Places.map GVector.cells), .sl (m_0.Triangles.map (cL (cI .i64)))]]⟩
def Z41 : List Bool := (mR false [0, 2, 1, 1, 1, 1, 2, 51, 10])
def Z7a : List Bool := (mR false [0, 2, 1, 1, 1, 1, 2, 50, 11])
theorem Z67 (m_0 : GMesh) (x_l0 : Int) (hp0 : m_0.Places.length ≤ 1073741824) (hp1 : m_0.Triangles.length ≤ 1073741824) (hp2 : ∀ t ∈ m_0.Triangles, t.length ≤ 1073741824) (Z2V : (decide ((m_0.Places.length : Int) > 64)) = false) (Z2W : (decide ((m_0.Triangles.length : Int) > 128)) = false) (Z2X : 0 ≤ x_l0) (ZaE : (((m_0.Triangles.getD x_l0.toNat default).length : Int) != 3) = false) (ZaF : (decide ((m_0.Places.length : Int) > 64)) = false) (ZaG : (decide ((m_0.Triangles.length : Int) > 128)) = false) (ZaH : (decide (x_l0 < (m_0.Triangles.length : Int))) = true) : ∀ (k : Nat) (x_l0_1 : Int) (Z5o : 0 ≤ x_l0_1) (hk : (((m_0.Triangles.getD x_l0.toNat default).length : Int) - x_l0_1).toNat < k), Lp prog 0 (sub (bodyOf f105) [1, 1, 1, 0, 1, 0, 0, 1, 1, 0, 0, 1, 1, 1, 0, 0]) (Z7R m_0 x_l0 x_l0_1) (Z3I m_0 x_l0 (Z1m m_0 x_l0 k x_l0_1)).1 (Z3I m_0 x_l0 (Z1m m_0 x_l0 k x_l0_1)).2 := by
 intro k
 induction k with
 | zero => intro x_l0_1 Z5o hk; exact absurd hk (Nat.not_lt_zero _)
 | succ k ih =>
  intro x_l0_1 Z5o hk
  cases h__0 : (decide (x_l0_1 < ((m_0.Triangles.getD x_l0.toNat default).length : Int))) with
  | true =>
   have gh__0 := of_decide_eq_true h__0
   have y__0 : (0 : Int) ≤ x_l0_1 := (by assumption)
   have y__1 : x_l0_1 < ((m_0.Triangles.getD x_l0.toNat default).length : Int) := (by assumption)
   have p {a C} (s : Scr a C) := sB h__0 <| sG (cI .i64) (m_0.Triangles.getD x_l0.toNat default) x_l0_1 y__0 y__1 <| sW .i64 ((m_0.Places.length : Int) - 1) <| sF (Z50 ((m_0.Triangles.getD x_l0.toNat default).getD x_l0_1.toNat default) 0 (IntKind.wrap .i64 ((m_0.Places.length : Int) - 1))) <| s
   cases h__1 : (ZU ((m_0.Triangles.getD x_l0.toNat default).getD x_l0_1.toNat default) 0 (IntKind.wrap .i64 ((m_0.Places.length : Int) - 1))) with
   | true =>
    have y__2 : (-9223372036854775808 : Int) ≤ (x_l0_1 + 1) := by clear p; exact (by omega)
    have y__3 : (x_l0_1 + 1) ≤ (9223372036854775807 : Int) := by clear p; exact (by simp_all <;> omega)
    have e : Z1m m_0 x_l0 (k + 1) x_l0_1 = (Z1m m_0 x_l0 k (x_l0_1 + 1)) := by simp only [Z1m, h__0, h__1, cond_true]
    rw [e]
    exact nextR E0Ok Z3 [] Z41 [0] (ih (x_l0_1 + 1) (show 0 ≤ (x_l0_1 + 1) from (by omega)) (by omega)) (p (sB' h__1 <| sI (x_l0_1 + 1) y__2 y__3 <| sN)) (by kernel_rfl)
   | false =>
    have e : Z1m m_0 x_l0 (k + 1) x_l0_1 = (.inl ()) := by simp only [Z1m, h__0, h__1, cond_true, cond_false]
    rw [e]
    exact outR (e := .ret) E0Ok Z3 [] (mR false [2, 1, 66]) [] (p (sB' h__1 <| sN)) (by kernel_rfl) (by intro h; cases h)
  | false =>
   have gh__0 := of_decide_eq_false h__0
   have e : Z1m m_0 x_l0 (k + 1) x_l0_1 = (.inr ()) := by simp only [Z1m, h__0, cond_false]
   rw [e]
   exact outR (e := (.exit 2)) E0Ok Z3 [] Z7a [0] (sB h__0 <| sN) (by kernel_rfl) (by intro h; cases h)
def Z2B (m_0 : GMesh) (x_l0 : Int) : (Unit) ⊕ (Unit) := (Z1m m_0 x_l0 ((((m_0.Triangles.getD x_l0.toNat default).length : Int) - 0).toNat + 1) 0)
def Zl (m_0 : GMesh) : Nat → Int → (Unit) ⊕ (Unit)
  | 0, _ => .inl default
  | k + 1, x_l0 => (cond (decide (x_l0 < (m_0.Triangles.length : Int)))
    (cond (((m_0.Triangles.getD x_l0.toNat default).length : Int) != 3)
      (.inl ())
      (cond (((m_0.Triangles.getD x_l0.toNat default).getD 0 default) == ((m_0.Triangles.getD x_l0.toNat default).getD 1 default))
        (.inl ())
        (cond (((m_0.Triangles.getD x_l0.toNat default).getD 1 default) == ((m_0.Triangles.getD x_l0.toNat default).getD 2 default))
          (.inl ())
          (cond (((m_0.Triangles.getD x_l0.toNat default).getD 0 default) == ((m_0.Triangles.getD x_l0.toNat default).getD 2 default))
            (.inl ())
            (match (Z2B m_0 x_l0) with
              | .inl r_6 => (.inl ())
              | .inr r_6 => (Zl m_0 k (x_l0 + 1)))))))
    (.inr ()))
def Z3J (m_0 : GMesh) : (Unit) ⊕ (Unit) → Ex × St
  | .inl r => (.ret, ⟨.any :: .any :: .b false :: an 66 [], []⟩)
  | .inr r => ((.exit 0), ⟨.agg [.sl (m_0.Places.map GVector.cells), .sl (m_0.Triangles.map (cL (cI .i64)))] :: .ptr 0 0 0 :: .any :: .i .i64 (m_0.Places.length : Int) :: an 4 (.ptr 0 0 0 :: .sl (m_0.Places.map GVector.cells) :: .i .i64 (m_0.Places.length : Int) :: .i .i64 (m_0.Places.length : Int) :: .b (decide ((m_0.Places.length : Int) > 64)) :: .b (decide ((m_0.Places.length : Int) > 64)) :: .ptr 0 0 1 :: .sl (m_0.Triangles.map (cL (cI .i64))) :: .i .i64 (m_0.Triangles.length : Int) :: .b (decide ((m_0.Triangles.length : Int) > 128)) :: .b (decide ((m_0.Triangles.length : Int) > 128)) :: .ptr 0 0 1 :: .sl (m_0.Triangles.map (cL (cI .i64))) :: an 48 []), [.box 38 [.sl (m_0.Places.map GVector.cells), .sl (m_0.Triangles.map (cL (cI .i64)))]]⟩)
def Z7S (m_0 : GMesh) (x_l0 : Int) : St := ⟨.agg [.sl (m_0.Places.map GVector.cells), .sl (m_0.Triangles.map (cL (cI .i64)))] :: .ptr 0 0 0 :: .any :: .i .i64 (m_0.Places.length : Int) :: an 4 (.ptr 0 0 0 :: .sl (m_0.Places.map GVector.cells) :: .i .i64 (m_0.Places.length : Int) :: .i .i64 (m_0.Places.length : Int) :: .b (decide ((m_0.Places.length : Int) > 64)) :: .b (decide ((m_0.Places.length : Int) > 64)) :: .ptr 0 0 1 :: .sl (m_0.Triangles.map (cL (cI .i64))) :: .i .i64 (m_0.Triangles.length : Int) :: .b (decide ((m_0.Triangles.length : Int) > 128)) :: .b (decide ((m_0.Triangles.length : Int) > 128)) :: .ptr 0 0 1 :: .sl (m_0.Triangles.map (cL (cI .i64))) :: .i .i64 (m_0.Triangles.length : Int) :: .i .i64 x_l0 :: an 46 []), [.box 38 [.sl (m_0.Places.map GVector.cells), .sl (m_0.Triangles.map (cL (cI .i64)))]]⟩
theorem Z68 (m_0 : GMesh) (hp0 : m_0.Places.length ≤ 1073741824) (hp1 : m_0.Triangles.length ≤ 1073741824) (hp2 : ∀ t ∈ m_0.Triangles, t.length ≤ 1073741824) (Z2V : (decide ((m_0.Places.length : Int) > 64)) = false) (Z2W : (decide ((m_0.Triangles.length : Int) > 128)) = false) : ∀ (k : Nat) (x_l0 : Int) (Z2X : 0 ≤ x_l0) (hk : ((m_0.Triangles.length : Int) - x_l0).toNat < k), Lp prog 0 (sub (bodyOf f105) [1, 1, 1, 0, 1, 0, 0]) (Z7S m_0 x_l0) (Z3J m_0 (Zl m_0 k x_l0)).1 (Z3J m_0 (Zl m_0 k x_l0)).2 := by
 intro k
 induction k with
 | zero => intro x_l0 Z2X hk; exact absurd hk (Nat.not_lt_zero _)
 | succ k ih =>
  intro x_l0 Z2X hk
  cases h_0 : (decide (x_l0 < (m_0.Triangles.length : Int))) with
  | true =>
   have gh_0 := of_decide_eq_true h_0
   have y_0 : (0 : Int) ≤ x_l0 := (by assumption)
   have y_1 : x_l0 < (m_0.Triangles.length : Int) := (by assumption)
   have p {a C} (s : Scr a C) := sB h_0 <| sG (cL (cI .i64)) m_0.Triangles x_l0 y_0 y_1 <| sK [28, 28] <| sZ (cI .i64) (m_0.Triangles.getD x_l0.toNat default) <| s
   cases h_1 : (((m_0.Triangles.getD x_l0.toNat default).length : Int) != 3) with
   | true =>
    have gh_1 := bne_iff_ne.1 h_1
    have e : Zl m_0 (k + 1) x_l0 = (.inl ()) := by simp only [Zl, h_0, h_1, cond_true]
    rw [e]
    exact outR (e := .ret) E0Ok Z3 [] (mR false [2, 1, 66]) [] (p (sB h_1 <| sB h_1 <| sB h_1 <| sB h_1 <| sB h_1 <| sB h_1 <| sB h_1 <| sB h_1 <| sB (show true = true from rfl) <| sB (show true = true from rfl) <| sB (show true = true from rfl) <| sB (show true = true from rfl) <| sB (show true = true from rfl) <| sB (show true = true from rfl) <| sB (show true = true from rfl) <| sB (show true = true from rfl) <| sB (show true = true from rfl) <| sB (show true = true from rfl) <| sB (show true = true from rfl) <| sB (show true = true from rfl) <| sB (show true = true from rfl) <| sB (show true = true from rfl) <| sB (show true = true from rfl) <| sB (show true = true from rfl) <| sB (show true = true from rfl) <| sN)) (by kernel_rfl) (by intro h; cases h)
   | false =>
    have gh_1 := bne_eq_false_iff_eq.1 h_1
    have y_2 : (0 : Int) ≤ 0 := by clear p; exact (by omega)
    have y_3 : 0 < ((m_0.Triangles.getD x_l0.toNat default).length : Int) := by clear p; exact (by omega)
    have y_4 : (0 : Int) ≤ 1 := by clear p; exact (by omega)
    have y_5 : 1 < ((m_0.Triangles.getD x_l0.toNat default).length : Int) := by clear p; exact (by omega)
    have q {a C} (s : Scr a C) := p (sB h_1 <| sB h_1 <| sG (cI .i64) (m_0.Triangles.getD x_l0.toNat default) 0 y_2 y_3 <| sB h_1 <| sB h_1 <| sB h_1 <| sG (cI .i64) (m_0.Triangles.getD x_l0.toNat default) 1 y_4 y_5 <| sB h_1 <| sB h_1 <| sB h_1 <| s)
    clear p
    cases h_2 : (((m_0.Triangles.getD x_l0.toNat default).getD 0 default) == ((m_0.Triangles.getD x_l0.toNat default).getD 1 default)) with
    | true =>
     have gh_2 := eq_of_beq h_2
     have e : Zl m_0 (k + 1) x_l0 = (.inl ()) := by simp only [Zl, h_0, h_1, h_2, cond_true, cond_false]
     rw [e]
     exact outR (e := .ret) E0Ok Z3 [] (mR false [2, 1, 66]) [] (q (sB h_2 <| sB h_2 <| sB h_2 <| sB h_2 <| sB h_2 <| sB h_2 <| sB h_2 <| sB h_2 <| sB (show true = true from rfl) <| sB (show true = true from rfl) <| sB (show true = true from rfl) <| sB (show true = true from rfl) <| sB (show true = true from rfl) <| sB (show true = true from rfl) <| sB (show true = true from rfl) <| sB (show true = true from rfl) <| sB (show true = true from rfl) <| sN)) (by kernel_rfl) (by intro h; cases h)
    | false =>
     have gh_2 := ne_of_beq_false h_2
     have y_6 : (0 : Int) ≤ 2 := by clear q; exact (by omega)
     have y_7 : 2 < ((m_0.Triangles.getD x_l0.toNat default).length : Int) := by clear q; exact (by omega)
     have p {a C} (s : Scr a C) := q (sB h_2 <| sB h_2 <| sG (cI .i64) (m_0.Triangles.getD x_l0.toNat default) 1 y_4 y_5 <| sB h_2 <| sB h_2 <| sB h_2 <| sG (cI .i64) (m_0.Triangles.getD x_l0.toNat default) 2 y_6 y_7 <| sB h_2 <| sB h_2 <| sB h_2 <| s)
     clear q
     cases h_3 : (((m_0.Triangles.getD x_l0.toNat default).getD 1 default) == ((m_0.Triangles.getD x_l0.toNat default).getD 2 default)) with
     | true =>
      have gh_3 := eq_of_beq h_3
      have e : Zl m_0 (k + 1) x_l0 = (.inl ()) := by simp only [Zl, h_0, h_1, h_2, h_3, cond_true, cond_false]
      rw [e]
      exact outR (e := .ret) E0Ok Z3 [] (mR false [2, 1, 66]) [] (p (sB h_3 <| sB h_3 <| sB h_3 <| sB h_3 <| sB h_3 <| sB h_3 <| sB h_3 <| sB h_3 <| sB (show true = true from rfl) <| sN)) (by kernel_rfl) (by intro h; cases h)
     | false =>
      have gh_3 := ne_of_beq_false h_3
      have q {a C} (s : Scr a C) := p (sB h_3 <| sB h_3 <| sG (cI .i64) (m_0.Triangles.getD x_l0.toNat default) 0 y_2 y_3 <| sB h_3 <| sB h_3 <| sB h_3 <| sG (cI .i64) (m_0.Triangles.getD x_l0.toNat default) 2 y_6 y_7 <| sB h_3 <| sB h_3 <| sB h_3 <| s)
      clear p
      cases h_4 : (((m_0.Triangles.getD x_l0.toNat default).getD 0 default) == ((m_0.Triangles.getD x_l0.toNat default).getD 2 default)) with
      | true =>
       have gh_4 := eq_of_beq h_4
       have e : Zl m_0 (k + 1) x_l0 = (.inl ()) := by simp only [Zl, h_0, h_1, h_2, h_3, h_4, cond_true, cond_false]
       rw [e]
       exact outR (e := .ret) E0Ok Z3 [] (mR false [2, 1, 66]) [] (q (sB h_4 <| sN)) (by kernel_rfl) (by intro h; cases h)
      | false =>
       have gh_4 := ne_of_beq_false h_4
       have p {a C} (s : Scr a C) := q (sB h_4 <| sZ (cI .i64) (m_0.Triangles.getD x_l0.toNat default) <| s)
       clear q
       cases h_5 : (Z2B m_0 x_l0) with
       | inl r_6 =>
        have e : Zl m_0 (k + 1) x_l0 = (.inl ()) := by simp only [Zl, h_0, h_1, h_2, h_3, h_4, h_5, cond_true, cond_false]
        rw [e]
        exact outR (e := .ret) E0Ok Z3 [] (mR false [2, 1, 66]) [] (p (sL Z41 1 (lp_val (Z3I m_0 x_l0) (x := (Z2B m_0 x_l0)) (Z67 m_0 x_l0 hp0 hp1 hp2 Z2V Z2W Z2X h_1 Z2V Z2W h_0 ((((m_0.Triangles.getD x_l0.toNat default).length : Int) - 0).toNat + 1) 0 (show 0 ≤ 0 from (by assumption)) (Nat.lt_succ_self _)) h_5) <| sN)) (by kernel_rfl) (by intro h; cases h)
       | inr r_6 =>
        have y_8 : (-9223372036854775808 : Int) ≤ (x_l0 + 1) := by clear p; exact (by omega)
        have y_9 : (x_l0 + 1) ≤ (9223372036854775807 : Int) := by clear p; exact (by omega)
        have e : Zl m_0 (k + 1) x_l0 = (Zl m_0 k (x_l0 + 1)) := by simp only [Zl, h_0, h_1, h_2, h_3, h_4, h_5, cond_true, cond_false]
        rw [e]
        exact nextR E0Ok Z3 [] (mR false [0, 2, 1, 1, 4, 15, 46]) [0] (ih (x_l0 + 1) (show 0 ≤ (x_l0 + 1) from (by omega)) (by omega)) (p (sL Z41 1 (lp_val (Z3I m_0 x_l0) (x := (Z2B m_0 x_l0)) (Z67 m_0 x_l0 hp0 hp1 hp2 Z2V Z2W Z2X h_1 Z2V Z2W h_0 ((((m_0.Triangles.getD x_l0.toNat default).length : Int) - 0).toNat + 1) 0 (show 0 ≤ 0 from (by assumption)) (Nat.lt_succ_self _)) h_5) <| sI (x_l0 + 1) y_8 y_9 <| sN)) (by kernel_rfl)
  | false =>
   have gh_0 := of_decide_eq_false h_0
   have e : Zl m_0 (k + 1) x_l0 = (.inr ()) := by simp only [Zl, h_0, cond_false]
   rw [e]
   exact outR (e := (.exit 0)) E0Ok Z3 [] (mR false [0, 2, 1, 1, 4, 13, 48]) [0] (sB h_0 <| sN) (by kernel_rfl) (by intro h; cases h)
end Go.Ab
