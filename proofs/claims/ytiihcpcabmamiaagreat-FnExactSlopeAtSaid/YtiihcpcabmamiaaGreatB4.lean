/- The functions of this seat as plain Lean, and that the program's are these. Printed by a program of the prover's own. -/
import Derived.Test.YtiihcpcabmamiaaGreatB3
set_option linter.unusedVariables false
set_option linter.unusedSimpArgs false
set_option maxRecDepth 100000
namespace Go.Ab
open Go.RowKit Go.Proofs.Tryz

theorem lp_spec_l03Parts_1 (arr_0 : GBody) (hp0 : arr_0.Mesh.Places.length ≤ 1073741824) (hp1 : arr_0.Mesh.Triangles.length ≤ 1073741824) (hp2 : ∀ t ∈ arr_0.Mesh.Triangles, t.length ≤ 1073741824) (hp3 : arr_0.Springs.length ≤ 1073741824) (hp4 : arr_0.Weights.length ≤ 1073741824) (hp5 : OkBd arr_0) : ∀ (k : Nat) (x_l0 : Int) (r0_l1 : (List Nat)) (hv_spec_l03Parts_1_0 : 0 ≤ x_l0) (hv_spec_l03Parts_1_1 : r0_l1.length = 4) (hk : ((arr_0.Springs.length : Int) - x_l0).toNat < k), Lp prog 0 (sub (bodyOf f63) [1, 1, 1, 0, 1, 0, 0]) (hd_spec_l03Parts_1 arr_0 x_l0 r0_l1) (ls_spec_l03Parts_1 arr_0 (lo_spec_l03Parts_1 arr_0 k x_l0 r0_l1)).1 (ls_spec_l03Parts_1 arr_0 (lo_spec_l03Parts_1 arr_0 k x_l0 r0_l1)).2 := by
 intro k
 induction k with
 | zero => intro x_l0 r0_l1 hv_spec_l03Parts_1_0 hv_spec_l03Parts_1_1 hk; exact absurd hk (Nat.not_lt_zero _)
 | succ k ih =>
  intro x_l0 r0_l1 hv_spec_l03Parts_1_0 hv_spec_l03Parts_1_1 hk
  cases h_0 : (decide (x_l0 < (arr_0.Springs.length : Int))) with
  | true =>
   have gh_0 := of_decide_eq_true h_0
   have y_0 : (0 : Int) ≤ x_l0 := (by first | assumption | omega)
   have y_1 : x_l0 < (arr_0.Springs.length : Int) := (by first | assumption | omega)
   have y_2 : (0 : Int) ≤ ((arr_0.Springs.getD x_l0.toNat default).B) := (by first | assumption | omega | (have q := hp5.w; first | omega | (have q := okBd_spr hp5 (by assumption) h_0; omega) | (have q := l03Hinges_len _ hp5.e; omega) | (simp; done)) | (simp_all <;> omega))
   have y_3 : ((arr_0.Springs.getD x_l0.toNat default).B) < (arr_0.Mesh.Places.length : Int) := (by first | assumption | omega | (have q := hp5.w; first | omega | (have q := okBd_spr hp5 (by assumption) h_0; omega) | (have q := l03Hinges_len _ hp5.e; omega) | (simp; done)) | (simp_all <;> omega))
   have y_4 : (0 : Int) ≤ ((arr_0.Springs.getD x_l0.toNat default).A) := (by first | assumption | omega | (have q := hp5.w; first | omega | (have q := okBd_spr hp5 (by assumption) h_0; omega) | (have q := l03Hinges_len _ hp5.e; omega) | (simp; done)) | (simp_all <;> omega))
   have y_5 : ((arr_0.Springs.getD x_l0.toNat default).A) < (arr_0.Mesh.Places.length : Int) := (by first | assumption | omega | (have q := hp5.w; first | omega | (have q := okBd_spr hp5 (by assumption) h_0; omega) | (have q := l03Hinges_len _ hp5.e; omega) | (simp; done)) | (simp_all <;> omega))
   have y_6 : (0 : Int) ≤ 0 := (by first | assumption | omega)
   have y_7 : 0 < (r0_l1.length : Int) := (by first | assumption | omega)
   have y_8 : 0 < r0_l1.length := (by first | assumption | omega)
   have y_9 : (-9223372036854775808 : Int) ≤ (x_l0 + 1) := (by first | assumption | omega)
   have y_10 : (x_l0 + 1) ≤ (9223372036854775807 : Int) := (by first | assumption | omega)
   have e : lo_spec_l03Parts_1 arr_0 (k + 1) x_l0 r0_l1 = (lo_spec_l03Parts_1 arr_0 k (x_l0 + 1) (r0_l1.set 0 (nd_spec_l03Parts_2 arr_0 x_l0 r0_l1))) := by simp only [lo_spec_l03Parts_1, h_0, cond_true]
   rw [e]
   exact nextS E0Ok hMixed [] mk_spec_l03Parts_1_0 [0] (⟨[.ref (GBody.cells arr_0) 0, .any, .nils, .own 0, .ref (GBody.cells arr_0) 0, .any, .any, .any, .any, .any, .any, .any, .any, .own 0, .ref (GBody.cells arr_0) 0, .ref (GBody.cells arr_0) 0, .ref (GBody.cells arr_0) 0, .ref (GBody.cells arr_0) 0, .ref (GBody.cells arr_0) 0, .ref (GBody.cells arr_0) 2, .sl (arr_0.Springs.map GSpring.cells), .i .i64 (arr_0.Springs.length : Int), .i .i64 (x_l0 + 1), .any, .any, .any, .any, .any, .any, .any, .any, .any, .any, .any, .any, .any, .any, .any, .any, .any, .any, .any, .any, .any, .any, .any, .any, .any, .any, .any, .any, .any, .any, .any, .any, .any, .any, .any, .any, .any, .any, .any, .any, .any, .any, .any, .any, .any, .any, .any, .any, .any, .any, .any, .any, .any, .any, .any, .any, .any, .any, .any, .any, .any, .any, .any, .any, .any, .any, .any, .any, .any, .any, .any, .any, .any, .any, .any, .any, .any, .any, .any, .any, .any, .any, .any, .any, .any, .any, .any, .any, .any, .any, .any, .any, .any, .any, .any, .any, .any, .any, .any, .any, .any, .any, .any, .any, .any, .any, .any, .any, .any, .any, .any, .any, .any, .any, .any, .any, .any, .any, .any, .any, .any, .any, .any, .any, .any, .any, .any, .any, .any, .any, .any, .any, .any, .any, .any, .any, .any], [.vec 27 1 ((r0_l1.map (cF .f32)).set 0 [.f .f32 (nd_spec_l03Parts_2 arr_0 x_l0 r0_l1)]) false]⟩) (sB h_0 <| sG GSpring.cells arr_0.Springs x_l0 y_0 y_1 <| sK [20, 20] <| sG GVector.cells arr_0.Mesh.Places ((arr_0.Springs.getD x_l0.toNat default).B) y_2 y_3 <| sG GVector.cells arr_0.Mesh.Places ((arr_0.Springs.getD x_l0.toNat default).A) y_4 y_5 <| sF (t_spec_l01Less (arr_0.Mesh.Places.getD ((arr_0.Springs.getD x_l0.toNat default).B).toNat default) (arr_0.Mesh.Places.getD ((arr_0.Springs.getD x_l0.toNat default).A).toNat default)) <| sF (t_spec_l01Long (nd_spec_l03Parts_0 arr_0 x_l0)) <| sK [10, 10] <| sX (cF .f32) r0_l1 0 y_6 y_7 <| sV (cF .f32) r0_l1 0 y_8 <| sX (cF .f32) r0_l1 0 y_6 y_7 <| sC (maplt (c := (cF .f32)) (l := r0_l1) y_8) <| sI (x_l0 + 1) y_9 y_10 <| sN) (by kernel_rfl) (show _ = ⟨[.ref (GBody.cells arr_0) 0, .any, .nils, .own 0, .ref (GBody.cells arr_0) 0, .any, .any, .any, .any, .any, .any, .any, .any, .own 0, .ref (GBody.cells arr_0) 0, .ref (GBody.cells arr_0) 0, .ref (GBody.cells arr_0) 0, .ref (GBody.cells arr_0) 0, .ref (GBody.cells arr_0) 0, .ref (GBody.cells arr_0) 2, .sl (arr_0.Springs.map GSpring.cells), .i .i64 (arr_0.Springs.length : Int), .i .i64 (x_l0 + 1), .any, .any, .any, .any, .any, .any, .any, .any, .any, .any, .any, .any, .any, .any, .any, .any, .any, .any, .any, .any, .any, .any, .any, .any, .any, .any, .any, .any, .any, .any, .any, .any, .any, .any, .any, .any, .any, .any, .any, .any, .any, .any, .any, .any, .any, .any, .any, .any, .any, .any, .any, .any, .any, .any, .any, .any, .any, .any, .any, .any, .any, .any, .any, .any, .any, .any, .any, .any, .any, .any, .any, .any, .any, .any, .any, .any, .any, .any, .any, .any, .any, .any, .any, .any, .any, .any, .any, .any, .any, .any, .any, .any, .any, .any, .any, .any, .any, .any, .any, .any, .any, .any, .any, .any, .any, .any, .any, .any, .any, .any, .any, .any, .any, .any, .any, .any, .any, .any, .any, .any, .any, .any, .any, .any, .any, .any, .any, .any, .any, .any, .any, .any, .any, .any, .any, .any, .any], [.vec 27 1 ((r0_l1.set 0 (nd_spec_l03Parts_2 arr_0 x_l0 r0_l1)).map (cF .f32)) false]⟩ from (by simp [List.map_set, cF])) (ih (x_l0 + 1) (r0_l1.set 0 (nd_spec_l03Parts_2 arr_0 x_l0 r0_l1)) (show 0 ≤ (x_l0 + 1) from (by first | assumption | omega)) (show (r0_l1.set 0 (nd_spec_l03Parts_2 arr_0 x_l0 r0_l1)).length = 4 from (by first | assumption | omega | (have q := hp5.w; first | omega | (have q := okBd_spr hp5 (by assumption) h_0; omega) | (have q := l03Hinges_len _ hp5.e; omega) | (simp; done)) | (simp_all <;> omega))) (by first | assumption | omega))
  | false =>
   have gh_0 := of_decide_eq_false h_0
   have e : lo_spec_l03Parts_1 arr_0 (k + 1) x_l0 r0_l1 = r0_l1 := by simp only [lo_spec_l03Parts_1, h_0, cond_false]
   rw [e]
   exact outR (e := (.exit 0)) E0Ok hMixed [] mk_spec_l03Parts_1_1 [0] (sB h_0 <| sN) (by kernel_rfl) (by intro h; cases h)

theorem ln_spec_l03Parts_1_0 (arr_0 : GBody) : ∀ (k : Nat) (x_l0 : Int) (r0_l1 : (List Nat)) (hk : ((arr_0.Springs.length : Int) - x_l0).toNat < k), (lo_spec_l03Parts_1 arr_0 k x_l0 r0_l1).length = r0_l1.length := by
  intro k
  induction k with
  | zero => intro x_l0 r0_l1 hk; exact absurd hk (Nat.not_lt_zero _)
  | succ k ih =>
    intro x_l0 r0_l1 hk
    cases h_0 : (decide (x_l0 < (arr_0.Springs.length : Int))) with
    | true =>
      have e : lo_spec_l03Parts_1 arr_0 (k + 1) x_l0 r0_l1 = (lo_spec_l03Parts_1 arr_0 k (x_l0 + 1) (r0_l1.set 0 (nd_spec_l03Parts_2 arr_0 x_l0 r0_l1))) := by simp only [lo_spec_l03Parts_1, h_0, cond_true]
      rw [e, ih (x_l0 + 1) (r0_l1.set 0 (nd_spec_l03Parts_2 arr_0 x_l0 r0_l1)) (by first | assumption | omega | (have q := hp5.w; first | omega | (have q := okBd_spr hp5 (by assumption) h_0; omega) | (have q := l03Hinges_len _ hp5.e; omega) | (simp; done)) | (simp_all <;> omega))]; simp
    | false =>
      have e : lo_spec_l03Parts_1 arr_0 (k + 1) x_l0 r0_l1 = r0_l1 := by simp only [lo_spec_l03Parts_1, h_0, cond_false]
      first | (rw [e]; done) | (rw [e]; rfl)

def lr_spec_l03Parts_1_0 (arr_0 : GBody) : (List Nat) := (lo_spec_l03Parts_1 arr_0 (((arr_0.Springs.length : Int) - 0).toNat + 1) 0 (List.replicate 4 0))

@[simp] theorem len_lr_spec_l03Parts_1_0_0 (arr_0 : GBody) : (lr_spec_l03Parts_1_0 arr_0).length = ((List.replicate 4 0) : (List Nat)).length := ln_spec_l03Parts_1_0 arr_0 (((arr_0.Springs.length : Int) - 0).toNat + 1) 0 (List.replicate 4 0) (by first | exact Nat.lt_succ_self _ | simp)

def nd_spec_l03Parts_4 (arr_0 : GBody) (x_l0 : Int) (r0_l1 : (List Nat)) : Nat := (fop .add .f32 (r0_l1.getD 1 default) (fop .mul .f32 arr_0.Film (fop .mul .f32 1056964608 (v_spec_l01Long (v_spec_l03Normal arr_0.Mesh (arr_0.Mesh.Triangles.getD x_l0.toNat default))))))

def lo_spec_l03Parts_2 (arr_0 : GBody) : Nat → Int → (List Nat) → (List Nat)
  | 0, _, _ => default
  | k + 1, x_l0, r0_l1 => (cond (decide (x_l0 < (arr_0.Mesh.Triangles.length : Int)))
    (lo_spec_l03Parts_2 arr_0 k (x_l0 + 1) (r0_l1.set 1 (nd_spec_l03Parts_4 arr_0 x_l0 r0_l1)))
    r0_l1)

def ls_spec_l03Parts_2 (arr_0 : GBody) (r : (List Nat)) : Ex × St := ((.exit 2), ⟨[.ref (GBody.cells arr_0) 0, .any, .nils, .own 0, .ref (GBody.cells arr_0) 0, .any, .any, .any, .any, .any, .any, .any, .any, .own 0, .ref (GBody.cells arr_0) 0, .ref (GBody.cells arr_0) 0, .ref (GBody.cells arr_0) 0, .ref (GBody.cells arr_0) 0, .ref (GBody.cells arr_0) 0, .ref (GBody.cells arr_0) 2, .sl (arr_0.Springs.map GSpring.cells), .any, .any, .any, .any, .any, .any, .any, .any, .any, .any, .any, .any, .any, .any, .any, .any, .any, .any, .any, .any, .any, .any, .any, .any, .any, .any, .any, .any, .any, .any, .any, .any, .any, .any, .any, .any, .any, .any, .any, .any, .any, .any, .any, .any, .any, .ref (GBody.cells arr_0) 0, .ref (GBody.cells arr_0) 0, .ref (GBody.cells arr_0) 1, .sl (arr_0.Mesh.Triangles.map (cL (cI .i64))), .any, .any, .any, .any, .any, .any, .any, .any, .any, .any, .any, .any, .any, .any, .any, .any, .any, .any, .any, .any, .any, .any, .any, .any, .any, .any, .any, .any, .any, .any, .any, .any, .any, .any, .any, .any, .any, .any, .any, .any, .any, .any, .any, .any, .any, .any, .any, .any, .any, .any, .any, .any, .any, .any, .any, .any, .any, .any, .any, .any, .any, .any, .any, .any, .any, .any, .any, .any, .any, .any, .any, .any, .any, .any, .any, .any, .any, .any, .any, .any, .any, .any, .any, .any, .any, .any, .any, .any, .any, .any], [.vec 27 1 (r.map (cF .f32)) false]⟩)

def hd_spec_l03Parts_2 (arr_0 : GBody) (x_l0 : Int) (r0_l1 : (List Nat)) : St := ⟨[.ref (GBody.cells arr_0) 0, .any, .nils, .own 0, .ref (GBody.cells arr_0) 0, .any, .any, .any, .any, .any, .any, .any, .any, .own 0, .ref (GBody.cells arr_0) 0, .ref (GBody.cells arr_0) 0, .ref (GBody.cells arr_0) 0, .ref (GBody.cells arr_0) 0, .ref (GBody.cells arr_0) 0, .ref (GBody.cells arr_0) 2, .sl (arr_0.Springs.map GSpring.cells), .any, .any, .any, .any, .any, .any, .any, .any, .any, .any, .any, .any, .any, .any, .any, .any, .any, .any, .any, .any, .any, .any, .any, .any, .any, .any, .any, .any, .any, .any, .any, .any, .any, .any, .any, .any, .any, .any, .any, .any, .any, .any, .any, .any, .any, .ref (GBody.cells arr_0) 0, .ref (GBody.cells arr_0) 0, .ref (GBody.cells arr_0) 1, .sl (arr_0.Mesh.Triangles.map (cL (cI .i64))), .i .i64 (arr_0.Mesh.Triangles.length : Int), .i .i64 x_l0, .any, .any, .any, .any, .any, .any, .any, .any, .any, .any, .any, .any, .any, .any, .any, .any, .any, .any, .any, .any, .any, .any, .any, .any, .any, .any, .any, .any, .any, .any, .any, .any, .any, .any, .any, .any, .any, .any, .any, .any, .any, .any, .any, .any, .any, .any, .any, .any, .any, .any, .any, .any, .any, .any, .any, .any, .any, .any, .any, .any, .any, .any, .any, .any, .any, .any, .any, .any, .any, .any, .any, .any, .any, .any, .any, .any, .any, .any, .any, .any, .any, .any, .any, .any, .any, .any, .any, .any], [.vec 27 1 (r0_l1.map (cF .f32)) false]⟩

def mk_spec_l03Parts_2_0 : List Bool := [true, false, true, true, true, false, false, false, false, false, false, false, false, true, true, true, true, true, true, true, true, false, false, false, false, false, false, false, false, false, false, false, false, false, false, false, false, false, false, false, false, false, false, false, false, false, false, false, false, false, false, false, false, false, false, false, false, false, false, false, false, false, false, false, false, false, true, true, true, true, true, true, false, false, false, false, false, false, false, false, false, false, false, false, false, false, false, false, false, false, false, false, false, false, false, false, false, false, false, false, false, false, false, false, false, false, false, false, false, false, false, false, false, false, false, false, false, false, false, false, false, false, false, false, false, false, false, false, false, false, false, false, false, false, false, false, false, false, false, false, false, false, false, false, false, false, false, false, false, false, false, false, false, false, false, false, false, false, false, false]

def mk_spec_l03Parts_2_1 : List Bool := [true, false, true, true, true, false, false, false, false, false, false, false, false, true, true, true, true, true, true, true, true, false, false, false, false, false, false, false, false, false, false, false, false, false, false, false, false, false, false, false, false, false, false, false, false, false, false, false, false, false, false, false, false, false, false, false, false, false, false, false, false, false, false, false, false, false, true, true, true, true, false, false, false, false, false, false, false, false, false, false, false, false, false, false, false, false, false, false, false, false, false, false, false, false, false, false, false, false, false, false, false, false, false, false, false, false, false, false, false, false, false, false, false, false, false, false, false, false, false, false, false, false, false, false, false, false, false, false, false, false, false, false, false, false, false, false, false, false, false, false, false, false, false, false, false, false, false, false, false, false, false, false, false, false, false, false, false, false, false, false]

theorem lp_spec_l03Parts_2 (arr_0 : GBody) (hp0 : arr_0.Mesh.Places.length ≤ 1073741824) (hp1 : arr_0.Mesh.Triangles.length ≤ 1073741824) (hp2 : ∀ t ∈ arr_0.Mesh.Triangles, t.length ≤ 1073741824) (hp3 : arr_0.Springs.length ≤ 1073741824) (hp4 : arr_0.Weights.length ≤ 1073741824) (hp5 : OkBd arr_0) : ∀ (k : Nat) (x_l0 : Int) (r0_l1 : (List Nat)) (hv_spec_l03Parts_2_0 : 0 ≤ x_l0) (hv_spec_l03Parts_2_1 : r0_l1.length = (lr_spec_l03Parts_1_0 arr_0).length) (hk : ((arr_0.Mesh.Triangles.length : Int) - x_l0).toNat < k), Lp prog 0 (sub (bodyOf f63) [1, 1, 1, 1, 0, 1, 0, 0]) (hd_spec_l03Parts_2 arr_0 x_l0 r0_l1) (ls_spec_l03Parts_2 arr_0 (lo_spec_l03Parts_2 arr_0 k x_l0 r0_l1)).1 (ls_spec_l03Parts_2 arr_0 (lo_spec_l03Parts_2 arr_0 k x_l0 r0_l1)).2 := by
 intro k
 induction k with
 | zero => intro x_l0 r0_l1 hv_spec_l03Parts_2_0 hv_spec_l03Parts_2_1 hk; exact absurd hk (Nat.not_lt_zero _)
 | succ k ih =>
  intro x_l0 r0_l1 hv_spec_l03Parts_2_0 hv_spec_l03Parts_2_1 hk
  cases h_0 : (decide (x_l0 < (arr_0.Mesh.Triangles.length : Int))) with
  | true =>
   have gh_0 := of_decide_eq_true h_0
   have y_0 : (0 : Int) ≤ 1 := (by first | assumption | omega)
   have y_1 : 1 < (r0_l1.length : Int) := (by first | assumption | omega | (have q := hp5.w; first | omega | (have q := okBd_spr hp5 (by assumption) h_0; omega) | (have q := l03Hinges_len _ hp5.e; omega) | (simp; done)) | (simp_all <;> omega))
   have y_2 : 1 < r0_l1.length := (by first | assumption | omega)
   have y_3 : (0 : Int) ≤ x_l0 := (by first | assumption | omega)
   have y_4 : x_l0 < (arr_0.Mesh.Triangles.length : Int) := (by first | assumption | omega)
   have y_5 : (arr_0.Mesh.Triangles.getD x_l0.toNat default).length ≤ 1073741824 := (by first | assumption | omega | exact hp5.e | exact tri3 hp5.e (by assumption) h_0 | exact tri3L hp5.e (by assumption) h_0 | exact hin4 hp5.e (by assumption) h_0 | exact hin4L hp5.e (by assumption) h_0)
   have y_6 : (arr_0.Mesh.Triangles.getD x_l0.toNat default).length = 3 ∧ ∀ x ∈ (arr_0.Mesh.Triangles.getD x_l0.toNat default), 0 ≤ x ∧ x < (arr_0.Mesh.Places.length : Int) := (by first | assumption | omega | exact hp5.e | exact tri3 hp5.e (by assumption) h_0 | exact tri3L hp5.e (by assumption) h_0 | exact hin4 hp5.e (by assumption) h_0 | exact hin4L hp5.e (by assumption) h_0)
   have y_7 : (-9223372036854775808 : Int) ≤ (x_l0 + 1) := (by first | assumption | omega)
   have y_8 : (x_l0 + 1) ≤ (9223372036854775807 : Int) := (by first | assumption | omega)
   have e : lo_spec_l03Parts_2 arr_0 (k + 1) x_l0 r0_l1 = (lo_spec_l03Parts_2 arr_0 k (x_l0 + 1) (r0_l1.set 1 (nd_spec_l03Parts_4 arr_0 x_l0 r0_l1))) := by simp only [lo_spec_l03Parts_2, h_0, cond_true]
   rw [e]
   exact nextS E0Ok hMixed [] mk_spec_l03Parts_2_0 [0] (⟨[.ref (GBody.cells arr_0) 0, .any, .nils, .own 0, .ref (GBody.cells arr_0) 0, .any, .any, .any, .any, .any, .any, .any, .any, .own 0, .ref (GBody.cells arr_0) 0, .ref (GBody.cells arr_0) 0, .ref (GBody.cells arr_0) 0, .ref (GBody.cells arr_0) 0, .ref (GBody.cells arr_0) 0, .ref (GBody.cells arr_0) 2, .sl (arr_0.Springs.map GSpring.cells), .any, .any, .any, .any, .any, .any, .any, .any, .any, .any, .any, .any, .any, .any, .any, .any, .any, .any, .any, .any, .any, .any, .any, .any, .any, .any, .any, .any, .any, .any, .any, .any, .any, .any, .any, .any, .any, .any, .any, .any, .any, .any, .any, .any, .any, .ref (GBody.cells arr_0) 0, .ref (GBody.cells arr_0) 0, .ref (GBody.cells arr_0) 1, .sl (arr_0.Mesh.Triangles.map (cL (cI .i64))), .i .i64 (arr_0.Mesh.Triangles.length : Int), .i .i64 (x_l0 + 1), .any, .any, .any, .any, .any, .any, .any, .any, .any, .any, .any, .any, .any, .any, .any, .any, .any, .any, .any, .any, .any, .any, .any, .any, .any, .any, .any, .any, .any, .any, .any, .any, .any, .any, .any, .any, .any, .any, .any, .any, .any, .any, .any, .any, .any, .any, .any, .any, .any, .any, .any, .any, .any, .any, .any, .any, .any, .any, .any, .any, .any, .any, .any, .any, .any, .any, .any, .any, .any, .any, .any, .any, .any, .any, .any, .any, .any, .any, .any, .any, .any, .any, .any, .any, .any, .any, .any, .any], [.vec 27 1 ((r0_l1.map (cF .f32)).set 1 [.f .f32 (nd_spec_l03Parts_4 arr_0 x_l0 r0_l1)]) false]⟩) (sB h_0 <| sK [19, 19] <| sX (cF .f32) r0_l1 1 y_0 y_1 <| sV (cF .f32) r0_l1 1 y_2 <| sG (cL (cI .i64)) arr_0.Mesh.Triangles x_l0 y_3 y_4 <| sF (Fn.sub (args := [.ref (GBody.cells arr_0) 0, .sl ((arr_0.Mesh.Triangles.getD x_l0.toNat default).map (cI .i64))]) (r := .agg [.f .f32 ((v_spec_l03Normal arr_0.Mesh (arr_0.Mesh.Triangles.getD x_l0.toNat default)).X), .f .f32 ((v_spec_l03Normal arr_0.Mesh (arr_0.Mesh.Triangles.getD x_l0.toNat default)).Y), .f .f32 ((v_spec_l03Normal arr_0.Mesh (arr_0.Mesh.Triangles.getD x_l0.toNat default)).Z)]) (new := []) [some 2, none] (t_spec_l03Normal arr_0.Mesh (arr_0.Mesh.Triangles.getD x_l0.toNat default) hp0 hp1 hp2 y_5 y_6)) <| sF (t_spec_l01Long (v_spec_l03Normal arr_0.Mesh (arr_0.Mesh.Triangles.getD x_l0.toNat default))) <| sX (cF .f32) r0_l1 1 y_0 y_1 <| sC (maplt (c := (cF .f32)) (l := r0_l1) y_2) <| sI (x_l0 + 1) y_7 y_8 <| sN) (by kernel_rfl) (show _ = ⟨[.ref (GBody.cells arr_0) 0, .any, .nils, .own 0, .ref (GBody.cells arr_0) 0, .any, .any, .any, .any, .any, .any, .any, .any, .own 0, .ref (GBody.cells arr_0) 0, .ref (GBody.cells arr_0) 0, .ref (GBody.cells arr_0) 0, .ref (GBody.cells arr_0) 0, .ref (GBody.cells arr_0) 0, .ref (GBody.cells arr_0) 2, .sl (arr_0.Springs.map GSpring.cells), .any, .any, .any, .any, .any, .any, .any, .any, .any, .any, .any, .any, .any, .any, .any, .any, .any, .any, .any, .any, .any, .any, .any, .any, .any, .any, .any, .any, .any, .any, .any, .any, .any, .any, .any, .any, .any, .any, .any, .any, .any, .any, .any, .any, .any, .ref (GBody.cells arr_0) 0, .ref (GBody.cells arr_0) 0, .ref (GBody.cells arr_0) 1, .sl (arr_0.Mesh.Triangles.map (cL (cI .i64))), .i .i64 (arr_0.Mesh.Triangles.length : Int), .i .i64 (x_l0 + 1), .any, .any, .any, .any, .any, .any, .any, .any, .any, .any, .any, .any, .any, .any, .any, .any, .any, .any, .any, .any, .any, .any, .any, .any, .any, .any, .any, .any, .any, .any, .any, .any, .any, .any, .any, .any, .any, .any, .any, .any, .any, .any, .any, .any, .any, .any, .any, .any, .any, .any, .any, .any, .any, .any, .any, .any, .any, .any, .any, .any, .any, .any, .any, .any, .any, .any, .any, .any, .any, .any, .any, .any, .any, .any, .any, .any, .any, .any, .any, .any, .any, .any, .any, .any, .any, .any, .any, .any], [.vec 27 1 ((r0_l1.set 1 (nd_spec_l03Parts_4 arr_0 x_l0 r0_l1)).map (cF .f32)) false]⟩ from (by simp [List.map_set, cF])) (ih (x_l0 + 1) (r0_l1.set 1 (nd_spec_l03Parts_4 arr_0 x_l0 r0_l1)) (show 0 ≤ (x_l0 + 1) from (by first | assumption | omega)) (show (r0_l1.set 1 (nd_spec_l03Parts_4 arr_0 x_l0 r0_l1)).length = (lr_spec_l03Parts_1_0 arr_0).length from (by first | assumption | omega | (have q := hp5.w; first | omega | (have q := okBd_spr hp5 (by assumption) h_0; omega) | (have q := l03Hinges_len _ hp5.e; omega) | (simp; done)) | (simp_all <;> omega))) (by first | assumption | omega))
  | false =>
   have gh_0 := of_decide_eq_false h_0
   have e : lo_spec_l03Parts_2 arr_0 (k + 1) x_l0 r0_l1 = r0_l1 := by simp only [lo_spec_l03Parts_2, h_0, cond_false]
   rw [e]
   exact outR (e := (.exit 2)) E0Ok hMixed [] mk_spec_l03Parts_2_1 [0] (sB h_0 <| sN) (by kernel_rfl) (by intro h; cases h)

theorem ln_spec_l03Parts_2_0 (arr_0 : GBody) : ∀ (k : Nat) (x_l0 : Int) (r0_l1 : (List Nat)) (hk : ((arr_0.Mesh.Triangles.length : Int) - x_l0).toNat < k), (lo_spec_l03Parts_2 arr_0 k x_l0 r0_l1).length = r0_l1.length := by
  intro k
  induction k with
  | zero => intro x_l0 r0_l1 hk; exact absurd hk (Nat.not_lt_zero _)
  | succ k ih =>
    intro x_l0 r0_l1 hk
    cases h_0 : (decide (x_l0 < (arr_0.Mesh.Triangles.length : Int))) with
    | true =>
      have e : lo_spec_l03Parts_2 arr_0 (k + 1) x_l0 r0_l1 = (lo_spec_l03Parts_2 arr_0 k (x_l0 + 1) (r0_l1.set 1 (nd_spec_l03Parts_4 arr_0 x_l0 r0_l1))) := by simp only [lo_spec_l03Parts_2, h_0, cond_true]
      rw [e, ih (x_l0 + 1) (r0_l1.set 1 (nd_spec_l03Parts_4 arr_0 x_l0 r0_l1)) (by first | assumption | omega | (have q := hp5.w; first | omega | (have q := okBd_spr hp5 (by assumption) h_0; omega) | (have q := l03Hinges_len _ hp5.e; omega) | (simp; done)) | (simp_all <;> omega))]; simp
    | false =>
      have e : lo_spec_l03Parts_2 arr_0 (k + 1) x_l0 r0_l1 = r0_l1 := by simp only [lo_spec_l03Parts_2, h_0, cond_false]
      first | (rw [e]; done) | (rw [e]; rfl)

def lr_spec_l03Parts_2_1 (arr_0 : GBody) : (List Nat) := (lo_spec_l03Parts_2 arr_0 (((arr_0.Mesh.Triangles.length : Int) - 0).toNat + 1) 0 (lr_spec_l03Parts_1_0 arr_0))

@[simp] theorem len_lr_spec_l03Parts_2_1_0 (arr_0 : GBody) : (lr_spec_l03Parts_2_1 arr_0).length = ((lr_spec_l03Parts_1_0 arr_0) : (List Nat)).length := ln_spec_l03Parts_2_0 arr_0 (((arr_0.Mesh.Triangles.length : Int) - 0).toNat + 1) 0 (lr_spec_l03Parts_1_0 arr_0) (by first | exact Nat.lt_succ_self _ | simp)

def nd_spec_l03Parts_6 (arr_0 : GBody) (x_l0 : Int) : Nat := (v_spec_l01Inner (v_spec_l03Bent arr_0.Mesh ((v_spec_l03Hinges arr_0.Mesh).getD x_l0.toNat default)) (v_spec_l03Bent arr_0.Mesh ((v_spec_l03Hinges arr_0.Mesh).getD x_l0.toNat default)))

def lo_spec_l03Parts_3 (arr_0 : GBody) : Nat → Int → (List Nat) → (List Nat)
  | 0, _, _ => default
  | k + 1, x_l0, r0_l1 => (cond (decide (x_l0 < ((v_spec_l03Hinges arr_0.Mesh).length : Int)))
    (lo_spec_l03Parts_3 arr_0 k (x_l0 + 1) (r0_l1.set 2 (fop .add .f32 (r0_l1.getD 2 default) (fop .mul .f32 (fop .mul .f32 1056964608 arr_0.Bend) (nd_spec_l03Parts_6 arr_0 x_l0)))))
    r0_l1)

def ls_spec_l03Parts_3 (arr_0 : GBody) (r : (List Nat)) : Ex × St := ((.exit 4), ⟨[.ref (GBody.cells arr_0) 0, .any, .nils, .own 0, .ref (GBody.cells arr_0) 0, .any, .any, .any, .any, .own 1, .any, .any, .any, .own 0, .ref (GBody.cells arr_0) 0, .ref (GBody.cells arr_0) 0, .ref (GBody.cells arr_0) 0, .ref (GBody.cells arr_0) 0, .ref (GBody.cells arr_0) 0, .ref (GBody.cells arr_0) 2, .sl (arr_0.Springs.map GSpring.cells), .any, .any, .any, .any, .any, .any, .any, .any, .any, .any, .any, .any, .any, .any, .any, .any, .any, .any, .any, .any, .any, .any, .any, .any, .any, .any, .any, .any, .any, .any, .any, .any, .any, .any, .any, .any, .any, .any, .any, .any, .any, .any, .any, .any, .any, .ref (GBody.cells arr_0) 0, .ref (GBody.cells arr_0) 0, .ref (GBody.cells arr_0) 1, .sl (arr_0.Mesh.Triangles.map (cL (cI .i64))), .any, .any, .any, .any, .any, .any, .any, .any, .any, .any, .any, .any, .any, .any, .any, .any, .any, .any, .any, .any, .any, .any, .any, .any, .any, .any, .ref (GBody.cells arr_0) 0, .own 1, .own 1, .any, .any, .any, .any, .any, .any, .any, .any, .any, .any, .any, .any, .any, .any, .any, .any, .any, .any, .any, .any, .any, .any, .any, .any, .any, .any, .any, .any, .any, .any, .any, .any, .any, .any, .any, .any, .any, .any, .any, .any, .any, .any, .any, .any, .any, .any, .any, .any, .any, .any, .any, .any, .any, .any, .any, .any, .any, .any, .any, .any, .any], [.vec 27 1 (r.map (cF .f32)) false, .nest 54 ((v_spec_l03Hinges arr_0.Mesh).map fun l => l.map (cI .i64)) false]⟩)

def hd_spec_l03Parts_3 (arr_0 : GBody) (x_l0 : Int) (r0_l1 : (List Nat)) : St := ⟨[.ref (GBody.cells arr_0) 0, .any, .nils, .own 0, .ref (GBody.cells arr_0) 0, .any, .any, .any, .any, .own 1, .any, .any, .any, .own 0, .ref (GBody.cells arr_0) 0, .ref (GBody.cells arr_0) 0, .ref (GBody.cells arr_0) 0, .ref (GBody.cells arr_0) 0, .ref (GBody.cells arr_0) 0, .ref (GBody.cells arr_0) 2, .sl (arr_0.Springs.map GSpring.cells), .any, .any, .any, .any, .any, .any, .any, .any, .any, .any, .any, .any, .any, .any, .any, .any, .any, .any, .any, .any, .any, .any, .any, .any, .any, .any, .any, .any, .any, .any, .any, .any, .any, .any, .any, .any, .any, .any, .any, .any, .any, .any, .any, .any, .any, .ref (GBody.cells arr_0) 0, .ref (GBody.cells arr_0) 0, .ref (GBody.cells arr_0) 1, .sl (arr_0.Mesh.Triangles.map (cL (cI .i64))), .any, .any, .any, .any, .any, .any, .any, .any, .any, .any, .any, .any, .any, .any, .any, .any, .any, .any, .any, .any, .any, .any, .any, .any, .any, .any, .ref (GBody.cells arr_0) 0, .own 1, .own 1, .i .i64 ((v_spec_l03Hinges arr_0.Mesh).length : Int), .i .i64 x_l0, .any, .any, .any, .any, .any, .any, .any, .any, .any, .any, .any, .any, .any, .any, .any, .any, .any, .any, .any, .any, .any, .any, .any, .any, .any, .any, .any, .any, .any, .any, .any, .any, .any, .any, .any, .any, .any, .any, .any, .any, .any, .any, .any, .any, .any, .any, .any, .any, .any, .any, .any, .any, .any, .any, .any, .any, .any, .any, .any], [.vec 27 1 (r0_l1.map (cF .f32)) false, .nest 54 ((v_spec_l03Hinges arr_0.Mesh).map fun l => l.map (cI .i64)) false]⟩

def mk_spec_l03Parts_3_0 : List Bool := [true, false, true, true, true, false, false, false, false, true, false, false, false, true, true, true, true, true, true, true, true, false, false, false, false, false, false, false, false, false, false, false, false, false, false, false, false, false, false, false, false, false, false, false, false, false, false, false, false, false, false, false, false, false, false, false, false, false, false, false, false, false, false, false, false, false, true, true, true, true, false, false, false, false, false, false, false, false, false, false, false, false, false, false, false, false, false, false, false, false, false, false, false, false, false, false, true, true, true, true, true, false, false, false, false, false, false, false, false, false, false, false, false, false, false, false, false, false, false, false, false, false, false, false, false, false, false, false, false, false, false, false, false, false, false, false, false, false, false, false, false, false, false, false, false, false, false, false, false, false, false, false, false, false, false, false, false, false, false, false]

def mk_spec_l03Parts_3_1 : List Bool := [true, false, true, true, true, false, false, false, false, true, false, false, false, true, true, true, true, true, true, true, true, false, false, false, false, false, false, false, false, false, false, false, false, false, false, false, false, false, false, false, false, false, false, false, false, false, false, false, false, false, false, false, false, false, false, false, false, false, false, false, false, false, false, false, false, false, true, true, true, true, false, false, false, false, false, false, false, false, false, false, false, false, false, false, false, false, false, false, false, false, false, false, false, false, false, false, true, true, true, false, false, false, false, false, false, false, false, false, false, false, false, false, false, false, false, false, false, false, false, false, false, false, false, false, false, false, false, false, false, false, false, false, false, false, false, false, false, false, false, false, false, false, false, false, false, false, false, false, false, false, false, false, false, false, false, false, false, false, false, false]

theorem lp_spec_l03Parts_3 (arr_0 : GBody) (hp0 : arr_0.Mesh.Places.length ≤ 1073741824) (hp1 : arr_0.Mesh.Triangles.length ≤ 1073741824) (hp2 : ∀ t ∈ arr_0.Mesh.Triangles, t.length ≤ 1073741824) (hp3 : arr_0.Springs.length ≤ 1073741824) (hp4 : arr_0.Weights.length ≤ 1073741824) (hp5 : OkBd arr_0) : ∀ (k : Nat) (x_l0 : Int) (r0_l1 : (List Nat)) (hv_spec_l03Parts_3_0 : 0 ≤ x_l0) (hv_spec_l03Parts_3_1 : r0_l1.length = (lr_spec_l03Parts_2_1 arr_0).length) (hk : (((v_spec_l03Hinges arr_0.Mesh).length : Int) - x_l0).toNat < k), Lp prog 0 (sub (bodyOf f63) [1, 1, 1, 1, 1, 1, 0, 1, 0, 0]) (hd_spec_l03Parts_3 arr_0 x_l0 r0_l1) (ls_spec_l03Parts_3 arr_0 (lo_spec_l03Parts_3 arr_0 k x_l0 r0_l1)).1 (ls_spec_l03Parts_3 arr_0 (lo_spec_l03Parts_3 arr_0 k x_l0 r0_l1)).2 := by
 intro k
 induction k with
 | zero => intro x_l0 r0_l1 hv_spec_l03Parts_3_0 hv_spec_l03Parts_3_1 hk; exact absurd hk (Nat.not_lt_zero _)
 | succ k ih =>
  intro x_l0 r0_l1 hv_spec_l03Parts_3_0 hv_spec_l03Parts_3_1 hk
  cases h_0 : (decide (x_l0 < ((v_spec_l03Hinges arr_0.Mesh).length : Int))) with
  | true =>
   have gh_0 := of_decide_eq_true h_0
   have y_0 : (0 : Int) ≤ x_l0 := (by first | assumption | omega)
   have y_1 : Int.toNat x_l0 < (v_spec_l03Hinges arr_0.Mesh).length := (by first | assumption | omega)
   have y_2 : x_l0.toNat < (v_spec_l03Hinges arr_0.Mesh).length := (by first | assumption | omega)
   have y_3 : ((v_spec_l03Hinges arr_0.Mesh).getD x_l0.toNat default).length ≤ 1073741824 := (by first | assumption | omega | exact hp5.e | exact tri3 hp5.e (by assumption) h_0 | exact tri3L hp5.e (by assumption) h_0 | exact hin4 hp5.e (by assumption) h_0 | exact hin4L hp5.e (by assumption) h_0)
   have y_4 : ((v_spec_l03Hinges arr_0.Mesh).getD x_l0.toNat default).length = 4 ∧ ∀ x ∈ ((v_spec_l03Hinges arr_0.Mesh).getD x_l0.toNat default), 0 ≤ x ∧ x < (arr_0.Mesh.Places.length : Int) := (by first | assumption | omega | exact hp5.e | exact tri3 hp5.e (by assumption) h_0 | exact tri3L hp5.e (by assumption) h_0 | exact hin4 hp5.e (by assumption) h_0 | exact hin4L hp5.e (by assumption) h_0)
   have y_5 : (0 : Int) ≤ 2 := (by first | assumption | omega)
   have y_6 : 2 < (r0_l1.length : Int) := (by first | assumption | omega | (have q := hp5.w; first | omega | (have q := okBd_spr hp5 (by assumption) h_0; omega) | (have q := l03Hinges_len _ hp5.e; omega) | (simp; done)) | (simp_all <;> omega))
   have y_7 : 2 < r0_l1.length := (by first | assumption | omega)
   have y_8 : (-9223372036854775808 : Int) ≤ (x_l0 + 1) := (by first | assumption | omega)
   have y_9 : (x_l0 + 1) ≤ (9223372036854775807 : Int) := (by first | assumption | omega | (have q := hp5.w; first | omega | (have q := okBd_spr hp5 (by assumption) h_0; omega) | (have q := l03Hinges_len _ hp5.e; omega) | (simp; done)) | (simp_all <;> omega))
   have e : lo_spec_l03Parts_3 arr_0 (k + 1) x_l0 r0_l1 = (lo_spec_l03Parts_3 arr_0 k (x_l0 + 1) (r0_l1.set 2 (fop .add .f32 (r0_l1.getD 2 default) (fop .mul .f32 (fop .mul .f32 1056964608 arr_0.Bend) (nd_spec_l03Parts_6 arr_0 x_l0))))) := by simp only [lo_spec_l03Parts_3, h_0, cond_true]
   rw [e]
   exact nextS E0Ok hMixed [] mk_spec_l03Parts_3_0 [0, 1] (⟨[.ref (GBody.cells arr_0) 0, .any, .nils, .own 0, .ref (GBody.cells arr_0) 0, .any, .any, .any, .any, .own 1, .any, .any, .any, .own 0, .ref (GBody.cells arr_0) 0, .ref (GBody.cells arr_0) 0, .ref (GBody.cells arr_0) 0, .ref (GBody.cells arr_0) 0, .ref (GBody.cells arr_0) 0, .ref (GBody.cells arr_0) 2, .sl (arr_0.Springs.map GSpring.cells), .any, .any, .any, .any, .any, .any, .any, .any, .any, .any, .any, .any, .any, .any, .any, .any, .any, .any, .any, .any, .any, .any, .any, .any, .any, .any, .any, .any, .any, .any, .any, .any, .any, .any, .any, .any, .any, .any, .any, .any, .any, .any, .any, .any, .any, .ref (GBody.cells arr_0) 0, .ref (GBody.cells arr_0) 0, .ref (GBody.cells arr_0) 1, .sl (arr_0.Mesh.Triangles.map (cL (cI .i64))), .any, .any, .any, .any, .any, .any, .any, .any, .any, .any, .any, .any, .any, .any, .any, .any, .any, .any, .any, .any, .any, .any, .any, .any, .any, .any, .ref (GBody.cells arr_0) 0, .own 1, .own 1, .i .i64 ((v_spec_l03Hinges arr_0.Mesh).length : Int), .i .i64 (x_l0 + 1), .any, .any, .any, .any, .any, .any, .any, .any, .any, .any, .any, .any, .any, .any, .any, .any, .any, .any, .any, .any, .any, .any, .any, .any, .any, .any, .any, .any, .any, .any, .any, .any, .any, .any, .any, .any, .any, .any, .any, .any, .any, .any, .any, .any, .any, .any, .any, .any, .any, .any, .any, .any, .any, .any, .any, .any, .any, .any, .any], [.vec 27 1 ((r0_l1.map (cF .f32)).set 2 [.f .f32 (fop .add .f32 (r0_l1.getD 2 default) (fop .mul .f32 (fop .mul .f32 1056964608 arr_0.Bend) (nd_spec_l03Parts_6 arr_0 x_l0)))]) false, .nest 54 ((v_spec_l03Hinges arr_0.Mesh).map fun l => l.map (cI .i64)) false]⟩) (sB h_0 <| sC (nestix (c := (cI .i64)) (l := (v_spec_l03Hinges arr_0.Mesh)) (i := x_l0) y_0 y_1) <| sC (nestlt (c := (cI .i64)) (l := (v_spec_l03Hinges arr_0.Mesh)) y_2) <| sF (Fn.sub (args := [.ref (GBody.cells arr_0) 0, .sl (((v_spec_l03Hinges arr_0.Mesh).map fun l => l.map (cI .i64)).getD x_l0.toNat [])]) (r := .agg [.f .f32 ((v_spec_l03Bent arr_0.Mesh ((v_spec_l03Hinges arr_0.Mesh).getD x_l0.toNat default)).X), .f .f32 ((v_spec_l03Bent arr_0.Mesh ((v_spec_l03Hinges arr_0.Mesh).getD x_l0.toNat default)).Y), .f .f32 ((v_spec_l03Bent arr_0.Mesh ((v_spec_l03Hinges arr_0.Mesh).getD x_l0.toNat default)).Z)]) (new := []) [some 2, none] (Fn.castA (args' := [.ref [.sl (arr_0.Mesh.Places.map GVector.cells), .sl (arr_0.Mesh.Triangles.map (cL (cI .i64)))] 0, .sl (((v_spec_l03Hinges arr_0.Mesh).map fun l => l.map (cI .i64)).getD x_l0.toNat [])]) (t_spec_l03Bent arr_0.Mesh ((v_spec_l03Hinges arr_0.Mesh).getD x_l0.toNat default) hp0 hp1 hp2 y_3 y_4) (by first | (simp [cI]; done) | (simp [cI]; rfl)))) <| sK [12, 12] <| sX (cF .f32) r0_l1 2 y_5 y_6 <| sV (cF .f32) r0_l1 2 y_7 <| sF (t_spec_l01Inner (v_spec_l03Bent arr_0.Mesh ((v_spec_l03Hinges arr_0.Mesh).getD x_l0.toNat default)) (v_spec_l03Bent arr_0.Mesh ((v_spec_l03Hinges arr_0.Mesh).getD x_l0.toNat default))) <| sX (cF .f32) r0_l1 2 y_5 y_6 <| sC (maplt (c := (cF .f32)) (l := r0_l1) y_7) <| sI (x_l0 + 1) y_8 y_9 <| sN) (by kernel_rfl) (show _ = ⟨[.ref (GBody.cells arr_0) 0, .any, .nils, .own 0, .ref (GBody.cells arr_0) 0, .any, .any, .any, .any, .own 1, .any, .any, .any, .own 0, .ref (GBody.cells arr_0) 0, .ref (GBody.cells arr_0) 0, .ref (GBody.cells arr_0) 0, .ref (GBody.cells arr_0) 0, .ref (GBody.cells arr_0) 0, .ref (GBody.cells arr_0) 2, .sl (arr_0.Springs.map GSpring.cells), .any, .any, .any, .any, .any, .any, .any, .any, .any, .any, .any, .any, .any, .any, .any, .any, .any, .any, .any, .any, .any, .any, .any, .any, .any, .any, .any, .any, .any, .any, .any, .any, .any, .any, .any, .any, .any, .any, .any, .any, .any, .any, .any, .any, .any, .ref (GBody.cells arr_0) 0, .ref (GBody.cells arr_0) 0, .ref (GBody.cells arr_0) 1, .sl (arr_0.Mesh.Triangles.map (cL (cI .i64))), .any, .any, .any, .any, .any, .any, .any, .any, .any, .any, .any, .any, .any, .any, .any, .any, .any, .any, .any, .any, .any, .any, .any, .any, .any, .any, .ref (GBody.cells arr_0) 0, .own 1, .own 1, .i .i64 ((v_spec_l03Hinges arr_0.Mesh).length : Int), .i .i64 (x_l0 + 1), .any, .any, .any, .any, .any, .any, .any, .any, .any, .any, .any, .any, .any, .any, .any, .any, .any, .any, .any, .any, .any, .any, .any, .any, .any, .any, .any, .any, .any, .any, .any, .any, .any, .any, .any, .any, .any, .any, .any, .any, .any, .any, .any, .any, .any, .any, .any, .any, .any, .any, .any, .any, .any, .any, .any, .any, .any, .any, .any], [.vec 27 1 ((r0_l1.set 2 (fop .add .f32 (r0_l1.getD 2 default) (fop .mul .f32 (fop .mul .f32 1056964608 arr_0.Bend) (nd_spec_l03Parts_6 arr_0 x_l0)))).map (cF .f32)) false, .nest 54 ((v_spec_l03Hinges arr_0.Mesh).map fun l => l.map (cI .i64)) false]⟩ from (by simp [List.map_set, cF])) (ih (x_l0 + 1) (r0_l1.set 2 (fop .add .f32 (r0_l1.getD 2 default) (fop .mul .f32 (fop .mul .f32 1056964608 arr_0.Bend) (nd_spec_l03Parts_6 arr_0 x_l0)))) (show 0 ≤ (x_l0 + 1) from (by first | assumption | omega)) (show (r0_l1.set 2 (fop .add .f32 (r0_l1.getD 2 default) (fop .mul .f32 (fop .mul .f32 1056964608 arr_0.Bend) (nd_spec_l03Parts_6 arr_0 x_l0)))).length = (lr_spec_l03Parts_2_1 arr_0).length from (by first | assumption | omega | (have q := hp5.w; first | omega | (have q := okBd_spr hp5 (by assumption) h_0; omega) | (have q := l03Hinges_len _ hp5.e; omega) | (simp; done)) | (simp_all <;> omega))) (by first | assumption | omega))
  | false =>
   have gh_0 := of_decide_eq_false h_0
   have e : lo_spec_l03Parts_3 arr_0 (k + 1) x_l0 r0_l1 = r0_l1 := by simp only [lo_spec_l03Parts_3, h_0, cond_false]
   rw [e]
   exact outR (e := (.exit 4)) E0Ok hMixed [] mk_spec_l03Parts_3_1 [0, 1] (sB h_0 <| sN) (by kernel_rfl) (by intro h; cases h)

theorem ln_spec_l03Parts_3_0 (arr_0 : GBody) : ∀ (k : Nat) (x_l0 : Int) (r0_l1 : (List Nat)) (hk : (((v_spec_l03Hinges arr_0.Mesh).length : Int) - x_l0).toNat < k), (lo_spec_l03Parts_3 arr_0 k x_l0 r0_l1).length = r0_l1.length := by
  intro k
  induction k with
  | zero => intro x_l0 r0_l1 hk; exact absurd hk (Nat.not_lt_zero _)
  | succ k ih =>
    intro x_l0 r0_l1 hk
    cases h_0 : (decide (x_l0 < ((v_spec_l03Hinges arr_0.Mesh).length : Int))) with
    | true =>
      have e : lo_spec_l03Parts_3 arr_0 (k + 1) x_l0 r0_l1 = (lo_spec_l03Parts_3 arr_0 k (x_l0 + 1) (r0_l1.set 2 (fop .add .f32 (r0_l1.getD 2 default) (fop .mul .f32 (fop .mul .f32 1056964608 arr_0.Bend) (nd_spec_l03Parts_6 arr_0 x_l0))))) := by simp only [lo_spec_l03Parts_3, h_0, cond_true]
      rw [e, ih (x_l0 + 1) (r0_l1.set 2 (fop .add .f32 (r0_l1.getD 2 default) (fop .mul .f32 (fop .mul .f32 1056964608 arr_0.Bend) (nd_spec_l03Parts_6 arr_0 x_l0)))) (by first | assumption | omega | (have q := hp5.w; first | omega | (have q := okBd_spr hp5 (by assumption) h_0; omega) | (have q := l03Hinges_len _ hp5.e; omega) | (simp; done)) | (simp_all <;> omega))]; simp
    | false =>
      have e : lo_spec_l03Parts_3 arr_0 (k + 1) x_l0 r0_l1 = r0_l1 := by simp only [lo_spec_l03Parts_3, h_0, cond_false]
      first | (rw [e]; done) | (rw [e]; rfl)

def lr_spec_l03Parts_3_2 (arr_0 : GBody) : (List Nat) := (lo_spec_l03Parts_3 arr_0 ((((v_spec_l03Hinges arr_0.Mesh).length : Int) - 0).toNat + 1) 0 (lr_spec_l03Parts_2_1 arr_0))

@[simp] theorem len_lr_spec_l03Parts_3_2_0 (arr_0 : GBody) : (lr_spec_l03Parts_3_2 arr_0).length = ((lr_spec_l03Parts_2_1 arr_0) : (List Nat)).length := ln_spec_l03Parts_3_0 arr_0 ((((v_spec_l03Hinges arr_0.Mesh).length : Int) - 0).toNat + 1) 0 (lr_spec_l03Parts_2_1 arr_0) (by first | exact Nat.lt_succ_self _ | simp)

def nd_spec_l03Parts_8 (arr_0 : GBody) (x_l0 : Int) (r0_l1 : (List Nat)) : Nat := (fop .add .f32 (r0_l1.getD 3 default) (fneg .f32 (fop .mul .f32 (arr_0.Weights.getD x_l0.toNat default) (v_spec_l01Inner arr_0.Fall (arr_0.Mesh.Places.getD x_l0.toNat default)))))

def lo_spec_l03Parts_4 (arr_0 : GBody) : Nat → Int → (List Nat) → (List Nat)
  | 0, _, _ => default
  | k + 1, x_l0, r0_l1 => (cond (decide (x_l0 < (arr_0.Mesh.Places.length : Int)))
    (lo_spec_l03Parts_4 arr_0 k (x_l0 + 1) (r0_l1.set 3 (nd_spec_l03Parts_8 arr_0 x_l0 r0_l1)))
    r0_l1)

def ls_spec_l03Parts_4 (arr_0 : GBody) (r : (List Nat)) : Ex × St := ((.exit 6), ⟨[.ref (GBody.cells arr_0) 0, .any, .nils, .own 0, .ref (GBody.cells arr_0) 0, .any, .any, .any, .any, .own 1, .any, .any, .any, .own 0, .ref (GBody.cells arr_0) 0, .ref (GBody.cells arr_0) 0, .ref (GBody.cells arr_0) 0, .ref (GBody.cells arr_0) 0, .ref (GBody.cells arr_0) 0, .ref (GBody.cells arr_0) 2, .sl (arr_0.Springs.map GSpring.cells), .any, .any, .any, .any, .any, .any, .any, .any, .any, .any, .any, .any, .any, .any, .any, .any, .any, .any, .any, .any, .any, .any, .any, .any, .any, .any, .any, .any, .any, .any, .any, .any, .any, .any, .any, .any, .any, .any, .any, .any, .any, .any, .any, .any, .any, .ref (GBody.cells arr_0) 0, .ref (GBody.cells arr_0) 0, .ref (GBody.cells arr_0) 1, .sl (arr_0.Mesh.Triangles.map (cL (cI .i64))), .any, .any, .any, .any, .any, .any, .any, .any, .any, .any, .any, .any, .any, .any, .any, .any, .any, .any, .any, .any, .any, .any, .any, .any, .any, .any, .ref (GBody.cells arr_0) 0, .own 1, .own 1, .any, .any, .any, .any, .any, .any, .any, .any, .any, .any, .any, .any, .any, .any, .any, .any, .any, .any, .any, .any, .any, .any, .any, .any, .any, .ref (GBody.cells arr_0) 0, .ref (GBody.cells arr_0) 0, .ref (GBody.cells arr_0) 0, .sl (arr_0.Mesh.Places.map GVector.cells), .any, .any, .any, .any, .any, .any, .any, .any, .any, .any, .any, .any, .any, .any, .any, .any, .any, .any, .any, .any, .any, .any, .any, .any, .any, .any, .any, .any, .any, .any, .any, .any], [.vec 27 1 (r.map (cF .f32)) false, .nest 54 ((v_spec_l03Hinges arr_0.Mesh).map fun l => l.map (cI .i64)) false]⟩)

def hd_spec_l03Parts_4 (arr_0 : GBody) (x_l0 : Int) (r0_l1 : (List Nat)) : St := ⟨[.ref (GBody.cells arr_0) 0, .any, .nils, .own 0, .ref (GBody.cells arr_0) 0, .any, .any, .any, .any, .own 1, .any, .any, .any, .own 0, .ref (GBody.cells arr_0) 0, .ref (GBody.cells arr_0) 0, .ref (GBody.cells arr_0) 0, .ref (GBody.cells arr_0) 0, .ref (GBody.cells arr_0) 0, .ref (GBody.cells arr_0) 2, .sl (arr_0.Springs.map GSpring.cells), .any, .any, .any, .any, .any, .any, .any, .any, .any, .any, .any, .any, .any, .any, .any, .any, .any, .any, .any, .any, .any, .any, .any, .any, .any, .any, .any, .any, .any, .any, .any, .any, .any, .any, .any, .any, .any, .any, .any, .any, .any, .any, .any, .any, .any, .ref (GBody.cells arr_0) 0, .ref (GBody.cells arr_0) 0, .ref (GBody.cells arr_0) 1, .sl (arr_0.Mesh.Triangles.map (cL (cI .i64))), .any, .any, .any, .any, .any, .any, .any, .any, .any, .any, .any, .any, .any, .any, .any, .any, .any, .any, .any, .any, .any, .any, .any, .any, .any, .any, .ref (GBody.cells arr_0) 0, .own 1, .own 1, .any, .any, .any, .any, .any, .any, .any, .any, .any, .any, .any, .any, .any, .any, .any, .any, .any, .any, .any, .any, .any, .any, .any, .any, .any, .ref (GBody.cells arr_0) 0, .ref (GBody.cells arr_0) 0, .ref (GBody.cells arr_0) 0, .sl (arr_0.Mesh.Places.map GVector.cells), .i .i64 (arr_0.Mesh.Places.length : Int), .i .i64 x_l0, .any, .any, .any, .any, .any, .any, .any, .any, .any, .any, .any, .any, .any, .any, .any, .any, .any, .any, .any, .any, .any, .any, .any, .any, .any, .any, .any, .any, .any, .any], [.vec 27 1 (r0_l1.map (cF .f32)) false, .nest 54 ((v_spec_l03Hinges arr_0.Mesh).map fun l => l.map (cI .i64)) false]⟩

def mk_spec_l03Parts_4_0 : List Bool := [true, false, true, true, true, false, false, false, false, true, false, false, false, true, true, true, true, true, true, true, true, false, false, false, false, false, false, false, false, false, false, false, false, false, false, false, false, false, false, false, false, false, false, false, false, false, false, false, false, false, false, false, false, false, false, false, false, false, false, false, false, false, false, false, false, false, true, true, true, true, false, false, false, false, false, false, false, false, false, false, false, false, false, false, false, false, false, false, false, false, false, false, false, false, false, false, true, true, true, false, false, false, false, false, false, false, false, false, false, false, false, false, false, false, false, false, false, false, false, false, false, false, false, false, true, true, true, true, true, true, false, false, false, false, false, false, false, false, false, false, false, false, false, false, false, false, false, false, false, false, false, false, false, false, false, false, false, false, false, false]

def mk_spec_l03Parts_4_1 : List Bool := [true, false, true, true, true, false, false, false, false, true, false, false, false, true, true, true, true, true, true, true, true, false, false, false, false, false, false, false, false, false, false, false, false, false, false, false, false, false, false, false, false, false, false, false, false, false, false, false, false, false, false, false, false, false, false, false, false, false, false, false, false, false, false, false, false, false, true, true, true, true, false, false, false, false, false, false, false, false, false, false, false, false, false, false, false, false, false, false, false, false, false, false, false, false, false, false, true, true, true, false, false, false, false, false, false, false, false, false, false, false, false, false, false, false, false, false, false, false, false, false, false, false, false, false, true, true, true, true, false, false, false, false, false, false, false, false, false, false, false, false, false, false, false, false, false, false, false, false, false, false, false, false, false, false, false, false, false, false, false, false]

theorem lp_spec_l03Parts_4 (arr_0 : GBody) (hp0 : arr_0.Mesh.Places.length ≤ 1073741824) (hp1 : arr_0.Mesh.Triangles.length ≤ 1073741824) (hp2 : ∀ t ∈ arr_0.Mesh.Triangles, t.length ≤ 1073741824) (hp3 : arr_0.Springs.length ≤ 1073741824) (hp4 : arr_0.Weights.length ≤ 1073741824) (hp5 : OkBd arr_0) : ∀ (k : Nat) (x_l0 : Int) (r0_l1 : (List Nat)) (hv_spec_l03Parts_4_0 : 0 ≤ x_l0) (hv_spec_l03Parts_4_1 : r0_l1.length = (lr_spec_l03Parts_3_2 arr_0).length) (hk : ((arr_0.Mesh.Places.length : Int) - x_l0).toNat < k), Lp prog 0 (sub (bodyOf f63) [1, 1, 1, 1, 1, 1, 1, 0, 1, 0, 0]) (hd_spec_l03Parts_4 arr_0 x_l0 r0_l1) (ls_spec_l03Parts_4 arr_0 (lo_spec_l03Parts_4 arr_0 k x_l0 r0_l1)).1 (ls_spec_l03Parts_4 arr_0 (lo_spec_l03Parts_4 arr_0 k x_l0 r0_l1)).2 := by
 intro k
 induction k with
 | zero => intro x_l0 r0_l1 hv_spec_l03Parts_4_0 hv_spec_l03Parts_4_1 hk; exact absurd hk (Nat.not_lt_zero _)
 | succ k ih =>
  intro x_l0 r0_l1 hv_spec_l03Parts_4_0 hv_spec_l03Parts_4_1 hk
  cases h_0 : (decide (x_l0 < (arr_0.Mesh.Places.length : Int))) with
  | true =>
   have gh_0 := of_decide_eq_true h_0
   have y_0 : (0 : Int) ≤ 3 := (by first | assumption | omega)
   have y_1 : 3 < (r0_l1.length : Int) := (by first | assumption | omega | (have q := hp5.w; first | omega | (have q := okBd_spr hp5 (by assumption) h_0; omega) | (have q := l03Hinges_len _ hp5.e; omega) | (simp; done)) | (simp_all <;> omega))
   have y_2 : 3 < r0_l1.length := (by first | assumption | omega)
   have y_3 : (0 : Int) ≤ x_l0 := (by first | assumption | omega)
   have y_4 : x_l0 < (arr_0.Weights.length : Int) := (by first | assumption | omega | (have q := hp5.w; first | omega | (have q := okBd_spr hp5 (by assumption) h_0; omega) | (have q := l03Hinges_len _ hp5.e; omega) | (simp; done)) | (simp_all <;> omega))
   have y_5 : x_l0 < (arr_0.Mesh.Places.length : Int) := (by first | assumption | omega)
   have y_6 : (-9223372036854775808 : Int) ≤ (x_l0 + 1) := (by first | assumption | omega)
   have y_7 : (x_l0 + 1) ≤ (9223372036854775807 : Int) := (by first | assumption | omega)
   have e : lo_spec_l03Parts_4 arr_0 (k + 1) x_l0 r0_l1 = (lo_spec_l03Parts_4 arr_0 k (x_l0 + 1) (r0_l1.set 3 (nd_spec_l03Parts_8 arr_0 x_l0 r0_l1))) := by simp only [lo_spec_l03Parts_4, h_0, cond_true]
   rw [e]
   exact nextS E0Ok hMixed [] mk_spec_l03Parts_4_0 [0, 1] (⟨[.ref (GBody.cells arr_0) 0, .any, .nils, .own 0, .ref (GBody.cells arr_0) 0, .any, .any, .any, .any, .own 1, .any, .any, .any, .own 0, .ref (GBody.cells arr_0) 0, .ref (GBody.cells arr_0) 0, .ref (GBody.cells arr_0) 0, .ref (GBody.cells arr_0) 0, .ref (GBody.cells arr_0) 0, .ref (GBody.cells arr_0) 2, .sl (arr_0.Springs.map GSpring.cells), .any, .any, .any, .any, .any, .any, .any, .any, .any, .any, .any, .any, .any, .any, .any, .any, .any, .any, .any, .any, .any, .any, .any, .any, .any, .any, .any, .any, .any, .any, .any, .any, .any, .any, .any, .any, .any, .any, .any, .any, .any, .any, .any, .any, .any, .ref (GBody.cells arr_0) 0, .ref (GBody.cells arr_0) 0, .ref (GBody.cells arr_0) 1, .sl (arr_0.Mesh.Triangles.map (cL (cI .i64))), .any, .any, .any, .any, .any, .any, .any, .any, .any, .any, .any, .any, .any, .any, .any, .any, .any, .any, .any, .any, .any, .any, .any, .any, .any, .any, .ref (GBody.cells arr_0) 0, .own 1, .own 1, .any, .any, .any, .any, .any, .any, .any, .any, .any, .any, .any, .any, .any, .any, .any, .any, .any, .any, .any, .any, .any, .any, .any, .any, .any, .ref (GBody.cells arr_0) 0, .ref (GBody.cells arr_0) 0, .ref (GBody.cells arr_0) 0, .sl (arr_0.Mesh.Places.map GVector.cells), .i .i64 (arr_0.Mesh.Places.length : Int), .i .i64 (x_l0 + 1), .any, .any, .any, .any, .any, .any, .any, .any, .any, .any, .any, .any, .any, .any, .any, .any, .any, .any, .any, .any, .any, .any, .any, .any, .any, .any, .any, .any, .any, .any], [.vec 27 1 ((r0_l1.map (cF .f32)).set 3 [.f .f32 (nd_spec_l03Parts_8 arr_0 x_l0 r0_l1)]) false, .nest 54 ((v_spec_l03Hinges arr_0.Mesh).map fun l => l.map (cI .i64)) false]⟩) (sB h_0 <| sK [24, 24] <| sX (cF .f32) r0_l1 3 y_0 y_1 <| sV (cF .f32) r0_l1 3 y_2 <| sG (cF .f32) arr_0.Weights x_l0 y_3 y_4 <| sG GVector.cells arr_0.Mesh.Places x_l0 y_3 y_5 <| sF (t_spec_l01Inner arr_0.Fall (arr_0.Mesh.Places.getD x_l0.toNat default)) <| sX (cF .f32) r0_l1 3 y_0 y_1 <| sC (maplt (c := (cF .f32)) (l := r0_l1) y_2) <| sI (x_l0 + 1) y_6 y_7 <| sN) (by kernel_rfl) (show _ = ⟨[.ref (GBody.cells arr_0) 0, .any, .nils, .own 0, .ref (GBody.cells arr_0) 0, .any, .any, .any, .any, .own 1, .any, .any, .any, .own 0, .ref (GBody.cells arr_0) 0, .ref (GBody.cells arr_0) 0, .ref (GBody.cells arr_0) 0, .ref (GBody.cells arr_0) 0, .ref (GBody.cells arr_0) 0, .ref (GBody.cells arr_0) 2, .sl (arr_0.Springs.map GSpring.cells), .any, .any, .any, .any, .any, .any, .any, .any, .any, .any, .any, .any, .any, .any, .any, .any, .any, .any, .any, .any, .any, .any, .any, .any, .any, .any, .any, .any, .any, .any, .any, .any, .any, .any, .any, .any, .any, .any, .any, .any, .any, .any, .any, .any, .any, .ref (GBody.cells arr_0) 0, .ref (GBody.cells arr_0) 0, .ref (GBody.cells arr_0) 1, .sl (arr_0.Mesh.Triangles.map (cL (cI .i64))), .any, .any, .any, .any, .any, .any, .any, .any, .any, .any, .any, .any, .any, .any, .any, .any, .any, .any, .any, .any, .any, .any, .any, .any, .any, .any, .ref (GBody.cells arr_0) 0, .own 1, .own 1, .any, .any, .any, .any, .any, .any, .any, .any, .any, .any, .any, .any, .any, .any, .any, .any, .any, .any, .any, .any, .any, .any, .any, .any, .any, .ref (GBody.cells arr_0) 0, .ref (GBody.cells arr_0) 0, .ref (GBody.cells arr_0) 0, .sl (arr_0.Mesh.Places.map GVector.cells), .i .i64 (arr_0.Mesh.Places.length : Int), .i .i64 (x_l0 + 1), .any, .any, .any, .any, .any, .any, .any, .any, .any, .any, .any, .any, .any, .any, .any, .any, .any, .any, .any, .any, .any, .any, .any, .any, .any, .any, .any, .any, .any, .any], [.vec 27 1 ((r0_l1.set 3 (nd_spec_l03Parts_8 arr_0 x_l0 r0_l1)).map (cF .f32)) false, .nest 54 ((v_spec_l03Hinges arr_0.Mesh).map fun l => l.map (cI .i64)) false]⟩ from (by simp [List.map_set, cF])) (ih (x_l0 + 1) (r0_l1.set 3 (nd_spec_l03Parts_8 arr_0 x_l0 r0_l1)) (show 0 ≤ (x_l0 + 1) from (by first | assumption | omega)) (show (r0_l1.set 3 (nd_spec_l03Parts_8 arr_0 x_l0 r0_l1)).length = (lr_spec_l03Parts_3_2 arr_0).length from (by first | assumption | omega | (have q := hp5.w; first | omega | (have q := okBd_spr hp5 (by assumption) h_0; omega) | (have q := l03Hinges_len _ hp5.e; omega) | (simp; done)) | (simp_all <;> omega))) (by first | assumption | omega))
  | false =>
   have gh_0 := of_decide_eq_false h_0
   have e : lo_spec_l03Parts_4 arr_0 (k + 1) x_l0 r0_l1 = r0_l1 := by simp only [lo_spec_l03Parts_4, h_0, cond_false]
   rw [e]
   exact outR (e := (.exit 6)) E0Ok hMixed [] mk_spec_l03Parts_4_1 [0, 1] (sB h_0 <| sN) (by kernel_rfl) (by intro h; cases h)

theorem ln_spec_l03Parts_4_0 (arr_0 : GBody) : ∀ (k : Nat) (x_l0 : Int) (r0_l1 : (List Nat)) (hk : ((arr_0.Mesh.Places.length : Int) - x_l0).toNat < k), (lo_spec_l03Parts_4 arr_0 k x_l0 r0_l1).length = r0_l1.length := by
  intro k
  induction k with
  | zero => intro x_l0 r0_l1 hk; exact absurd hk (Nat.not_lt_zero _)
  | succ k ih =>
    intro x_l0 r0_l1 hk
    cases h_0 : (decide (x_l0 < (arr_0.Mesh.Places.length : Int))) with
    | true =>
      have e : lo_spec_l03Parts_4 arr_0 (k + 1) x_l0 r0_l1 = (lo_spec_l03Parts_4 arr_0 k (x_l0 + 1) (r0_l1.set 3 (nd_spec_l03Parts_8 arr_0 x_l0 r0_l1))) := by simp only [lo_spec_l03Parts_4, h_0, cond_true]
      rw [e, ih (x_l0 + 1) (r0_l1.set 3 (nd_spec_l03Parts_8 arr_0 x_l0 r0_l1)) (by first | assumption | omega | (have q := hp5.w; first | omega | (have q := okBd_spr hp5 (by assumption) h_0; omega) | (have q := l03Hinges_len _ hp5.e; omega) | (simp; done)) | (simp_all <;> omega))]; simp
    | false =>
      have e : lo_spec_l03Parts_4 arr_0 (k + 1) x_l0 r0_l1 = r0_l1 := by simp only [lo_spec_l03Parts_4, h_0, cond_false]
      first | (rw [e]; done) | (rw [e]; rfl)

def lr_spec_l03Parts_4_3 (arr_0 : GBody) : (List Nat) := (lo_spec_l03Parts_4 arr_0 (((arr_0.Mesh.Places.length : Int) - 0).toNat + 1) 0 (lr_spec_l03Parts_3_2 arr_0))

@[simp] theorem len_lr_spec_l03Parts_4_3_0 (arr_0 : GBody) : (lr_spec_l03Parts_4_3 arr_0).length = ((lr_spec_l03Parts_3_2 arr_0) : (List Nat)).length := ln_spec_l03Parts_4_0 arr_0 (((arr_0.Mesh.Places.length : Int) - 0).toNat + 1) 0 (lr_spec_l03Parts_3_2 arr_0) (by first | exact Nat.lt_succ_self _ | simp)

def v_spec_l03Parts (arr_0 : GBody) : (List Nat) := (lr_spec_l03Parts_4_3 arr_0)

@[simp] theorem len_v_spec_l03Parts_0 (arr_0 : GBody) : (v_spec_l03Parts arr_0).length = 4 := by
  first | (simp [v_spec_l03Parts]; done)

theorem len_l03Parts (b : GBody) : (v_spec_l03Parts b).length = 4 := by
  unfold v_spec_l03Parts
  rw [len_lr_spec_l03Parts_4_3_0, len_lr_spec_l03Parts_3_2_0, len_lr_spec_l03Parts_2_1_0, len_lr_spec_l03Parts_1_0_0]; simp

theorem t_spec_l03Parts (arr_0 : GBody) (hp0 : arr_0.Mesh.Places.length ≤ 1073741824) (hp1 : arr_0.Mesh.Triangles.length ≤ 1073741824) (hp2 : ∀ t ∈ arr_0.Mesh.Triangles, t.length ≤ 1073741824) (hp3 : arr_0.Springs.length ≤ 1073741824) (hp4 : arr_0.Weights.length ≤ 1073741824) (hp5 : OkBd arr_0)  : Fn prog 63 [.ref (GBody.cells arr_0) 0] (.own 0) [.vec 27 1 ((v_spec_l03Parts arr_0).map (cF .f32)) false] := by
 have y0 : (0 : Int) ≤ 4 := (by first | assumption | omega)
 have y1 : (4 : Int) ≤ 2147483648 := (by first | assumption | omega)
 have y2 : OkE arr_0.Mesh.Places.length arr_0.Mesh.Triangles := (by first | assumption | omega | exact hp5.e | exact tri3 hp5.e (by assumption) h_0 | exact tri3L hp5.e (by assumption) h_0 | exact hin4 hp5.e (by assumption) h_0 | exact hin4L hp5.e (by assumption) h_0)
 refine fnS E0Ok hMixed (c := bodyOf f63) [] (.own 0) [.vec 27 1 ((lr_spec_l03Parts_4_3 arr_0).map (cF .f32)) false] func63 (sC (show (4 : Int) = 4 from rfl) <| sC y0 <| sC y1 <| sZ GSpring.cells arr_0.Springs <| sL mk_spec_l03Parts_1_0 1 (lp_cast (st2 := ⟨[.ref (GBody.cells arr_0) 0, .any, .nils, .own 0, .ref (GBody.cells arr_0) 0, .any, .any, .any, .any, .any, .any, .any, .any, .own 0, .ref (GBody.cells arr_0) 0, .ref (GBody.cells arr_0) 0, .ref (GBody.cells arr_0) 0, .ref (GBody.cells arr_0) 0, .ref (GBody.cells arr_0) 0, .ref (GBody.cells arr_0) 2, .sl (arr_0.Springs.map GSpring.cells), .i .i64 (arr_0.Springs.length : Int), .i .i64 0, .any, .any, .any, .any, .any, .any, .any, .any, .any, .any, .any, .any, .any, .any, .any, .any, .any, .any, .any, .any, .any, .any, .any, .any, .any, .any, .any, .any, .any, .any, .any, .any, .any, .any, .any, .any, .any, .any, .any, .any, .any, .any, .any, .any, .any, .any, .any, .any, .any, .any, .any, .any, .any, .any, .any, .any, .any, .any, .any, .any, .any, .any, .any, .any, .any, .any, .any, .any, .any, .any, .any, .any, .any, .any, .any, .any, .any, .any, .any, .any, .any, .any, .any, .any, .any, .any, .any, .any, .any, .any, .any, .any, .any, .any, .any, .any, .any, .any, .any, .any, .any, .any, .any, .any, .any, .any, .any, .any, .any, .any, .any, .any, .any, .any, .any, .any, .any, .any, .any, .any, .any, .any, .any, .any, .any, .any, .any, .any, .any, .any, .any, .any, .any, .any, .any, .any, .any], [.vec 27 1 (List.replicate (Int.toNat 4) [.f .f32 0]) false]⟩) (lp_val (ls_spec_l03Parts_1 arr_0) (x := (lr_spec_l03Parts_1_0 arr_0)) (lp_spec_l03Parts_1 arr_0 hp0 hp1 hp2 hp3 hp4 hp5 (((arr_0.Springs.length : Int) - 0).toNat + 1) 0 (List.replicate 4 0) (show 0 ≤ 0 from (by first | omega | (simp; done))) (show (List.replicate 4 0).length = 4 from (by first | omega | (simp; done))) (Nat.lt_succ_self _)) rfl) (by simp [hd_spec_l03Parts_1, cF])) <| sZ (cL (cI .i64)) arr_0.Mesh.Triangles <| sL mk_spec_l03Parts_2_0 1 (lp_val (ls_spec_l03Parts_2 arr_0) (x := (lr_spec_l03Parts_2_1 arr_0)) (lp_spec_l03Parts_2 arr_0 hp0 hp1 hp2 hp3 hp4 hp5 (((arr_0.Mesh.Triangles.length : Int) - 0).toNat + 1) 0 (lr_spec_l03Parts_1_0 arr_0) (show 0 ≤ 0 from (by first | omega | (simp; done))) (show (lr_spec_l03Parts_1_0 arr_0).length = (lr_spec_l03Parts_1_0 arr_0).length from (by first | omega | (simp; done))) (Nat.lt_succ_self _)) rfl) <| sF (Fn.sub (args := [.ref (GBody.cells arr_0) 0]) (r := .own 0) (new := [.nest 54 ((v_spec_l03Hinges arr_0.Mesh).map fun l => l.map (cI .i64)) false]) [some 2] (t_spec_l03Hinges arr_0.Mesh hp0 hp1 hp2 y2)) <| sM (nlen_ok (l := (v_spec_l03Hinges arr_0.Mesh)) (f := fun l => l.map (cI .i64))) <| sL mk_spec_l03Parts_3_0 2 (lp_val (ls_spec_l03Parts_3 arr_0) (x := (lr_spec_l03Parts_3_2 arr_0)) (lp_spec_l03Parts_3 arr_0 hp0 hp1 hp2 hp3 hp4 hp5 ((((v_spec_l03Hinges arr_0.Mesh).length : Int) - 0).toNat + 1) 0 (lr_spec_l03Parts_2_1 arr_0) (show 0 ≤ 0 from (by first | omega | (simp; done))) (show (lr_spec_l03Parts_2_1 arr_0).length = (lr_spec_l03Parts_2_1 arr_0).length from (by first | omega | (simp; done))) (Nat.lt_succ_self _)) rfl) <| sZ GVector.cells arr_0.Mesh.Places <| sL mk_spec_l03Parts_4_0 2 (lp_val (ls_spec_l03Parts_4 arr_0) (x := (lr_spec_l03Parts_4_3 arr_0)) (lp_spec_l03Parts_4 arr_0 hp0 hp1 hp2 hp3 hp4 hp5 (((arr_0.Mesh.Places.length : Int) - 0).toNat + 1) 0 (lr_spec_l03Parts_3_2 arr_0) (show 0 ≤ 0 from (by first | omega | (simp; done))) (show (lr_spec_l03Parts_3_2 arr_0).length = (lr_spec_l03Parts_3_2 arr_0).length from (by first | omega | (simp; done))) (Nat.lt_succ_self _)) rfl) <| sK [0] sN) rfl (by kernel_rfl) (by kernel_rfl) rfl ?_ ?_
 · rfl
 · simp [v_spec_l03Parts]

def nd_spec_l03Energy_0 (b_0 : GBody) : Nat := (fop .add .f32 (fop .add .f32 (fop .add .f32 ((v_spec_l03Parts b_0).getD 0 default) ((v_spec_l03Parts b_0).getD 1 default)) ((v_spec_l03Parts b_0).getD 2 default)) ((v_spec_l03Parts b_0).getD 3 default))

def v_spec_l03Energy (b_0 : GBody) : Nat := (nd_spec_l03Energy_0 b_0)

theorem t_spec_l03Energy (b_0 : GBody) (hp0 : b_0.Mesh.Places.length ≤ 1073741824) (hp1 : b_0.Mesh.Triangles.length ≤ 1073741824) (hp2 : ∀ t ∈ b_0.Mesh.Triangles, t.length ≤ 1073741824) (hp3 : b_0.Springs.length ≤ 1073741824) (hp4 : b_0.Weights.length ≤ 1073741824) (hp5 : OkBd b_0)  : Fn prog 33 [.ref (GBody.cells b_0) 0] (.f .f32 (v_spec_l03Energy b_0)) [] := by
 have y0 : (0 : Int) ≤ 0 := (by first | assumption | omega)
 have y1 : 0 < ((v_spec_l03Parts b_0).length : Int) := (by first | assumption | omega | (have q := len_l03Parts b_0; omega) | (simp_all <;> omega))
 have y2 : 0 < (v_spec_l03Parts b_0).length := (by first | assumption | omega)
 have y3 : (0 : Int) ≤ 1 := (by first | assumption | omega)
 have y4 : 1 < ((v_spec_l03Parts b_0).length : Int) := (by first | assumption | omega | (have q := len_l03Parts b_0; omega) | (simp_all <;> omega))
 have y5 : 1 < (v_spec_l03Parts b_0).length := (by first | assumption | omega)
 have y6 : (0 : Int) ≤ 2 := (by first | assumption | omega)
 have y7 : 2 < ((v_spec_l03Parts b_0).length : Int) := (by first | assumption | omega | (have q := len_l03Parts b_0; omega) | (simp_all <;> omega))
 have y8 : 2 < (v_spec_l03Parts b_0).length := (by first | assumption | omega)
 have y9 : (0 : Int) ≤ 3 := (by first | assumption | omega)
 have y10 : 3 < ((v_spec_l03Parts b_0).length : Int) := (by first | assumption | omega | (have q := len_l03Parts b_0; omega) | (simp_all <;> omega))
 have y11 : 3 < (v_spec_l03Parts b_0).length := (by first | assumption | omega)
 refine fnS E0Ok hMixed (c := bodyOf f33) [] (.f .f32 (nd_spec_l03Energy_0 b_0)) [] func33 (sF (t_spec_l03Parts b_0 hp0 hp1 hp2 hp3 hp4 hp5) <| sK [14, 14] <| sX (cF .f32) (v_spec_l03Parts b_0) 0 y0 y1 <| sV (cF .f32) (v_spec_l03Parts b_0) 0 y2 <| sX (cF .f32) (v_spec_l03Parts b_0) 1 y3 y4 <| sV (cF .f32) (v_spec_l03Parts b_0) 1 y5 <| sX (cF .f32) (v_spec_l03Parts b_0) 2 y6 y7 <| sV (cF .f32) (v_spec_l03Parts b_0) 2 y8 <| sX (cF .f32) (v_spec_l03Parts b_0) 3 y9 y10 <| sV (cF .f32) (v_spec_l03Parts b_0) 3 y11 <| sK [] sN) rfl (by kernel_rfl) (by kernel_rfl) rfl ?_ ?_
 · rfl
 · rfl

def nd_spec_SlopeAt_0 (b_0 : GBody) (place_1 : Int) (axis_2 : Int) (step_3 : Nat) : Nat := (fop .quo .f32 (fop .sub .f32 (v_spec_l03Energy (v_spec_l03Bumped b_0 place_1 axis_2 step_3)) (v_spec_l03Energy (v_spec_l03Bumped b_0 place_1 axis_2 (fneg .f32 step_3)))) (fop .mul .f32 1073741824 step_3))

def v_spec_SlopeAt (b_0 : GBody) (place_1 : Int) (axis_2 : Int) (step_3 : Nat) : Nat × Bool := (cond (v_spec_l03Is b_0)
  (cond (v_spec_l00In place_1 0 (IntKind.wrap .i64 ((b_0.Mesh.Places.length : Int) - 1)))
    (cond (v_spec_l00In axis_2 0 2)
      (cond (v_spec_l03Positive step_3)
        ((nd_spec_SlopeAt_0 b_0 place_1 axis_2 step_3), true)
        (0, false))
      (0, false))
    (0, false))
  (0, false))

theorem t_spec_SlopeAt (b_0 : GBody) (place_1 : Int) (axis_2 : Int) (step_3 : Nat) (hp0 : b_0.Mesh.Places.length ≤ 1073741824) (hp1 : b_0.Mesh.Triangles.length ≤ 1073741824) (hp2 : ∀ t ∈ b_0.Mesh.Triangles, t.length ≤ 1073741824) (hp3 : b_0.Springs.length ≤ 1073741824) (hp4 : b_0.Weights.length ≤ 1073741824)  : Fn prog 8 [.agg [.sl (b_0.Mesh.Places.map GVector.cells), .sl (b_0.Mesh.Triangles.map (cL (cI .i64))), .sl (b_0.Springs.map GSpring.cells), .f .f32 b_0.Film, .f .f32 b_0.Bend, .sl (b_0.Weights.map (cF .f32)), .f .f32 b_0.Fall.X, .f .f32 b_0.Fall.Y, .f .f32 b_0.Fall.Z], .i .i64 place_1, .i .i64 axis_2, .f .f32 step_3] (.tup [.f .f32 ((v_spec_SlopeAt b_0 place_1 axis_2 step_3).1), .b ((v_spec_SlopeAt b_0 place_1 axis_2 step_3).2)]) [] := by
 have p {a C} (s : Scr a C) := sF (t_spec_l03Is b_0 hp0 hp1 hp2 hp3 hp4) <| s
 cases h0 : (v_spec_l03Is b_0) with
 | true =>
  have q {a C} (s : Scr a C) := p (sB' h0 <| sB' h0 <| sB' h0 <| sB' h0 <| sB' h0 <| sZ GVector.cells b_0.Mesh.Places <| sB' h0 <| sW .i64 ((b_0.Mesh.Places.length : Int) - 1) <| sB' h0 <| sF (t_spec_l00In place_1 0 (IntKind.wrap .i64 ((b_0.Mesh.Places.length : Int) - 1))) <| sB' h0 <| sB' h0 <| s)
  clear p
  cases h1 : (v_spec_l00In place_1 0 (IntKind.wrap .i64 ((b_0.Mesh.Places.length : Int) - 1))) with
  | true =>
   have p {a C} (s : Scr a C) := q (sB' h1 <| sB' h1 <| sF (t_spec_l00In axis_2 0 2) <| sB' h1 <| sB' h1 <| s)
   clear q
   cases h2 : (v_spec_l00In axis_2 0 2) with
   | true =>
    have q {a C} (s : Scr a C) := p (sB' h2 <| sB' h2 <| sF (t_spec_l03Positive step_3) <| sB' h2 <| sB' h2 <| s)
    clear p
    cases h3 : (v_spec_l03Positive step_3) with
    | true =>
     have y0 : OkBd b_0 := by clear q; exact (by first | assumption | omega | exact okBd_is _ (by assumption) | exact okBd_bump (okBd_is _ (by assumption)) _ _ _ | exact leB_all _ _ _ _ (by assumption) | (have q := in_ok (n := b_0.Mesh.Places.length) (by omega) (by assumption : v_spec_l00In place_1 0 (IntKind.wrap .i64 ((b_0.Mesh.Places.length : Int) - 1)) = true); omega))
     have y1 : 0 ≤ place_1 := by clear q; exact (by first | assumption | omega | exact okBd_is _ (by assumption) | exact okBd_bump (okBd_is _ (by assumption)) _ _ _ | exact leB_all _ _ _ _ (by assumption) | (have q := in_ok (n := b_0.Mesh.Places.length) (by omega) (by assumption : v_spec_l00In place_1 0 (IntKind.wrap .i64 ((b_0.Mesh.Places.length : Int) - 1)) = true); omega))
     have y2 : place_1 < (b_0.Mesh.Places.length : Int) := by clear q; exact (by first | assumption | omega | exact okBd_is _ (by assumption) | exact okBd_bump (okBd_is _ (by assumption)) _ _ _ | exact leB_all _ _ _ _ (by assumption) | (have q := in_ok (n := b_0.Mesh.Places.length) (by omega) (by assumption : v_spec_l00In place_1 0 (IntKind.wrap .i64 ((b_0.Mesh.Places.length : Int) - 1)) = true); omega))
     have l1 := (leB_P b_0 place_1 axis_2 step_3)
     have l2 := (leB_T b_0 place_1 axis_2 step_3)
     have l3 := (leB_W b_0 place_1 axis_2 step_3)
     have l4 := (leB_S b_0 place_1 axis_2 step_3)
     have l5 := (leB_P b_0 place_1 axis_2 (fneg .f32 step_3))
     have l6 := (leB_T b_0 place_1 axis_2 (fneg .f32 step_3))
     have l7 := (leB_W b_0 place_1 axis_2 (fneg .f32 step_3))
     have l8 := (leB_S b_0 place_1 axis_2 (fneg .f32 step_3))
     have y3 : (v_spec_l03Bumped b_0 place_1 axis_2 step_3).Mesh.Places.length ≤ 1073741824 := by clear q; exact (by first | assumption | omega)
     have y4 : (v_spec_l03Bumped b_0 place_1 axis_2 step_3).Mesh.Triangles.length ≤ 1073741824 := by clear q; exact (by first | assumption | omega)
     have y5 : ∀ t ∈ (v_spec_l03Bumped b_0 place_1 axis_2 step_3).Mesh.Triangles, t.length ≤ 1073741824 := by clear q; exact (by first | assumption | omega | exact okBd_is _ (by assumption) | exact okBd_bump (okBd_is _ (by assumption)) _ _ _ | exact leB_all _ _ _ _ (by assumption) | (have q := in_ok (n := b_0.Mesh.Places.length) (by omega) (by assumption : v_spec_l00In place_1 0 (IntKind.wrap .i64 ((b_0.Mesh.Places.length : Int) - 1)) = true); omega))
     have y6 : (v_spec_l03Bumped b_0 place_1 axis_2 step_3).Springs.length ≤ 1073741824 := by clear q; exact (by first | assumption | omega)
     have y7 : (v_spec_l03Bumped b_0 place_1 axis_2 step_3).Weights.length ≤ 1073741824 := by clear q; exact (by first | assumption | omega)
     have y8 : OkBd (v_spec_l03Bumped b_0 place_1 axis_2 step_3) := by clear q; exact (by first | assumption | omega | exact okBd_is _ (by assumption) | exact okBd_bump (okBd_is _ (by assumption)) _ _ _ | exact leB_all _ _ _ _ (by assumption) | (have q := in_ok (n := b_0.Mesh.Places.length) (by omega) (by assumption : v_spec_l00In place_1 0 (IntKind.wrap .i64 ((b_0.Mesh.Places.length : Int) - 1)) = true); omega))
     have y9 : (v_spec_l03Bumped b_0 place_1 axis_2 (fneg .f32 step_3)).Mesh.Places.length ≤ 1073741824 := by clear q; exact (by first | assumption | omega)
     have y10 : (v_spec_l03Bumped b_0 place_1 axis_2 (fneg .f32 step_3)).Mesh.Triangles.length ≤ 1073741824 := by clear q; exact (by first | assumption | omega)
     have y11 : ∀ t ∈ (v_spec_l03Bumped b_0 place_1 axis_2 (fneg .f32 step_3)).Mesh.Triangles, t.length ≤ 1073741824 := by clear q; exact (by first | assumption | omega | exact okBd_is _ (by assumption) | exact okBd_bump (okBd_is _ (by assumption)) _ _ _ | exact leB_all _ _ _ _ (by assumption) | (have q := in_ok (n := b_0.Mesh.Places.length) (by omega) (by assumption : v_spec_l00In place_1 0 (IntKind.wrap .i64 ((b_0.Mesh.Places.length : Int) - 1)) = true); omega))
     have y12 : (v_spec_l03Bumped b_0 place_1 axis_2 (fneg .f32 step_3)).Springs.length ≤ 1073741824 := by clear q; exact (by first | assumption | omega)
     have y13 : (v_spec_l03Bumped b_0 place_1 axis_2 (fneg .f32 step_3)).Weights.length ≤ 1073741824 := by clear q; exact (by first | assumption | omega)
     have y14 : OkBd (v_spec_l03Bumped b_0 place_1 axis_2 (fneg .f32 step_3)) := by clear q; exact (by first | assumption | omega | exact okBd_is _ (by assumption) | exact okBd_bump (okBd_is _ (by assumption)) _ _ _ | exact leB_all _ _ _ _ (by assumption) | (have q := in_ok (n := b_0.Mesh.Places.length) (by omega) (by assumption : v_spec_l00In place_1 0 (IntKind.wrap .i64 ((b_0.Mesh.Places.length : Int) - 1)) = true); omega))
     refine fnS E0Ok hMixed (c := bodyOf f8) [] (.tup [.f .f32 (nd_spec_SlopeAt_0 b_0 place_1 axis_2 step_3), .b true]) [] func8 (q (sB' h3 <| sF (t_spec_l03Bumped b_0 place_1 axis_2 step_3 hp0 hp1 hp2 hp3 hp4 y0 y1 y2) <| sF (t_spec_l03Bumped b_0 place_1 axis_2 (fneg .f32 step_3) hp0 hp1 hp2 hp3 hp4 y0 y1 y2) <| sF (Fn.castA (args' := [.ref [.sl (((v_spec_l03Bumped b_0 place_1 axis_2 step_3).Mesh.Places).map GVector.cells), .sl ((((v_spec_l03Bumped b_0 place_1 axis_2 step_3).Mesh.Triangles).map fun l => l.map (cI .i64)).map fun l => [.sl l]), .sl (((v_spec_l03Bumped b_0 place_1 axis_2 step_3).Springs).map GSpring.cells), .f .f32 ((v_spec_l03Bumped b_0 place_1 axis_2 step_3).Film), .f .f32 ((v_spec_l03Bumped b_0 place_1 axis_2 step_3).Bend), .sl (((v_spec_l03Bumped b_0 place_1 axis_2 step_3).Weights).map (cF .f32)), .f .f32 ((v_spec_l03Bumped b_0 place_1 axis_2 step_3).Fall.X), .f .f32 ((v_spec_l03Bumped b_0 place_1 axis_2 step_3).Fall.Y), .f .f32 ((v_spec_l03Bumped b_0 place_1 axis_2 step_3).Fall.Z)] 0]) (t_spec_l03Energy (v_spec_l03Bumped b_0 place_1 axis_2 step_3) y3 y4 y5 y6 y7 y8) (by first | (simp [cL, Function.comp_def]; done) | (simp [cL, Function.comp_def]; rfl))) <| sF (Fn.castA (args' := [.ref [.sl (((v_spec_l03Bumped b_0 place_1 axis_2 (fneg .f32 step_3)).Mesh.Places).map GVector.cells), .sl ((((v_spec_l03Bumped b_0 place_1 axis_2 (fneg .f32 step_3)).Mesh.Triangles).map fun l => l.map (cI .i64)).map fun l => [.sl l]), .sl (((v_spec_l03Bumped b_0 place_1 axis_2 (fneg .f32 step_3)).Springs).map GSpring.cells), .f .f32 ((v_spec_l03Bumped b_0 place_1 axis_2 (fneg .f32 step_3)).Film), .f .f32 ((v_spec_l03Bumped b_0 place_1 axis_2 (fneg .f32 step_3)).Bend), .sl (((v_spec_l03Bumped b_0 place_1 axis_2 (fneg .f32 step_3)).Weights).map (cF .f32)), .f .f32 ((v_spec_l03Bumped b_0 place_1 axis_2 (fneg .f32 step_3)).Fall.X), .f .f32 ((v_spec_l03Bumped b_0 place_1 axis_2 (fneg .f32 step_3)).Fall.Y), .f .f32 ((v_spec_l03Bumped b_0 place_1 axis_2 (fneg .f32 step_3)).Fall.Z)] 0]) (t_spec_l03Energy (v_spec_l03Bumped b_0 place_1 axis_2 (fneg .f32 step_3)) y9 y10 y11 y12 y13 y14) (by first | (simp [cL, Function.comp_def]; done) | (simp [cL, Function.comp_def]; rfl))) <| sK [] sN)) rfl (by kernel_rfl) (by kernel_rfl) rfl ?_ ?_
     · simp only [v_spec_SlopeAt, h0, h1, h2, h3, cond_true]
     · rfl
    | false =>
     refine fnS E0Ok hMixed (c := bodyOf f8) [] (.tup [.f .f32 0, .b false]) [] func8 (q (sB' h3 <| sK [] sN)) rfl (by kernel_rfl) (by kernel_rfl) rfl ?_ ?_
     · simp only [v_spec_SlopeAt, h0, h1, h2, h3, cond_true, cond_false]
     · rfl
   | false =>
    refine fnS E0Ok hMixed (c := bodyOf f8) [] (.tup [.f .f32 0, .b false]) [] func8 (p (sB' h2 <| sB' h2 <| sB' h2 <| sB' h2 <| sB (show true = true from rfl) <| sK [] sN)) rfl (by kernel_rfl) (by kernel_rfl) rfl ?_ ?_
    · simp only [v_spec_SlopeAt, h0, h1, h2, cond_true, cond_false]
    · rfl
  | false =>
   refine fnS E0Ok hMixed (c := bodyOf f8) [] (.tup [.f .f32 0, .b false]) [] func8 (q (sB' h1 <| sB' h1 <| sB' h1 <| sB' h1 <| sB (show true = true from rfl) <| sB (show true = true from rfl) <| sB (show true = true from rfl) <| sB (show true = true from rfl) <| sB (show true = true from rfl) <| sK [] sN)) rfl (by kernel_rfl) (by kernel_rfl) rfl ?_ ?_
   · simp only [v_spec_SlopeAt, h0, h1, cond_true, cond_false]
   · rfl
 | false =>
  refine fnS E0Ok hMixed (c := bodyOf f8) [] (.tup [.f .f32 0, .b false]) [] func8 (p (sB' h0 <| sB' h0 <| sB' h0 <| sB' h0 <| sB' h0 <| sB' h0 <| sB' h0 <| sB' h0 <| sB' h0 <| sB (show true = true from rfl) <| sB (show true = true from rfl) <| sB (show true = true from rfl) <| sB (show true = true from rfl) <| sB (show true = true from rfl) <| sB (show true = true from rfl) <| sB (show true = true from rfl) <| sB (show true = true from rfl) <| sB (show true = true from rfl) <| sK [] sN)) rfl (by kernel_rfl) (by kernel_rfl) rfl ?_ ?_
  · simp only [v_spec_SlopeAt, h0, cond_false]
  · rfl

def v_impl_within (n_0 : Int) (low_1 : Int) (high_2 : Int) : Bool := (cond (decide (n_0 ≥ low_1))
  (decide (n_0 ≤ high_2))
  false)

theorem t_impl_within (n_0 : Int) (low_1 : Int) (high_2 : Int)   : Fn prog 39 [.i .i64 n_0, .i .i64 low_1, .i .i64 high_2] (.b (v_impl_within n_0 low_1 high_2)) [] := by
 cases h0 : (decide (n_0 ≥ low_1)) with
 | true =>
  have gh0 := of_decide_eq_true h0
  refine fnS E0Ok hMixed (c := bodyOf f39) [] (.b (decide (n_0 ≤ high_2))) [] func39 (sB h0 <| sB h0 <| sB h0 <| sB h0 <| sK [] sN) rfl (by kernel_rfl) (by kernel_rfl) rfl ?_ ?_
  · simp only [v_impl_within, h0, cond_true]
  · rfl
 | false =>
  have gh0 := of_decide_eq_false h0
  refine fnS E0Ok hMixed (c := bodyOf f39) [] (.b false) [] func39 (sB h0 <| sB h0 <| sB h0 <| sB h0 <| sK [] sN) rfl (by kernel_rfl) (by kernel_rfl) rfl ?_ ?_
  · simp only [v_impl_within, h0, cond_false]
  · rfl

def lo_impl_ValidMesh_2 (m_0 : GMesh) (x_l0 : Int) : Nat → Int → (Unit) ⊕ (Unit)
  | 0, _ => .inl default
  | k + 1, x_l0_1 => (cond (decide (x_l0_1 < ((m_0.Triangles.getD x_l0.toNat default).length : Int)))
    (cond (v_impl_within ((m_0.Triangles.getD x_l0.toNat default).getD x_l0_1.toNat default) 0 (IntKind.wrap .i64 ((m_0.Places.length : Int) - 1)))
      (lo_impl_ValidMesh_2 m_0 x_l0 k (x_l0_1 + 1))
      (.inl ()))
    (.inr ()))

def ls_impl_ValidMesh_2 (m_0 : GMesh) (x_l0 : Int) : (Unit) ⊕ (Unit) → Ex × St
  | .inl r => (.ret, ⟨[.any, .any, .b false, .any, .any, .any, .any, .any, .any, .any, .any, .any, .any, .any, .any, .any, .any, .any, .any, .any, .any, .any, .any, .any, .any, .any, .any, .any, .any, .any, .any, .any, .any, .any, .any, .any, .any, .any, .any, .any, .any, .any, .any, .any, .any, .any, .any, .any, .any, .any, .any, .any, .any, .any, .any, .any, .any, .any, .any, .any, .any, .any, .any, .any, .any, .any, .any, .any, .any], []⟩)
  | .inr r => ((.exit 2), ⟨[.agg [.sl (m_0.Places.map GVector.cells), .sl (m_0.Triangles.map (cL (cI .i64)))], .ptr 0 0 0, .any, .i .i64 (m_0.Places.length : Int), .any, .sl ((m_0.Triangles.getD x_l0.toNat default).map (cI .i64)), .any, .any, .ptr 0 0 0, .sl (m_0.Places.map GVector.cells), .i .i64 (m_0.Places.length : Int), .i .i64 (m_0.Places.length : Int), .b (decide ((m_0.Places.length : Int) > 64)), .b (decide ((m_0.Places.length : Int) > 64)), .ptr 0 0 1, .sl (m_0.Triangles.map (cL (cI .i64))), .i .i64 (m_0.Triangles.length : Int), .b (decide ((m_0.Triangles.length : Int) > 128)), .b (decide ((m_0.Triangles.length : Int) > 128)), .ptr 0 0 1, .sl (m_0.Triangles.map (cL (cI .i64))), .i .i64 (m_0.Triangles.length : Int), .i .i64 x_l0, .b (decide (x_l0 < (m_0.Triangles.length : Int))), .ref [.sl ((m_0.Triangles.getD x_l0.toNat default).map (cI .i64))] 0, .sl ((m_0.Triangles.getD x_l0.toNat default).map (cI .i64)), .sl ((m_0.Triangles.getD x_l0.toNat default).map (cI .i64)), .i .i64 ((m_0.Triangles.getD x_l0.toNat default).length : Int), .b (((m_0.Triangles.getD x_l0.toNat default).length : Int) != 3), .b (((m_0.Triangles.getD x_l0.toNat default).length : Int) != 3), .sl ((m_0.Triangles.getD x_l0.toNat default).map (cI .i64)), .ref [.i .i64 ((m_0.Triangles.getD x_l0.toNat default).getD 0 default)] 0, .i .i64 ((m_0.Triangles.getD x_l0.toNat default).getD 0 default), .sl ((m_0.Triangles.getD x_l0.toNat default).map (cI .i64)), .ref [.i .i64 ((m_0.Triangles.getD x_l0.toNat default).getD 1 default)] 0, .i .i64 ((m_0.Triangles.getD x_l0.toNat default).getD 1 default), .b (((m_0.Triangles.getD x_l0.toNat default).getD 0 default) == ((m_0.Triangles.getD x_l0.toNat default).getD 1 default)), .b (((m_0.Triangles.getD x_l0.toNat default).getD 0 default) == ((m_0.Triangles.getD x_l0.toNat default).getD 1 default)), .b (((m_0.Triangles.getD x_l0.toNat default).getD 0 default) == ((m_0.Triangles.getD x_l0.toNat default).getD 1 default)), .sl ((m_0.Triangles.getD x_l0.toNat default).map (cI .i64)), .ref [.i .i64 ((m_0.Triangles.getD x_l0.toNat default).getD 1 default)] 0, .i .i64 ((m_0.Triangles.getD x_l0.toNat default).getD 1 default), .sl ((m_0.Triangles.getD x_l0.toNat default).map (cI .i64)), .ref [.i .i64 ((m_0.Triangles.getD x_l0.toNat default).getD 2 default)] 0, .i .i64 ((m_0.Triangles.getD x_l0.toNat default).getD 2 default), .b (((m_0.Triangles.getD x_l0.toNat default).getD 1 default) == ((m_0.Triangles.getD x_l0.toNat default).getD 2 default)), .b (((m_0.Triangles.getD x_l0.toNat default).getD 1 default) == ((m_0.Triangles.getD x_l0.toNat default).getD 2 default)), .b (((m_0.Triangles.getD x_l0.toNat default).getD 1 default) == ((m_0.Triangles.getD x_l0.toNat default).getD 2 default)), .sl ((m_0.Triangles.getD x_l0.toNat default).map (cI .i64)), .ref [.i .i64 ((m_0.Triangles.getD x_l0.toNat default).getD 0 default)] 0, .i .i64 ((m_0.Triangles.getD x_l0.toNat default).getD 0 default), .sl ((m_0.Triangles.getD x_l0.toNat default).map (cI .i64)), .ref [.i .i64 ((m_0.Triangles.getD x_l0.toNat default).getD 2 default)] 0, .i .i64 ((m_0.Triangles.getD x_l0.toNat default).getD 2 default), .b (((m_0.Triangles.getD x_l0.toNat default).getD 0 default) == ((m_0.Triangles.getD x_l0.toNat default).getD 2 default)), .b (((m_0.Triangles.getD x_l0.toNat default).getD 0 default) == ((m_0.Triangles.getD x_l0.toNat default).getD 2 default)), .sl ((m_0.Triangles.getD x_l0.toNat default).map (cI .i64)), .any, .any, .any, .any, .any, .any, .any, .any, .any, .any, .any, .any], [.box 38 [.sl (m_0.Places.map GVector.cells), .sl (m_0.Triangles.map (cL (cI .i64)))]]⟩)

def hd_impl_ValidMesh_2 (m_0 : GMesh) (x_l0 : Int) (x_l0_1 : Int) : St := ⟨[.agg [.sl (m_0.Places.map GVector.cells), .sl (m_0.Triangles.map (cL (cI .i64)))], .ptr 0 0 0, .any, .i .i64 (m_0.Places.length : Int), .any, .sl ((m_0.Triangles.getD x_l0.toNat default).map (cI .i64)), .any, .any, .ptr 0 0 0, .sl (m_0.Places.map GVector.cells), .i .i64 (m_0.Places.length : Int), .i .i64 (m_0.Places.length : Int), .b (decide ((m_0.Places.length : Int) > 64)), .b (decide ((m_0.Places.length : Int) > 64)), .ptr 0 0 1, .sl (m_0.Triangles.map (cL (cI .i64))), .i .i64 (m_0.Triangles.length : Int), .b (decide ((m_0.Triangles.length : Int) > 128)), .b (decide ((m_0.Triangles.length : Int) > 128)), .ptr 0 0 1, .sl (m_0.Triangles.map (cL (cI .i64))), .i .i64 (m_0.Triangles.length : Int), .i .i64 x_l0, .b (decide (x_l0 < (m_0.Triangles.length : Int))), .ref [.sl ((m_0.Triangles.getD x_l0.toNat default).map (cI .i64))] 0, .sl ((m_0.Triangles.getD x_l0.toNat default).map (cI .i64)), .sl ((m_0.Triangles.getD x_l0.toNat default).map (cI .i64)), .i .i64 ((m_0.Triangles.getD x_l0.toNat default).length : Int), .b (((m_0.Triangles.getD x_l0.toNat default).length : Int) != 3), .b (((m_0.Triangles.getD x_l0.toNat default).length : Int) != 3), .sl ((m_0.Triangles.getD x_l0.toNat default).map (cI .i64)), .ref [.i .i64 ((m_0.Triangles.getD x_l0.toNat default).getD 0 default)] 0, .i .i64 ((m_0.Triangles.getD x_l0.toNat default).getD 0 default), .sl ((m_0.Triangles.getD x_l0.toNat default).map (cI .i64)), .ref [.i .i64 ((m_0.Triangles.getD x_l0.toNat default).getD 1 default)] 0, .i .i64 ((m_0.Triangles.getD x_l0.toNat default).getD 1 default), .b (((m_0.Triangles.getD x_l0.toNat default).getD 0 default) == ((m_0.Triangles.getD x_l0.toNat default).getD 1 default)), .b (((m_0.Triangles.getD x_l0.toNat default).getD 0 default) == ((m_0.Triangles.getD x_l0.toNat default).getD 1 default)), .b (((m_0.Triangles.getD x_l0.toNat default).getD 0 default) == ((m_0.Triangles.getD x_l0.toNat default).getD 1 default)), .sl ((m_0.Triangles.getD x_l0.toNat default).map (cI .i64)), .ref [.i .i64 ((m_0.Triangles.getD x_l0.toNat default).getD 1 default)] 0, .i .i64 ((m_0.Triangles.getD x_l0.toNat default).getD 1 default), .sl ((m_0.Triangles.getD x_l0.toNat default).map (cI .i64)), .ref [.i .i64 ((m_0.Triangles.getD x_l0.toNat default).getD 2 default)] 0, .i .i64 ((m_0.Triangles.getD x_l0.toNat default).getD 2 default), .b (((m_0.Triangles.getD x_l0.toNat default).getD 1 default) == ((m_0.Triangles.getD x_l0.toNat default).getD 2 default)), .b (((m_0.Triangles.getD x_l0.toNat default).getD 1 default) == ((m_0.Triangles.getD x_l0.toNat default).getD 2 default)), .b (((m_0.Triangles.getD x_l0.toNat default).getD 1 default) == ((m_0.Triangles.getD x_l0.toNat default).getD 2 default)), .sl ((m_0.Triangles.getD x_l0.toNat default).map (cI .i64)), .ref [.i .i64 ((m_0.Triangles.getD x_l0.toNat default).getD 0 default)] 0, .i .i64 ((m_0.Triangles.getD x_l0.toNat default).getD 0 default), .sl ((m_0.Triangles.getD x_l0.toNat default).map (cI .i64)), .ref [.i .i64 ((m_0.Triangles.getD x_l0.toNat default).getD 2 default)] 0, .i .i64 ((m_0.Triangles.getD x_l0.toNat default).getD 2 default), .b (((m_0.Triangles.getD x_l0.toNat default).getD 0 default) == ((m_0.Triangles.getD x_l0.toNat default).getD 2 default)), .b (((m_0.Triangles.getD x_l0.toNat default).getD 0 default) == ((m_0.Triangles.getD x_l0.toNat default).getD 2 default)), .sl ((m_0.Triangles.getD x_l0.toNat default).map (cI .i64)), .i .i64 ((m_0.Triangles.getD x_l0.toNat default).length : Int), .i .i64 x_l0_1, .any, .any, .any, .any, .any, .any, .any, .any, .any, .any], [.box 38 [.sl (m_0.Places.map GVector.cells), .sl (m_0.Triangles.map (cL (cI .i64)))]]⟩

def mk_impl_ValidMesh_2_0 : List Bool := [true, true, false, true, false, true, false, false, true, true, true, true, true, true, true, true, true, true, true, true, true, true, true, true, true, true, true, true, true, true, true, true, true, true, true, true, true, true, true, true, true, true, true, true, true, true, true, true, true, true, true, true, true, true, true, true, true, true, true, false, false, false, false, false, false, false, false, false, false]

def mk_impl_ValidMesh_2_1 : List Bool := [false, false, true, false, false, false, false, false, false, false, false, false, false, false, false, false, false, false, false, false, false, false, false, false, false, false, false, false, false, false, false, false, false, false, false, false, false, false, false, false, false, false, false, false, false, false, false, false, false, false, false, false, false, false, false, false, false, false, false, false, false, false, false, false, false, false, false, false, false]

def mk_impl_ValidMesh_2_2 : List Bool := [true, true, false, true, false, true, false, false, true, true, true, true, true, true, true, true, true, true, true, true, true, true, true, true, true, true, true, true, true, true, true, true, true, true, true, true, true, true, true, true, true, true, true, true, true, true, true, true, true, true, true, true, true, true, true, true, true, false, false, false, false, false, false, false, false, false, false, false, false]

theorem lp_impl_ValidMesh_2 (m_0 : GMesh) (x_l0 : Int) (hp0 : m_0.Places.length ≤ 1073741824) (hp1 : m_0.Triangles.length ≤ 1073741824) (hp2 : ∀ t ∈ m_0.Triangles, t.length ≤ 1073741824) (hf_impl_ValidMesh_1_0 : (decide ((m_0.Places.length : Int) > 64)) = false) (hf_impl_ValidMesh_1_1 : (decide ((m_0.Triangles.length : Int) > 128)) = false) (hv_impl_ValidMesh_1_0 : 0 ≤ x_l0) (hf_impl_ValidMesh_2_0 : (((m_0.Triangles.getD x_l0.toNat default).length : Int) != 3) = false) (hf_impl_ValidMesh_2_1 : (decide ((m_0.Places.length : Int) > 64)) = false) (hf_impl_ValidMesh_2_2 : (decide ((m_0.Triangles.length : Int) > 128)) = false) (hf_impl_ValidMesh_2_3 : (decide (x_l0 < (m_0.Triangles.length : Int))) = true) : ∀ (k : Nat) (x_l0_1 : Int) (hv_impl_ValidMesh_2_0 : 0 ≤ x_l0_1) (hk : (((m_0.Triangles.getD x_l0.toNat default).length : Int) - x_l0_1).toNat < k), Lp prog 0 (sub (bodyOf f67) [1, 1, 1, 0, 1, 0, 0, 1, 1, 0, 0, 1, 1, 1, 0, 0]) (hd_impl_ValidMesh_2 m_0 x_l0 x_l0_1) (ls_impl_ValidMesh_2 m_0 x_l0 (lo_impl_ValidMesh_2 m_0 x_l0 k x_l0_1)).1 (ls_impl_ValidMesh_2 m_0 x_l0 (lo_impl_ValidMesh_2 m_0 x_l0 k x_l0_1)).2 := by
 intro k
 induction k with
 | zero => intro x_l0_1 hv_impl_ValidMesh_2_0 hk; exact absurd hk (Nat.not_lt_zero _)
 | succ k ih =>
  intro x_l0_1 hv_impl_ValidMesh_2_0 hk
  cases h__0 : (decide (x_l0_1 < ((m_0.Triangles.getD x_l0.toNat default).length : Int))) with
  | true =>
   have gh__0 := of_decide_eq_true h__0
   have y__0 : (0 : Int) ≤ x_l0_1 := (by first | assumption | omega)
   have y__1 : x_l0_1 < ((m_0.Triangles.getD x_l0.toNat default).length : Int) := (by first | assumption | omega)
   have p {a C} (s : Scr a C) := sB h__0 <| sG (cI .i64) (m_0.Triangles.getD x_l0.toNat default) x_l0_1 y__0 y__1 <| sW .i64 ((m_0.Places.length : Int) - 1) <| sF (t_impl_within ((m_0.Triangles.getD x_l0.toNat default).getD x_l0_1.toNat default) 0 (IntKind.wrap .i64 ((m_0.Places.length : Int) - 1))) <| s
   cases h__1 : (v_impl_within ((m_0.Triangles.getD x_l0.toNat default).getD x_l0_1.toNat default) 0 (IntKind.wrap .i64 ((m_0.Places.length : Int) - 1))) with
   | true =>
    have y__2 : (-9223372036854775808 : Int) ≤ (x_l0_1 + 1) := by clear p; exact (by first | assumption | omega)
    have y__3 : (x_l0_1 + 1) ≤ (9223372036854775807 : Int) := by clear p; exact (by first | assumption | omega | (simp_all <;> omega))
    have e : lo_impl_ValidMesh_2 m_0 x_l0 (k + 1) x_l0_1 = (lo_impl_ValidMesh_2 m_0 x_l0 k (x_l0_1 + 1)) := by simp only [lo_impl_ValidMesh_2, h__0, h__1, cond_true]
    rw [e]
    exact nextR E0Ok hMixed [] mk_impl_ValidMesh_2_0 [0] (ih (x_l0_1 + 1) (show 0 ≤ (x_l0_1 + 1) from (by first | assumption | omega)) (by first | assumption | omega)) (p (sB' h__1 <| sI (x_l0_1 + 1) y__2 y__3 <| sN)) (by kernel_rfl)
   | false =>
    have e : lo_impl_ValidMesh_2 m_0 x_l0 (k + 1) x_l0_1 = (.inl ()) := by simp only [lo_impl_ValidMesh_2, h__0, h__1, cond_true, cond_false]
    rw [e]
    exact outR (e := .ret) E0Ok hMixed [] mk_impl_ValidMesh_2_1 [] (p (sB' h__1 <| sN)) (by kernel_rfl) (by intro h; cases h)
  | false =>
   have gh__0 := of_decide_eq_false h__0
   have e : lo_impl_ValidMesh_2 m_0 x_l0 (k + 1) x_l0_1 = (.inr ()) := by simp only [lo_impl_ValidMesh_2, h__0, cond_false]
   rw [e]
   exact outR (e := (.exit 2)) E0Ok hMixed [] mk_impl_ValidMesh_2_2 [0] (sB h__0 <| sN) (by kernel_rfl) (by intro h; cases h)

def lr_impl_ValidMesh_2_0 (m_0 : GMesh) (x_l0 : Int) : (Unit) ⊕ (Unit) := (lo_impl_ValidMesh_2 m_0 x_l0 ((((m_0.Triangles.getD x_l0.toNat default).length : Int) - 0).toNat + 1) 0)

def lo_impl_ValidMesh_1 (m_0 : GMesh) : Nat → Int → (Unit) ⊕ (Unit)
  | 0, _ => .inl default
  | k + 1, x_l0 => (cond (decide (x_l0 < (m_0.Triangles.length : Int)))
    (cond (((m_0.Triangles.getD x_l0.toNat default).length : Int) != 3)
      (.inl ())
      (cond (((m_0.Triangles.getD x_l0.toNat default).getD 0 default) == ((m_0.Triangles.getD x_l0.toNat default).getD 1 default))
        (.inl ())
        (cond (((m_0.Triangles.getD x_l0.toNat default).getD 1 default) == ((m_0.Triangles.getD x_l0.toNat default).getD 2 default))
          (.inl ())
          (cond (((m_0.Triangles.getD x_l0.toNat default).getD 0 default) == ((m_0.Triangles.getD x_l0.toNat default).getD 2 default))
            (.inl ())
            (match (lr_impl_ValidMesh_2_0 m_0 x_l0) with
              | .inl r_6 => (.inl ())
              | .inr r_6 => (lo_impl_ValidMesh_1 m_0 k (x_l0 + 1)))))))
    (.inr ()))

def ls_impl_ValidMesh_1 (m_0 : GMesh) : (Unit) ⊕ (Unit) → Ex × St
  | .inl r => (.ret, ⟨[.any, .any, .b false, .any, .any, .any, .any, .any, .any, .any, .any, .any, .any, .any, .any, .any, .any, .any, .any, .any, .any, .any, .any, .any, .any, .any, .any, .any, .any, .any, .any, .any, .any, .any, .any, .any, .any, .any, .any, .any, .any, .any, .any, .any, .any, .any, .any, .any, .any, .any, .any, .any, .any, .any, .any, .any, .any, .any, .any, .any, .any, .any, .any, .any, .any, .any, .any, .any, .any], []⟩)
  | .inr r => ((.exit 0), ⟨[.agg [.sl (m_0.Places.map GVector.cells), .sl (m_0.Triangles.map (cL (cI .i64)))], .ptr 0 0 0, .any, .i .i64 (m_0.Places.length : Int), .any, .any, .any, .any, .ptr 0 0 0, .sl (m_0.Places.map GVector.cells), .i .i64 (m_0.Places.length : Int), .i .i64 (m_0.Places.length : Int), .b (decide ((m_0.Places.length : Int) > 64)), .b (decide ((m_0.Places.length : Int) > 64)), .ptr 0 0 1, .sl (m_0.Triangles.map (cL (cI .i64))), .i .i64 (m_0.Triangles.length : Int), .b (decide ((m_0.Triangles.length : Int) > 128)), .b (decide ((m_0.Triangles.length : Int) > 128)), .ptr 0 0 1, .sl (m_0.Triangles.map (cL (cI .i64))), .any, .any, .any, .any, .any, .any, .any, .any, .any, .any, .any, .any, .any, .any, .any, .any, .any, .any, .any, .any, .any, .any, .any, .any, .any, .any, .any, .any, .any, .any, .any, .any, .any, .any, .any, .any, .any, .any, .any, .any, .any, .any, .any, .any, .any, .any, .any, .any], [.box 38 [.sl (m_0.Places.map GVector.cells), .sl (m_0.Triangles.map (cL (cI .i64)))]]⟩)

def hd_impl_ValidMesh_1 (m_0 : GMesh) (x_l0 : Int) : St := ⟨[.agg [.sl (m_0.Places.map GVector.cells), .sl (m_0.Triangles.map (cL (cI .i64)))], .ptr 0 0 0, .any, .i .i64 (m_0.Places.length : Int), .any, .any, .any, .any, .ptr 0 0 0, .sl (m_0.Places.map GVector.cells), .i .i64 (m_0.Places.length : Int), .i .i64 (m_0.Places.length : Int), .b (decide ((m_0.Places.length : Int) > 64)), .b (decide ((m_0.Places.length : Int) > 64)), .ptr 0 0 1, .sl (m_0.Triangles.map (cL (cI .i64))), .i .i64 (m_0.Triangles.length : Int), .b (decide ((m_0.Triangles.length : Int) > 128)), .b (decide ((m_0.Triangles.length : Int) > 128)), .ptr 0 0 1, .sl (m_0.Triangles.map (cL (cI .i64))), .i .i64 (m_0.Triangles.length : Int), .i .i64 x_l0, .any, .any, .any, .any, .any, .any, .any, .any, .any, .any, .any, .any, .any, .any, .any, .any, .any, .any, .any, .any, .any, .any, .any, .any, .any, .any, .any, .any, .any, .any, .any, .any, .any, .any, .any, .any, .any, .any, .any, .any, .any, .any, .any, .any, .any, .any], [.box 38 [.sl (m_0.Places.map GVector.cells), .sl (m_0.Triangles.map (cL (cI .i64)))]]⟩

def mk_impl_ValidMesh_1_0 : List Bool := [true, true, false, true, false, false, false, false, true, true, true, true, true, true, true, true, true, true, true, true, true, true, true, false, false, false, false, false, false, false, false, false, false, false, false, false, false, false, false, false, false, false, false, false, false, false, false, false, false, false, false, false, false, false, false, false, false, false, false, false, false, false, false, false, false, false, false, false, false]

def mk_impl_ValidMesh_1_1 : List Bool := [false, false, true, false, false, false, false, false, false, false, false, false, false, false, false, false, false, false, false, false, false, false, false, false, false, false, false, false, false, false, false, false, false, false, false, false, false, false, false, false, false, false, false, false, false, false, false, false, false, false, false, false, false, false, false, false, false, false, false, false, false, false, false, false, false, false, false, false, false]

def mk_impl_ValidMesh_1_2 : List Bool := [true, true, false, true, false, false, false, false, true, true, true, true, true, true, true, true, true, true, true, true, true, false, false, false, false, false, false, false, false, false, false, false, false, false, false, false, false, false, false, false, false, false, false, false, false, false, false, false, false, false, false, false, false, false, false, false, false, false, false, false, false, false, false, false, false, false, false, false, false]

theorem lp_impl_ValidMesh_1 (m_0 : GMesh) (hp0 : m_0.Places.length ≤ 1073741824) (hp1 : m_0.Triangles.length ≤ 1073741824) (hp2 : ∀ t ∈ m_0.Triangles, t.length ≤ 1073741824) (hf_impl_ValidMesh_1_0 : (decide ((m_0.Places.length : Int) > 64)) = false) (hf_impl_ValidMesh_1_1 : (decide ((m_0.Triangles.length : Int) > 128)) = false) : ∀ (k : Nat) (x_l0 : Int) (hv_impl_ValidMesh_1_0 : 0 ≤ x_l0) (hk : ((m_0.Triangles.length : Int) - x_l0).toNat < k), Lp prog 0 (sub (bodyOf f67) [1, 1, 1, 0, 1, 0, 0]) (hd_impl_ValidMesh_1 m_0 x_l0) (ls_impl_ValidMesh_1 m_0 (lo_impl_ValidMesh_1 m_0 k x_l0)).1 (ls_impl_ValidMesh_1 m_0 (lo_impl_ValidMesh_1 m_0 k x_l0)).2 := by
 intro k
 induction k with
 | zero => intro x_l0 hv_impl_ValidMesh_1_0 hk; exact absurd hk (Nat.not_lt_zero _)
 | succ k ih =>
  intro x_l0 hv_impl_ValidMesh_1_0 hk
  cases h_0 : (decide (x_l0 < (m_0.Triangles.length : Int))) with
  | true =>
   have gh_0 := of_decide_eq_true h_0
   have y_0 : (0 : Int) ≤ x_l0 := (by first | assumption | omega)
   have y_1 : x_l0 < (m_0.Triangles.length : Int) := (by first | assumption | omega)
   have p {a C} (s : Scr a C) := sB h_0 <| sG (cL (cI .i64)) m_0.Triangles x_l0 y_0 y_1 <| sK [28, 28] <| sZ (cI .i64) (m_0.Triangles.getD x_l0.toNat default) <| s
   cases h_1 : (((m_0.Triangles.getD x_l0.toNat default).length : Int) != 3) with
   | true =>
    have gh_1 := bne_iff_ne.1 h_1
    have e : lo_impl_ValidMesh_1 m_0 (k + 1) x_l0 = (.inl ()) := by simp only [lo_impl_ValidMesh_1, h_0, h_1, cond_true]
    rw [e]
    exact outR (e := .ret) E0Ok hMixed [] mk_impl_ValidMesh_1_1 [] (p (sB h_1 <| sB h_1 <| sB h_1 <| sB h_1 <| sB h_1 <| sB h_1 <| sB h_1 <| sB h_1 <| sB (show true = true from rfl) <| sB (show true = true from rfl) <| sB (show true = true from rfl) <| sB (show true = true from rfl) <| sB (show true = true from rfl) <| sB (show true = true from rfl) <| sB (show true = true from rfl) <| sB (show true = true from rfl) <| sB (show true = true from rfl) <| sB (show true = true from rfl) <| sB (show true = true from rfl) <| sB (show true = true from rfl) <| sB (show true = true from rfl) <| sB (show true = true from rfl) <| sB (show true = true from rfl) <| sB (show true = true from rfl) <| sB (show true = true from rfl) <| sN)) (by kernel_rfl) (by intro h; cases h)
   | false =>
    have gh_1 := bne_eq_false_iff_eq.1 h_1
    have y_2 : (0 : Int) ≤ 0 := by clear p; exact (by first | assumption | omega)
    have y_3 : 0 < ((m_0.Triangles.getD x_l0.toNat default).length : Int) := by clear p; exact (by first | assumption | omega)
    have y_4 : (0 : Int) ≤ 1 := by clear p; exact (by first | assumption | omega)
    have y_5 : 1 < ((m_0.Triangles.getD x_l0.toNat default).length : Int) := by clear p; exact (by first | assumption | omega)
    have q {a C} (s : Scr a C) := p (sB h_1 <| sB h_1 <| sG (cI .i64) (m_0.Triangles.getD x_l0.toNat default) 0 y_2 y_3 <| sB h_1 <| sB h_1 <| sB h_1 <| sG (cI .i64) (m_0.Triangles.getD x_l0.toNat default) 1 y_4 y_5 <| sB h_1 <| sB h_1 <| sB h_1 <| s)
    clear p
    cases h_2 : (((m_0.Triangles.getD x_l0.toNat default).getD 0 default) == ((m_0.Triangles.getD x_l0.toNat default).getD 1 default)) with
    | true =>
     have gh_2 := eq_of_beq h_2
     have e : lo_impl_ValidMesh_1 m_0 (k + 1) x_l0 = (.inl ()) := by simp only [lo_impl_ValidMesh_1, h_0, h_1, h_2, cond_true, cond_false]
     rw [e]
     exact outR (e := .ret) E0Ok hMixed [] mk_impl_ValidMesh_1_1 [] (q (sB h_2 <| sB h_2 <| sB h_2 <| sB h_2 <| sB h_2 <| sB h_2 <| sB h_2 <| sB h_2 <| sB (show true = true from rfl) <| sB (show true = true from rfl) <| sB (show true = true from rfl) <| sB (show true = true from rfl) <| sB (show true = true from rfl) <| sB (show true = true from rfl) <| sB (show true = true from rfl) <| sB (show true = true from rfl) <| sB (show true = true from rfl) <| sN)) (by kernel_rfl) (by intro h; cases h)
    | false =>
     have gh_2 := ne_of_beq_false h_2
     have y_6 : (0 : Int) ≤ 2 := by clear q; exact (by first | assumption | omega)
     have y_7 : 2 < ((m_0.Triangles.getD x_l0.toNat default).length : Int) := by clear q; exact (by first | assumption | omega)
     have p {a C} (s : Scr a C) := q (sB h_2 <| sB h_2 <| sG (cI .i64) (m_0.Triangles.getD x_l0.toNat default) 1 y_4 y_5 <| sB h_2 <| sB h_2 <| sB h_2 <| sG (cI .i64) (m_0.Triangles.getD x_l0.toNat default) 2 y_6 y_7 <| sB h_2 <| sB h_2 <| sB h_2 <| s)
     clear q
     cases h_3 : (((m_0.Triangles.getD x_l0.toNat default).getD 1 default) == ((m_0.Triangles.getD x_l0.toNat default).getD 2 default)) with
     | true =>
      have gh_3 := eq_of_beq h_3
      have e : lo_impl_ValidMesh_1 m_0 (k + 1) x_l0 = (.inl ()) := by simp only [lo_impl_ValidMesh_1, h_0, h_1, h_2, h_3, cond_true, cond_false]
      rw [e]
      exact outR (e := .ret) E0Ok hMixed [] mk_impl_ValidMesh_1_1 [] (p (sB h_3 <| sB h_3 <| sB h_3 <| sB h_3 <| sB h_3 <| sB h_3 <| sB h_3 <| sB h_3 <| sB (show true = true from rfl) <| sN)) (by kernel_rfl) (by intro h; cases h)
     | false =>
      have gh_3 := ne_of_beq_false h_3
      have q {a C} (s : Scr a C) := p (sB h_3 <| sB h_3 <| sG (cI .i64) (m_0.Triangles.getD x_l0.toNat default) 0 y_2 y_3 <| sB h_3 <| sB h_3 <| sB h_3 <| sG (cI .i64) (m_0.Triangles.getD x_l0.toNat default) 2 y_6 y_7 <| sB h_3 <| sB h_3 <| sB h_3 <| s)
      clear p
      cases h_4 : (((m_0.Triangles.getD x_l0.toNat default).getD 0 default) == ((m_0.Triangles.getD x_l0.toNat default).getD 2 default)) with
      | true =>
       have gh_4 := eq_of_beq h_4
       have e : lo_impl_ValidMesh_1 m_0 (k + 1) x_l0 = (.inl ()) := by simp only [lo_impl_ValidMesh_1, h_0, h_1, h_2, h_3, h_4, cond_true, cond_false]
       rw [e]
       exact outR (e := .ret) E0Ok hMixed [] mk_impl_ValidMesh_1_1 [] (q (sB h_4 <| sN)) (by kernel_rfl) (by intro h; cases h)
      | false =>
       have gh_4 := ne_of_beq_false h_4
       have p {a C} (s : Scr a C) := q (sB h_4 <| sZ (cI .i64) (m_0.Triangles.getD x_l0.toNat default) <| s)
       clear q
       cases h_5 : (lr_impl_ValidMesh_2_0 m_0 x_l0) with
       | inl r_6 =>
        have e : lo_impl_ValidMesh_1 m_0 (k + 1) x_l0 = (.inl ()) := by simp only [lo_impl_ValidMesh_1, h_0, h_1, h_2, h_3, h_4, h_5, cond_true, cond_false]
        rw [e]
        exact outR (e := .ret) E0Ok hMixed [] mk_impl_ValidMesh_1_1 [] (p (sL mk_impl_ValidMesh_2_0 1 (lp_val (ls_impl_ValidMesh_2 m_0 x_l0) (x := (lr_impl_ValidMesh_2_0 m_0 x_l0)) (lp_impl_ValidMesh_2 m_0 x_l0 hp0 hp1 hp2 hf_impl_ValidMesh_1_0 hf_impl_ValidMesh_1_1 hv_impl_ValidMesh_1_0 h_1 hf_impl_ValidMesh_1_0 hf_impl_ValidMesh_1_1 h_0 ((((m_0.Triangles.getD x_l0.toNat default).length : Int) - 0).toNat + 1) 0 (show 0 ≤ 0 from (by first | assumption | omega)) (Nat.lt_succ_self _)) h_5) <| sN)) (by kernel_rfl) (by intro h; cases h)
       | inr r_6 =>
        have y_8 : (-9223372036854775808 : Int) ≤ (x_l0 + 1) := by clear p; exact (by first | assumption | omega)
        have y_9 : (x_l0 + 1) ≤ (9223372036854775807 : Int) := by clear p; exact (by first | assumption | omega)
        have e : lo_impl_ValidMesh_1 m_0 (k + 1) x_l0 = (lo_impl_ValidMesh_1 m_0 k (x_l0 + 1)) := by simp only [lo_impl_ValidMesh_1, h_0, h_1, h_2, h_3, h_4, h_5, cond_true, cond_false]
        rw [e]
        exact nextR E0Ok hMixed [] mk_impl_ValidMesh_1_0 [0] (ih (x_l0 + 1) (show 0 ≤ (x_l0 + 1) from (by first | assumption | omega)) (by first | assumption | omega)) (p (sL mk_impl_ValidMesh_2_0 1 (lp_val (ls_impl_ValidMesh_2 m_0 x_l0) (x := (lr_impl_ValidMesh_2_0 m_0 x_l0)) (lp_impl_ValidMesh_2 m_0 x_l0 hp0 hp1 hp2 hf_impl_ValidMesh_1_0 hf_impl_ValidMesh_1_1 hv_impl_ValidMesh_1_0 h_1 hf_impl_ValidMesh_1_0 hf_impl_ValidMesh_1_1 h_0 ((((m_0.Triangles.getD x_l0.toNat default).length : Int) - 0).toNat + 1) 0 (show 0 ≤ 0 from (by first | assumption | omega)) (Nat.lt_succ_self _)) h_5) <| sI (x_l0 + 1) y_8 y_9 <| sN)) (by kernel_rfl)
  | false =>
   have gh_0 := of_decide_eq_false h_0
   have e : lo_impl_ValidMesh_1 m_0 (k + 1) x_l0 = (.inr ()) := by simp only [lo_impl_ValidMesh_1, h_0, cond_false]
   rw [e]
   exact outR (e := (.exit 0)) E0Ok hMixed [] mk_impl_ValidMesh_1_2 [0] (sB h_0 <| sN) (by kernel_rfl) (by intro h; cases h)

def lr_impl_ValidMesh_1_1 (m_0 : GMesh) : (Unit) ⊕ (Unit) := (lo_impl_ValidMesh_1 m_0 (((m_0.Triangles.length : Int) - 0).toNat + 1) 0)

def v_impl_ValidMesh (m_0 : GMesh) : Bool := (cond (decide ((m_0.Places.length : Int) > 64))
  false
  (cond (decide ((m_0.Triangles.length : Int) > 128))
    false
    (match (lr_impl_ValidMesh_1_1 m_0) with
      | .inl r3 => false
      | .inr r3 => true)))

end Go.Ab
