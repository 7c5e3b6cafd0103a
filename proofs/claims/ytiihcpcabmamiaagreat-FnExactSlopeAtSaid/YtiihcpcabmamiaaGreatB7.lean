/- The functions of this seat as plain Lean, and that the program's are these. Printed by a program of the prover's own. -/
import Derived.Test.YtiihcpcabmamiaaGreatB6
set_option linter.unusedVariables false
set_option linter.unusedSimpArgs false
set_option maxRecDepth 100000
namespace Go.Ab
open Go.RowKit Go.Proofs.Tryz

def mk_impl_partsOf_4_0 : List Bool := [true, true, true, true, false, false, false, false, false, false, false, false, false, false, true, true, true, false, false, false, false, false, false, false, false, false, false, false, false, false, false, false, false, false, false, false, false, false, false, false, false, false, true, true, true, false, false, false, false, false, false, false, false, false, false, false, false, false, false, false, false, false, false, false, false, true, true, true, false, false, false, false, false, false, false, false, false, false, false, false, false, false, false, false, false, false, false, false, false, false, true, true, true, true, true, false, false, false, false, false, false, false, false, false, false, false, false, false, false, false, false, false, false, false, false, false, false]

def mk_impl_partsOf_4_1 : List Bool := [true, true, true, true, false, false, false, false, false, false, false, false, false, false, true, true, true, false, false, false, false, false, false, false, false, false, false, false, false, false, false, false, false, false, false, false, false, false, false, false, false, false, true, true, true, false, false, false, false, false, false, false, false, false, false, false, false, false, false, false, false, false, false, false, false, true, true, true, false, false, false, false, false, false, false, false, false, false, false, false, false, false, false, false, false, false, false, false, false, false, true, true, true, false, false, false, false, false, false, false, false, false, false, false, false, false, false, false, false, false, false, false, false, false, false, false, false]

theorem lp_impl_partsOf_4 (b_0 : GBody) (hp0 : b_0.Mesh.Places.length ≤ 1073741824) (hp1 : b_0.Mesh.Triangles.length ≤ 1073741824) (hp2 : ∀ t ∈ b_0.Mesh.Triangles, t.length ≤ 1073741824) (hp3 : b_0.Springs.length ≤ 1073741824) (hp4 : b_0.Weights.length ≤ 1073741824) (hp5 : OkBd b_0) : ∀ (k : Nat) (x_l0 : Int) (r1_l1 : (List Nat)) (hv_impl_partsOf_4_0 : 0 ≤ x_l0) (hv_impl_partsOf_4_1 : r1_l1.length = (lr_impl_partsOf_3_2 b_0).length) (hk : ((b_0.Mesh.Places.length : Int) - x_l0).toNat < k), Lp prog 0 (sub (bodyOf f101) [1, 1, 1, 1, 1, 0, 1, 0, 0]) (hd_impl_partsOf_4 b_0 x_l0 r1_l1) (ls_impl_partsOf_4 b_0 (lo_impl_partsOf_4 b_0 k x_l0 r1_l1)).1 (ls_impl_partsOf_4 b_0 (lo_impl_partsOf_4 b_0 k x_l0 r1_l1)).2 := by
 intro k
 induction k with
 | zero => intro x_l0 r1_l1 hv_impl_partsOf_4_0 hv_impl_partsOf_4_1 hk; exact absurd hk (Nat.not_lt_zero _)
 | succ k ih =>
  intro x_l0 r1_l1 hv_impl_partsOf_4_0 hv_impl_partsOf_4_1 hk
  cases h_0 : (decide (x_l0 < (b_0.Mesh.Places.length : Int))) with
  | true =>
   have gh_0 := of_decide_eq_true h_0
   have y_0 : (0 : Int) ≤ x_l0 := (by first | assumption | omega | (have q := hp5.w; first | omega | (have q := okBd_spr hp5 (by assumption) h_0; omega) | (have q := impl_hingesOf_len _ hp5.e; omega) | (simp; done)) | (simp_all <;> omega))
   have y_1 : x_l0 < (b_0.Mesh.Places.length : Int) := (by first | assumption | omega | (have q := hp5.w; first | omega | (have q := okBd_spr hp5 (by assumption) h_0; omega) | (have q := impl_hingesOf_len _ hp5.e; omega) | (simp; done)) | (simp_all <;> omega))
   have y_2 : (0 : Int) ≤ 3 := (by first | assumption | omega | (have q := hp5.w; first | omega | (have q := okBd_spr hp5 (by assumption) h_0; omega) | (have q := impl_hingesOf_len _ hp5.e; omega) | (simp; done)) | (simp_all <;> omega))
   have y_3 : 3 < (r1_l1.length : Int) := (by first | assumption | omega | (have q := hp5.w; first | omega | (have q := okBd_spr hp5 (by assumption) h_0; omega) | (have q := impl_hingesOf_len _ hp5.e; omega) | (simp; done)) | (simp_all <;> omega))
   have y_4 : 3 < r1_l1.length := (by first | assumption | omega | (have q := hp5.w; first | omega | (have q := okBd_spr hp5 (by assumption) h_0; omega) | (have q := impl_hingesOf_len _ hp5.e; omega) | (simp; done)) | (simp_all <;> omega))
   have y_5 : x_l0 < (b_0.Weights.length : Int) := (by first | assumption | omega | (have q := hp5.w; first | omega | (have q := okBd_spr hp5 (by assumption) h_0; omega) | (have q := impl_hingesOf_len _ hp5.e; omega) | (simp; done)) | (simp_all <;> omega))
   have y_6 : (-9223372036854775808 : Int) ≤ (x_l0 + 1) := (by first | assumption | omega | (have q := hp5.w; first | omega | (have q := okBd_spr hp5 (by assumption) h_0; omega) | (have q := impl_hingesOf_len _ hp5.e; omega) | (simp; done)) | (simp_all <;> omega))
   have y_7 : (x_l0 + 1) ≤ (9223372036854775807 : Int) := (by first | assumption | omega | (have q := hp5.w; first | omega | (have q := okBd_spr hp5 (by assumption) h_0; omega) | (have q := impl_hingesOf_len _ hp5.e; omega) | (simp; done)) | (simp_all <;> omega))
   have e : lo_impl_partsOf_4 b_0 (k + 1) x_l0 r1_l1 = (lo_impl_partsOf_4 b_0 k (x_l0 + 1) (r1_l1.set 3 (nd_impl_partsOf_6 b_0 x_l0 r1_l1))) := by simp only [lo_impl_partsOf_4, h_0, cond_true]
   rw [e]
   exact nextS E0Ok hMixed [] mk_impl_partsOf_4_0 [0, 1, 2] (⟨[.agg [.sl (b_0.Mesh.Places.map GVector.cells), .sl (b_0.Mesh.Triangles.map (cL (cI .i64))), .sl (b_0.Springs.map GSpring.cells), .f .f32 b_0.Film, .f .f32 b_0.Bend, .sl (b_0.Weights.map (cF .f32)), .f .f32 b_0.Fall.X, .f .f32 b_0.Fall.Y, .f .f32 b_0.Fall.Z], .ptr 0 0 0, .nils, .own 1, .any, .any, .any, .any, .any, .any, .any, .any, .any, .any, .own 1, .ptr 0 0 2, .sl (b_0.Springs.map GSpring.cells), .any, .any, .any, .any, .any, .any, .any, .any, .any, .any, .any, .any, .any, .any, .any, .any, .any, .any, .any, .any, .any, .any, .any, .any, .any, .ptr 0 0 0, .ptr 0 0 1, .sl (b_0.Mesh.Triangles.map (cL (cI .i64))), .any, .any, .any, .any, .any, .any, .any, .any, .any, .any, .any, .any, .any, .any, .any, .any, .any, .any, .any, .any, .ptr 0 0 0, .agg [.sl (b_0.Mesh.Places.map GVector.cells), .sl (b_0.Mesh.Triangles.map (cL (cI .i64)))], .own 2, .any, .any, .any, .any, .any, .any, .any, .any, .any, .any, .any, .any, .any, .any, .any, .any, .any, .any, .any, .any, .any, .any, .ptr 0 0 0, .ptr 0 0 0, .sl (b_0.Mesh.Places.map GVector.cells), .i .i64 (b_0.Mesh.Places.length : Int), .i .i64 (x_l0 + 1), .any, .any, .any, .any, .any, .any, .any, .any, .any, .any, .any, .any, .any, .any, .any, .any, .any, .any, .any, .any, .any, .any], [.box 42 [.sl (b_0.Mesh.Places.map GVector.cells), .sl (b_0.Mesh.Triangles.map (cL (cI .i64))), .sl (b_0.Springs.map GSpring.cells), .f .f32 b_0.Film, .f .f32 b_0.Bend, .sl (b_0.Weights.map (cF .f32)), .f .f32 b_0.Fall.X, .f .f32 b_0.Fall.Y, .f .f32 b_0.Fall.Z], .vec 27 1 ((r1_l1.map (cF .f32)).set 3 [.f .f32 (nd_impl_partsOf_6 b_0 x_l0 r1_l1)]) false, .nest 54 ((v_impl_hingesOf b_0.Mesh).map fun l => l.map (cI .i64)) false]⟩) (sB h_0 <| sG GVector.cells b_0.Mesh.Places x_l0 y_0 y_1 <| sK [14, 14] <| sX (cF .f32) r1_l1 3 y_2 y_3 <| sV (cF .f32) r1_l1 3 y_4 <| sG (cF .f32) b_0.Weights x_l0 y_0 y_5 <| sF (t_impl_InnerOf b_0.Fall (b_0.Mesh.Places.getD x_l0.toNat default)) <| sX (cF .f32) r1_l1 3 y_2 y_3 <| sC (maplt (c := (cF .f32)) (l := r1_l1) y_4) <| sI (x_l0 + 1) y_6 y_7 <| sN) (by kernel_rfl) (show _ = ⟨[.agg [.sl (b_0.Mesh.Places.map GVector.cells), .sl (b_0.Mesh.Triangles.map (cL (cI .i64))), .sl (b_0.Springs.map GSpring.cells), .f .f32 b_0.Film, .f .f32 b_0.Bend, .sl (b_0.Weights.map (cF .f32)), .f .f32 b_0.Fall.X, .f .f32 b_0.Fall.Y, .f .f32 b_0.Fall.Z], .ptr 0 0 0, .nils, .own 1, .any, .any, .any, .any, .any, .any, .any, .any, .any, .any, .own 1, .ptr 0 0 2, .sl (b_0.Springs.map GSpring.cells), .any, .any, .any, .any, .any, .any, .any, .any, .any, .any, .any, .any, .any, .any, .any, .any, .any, .any, .any, .any, .any, .any, .any, .any, .any, .ptr 0 0 0, .ptr 0 0 1, .sl (b_0.Mesh.Triangles.map (cL (cI .i64))), .any, .any, .any, .any, .any, .any, .any, .any, .any, .any, .any, .any, .any, .any, .any, .any, .any, .any, .any, .any, .ptr 0 0 0, .agg [.sl (b_0.Mesh.Places.map GVector.cells), .sl (b_0.Mesh.Triangles.map (cL (cI .i64)))], .own 2, .any, .any, .any, .any, .any, .any, .any, .any, .any, .any, .any, .any, .any, .any, .any, .any, .any, .any, .any, .any, .any, .any, .ptr 0 0 0, .ptr 0 0 0, .sl (b_0.Mesh.Places.map GVector.cells), .i .i64 (b_0.Mesh.Places.length : Int), .i .i64 (x_l0 + 1), .any, .any, .any, .any, .any, .any, .any, .any, .any, .any, .any, .any, .any, .any, .any, .any, .any, .any, .any, .any, .any, .any], [.box 42 [.sl (b_0.Mesh.Places.map GVector.cells), .sl (b_0.Mesh.Triangles.map (cL (cI .i64))), .sl (b_0.Springs.map GSpring.cells), .f .f32 b_0.Film, .f .f32 b_0.Bend, .sl (b_0.Weights.map (cF .f32)), .f .f32 b_0.Fall.X, .f .f32 b_0.Fall.Y, .f .f32 b_0.Fall.Z], .vec 27 1 ((r1_l1.set 3 (nd_impl_partsOf_6 b_0 x_l0 r1_l1)).map (cF .f32)) false, .nest 54 ((v_impl_hingesOf b_0.Mesh).map fun l => l.map (cI .i64)) false]⟩ from (by simp [List.map_set, cF])) (ih (x_l0 + 1) (r1_l1.set 3 (nd_impl_partsOf_6 b_0 x_l0 r1_l1)) (show 0 ≤ (x_l0 + 1) from (by first | assumption | omega | (have q := hp5.w; first | omega | (have q := okBd_spr hp5 (by assumption) h_0; omega) | (have q := impl_hingesOf_len _ hp5.e; omega) | (simp; done)) | (simp_all <;> omega))) (show (r1_l1.set 3 (nd_impl_partsOf_6 b_0 x_l0 r1_l1)).length = (lr_impl_partsOf_3_2 b_0).length from (by first | assumption | omega | (have q := hp5.w; first | omega | (have q := okBd_spr hp5 (by assumption) h_0; omega) | (have q := impl_hingesOf_len _ hp5.e; omega) | (simp; done)) | (simp_all <;> omega))) (by first | assumption | omega | (have q := hp5.w; first | omega | (have q := okBd_spr hp5 (by assumption) h_0; omega) | (have q := impl_hingesOf_len _ hp5.e; omega) | (simp; done)) | (simp_all <;> omega)))
  | false =>
   have gh_0 := of_decide_eq_false h_0
   have e : lo_impl_partsOf_4 b_0 (k + 1) x_l0 r1_l1 = r1_l1 := by simp only [lo_impl_partsOf_4, h_0, cond_false]
   rw [e]
   exact outR (e := (.exit 6)) E0Ok hMixed [] mk_impl_partsOf_4_1 [0, 1, 2] (sB h_0 <| sN) (by kernel_rfl) (by intro h; cases h)

theorem ln_impl_partsOf_4_0 (b_0 : GBody) : ∀ (k : Nat) (x_l0 : Int) (r1_l1 : (List Nat)) (hk : ((b_0.Mesh.Places.length : Int) - x_l0).toNat < k), (lo_impl_partsOf_4 b_0 k x_l0 r1_l1).length = r1_l1.length := by
  intro k
  induction k with
  | zero => intro x_l0 r1_l1 hk; exact absurd hk (Nat.not_lt_zero _)
  | succ k ih =>
    intro x_l0 r1_l1 hk
    cases h_0 : (decide (x_l0 < (b_0.Mesh.Places.length : Int))) with
    | true =>
      have e : lo_impl_partsOf_4 b_0 (k + 1) x_l0 r1_l1 = (lo_impl_partsOf_4 b_0 k (x_l0 + 1) (r1_l1.set 3 (nd_impl_partsOf_6 b_0 x_l0 r1_l1))) := by simp only [lo_impl_partsOf_4, h_0, cond_true]
      rw [e, ih (x_l0 + 1) (r1_l1.set 3 (nd_impl_partsOf_6 b_0 x_l0 r1_l1)) (by first | assumption | omega | (have q := hp5.w; first | omega | (have q := okBd_spr hp5 (by assumption) h_0; omega) | (have q := impl_hingesOf_len _ hp5.e; omega) | (simp; done)) | (simp_all <;> omega))]; simp
    | false =>
      have e : lo_impl_partsOf_4 b_0 (k + 1) x_l0 r1_l1 = r1_l1 := by simp only [lo_impl_partsOf_4, h_0, cond_false]
      first | (rw [e]; done) | (rw [e]; rfl)

def lr_impl_partsOf_4_3 (b_0 : GBody) : (List Nat) := (lo_impl_partsOf_4 b_0 (((b_0.Mesh.Places.length : Int) - 0).toNat + 1) 0 (lr_impl_partsOf_3_2 b_0))

@[simp] theorem len_lr_impl_partsOf_4_3_0 (b_0 : GBody) : (lr_impl_partsOf_4_3 b_0).length = ((lr_impl_partsOf_3_2 b_0) : (List Nat)).length := ln_impl_partsOf_4_0 b_0 (((b_0.Mesh.Places.length : Int) - 0).toNat + 1) 0 (lr_impl_partsOf_3_2 b_0) (by first | exact Nat.lt_succ_self _ | simp)

def v_impl_partsOf (b_0 : GBody) : (List Nat) := (lr_impl_partsOf_4_3 b_0)

@[simp] theorem len_v_impl_partsOf_0 (b_0 : GBody) : (v_impl_partsOf b_0).length = 4 := by
  first | (simp [v_impl_partsOf]; done)

theorem eq_bendOf (m : GMesh) (h : List Int) : v_impl_bendOf m h = v_spec_l03Bent m h := by kernel_rfl
theorem lo_parts1 (b : GBody) : lo_impl_partsOf_1 b = lo_spec_l03Parts_1 b := by kernel_rfl
theorem lo_parts2 (b : GBody) : lo_impl_partsOf_2 b = lo_spec_l03Parts_2 b := by kernel_rfl
theorem lo_parts4 (b : GBody) : lo_impl_partsOf_4 b = lo_spec_l03Parts_4 b := by kernel_rfl
theorem lo_parts3 (b : GBody) (h : v_impl_hingesOf b.Mesh = v_spec_l03Hinges b.Mesh) : ∀ (k : Nat) (x : Int) (r : List Nat), lo_impl_partsOf_3 b k x r = lo_spec_l03Parts_3 b k x r := by
  intro k
  induction k with
  | zero => intro x r; rfl
  | succ k ih =>
    intro x r
    rw [lo_impl_partsOf_3, lo_spec_l03Parts_3, ih]
    unfold nd_impl_partsOf_4 nd_spec_l03Parts_6
    rw [h, eq_bendOf]
    rfl
theorem eq_partsOf (b : GBody) (ok : OkBd b) : v_impl_partsOf b = v_spec_l03Parts b := by
  have h : v_impl_hingesOf b.Mesh = v_spec_l03Hinges b.Mesh := by rw [impl_hingesOf_eq _ ok.e, l03Hinges_eq _ ok.e]
  unfold v_impl_partsOf v_spec_l03Parts lr_impl_partsOf_4_3 lr_spec_l03Parts_4_3 lr_impl_partsOf_3_2 lr_spec_l03Parts_3_2 lr_impl_partsOf_2_1 lr_spec_l03Parts_2_1 lr_impl_partsOf_1_0 lr_spec_l03Parts_1_0
  rw [lo_parts1, lo_parts2, lo_parts4, lo_parts3 b h, h]
theorem len_partsOf (b : GBody) : (v_impl_partsOf b).length = 4 := by
  unfold v_impl_partsOf
  rw [len_lr_impl_partsOf_4_3_0, len_lr_impl_partsOf_3_2_0, len_lr_impl_partsOf_2_1_0, len_lr_impl_partsOf_1_0_0]; simp

theorem t_impl_partsOf (b_0 : GBody) (hp0 : b_0.Mesh.Places.length ≤ 1073741824) (hp1 : b_0.Mesh.Triangles.length ≤ 1073741824) (hp2 : ∀ t ∈ b_0.Mesh.Triangles, t.length ≤ 1073741824) (hp3 : b_0.Springs.length ≤ 1073741824) (hp4 : b_0.Weights.length ≤ 1073741824) (hp5 : OkBd b_0)  : Fn prog 101 [.agg [.sl (b_0.Mesh.Places.map GVector.cells), .sl (b_0.Mesh.Triangles.map (cL (cI .i64))), .sl (b_0.Springs.map GSpring.cells), .f .f32 b_0.Film, .f .f32 b_0.Bend, .sl (b_0.Weights.map (cF .f32)), .f .f32 b_0.Fall.X, .f .f32 b_0.Fall.Y, .f .f32 b_0.Fall.Z]] (.own 0) [.vec 27 1 ((v_impl_partsOf b_0).map (cF .f32)) false] := by
 have y0 : (0 : Int) ≤ 4 := (by first | assumption | omega | (have q := hp5.w; first | omega | (have q := okBd_spr hp5 (by assumption) h_0; omega) | (have q := impl_hingesOf_len _ hp5.e; omega) | (simp; done)) | (simp_all <;> omega))
 have y1 : (4 : Int) ≤ 2147483648 := (by first | assumption | omega | (have q := hp5.w; first | omega | (have q := okBd_spr hp5 (by assumption) h_0; omega) | (have q := impl_hingesOf_len _ hp5.e; omega) | (simp; done)) | (simp_all <;> omega))
 have y2 : OkE b_0.Mesh.Places.length b_0.Mesh.Triangles := (by first | assumption | omega | exact hp5.e | (have q := okBd_spr hp5 (by assumption) h_0; omega) | exact tri3 hp5.e (by assumption) h_0 | exact tri3L hp5.e (by assumption) h_0 | exact hin4i hp5.e (by assumption) h_0 | exact hin4iL hp5.e (by assumption) h_0)
 refine fnS E0Ok hMixed (c := bodyOf f101) [] (.own 0) [.vec 27 1 ((lr_impl_partsOf_4_3 b_0).map (cF .f32)) false] func101 (sC (show (4 : Int) = 4 from rfl) <| sC y0 <| sC y1 <| sZ GSpring.cells b_0.Springs <| sL mk_impl_partsOf_1_0 2 (lp_cast (st2 := ⟨[.agg [.sl (b_0.Mesh.Places.map GVector.cells), .sl (b_0.Mesh.Triangles.map (cL (cI .i64))), .sl (b_0.Springs.map GSpring.cells), .f .f32 b_0.Film, .f .f32 b_0.Bend, .sl (b_0.Weights.map (cF .f32)), .f .f32 b_0.Fall.X, .f .f32 b_0.Fall.Y, .f .f32 b_0.Fall.Z], .ptr 0 0 0, .nils, .own 1, .any, .any, .any, .any, .any, .any, .any, .any, .any, .any, .own 1, .ptr 0 0 2, .sl (b_0.Springs.map GSpring.cells), .i .i64 (b_0.Springs.length : Int), .i .i64 0, .any, .any, .any, .any, .any, .any, .any, .any, .any, .any, .any, .any, .any, .any, .any, .any, .any, .any, .any, .any, .any, .any, .any, .any, .any, .any, .any, .any, .any, .any, .any, .any, .any, .any, .any, .any, .any, .any, .any, .any, .any, .any, .any, .any, .any, .any, .any, .any, .any, .any, .any, .any, .any, .any, .any, .any, .any, .any, .any, .any, .any, .any, .any, .any, .any, .any, .any, .any, .any, .any, .any, .any, .any, .any, .any, .any, .any, .any, .any, .any, .any, .any, .any, .any, .any, .any, .any, .any, .any, .any, .any, .any, .any, .any, .any, .any, .any, .any], [.box 42 [.sl (b_0.Mesh.Places.map GVector.cells), .sl (b_0.Mesh.Triangles.map (cL (cI .i64))), .sl (b_0.Springs.map GSpring.cells), .f .f32 b_0.Film, .f .f32 b_0.Bend, .sl (b_0.Weights.map (cF .f32)), .f .f32 b_0.Fall.X, .f .f32 b_0.Fall.Y, .f .f32 b_0.Fall.Z], .vec 27 1 (List.replicate (Int.toNat 4) [.f .f32 0]) false]⟩) (lp_val (ls_impl_partsOf_1 b_0) (x := (lr_impl_partsOf_1_0 b_0)) (lp_impl_partsOf_1 b_0 hp0 hp1 hp2 hp3 hp4 hp5 (((b_0.Springs.length : Int) - 0).toNat + 1) 0 (List.replicate 4 0) (show 0 ≤ 0 from (by first | omega | (simp; done))) (show (List.replicate 4 0).length = 4 from (by first | omega | (simp; done))) (Nat.lt_succ_self _)) rfl) (by simp [hd_impl_partsOf_1, cF])) <| sZ (cL (cI .i64)) b_0.Mesh.Triangles <| sL mk_impl_partsOf_2_0 2 (lp_val (ls_impl_partsOf_2 b_0) (x := (lr_impl_partsOf_2_1 b_0)) (lp_impl_partsOf_2 b_0 hp0 hp1 hp2 hp3 hp4 hp5 (((b_0.Mesh.Triangles.length : Int) - 0).toNat + 1) 0 (lr_impl_partsOf_1_0 b_0) (show 0 ≤ 0 from (by first | omega | (simp; done))) (show (lr_impl_partsOf_1_0 b_0).length = (lr_impl_partsOf_1_0 b_0).length from (by first | omega | (simp; done))) (Nat.lt_succ_self _)) rfl) <| sF (t_impl_hingesOf b_0.Mesh hp0 hp1 hp2 y2) <| sM (nlen_ok (l := (v_impl_hingesOf b_0.Mesh)) (f := fun l => l.map (cI .i64))) <| sL mk_impl_partsOf_3_0 3 (lp_val (ls_impl_partsOf_3 b_0) (x := (lr_impl_partsOf_3_2 b_0)) (lp_impl_partsOf_3 b_0 hp0 hp1 hp2 hp3 hp4 hp5 ((((v_impl_hingesOf b_0.Mesh).length : Int) - 0).toNat + 1) 0 (lr_impl_partsOf_2_1 b_0) (show 0 ≤ 0 from (by first | omega | (simp; done))) (show (lr_impl_partsOf_2_1 b_0).length = (lr_impl_partsOf_2_1 b_0).length from (by first | omega | (simp; done))) (Nat.lt_succ_self _)) rfl) <| sZ GVector.cells b_0.Mesh.Places <| sL mk_impl_partsOf_4_0 3 (lp_val (ls_impl_partsOf_4 b_0) (x := (lr_impl_partsOf_4_3 b_0)) (lp_impl_partsOf_4 b_0 hp0 hp1 hp2 hp3 hp4 hp5 (((b_0.Mesh.Places.length : Int) - 0).toNat + 1) 0 (lr_impl_partsOf_3_2 b_0) (show 0 ≤ 0 from (by first | omega | (simp; done))) (show (lr_impl_partsOf_3_2 b_0).length = (lr_impl_partsOf_3_2 b_0).length from (by first | omega | (simp; done))) (Nat.lt_succ_self _)) rfl) <| sK [1] sN) rfl (by kernel_rfl) (by kernel_rfl) rfl ?_ ?_
 · rfl
 · simp [v_impl_partsOf]

def nd_impl_energyOf_0 (b_0 : GBody) : Nat := (fop .add .f32 (fop .add .f32 (fop .add .f32 ((v_impl_partsOf b_0).getD 0 default) ((v_impl_partsOf b_0).getD 1 default)) ((v_impl_partsOf b_0).getD 2 default)) ((v_impl_partsOf b_0).getD 3 default))

def v_impl_energyOf (b_0 : GBody) : Nat := (nd_impl_energyOf_0 b_0)

theorem eq_energyOf (b : GBody) (ok : OkBd b) : v_impl_energyOf b = v_spec_l03Energy b := by
  unfold v_impl_energyOf v_spec_l03Energy nd_impl_energyOf_0 nd_spec_l03Energy_0
  rw [eq_partsOf b ok]

theorem t_impl_energyOf (b_0 : GBody) (hp0 : b_0.Mesh.Places.length ≤ 1073741824) (hp1 : b_0.Mesh.Triangles.length ≤ 1073741824) (hp2 : ∀ t ∈ b_0.Mesh.Triangles, t.length ≤ 1073741824) (hp3 : b_0.Springs.length ≤ 1073741824) (hp4 : b_0.Weights.length ≤ 1073741824) (hp5 : OkBd b_0)  : Fn prog 70 [.agg [.sl (b_0.Mesh.Places.map GVector.cells), .sl (b_0.Mesh.Triangles.map (cL (cI .i64))), .sl (b_0.Springs.map GSpring.cells), .f .f32 b_0.Film, .f .f32 b_0.Bend, .sl (b_0.Weights.map (cF .f32)), .f .f32 b_0.Fall.X, .f .f32 b_0.Fall.Y, .f .f32 b_0.Fall.Z]] (.f .f32 (v_impl_energyOf b_0)) [] := by
 have y0 : (0 : Int) ≤ 0 := (by first | assumption | omega | (have q := len_partsOf b_0; omega) | (simp_all <;> omega))
 have y1 : 0 < ((v_impl_partsOf b_0).length : Int) := (by first | assumption | omega | (have q := len_partsOf b_0; omega) | (simp_all <;> omega))
 have y2 : 0 < (v_impl_partsOf b_0).length := (by first | assumption | omega | (have q := len_partsOf b_0; omega) | (simp_all <;> omega))
 have y3 : (0 : Int) ≤ 1 := (by first | assumption | omega | (have q := len_partsOf b_0; omega) | (simp_all <;> omega))
 have y4 : 1 < ((v_impl_partsOf b_0).length : Int) := (by first | assumption | omega | (have q := len_partsOf b_0; omega) | (simp_all <;> omega))
 have y5 : 1 < (v_impl_partsOf b_0).length := (by first | assumption | omega | (have q := len_partsOf b_0; omega) | (simp_all <;> omega))
 have y6 : (0 : Int) ≤ 2 := (by first | assumption | omega | (have q := len_partsOf b_0; omega) | (simp_all <;> omega))
 have y7 : 2 < ((v_impl_partsOf b_0).length : Int) := (by first | assumption | omega | (have q := len_partsOf b_0; omega) | (simp_all <;> omega))
 have y8 : 2 < (v_impl_partsOf b_0).length := (by first | assumption | omega | (have q := len_partsOf b_0; omega) | (simp_all <;> omega))
 have y9 : (0 : Int) ≤ 3 := (by first | assumption | omega | (have q := len_partsOf b_0; omega) | (simp_all <;> omega))
 have y10 : 3 < ((v_impl_partsOf b_0).length : Int) := (by first | assumption | omega | (have q := len_partsOf b_0; omega) | (simp_all <;> omega))
 have y11 : 3 < (v_impl_partsOf b_0).length := (by first | assumption | omega | (have q := len_partsOf b_0; omega) | (simp_all <;> omega))
 refine fnS E0Ok hMixed (c := bodyOf f70) [] (.f .f32 (nd_impl_energyOf_0 b_0)) [] func70 (sF (t_impl_partsOf b_0 hp0 hp1 hp2 hp3 hp4 hp5) <| sK [14, 14] <| sX (cF .f32) (v_impl_partsOf b_0) 0 y0 y1 <| sV (cF .f32) (v_impl_partsOf b_0) 0 y2 <| sX (cF .f32) (v_impl_partsOf b_0) 1 y3 y4 <| sV (cF .f32) (v_impl_partsOf b_0) 1 y5 <| sX (cF .f32) (v_impl_partsOf b_0) 2 y6 y7 <| sV (cF .f32) (v_impl_partsOf b_0) 2 y8 <| sX (cF .f32) (v_impl_partsOf b_0) 3 y9 y10 <| sV (cF .f32) (v_impl_partsOf b_0) 3 y11 <| sK [] sN) rfl (by kernel_rfl) (by kernel_rfl) rfl ?_ ?_
 · rfl
 · rfl

def nd_impl_shifted_0 (b_0 : GBody) (place_1 : Int) (step_3 : Nat) : Nat := (v_impl_energyOf (⟨(⟨(b_0.Mesh.Places.set place_1.toNat (⟨(fop .add .f32 ((b_0.Mesh.Places.getD place_1.toNat default).X) step_3), (b_0.Mesh.Places.getD place_1.toNat default).Y, (b_0.Mesh.Places.getD place_1.toNat default).Z⟩ : GVector)), b_0.Mesh.Triangles⟩ : GMesh), b_0.Springs, b_0.Film, b_0.Bend, b_0.Weights, b_0.Fall⟩ : GBody))

def nd_impl_shifted_1 (b_0 : GBody) (place_1 : Int) (step_3 : Nat) : Nat := (v_impl_energyOf (⟨(⟨(b_0.Mesh.Places.set place_1.toNat (⟨(b_0.Mesh.Places.getD place_1.toNat default).X, (fop .add .f32 ((b_0.Mesh.Places.getD place_1.toNat default).Y) step_3), (b_0.Mesh.Places.getD place_1.toNat default).Z⟩ : GVector)), b_0.Mesh.Triangles⟩ : GMesh), b_0.Springs, b_0.Film, b_0.Bend, b_0.Weights, b_0.Fall⟩ : GBody))

def nd_impl_shifted_2 (b_0 : GBody) (place_1 : Int) (step_3 : Nat) : Nat := (v_impl_energyOf (⟨(⟨(b_0.Mesh.Places.set place_1.toNat (⟨(b_0.Mesh.Places.getD place_1.toNat default).X, (b_0.Mesh.Places.getD place_1.toNat default).Y, (fop .add .f32 ((b_0.Mesh.Places.getD place_1.toNat default).Z) step_3)⟩ : GVector)), b_0.Mesh.Triangles⟩ : GMesh), b_0.Springs, b_0.Film, b_0.Bend, b_0.Weights, b_0.Fall⟩ : GBody))

def v_impl_shifted (b_0 : GBody) (place_1 : Int) (axis_2 : Int) (step_3 : Nat) : Nat := (cond (axis_2 == 0)
  (nd_impl_shifted_0 b_0 place_1 step_3)
  (cond (axis_2 == 1)
    (nd_impl_shifted_1 b_0 place_1 step_3)
    (nd_impl_shifted_2 b_0 place_1 step_3)))

theorem eq_shifted {b : GBody} (h : OkBd b) (p a : Int) (x : Nat) : v_impl_shifted b p a x = v_spec_l03Energy (v_spec_l03Bumped b p a x) := by
  unfold v_impl_shifted v_spec_l03Bumped nd_impl_shifted_0 nd_impl_shifted_1 nd_impl_shifted_2
  cases (a == 0) with
  | true => exact eq_energyOf _ (okBd_set h _ _ _ _ _)
  | false =>
    cases (a == 1) with
    | true => exact eq_energyOf _ (okBd_set h _ _ _ _ _)
    | false => exact eq_energyOf _ (okBd_set h _ _ _ _ _)

theorem t_impl_shifted (b_0 : GBody) (place_1 : Int) (axis_2 : Int) (step_3 : Nat) (hp0 : b_0.Mesh.Places.length ≤ 1073741824) (hp1 : b_0.Mesh.Triangles.length ≤ 1073741824) (hp2 : ∀ t ∈ b_0.Mesh.Triangles, t.length ≤ 1073741824) (hp3 : b_0.Springs.length ≤ 1073741824) (hp4 : b_0.Weights.length ≤ 1073741824) (hp5 : OkBd b_0) (hp6 : 0 ≤ place_1) (hp7 : place_1 < (b_0.Mesh.Places.length : Int))  : Fn prog 41 [.agg [.sl (b_0.Mesh.Places.map GVector.cells), .sl (b_0.Mesh.Triangles.map (cL (cI .i64))), .sl (b_0.Springs.map GSpring.cells), .f .f32 b_0.Film, .f .f32 b_0.Bend, .sl (b_0.Weights.map (cF .f32)), .f .f32 b_0.Fall.X, .f .f32 b_0.Fall.Y, .f .f32 b_0.Fall.Z], .i .i64 place_1, .i .i64 axis_2, .f .f32 step_3] (.f .f32 (v_impl_shifted b_0 place_1 axis_2 step_3)) [] := by
 have y0 : OkTris b_0.Mesh.Places.length b_0.Mesh.Triangles := (by first | assumption | omega | exact hp5.e.tris | exact okBd_set hp5 _ _ _ _ _ | (simp; omega))
 have y1 : (0 : Int) ≤ place_1 := (by first | assumption | omega | (first | omega | (simp; omega)) | (simp_all <;> omega))
 have p {a C} (s : Scr a C) := sF (i_impl_copyBody b_0 hp0 hp1 hp2 hp3 hp4 y0) <| sX GVector.cells b_0.Mesh.Places place_1 y1 hp7 <| s
 cases h0 : (axis_2 == 0) with
 | true =>
  have gh0 := eq_of_beq h0
  have y2 : place_1.toNat < b_0.Mesh.Places.length := by clear p; exact (by first | assumption | omega | (first | omega | (simp; omega)) | (simp_all <;> omega))
  have y3 : (⟨(⟨(b_0.Mesh.Places.set place_1.toNat (⟨(fop .add .f32 ((b_0.Mesh.Places.getD place_1.toNat default).X) step_3), (b_0.Mesh.Places.getD place_1.toNat default).Y, (b_0.Mesh.Places.getD place_1.toNat default).Z⟩ : GVector)), b_0.Mesh.Triangles⟩ : GMesh), b_0.Springs, b_0.Film, b_0.Bend, b_0.Weights, b_0.Fall⟩ : GBody).Mesh.Places.length ≤ 1073741824 := by clear p; exact (by first | assumption | omega | exact hp5.e.tris | exact okBd_set hp5 _ _ _ _ _ | (simp; omega))
  have y4 : (⟨(⟨(b_0.Mesh.Places.set place_1.toNat (⟨(fop .add .f32 ((b_0.Mesh.Places.getD place_1.toNat default).X) step_3), (b_0.Mesh.Places.getD place_1.toNat default).Y, (b_0.Mesh.Places.getD place_1.toNat default).Z⟩ : GVector)), b_0.Mesh.Triangles⟩ : GMesh), b_0.Springs, b_0.Film, b_0.Bend, b_0.Weights, b_0.Fall⟩ : GBody).Mesh.Triangles.length ≤ 1073741824 := by clear p; exact (by first | assumption | omega | exact hp5.e.tris | exact okBd_set hp5 _ _ _ _ _ | (simp; omega))
  have y5 : ∀ t ∈ (⟨(⟨(b_0.Mesh.Places.set place_1.toNat (⟨(fop .add .f32 ((b_0.Mesh.Places.getD place_1.toNat default).X) step_3), (b_0.Mesh.Places.getD place_1.toNat default).Y, (b_0.Mesh.Places.getD place_1.toNat default).Z⟩ : GVector)), b_0.Mesh.Triangles⟩ : GMesh), b_0.Springs, b_0.Film, b_0.Bend, b_0.Weights, b_0.Fall⟩ : GBody).Mesh.Triangles, t.length ≤ 1073741824 := by clear p; exact (by first | assumption | omega | exact hp5.e.tris | exact okBd_set hp5 _ _ _ _ _ | (simp; omega))
  have y6 : (⟨(⟨(b_0.Mesh.Places.set place_1.toNat (⟨(fop .add .f32 ((b_0.Mesh.Places.getD place_1.toNat default).X) step_3), (b_0.Mesh.Places.getD place_1.toNat default).Y, (b_0.Mesh.Places.getD place_1.toNat default).Z⟩ : GVector)), b_0.Mesh.Triangles⟩ : GMesh), b_0.Springs, b_0.Film, b_0.Bend, b_0.Weights, b_0.Fall⟩ : GBody).Springs.length ≤ 1073741824 := by clear p; exact (by first | assumption | omega | exact hp5.e.tris | exact okBd_set hp5 _ _ _ _ _ | (simp; omega))
  have y7 : (⟨(⟨(b_0.Mesh.Places.set place_1.toNat (⟨(fop .add .f32 ((b_0.Mesh.Places.getD place_1.toNat default).X) step_3), (b_0.Mesh.Places.getD place_1.toNat default).Y, (b_0.Mesh.Places.getD place_1.toNat default).Z⟩ : GVector)), b_0.Mesh.Triangles⟩ : GMesh), b_0.Springs, b_0.Film, b_0.Bend, b_0.Weights, b_0.Fall⟩ : GBody).Weights.length ≤ 1073741824 := by clear p; exact (by first | assumption | omega | exact hp5.e.tris | exact okBd_set hp5 _ _ _ _ _ | (simp; omega))
  have y8 : OkBd (⟨(⟨(b_0.Mesh.Places.set place_1.toNat (⟨(fop .add .f32 ((b_0.Mesh.Places.getD place_1.toNat default).X) step_3), (b_0.Mesh.Places.getD place_1.toNat default).Y, (b_0.Mesh.Places.getD place_1.toNat default).Z⟩ : GVector)), b_0.Mesh.Triangles⟩ : GMesh), b_0.Springs, b_0.Film, b_0.Bend, b_0.Weights, b_0.Fall⟩ : GBody) := by clear p; exact (by first | assumption | omega | exact hp5.e.tris | exact okBd_set hp5 _ _ _ _ _ | (simp; omega))
  refine fnS E0Ok hMixed (c := bodyOf f41) [] (.f .f32 (nd_impl_shifted_0 b_0 place_1 step_3)) [] func41 (p (sB h0 <| sV GVector.cells b_0.Mesh.Places place_1.toNat y2 <| sV GVector.cells b_0.Mesh.Places place_1.toNat y2 <| sF (Fn.castA (args' := [.agg [.sl ((b_0.Mesh.Places.map GVector.cells).set place_1.toNat [.f .f32 (fop .add .f32 ((b_0.Mesh.Places.getD place_1.toNat default).X) step_3), .f .f32 ((b_0.Mesh.Places.getD place_1.toNat default).Y), .f .f32 ((b_0.Mesh.Places.getD place_1.toNat default).Z)]), .sl ((b_0.Mesh.Triangles.map fun l => l.map (cI .i64)).map fun l => [.sl l]), .sl (b_0.Springs.map GSpring.cells), .f .f32 b_0.Film, .f .f32 b_0.Bend, .sl (b_0.Weights.map (cF .f32)), .f .f32 b_0.Fall.X, .f .f32 b_0.Fall.Y, .f .f32 b_0.Fall.Z]]) (t_impl_energyOf (⟨(⟨(b_0.Mesh.Places.set place_1.toNat (⟨(fop .add .f32 ((b_0.Mesh.Places.getD place_1.toNat default).X) step_3), (b_0.Mesh.Places.getD place_1.toNat default).Y, (b_0.Mesh.Places.getD place_1.toNat default).Z⟩ : GVector)), b_0.Mesh.Triangles⟩ : GMesh), b_0.Springs, b_0.Film, b_0.Bend, b_0.Weights, b_0.Fall⟩ : GBody) y3 y4 y5 y6 y7 y8) (by first | (simp [GVector.cells, cL, Function.comp_def]; done) | (simp [GVector.cells, cL, Function.comp_def]; rfl))) <| sK [] sN)) rfl (by kernel_rfl) (by kernel_rfl) rfl ?_ ?_
  · simp only [v_impl_shifted, h0, cond_true]
  · rfl
 | false =>
  have gh0 := ne_of_beq_false h0
  have q {a C} (s : Scr a C) := p (sB h0 <| s)
  clear p
  cases h1 : (axis_2 == 1) with
  | true =>
   have gh1 := eq_of_beq h1
   have y2 : place_1.toNat < b_0.Mesh.Places.length := by clear q; exact (by first | assumption | omega | (first | omega | (simp; omega)) | (simp_all <;> omega))
   have y3 : (⟨(⟨(b_0.Mesh.Places.set place_1.toNat (⟨(b_0.Mesh.Places.getD place_1.toNat default).X, (fop .add .f32 ((b_0.Mesh.Places.getD place_1.toNat default).Y) step_3), (b_0.Mesh.Places.getD place_1.toNat default).Z⟩ : GVector)), b_0.Mesh.Triangles⟩ : GMesh), b_0.Springs, b_0.Film, b_0.Bend, b_0.Weights, b_0.Fall⟩ : GBody).Mesh.Places.length ≤ 1073741824 := by clear q; exact (by first | assumption | omega | exact hp5.e.tris | exact okBd_set hp5 _ _ _ _ _ | (simp; omega))
   have y4 : (⟨(⟨(b_0.Mesh.Places.set place_1.toNat (⟨(b_0.Mesh.Places.getD place_1.toNat default).X, (fop .add .f32 ((b_0.Mesh.Places.getD place_1.toNat default).Y) step_3), (b_0.Mesh.Places.getD place_1.toNat default).Z⟩ : GVector)), b_0.Mesh.Triangles⟩ : GMesh), b_0.Springs, b_0.Film, b_0.Bend, b_0.Weights, b_0.Fall⟩ : GBody).Mesh.Triangles.length ≤ 1073741824 := by clear q; exact (by first | assumption | omega | exact hp5.e.tris | exact okBd_set hp5 _ _ _ _ _ | (simp; omega))
   have y5 : ∀ t ∈ (⟨(⟨(b_0.Mesh.Places.set place_1.toNat (⟨(b_0.Mesh.Places.getD place_1.toNat default).X, (fop .add .f32 ((b_0.Mesh.Places.getD place_1.toNat default).Y) step_3), (b_0.Mesh.Places.getD place_1.toNat default).Z⟩ : GVector)), b_0.Mesh.Triangles⟩ : GMesh), b_0.Springs, b_0.Film, b_0.Bend, b_0.Weights, b_0.Fall⟩ : GBody).Mesh.Triangles, t.length ≤ 1073741824 := by clear q; exact (by first | assumption | omega | exact hp5.e.tris | exact okBd_set hp5 _ _ _ _ _ | (simp; omega))
   have y6 : (⟨(⟨(b_0.Mesh.Places.set place_1.toNat (⟨(b_0.Mesh.Places.getD place_1.toNat default).X, (fop .add .f32 ((b_0.Mesh.Places.getD place_1.toNat default).Y) step_3), (b_0.Mesh.Places.getD place_1.toNat default).Z⟩ : GVector)), b_0.Mesh.Triangles⟩ : GMesh), b_0.Springs, b_0.Film, b_0.Bend, b_0.Weights, b_0.Fall⟩ : GBody).Springs.length ≤ 1073741824 := by clear q; exact (by first | assumption | omega | exact hp5.e.tris | exact okBd_set hp5 _ _ _ _ _ | (simp; omega))
   have y7 : (⟨(⟨(b_0.Mesh.Places.set place_1.toNat (⟨(b_0.Mesh.Places.getD place_1.toNat default).X, (fop .add .f32 ((b_0.Mesh.Places.getD place_1.toNat default).Y) step_3), (b_0.Mesh.Places.getD place_1.toNat default).Z⟩ : GVector)), b_0.Mesh.Triangles⟩ : GMesh), b_0.Springs, b_0.Film, b_0.Bend, b_0.Weights, b_0.Fall⟩ : GBody).Weights.length ≤ 1073741824 := by clear q; exact (by first | assumption | omega | exact hp5.e.tris | exact okBd_set hp5 _ _ _ _ _ | (simp; omega))
   have y8 : OkBd (⟨(⟨(b_0.Mesh.Places.set place_1.toNat (⟨(b_0.Mesh.Places.getD place_1.toNat default).X, (fop .add .f32 ((b_0.Mesh.Places.getD place_1.toNat default).Y) step_3), (b_0.Mesh.Places.getD place_1.toNat default).Z⟩ : GVector)), b_0.Mesh.Triangles⟩ : GMesh), b_0.Springs, b_0.Film, b_0.Bend, b_0.Weights, b_0.Fall⟩ : GBody) := by clear q; exact (by first | assumption | omega | exact hp5.e.tris | exact okBd_set hp5 _ _ _ _ _ | (simp; omega))
   refine fnS E0Ok hMixed (c := bodyOf f41) [] (.f .f32 (nd_impl_shifted_1 b_0 place_1 step_3)) [] func41 (q (sB h1 <| sV GVector.cells b_0.Mesh.Places place_1.toNat y2 <| sV GVector.cells b_0.Mesh.Places place_1.toNat y2 <| sF (Fn.castA (args' := [.agg [.sl ((b_0.Mesh.Places.map GVector.cells).set place_1.toNat [.f .f32 ((b_0.Mesh.Places.getD place_1.toNat default).X), .f .f32 (fop .add .f32 ((b_0.Mesh.Places.getD place_1.toNat default).Y) step_3), .f .f32 ((b_0.Mesh.Places.getD place_1.toNat default).Z)]), .sl ((b_0.Mesh.Triangles.map fun l => l.map (cI .i64)).map fun l => [.sl l]), .sl (b_0.Springs.map GSpring.cells), .f .f32 b_0.Film, .f .f32 b_0.Bend, .sl (b_0.Weights.map (cF .f32)), .f .f32 b_0.Fall.X, .f .f32 b_0.Fall.Y, .f .f32 b_0.Fall.Z]]) (t_impl_energyOf (⟨(⟨(b_0.Mesh.Places.set place_1.toNat (⟨(b_0.Mesh.Places.getD place_1.toNat default).X, (fop .add .f32 ((b_0.Mesh.Places.getD place_1.toNat default).Y) step_3), (b_0.Mesh.Places.getD place_1.toNat default).Z⟩ : GVector)), b_0.Mesh.Triangles⟩ : GMesh), b_0.Springs, b_0.Film, b_0.Bend, b_0.Weights, b_0.Fall⟩ : GBody) y3 y4 y5 y6 y7 y8) (by first | (simp [GVector.cells, cL, Function.comp_def]; done) | (simp [GVector.cells, cL, Function.comp_def]; rfl))) <| sK [] sN)) rfl (by kernel_rfl) (by kernel_rfl) rfl ?_ ?_
   · simp only [v_impl_shifted, h0, h1, cond_true, cond_false]
   · rfl
  | false =>
   have gh1 := ne_of_beq_false h1
   have y2 : place_1.toNat < b_0.Mesh.Places.length := by clear q; exact (by first | assumption | omega | (first | omega | (simp; omega)) | (simp_all <;> omega))
   have y3 : (⟨(⟨(b_0.Mesh.Places.set place_1.toNat (⟨(b_0.Mesh.Places.getD place_1.toNat default).X, (b_0.Mesh.Places.getD place_1.toNat default).Y, (fop .add .f32 ((b_0.Mesh.Places.getD place_1.toNat default).Z) step_3)⟩ : GVector)), b_0.Mesh.Triangles⟩ : GMesh), b_0.Springs, b_0.Film, b_0.Bend, b_0.Weights, b_0.Fall⟩ : GBody).Mesh.Places.length ≤ 1073741824 := by clear q; exact (by first | assumption | omega | exact hp5.e.tris | exact okBd_set hp5 _ _ _ _ _ | (simp; omega))
   have y4 : (⟨(⟨(b_0.Mesh.Places.set place_1.toNat (⟨(b_0.Mesh.Places.getD place_1.toNat default).X, (b_0.Mesh.Places.getD place_1.toNat default).Y, (fop .add .f32 ((b_0.Mesh.Places.getD place_1.toNat default).Z) step_3)⟩ : GVector)), b_0.Mesh.Triangles⟩ : GMesh), b_0.Springs, b_0.Film, b_0.Bend, b_0.Weights, b_0.Fall⟩ : GBody).Mesh.Triangles.length ≤ 1073741824 := by clear q; exact (by first | assumption | omega | exact hp5.e.tris | exact okBd_set hp5 _ _ _ _ _ | (simp; omega))
   have y5 : ∀ t ∈ (⟨(⟨(b_0.Mesh.Places.set place_1.toNat (⟨(b_0.Mesh.Places.getD place_1.toNat default).X, (b_0.Mesh.Places.getD place_1.toNat default).Y, (fop .add .f32 ((b_0.Mesh.Places.getD place_1.toNat default).Z) step_3)⟩ : GVector)), b_0.Mesh.Triangles⟩ : GMesh), b_0.Springs, b_0.Film, b_0.Bend, b_0.Weights, b_0.Fall⟩ : GBody).Mesh.Triangles, t.length ≤ 1073741824 := by clear q; exact (by first | assumption | omega | exact hp5.e.tris | exact okBd_set hp5 _ _ _ _ _ | (simp; omega))
   have y6 : (⟨(⟨(b_0.Mesh.Places.set place_1.toNat (⟨(b_0.Mesh.Places.getD place_1.toNat default).X, (b_0.Mesh.Places.getD place_1.toNat default).Y, (fop .add .f32 ((b_0.Mesh.Places.getD place_1.toNat default).Z) step_3)⟩ : GVector)), b_0.Mesh.Triangles⟩ : GMesh), b_0.Springs, b_0.Film, b_0.Bend, b_0.Weights, b_0.Fall⟩ : GBody).Springs.length ≤ 1073741824 := by clear q; exact (by first | assumption | omega | exact hp5.e.tris | exact okBd_set hp5 _ _ _ _ _ | (simp; omega))
   have y7 : (⟨(⟨(b_0.Mesh.Places.set place_1.toNat (⟨(b_0.Mesh.Places.getD place_1.toNat default).X, (b_0.Mesh.Places.getD place_1.toNat default).Y, (fop .add .f32 ((b_0.Mesh.Places.getD place_1.toNat default).Z) step_3)⟩ : GVector)), b_0.Mesh.Triangles⟩ : GMesh), b_0.Springs, b_0.Film, b_0.Bend, b_0.Weights, b_0.Fall⟩ : GBody).Weights.length ≤ 1073741824 := by clear q; exact (by first | assumption | omega | exact hp5.e.tris | exact okBd_set hp5 _ _ _ _ _ | (simp; omega))
   have y8 : OkBd (⟨(⟨(b_0.Mesh.Places.set place_1.toNat (⟨(b_0.Mesh.Places.getD place_1.toNat default).X, (b_0.Mesh.Places.getD place_1.toNat default).Y, (fop .add .f32 ((b_0.Mesh.Places.getD place_1.toNat default).Z) step_3)⟩ : GVector)), b_0.Mesh.Triangles⟩ : GMesh), b_0.Springs, b_0.Film, b_0.Bend, b_0.Weights, b_0.Fall⟩ : GBody) := by clear q; exact (by first | assumption | omega | exact hp5.e.tris | exact okBd_set hp5 _ _ _ _ _ | (simp; omega))
   refine fnS E0Ok hMixed (c := bodyOf f41) [] (.f .f32 (nd_impl_shifted_2 b_0 place_1 step_3)) [] func41 (q (sB h1 <| sV GVector.cells b_0.Mesh.Places place_1.toNat y2 <| sV GVector.cells b_0.Mesh.Places place_1.toNat y2 <| sF (Fn.castA (args' := [.agg [.sl ((b_0.Mesh.Places.map GVector.cells).set place_1.toNat [.f .f32 ((b_0.Mesh.Places.getD place_1.toNat default).X), .f .f32 ((b_0.Mesh.Places.getD place_1.toNat default).Y), .f .f32 (fop .add .f32 ((b_0.Mesh.Places.getD place_1.toNat default).Z) step_3)]), .sl ((b_0.Mesh.Triangles.map fun l => l.map (cI .i64)).map fun l => [.sl l]), .sl (b_0.Springs.map GSpring.cells), .f .f32 b_0.Film, .f .f32 b_0.Bend, .sl (b_0.Weights.map (cF .f32)), .f .f32 b_0.Fall.X, .f .f32 b_0.Fall.Y, .f .f32 b_0.Fall.Z]]) (t_impl_energyOf (⟨(⟨(b_0.Mesh.Places.set place_1.toNat (⟨(b_0.Mesh.Places.getD place_1.toNat default).X, (b_0.Mesh.Places.getD place_1.toNat default).Y, (fop .add .f32 ((b_0.Mesh.Places.getD place_1.toNat default).Z) step_3)⟩ : GVector)), b_0.Mesh.Triangles⟩ : GMesh), b_0.Springs, b_0.Film, b_0.Bend, b_0.Weights, b_0.Fall⟩ : GBody) y3 y4 y5 y6 y7 y8) (by first | (simp [GVector.cells, cL, Function.comp_def]; done) | (simp [GVector.cells, cL, Function.comp_def]; rfl))) <| sK [] sN)) rfl (by kernel_rfl) (by kernel_rfl) rfl ?_ ?_
   · simp only [v_impl_shifted, h0, h1, cond_false]
   · rfl

def nd_impl_SlopeAt_0 (b_0 : GBody) (place_1 : Int) (axis_2 : Int) (step_3 : Nat) : Nat := (fop .quo .f32 (fop .sub .f32 (v_impl_shifted b_0 place_1 axis_2 step_3) (v_impl_shifted b_0 place_1 axis_2 (fneg .f32 step_3))) (fop .mul .f32 1073741824 step_3))

def v_impl_SlopeAt (b_0 : GBody) (place_1 : Int) (axis_2 : Int) (step_3 : Nat) : Nat × Bool := (cond (v_impl_ValidBody b_0)
  (cond (v_impl_within place_1 0 (IntKind.wrap .i64 ((b_0.Mesh.Places.length : Int) - 1)))
    (cond (v_impl_within axis_2 0 2)
      (cond (v_impl_isOver step_3)
        ((nd_impl_SlopeAt_0 b_0 place_1 axis_2 step_3), true)
        (0, false))
      (0, false))
    (0, false))
  (0, false))

theorem t_impl_SlopeAt (b_0 : GBody) (place_1 : Int) (axis_2 : Int) (step_3 : Nat) (hp0 : b_0.Mesh.Places.length ≤ 1073741824) (hp1 : b_0.Mesh.Triangles.length ≤ 1073741824) (hp2 : ∀ t ∈ b_0.Mesh.Triangles, t.length ≤ 1073741824) (hp3 : b_0.Springs.length ≤ 1073741824) (hp4 : b_0.Weights.length ≤ 1073741824)  : Fn prog 10 [.agg [.sl (b_0.Mesh.Places.map GVector.cells), .sl (b_0.Mesh.Triangles.map (cL (cI .i64))), .sl (b_0.Springs.map GSpring.cells), .f .f32 b_0.Film, .f .f32 b_0.Bend, .sl (b_0.Weights.map (cF .f32)), .f .f32 b_0.Fall.X, .f .f32 b_0.Fall.Y, .f .f32 b_0.Fall.Z], .i .i64 place_1, .i .i64 axis_2, .f .f32 step_3] (.tup [.f .f32 ((v_impl_SlopeAt b_0 place_1 axis_2 step_3).1), .b ((v_impl_SlopeAt b_0 place_1 axis_2 step_3).2)]) [] := by
 have p {a C} (s : Scr a C) := sF (t_impl_ValidBody b_0 hp0 hp1 hp2 hp3 hp4) <| s
 cases h0 : (v_impl_ValidBody b_0) with
 | true =>
  have q {a C} (s : Scr a C) := p (sB' h0 <| sB' h0 <| sB' h0 <| sB' h0 <| sB' h0 <| sZ GVector.cells b_0.Mesh.Places <| sB' h0 <| sW .i64 ((b_0.Mesh.Places.length : Int) - 1) <| sB' h0 <| sF (t_impl_within place_1 0 (IntKind.wrap .i64 ((b_0.Mesh.Places.length : Int) - 1))) <| sB' h0 <| sB' h0 <| s)
  clear p
  cases h1 : (v_impl_within place_1 0 (IntKind.wrap .i64 ((b_0.Mesh.Places.length : Int) - 1))) with
  | true =>
   have p {a C} (s : Scr a C) := q (sB' h1 <| sB' h1 <| sF (t_impl_within axis_2 0 2) <| sB' h1 <| sB' h1 <| s)
   clear q
   cases h2 : (v_impl_within axis_2 0 2) with
   | true =>
    have q {a C} (s : Scr a C) := p (sB' h2 <| sB' h2 <| sF (t_impl_isOver step_3) <| sB' h2 <| sB' h2 <| s)
    clear p
    cases h3 : (v_impl_isOver step_3) with
    | true =>
     have y0 : OkBd b_0 := by clear q; exact (by first | assumption | omega | exact okBd_is _ (by rw [← eq_ValidBody]; assumption) | (have q := in_ok (n := b_0.Mesh.Places.length) (by omega) (by assumption : v_impl_within place_1 0 (IntKind.wrap .i64 ((b_0.Mesh.Places.length : Int) - 1)) = true); omega))
     have y1 : 0 ≤ place_1 := by clear q; exact (by first | assumption | omega | exact okBd_is _ (by rw [← eq_ValidBody]; assumption) | (have q := in_ok (n := b_0.Mesh.Places.length) (by omega) (by assumption : v_impl_within place_1 0 (IntKind.wrap .i64 ((b_0.Mesh.Places.length : Int) - 1)) = true); omega))
     have y2 : place_1 < (b_0.Mesh.Places.length : Int) := by clear q; exact (by first | assumption | omega | exact okBd_is _ (by rw [← eq_ValidBody]; assumption) | (have q := in_ok (n := b_0.Mesh.Places.length) (by omega) (by assumption : v_impl_within place_1 0 (IntKind.wrap .i64 ((b_0.Mesh.Places.length : Int) - 1)) = true); omega))
     refine fnS E0Ok hMixed (c := bodyOf f10) [] (.tup [.f .f32 (nd_impl_SlopeAt_0 b_0 place_1 axis_2 step_3), .b true]) [] func10 (q (sB' h3 <| sK [14, 14] <| sF (t_impl_shifted b_0 place_1 axis_2 step_3 hp0 hp1 hp2 hp3 hp4 y0 y1 y2) <| sF (t_impl_shifted b_0 place_1 axis_2 (fneg .f32 step_3) hp0 hp1 hp2 hp3 hp4 y0 y1 y2) <| sK [] sN)) rfl (by kernel_rfl) (by kernel_rfl) rfl ?_ ?_
     · simp only [v_impl_SlopeAt, h0, h1, h2, h3, cond_true]
     · rfl
    | false =>
     refine fnS E0Ok hMixed (c := bodyOf f10) [] (.tup [.f .f32 0, .b false]) [] func10 (q (sB' h3 <| sK [] sN)) rfl (by kernel_rfl) (by kernel_rfl) rfl ?_ ?_
     · simp only [v_impl_SlopeAt, h0, h1, h2, h3, cond_true, cond_false]
     · rfl
   | false =>
    refine fnS E0Ok hMixed (c := bodyOf f10) [] (.tup [.f .f32 0, .b false]) [] func10 (p (sB' h2 <| sB' h2 <| sB' h2 <| sB' h2 <| sB (show true = true from rfl) <| sK [] sN)) rfl (by kernel_rfl) (by kernel_rfl) rfl ?_ ?_
    · simp only [v_impl_SlopeAt, h0, h1, h2, cond_true, cond_false]
    · rfl
  | false =>
   refine fnS E0Ok hMixed (c := bodyOf f10) [] (.tup [.f .f32 0, .b false]) [] func10 (q (sB' h1 <| sB' h1 <| sB' h1 <| sB' h1 <| sB (show true = true from rfl) <| sB (show true = true from rfl) <| sB (show true = true from rfl) <| sB (show true = true from rfl) <| sB (show true = true from rfl) <| sK [] sN)) rfl (by kernel_rfl) (by kernel_rfl) rfl ?_ ?_
   · simp only [v_impl_SlopeAt, h0, h1, cond_true, cond_false]
   · rfl
 | false =>
  refine fnS E0Ok hMixed (c := bodyOf f10) [] (.tup [.f .f32 0, .b false]) [] func10 (p (sB' h0 <| sB' h0 <| sB' h0 <| sB' h0 <| sB' h0 <| sB' h0 <| sB' h0 <| sB' h0 <| sB' h0 <| sB (show true = true from rfl) <| sB (show true = true from rfl) <| sB (show true = true from rfl) <| sB (show true = true from rfl) <| sB (show true = true from rfl) <| sB (show true = true from rfl) <| sB (show true = true from rfl) <| sB (show true = true from rfl) <| sB (show true = true from rfl) <| sK [] sN)) rfl (by kernel_rfl) (by kernel_rfl) rfl ?_ ?_
  · simp only [v_impl_SlopeAt, h0, cond_false]
  · rfl

def v_laws_sameFloat (a_0 : Nat) (b_1 : Nat) : Bool := (cond (fcmp .neq .f64 a_0 a_0)
  (fcmp .neq .f64 b_1 b_1)
  (cond (fcmp .neq .f64 b_1 b_1)
    false
    (cond (fcmp .eql .f64 a_0 0)
      (cond (fcmp .eql .f64 b_1 0)
        ((fcmp .gtr .f64 (fop .quo .f64 4607182418800017408 a_0) 0) == (fcmp .gtr .f64 (fop .quo .f64 4607182418800017408 b_1) 0))
        (fcmp .eql .f64 a_0 b_1))
      (fcmp .eql .f64 a_0 b_1))))

theorem t_laws_sameFloat (a_0 : Nat) (b_1 : Nat)   : Fn prog 11 [.f .f64 a_0, .f .f64 b_1] (.b (v_laws_sameFloat a_0 b_1)) [] := by
 cases h0 : (fcmp .neq .f64 a_0 a_0) with
 | true =>
  refine fnS E0Ok hMixed (c := bodyOf f11) [] (.b (fcmp .neq .f64 b_1 b_1)) [] func11 (sB h0 <| sB h0 <| sB h0 <| sB h0 <| sB (show true = true from rfl) <| sB h0 <| sB h0 <| sB h0 <| sB h0 <| sK [] sN) rfl (by kernel_rfl) (by kernel_rfl) rfl ?_ ?_
  · simp only [v_laws_sameFloat, h0, cond_true]
  · rfl
 | false =>
  have p {a C} (s : Scr a C) := sB h0 <| sB h0 <| sB h0 <| sB h0 <| s
  cases h1 : (fcmp .neq .f64 b_1 b_1) with
  | true =>
   refine fnS E0Ok hMixed (c := bodyOf f11) [] (.b false) [] func11 (p (sB h1 <| sB h0 <| sB h0 <| sB h0 <| sB h0 <| sK [] sN)) rfl (by kernel_rfl) (by kernel_rfl) rfl ?_ ?_
   · simp only [v_laws_sameFloat, h0, h1, cond_true, cond_false]
   · rfl
  | false =>
   have q {a C} (s : Scr a C) := p (sB h1 <| s)
   clear p
   cases h2 : (fcmp .eql .f64 a_0 0) with
   | true =>
    have p {a C} (s : Scr a C) := q (sB h2 <| sB h2 <| sB h2 <| s)
    clear q
    cases h3 : (fcmp .eql .f64 b_1 0) with
    | true =>
     refine fnS E0Ok hMixed (c := bodyOf f11) [] (.b ((fcmp .gtr .f64 (fop .quo .f64 4607182418800017408 a_0) 0) == (fcmp .gtr .f64 (fop .quo .f64 4607182418800017408 b_1) 0))) [] func11 (p (sB h3 <| sK [] sN)) rfl (by kernel_rfl) (by kernel_rfl) rfl ?_ ?_
     · simp only [v_laws_sameFloat, h0, h1, h2, h3, cond_true, cond_false]
     · rfl
    | false =>
     refine fnS E0Ok hMixed (c := bodyOf f11) [] (.b (fcmp .eql .f64 a_0 b_1)) [] func11 (p (sB h3 <| sK [] sN)) rfl (by kernel_rfl) (by kernel_rfl) rfl ?_ ?_
     · simp only [v_laws_sameFloat, h0, h1, h2, h3, cond_true, cond_false]
     · rfl
   | false =>
    refine fnS E0Ok hMixed (c := bodyOf f11) [] (.b (fcmp .eql .f64 a_0 b_1)) [] func11 (q (sB h2 <| sB h2 <| sB h2 <| sB (show false = false from rfl) <| sK [] sN)) rfl (by kernel_rfl) (by kernel_rfl) rfl ?_ ?_
    · simp only [v_laws_sameFloat, h0, h1, h2, cond_false]
    · rfl

theorem same_self (x : Nat) : v_laws_sameFloat x x = true := by
  unfold v_laws_sameFloat
  cases h : fcmp .neq .f64 x x
  · simp only [cond_false]
    have h2 : fcmp .eql .f64 x x = true := by
      unfold fcmp at h ⊢
      simpa using h
    cases fcmp .eql .f64 x 0 <;> simp [h2]
  · rfl

def v_laws_eqVector (a_0 : GVector) (b_1 : GVector) : Bool := (cond (v_laws_sameFloat (fcv .f32 .f64 a_0.X) (fcv .f32 .f64 b_1.X))
  (cond (v_laws_sameFloat (fcv .f32 .f64 a_0.Y) (fcv .f32 .f64 b_1.Y))
    (cond (v_laws_sameFloat (fcv .f32 .f64 a_0.Z) (fcv .f32 .f64 b_1.Z))
      true
      false)
    false)
  false)

theorem t_laws_eqVector (a_0 : GVector) (b_1 : GVector)   : Fn prog 45 [.agg [.f .f32 a_0.X, .f .f32 a_0.Y, .f .f32 a_0.Z], .agg [.f .f32 b_1.X, .f .f32 b_1.Y, .f .f32 b_1.Z]] (.b (v_laws_eqVector a_0 b_1)) [] := by
 have p {a C} (s : Scr a C) := sC (widenOk a_0.X) <| sC (widenOk b_1.X) <| sF (t_laws_sameFloat (fcv .f32 .f64 a_0.X) (fcv .f32 .f64 b_1.X)) <| s
 cases h0 : (v_laws_sameFloat (fcv .f32 .f64 a_0.X) (fcv .f32 .f64 b_1.X)) with
 | true =>
  have q {a C} (s : Scr a C) := p (sB' h0 <| sC (widenOk a_0.Y) <| sC (widenOk b_1.Y) <| sF (t_laws_sameFloat (fcv .f32 .f64 a_0.Y) (fcv .f32 .f64 b_1.Y)) <| s)
  clear p
  cases h1 : (v_laws_sameFloat (fcv .f32 .f64 a_0.Y) (fcv .f32 .f64 b_1.Y)) with
  | true =>
   have p {a C} (s : Scr a C) := q (sB' h1 <| sC (widenOk a_0.Z) <| sC (widenOk b_1.Z) <| sF (t_laws_sameFloat (fcv .f32 .f64 a_0.Z) (fcv .f32 .f64 b_1.Z)) <| s)
   clear q
   cases h2 : (v_laws_sameFloat (fcv .f32 .f64 a_0.Z) (fcv .f32 .f64 b_1.Z)) with
   | true =>
    refine fnS E0Ok hMixed (c := bodyOf f45) [] (.b true) [] func45 (p (sB' h2 <| sK [] sN)) rfl (by kernel_rfl) (by kernel_rfl) rfl ?_ ?_
    · simp only [v_laws_eqVector, h0, h1, h2, cond_true]
    · rfl
   | false =>
    refine fnS E0Ok hMixed (c := bodyOf f45) [] (.b false) [] func45 (p (sB' h2 <| sK [] sN)) rfl (by kernel_rfl) (by kernel_rfl) rfl ?_ ?_
    · simp only [v_laws_eqVector, h0, h1, h2, cond_true, cond_false]
    · rfl
  | false =>
   refine fnS E0Ok hMixed (c := bodyOf f45) [] (.b false) [] func45 (q (sB' h1 <| sK [] sN)) rfl (by kernel_rfl) (by kernel_rfl) rfl ?_ ?_
   · simp only [v_laws_eqVector, h0, h1, cond_true, cond_false]
   · rfl
 | false =>
  refine fnS E0Ok hMixed (c := bodyOf f45) [] (.b false) [] func45 (p (sB' h0 <| sK [] sN)) rfl (by kernel_rfl) (by kernel_rfl) rfl ?_ ?_
  · simp only [v_laws_eqVector, h0, cond_false]
  · rfl

theorem eqVector_self (a : GVector) : v_laws_eqVector a a = true := by
  simp [v_laws_eqVector, same_self]

def lo_laws_eqVectorS_1 (a_0 : (List GVector)) (b_1 : (List GVector)) : Nat → Int → (Unit) ⊕ (Unit)
  | 0, _ => .inl default
  | k + 1, i_l0 => (cond (decide (i_l0 < (a_0.length : Int)))
    (cond (v_laws_eqVector (a_0.getD i_l0.toNat default) (b_1.getD i_l0.toNat default))
      (lo_laws_eqVectorS_1 a_0 b_1 k (i_l0 + 1))
      (.inl ()))
    (.inr ()))

def ls_laws_eqVectorS_1 (a_0 : (List GVector)) (b_1 : (List GVector)) : (Unit) ⊕ (Unit) → Ex × St
  | .inl r => (.ret, ⟨[.any, .any, .any, .any, .b false, .any, .any, .any, .any, .any, .any, .any, .any, .any, .any, .any, .any, .any, .any, .any, .any, .any, .any, .any, .any, .any, .any], []⟩)
  | .inr r => ((.exit 0), ⟨[.sl (a_0.map GVector.cells), .sl (b_1.map GVector.cells), .any, .any, .any, .any, .sl (a_0.map GVector.cells), .i .i64 (a_0.length : Int), .sl (b_1.map GVector.cells), .i .i64 (b_1.length : Int), .b ((a_0.length : Int) != (b_1.length : Int)), .any, .any, .any, .any, .any, .any, .any, .any, .any, .any, .any, .any, .any, .any, .any, .any], []⟩)

def hd_laws_eqVectorS_1 (a_0 : (List GVector)) (b_1 : (List GVector)) (i_l0 : Int) : St := ⟨[.sl (a_0.map GVector.cells), .sl (b_1.map GVector.cells), .any, .any, .any, .i .i64 i_l0, .sl (a_0.map GVector.cells), .i .i64 (a_0.length : Int), .sl (b_1.map GVector.cells), .i .i64 (b_1.length : Int), .b ((a_0.length : Int) != (b_1.length : Int)), .any, .any, .any, .any, .any, .any, .any, .any, .any, .any, .any, .any, .any, .any, .any, .any], []⟩

def mk_laws_eqVectorS_1_0 : List Bool := [true, true, false, false, false, true, true, true, true, true, true, false, false, false, false, false, false, false, false, false, false, false, false, false, false, false, false]

def mk_laws_eqVectorS_1_1 : List Bool := [false, false, false, false, true, false, false, false, false, false, false, false, false, false, false, false, false, false, false, false, false, false, false, false, false, false, false]

def mk_laws_eqVectorS_1_2 : List Bool := [true, true, false, false, false, false, true, true, true, true, true, false, false, false, false, false, false, false, false, false, false, false, false, false, false, false, false]

theorem lp_laws_eqVectorS_1 (a_0 : (List GVector)) (b_1 : (List GVector)) (hp0 : a_0.length ≤ 1073741824) (hp1 : b_1.length ≤ 1073741824) (hf_laws_eqVectorS_1_0 : ((a_0.length : Int) != (b_1.length : Int)) = false) : ∀ (k : Nat) (i_l0 : Int) (hv_laws_eqVectorS_1_0 : 0 ≤ i_l0) (hk : ((a_0.length : Int) - i_l0).toNat < k), Lp prog 0 (sub (bodyOf f15) [1, 1, 0, 1, 0, 0]) (hd_laws_eqVectorS_1 a_0 b_1 i_l0) (ls_laws_eqVectorS_1 a_0 b_1 (lo_laws_eqVectorS_1 a_0 b_1 k i_l0)).1 (ls_laws_eqVectorS_1 a_0 b_1 (lo_laws_eqVectorS_1 a_0 b_1 k i_l0)).2 := by
 intro k
 induction k with
 | zero => intro i_l0 hv_laws_eqVectorS_1_0 hk; exact absurd hk (Nat.not_lt_zero _)
 | succ k ih =>
  intro i_l0 hv_laws_eqVectorS_1_0 hk
  have p {a C} (s : Scr a C) := sZ GVector.cells a_0 <| s
  cases h_0 : (decide (i_l0 < (a_0.length : Int))) with
  | true =>
   have gh_0 := of_decide_eq_true h_0
   have y_0 : (0 : Int) ≤ i_l0 := by clear p; exact (by first | assumption | omega | (simp_all <;> omega))
   have y_1 : i_l0 < (a_0.length : Int) := by clear p; exact (by first | assumption | omega | (simp_all <;> omega))
   have y_2 : i_l0 < (b_1.length : Int) := by clear p; exact (by first | assumption | omega | (simp_all <;> omega))
   have q {a C} (s : Scr a C) := p (sB h_0 <| sK [8, 8] <| sG GVector.cells a_0 i_l0 y_0 y_1 <| sG GVector.cells b_1 i_l0 y_0 y_2 <| sF (t_laws_eqVector (a_0.getD i_l0.toNat default) (b_1.getD i_l0.toNat default)) <| s)
   clear p
   cases h_1 : (v_laws_eqVector (a_0.getD i_l0.toNat default) (b_1.getD i_l0.toNat default)) with
   | true =>
    have y_3 : (-9223372036854775808 : Int) ≤ (i_l0 + 1) := by clear q; exact (by first | assumption | omega | (simp_all <;> omega))
    have y_4 : (i_l0 + 1) ≤ (9223372036854775807 : Int) := by clear q; exact (by first | assumption | omega | (simp_all <;> omega))
    have e : lo_laws_eqVectorS_1 a_0 b_1 (k + 1) i_l0 = (lo_laws_eqVectorS_1 a_0 b_1 k (i_l0 + 1)) := by simp only [lo_laws_eqVectorS_1, h_0, h_1, cond_true]
    rw [e]
    exact nextR E0Ok hMixed [] mk_laws_eqVectorS_1_0 [] (ih (i_l0 + 1) (show 0 ≤ (i_l0 + 1) from (by first | assumption | omega | (simp_all <;> omega))) (by first | assumption | omega | (simp_all <;> omega))) (q (sB' h_1 <| sI (i_l0 + 1) y_3 y_4 <| sN)) (by kernel_rfl)
   | false =>
    have e : lo_laws_eqVectorS_1 a_0 b_1 (k + 1) i_l0 = (.inl ()) := by simp only [lo_laws_eqVectorS_1, h_0, h_1, cond_true, cond_false]
    rw [e]
    exact outR (e := .ret) E0Ok hMixed [] mk_laws_eqVectorS_1_1 [] (q (sB' h_1 <| sN)) (by kernel_rfl) (by intro h; cases h)
  | false =>
   have gh_0 := of_decide_eq_false h_0
   have e : lo_laws_eqVectorS_1 a_0 b_1 (k + 1) i_l0 = (.inr ()) := by simp only [lo_laws_eqVectorS_1, h_0, cond_false]
   rw [e]
   exact outR (e := (.exit 0)) E0Ok hMixed [] mk_laws_eqVectorS_1_2 [] (p (sB h_0 <| sN)) (by kernel_rfl) (by intro h; cases h)

def lr_laws_eqVectorS_1_0 (a_0 : (List GVector)) (b_1 : (List GVector)) : (Unit) ⊕ (Unit) := (lo_laws_eqVectorS_1 a_0 b_1 (((a_0.length : Int) - 0).toNat + 1) 0)

def v_laws_eqVectorS (a_0 : (List GVector)) (b_1 : (List GVector)) : Bool := (cond ((a_0.length : Int) != (b_1.length : Int))
  false
  (match (lr_laws_eqVectorS_1_0 a_0 b_1) with
    | .inl r2 => false
    | .inr r2 => true))

theorem t_laws_eqVectorS (a_0 : (List GVector)) (b_1 : (List GVector)) (hp0 : a_0.length ≤ 1073741824) (hp1 : b_1.length ≤ 1073741824)  : Fn prog 15 [.sl (a_0.map GVector.cells), .sl (b_1.map GVector.cells)] (.b (v_laws_eqVectorS a_0 b_1)) [] := by
 have p {a C} (s : Scr a C) := sZ GVector.cells a_0 <| sZ GVector.cells b_1 <| s
 cases h0 : ((a_0.length : Int) != (b_1.length : Int)) with
 | true =>
  have gh0 := bne_iff_ne.1 h0
  refine fnS E0Ok hMixed (c := bodyOf f15) [] (.b false) [] func15 (p (sB h0 <| sK [] sN)) rfl (by kernel_rfl) (by kernel_rfl) rfl ?_ ?_
  · simp only [v_laws_eqVectorS, h0, cond_true]
  · rfl
 | false =>
  have gh0 := bne_eq_false_iff_eq.1 h0
  have q {a C} (s : Scr a C) := p (sB h0 <| s)
  clear p
  cases h1 : (lr_laws_eqVectorS_1_0 a_0 b_1) with
  | inl r2 =>
   refine fnS E0Ok hMixed (c := bodyOf f15) [] (.b false) [] func15 (q (sL mk_laws_eqVectorS_1_0 0 (lp_val (ls_laws_eqVectorS_1 a_0 b_1) (x := (lr_laws_eqVectorS_1_0 a_0 b_1)) (lp_laws_eqVectorS_1 a_0 b_1 hp0 hp1 h0 (((a_0.length : Int) - 0).toNat + 1) 0 (show 0 ≤ 0 from (by first | assumption | omega | (simp_all <;> omega))) (Nat.lt_succ_self _)) h1) <| sK [] sN)) rfl (by kernel_rfl) (by kernel_rfl) rfl ?_ ?_
   · simp only [v_laws_eqVectorS, h0, h1, cond_false]
   · rfl
  | inr r2 =>
   refine fnS E0Ok hMixed (c := bodyOf f15) [] (.b true) [] func15 (q (sL mk_laws_eqVectorS_1_0 0 (lp_val (ls_laws_eqVectorS_1 a_0 b_1) (x := (lr_laws_eqVectorS_1_0 a_0 b_1)) (lp_laws_eqVectorS_1 a_0 b_1 hp0 hp1 h0 (((a_0.length : Int) - 0).toNat + 1) 0 (show 0 ≤ 0 from (by first | assumption | omega | (simp_all <;> omega))) (Nat.lt_succ_self _)) h1) <| sK [] sN)) rfl (by kernel_rfl) (by kernel_rfl) rfl ?_ ?_
   · simp only [v_laws_eqVectorS, h0, h1, cond_false]
   · rfl

theorem eqVectorS_self (a : List GVector) : v_laws_eqVectorS a a = true := by
  unfold v_laws_eqVectorS lr_laws_eqVectorS_1_0
  rw [all_loop (a := a) (p := fun v => v_laws_eqVector v v) (lo := lo_laws_eqVectorS_1 a a) (x := ()) (y := ()) (fun k i => rfl) (fun v _ => eqVector_self v) _ _ (Int.le_refl 0) (Nat.lt_succ_self _)]
  simp

def lo_laws_eqInt64S_1 (a_0 : (List Int)) (b_1 : (List Int)) : Nat → Int → (Unit) ⊕ (Unit)
  | 0, _ => .inl default
  | k + 1, i_l0 => (cond (decide (i_l0 < (a_0.length : Int)))
    (cond ((a_0.getD i_l0.toNat default) != (b_1.getD i_l0.toNat default))
      (.inl ())
      (lo_laws_eqInt64S_1 a_0 b_1 k (i_l0 + 1)))
    (.inr ()))

def ls_laws_eqInt64S_1 (a_0 : (List Int)) (b_1 : (List Int)) : (Unit) ⊕ (Unit) → Ex × St
  | .inl r => (.ret, ⟨[.any, .any, .any, .any, .b false, .any, .any, .any, .any, .any, .any, .any, .any, .any, .any, .any, .any, .any, .any, .any, .any, .any, .any, .any, .any, .any], []⟩)
  | .inr r => ((.exit 0), ⟨[.sl (a_0.map (cI .i64)), .sl (b_1.map (cI .i64)), .any, .any, .any, .any, .sl (a_0.map (cI .i64)), .i .i64 (a_0.length : Int), .sl (b_1.map (cI .i64)), .i .i64 (b_1.length : Int), .b ((a_0.length : Int) != (b_1.length : Int)), .any, .any, .any, .any, .any, .any, .any, .any, .any, .any, .any, .any, .any, .any, .any], []⟩)

def hd_laws_eqInt64S_1 (a_0 : (List Int)) (b_1 : (List Int)) (i_l0 : Int) : St := ⟨[.sl (a_0.map (cI .i64)), .sl (b_1.map (cI .i64)), .any, .any, .any, .i .i64 i_l0, .sl (a_0.map (cI .i64)), .i .i64 (a_0.length : Int), .sl (b_1.map (cI .i64)), .i .i64 (b_1.length : Int), .b ((a_0.length : Int) != (b_1.length : Int)), .any, .any, .any, .any, .any, .any, .any, .any, .any, .any, .any, .any, .any, .any, .any], []⟩

def mk_laws_eqInt64S_1_0 : List Bool := [true, true, false, false, false, true, true, true, true, true, true, false, false, false, false, false, false, false, false, false, false, false, false, false, false, false]

def mk_laws_eqInt64S_1_1 : List Bool := [false, false, false, false, true, false, false, false, false, false, false, false, false, false, false, false, false, false, false, false, false, false, false, false, false, false]

def mk_laws_eqInt64S_1_2 : List Bool := [true, true, false, false, false, false, true, true, true, true, true, false, false, false, false, false, false, false, false, false, false, false, false, false, false, false]

theorem lp_laws_eqInt64S_1 (a_0 : (List Int)) (b_1 : (List Int)) (hp0 : a_0.length ≤ 1073741824) (hp1 : b_1.length ≤ 1073741824) (hf_laws_eqInt64S_1_0 : ((a_0.length : Int) != (b_1.length : Int)) = false) : ∀ (k : Nat) (i_l0 : Int) (hv_laws_eqInt64S_1_0 : 0 ≤ i_l0) (hk : ((a_0.length : Int) - i_l0).toNat < k), Lp prog 0 (sub (bodyOf f22) [1, 1, 0, 1, 0, 0]) (hd_laws_eqInt64S_1 a_0 b_1 i_l0) (ls_laws_eqInt64S_1 a_0 b_1 (lo_laws_eqInt64S_1 a_0 b_1 k i_l0)).1 (ls_laws_eqInt64S_1 a_0 b_1 (lo_laws_eqInt64S_1 a_0 b_1 k i_l0)).2 := by
 intro k
 induction k with
 | zero => intro i_l0 hv_laws_eqInt64S_1_0 hk; exact absurd hk (Nat.not_lt_zero _)
 | succ k ih =>
  intro i_l0 hv_laws_eqInt64S_1_0 hk
  have p {a C} (s : Scr a C) := sZ (cI .i64) a_0 <| s
  cases h_0 : (decide (i_l0 < (a_0.length : Int))) with
  | true =>
   have gh_0 := of_decide_eq_true h_0
   have y_0 : (0 : Int) ≤ i_l0 := by clear p; exact (by first | assumption | omega | (simp_all <;> omega))
   have y_1 : i_l0 < (a_0.length : Int) := by clear p; exact (by first | assumption | omega | (simp_all <;> omega))
   have y_2 : i_l0 < (b_1.length : Int) := by clear p; exact (by first | assumption | omega | (simp_all <;> omega))
   have q {a C} (s : Scr a C) := p (sB h_0 <| sK [8, 8] <| sG (cI .i64) a_0 i_l0 y_0 y_1 <| sG (cI .i64) b_1 i_l0 y_0 y_2 <| s)
   clear p
   cases h_1 : ((a_0.getD i_l0.toNat default) != (b_1.getD i_l0.toNat default)) with
   | true =>
    have gh_1 := bne_iff_ne.1 h_1
    have e : lo_laws_eqInt64S_1 a_0 b_1 (k + 1) i_l0 = (.inl ()) := by simp only [lo_laws_eqInt64S_1, h_0, h_1, cond_true]
    rw [e]
    exact outR (e := .ret) E0Ok hMixed [] mk_laws_eqInt64S_1_1 [] (q (sB h_1 <| sN)) (by kernel_rfl) (by intro h; cases h)
   | false =>
    have gh_1 := bne_eq_false_iff_eq.1 h_1
    have y_3 : (-9223372036854775808 : Int) ≤ (i_l0 + 1) := by clear q; exact (by first | assumption | omega | (simp_all <;> omega))
    have y_4 : (i_l0 + 1) ≤ (9223372036854775807 : Int) := by clear q; exact (by first | assumption | omega | (simp_all <;> omega))
    have e : lo_laws_eqInt64S_1 a_0 b_1 (k + 1) i_l0 = (lo_laws_eqInt64S_1 a_0 b_1 k (i_l0 + 1)) := by simp only [lo_laws_eqInt64S_1, h_0, h_1, cond_true, cond_false]
    rw [e]
    exact nextR E0Ok hMixed [] mk_laws_eqInt64S_1_0 [] (ih (i_l0 + 1) (show 0 ≤ (i_l0 + 1) from (by first | assumption | omega | (simp_all <;> omega))) (by first | assumption | omega | (simp_all <;> omega))) (q (sB h_1 <| sI (i_l0 + 1) y_3 y_4 <| sN)) (by kernel_rfl)
  | false =>
   have gh_0 := of_decide_eq_false h_0
   have e : lo_laws_eqInt64S_1 a_0 b_1 (k + 1) i_l0 = (.inr ()) := by simp only [lo_laws_eqInt64S_1, h_0, cond_false]
   rw [e]
   exact outR (e := (.exit 0)) E0Ok hMixed [] mk_laws_eqInt64S_1_2 [] (p (sB h_0 <| sN)) (by kernel_rfl) (by intro h; cases h)

def lr_laws_eqInt64S_1_0 (a_0 : (List Int)) (b_1 : (List Int)) : (Unit) ⊕ (Unit) := (lo_laws_eqInt64S_1 a_0 b_1 (((a_0.length : Int) - 0).toNat + 1) 0)

def v_laws_eqInt64S (a_0 : (List Int)) (b_1 : (List Int)) : Bool := (cond ((a_0.length : Int) != (b_1.length : Int))
  false
  (match (lr_laws_eqInt64S_1_0 a_0 b_1) with
    | .inl r2 => false
    | .inr r2 => true))

theorem t_laws_eqInt64S (a_0 : (List Int)) (b_1 : (List Int)) (hp0 : a_0.length ≤ 1073741824) (hp1 : b_1.length ≤ 1073741824)  : Fn prog 22 [.sl (a_0.map (cI .i64)), .sl (b_1.map (cI .i64))] (.b (v_laws_eqInt64S a_0 b_1)) [] := by
 have p {a C} (s : Scr a C) := sZ (cI .i64) a_0 <| sZ (cI .i64) b_1 <| s
 cases h0 : ((a_0.length : Int) != (b_1.length : Int)) with
 | true =>
  have gh0 := bne_iff_ne.1 h0
  refine fnS E0Ok hMixed (c := bodyOf f22) [] (.b false) [] func22 (p (sB h0 <| sK [] sN)) rfl (by kernel_rfl) (by kernel_rfl) rfl ?_ ?_
  · simp only [v_laws_eqInt64S, h0, cond_true]
  · rfl
 | false =>
  have gh0 := bne_eq_false_iff_eq.1 h0
  have q {a C} (s : Scr a C) := p (sB h0 <| s)
  clear p
  cases h1 : (lr_laws_eqInt64S_1_0 a_0 b_1) with
  | inl r2 =>
   refine fnS E0Ok hMixed (c := bodyOf f22) [] (.b false) [] func22 (q (sL mk_laws_eqInt64S_1_0 0 (lp_val (ls_laws_eqInt64S_1 a_0 b_1) (x := (lr_laws_eqInt64S_1_0 a_0 b_1)) (lp_laws_eqInt64S_1 a_0 b_1 hp0 hp1 h0 (((a_0.length : Int) - 0).toNat + 1) 0 (show 0 ≤ 0 from (by first | assumption | omega | (simp_all <;> omega))) (Nat.lt_succ_self _)) h1) <| sK [] sN)) rfl (by kernel_rfl) (by kernel_rfl) rfl ?_ ?_
   · simp only [v_laws_eqInt64S, h0, h1, cond_false]
   · rfl
  | inr r2 =>
   refine fnS E0Ok hMixed (c := bodyOf f22) [] (.b true) [] func22 (q (sL mk_laws_eqInt64S_1_0 0 (lp_val (ls_laws_eqInt64S_1 a_0 b_1) (x := (lr_laws_eqInt64S_1_0 a_0 b_1)) (lp_laws_eqInt64S_1 a_0 b_1 hp0 hp1 h0 (((a_0.length : Int) - 0).toNat + 1) 0 (show 0 ≤ 0 from (by first | assumption | omega | (simp_all <;> omega))) (Nat.lt_succ_self _)) h1) <| sK [] sN)) rfl (by kernel_rfl) (by kernel_rfl) rfl ?_ ?_
   · simp only [v_laws_eqInt64S, h0, h1, cond_false]
   · rfl

theorem eqInt64S_self (a : List Int) : v_laws_eqInt64S a a = true := by
  unfold v_laws_eqInt64S lr_laws_eqInt64S_1_0
  rw [all_from (a := a) (p := fun v => !(v != v)) (lo := lo_laws_eqInt64S_1 a a) (x := ()) (y := ()) (fun k i => by rw [lo_laws_eqInt64S_1]; cases (a.getD i.toNat default != a.getD i.toNat default) <;> rfl)]
  rw [show (a.all fun v => !(v != v)) = true from by rw [List.all_eq_true]; intro v _; simp]
  simp

def lo_laws_eqInt64SS_1 (a_0 : (List (List Int))) (b_1 : (List (List Int))) : Nat → Int → (Unit) ⊕ (Unit)
  | 0, _ => .inl default
  | k + 1, i_l0 => (cond (decide (i_l0 < (a_0.length : Int)))
    (cond (v_laws_eqInt64S (a_0.getD i_l0.toNat default) (b_1.getD i_l0.toNat default))
      (lo_laws_eqInt64SS_1 a_0 b_1 k (i_l0 + 1))
      (.inl ()))
    (.inr ()))

def ls_laws_eqInt64SS_1 (a_0 : (List (List Int))) (b_1 : (List (List Int))) : (Unit) ⊕ (Unit) → Ex × St
  | .inl r => (.ret, ⟨[.any, .any, .any, .any, .b false, .any, .any, .any, .any, .any, .any, .any, .any, .any, .any, .any, .any, .any, .any, .any, .any, .any, .any, .any, .any, .any, .any], []⟩)
  | .inr r => ((.exit 0), ⟨[.sl (a_0.map (cL (cI .i64))), .sl (b_1.map (cL (cI .i64))), .any, .any, .any, .any, .sl (a_0.map (cL (cI .i64))), .i .i64 (a_0.length : Int), .sl (b_1.map (cL (cI .i64))), .i .i64 (b_1.length : Int), .b ((a_0.length : Int) != (b_1.length : Int)), .any, .any, .any, .any, .any, .any, .any, .any, .any, .any, .any, .any, .any, .any, .any, .any], []⟩)

def hd_laws_eqInt64SS_1 (a_0 : (List (List Int))) (b_1 : (List (List Int))) (i_l0 : Int) : St := ⟨[.sl (a_0.map (cL (cI .i64))), .sl (b_1.map (cL (cI .i64))), .any, .any, .any, .i .i64 i_l0, .sl (a_0.map (cL (cI .i64))), .i .i64 (a_0.length : Int), .sl (b_1.map (cL (cI .i64))), .i .i64 (b_1.length : Int), .b ((a_0.length : Int) != (b_1.length : Int)), .any, .any, .any, .any, .any, .any, .any, .any, .any, .any, .any, .any, .any, .any, .any, .any], []⟩

def mk_laws_eqInt64SS_1_0 : List Bool := [true, true, false, false, false, true, true, true, true, true, true, false, false, false, false, false, false, false, false, false, false, false, false, false, false, false, false]

def mk_laws_eqInt64SS_1_1 : List Bool := [false, false, false, false, true, false, false, false, false, false, false, false, false, false, false, false, false, false, false, false, false, false, false, false, false, false, false]

def mk_laws_eqInt64SS_1_2 : List Bool := [true, true, false, false, false, false, true, true, true, true, true, false, false, false, false, false, false, false, false, false, false, false, false, false, false, false, false]

theorem lp_laws_eqInt64SS_1 (a_0 : (List (List Int))) (b_1 : (List (List Int))) (hp0 : a_0.length ≤ 1073741824) (hp1 : ∀ t ∈ a_0, t.length ≤ 1073741824) (hp2 : b_1.length ≤ 1073741824) (hp3 : ∀ t ∈ b_1, t.length ≤ 1073741824) (hf_laws_eqInt64SS_1_0 : ((a_0.length : Int) != (b_1.length : Int)) = false) : ∀ (k : Nat) (i_l0 : Int) (hv_laws_eqInt64SS_1_0 : 0 ≤ i_l0) (hk : ((a_0.length : Int) - i_l0).toNat < k), Lp prog 0 (sub (bodyOf f71) [1, 1, 0, 1, 0, 0]) (hd_laws_eqInt64SS_1 a_0 b_1 i_l0) (ls_laws_eqInt64SS_1 a_0 b_1 (lo_laws_eqInt64SS_1 a_0 b_1 k i_l0)).1 (ls_laws_eqInt64SS_1 a_0 b_1 (lo_laws_eqInt64SS_1 a_0 b_1 k i_l0)).2 := by
 intro k
 induction k with
 | zero => intro i_l0 hv_laws_eqInt64SS_1_0 hk; exact absurd hk (Nat.not_lt_zero _)
 | succ k ih =>
  intro i_l0 hv_laws_eqInt64SS_1_0 hk
  have p {a C} (s : Scr a C) := sZ (cL (cI .i64)) a_0 <| s
  cases h_0 : (decide (i_l0 < (a_0.length : Int))) with
  | true =>
   have gh_0 := of_decide_eq_true h_0
   have y_0 : (0 : Int) ≤ i_l0 := by clear p; exact (by first | assumption | omega | (simp_all <;> omega))
   have y_1 : i_l0 < (a_0.length : Int) := by clear p; exact (by first | assumption | omega | (simp_all <;> omega))
   have y_2 : i_l0 < (b_1.length : Int) := by clear p; exact (by first | assumption | omega | (simp_all <;> omega))
   have y_3 : (a_0.getD i_l0.toNat default).length ≤ 1073741824 := by clear p; exact (by first | assumption | omega | (simp_all <;> omega))
   have y_4 : (b_1.getD i_l0.toNat default).length ≤ 1073741824 := by clear p; exact (by first | assumption | omega | (simp_all <;> omega))
   have q {a C} (s : Scr a C) := p (sB h_0 <| sK [8, 8] <| sG (cL (cI .i64)) a_0 i_l0 y_0 y_1 <| sG (cL (cI .i64)) b_1 i_l0 y_0 y_2 <| sF (t_laws_eqInt64S (a_0.getD i_l0.toNat default) (b_1.getD i_l0.toNat default) y_3 y_4) <| s)
   clear p
   cases h_1 : (v_laws_eqInt64S (a_0.getD i_l0.toNat default) (b_1.getD i_l0.toNat default)) with
   | true =>
    have y_5 : (-9223372036854775808 : Int) ≤ (i_l0 + 1) := by clear q; exact (by first | assumption | omega | (simp_all <;> omega))
    have y_6 : (i_l0 + 1) ≤ (9223372036854775807 : Int) := by clear q; exact (by first | assumption | omega | (simp_all <;> omega))
    have e : lo_laws_eqInt64SS_1 a_0 b_1 (k + 1) i_l0 = (lo_laws_eqInt64SS_1 a_0 b_1 k (i_l0 + 1)) := by simp only [lo_laws_eqInt64SS_1, h_0, h_1, cond_true]
    rw [e]
    exact nextR E0Ok hMixed [] mk_laws_eqInt64SS_1_0 [] (ih (i_l0 + 1) (show 0 ≤ (i_l0 + 1) from (by first | assumption | omega | (simp_all <;> omega))) (by first | assumption | omega | (simp_all <;> omega))) (q (sB' h_1 <| sI (i_l0 + 1) y_5 y_6 <| sN)) (by kernel_rfl)
   | false =>
    have e : lo_laws_eqInt64SS_1 a_0 b_1 (k + 1) i_l0 = (.inl ()) := by simp only [lo_laws_eqInt64SS_1, h_0, h_1, cond_true, cond_false]
    rw [e]
    exact outR (e := .ret) E0Ok hMixed [] mk_laws_eqInt64SS_1_1 [] (q (sB' h_1 <| sN)) (by kernel_rfl) (by intro h; cases h)
  | false =>
   have gh_0 := of_decide_eq_false h_0
   have e : lo_laws_eqInt64SS_1 a_0 b_1 (k + 1) i_l0 = (.inr ()) := by simp only [lo_laws_eqInt64SS_1, h_0, cond_false]
   rw [e]
   exact outR (e := (.exit 0)) E0Ok hMixed [] mk_laws_eqInt64SS_1_2 [] (p (sB h_0 <| sN)) (by kernel_rfl) (by intro h; cases h)

def lr_laws_eqInt64SS_1_0 (a_0 : (List (List Int))) (b_1 : (List (List Int))) : (Unit) ⊕ (Unit) := (lo_laws_eqInt64SS_1 a_0 b_1 (((a_0.length : Int) - 0).toNat + 1) 0)

def v_laws_eqInt64SS (a_0 : (List (List Int))) (b_1 : (List (List Int))) : Bool := (cond ((a_0.length : Int) != (b_1.length : Int))
  false
  (match (lr_laws_eqInt64SS_1_0 a_0 b_1) with
    | .inl r2 => false
    | .inr r2 => true))

theorem t_laws_eqInt64SS (a_0 : (List (List Int))) (b_1 : (List (List Int))) (hp0 : a_0.length ≤ 1073741824) (hp1 : ∀ t ∈ a_0, t.length ≤ 1073741824) (hp2 : b_1.length ≤ 1073741824) (hp3 : ∀ t ∈ b_1, t.length ≤ 1073741824)  : Fn prog 71 [.sl (a_0.map (cL (cI .i64))), .sl (b_1.map (cL (cI .i64)))] (.b (v_laws_eqInt64SS a_0 b_1)) [] := by
 have p {a C} (s : Scr a C) := sZ (cL (cI .i64)) a_0 <| sZ (cL (cI .i64)) b_1 <| s
 cases h0 : ((a_0.length : Int) != (b_1.length : Int)) with
 | true =>
  have gh0 := bne_iff_ne.1 h0
  refine fnS E0Ok hMixed (c := bodyOf f71) [] (.b false) [] func71 (p (sB h0 <| sK [] sN)) rfl (by kernel_rfl) (by kernel_rfl) rfl ?_ ?_
  · simp only [v_laws_eqInt64SS, h0, cond_true]
  · rfl
 | false =>
  have gh0 := bne_eq_false_iff_eq.1 h0
  have q {a C} (s : Scr a C) := p (sB h0 <| s)
  clear p
  cases h1 : (lr_laws_eqInt64SS_1_0 a_0 b_1) with
  | inl r2 =>
   refine fnS E0Ok hMixed (c := bodyOf f71) [] (.b false) [] func71 (q (sL mk_laws_eqInt64SS_1_0 0 (lp_val (ls_laws_eqInt64SS_1 a_0 b_1) (x := (lr_laws_eqInt64SS_1_0 a_0 b_1)) (lp_laws_eqInt64SS_1 a_0 b_1 hp0 hp1 hp2 hp3 h0 (((a_0.length : Int) - 0).toNat + 1) 0 (show 0 ≤ 0 from (by first | assumption | omega | (simp_all <;> omega))) (Nat.lt_succ_self _)) h1) <| sK [] sN)) rfl (by kernel_rfl) (by kernel_rfl) rfl ?_ ?_
   · simp only [v_laws_eqInt64SS, h0, h1, cond_false]
   · rfl
  | inr r2 =>
   refine fnS E0Ok hMixed (c := bodyOf f71) [] (.b true) [] func71 (q (sL mk_laws_eqInt64SS_1_0 0 (lp_val (ls_laws_eqInt64SS_1 a_0 b_1) (x := (lr_laws_eqInt64SS_1_0 a_0 b_1)) (lp_laws_eqInt64SS_1 a_0 b_1 hp0 hp1 hp2 hp3 h0 (((a_0.length : Int) - 0).toNat + 1) 0 (show 0 ≤ 0 from (by first | assumption | omega | (simp_all <;> omega))) (Nat.lt_succ_self _)) h1) <| sK [] sN)) rfl (by kernel_rfl) (by kernel_rfl) rfl ?_ ?_
   · simp only [v_laws_eqInt64SS, h0, h1, cond_false]
   · rfl

theorem eqInt64SS_self (a : List (List Int)) : v_laws_eqInt64SS a a = true := by
  unfold v_laws_eqInt64SS lr_laws_eqInt64SS_1_0
  rw [all_from (a := a) (p := fun v => v_laws_eqInt64S v v) (lo := lo_laws_eqInt64SS_1 a a) (x := ()) (y := ()) (fun k i => rfl)]
  rw [show (a.all fun v => v_laws_eqInt64S v v) = true from by rw [List.all_eq_true]; intro v _; exact eqInt64S_self v]
  simp

def v_laws_eqMesh (a_0 : GMesh) (b_1 : GMesh) : Bool := (cond (v_laws_eqVectorS a_0.Places b_1.Places)
  (cond (v_laws_eqInt64SS a_0.Triangles b_1.Triangles)
    true
    false)
  false)

theorem t_laws_eqMesh (a_0 : GMesh) (b_1 : GMesh) (hp0 : a_0.Places.length ≤ 1073741824) (hp1 : a_0.Triangles.length ≤ 1073741824) (hp2 : ∀ t ∈ a_0.Triangles, t.length ≤ 1073741824) (hp3 : b_1.Places.length ≤ 1073741824) (hp4 : b_1.Triangles.length ≤ 1073741824) (hp5 : ∀ t ∈ b_1.Triangles, t.length ≤ 1073741824)  : Fn prog 42 [.agg [.sl (a_0.Places.map GVector.cells), .sl (a_0.Triangles.map (cL (cI .i64)))], .agg [.sl (b_1.Places.map GVector.cells), .sl (b_1.Triangles.map (cL (cI .i64)))]] (.b (v_laws_eqMesh a_0 b_1)) [] := by
 have p {a C} (s : Scr a C) := sF (t_laws_eqVectorS a_0.Places b_1.Places hp0 hp3) <| s
 cases h0 : (v_laws_eqVectorS a_0.Places b_1.Places) with
 | true =>
  have q {a C} (s : Scr a C) := p (sB' h0 <| sF (t_laws_eqInt64SS a_0.Triangles b_1.Triangles hp1 hp2 hp4 hp5) <| s)
  clear p
  cases h1 : (v_laws_eqInt64SS a_0.Triangles b_1.Triangles) with
  | true =>
   refine fnS E0Ok hMixed (c := bodyOf f42) [] (.b true) [] func42 (q (sB' h1 <| sK [] sN)) rfl (by kernel_rfl) (by kernel_rfl) rfl ?_ ?_
   · simp only [v_laws_eqMesh, h0, h1, cond_true]
   · rfl
  | false =>
   refine fnS E0Ok hMixed (c := bodyOf f42) [] (.b false) [] func42 (q (sB' h1 <| sK [] sN)) rfl (by kernel_rfl) (by kernel_rfl) rfl ?_ ?_
   · simp only [v_laws_eqMesh, h0, h1, cond_true, cond_false]
   · rfl
 | false =>
  refine fnS E0Ok hMixed (c := bodyOf f42) [] (.b false) [] func42 (p (sB' h0 <| sK [] sN)) rfl (by kernel_rfl) (by kernel_rfl) rfl ?_ ?_
  · simp only [v_laws_eqMesh, h0, cond_false]
  · rfl

theorem eqMesh_self (a : GMesh) : v_laws_eqMesh a a = true := by
  simp [v_laws_eqMesh, eqVectorS_self, eqInt64SS_self]

def v_laws_eqSpring (a_0 : GSpring) (b_1 : GSpring) : Bool := (cond (a_0.A != b_1.A)
  false
  (cond (a_0.B != b_1.B)
    false
    (cond (v_laws_sameFloat (fcv .f32 .f64 a_0.Long) (fcv .f32 .f64 b_1.Long))
      (cond (v_laws_sameFloat (fcv .f32 .f64 a_0.Stiff) (fcv .f32 .f64 b_1.Stiff))
        true
        false)
      false)))

theorem t_laws_eqSpring (a_0 : GSpring) (b_1 : GSpring)   : Fn prog 72 [.agg [.i .i64 a_0.A, .i .i64 a_0.B, .f .f32 a_0.Long, .f .f32 a_0.Stiff], .agg [.i .i64 b_1.A, .i .i64 b_1.B, .f .f32 b_1.Long, .f .f32 b_1.Stiff]] (.b (v_laws_eqSpring a_0 b_1)) [] := by
 cases h0 : (a_0.A != b_1.A) with
 | true =>
  have gh0 := bne_iff_ne.1 h0
  refine fnS E0Ok hMixed (c := bodyOf f72) [] (.b false) [] func72 (sB h0 <| sK [] sN) rfl (by kernel_rfl) (by kernel_rfl) rfl ?_ ?_
  · simp only [v_laws_eqSpring, h0, cond_true]
  · rfl
 | false =>
  have gh0 := bne_eq_false_iff_eq.1 h0
  have p {a C} (s : Scr a C) := sB h0 <| s
  cases h1 : (a_0.B != b_1.B) with
  | true =>
   have gh1 := bne_iff_ne.1 h1
   refine fnS E0Ok hMixed (c := bodyOf f72) [] (.b false) [] func72 (p (sB h1 <| sK [] sN)) rfl (by kernel_rfl) (by kernel_rfl) rfl ?_ ?_
   · simp only [v_laws_eqSpring, h0, h1, cond_true, cond_false]
   · rfl
  | false =>
   have gh1 := bne_eq_false_iff_eq.1 h1
   have q {a C} (s : Scr a C) := p (sB h1 <| sC (widenOk a_0.Long) <| sC (widenOk b_1.Long) <| sF (t_laws_sameFloat (fcv .f32 .f64 a_0.Long) (fcv .f32 .f64 b_1.Long)) <| s)
   clear p
   cases h2 : (v_laws_sameFloat (fcv .f32 .f64 a_0.Long) (fcv .f32 .f64 b_1.Long)) with
   | true =>
    have p {a C} (s : Scr a C) := q (sB' h2 <| sC (widenOk a_0.Stiff) <| sC (widenOk b_1.Stiff) <| sF (t_laws_sameFloat (fcv .f32 .f64 a_0.Stiff) (fcv .f32 .f64 b_1.Stiff)) <| s)
    clear q
    cases h3 : (v_laws_sameFloat (fcv .f32 .f64 a_0.Stiff) (fcv .f32 .f64 b_1.Stiff)) with
    | true =>
     refine fnS E0Ok hMixed (c := bodyOf f72) [] (.b true) [] func72 (p (sB' h3 <| sK [] sN)) rfl (by kernel_rfl) (by kernel_rfl) rfl ?_ ?_
     · simp only [v_laws_eqSpring, h0, h1, h2, h3, cond_true, cond_false]
     · rfl
    | false =>
     refine fnS E0Ok hMixed (c := bodyOf f72) [] (.b false) [] func72 (p (sB' h3 <| sK [] sN)) rfl (by kernel_rfl) (by kernel_rfl) rfl ?_ ?_
     · simp only [v_laws_eqSpring, h0, h1, h2, h3, cond_true, cond_false]
     · rfl
   | false =>
    refine fnS E0Ok hMixed (c := bodyOf f72) [] (.b false) [] func72 (q (sB' h2 <| sK [] sN)) rfl (by kernel_rfl) (by kernel_rfl) rfl ?_ ?_
    · simp only [v_laws_eqSpring, h0, h1, h2, cond_false]
    · rfl

theorem eqSpring_self (a : GSpring) : v_laws_eqSpring a a = true := by
  simp [v_laws_eqSpring, same_self]

def lo_laws_eqSpringS_1 (a_0 : (List GSpring)) (b_1 : (List GSpring)) : Nat → Int → (Unit) ⊕ (Unit)
  | 0, _ => .inl default
  | k + 1, i_l0 => (cond (decide (i_l0 < (a_0.length : Int)))
    (cond (v_laws_eqSpring (a_0.getD i_l0.toNat default) (b_1.getD i_l0.toNat default))
      (lo_laws_eqSpringS_1 a_0 b_1 k (i_l0 + 1))
      (.inl ()))
    (.inr ()))

def ls_laws_eqSpringS_1 (a_0 : (List GSpring)) (b_1 : (List GSpring)) : (Unit) ⊕ (Unit) → Ex × St
  | .inl r => (.ret, ⟨[.any, .any, .any, .any, .b false, .any, .any, .any, .any, .any, .any, .any, .any, .any, .any, .any, .any, .any, .any, .any, .any, .any, .any, .any, .any, .any, .any], []⟩)
  | .inr r => ((.exit 0), ⟨[.sl (a_0.map GSpring.cells), .sl (b_1.map GSpring.cells), .any, .any, .any, .any, .sl (a_0.map GSpring.cells), .i .i64 (a_0.length : Int), .sl (b_1.map GSpring.cells), .i .i64 (b_1.length : Int), .b ((a_0.length : Int) != (b_1.length : Int)), .any, .any, .any, .any, .any, .any, .any, .any, .any, .any, .any, .any, .any, .any, .any, .any], []⟩)

def hd_laws_eqSpringS_1 (a_0 : (List GSpring)) (b_1 : (List GSpring)) (i_l0 : Int) : St := ⟨[.sl (a_0.map GSpring.cells), .sl (b_1.map GSpring.cells), .any, .any, .any, .i .i64 i_l0, .sl (a_0.map GSpring.cells), .i .i64 (a_0.length : Int), .sl (b_1.map GSpring.cells), .i .i64 (b_1.length : Int), .b ((a_0.length : Int) != (b_1.length : Int)), .any, .any, .any, .any, .any, .any, .any, .any, .any, .any, .any, .any, .any, .any, .any, .any], []⟩

def mk_laws_eqSpringS_1_0 : List Bool := [true, true, false, false, false, true, true, true, true, true, true, false, false, false, false, false, false, false, false, false, false, false, false, false, false, false, false]

def mk_laws_eqSpringS_1_1 : List Bool := [false, false, false, false, true, false, false, false, false, false, false, false, false, false, false, false, false, false, false, false, false, false, false, false, false, false, false]

def mk_laws_eqSpringS_1_2 : List Bool := [true, true, false, false, false, false, true, true, true, true, true, false, false, false, false, false, false, false, false, false, false, false, false, false, false, false, false]

theorem lp_laws_eqSpringS_1 (a_0 : (List GSpring)) (b_1 : (List GSpring)) (hp0 : a_0.length ≤ 1073741824) (hp1 : b_1.length ≤ 1073741824) (hf_laws_eqSpringS_1_0 : ((a_0.length : Int) != (b_1.length : Int)) = false) : ∀ (k : Nat) (i_l0 : Int) (hv_laws_eqSpringS_1_0 : 0 ≤ i_l0) (hk : ((a_0.length : Int) - i_l0).toNat < k), Lp prog 0 (sub (bodyOf f43) [1, 1, 0, 1, 0, 0]) (hd_laws_eqSpringS_1 a_0 b_1 i_l0) (ls_laws_eqSpringS_1 a_0 b_1 (lo_laws_eqSpringS_1 a_0 b_1 k i_l0)).1 (ls_laws_eqSpringS_1 a_0 b_1 (lo_laws_eqSpringS_1 a_0 b_1 k i_l0)).2 := by
 intro k
 induction k with
 | zero => intro i_l0 hv_laws_eqSpringS_1_0 hk; exact absurd hk (Nat.not_lt_zero _)
 | succ k ih =>
  intro i_l0 hv_laws_eqSpringS_1_0 hk
  have p {a C} (s : Scr a C) := sZ GSpring.cells a_0 <| s
  cases h_0 : (decide (i_l0 < (a_0.length : Int))) with
  | true =>
   have gh_0 := of_decide_eq_true h_0
   have y_0 : (0 : Int) ≤ i_l0 := by clear p; exact (by first | assumption | omega | (simp_all <;> omega))
   have y_1 : i_l0 < (a_0.length : Int) := by clear p; exact (by first | assumption | omega | (simp_all <;> omega))
   have y_2 : i_l0 < (b_1.length : Int) := by clear p; exact (by first | assumption | omega | (simp_all <;> omega))
   have q {a C} (s : Scr a C) := p (sB h_0 <| sK [8, 8] <| sG GSpring.cells a_0 i_l0 y_0 y_1 <| sG GSpring.cells b_1 i_l0 y_0 y_2 <| sF (t_laws_eqSpring (a_0.getD i_l0.toNat default) (b_1.getD i_l0.toNat default)) <| s)
   clear p
   cases h_1 : (v_laws_eqSpring (a_0.getD i_l0.toNat default) (b_1.getD i_l0.toNat default)) with
   | true =>
    have y_3 : (-9223372036854775808 : Int) ≤ (i_l0 + 1) := by clear q; exact (by first | assumption | omega | (simp_all <;> omega))
    have y_4 : (i_l0 + 1) ≤ (9223372036854775807 : Int) := by clear q; exact (by first | assumption | omega | (simp_all <;> omega))
    have e : lo_laws_eqSpringS_1 a_0 b_1 (k + 1) i_l0 = (lo_laws_eqSpringS_1 a_0 b_1 k (i_l0 + 1)) := by simp only [lo_laws_eqSpringS_1, h_0, h_1, cond_true]
    rw [e]
    exact nextR E0Ok hMixed [] mk_laws_eqSpringS_1_0 [] (ih (i_l0 + 1) (show 0 ≤ (i_l0 + 1) from (by first | assumption | omega | (simp_all <;> omega))) (by first | assumption | omega | (simp_all <;> omega))) (q (sB' h_1 <| sI (i_l0 + 1) y_3 y_4 <| sN)) (by kernel_rfl)
   | false =>
    have e : lo_laws_eqSpringS_1 a_0 b_1 (k + 1) i_l0 = (.inl ()) := by simp only [lo_laws_eqSpringS_1, h_0, h_1, cond_true, cond_false]
    rw [e]
    exact outR (e := .ret) E0Ok hMixed [] mk_laws_eqSpringS_1_1 [] (q (sB' h_1 <| sN)) (by kernel_rfl) (by intro h; cases h)
  | false =>
   have gh_0 := of_decide_eq_false h_0
   have e : lo_laws_eqSpringS_1 a_0 b_1 (k + 1) i_l0 = (.inr ()) := by simp only [lo_laws_eqSpringS_1, h_0, cond_false]
   rw [e]
   exact outR (e := (.exit 0)) E0Ok hMixed [] mk_laws_eqSpringS_1_2 [] (p (sB h_0 <| sN)) (by kernel_rfl) (by intro h; cases h)

def lr_laws_eqSpringS_1_0 (a_0 : (List GSpring)) (b_1 : (List GSpring)) : (Unit) ⊕ (Unit) := (lo_laws_eqSpringS_1 a_0 b_1 (((a_0.length : Int) - 0).toNat + 1) 0)

def v_laws_eqSpringS (a_0 : (List GSpring)) (b_1 : (List GSpring)) : Bool := (cond ((a_0.length : Int) != (b_1.length : Int))
  false
  (match (lr_laws_eqSpringS_1_0 a_0 b_1) with
    | .inl r2 => false
    | .inr r2 => true))

theorem t_laws_eqSpringS (a_0 : (List GSpring)) (b_1 : (List GSpring)) (hp0 : a_0.length ≤ 1073741824) (hp1 : b_1.length ≤ 1073741824)  : Fn prog 43 [.sl (a_0.map GSpring.cells), .sl (b_1.map GSpring.cells)] (.b (v_laws_eqSpringS a_0 b_1)) [] := by
 have p {a C} (s : Scr a C) := sZ GSpring.cells a_0 <| sZ GSpring.cells b_1 <| s
 cases h0 : ((a_0.length : Int) != (b_1.length : Int)) with
 | true =>
  have gh0 := bne_iff_ne.1 h0
  refine fnS E0Ok hMixed (c := bodyOf f43) [] (.b false) [] func43 (p (sB h0 <| sK [] sN)) rfl (by kernel_rfl) (by kernel_rfl) rfl ?_ ?_
  · simp only [v_laws_eqSpringS, h0, cond_true]
  · rfl
 | false =>
  have gh0 := bne_eq_false_iff_eq.1 h0
  have q {a C} (s : Scr a C) := p (sB h0 <| s)
  clear p
  cases h1 : (lr_laws_eqSpringS_1_0 a_0 b_1) with
  | inl r2 =>
   refine fnS E0Ok hMixed (c := bodyOf f43) [] (.b false) [] func43 (q (sL mk_laws_eqSpringS_1_0 0 (lp_val (ls_laws_eqSpringS_1 a_0 b_1) (x := (lr_laws_eqSpringS_1_0 a_0 b_1)) (lp_laws_eqSpringS_1 a_0 b_1 hp0 hp1 h0 (((a_0.length : Int) - 0).toNat + 1) 0 (show 0 ≤ 0 from (by first | assumption | omega | (simp_all <;> omega))) (Nat.lt_succ_self _)) h1) <| sK [] sN)) rfl (by kernel_rfl) (by kernel_rfl) rfl ?_ ?_
   · simp only [v_laws_eqSpringS, h0, h1, cond_false]
   · rfl
  | inr r2 =>
   refine fnS E0Ok hMixed (c := bodyOf f43) [] (.b true) [] func43 (q (sL mk_laws_eqSpringS_1_0 0 (lp_val (ls_laws_eqSpringS_1 a_0 b_1) (x := (lr_laws_eqSpringS_1_0 a_0 b_1)) (lp_laws_eqSpringS_1 a_0 b_1 hp0 hp1 h0 (((a_0.length : Int) - 0).toNat + 1) 0 (show 0 ≤ 0 from (by first | assumption | omega | (simp_all <;> omega))) (Nat.lt_succ_self _)) h1) <| sK [] sN)) rfl (by kernel_rfl) (by kernel_rfl) rfl ?_ ?_
   · simp only [v_laws_eqSpringS, h0, h1, cond_false]
   · rfl

theorem eqSpringS_self (a : List GSpring) : v_laws_eqSpringS a a = true := by
  unfold v_laws_eqSpringS lr_laws_eqSpringS_1_0
  rw [all_from (a := a) (p := fun v => v_laws_eqSpring v v) (lo := lo_laws_eqSpringS_1 a a) (x := ()) (y := ()) (fun k i => rfl)]
  rw [show (a.all fun v => v_laws_eqSpring v v) = true from by rw [List.all_eq_true]; intro v _; exact eqSpring_self v]
  simp

def lo_laws_eqFloat32S_1 (a_0 : (List Nat)) (b_1 : (List Nat)) : Nat → Int → (Unit) ⊕ (Unit)
  | 0, _ => .inl default
  | k + 1, i_l0 => (cond (decide (i_l0 < (a_0.length : Int)))
    (cond (v_laws_sameFloat (fcv .f32 .f64 (a_0.getD i_l0.toNat default)) (fcv .f32 .f64 (b_1.getD i_l0.toNat default)))
      (lo_laws_eqFloat32S_1 a_0 b_1 k (i_l0 + 1))
      (.inl ()))
    (.inr ()))

def ls_laws_eqFloat32S_1 (a_0 : (List Nat)) (b_1 : (List Nat)) : (Unit) ⊕ (Unit) → Ex × St
  | .inl r => (.ret, ⟨[.any, .any, .any, .any, .b false, .any, .any, .any, .any, .any, .any, .any, .any, .any, .any, .any, .any, .any, .any, .any, .any, .any, .any, .any, .any, .any, .any, .any, .any], []⟩)
  | .inr r => ((.exit 0), ⟨[.sl (a_0.map (cF .f32)), .sl (b_1.map (cF .f32)), .any, .any, .any, .any, .sl (a_0.map (cF .f32)), .i .i64 (a_0.length : Int), .sl (b_1.map (cF .f32)), .i .i64 (b_1.length : Int), .b ((a_0.length : Int) != (b_1.length : Int)), .any, .any, .any, .any, .any, .any, .any, .any, .any, .any, .any, .any, .any, .any, .any, .any, .any, .any], []⟩)

def hd_laws_eqFloat32S_1 (a_0 : (List Nat)) (b_1 : (List Nat)) (i_l0 : Int) : St := ⟨[.sl (a_0.map (cF .f32)), .sl (b_1.map (cF .f32)), .any, .any, .any, .i .i64 i_l0, .sl (a_0.map (cF .f32)), .i .i64 (a_0.length : Int), .sl (b_1.map (cF .f32)), .i .i64 (b_1.length : Int), .b ((a_0.length : Int) != (b_1.length : Int)), .any, .any, .any, .any, .any, .any, .any, .any, .any, .any, .any, .any, .any, .any, .any, .any, .any, .any], []⟩

def mk_laws_eqFloat32S_1_0 : List Bool := [true, true, false, false, false, true, true, true, true, true, true, false, false, false, false, false, false, false, false, false, false, false, false, false, false, false, false, false, false]

def mk_laws_eqFloat32S_1_1 : List Bool := [false, false, false, false, true, false, false, false, false, false, false, false, false, false, false, false, false, false, false, false, false, false, false, false, false, false, false, false, false]

def mk_laws_eqFloat32S_1_2 : List Bool := [true, true, false, false, false, false, true, true, true, true, true, false, false, false, false, false, false, false, false, false, false, false, false, false, false, false, false, false, false]

theorem lp_laws_eqFloat32S_1 (a_0 : (List Nat)) (b_1 : (List Nat)) (hp0 : a_0.length ≤ 1073741824) (hp1 : b_1.length ≤ 1073741824) (hf_laws_eqFloat32S_1_0 : ((a_0.length : Int) != (b_1.length : Int)) = false) : ∀ (k : Nat) (i_l0 : Int) (hv_laws_eqFloat32S_1_0 : 0 ≤ i_l0) (hk : ((a_0.length : Int) - i_l0).toNat < k), Lp prog 0 (sub (bodyOf f44) [1, 1, 0, 1, 0, 0]) (hd_laws_eqFloat32S_1 a_0 b_1 i_l0) (ls_laws_eqFloat32S_1 a_0 b_1 (lo_laws_eqFloat32S_1 a_0 b_1 k i_l0)).1 (ls_laws_eqFloat32S_1 a_0 b_1 (lo_laws_eqFloat32S_1 a_0 b_1 k i_l0)).2 := by
 intro k
 induction k with
 | zero => intro i_l0 hv_laws_eqFloat32S_1_0 hk; exact absurd hk (Nat.not_lt_zero _)
 | succ k ih =>
  intro i_l0 hv_laws_eqFloat32S_1_0 hk
  have p {a C} (s : Scr a C) := sZ (cF .f32) a_0 <| s
  cases h_0 : (decide (i_l0 < (a_0.length : Int))) with
  | true =>
   have gh_0 := of_decide_eq_true h_0
   have y_0 : (0 : Int) ≤ i_l0 := by clear p; exact (by first | assumption | omega | (simp_all <;> omega))
   have y_1 : i_l0 < (a_0.length : Int) := by clear p; exact (by first | assumption | omega | (simp_all <;> omega))
   have y_2 : i_l0 < (b_1.length : Int) := by clear p; exact (by first | assumption | omega | (simp_all <;> omega))
   have q {a C} (s : Scr a C) := p (sB h_0 <| sK [10, 10] <| sG (cF .f32) a_0 i_l0 y_0 y_1 <| sC (widenOk (a_0.getD i_l0.toNat default)) <| sG (cF .f32) b_1 i_l0 y_0 y_2 <| sC (widenOk (b_1.getD i_l0.toNat default)) <| sF (t_laws_sameFloat (fcv .f32 .f64 (a_0.getD i_l0.toNat default)) (fcv .f32 .f64 (b_1.getD i_l0.toNat default))) <| s)
   clear p
   cases h_1 : (v_laws_sameFloat (fcv .f32 .f64 (a_0.getD i_l0.toNat default)) (fcv .f32 .f64 (b_1.getD i_l0.toNat default))) with
   | true =>
    have y_3 : (-9223372036854775808 : Int) ≤ (i_l0 + 1) := by clear q; exact (by first | assumption | omega | (simp_all <;> omega))
    have y_4 : (i_l0 + 1) ≤ (9223372036854775807 : Int) := by clear q; exact (by first | assumption | omega | (simp_all <;> omega))
    have e : lo_laws_eqFloat32S_1 a_0 b_1 (k + 1) i_l0 = (lo_laws_eqFloat32S_1 a_0 b_1 k (i_l0 + 1)) := by simp only [lo_laws_eqFloat32S_1, h_0, h_1, cond_true]
    rw [e]
    exact nextR E0Ok hMixed [] mk_laws_eqFloat32S_1_0 [] (ih (i_l0 + 1) (show 0 ≤ (i_l0 + 1) from (by first | assumption | omega | (simp_all <;> omega))) (by first | assumption | omega | (simp_all <;> omega))) (q (sB' h_1 <| sI (i_l0 + 1) y_3 y_4 <| sN)) (by kernel_rfl)
   | false =>
    have e : lo_laws_eqFloat32S_1 a_0 b_1 (k + 1) i_l0 = (.inl ()) := by simp only [lo_laws_eqFloat32S_1, h_0, h_1, cond_true, cond_false]
    rw [e]
    exact outR (e := .ret) E0Ok hMixed [] mk_laws_eqFloat32S_1_1 [] (q (sB' h_1 <| sN)) (by kernel_rfl) (by intro h; cases h)
  | false =>
   have gh_0 := of_decide_eq_false h_0
   have e : lo_laws_eqFloat32S_1 a_0 b_1 (k + 1) i_l0 = (.inr ()) := by simp only [lo_laws_eqFloat32S_1, h_0, cond_false]
   rw [e]
   exact outR (e := (.exit 0)) E0Ok hMixed [] mk_laws_eqFloat32S_1_2 [] (p (sB h_0 <| sN)) (by kernel_rfl) (by intro h; cases h)

def lr_laws_eqFloat32S_1_0 (a_0 : (List Nat)) (b_1 : (List Nat)) : (Unit) ⊕ (Unit) := (lo_laws_eqFloat32S_1 a_0 b_1 (((a_0.length : Int) - 0).toNat + 1) 0)

def v_laws_eqFloat32S (a_0 : (List Nat)) (b_1 : (List Nat)) : Bool := (cond ((a_0.length : Int) != (b_1.length : Int))
  false
  (match (lr_laws_eqFloat32S_1_0 a_0 b_1) with
    | .inl r2 => false
    | .inr r2 => true))

theorem t_laws_eqFloat32S (a_0 : (List Nat)) (b_1 : (List Nat)) (hp0 : a_0.length ≤ 1073741824) (hp1 : b_1.length ≤ 1073741824)  : Fn prog 44 [.sl (a_0.map (cF .f32)), .sl (b_1.map (cF .f32))] (.b (v_laws_eqFloat32S a_0 b_1)) [] := by
 have p {a C} (s : Scr a C) := sZ (cF .f32) a_0 <| sZ (cF .f32) b_1 <| s
 cases h0 : ((a_0.length : Int) != (b_1.length : Int)) with
 | true =>
  have gh0 := bne_iff_ne.1 h0
  refine fnS E0Ok hMixed (c := bodyOf f44) [] (.b false) [] func44 (p (sB h0 <| sK [] sN)) rfl (by kernel_rfl) (by kernel_rfl) rfl ?_ ?_
  · simp only [v_laws_eqFloat32S, h0, cond_true]
  · rfl
 | false =>
  have gh0 := bne_eq_false_iff_eq.1 h0
  have q {a C} (s : Scr a C) := p (sB h0 <| s)
  clear p
  cases h1 : (lr_laws_eqFloat32S_1_0 a_0 b_1) with
  | inl r2 =>
   refine fnS E0Ok hMixed (c := bodyOf f44) [] (.b false) [] func44 (q (sL mk_laws_eqFloat32S_1_0 0 (lp_val (ls_laws_eqFloat32S_1 a_0 b_1) (x := (lr_laws_eqFloat32S_1_0 a_0 b_1)) (lp_laws_eqFloat32S_1 a_0 b_1 hp0 hp1 h0 (((a_0.length : Int) - 0).toNat + 1) 0 (show 0 ≤ 0 from (by first | assumption | omega | (simp_all <;> omega))) (Nat.lt_succ_self _)) h1) <| sK [] sN)) rfl (by kernel_rfl) (by kernel_rfl) rfl ?_ ?_
   · simp only [v_laws_eqFloat32S, h0, h1, cond_false]
   · rfl
  | inr r2 =>
   refine fnS E0Ok hMixed (c := bodyOf f44) [] (.b true) [] func44 (q (sL mk_laws_eqFloat32S_1_0 0 (lp_val (ls_laws_eqFloat32S_1 a_0 b_1) (x := (lr_laws_eqFloat32S_1_0 a_0 b_1)) (lp_laws_eqFloat32S_1 a_0 b_1 hp0 hp1 h0 (((a_0.length : Int) - 0).toNat + 1) 0 (show 0 ≤ 0 from (by first | assumption | omega | (simp_all <;> omega))) (Nat.lt_succ_self _)) h1) <| sK [] sN)) rfl (by kernel_rfl) (by kernel_rfl) rfl ?_ ?_
   · simp only [v_laws_eqFloat32S, h0, h1, cond_false]
   · rfl

theorem eqFloat32S_self (a : List Nat) : v_laws_eqFloat32S a a = true := by
  unfold v_laws_eqFloat32S lr_laws_eqFloat32S_1_0
  rw [all_from (a := a) (p := fun v => v_laws_sameFloat (fcv .f32 .f64 v) (fcv .f32 .f64 v)) (lo := lo_laws_eqFloat32S_1 a a) (x := ()) (y := ()) (fun k i => rfl)]
  rw [show (a.all fun v => v_laws_sameFloat (fcv .f32 .f64 v) (fcv .f32 .f64 v)) = true from by rw [List.all_eq_true]; intro v _; exact same_self _]
  simp

def v_laws_eqBody (a_0 : GBody) (b_1 : GBody) : Bool := (cond (v_laws_eqMesh a_0.Mesh b_1.Mesh)
  (cond (v_laws_eqSpringS a_0.Springs b_1.Springs)
    (cond (v_laws_sameFloat (fcv .f32 .f64 a_0.Film) (fcv .f32 .f64 b_1.Film))
      (cond (v_laws_sameFloat (fcv .f32 .f64 a_0.Bend) (fcv .f32 .f64 b_1.Bend))
        (cond (v_laws_eqFloat32S a_0.Weights b_1.Weights)
          (cond (v_laws_eqVector a_0.Fall b_1.Fall)
            true
            false)
          false)
        false)
      false)
    false)
  false)

theorem t_laws_eqBody (a_0 : GBody) (b_1 : GBody) (hp0 : a_0.Mesh.Places.length ≤ 1073741824) (hp1 : a_0.Mesh.Triangles.length ≤ 1073741824) (hp2 : ∀ t ∈ a_0.Mesh.Triangles, t.length ≤ 1073741824) (hp3 : a_0.Springs.length ≤ 1073741824) (hp4 : a_0.Weights.length ≤ 1073741824) (hp5 : b_1.Mesh.Places.length ≤ 1073741824) (hp6 : b_1.Mesh.Triangles.length ≤ 1073741824) (hp7 : ∀ t ∈ b_1.Mesh.Triangles, t.length ≤ 1073741824) (hp8 : b_1.Springs.length ≤ 1073741824) (hp9 : b_1.Weights.length ≤ 1073741824)  : Fn prog 12 [.agg [.sl (a_0.Mesh.Places.map GVector.cells), .sl (a_0.Mesh.Triangles.map (cL (cI .i64))), .sl (a_0.Springs.map GSpring.cells), .f .f32 a_0.Film, .f .f32 a_0.Bend, .sl (a_0.Weights.map (cF .f32)), .f .f32 a_0.Fall.X, .f .f32 a_0.Fall.Y, .f .f32 a_0.Fall.Z], .agg [.sl (b_1.Mesh.Places.map GVector.cells), .sl (b_1.Mesh.Triangles.map (cL (cI .i64))), .sl (b_1.Springs.map GSpring.cells), .f .f32 b_1.Film, .f .f32 b_1.Bend, .sl (b_1.Weights.map (cF .f32)), .f .f32 b_1.Fall.X, .f .f32 b_1.Fall.Y, .f .f32 b_1.Fall.Z]] (.b (v_laws_eqBody a_0 b_1)) [] := by
 have p {a C} (s : Scr a C) := sF (t_laws_eqMesh a_0.Mesh b_1.Mesh hp0 hp1 hp2 hp5 hp6 hp7) <| s
 cases h0 : (v_laws_eqMesh a_0.Mesh b_1.Mesh) with
 | true =>
  have q {a C} (s : Scr a C) := p (sB' h0 <| sF (t_laws_eqSpringS a_0.Springs b_1.Springs hp3 hp8) <| s)
  clear p
  cases h1 : (v_laws_eqSpringS a_0.Springs b_1.Springs) with
  | true =>
   have p {a C} (s : Scr a C) := q (sB' h1 <| sC (widenOk a_0.Film) <| sC (widenOk b_1.Film) <| sF (t_laws_sameFloat (fcv .f32 .f64 a_0.Film) (fcv .f32 .f64 b_1.Film)) <| s)
   clear q
   cases h2 : (v_laws_sameFloat (fcv .f32 .f64 a_0.Film) (fcv .f32 .f64 b_1.Film)) with
   | true =>
    have q {a C} (s : Scr a C) := p (sB' h2 <| sC (widenOk a_0.Bend) <| sC (widenOk b_1.Bend) <| sF (t_laws_sameFloat (fcv .f32 .f64 a_0.Bend) (fcv .f32 .f64 b_1.Bend)) <| s)
    clear p
    cases h3 : (v_laws_sameFloat (fcv .f32 .f64 a_0.Bend) (fcv .f32 .f64 b_1.Bend)) with
    | true =>
     have p {a C} (s : Scr a C) := q (sB' h3 <| sF (t_laws_eqFloat32S a_0.Weights b_1.Weights hp4 hp9) <| s)
     clear q
     cases h4 : (v_laws_eqFloat32S a_0.Weights b_1.Weights) with
     | true =>
      have q {a C} (s : Scr a C) := p (sB' h4 <| sF (t_laws_eqVector a_0.Fall b_1.Fall) <| s)
      clear p
      cases h5 : (v_laws_eqVector a_0.Fall b_1.Fall) with
      | true =>
       refine fnS E0Ok hMixed (c := bodyOf f12) [] (.b true) [] func12 (q (sB' h5 <| sK [] sN)) rfl (by kernel_rfl) (by kernel_rfl) rfl ?_ ?_
       · simp only [v_laws_eqBody, h0, h1, h2, h3, h4, h5, cond_true]
       · rfl
      | false =>
       refine fnS E0Ok hMixed (c := bodyOf f12) [] (.b false) [] func12 (q (sB' h5 <| sK [] sN)) rfl (by kernel_rfl) (by kernel_rfl) rfl ?_ ?_
       · simp only [v_laws_eqBody, h0, h1, h2, h3, h4, h5, cond_true, cond_false]
       · rfl
     | false =>
      refine fnS E0Ok hMixed (c := bodyOf f12) [] (.b false) [] func12 (p (sB' h4 <| sK [] sN)) rfl (by kernel_rfl) (by kernel_rfl) rfl ?_ ?_
      · simp only [v_laws_eqBody, h0, h1, h2, h3, h4, cond_true, cond_false]
      · rfl
    | false =>
     refine fnS E0Ok hMixed (c := bodyOf f12) [] (.b false) [] func12 (q (sB' h3 <| sK [] sN)) rfl (by kernel_rfl) (by kernel_rfl) rfl ?_ ?_
     · simp only [v_laws_eqBody, h0, h1, h2, h3, cond_true, cond_false]
     · rfl
   | false =>
    refine fnS E0Ok hMixed (c := bodyOf f12) [] (.b false) [] func12 (p (sB' h2 <| sK [] sN)) rfl (by kernel_rfl) (by kernel_rfl) rfl ?_ ?_
    · simp only [v_laws_eqBody, h0, h1, h2, cond_true, cond_false]
    · rfl
  | false =>
   refine fnS E0Ok hMixed (c := bodyOf f12) [] (.b false) [] func12 (q (sB' h1 <| sK [] sN)) rfl (by kernel_rfl) (by kernel_rfl) rfl ?_ ?_
   · simp only [v_laws_eqBody, h0, h1, cond_true, cond_false]
   · rfl
 | false =>
  refine fnS E0Ok hMixed (c := bodyOf f12) [] (.b false) [] func12 (p (sB' h0 <| sK [] sN)) rfl (by kernel_rfl) (by kernel_rfl) rfl ?_ ?_
  · simp only [v_laws_eqBody, h0, cond_false]
  · rfl

theorem eqBody_self (a : GBody) : v_laws_eqBody a a = true := by
  simp [v_laws_eqBody, same_self, eqVector_self, eqMesh_self, eqSpringS_self, eqFloat32S_self]

def v_laws_FnExactSlopeAt (aB_0 : GBody) (aPlace_1 : Int) (aAxis_2 : Int) (aStep_3 : Nat) : Bool := (cond (decide ((v_laws_szBody aB_0 1048576) < 0))
  true
  (cond (v_laws_sameFloat (fcv .f32 .f64 ((v_impl_SlopeAt aB_0 aPlace_1 aAxis_2 aStep_3).1)) (fcv .f32 .f64 ((v_spec_SlopeAt aB_0 aPlace_1 aAxis_2 aStep_3).1)))
    (cond ((v_impl_SlopeAt aB_0 aPlace_1 aAxis_2 aStep_3).2 == (v_spec_SlopeAt aB_0 aPlace_1 aAxis_2 aStep_3).2)
      (cond (v_laws_eqBody aB_0 aB_0)
        true
        false)
      false)
    false))

set_option maxHeartbeats 1000000 in
theorem t_laws_FnExactSlopeAt (aB_0 : GBody) (aPlace_1 : Int) (aAxis_2 : Int) (aStep_3 : Nat) (hp0 : aB_0.Mesh.Places.length ≤ 9223372036854775807) (hp1 : aB_0.Mesh.Triangles.length ≤ 9223372036854775807) (hp2 : ∀ t ∈ aB_0.Mesh.Triangles, t.length ≤ 9223372036854775807) (hp3 : aB_0.Springs.length ≤ 9223372036854775807) (hp4 : aB_0.Weights.length ≤ 9223372036854775807)  : Fn prog 3 [.agg [.sl (aB_0.Mesh.Places.map GVector.cells), .sl (aB_0.Mesh.Triangles.map (cL (cI .i64))), .sl (aB_0.Springs.map GSpring.cells), .f .f32 aB_0.Film, .f .f32 aB_0.Bend, .sl (aB_0.Weights.map (cF .f32)), .f .f32 aB_0.Fall.X, .f .f32 aB_0.Fall.Y, .f .f32 aB_0.Fall.Z], .i .i64 aPlace_1, .i .i64 aAxis_2, .f .f32 aStep_3] (.b (v_laws_FnExactSlopeAt aB_0 aPlace_1 aAxis_2 aStep_3)) [] := by
 have z0 := (ok_laws_szBody aB_0 1048576 (by omega) (by omega) (by assumption) (by omega) (by omega) (by omega) (by omega))
 have p {a C} (s : Scr a C) := sF (t_laws_szBody aB_0 1048576 hp0 hp1 hp2 hp3 hp4) <| s
 cases h0 : (decide ((v_laws_szBody aB_0 1048576) < 0)) with
 | true =>
  have gh0 := of_decide_eq_true h0
  refine fnS E0Ok hMixed (c := bodyOf f3) [] (.b true) [] func3 (p (sB h0 <| sK [] sN)) rfl (by kernel_rfl) (by kernel_rfl) rfl ?_ ?_
  · simp only [v_laws_FnExactSlopeAt, h0, cond_true]
  · rfl
 | false =>
  have gh0 := of_decide_eq_false h0
  have y0 : aB_0.Mesh.Places.length ≤ 1073741824 := by clear p; exact (by first | assumption | omega | (simp_all <;> omega))
  have y1 : aB_0.Mesh.Triangles.length ≤ 1073741824 := by clear p; exact (by first | assumption | omega | (simp_all <;> omega))
  have y2 : ∀ t ∈ aB_0.Mesh.Triangles, t.length ≤ 1073741824 := by clear p; exact (by first | assumption | (intro t ht; first | (have q := z0.2.2.2.2.2.2 t ht; omega)) | omega | (simp_all <;> omega))
  have y3 : aB_0.Springs.length ≤ 1073741824 := by clear p; exact (by first | assumption | omega | (simp_all <;> omega))
  have y4 : aB_0.Weights.length ≤ 1073741824 := by clear p; exact (by first | assumption | omega | (simp_all <;> omega))
  have q {a C} (s : Scr a C) := p (sB h0 <| sF (i_laws_toBody aB_0 y0 y1 y2 y3 y4) <| sF (Fn.castA (args' := [.agg [.sl (aB_0.Mesh.Places.map GVector.cells), .sl ((aB_0.Mesh.Triangles.map fun l => l.map (cI .i64)).map fun l => [.sl l]), .sl (aB_0.Springs.map GSpring.cells), .f .f32 aB_0.Film, .f .f32 aB_0.Bend, .sl (aB_0.Weights.map (cF .f32)), .f .f32 aB_0.Fall.X, .f .f32 aB_0.Fall.Y, .f .f32 aB_0.Fall.Z], .i .i64 aPlace_1, .i .i64 aAxis_2, .f .f32 aStep_3]) (t_spec_SlopeAt aB_0 aPlace_1 aAxis_2 aStep_3 y0 y1 y2 y3 y4) (by first | (simp [cL, Function.comp_def]; done) | (simp [cL, Function.comp_def]; rfl))) <| sF (i_laws_toBody aB_0 y0 y1 y2 y3 y4) <| sF (Fn.castA (args' := [.agg [.sl (aB_0.Mesh.Places.map GVector.cells), .sl ((aB_0.Mesh.Triangles.map fun l => l.map (cI .i64)).map fun l => [.sl l]), .sl (aB_0.Springs.map GSpring.cells), .f .f32 aB_0.Film, .f .f32 aB_0.Bend, .sl (aB_0.Weights.map (cF .f32)), .f .f32 aB_0.Fall.X, .f .f32 aB_0.Fall.Y, .f .f32 aB_0.Fall.Z], .i .i64 aPlace_1, .i .i64 aAxis_2, .f .f32 aStep_3]) (t_impl_SlopeAt aB_0 aPlace_1 aAxis_2 aStep_3 y0 y1 y2 y3 y4) (by first | (simp [cL, Function.comp_def]; done) | (simp [cL, Function.comp_def]; rfl))) <| sC (widenOk ((v_impl_SlopeAt aB_0 aPlace_1 aAxis_2 aStep_3).1)) <| sC (widenOk ((v_spec_SlopeAt aB_0 aPlace_1 aAxis_2 aStep_3).1)) <| sF (t_laws_sameFloat (fcv .f32 .f64 ((v_impl_SlopeAt aB_0 aPlace_1 aAxis_2 aStep_3).1)) (fcv .f32 .f64 ((v_spec_SlopeAt aB_0 aPlace_1 aAxis_2 aStep_3).1))) <| s)
  clear p
  cases h1 : (v_laws_sameFloat (fcv .f32 .f64 ((v_impl_SlopeAt aB_0 aPlace_1 aAxis_2 aStep_3).1)) (fcv .f32 .f64 ((v_spec_SlopeAt aB_0 aPlace_1 aAxis_2 aStep_3).1))) with
  | true =>
   have p {a C} (s : Scr a C) := q (sB' h1 <| sB' h1 <| sB' h1 <| sB' h1 <| s)
   clear q
   cases h2 : ((v_impl_SlopeAt aB_0 aPlace_1 aAxis_2 aStep_3).2 == (v_spec_SlopeAt aB_0 aPlace_1 aAxis_2 aStep_3).2) with
   | true =>
    have gh2 := eq_of_beq h2
    have q {a C} (s : Scr a C) := p (sB' h2 <| sK [3, 3] <| sF (i_laws_toBody aB_0 y0 y1 y2 y3 y4) <| sF (Fn.castA (args' := [.agg [.sl (aB_0.Mesh.Places.map GVector.cells), .sl ((aB_0.Mesh.Triangles.map fun l => l.map (cI .i64)).map fun l => [.sl l]), .sl (aB_0.Springs.map GSpring.cells), .f .f32 aB_0.Film, .f .f32 aB_0.Bend, .sl (aB_0.Weights.map (cF .f32)), .f .f32 aB_0.Fall.X, .f .f32 aB_0.Fall.Y, .f .f32 aB_0.Fall.Z], .agg [.sl (aB_0.Mesh.Places.map GVector.cells), .sl ((aB_0.Mesh.Triangles.map fun l => l.map (cI .i64)).map fun l => [.sl l]), .sl (aB_0.Springs.map GSpring.cells), .f .f32 aB_0.Film, .f .f32 aB_0.Bend, .sl (aB_0.Weights.map (cF .f32)), .f .f32 aB_0.Fall.X, .f .f32 aB_0.Fall.Y, .f .f32 aB_0.Fall.Z]]) (t_laws_eqBody aB_0 aB_0 y0 y1 y2 y3 y4 y0 y1 y2 y3 y4) (by first | (simp [cL, Function.comp_def]; done) | (simp [cL, Function.comp_def]; rfl))) <| s)
    clear p
    cases h3 : (v_laws_eqBody aB_0 aB_0) with
    | true =>
     refine fnS E0Ok hMixed (c := bodyOf f3) [] (.b true) [] func3 (q (sB' h3 <| sK [] sN)) rfl (by kernel_rfl) (by kernel_rfl) rfl ?_ ?_
     · simp only [v_laws_FnExactSlopeAt, h0, h1, h2, h3, cond_true, cond_false]
     · rfl
    | false =>
     refine fnS E0Ok hMixed (c := bodyOf f3) [] (.b false) [] func3 (q (sB' h3 <| sK [] sN)) rfl (by kernel_rfl) (by kernel_rfl) rfl ?_ ?_
     · simp only [v_laws_FnExactSlopeAt, h0, h1, h2, h3, cond_true, cond_false]
     · rfl
   | false =>
    have gh2 := ne_of_beq_false h2
    refine fnS E0Ok hMixed (c := bodyOf f3) [] (.b false) [] func3 (p (sB' h2 <| sK [] sN)) rfl (by kernel_rfl) (by kernel_rfl) rfl ?_ ?_
    · simp only [v_laws_FnExactSlopeAt, h0, h1, h2, cond_true, cond_false]
    · rfl
  | false =>
   refine fnS E0Ok hMixed (c := bodyOf f3) [] (.b false) [] func3 (q (sB' h1 <| sB' h1 <| sB' h1 <| sB' h1 <| sB (show true = true from rfl) <| sK [] sN)) rfl (by kernel_rfl) (by kernel_rfl) rfl ?_ ?_
   · simp only [v_laws_FnExactSlopeAt, h0, h1, cond_false]
   · rfl

theorem eq_SlopeAt (b : GBody) (p a : Int) (x : Nat) : v_impl_SlopeAt b p a x = v_spec_SlopeAt b p a x := by
  unfold v_impl_SlopeAt v_spec_SlopeAt nd_impl_SlopeAt_0 nd_spec_SlopeAt_0
  rw [eq_ValidBody, show v_impl_within = v_spec_l00In from rfl, show v_impl_isOver x = v_spec_l03Positive x from rfl]
  cases h : v_spec_l03Is b with
  | false => rfl
  | true => rw [eq_shifted (okBd_is b h), eq_shifted (okBd_is b h)]
theorem true_laws_FnExactSlopeAt (a : GBody) (p q : Int) (x : Nat) (h0_0 : a.Mesh.Places.length ≤ 9223372036854775807) (h0_1 : a.Mesh.Triangles.length ≤ 9223372036854775807) (h0_2 : ∀ t ∈ a.Mesh.Triangles, t.length ≤ 9223372036854775807) (h0_3 : a.Springs.length ≤ 9223372036854775807) (h0_4 : a.Weights.length ≤ 9223372036854775807) : v_laws_FnExactSlopeAt a p q x = true := by
  unfold v_laws_FnExactSlopeAt
  simp [eqBody_self, eq_SlopeAt, same_self]

end Go.Ab
