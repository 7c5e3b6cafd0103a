/- The functions of this seat as plain Lean, and that the program's are these. Printed by a program of the prover's own. -/
import Derived.Test.YtiihcpcabmamiaaB5
set_option linter.unusedVariables false
set_option linter.unusedSimpArgs false
set_option maxRecDepth 100000
namespace Go.Ab
open Go.RowKit Go.Proofs.Try

def v_impl_AddVectors (a_0 : GVector) (b_1 : GVector) : GVector := (⟨(fop .add .f32 a_0.X b_1.X), (fop .add .f32 a_0.Y b_1.Y), (fop .add .f32 a_0.Z b_1.Z)⟩ : GVector)

theorem t_impl_AddVectors (a_0 : GVector) (b_1 : GVector)   : Fn prog 68 [.agg [.f .f32 a_0.X, .f .f32 a_0.Y, .f .f32 a_0.Z], .agg [.f .f32 b_1.X, .f .f32 b_1.Y, .f .f32 b_1.Z]] (.agg [.f .f32 ((v_impl_AddVectors a_0 b_1).X), .f .f32 ((v_impl_AddVectors a_0 b_1).Y), .f .f32 ((v_impl_AddVectors a_0 b_1).Z)]) [] := by
 refine fnS E0Ok hMixed (c := bodyOf f68) [] (.agg [.f .f32 (fop .add .f32 a_0.X b_1.X), .f .f32 (fop .add .f32 a_0.Y b_1.Y), .f .f32 (fop .add .f32 a_0.Z b_1.Z)]) [] func68 (sK [] sN) rfl (by kernel_rfl) (by kernel_rfl) rfl ?_ ?_
 · rfl
 · rfl

def nd_impl_bendOf_0 (m_0 : GMesh) (h_1 : (List Int)) : GVector := (v_impl_LessVectors (v_impl_AddVectors (m_0.Places.getD (h_1.getD 2 default).toNat default) (m_0.Places.getD (h_1.getD 3 default).toNat default)) (v_impl_AddVectors (m_0.Places.getD (h_1.getD 0 default).toNat default) (m_0.Places.getD (h_1.getD 1 default).toNat default)))

def v_impl_bendOf (m_0 : GMesh) (h_1 : (List Int)) : GVector := (nd_impl_bendOf_0 m_0 h_1)

theorem t_impl_bendOf (m_0 : GMesh) (h_1 : (List Int)) (hp0 : m_0.Places.length ≤ 1073741824) (hp1 : m_0.Triangles.length ≤ 1073741824) (hp2 : ∀ t ∈ m_0.Triangles, t.length ≤ 1073741824) (hp3 : h_1.length ≤ 1073741824) (hp4 : h_1.length = 4 ∧ ∀ x ∈ h_1, 0 ≤ x ∧ x < (m_0.Places.length : Int))  : Fn prog 137 [.agg [.sl (m_0.Places.map GVector.cells), .sl (m_0.Triangles.map (cL (cI .i64)))], .sl (h_1.map (cI .i64))] (.agg [.f .f32 ((v_impl_bendOf m_0 h_1).X), .f .f32 ((v_impl_bendOf m_0 h_1).Y), .f .f32 ((v_impl_bendOf m_0 h_1).Z)]) [] := by
 have y0 : (0 : Int) ≤ 2 := (by first | assumption | omega | (have q := Okh.at hp4; omega) | (simp_all <;> omega))
 have y1 : 2 < (h_1.length : Int) := (by first | assumption | omega | (have q := Okh.at hp4; omega) | (simp_all <;> omega))
 have y2 : (0 : Int) ≤ (h_1.getD 2 default) := (by first | assumption | omega | (have q := Okh.at hp4; omega) | (simp_all <;> omega))
 have y3 : (h_1.getD 2 default) < (m_0.Places.length : Int) := (by first | assumption | omega | (have q := Okh.at hp4; omega) | (simp_all <;> omega))
 have y4 : (0 : Int) ≤ 3 := (by first | assumption | omega | (have q := Okh.at hp4; omega) | (simp_all <;> omega))
 have y5 : 3 < (h_1.length : Int) := (by first | assumption | omega | (have q := Okh.at hp4; omega) | (simp_all <;> omega))
 have y6 : (0 : Int) ≤ (h_1.getD 3 default) := (by first | assumption | omega | (have q := Okh.at hp4; omega) | (simp_all <;> omega))
 have y7 : (h_1.getD 3 default) < (m_0.Places.length : Int) := (by first | assumption | omega | (have q := Okh.at hp4; omega) | (simp_all <;> omega))
 have y8 : (0 : Int) ≤ 0 := (by first | assumption | omega | (have q := Okh.at hp4; omega) | (simp_all <;> omega))
 have y9 : 0 < (h_1.length : Int) := (by first | assumption | omega | (have q := Okh.at hp4; omega) | (simp_all <;> omega))
 have y10 : (0 : Int) ≤ (h_1.getD 0 default) := (by first | assumption | omega | (have q := Okh.at hp4; omega) | (simp_all <;> omega))
 have y11 : (h_1.getD 0 default) < (m_0.Places.length : Int) := (by first | assumption | omega | (have q := Okh.at hp4; omega) | (simp_all <;> omega))
 have y12 : (0 : Int) ≤ 1 := (by first | assumption | omega | (have q := Okh.at hp4; omega) | (simp_all <;> omega))
 have y13 : 1 < (h_1.length : Int) := (by first | assumption | omega | (have q := Okh.at hp4; omega) | (simp_all <;> omega))
 have y14 : (0 : Int) ≤ (h_1.getD 1 default) := (by first | assumption | omega | (have q := Okh.at hp4; omega) | (simp_all <;> omega))
 have y15 : (h_1.getD 1 default) < (m_0.Places.length : Int) := (by first | assumption | omega | (have q := Okh.at hp4; omega) | (simp_all <;> omega))
 refine fnS E0Ok hMixed (c := bodyOf f137) [] (.agg [.f .f32 ((nd_impl_bendOf_0 m_0 h_1).X), .f .f32 ((nd_impl_bendOf_0 m_0 h_1).Y), .f .f32 ((nd_impl_bendOf_0 m_0 h_1).Z)]) [] func137 (sK [25, 25] <| sG (cI .i64) h_1 2 y0 y1 <| sG GVector.cells m_0.Places (h_1.getD 2 default) y2 y3 <| sG (cI .i64) h_1 3 y4 y5 <| sG GVector.cells m_0.Places (h_1.getD 3 default) y6 y7 <| sF (t_impl_AddVectors (m_0.Places.getD (h_1.getD 2 default).toNat default) (m_0.Places.getD (h_1.getD 3 default).toNat default)) <| sG (cI .i64) h_1 0 y8 y9 <| sG GVector.cells m_0.Places (h_1.getD 0 default) y10 y11 <| sG (cI .i64) h_1 1 y12 y13 <| sG GVector.cells m_0.Places (h_1.getD 1 default) y14 y15 <| sF (t_impl_AddVectors (m_0.Places.getD (h_1.getD 0 default).toNat default) (m_0.Places.getD (h_1.getD 1 default).toNat default)) <| sF (t_impl_LessVectors (v_impl_AddVectors (m_0.Places.getD (h_1.getD 2 default).toNat default) (m_0.Places.getD (h_1.getD 3 default).toNat default)) (v_impl_AddVectors (m_0.Places.getD (h_1.getD 0 default).toNat default) (m_0.Places.getD (h_1.getD 1 default).toNat default))) <| sK [] sN) rfl (by kernel_rfl) (by kernel_rfl) rfl ?_ ?_
 · rfl
 · rfl

def nd_impl_partsOf_0 (b_0 : GBody) (x_l0 : Int) : Nat := (fop .mul .f32 (fop .sub .f32 (v_impl_LongOf (v_impl_alongSpring b_0 (b_0.Springs.getD x_l0.toNat default))) ((b_0.Springs.getD x_l0.toNat default).Long)) (fop .sub .f32 (v_impl_LongOf (v_impl_alongSpring b_0 (b_0.Springs.getD x_l0.toNat default))) ((b_0.Springs.getD x_l0.toNat default).Long)))

def lo_impl_partsOf_1 (b_0 : GBody) : Nat → Int → (List Nat) → (List Nat)
  | 0, _, _ => default
  | k + 1, x_l0, r1_l1 => (cond (decide (x_l0 < (b_0.Springs.length : Int)))
    (lo_impl_partsOf_1 b_0 k (x_l0 + 1) (r1_l1.set 0 (fop .add .f32 (r1_l1.getD 0 default) (fop .mul .f32 (fop .mul .f32 1056964608 ((b_0.Springs.getD x_l0.toNat default).Stiff)) (nd_impl_partsOf_0 b_0 x_l0)))))
    r1_l1)

def ls_impl_partsOf_1 (b_0 : GBody) (r : (List Nat)) : Ex × St := ((.exit 0), ⟨[.agg [.sl (b_0.Mesh.Places.map GVector.cells), .sl (b_0.Mesh.Triangles.map (cL (cI .i64))), .sl (b_0.Springs.map GSpring.cells), .f .f32 b_0.Film, .f .f32 b_0.Bend, .sl (b_0.Weights.map (cF .f32)), .f .f32 b_0.Fall.X, .f .f32 b_0.Fall.Y, .f .f32 b_0.Fall.Z], .ptr 0 0 0, .nils, .own 1, .any, .any, .any, .any, .any, .any, .any, .any, .any, .any, .own 1, .ptr 0 0 2, .sl (b_0.Springs.map GSpring.cells), .any, .any, .any, .any, .any, .any, .any, .any, .any, .any, .any, .any, .any, .any, .any, .any, .any, .any, .any, .any, .any, .any, .any, .any, .any, .any, .any, .any, .any, .any, .any, .any, .any, .any, .any, .any, .any, .any, .any, .any, .any, .any, .any, .any, .any, .any, .any, .any, .any, .any, .any, .any, .any, .any, .any, .any, .any, .any, .any, .any, .any, .any, .any, .any, .any, .any, .any, .any, .any, .any, .any, .any, .any, .any, .any, .any, .any, .any, .any, .any, .any, .any, .any, .any, .any, .any, .any, .any, .any, .any, .any, .any, .any, .any, .any, .any, .any, .any, .any, .any], [.box 69 [.sl (b_0.Mesh.Places.map GVector.cells), .sl (b_0.Mesh.Triangles.map (cL (cI .i64))), .sl (b_0.Springs.map GSpring.cells), .f .f32 b_0.Film, .f .f32 b_0.Bend, .sl (b_0.Weights.map (cF .f32)), .f .f32 b_0.Fall.X, .f .f32 b_0.Fall.Y, .f .f32 b_0.Fall.Z], .vec 38 1 (r.map (cF .f32)) false]⟩)

def hd_impl_partsOf_1 (b_0 : GBody) (x_l0 : Int) (r1_l1 : (List Nat)) : St := ⟨[.agg [.sl (b_0.Mesh.Places.map GVector.cells), .sl (b_0.Mesh.Triangles.map (cL (cI .i64))), .sl (b_0.Springs.map GSpring.cells), .f .f32 b_0.Film, .f .f32 b_0.Bend, .sl (b_0.Weights.map (cF .f32)), .f .f32 b_0.Fall.X, .f .f32 b_0.Fall.Y, .f .f32 b_0.Fall.Z], .ptr 0 0 0, .nils, .own 1, .any, .any, .any, .any, .any, .any, .any, .any, .any, .any, .own 1, .ptr 0 0 2, .sl (b_0.Springs.map GSpring.cells), .i .i64 (b_0.Springs.length : Int), .i .i64 x_l0, .any, .any, .any, .any, .any, .any, .any, .any, .any, .any, .any, .any, .any, .any, .any, .any, .any, .any, .any, .any, .any, .any, .any, .any, .any, .any, .any, .any, .any, .any, .any, .any, .any, .any, .any, .any, .any, .any, .any, .any, .any, .any, .any, .any, .any, .any, .any, .any, .any, .any, .any, .any, .any, .any, .any, .any, .any, .any, .any, .any, .any, .any, .any, .any, .any, .any, .any, .any, .any, .any, .any, .any, .any, .any, .any, .any, .any, .any, .any, .any, .any, .any, .any, .any, .any, .any, .any, .any, .any, .any, .any, .any, .any, .any, .any, .any, .any, .any], [.box 69 [.sl (b_0.Mesh.Places.map GVector.cells), .sl (b_0.Mesh.Triangles.map (cL (cI .i64))), .sl (b_0.Springs.map GSpring.cells), .f .f32 b_0.Film, .f .f32 b_0.Bend, .sl (b_0.Weights.map (cF .f32)), .f .f32 b_0.Fall.X, .f .f32 b_0.Fall.Y, .f .f32 b_0.Fall.Z], .vec 38 1 (r1_l1.map (cF .f32)) false]⟩

def mk_impl_partsOf_1_0 : List Bool := [true, true, true, true, false, false, false, false, false, false, false, false, false, false, true, true, true, true, true, false, false, false, false, false, false, false, false, false, false, false, false, false, false, false, false, false, false, false, false, false, false, false, false, false, false, false, false, false, false, false, false, false, false, false, false, false, false, false, false, false, false, false, false, false, false, false, false, false, false, false, false, false, false, false, false, false, false, false, false, false, false, false, false, false, false, false, false, false, false, false, false, false, false, false, false, false, false, false, false, false, false, false, false, false, false, false, false, false, false, false, false, false, false, false, false, false, false]

def mk_impl_partsOf_1_1 : List Bool := [true, true, true, true, false, false, false, false, false, false, false, false, false, false, true, true, true, false, false, false, false, false, false, false, false, false, false, false, false, false, false, false, false, false, false, false, false, false, false, false, false, false, false, false, false, false, false, false, false, false, false, false, false, false, false, false, false, false, false, false, false, false, false, false, false, false, false, false, false, false, false, false, false, false, false, false, false, false, false, false, false, false, false, false, false, false, false, false, false, false, false, false, false, false, false, false, false, false, false, false, false, false, false, false, false, false, false, false, false, false, false, false, false, false, false, false, false]

theorem lp_impl_partsOf_1 (b_0 : GBody) (hp0 : b_0.Mesh.Places.length ≤ 1073741824) (hp1 : b_0.Mesh.Triangles.length ≤ 1073741824) (hp2 : ∀ t ∈ b_0.Mesh.Triangles, t.length ≤ 1073741824) (hp3 : b_0.Springs.length ≤ 1073741824) (hp4 : b_0.Weights.length ≤ 1073741824) (hp5 : OkBd b_0) : ∀ (k : Nat) (x_l0 : Int) (r1_l1 : (List Nat)) (hv_impl_partsOf_1_0 : 0 ≤ x_l0) (hv_impl_partsOf_1_1 : r1_l1.length = 4) (hk : ((b_0.Springs.length : Int) - x_l0).toNat < k), Lp prog 0 (sub (bodyOf f102) [1, 1, 0, 1, 0, 0]) (hd_impl_partsOf_1 b_0 x_l0 r1_l1) (ls_impl_partsOf_1 b_0 (lo_impl_partsOf_1 b_0 k x_l0 r1_l1)).1 (ls_impl_partsOf_1 b_0 (lo_impl_partsOf_1 b_0 k x_l0 r1_l1)).2 := by
 intro k
 induction k with
 | zero => intro x_l0 r1_l1 hv_impl_partsOf_1_0 hv_impl_partsOf_1_1 hk; exact absurd hk (Nat.not_lt_zero _)
 | succ k ih =>
  intro x_l0 r1_l1 hv_impl_partsOf_1_0 hv_impl_partsOf_1_1 hk
  cases h_0 : (decide (x_l0 < (b_0.Springs.length : Int))) with
  | true =>
   have gh_0 := of_decide_eq_true h_0
   have y_0 : (0 : Int) ≤ x_l0 := (by first | assumption | omega | (have q := hp5.w; first | omega | (have q := okBd_spr hp5 (by assumption) h_0; omega) | (have q := impl_hingesOf_len _ hp5.e; omega) | (simp; done)) | (simp_all <;> omega))
   have y_1 : x_l0 < (b_0.Springs.length : Int) := (by first | assumption | omega | (have q := hp5.w; first | omega | (have q := okBd_spr hp5 (by assumption) h_0; omega) | (have q := impl_hingesOf_len _ hp5.e; omega) | (simp; done)) | (simp_all <;> omega))
   have y_2 : 0 ≤ (b_0.Springs.getD x_l0.toNat default).A := (by first | assumption | omega | exact hp5.e | (have q := okBd_spr hp5 (by assumption) h_0; omega) | exact tri3 hp5.e (by assumption) h_0 | exact tri3L hp5.e (by assumption) h_0 | exact hin4i hp5.e (by assumption) h_0 | exact hin4iL hp5.e (by assumption) h_0)
   have y_3 : (b_0.Springs.getD x_l0.toNat default).A < (b_0.Mesh.Places.length : Int) := (by first | assumption | omega | exact hp5.e | (have q := okBd_spr hp5 (by assumption) h_0; omega) | exact tri3 hp5.e (by assumption) h_0 | exact tri3L hp5.e (by assumption) h_0 | exact hin4i hp5.e (by assumption) h_0 | exact hin4iL hp5.e (by assumption) h_0)
   have y_4 : 0 ≤ (b_0.Springs.getD x_l0.toNat default).B := (by first | assumption | omega | exact hp5.e | (have q := okBd_spr hp5 (by assumption) h_0; omega) | exact tri3 hp5.e (by assumption) h_0 | exact tri3L hp5.e (by assumption) h_0 | exact hin4i hp5.e (by assumption) h_0 | exact hin4iL hp5.e (by assumption) h_0)
   have y_5 : (b_0.Springs.getD x_l0.toNat default).B < (b_0.Mesh.Places.length : Int) := (by first | assumption | omega | exact hp5.e | (have q := okBd_spr hp5 (by assumption) h_0; omega) | exact tri3 hp5.e (by assumption) h_0 | exact tri3L hp5.e (by assumption) h_0 | exact hin4i hp5.e (by assumption) h_0 | exact hin4iL hp5.e (by assumption) h_0)
   have y_6 : (0 : Int) ≤ 0 := (by first | assumption | omega | (have q := hp5.w; first | omega | (have q := okBd_spr hp5 (by assumption) h_0; omega) | (have q := impl_hingesOf_len _ hp5.e; omega) | (simp; done)) | (simp_all <;> omega))
   have y_7 : 0 < (r1_l1.length : Int) := (by first | assumption | omega | (have q := hp5.w; first | omega | (have q := okBd_spr hp5 (by assumption) h_0; omega) | (have q := impl_hingesOf_len _ hp5.e; omega) | (simp; done)) | (simp_all <;> omega))
   have y_8 : 0 < r1_l1.length := (by first | assumption | omega | (have q := hp5.w; first | omega | (have q := okBd_spr hp5 (by assumption) h_0; omega) | (have q := impl_hingesOf_len _ hp5.e; omega) | (simp; done)) | (simp_all <;> omega))
   have y_9 : (-9223372036854775808 : Int) ≤ (x_l0 + 1) := (by first | assumption | omega | (have q := hp5.w; first | omega | (have q := okBd_spr hp5 (by assumption) h_0; omega) | (have q := impl_hingesOf_len _ hp5.e; omega) | (simp; done)) | (simp_all <;> omega))
   have y_10 : (x_l0 + 1) ≤ (9223372036854775807 : Int) := (by first | assumption | omega | (have q := hp5.w; first | omega | (have q := okBd_spr hp5 (by assumption) h_0; omega) | (have q := impl_hingesOf_len _ hp5.e; omega) | (simp; done)) | (simp_all <;> omega))
   have e : lo_impl_partsOf_1 b_0 (k + 1) x_l0 r1_l1 = (lo_impl_partsOf_1 b_0 k (x_l0 + 1) (r1_l1.set 0 (fop .add .f32 (r1_l1.getD 0 default) (fop .mul .f32 (fop .mul .f32 1056964608 ((b_0.Springs.getD x_l0.toNat default).Stiff)) (nd_impl_partsOf_0 b_0 x_l0))))) := by simp only [lo_impl_partsOf_1, h_0, cond_true]
   rw [e]
   exact nextS E0Ok hMixed [] mk_impl_partsOf_1_0 [0, 1] (⟨[.agg [.sl (b_0.Mesh.Places.map GVector.cells), .sl (b_0.Mesh.Triangles.map (cL (cI .i64))), .sl (b_0.Springs.map GSpring.cells), .f .f32 b_0.Film, .f .f32 b_0.Bend, .sl (b_0.Weights.map (cF .f32)), .f .f32 b_0.Fall.X, .f .f32 b_0.Fall.Y, .f .f32 b_0.Fall.Z], .ptr 0 0 0, .nils, .own 1, .any, .any, .any, .any, .any, .any, .any, .any, .any, .any, .own 1, .ptr 0 0 2, .sl (b_0.Springs.map GSpring.cells), .i .i64 (b_0.Springs.length : Int), .i .i64 (x_l0 + 1), .any, .any, .any, .any, .any, .any, .any, .any, .any, .any, .any, .any, .any, .any, .any, .any, .any, .any, .any, .any, .any, .any, .any, .any, .any, .any, .any, .any, .any, .any, .any, .any, .any, .any, .any, .any, .any, .any, .any, .any, .any, .any, .any, .any, .any, .any, .any, .any, .any, .any, .any, .any, .any, .any, .any, .any, .any, .any, .any, .any, .any, .any, .any, .any, .any, .any, .any, .any, .any, .any, .any, .any, .any, .any, .any, .any, .any, .any, .any, .any, .any, .any, .any, .any, .any, .any, .any, .any, .any, .any, .any, .any, .any, .any, .any, .any, .any, .any], [.box 69 [.sl (b_0.Mesh.Places.map GVector.cells), .sl (b_0.Mesh.Triangles.map (cL (cI .i64))), .sl (b_0.Springs.map GSpring.cells), .f .f32 b_0.Film, .f .f32 b_0.Bend, .sl (b_0.Weights.map (cF .f32)), .f .f32 b_0.Fall.X, .f .f32 b_0.Fall.Y, .f .f32 b_0.Fall.Z], .vec 38 1 ((r1_l1.map (cF .f32)).set 0 [.f .f32 (fop .add .f32 (r1_l1.getD 0 default) (fop .mul .f32 (fop .mul .f32 1056964608 ((b_0.Springs.getD x_l0.toNat default).Stiff)) (nd_impl_partsOf_0 b_0 x_l0)))]) false]⟩) (sB h_0 <| sG GSpring.cells b_0.Springs x_l0 y_0 y_1 <| sK [6, 6] <| sF (t_impl_alongSpring b_0 (b_0.Springs.getD x_l0.toNat default) hp0 hp1 hp2 hp3 hp4 y_2 y_3 y_4 y_5) <| sF (t_impl_LongOf (v_impl_alongSpring b_0 (b_0.Springs.getD x_l0.toNat default))) <| sK [10, 10] <| sX (cF .f32) r1_l1 0 y_6 y_7 <| sV (cF .f32) r1_l1 0 y_8 <| sX (cF .f32) r1_l1 0 y_6 y_7 <| sC (maplt (c := (cF .f32)) (l := r1_l1) y_8) <| sI (x_l0 + 1) y_9 y_10 <| sN) (by kernel_rfl) (show _ = ⟨[.agg [.sl (b_0.Mesh.Places.map GVector.cells), .sl (b_0.Mesh.Triangles.map (cL (cI .i64))), .sl (b_0.Springs.map GSpring.cells), .f .f32 b_0.Film, .f .f32 b_0.Bend, .sl (b_0.Weights.map (cF .f32)), .f .f32 b_0.Fall.X, .f .f32 b_0.Fall.Y, .f .f32 b_0.Fall.Z], .ptr 0 0 0, .nils, .own 1, .any, .any, .any, .any, .any, .any, .any, .any, .any, .any, .own 1, .ptr 0 0 2, .sl (b_0.Springs.map GSpring.cells), .i .i64 (b_0.Springs.length : Int), .i .i64 (x_l0 + 1), .any, .any, .any, .any, .any, .any, .any, .any, .any, .any, .any, .any, .any, .any, .any, .any, .any, .any, .any, .any, .any, .any, .any, .any, .any, .any, .any, .any, .any, .any, .any, .any, .any, .any, .any, .any, .any, .any, .any, .any, .any, .any, .any, .any, .any, .any, .any, .any, .any, .any, .any, .any, .any, .any, .any, .any, .any, .any, .any, .any, .any, .any, .any, .any, .any, .any, .any, .any, .any, .any, .any, .any, .any, .any, .any, .any, .any, .any, .any, .any, .any, .any, .any, .any, .any, .any, .any, .any, .any, .any, .any, .any, .any, .any, .any, .any, .any, .any], [.box 69 [.sl (b_0.Mesh.Places.map GVector.cells), .sl (b_0.Mesh.Triangles.map (cL (cI .i64))), .sl (b_0.Springs.map GSpring.cells), .f .f32 b_0.Film, .f .f32 b_0.Bend, .sl (b_0.Weights.map (cF .f32)), .f .f32 b_0.Fall.X, .f .f32 b_0.Fall.Y, .f .f32 b_0.Fall.Z], .vec 38 1 ((r1_l1.set 0 (fop .add .f32 (r1_l1.getD 0 default) (fop .mul .f32 (fop .mul .f32 1056964608 ((b_0.Springs.getD x_l0.toNat default).Stiff)) (nd_impl_partsOf_0 b_0 x_l0)))).map (cF .f32)) false]⟩ from (by simp [List.map_set, cF])) (ih (x_l0 + 1) (r1_l1.set 0 (fop .add .f32 (r1_l1.getD 0 default) (fop .mul .f32 (fop .mul .f32 1056964608 ((b_0.Springs.getD x_l0.toNat default).Stiff)) (nd_impl_partsOf_0 b_0 x_l0)))) (show 0 ≤ (x_l0 + 1) from (by first | assumption | omega | (have q := hp5.w; first | omega | (have q := okBd_spr hp5 (by assumption) h_0; omega) | (have q := impl_hingesOf_len _ hp5.e; omega) | (simp; done)) | (simp_all <;> omega))) (show (r1_l1.set 0 (fop .add .f32 (r1_l1.getD 0 default) (fop .mul .f32 (fop .mul .f32 1056964608 ((b_0.Springs.getD x_l0.toNat default).Stiff)) (nd_impl_partsOf_0 b_0 x_l0)))).length = 4 from (by first | assumption | omega | (have q := hp5.w; first | omega | (have q := okBd_spr hp5 (by assumption) h_0; omega) | (have q := impl_hingesOf_len _ hp5.e; omega) | (simp; done)) | (simp_all <;> omega))) (by first | assumption | omega | (have q := hp5.w; first | omega | (have q := okBd_spr hp5 (by assumption) h_0; omega) | (have q := impl_hingesOf_len _ hp5.e; omega) | (simp; done)) | (simp_all <;> omega)))
  | false =>
   have gh_0 := of_decide_eq_false h_0
   have e : lo_impl_partsOf_1 b_0 (k + 1) x_l0 r1_l1 = r1_l1 := by simp only [lo_impl_partsOf_1, h_0, cond_false]
   rw [e]
   exact outR (e := (.exit 0)) E0Ok hMixed [] mk_impl_partsOf_1_1 [0, 1] (sB h_0 <| sN) (by kernel_rfl) (by intro h; cases h)

theorem ln_impl_partsOf_1_0 (b_0 : GBody) : ∀ (k : Nat) (x_l0 : Int) (r1_l1 : (List Nat)) (hk : ((b_0.Springs.length : Int) - x_l0).toNat < k), (lo_impl_partsOf_1 b_0 k x_l0 r1_l1).length = r1_l1.length := by
  intro k
  induction k with
  | zero => intro x_l0 r1_l1 hk; exact absurd hk (Nat.not_lt_zero _)
  | succ k ih =>
    intro x_l0 r1_l1 hk
    cases h_0 : (decide (x_l0 < (b_0.Springs.length : Int))) with
    | true =>
      have e : lo_impl_partsOf_1 b_0 (k + 1) x_l0 r1_l1 = (lo_impl_partsOf_1 b_0 k (x_l0 + 1) (r1_l1.set 0 (fop .add .f32 (r1_l1.getD 0 default) (fop .mul .f32 (fop .mul .f32 1056964608 ((b_0.Springs.getD x_l0.toNat default).Stiff)) (nd_impl_partsOf_0 b_0 x_l0))))) := by simp only [lo_impl_partsOf_1, h_0, cond_true]
      rw [e, ih (x_l0 + 1) (r1_l1.set 0 (fop .add .f32 (r1_l1.getD 0 default) (fop .mul .f32 (fop .mul .f32 1056964608 ((b_0.Springs.getD x_l0.toNat default).Stiff)) (nd_impl_partsOf_0 b_0 x_l0)))) (by first | assumption | omega | (have q := hp5.w; first | omega | (have q := okBd_spr hp5 (by assumption) h_0; omega) | (have q := impl_hingesOf_len _ hp5.e; omega) | (simp; done)) | (simp_all <;> omega))]; simp
    | false =>
      have e : lo_impl_partsOf_1 b_0 (k + 1) x_l0 r1_l1 = r1_l1 := by simp only [lo_impl_partsOf_1, h_0, cond_false]
      first | (rw [e]; done) | (rw [e]; rfl)

def lr_impl_partsOf_1_0 (b_0 : GBody) : (List Nat) := (lo_impl_partsOf_1 b_0 (((b_0.Springs.length : Int) - 0).toNat + 1) 0 (List.replicate 4 0))

@[simp] theorem len_lr_impl_partsOf_1_0_0 (b_0 : GBody) : (lr_impl_partsOf_1_0 b_0).length = ((List.replicate 4 0) : (List Nat)).length := ln_impl_partsOf_1_0 b_0 (((b_0.Springs.length : Int) - 0).toNat + 1) 0 (List.replicate 4 0) (by first | exact Nat.lt_succ_self _ | simp)

def nd_impl_partsOf_2 (b_0 : GBody) (x_l0 : Int) (r1_l1 : (List Nat)) : Nat := (fop .add .f32 (r1_l1.getD 1 default) (fop .mul .f32 b_0.Film (fop .mul .f32 1056964608 (v_impl_LongOf (v_impl_normalOf b_0.Mesh (b_0.Mesh.Triangles.getD x_l0.toNat default))))))

def lo_impl_partsOf_2 (b_0 : GBody) : Nat → Int → (List Nat) → (List Nat)
  | 0, _, _ => default
  | k + 1, x_l0, r1_l1 => (cond (decide (x_l0 < (b_0.Mesh.Triangles.length : Int)))
    (lo_impl_partsOf_2 b_0 k (x_l0 + 1) (r1_l1.set 1 (nd_impl_partsOf_2 b_0 x_l0 r1_l1)))
    r1_l1)

def ls_impl_partsOf_2 (b_0 : GBody) (r : (List Nat)) : Ex × St := ((.exit 2), ⟨[.agg [.sl (b_0.Mesh.Places.map GVector.cells), .sl (b_0.Mesh.Triangles.map (cL (cI .i64))), .sl (b_0.Springs.map GSpring.cells), .f .f32 b_0.Film, .f .f32 b_0.Bend, .sl (b_0.Weights.map (cF .f32)), .f .f32 b_0.Fall.X, .f .f32 b_0.Fall.Y, .f .f32 b_0.Fall.Z], .ptr 0 0 0, .nils, .own 1, .any, .any, .any, .any, .any, .any, .any, .any, .any, .any, .own 1, .ptr 0 0 2, .sl (b_0.Springs.map GSpring.cells), .any, .any, .any, .any, .any, .any, .any, .any, .any, .any, .any, .any, .any, .any, .any, .any, .any, .any, .any, .any, .any, .any, .any, .any, .any, .ptr 0 0 0, .ptr 0 0 1, .sl (b_0.Mesh.Triangles.map (cL (cI .i64))), .any, .any, .any, .any, .any, .any, .any, .any, .any, .any, .any, .any, .any, .any, .any, .any, .any, .any, .any, .any, .any, .any, .any, .any, .any, .any, .any, .any, .any, .any, .any, .any, .any, .any, .any, .any, .any, .any, .any, .any, .any, .any, .any, .any, .any, .any, .any, .any, .any, .any, .any, .any, .any, .any, .any, .any, .any, .any, .any, .any, .any, .any, .any, .any, .any, .any, .any, .any, .any, .any, .any, .any], [.box 69 [.sl (b_0.Mesh.Places.map GVector.cells), .sl (b_0.Mesh.Triangles.map (cL (cI .i64))), .sl (b_0.Springs.map GSpring.cells), .f .f32 b_0.Film, .f .f32 b_0.Bend, .sl (b_0.Weights.map (cF .f32)), .f .f32 b_0.Fall.X, .f .f32 b_0.Fall.Y, .f .f32 b_0.Fall.Z], .vec 38 1 (r.map (cF .f32)) false]⟩)

def hd_impl_partsOf_2 (b_0 : GBody) (x_l0 : Int) (r1_l1 : (List Nat)) : St := ⟨[.agg [.sl (b_0.Mesh.Places.map GVector.cells), .sl (b_0.Mesh.Triangles.map (cL (cI .i64))), .sl (b_0.Springs.map GSpring.cells), .f .f32 b_0.Film, .f .f32 b_0.Bend, .sl (b_0.Weights.map (cF .f32)), .f .f32 b_0.Fall.X, .f .f32 b_0.Fall.Y, .f .f32 b_0.Fall.Z], .ptr 0 0 0, .nils, .own 1, .any, .any, .any, .any, .any, .any, .any, .any, .any, .any, .own 1, .ptr 0 0 2, .sl (b_0.Springs.map GSpring.cells), .any, .any, .any, .any, .any, .any, .any, .any, .any, .any, .any, .any, .any, .any, .any, .any, .any, .any, .any, .any, .any, .any, .any, .any, .any, .ptr 0 0 0, .ptr 0 0 1, .sl (b_0.Mesh.Triangles.map (cL (cI .i64))), .i .i64 (b_0.Mesh.Triangles.length : Int), .i .i64 x_l0, .any, .any, .any, .any, .any, .any, .any, .any, .any, .any, .any, .any, .any, .any, .any, .any, .any, .any, .any, .any, .any, .any, .any, .any, .any, .any, .any, .any, .any, .any, .any, .any, .any, .any, .any, .any, .any, .any, .any, .any, .any, .any, .any, .any, .any, .any, .any, .any, .any, .any, .any, .any, .any, .any, .any, .any, .any, .any, .any, .any, .any, .any, .any, .any, .any, .any, .any, .any, .any, .any], [.box 69 [.sl (b_0.Mesh.Places.map GVector.cells), .sl (b_0.Mesh.Triangles.map (cL (cI .i64))), .sl (b_0.Springs.map GSpring.cells), .f .f32 b_0.Film, .f .f32 b_0.Bend, .sl (b_0.Weights.map (cF .f32)), .f .f32 b_0.Fall.X, .f .f32 b_0.Fall.Y, .f .f32 b_0.Fall.Z], .vec 38 1 (r1_l1.map (cF .f32)) false]⟩

def mk_impl_partsOf_2_0 : List Bool := [true, true, true, true, false, false, false, false, false, false, false, false, false, false, true, true, true, false, false, false, false, false, false, false, false, false, false, false, false, false, false, false, false, false, false, false, false, false, false, false, false, false, true, true, true, true, true, false, false, false, false, false, false, false, false, false, false, false, false, false, false, false, false, false, false, false, false, false, false, false, false, false, false, false, false, false, false, false, false, false, false, false, false, false, false, false, false, false, false, false, false, false, false, false, false, false, false, false, false, false, false, false, false, false, false, false, false, false, false, false, false, false, false, false, false, false, false]

def mk_impl_partsOf_2_1 : List Bool := [true, true, true, true, false, false, false, false, false, false, false, false, false, false, true, true, true, false, false, false, false, false, false, false, false, false, false, false, false, false, false, false, false, false, false, false, false, false, false, false, false, false, true, true, true, false, false, false, false, false, false, false, false, false, false, false, false, false, false, false, false, false, false, false, false, false, false, false, false, false, false, false, false, false, false, false, false, false, false, false, false, false, false, false, false, false, false, false, false, false, false, false, false, false, false, false, false, false, false, false, false, false, false, false, false, false, false, false, false, false, false, false, false, false, false, false, false]

theorem lp_impl_partsOf_2 (b_0 : GBody) (hp0 : b_0.Mesh.Places.length ≤ 1073741824) (hp1 : b_0.Mesh.Triangles.length ≤ 1073741824) (hp2 : ∀ t ∈ b_0.Mesh.Triangles, t.length ≤ 1073741824) (hp3 : b_0.Springs.length ≤ 1073741824) (hp4 : b_0.Weights.length ≤ 1073741824) (hp5 : OkBd b_0) : ∀ (k : Nat) (x_l0 : Int) (r1_l1 : (List Nat)) (hv_impl_partsOf_2_0 : 0 ≤ x_l0) (hv_impl_partsOf_2_1 : r1_l1.length = (lr_impl_partsOf_1_0 b_0).length) (hk : ((b_0.Mesh.Triangles.length : Int) - x_l0).toNat < k), Lp prog 0 (sub (bodyOf f102) [1, 1, 1, 0, 1, 0, 0]) (hd_impl_partsOf_2 b_0 x_l0 r1_l1) (ls_impl_partsOf_2 b_0 (lo_impl_partsOf_2 b_0 k x_l0 r1_l1)).1 (ls_impl_partsOf_2 b_0 (lo_impl_partsOf_2 b_0 k x_l0 r1_l1)).2 := by
 intro k
 induction k with
 | zero => intro x_l0 r1_l1 hv_impl_partsOf_2_0 hv_impl_partsOf_2_1 hk; exact absurd hk (Nat.not_lt_zero _)
 | succ k ih =>
  intro x_l0 r1_l1 hv_impl_partsOf_2_0 hv_impl_partsOf_2_1 hk
  cases h_0 : (decide (x_l0 < (b_0.Mesh.Triangles.length : Int))) with
  | true =>
   have gh_0 := of_decide_eq_true h_0
   have y_0 : (0 : Int) ≤ x_l0 := (by first | assumption | omega | (have q := hp5.w; first | omega | (have q := okBd_spr hp5 (by assumption) h_0; omega) | (have q := impl_hingesOf_len _ hp5.e; omega) | (simp; done)) | (simp_all <;> omega))
   have y_1 : x_l0 < (b_0.Mesh.Triangles.length : Int) := (by first | assumption | omega | (have q := hp5.w; first | omega | (have q := okBd_spr hp5 (by assumption) h_0; omega) | (have q := impl_hingesOf_len _ hp5.e; omega) | (simp; done)) | (simp_all <;> omega))
   have y_2 : (0 : Int) ≤ 1 := (by first | assumption | omega | (have q := hp5.w; first | omega | (have q := okBd_spr hp5 (by assumption) h_0; omega) | (have q := impl_hingesOf_len _ hp5.e; omega) | (simp; done)) | (simp_all <;> omega))
   have y_3 : 1 < (r1_l1.length : Int) := (by first | assumption | omega | (have q := hp5.w; first | omega | (have q := okBd_spr hp5 (by assumption) h_0; omega) | (have q := impl_hingesOf_len _ hp5.e; omega) | (simp; done)) | (simp_all <;> omega))
   have y_4 : 1 < r1_l1.length := (by first | assumption | omega | (have q := hp5.w; first | omega | (have q := okBd_spr hp5 (by assumption) h_0; omega) | (have q := impl_hingesOf_len _ hp5.e; omega) | (simp; done)) | (simp_all <;> omega))
   have y_5 : (b_0.Mesh.Triangles.getD x_l0.toNat default).length ≤ 1073741824 := (by first | assumption | omega | exact hp5.e | (have q := okBd_spr hp5 (by assumption) h_0; omega) | exact tri3 hp5.e (by assumption) h_0 | exact tri3L hp5.e (by assumption) h_0 | exact hin4i hp5.e (by assumption) h_0 | exact hin4iL hp5.e (by assumption) h_0)
   have y_6 : (b_0.Mesh.Triangles.getD x_l0.toNat default).length = 3 ∧ ∀ x ∈ (b_0.Mesh.Triangles.getD x_l0.toNat default), 0 ≤ x ∧ x < (b_0.Mesh.Places.length : Int) := (by first | assumption | omega | exact hp5.e | (have q := okBd_spr hp5 (by assumption) h_0; omega) | exact tri3 hp5.e (by assumption) h_0 | exact tri3L hp5.e (by assumption) h_0 | exact hin4i hp5.e (by assumption) h_0 | exact hin4iL hp5.e (by assumption) h_0)
   have y_7 : (-9223372036854775808 : Int) ≤ (x_l0 + 1) := (by first | assumption | omega | (have q := hp5.w; first | omega | (have q := okBd_spr hp5 (by assumption) h_0; omega) | (have q := impl_hingesOf_len _ hp5.e; omega) | (simp; done)) | (simp_all <;> omega))
   have y_8 : (x_l0 + 1) ≤ (9223372036854775807 : Int) := (by first | assumption | omega | (have q := hp5.w; first | omega | (have q := okBd_spr hp5 (by assumption) h_0; omega) | (have q := impl_hingesOf_len _ hp5.e; omega) | (simp; done)) | (simp_all <;> omega))
   have e : lo_impl_partsOf_2 b_0 (k + 1) x_l0 r1_l1 = (lo_impl_partsOf_2 b_0 k (x_l0 + 1) (r1_l1.set 1 (nd_impl_partsOf_2 b_0 x_l0 r1_l1))) := by simp only [lo_impl_partsOf_2, h_0, cond_true]
   rw [e]
   exact nextS E0Ok hMixed [] mk_impl_partsOf_2_0 [0, 1] (⟨[.agg [.sl (b_0.Mesh.Places.map GVector.cells), .sl (b_0.Mesh.Triangles.map (cL (cI .i64))), .sl (b_0.Springs.map GSpring.cells), .f .f32 b_0.Film, .f .f32 b_0.Bend, .sl (b_0.Weights.map (cF .f32)), .f .f32 b_0.Fall.X, .f .f32 b_0.Fall.Y, .f .f32 b_0.Fall.Z], .ptr 0 0 0, .nils, .own 1, .any, .any, .any, .any, .any, .any, .any, .any, .any, .any, .own 1, .ptr 0 0 2, .sl (b_0.Springs.map GSpring.cells), .any, .any, .any, .any, .any, .any, .any, .any, .any, .any, .any, .any, .any, .any, .any, .any, .any, .any, .any, .any, .any, .any, .any, .any, .any, .ptr 0 0 0, .ptr 0 0 1, .sl (b_0.Mesh.Triangles.map (cL (cI .i64))), .i .i64 (b_0.Mesh.Triangles.length : Int), .i .i64 (x_l0 + 1), .any, .any, .any, .any, .any, .any, .any, .any, .any, .any, .any, .any, .any, .any, .any, .any, .any, .any, .any, .any, .any, .any, .any, .any, .any, .any, .any, .any, .any, .any, .any, .any, .any, .any, .any, .any, .any, .any, .any, .any, .any, .any, .any, .any, .any, .any, .any, .any, .any, .any, .any, .any, .any, .any, .any, .any, .any, .any, .any, .any, .any, .any, .any, .any, .any, .any, .any, .any, .any, .any], [.box 69 [.sl (b_0.Mesh.Places.map GVector.cells), .sl (b_0.Mesh.Triangles.map (cL (cI .i64))), .sl (b_0.Springs.map GSpring.cells), .f .f32 b_0.Film, .f .f32 b_0.Bend, .sl (b_0.Weights.map (cF .f32)), .f .f32 b_0.Fall.X, .f .f32 b_0.Fall.Y, .f .f32 b_0.Fall.Z], .vec 38 1 ((r1_l1.map (cF .f32)).set 1 [.f .f32 (nd_impl_partsOf_2 b_0 x_l0 r1_l1)]) false]⟩) (sB h_0 <| sG (cL (cI .i64)) b_0.Mesh.Triangles x_l0 y_0 y_1 <| sK [12, 12] <| sX (cF .f32) r1_l1 1 y_2 y_3 <| sV (cF .f32) r1_l1 1 y_4 <| sF (t_impl_normalOf b_0.Mesh (b_0.Mesh.Triangles.getD x_l0.toNat default) hp0 hp1 hp2 y_5 y_6) <| sF (t_impl_LongOf (v_impl_normalOf b_0.Mesh (b_0.Mesh.Triangles.getD x_l0.toNat default))) <| sX (cF .f32) r1_l1 1 y_2 y_3 <| sC (maplt (c := (cF .f32)) (l := r1_l1) y_4) <| sI (x_l0 + 1) y_7 y_8 <| sN) (by kernel_rfl) (show _ = ⟨[.agg [.sl (b_0.Mesh.Places.map GVector.cells), .sl (b_0.Mesh.Triangles.map (cL (cI .i64))), .sl (b_0.Springs.map GSpring.cells), .f .f32 b_0.Film, .f .f32 b_0.Bend, .sl (b_0.Weights.map (cF .f32)), .f .f32 b_0.Fall.X, .f .f32 b_0.Fall.Y, .f .f32 b_0.Fall.Z], .ptr 0 0 0, .nils, .own 1, .any, .any, .any, .any, .any, .any, .any, .any, .any, .any, .own 1, .ptr 0 0 2, .sl (b_0.Springs.map GSpring.cells), .any, .any, .any, .any, .any, .any, .any, .any, .any, .any, .any, .any, .any, .any, .any, .any, .any, .any, .any, .any, .any, .any, .any, .any, .any, .ptr 0 0 0, .ptr 0 0 1, .sl (b_0.Mesh.Triangles.map (cL (cI .i64))), .i .i64 (b_0.Mesh.Triangles.length : Int), .i .i64 (x_l0 + 1), .any, .any, .any, .any, .any, .any, .any, .any, .any, .any, .any, .any, .any, .any, .any, .any, .any, .any, .any, .any, .any, .any, .any, .any, .any, .any, .any, .any, .any, .any, .any, .any, .any, .any, .any, .any, .any, .any, .any, .any, .any, .any, .any, .any, .any, .any, .any, .any, .any, .any, .any, .any, .any, .any, .any, .any, .any, .any, .any, .any, .any, .any, .any, .any, .any, .any, .any, .any, .any, .any], [.box 69 [.sl (b_0.Mesh.Places.map GVector.cells), .sl (b_0.Mesh.Triangles.map (cL (cI .i64))), .sl (b_0.Springs.map GSpring.cells), .f .f32 b_0.Film, .f .f32 b_0.Bend, .sl (b_0.Weights.map (cF .f32)), .f .f32 b_0.Fall.X, .f .f32 b_0.Fall.Y, .f .f32 b_0.Fall.Z], .vec 38 1 ((r1_l1.set 1 (nd_impl_partsOf_2 b_0 x_l0 r1_l1)).map (cF .f32)) false]⟩ from (by simp [List.map_set, cF])) (ih (x_l0 + 1) (r1_l1.set 1 (nd_impl_partsOf_2 b_0 x_l0 r1_l1)) (show 0 ≤ (x_l0 + 1) from (by first | assumption | omega | (have q := hp5.w; first | omega | (have q := okBd_spr hp5 (by assumption) h_0; omega) | (have q := impl_hingesOf_len _ hp5.e; omega) | (simp; done)) | (simp_all <;> omega))) (show (r1_l1.set 1 (nd_impl_partsOf_2 b_0 x_l0 r1_l1)).length = (lr_impl_partsOf_1_0 b_0).length from (by first | assumption | omega | (have q := hp5.w; first | omega | (have q := okBd_spr hp5 (by assumption) h_0; omega) | (have q := impl_hingesOf_len _ hp5.e; omega) | (simp; done)) | (simp_all <;> omega))) (by first | assumption | omega | (have q := hp5.w; first | omega | (have q := okBd_spr hp5 (by assumption) h_0; omega) | (have q := impl_hingesOf_len _ hp5.e; omega) | (simp; done)) | (simp_all <;> omega)))
  | false =>
   have gh_0 := of_decide_eq_false h_0
   have e : lo_impl_partsOf_2 b_0 (k + 1) x_l0 r1_l1 = r1_l1 := by simp only [lo_impl_partsOf_2, h_0, cond_false]
   rw [e]
   exact outR (e := (.exit 2)) E0Ok hMixed [] mk_impl_partsOf_2_1 [0, 1] (sB h_0 <| sN) (by kernel_rfl) (by intro h; cases h)

theorem ln_impl_partsOf_2_0 (b_0 : GBody) : ∀ (k : Nat) (x_l0 : Int) (r1_l1 : (List Nat)) (hk : ((b_0.Mesh.Triangles.length : Int) - x_l0).toNat < k), (lo_impl_partsOf_2 b_0 k x_l0 r1_l1).length = r1_l1.length := by
  intro k
  induction k with
  | zero => intro x_l0 r1_l1 hk; exact absurd hk (Nat.not_lt_zero _)
  | succ k ih =>
    intro x_l0 r1_l1 hk
    cases h_0 : (decide (x_l0 < (b_0.Mesh.Triangles.length : Int))) with
    | true =>
      have e : lo_impl_partsOf_2 b_0 (k + 1) x_l0 r1_l1 = (lo_impl_partsOf_2 b_0 k (x_l0 + 1) (r1_l1.set 1 (nd_impl_partsOf_2 b_0 x_l0 r1_l1))) := by simp only [lo_impl_partsOf_2, h_0, cond_true]
      rw [e, ih (x_l0 + 1) (r1_l1.set 1 (nd_impl_partsOf_2 b_0 x_l0 r1_l1)) (by first | assumption | omega | (have q := hp5.w; first | omega | (have q := okBd_spr hp5 (by assumption) h_0; omega) | (have q := impl_hingesOf_len _ hp5.e; omega) | (simp; done)) | (simp_all <;> omega))]; simp
    | false =>
      have e : lo_impl_partsOf_2 b_0 (k + 1) x_l0 r1_l1 = r1_l1 := by simp only [lo_impl_partsOf_2, h_0, cond_false]
      first | (rw [e]; done) | (rw [e]; rfl)

def lr_impl_partsOf_2_1 (b_0 : GBody) : (List Nat) := (lo_impl_partsOf_2 b_0 (((b_0.Mesh.Triangles.length : Int) - 0).toNat + 1) 0 (lr_impl_partsOf_1_0 b_0))

@[simp] theorem len_lr_impl_partsOf_2_1_0 (b_0 : GBody) : (lr_impl_partsOf_2_1 b_0).length = ((lr_impl_partsOf_1_0 b_0) : (List Nat)).length := ln_impl_partsOf_2_0 b_0 (((b_0.Mesh.Triangles.length : Int) - 0).toNat + 1) 0 (lr_impl_partsOf_1_0 b_0) (by first | exact Nat.lt_succ_self _ | simp)

def nd_impl_partsOf_4 (b_0 : GBody) (x_l0 : Int) : Nat := (v_impl_InnerOf (v_impl_bendOf b_0.Mesh ((v_impl_hingesOf b_0.Mesh).getD x_l0.toNat default)) (v_impl_bendOf b_0.Mesh ((v_impl_hingesOf b_0.Mesh).getD x_l0.toNat default)))

def lo_impl_partsOf_3 (b_0 : GBody) : Nat → Int → (List Nat) → (List Nat)
  | 0, _, _ => default
  | k + 1, x_l0, r1_l1 => (cond (decide (x_l0 < ((v_impl_hingesOf b_0.Mesh).length : Int)))
    (lo_impl_partsOf_3 b_0 k (x_l0 + 1) (r1_l1.set 2 (fop .add .f32 (r1_l1.getD 2 default) (fop .mul .f32 (fop .mul .f32 1056964608 b_0.Bend) (nd_impl_partsOf_4 b_0 x_l0)))))
    r1_l1)

def ls_impl_partsOf_3 (b_0 : GBody) (r : (List Nat)) : Ex × St := ((.exit 4), ⟨[.agg [.sl (b_0.Mesh.Places.map GVector.cells), .sl (b_0.Mesh.Triangles.map (cL (cI .i64))), .sl (b_0.Springs.map GSpring.cells), .f .f32 b_0.Film, .f .f32 b_0.Bend, .sl (b_0.Weights.map (cF .f32)), .f .f32 b_0.Fall.X, .f .f32 b_0.Fall.Y, .f .f32 b_0.Fall.Z], .ptr 0 0 0, .nils, .own 1, .any, .any, .any, .any, .any, .any, .any, .any, .any, .any, .own 1, .ptr 0 0 2, .sl (b_0.Springs.map GSpring.cells), .any, .any, .any, .any, .any, .any, .any, .any, .any, .any, .any, .any, .any, .any, .any, .any, .any, .any, .any, .any, .any, .any, .any, .any, .any, .ptr 0 0 0, .ptr 0 0 1, .sl (b_0.Mesh.Triangles.map (cL (cI .i64))), .any, .any, .any, .any, .any, .any, .any, .any, .any, .any, .any, .any, .any, .any, .any, .any, .any, .any, .any, .any, .ptr 0 0 0, .agg [.sl (b_0.Mesh.Places.map GVector.cells), .sl (b_0.Mesh.Triangles.map (cL (cI .i64)))], .own 2, .any, .any, .any, .any, .any, .any, .any, .any, .any, .any, .any, .any, .any, .any, .any, .any, .any, .any, .any, .any, .any, .any, .any, .any, .any, .any, .any, .any, .any, .any, .any, .any, .any, .any, .any, .any, .any, .any, .any, .any, .any, .any, .any, .any, .any, .any, .any, .any, .any], [.box 69 [.sl (b_0.Mesh.Places.map GVector.cells), .sl (b_0.Mesh.Triangles.map (cL (cI .i64))), .sl (b_0.Springs.map GSpring.cells), .f .f32 b_0.Film, .f .f32 b_0.Bend, .sl (b_0.Weights.map (cF .f32)), .f .f32 b_0.Fall.X, .f .f32 b_0.Fall.Y, .f .f32 b_0.Fall.Z], .vec 38 1 (r.map (cF .f32)) false, .nest 52 ((v_impl_hingesOf b_0.Mesh).map fun l => l.map (cI .i64)) false]⟩)

def hd_impl_partsOf_3 (b_0 : GBody) (x_l0 : Int) (r1_l1 : (List Nat)) : St := ⟨[.agg [.sl (b_0.Mesh.Places.map GVector.cells), .sl (b_0.Mesh.Triangles.map (cL (cI .i64))), .sl (b_0.Springs.map GSpring.cells), .f .f32 b_0.Film, .f .f32 b_0.Bend, .sl (b_0.Weights.map (cF .f32)), .f .f32 b_0.Fall.X, .f .f32 b_0.Fall.Y, .f .f32 b_0.Fall.Z], .ptr 0 0 0, .nils, .own 1, .any, .any, .any, .any, .any, .any, .any, .any, .any, .any, .own 1, .ptr 0 0 2, .sl (b_0.Springs.map GSpring.cells), .any, .any, .any, .any, .any, .any, .any, .any, .any, .any, .any, .any, .any, .any, .any, .any, .any, .any, .any, .any, .any, .any, .any, .any, .any, .ptr 0 0 0, .ptr 0 0 1, .sl (b_0.Mesh.Triangles.map (cL (cI .i64))), .any, .any, .any, .any, .any, .any, .any, .any, .any, .any, .any, .any, .any, .any, .any, .any, .any, .any, .any, .any, .ptr 0 0 0, .agg [.sl (b_0.Mesh.Places.map GVector.cells), .sl (b_0.Mesh.Triangles.map (cL (cI .i64)))], .own 2, .i .i64 ((v_impl_hingesOf b_0.Mesh).length : Int), .i .i64 x_l0, .any, .any, .any, .any, .any, .any, .any, .any, .any, .any, .any, .any, .any, .any, .any, .any, .any, .any, .any, .any, .any, .any, .any, .any, .any, .any, .any, .any, .any, .any, .any, .any, .any, .any, .any, .any, .any, .any, .any, .any, .any, .any, .any, .any, .any, .any, .any], [.box 69 [.sl (b_0.Mesh.Places.map GVector.cells), .sl (b_0.Mesh.Triangles.map (cL (cI .i64))), .sl (b_0.Springs.map GSpring.cells), .f .f32 b_0.Film, .f .f32 b_0.Bend, .sl (b_0.Weights.map (cF .f32)), .f .f32 b_0.Fall.X, .f .f32 b_0.Fall.Y, .f .f32 b_0.Fall.Z], .vec 38 1 (r1_l1.map (cF .f32)) false, .nest 52 ((v_impl_hingesOf b_0.Mesh).map fun l => l.map (cI .i64)) false]⟩

def mk_impl_partsOf_3_0 : List Bool := [true, true, true, true, false, false, false, false, false, false, false, false, false, false, true, true, true, false, false, false, false, false, false, false, false, false, false, false, false, false, false, false, false, false, false, false, false, false, false, false, false, false, true, true, true, false, false, false, false, false, false, false, false, false, false, false, false, false, false, false, false, false, false, false, false, true, true, true, true, true, false, false, false, false, false, false, false, false, false, false, false, false, false, false, false, false, false, false, false, false, false, false, false, false, false, false, false, false, false, false, false, false, false, false, false, false, false, false, false, false, false, false, false, false, false, false, false]

def mk_impl_partsOf_3_1 : List Bool := [true, true, true, true, false, false, false, false, false, false, false, false, false, false, true, true, true, false, false, false, false, false, false, false, false, false, false, false, false, false, false, false, false, false, false, false, false, false, false, false, false, false, true, true, true, false, false, false, false, false, false, false, false, false, false, false, false, false, false, false, false, false, false, false, false, true, true, true, false, false, false, false, false, false, false, false, false, false, false, false, false, false, false, false, false, false, false, false, false, false, false, false, false, false, false, false, false, false, false, false, false, false, false, false, false, false, false, false, false, false, false, false, false, false, false, false, false]

theorem lp_impl_partsOf_3 (b_0 : GBody) (hp0 : b_0.Mesh.Places.length ≤ 1073741824) (hp1 : b_0.Mesh.Triangles.length ≤ 1073741824) (hp2 : ∀ t ∈ b_0.Mesh.Triangles, t.length ≤ 1073741824) (hp3 : b_0.Springs.length ≤ 1073741824) (hp4 : b_0.Weights.length ≤ 1073741824) (hp5 : OkBd b_0) : ∀ (k : Nat) (x_l0 : Int) (r1_l1 : (List Nat)) (hv_impl_partsOf_3_0 : 0 ≤ x_l0) (hv_impl_partsOf_3_1 : r1_l1.length = (lr_impl_partsOf_2_1 b_0).length) (hk : (((v_impl_hingesOf b_0.Mesh).length : Int) - x_l0).toNat < k), Lp prog 0 (sub (bodyOf f102) [1, 1, 1, 1, 0, 1, 0, 0]) (hd_impl_partsOf_3 b_0 x_l0 r1_l1) (ls_impl_partsOf_3 b_0 (lo_impl_partsOf_3 b_0 k x_l0 r1_l1)).1 (ls_impl_partsOf_3 b_0 (lo_impl_partsOf_3 b_0 k x_l0 r1_l1)).2 := by
 intro k
 induction k with
 | zero => intro x_l0 r1_l1 hv_impl_partsOf_3_0 hv_impl_partsOf_3_1 hk; exact absurd hk (Nat.not_lt_zero _)
 | succ k ih =>
  intro x_l0 r1_l1 hv_impl_partsOf_3_0 hv_impl_partsOf_3_1 hk
  cases h_0 : (decide (x_l0 < ((v_impl_hingesOf b_0.Mesh).length : Int))) with
  | true =>
   have gh_0 := of_decide_eq_true h_0
   have y_0 : (0 : Int) ≤ x_l0 := (by first | assumption | omega | (have q := hp5.w; first | omega | (have q := okBd_spr hp5 (by assumption) h_0; omega) | (have q := impl_hingesOf_len _ hp5.e; omega) | (simp; done)) | (simp_all <;> omega))
   have y_1 : Int.toNat x_l0 < (v_impl_hingesOf b_0.Mesh).length := (by first | assumption | omega | (have q := hp5.w; first | omega | (have q := okBd_spr hp5 (by assumption) h_0; omega) | (have q := impl_hingesOf_len _ hp5.e; omega) | (simp; done)) | (simp_all <;> omega))
   have y_2 : x_l0.toNat < (v_impl_hingesOf b_0.Mesh).length := (by first | assumption | omega | (have q := hp5.w; first | omega | (have q := okBd_spr hp5 (by assumption) h_0; omega) | (have q := impl_hingesOf_len _ hp5.e; omega) | (simp; done)) | (simp_all <;> omega))
   have y_3 : ((v_impl_hingesOf b_0.Mesh).getD x_l0.toNat default).length ≤ 1073741824 := (by first | assumption | omega | exact hp5.e | (have q := okBd_spr hp5 (by assumption) h_0; omega) | exact tri3 hp5.e (by assumption) h_0 | exact tri3L hp5.e (by assumption) h_0 | exact hin4i hp5.e (by assumption) h_0 | exact hin4iL hp5.e (by assumption) h_0)
   have y_4 : ((v_impl_hingesOf b_0.Mesh).getD x_l0.toNat default).length = 4 ∧ ∀ x ∈ ((v_impl_hingesOf b_0.Mesh).getD x_l0.toNat default), 0 ≤ x ∧ x < (b_0.Mesh.Places.length : Int) := (by first | assumption | omega | exact hp5.e | (have q := okBd_spr hp5 (by assumption) h_0; omega) | exact tri3 hp5.e (by assumption) h_0 | exact tri3L hp5.e (by assumption) h_0 | exact hin4i hp5.e (by assumption) h_0 | exact hin4iL hp5.e (by assumption) h_0)
   have y_5 : (0 : Int) ≤ 2 := (by first | assumption | omega | (have q := hp5.w; first | omega | (have q := okBd_spr hp5 (by assumption) h_0; omega) | (have q := impl_hingesOf_len _ hp5.e; omega) | (simp; done)) | (simp_all <;> omega))
   have y_6 : 2 < (r1_l1.length : Int) := (by first | assumption | omega | (have q := hp5.w; first | omega | (have q := okBd_spr hp5 (by assumption) h_0; omega) | (have q := impl_hingesOf_len _ hp5.e; omega) | (simp; done)) | (simp_all <;> omega))
   have y_7 : 2 < r1_l1.length := (by first | assumption | omega | (have q := hp5.w; first | omega | (have q := okBd_spr hp5 (by assumption) h_0; omega) | (have q := impl_hingesOf_len _ hp5.e; omega) | (simp; done)) | (simp_all <;> omega))
   have y_8 : (-9223372036854775808 : Int) ≤ (x_l0 + 1) := (by first | assumption | omega | (have q := hp5.w; first | omega | (have q := okBd_spr hp5 (by assumption) h_0; omega) | (have q := impl_hingesOf_len _ hp5.e; omega) | (simp; done)) | (simp_all <;> omega))
   have y_9 : (x_l0 + 1) ≤ (9223372036854775807 : Int) := (by first | assumption | omega | (have q := hp5.w; first | omega | (have q := okBd_spr hp5 (by assumption) h_0; omega) | (have q := impl_hingesOf_len _ hp5.e; omega) | (simp; done)) | (simp_all <;> omega))
   have e : lo_impl_partsOf_3 b_0 (k + 1) x_l0 r1_l1 = (lo_impl_partsOf_3 b_0 k (x_l0 + 1) (r1_l1.set 2 (fop .add .f32 (r1_l1.getD 2 default) (fop .mul .f32 (fop .mul .f32 1056964608 b_0.Bend) (nd_impl_partsOf_4 b_0 x_l0))))) := by simp only [lo_impl_partsOf_3, h_0, cond_true]
   rw [e]
   exact nextS E0Ok hMixed [] mk_impl_partsOf_3_0 [0, 1, 2] (⟨[.agg [.sl (b_0.Mesh.Places.map GVector.cells), .sl (b_0.Mesh.Triangles.map (cL (cI .i64))), .sl (b_0.Springs.map GSpring.cells), .f .f32 b_0.Film, .f .f32 b_0.Bend, .sl (b_0.Weights.map (cF .f32)), .f .f32 b_0.Fall.X, .f .f32 b_0.Fall.Y, .f .f32 b_0.Fall.Z], .ptr 0 0 0, .nils, .own 1, .any, .any, .any, .any, .any, .any, .any, .any, .any, .any, .own 1, .ptr 0 0 2, .sl (b_0.Springs.map GSpring.cells), .any, .any, .any, .any, .any, .any, .any, .any, .any, .any, .any, .any, .any, .any, .any, .any, .any, .any, .any, .any, .any, .any, .any, .any, .any, .ptr 0 0 0, .ptr 0 0 1, .sl (b_0.Mesh.Triangles.map (cL (cI .i64))), .any, .any, .any, .any, .any, .any, .any, .any, .any, .any, .any, .any, .any, .any, .any, .any, .any, .any, .any, .any, .ptr 0 0 0, .agg [.sl (b_0.Mesh.Places.map GVector.cells), .sl (b_0.Mesh.Triangles.map (cL (cI .i64)))], .own 2, .i .i64 ((v_impl_hingesOf b_0.Mesh).length : Int), .i .i64 (x_l0 + 1), .any, .any, .any, .any, .any, .any, .any, .any, .any, .any, .any, .any, .any, .any, .any, .any, .any, .any, .any, .any, .any, .any, .any, .any, .any, .any, .any, .any, .any, .any, .any, .any, .any, .any, .any, .any, .any, .any, .any, .any, .any, .any, .any, .any, .any, .any, .any], [.box 69 [.sl (b_0.Mesh.Places.map GVector.cells), .sl (b_0.Mesh.Triangles.map (cL (cI .i64))), .sl (b_0.Springs.map GSpring.cells), .f .f32 b_0.Film, .f .f32 b_0.Bend, .sl (b_0.Weights.map (cF .f32)), .f .f32 b_0.Fall.X, .f .f32 b_0.Fall.Y, .f .f32 b_0.Fall.Z], .vec 38 1 ((r1_l1.map (cF .f32)).set 2 [.f .f32 (fop .add .f32 (r1_l1.getD 2 default) (fop .mul .f32 (fop .mul .f32 1056964608 b_0.Bend) (nd_impl_partsOf_4 b_0 x_l0)))]) false, .nest 52 ((v_impl_hingesOf b_0.Mesh).map fun l => l.map (cI .i64)) false]⟩) (sB h_0 <| sC (nestix (c := (cI .i64)) (l := (v_impl_hingesOf b_0.Mesh)) (i := x_l0) y_0 y_1) <| sC (nestlt (c := (cI .i64)) (l := (v_impl_hingesOf b_0.Mesh)) y_2) <| sF (Fn.castA (args' := [.agg [.sl (b_0.Mesh.Places.map GVector.cells), .sl (b_0.Mesh.Triangles.map (cL (cI .i64)))], .sl (((v_impl_hingesOf b_0.Mesh).map fun l => l.map (cI .i64)).getD x_l0.toNat [])]) (t_impl_bendOf b_0.Mesh ((v_impl_hingesOf b_0.Mesh).getD x_l0.toNat default) hp0 hp1 hp2 y_3 y_4) (by first | (simp [cI]; done) | (simp [cI]; rfl))) <| sK [10, 10] <| sX (cF .f32) r1_l1 2 y_5 y_6 <| sV (cF .f32) r1_l1 2 y_7 <| sF (t_impl_InnerOf (v_impl_bendOf b_0.Mesh ((v_impl_hingesOf b_0.Mesh).getD x_l0.toNat default)) (v_impl_bendOf b_0.Mesh ((v_impl_hingesOf b_0.Mesh).getD x_l0.toNat default))) <| sX (cF .f32) r1_l1 2 y_5 y_6 <| sC (maplt (c := (cF .f32)) (l := r1_l1) y_7) <| sI (x_l0 + 1) y_8 y_9 <| sN) (by kernel_rfl) (show _ = ⟨[.agg [.sl (b_0.Mesh.Places.map GVector.cells), .sl (b_0.Mesh.Triangles.map (cL (cI .i64))), .sl (b_0.Springs.map GSpring.cells), .f .f32 b_0.Film, .f .f32 b_0.Bend, .sl (b_0.Weights.map (cF .f32)), .f .f32 b_0.Fall.X, .f .f32 b_0.Fall.Y, .f .f32 b_0.Fall.Z], .ptr 0 0 0, .nils, .own 1, .any, .any, .any, .any, .any, .any, .any, .any, .any, .any, .own 1, .ptr 0 0 2, .sl (b_0.Springs.map GSpring.cells), .any, .any, .any, .any, .any, .any, .any, .any, .any, .any, .any, .any, .any, .any, .any, .any, .any, .any, .any, .any, .any, .any, .any, .any, .any, .ptr 0 0 0, .ptr 0 0 1, .sl (b_0.Mesh.Triangles.map (cL (cI .i64))), .any, .any, .any, .any, .any, .any, .any, .any, .any, .any, .any, .any, .any, .any, .any, .any, .any, .any, .any, .any, .ptr 0 0 0, .agg [.sl (b_0.Mesh.Places.map GVector.cells), .sl (b_0.Mesh.Triangles.map (cL (cI .i64)))], .own 2, .i .i64 ((v_impl_hingesOf b_0.Mesh).length : Int), .i .i64 (x_l0 + 1), .any, .any, .any, .any, .any, .any, .any, .any, .any, .any, .any, .any, .any, .any, .any, .any, .any, .any, .any, .any, .any, .any, .any, .any, .any, .any, .any, .any, .any, .any, .any, .any, .any, .any, .any, .any, .any, .any, .any, .any, .any, .any, .any, .any, .any, .any, .any], [.box 69 [.sl (b_0.Mesh.Places.map GVector.cells), .sl (b_0.Mesh.Triangles.map (cL (cI .i64))), .sl (b_0.Springs.map GSpring.cells), .f .f32 b_0.Film, .f .f32 b_0.Bend, .sl (b_0.Weights.map (cF .f32)), .f .f32 b_0.Fall.X, .f .f32 b_0.Fall.Y, .f .f32 b_0.Fall.Z], .vec 38 1 ((r1_l1.set 2 (fop .add .f32 (r1_l1.getD 2 default) (fop .mul .f32 (fop .mul .f32 1056964608 b_0.Bend) (nd_impl_partsOf_4 b_0 x_l0)))).map (cF .f32)) false, .nest 52 ((v_impl_hingesOf b_0.Mesh).map fun l => l.map (cI .i64)) false]⟩ from (by simp [List.map_set, cF])) (ih (x_l0 + 1) (r1_l1.set 2 (fop .add .f32 (r1_l1.getD 2 default) (fop .mul .f32 (fop .mul .f32 1056964608 b_0.Bend) (nd_impl_partsOf_4 b_0 x_l0)))) (show 0 ≤ (x_l0 + 1) from (by first | assumption | omega | (have q := hp5.w; first | omega | (have q := okBd_spr hp5 (by assumption) h_0; omega) | (have q := impl_hingesOf_len _ hp5.e; omega) | (simp; done)) | (simp_all <;> omega))) (show (r1_l1.set 2 (fop .add .f32 (r1_l1.getD 2 default) (fop .mul .f32 (fop .mul .f32 1056964608 b_0.Bend) (nd_impl_partsOf_4 b_0 x_l0)))).length = (lr_impl_partsOf_2_1 b_0).length from (by first | assumption | omega | (have q := hp5.w; first | omega | (have q := okBd_spr hp5 (by assumption) h_0; omega) | (have q := impl_hingesOf_len _ hp5.e; omega) | (simp; done)) | (simp_all <;> omega))) (by first | assumption | omega | (have q := hp5.w; first | omega | (have q := okBd_spr hp5 (by assumption) h_0; omega) | (have q := impl_hingesOf_len _ hp5.e; omega) | (simp; done)) | (simp_all <;> omega)))
  | false =>
   have gh_0 := of_decide_eq_false h_0
   have e : lo_impl_partsOf_3 b_0 (k + 1) x_l0 r1_l1 = r1_l1 := by simp only [lo_impl_partsOf_3, h_0, cond_false]
   rw [e]
   exact outR (e := (.exit 4)) E0Ok hMixed [] mk_impl_partsOf_3_1 [0, 1, 2] (sB h_0 <| sN) (by kernel_rfl) (by intro h; cases h)

theorem ln_impl_partsOf_3_0 (b_0 : GBody) : ∀ (k : Nat) (x_l0 : Int) (r1_l1 : (List Nat)) (hk : (((v_impl_hingesOf b_0.Mesh).length : Int) - x_l0).toNat < k), (lo_impl_partsOf_3 b_0 k x_l0 r1_l1).length = r1_l1.length := by
  intro k
  induction k with
  | zero => intro x_l0 r1_l1 hk; exact absurd hk (Nat.not_lt_zero _)
  | succ k ih =>
    intro x_l0 r1_l1 hk
    cases h_0 : (decide (x_l0 < ((v_impl_hingesOf b_0.Mesh).length : Int))) with
    | true =>
      have e : lo_impl_partsOf_3 b_0 (k + 1) x_l0 r1_l1 = (lo_impl_partsOf_3 b_0 k (x_l0 + 1) (r1_l1.set 2 (fop .add .f32 (r1_l1.getD 2 default) (fop .mul .f32 (fop .mul .f32 1056964608 b_0.Bend) (nd_impl_partsOf_4 b_0 x_l0))))) := by simp only [lo_impl_partsOf_3, h_0, cond_true]
      rw [e, ih (x_l0 + 1) (r1_l1.set 2 (fop .add .f32 (r1_l1.getD 2 default) (fop .mul .f32 (fop .mul .f32 1056964608 b_0.Bend) (nd_impl_partsOf_4 b_0 x_l0)))) (by first | assumption | omega | (have q := hp5.w; first | omega | (have q := okBd_spr hp5 (by assumption) h_0; omega) | (have q := impl_hingesOf_len _ hp5.e; omega) | (simp; done)) | (simp_all <;> omega))]; simp
    | false =>
      have e : lo_impl_partsOf_3 b_0 (k + 1) x_l0 r1_l1 = r1_l1 := by simp only [lo_impl_partsOf_3, h_0, cond_false]
      first | (rw [e]; done) | (rw [e]; rfl)

def lr_impl_partsOf_3_2 (b_0 : GBody) : (List Nat) := (lo_impl_partsOf_3 b_0 ((((v_impl_hingesOf b_0.Mesh).length : Int) - 0).toNat + 1) 0 (lr_impl_partsOf_2_1 b_0))

@[simp] theorem len_lr_impl_partsOf_3_2_0 (b_0 : GBody) : (lr_impl_partsOf_3_2 b_0).length = ((lr_impl_partsOf_2_1 b_0) : (List Nat)).length := ln_impl_partsOf_3_0 b_0 ((((v_impl_hingesOf b_0.Mesh).length : Int) - 0).toNat + 1) 0 (lr_impl_partsOf_2_1 b_0) (by first | exact Nat.lt_succ_self _ | simp)

def nd_impl_partsOf_6 (b_0 : GBody) (x_l0 : Int) (r1_l1 : (List Nat)) : Nat := (fop .add .f32 (r1_l1.getD 3 default) (fneg .f32 (fop .mul .f32 (b_0.Weights.getD x_l0.toNat default) (v_impl_InnerOf b_0.Fall (b_0.Mesh.Places.getD x_l0.toNat default)))))

def lo_impl_partsOf_4 (b_0 : GBody) : Nat → Int → (List Nat) → (List Nat)
  | 0, _, _ => default
  | k + 1, x_l0, r1_l1 => (cond (decide (x_l0 < (b_0.Mesh.Places.length : Int)))
    (lo_impl_partsOf_4 b_0 k (x_l0 + 1) (r1_l1.set 3 (nd_impl_partsOf_6 b_0 x_l0 r1_l1)))
    r1_l1)

def ls_impl_partsOf_4 (b_0 : GBody) (r : (List Nat)) : Ex × St := ((.exit 6), ⟨[.agg [.sl (b_0.Mesh.Places.map GVector.cells), .sl (b_0.Mesh.Triangles.map (cL (cI .i64))), .sl (b_0.Springs.map GSpring.cells), .f .f32 b_0.Film, .f .f32 b_0.Bend, .sl (b_0.Weights.map (cF .f32)), .f .f32 b_0.Fall.X, .f .f32 b_0.Fall.Y, .f .f32 b_0.Fall.Z], .ptr 0 0 0, .nils, .own 1, .any, .any, .any, .any, .any, .any, .any, .any, .any, .any, .own 1, .ptr 0 0 2, .sl (b_0.Springs.map GSpring.cells), .any, .any, .any, .any, .any, .any, .any, .any, .any, .any, .any, .any, .any, .any, .any, .any, .any, .any, .any, .any, .any, .any, .any, .any, .any, .ptr 0 0 0, .ptr 0 0 1, .sl (b_0.Mesh.Triangles.map (cL (cI .i64))), .any, .any, .any, .any, .any, .any, .any, .any, .any, .any, .any, .any, .any, .any, .any, .any, .any, .any, .any, .any, .ptr 0 0 0, .agg [.sl (b_0.Mesh.Places.map GVector.cells), .sl (b_0.Mesh.Triangles.map (cL (cI .i64)))], .own 2, .any, .any, .any, .any, .any, .any, .any, .any, .any, .any, .any, .any, .any, .any, .any, .any, .any, .any, .any, .any, .any, .any, .ptr 0 0 0, .ptr 0 0 0, .sl (b_0.Mesh.Places.map GVector.cells), .any, .any, .any, .any, .any, .any, .any, .any, .any, .any, .any, .any, .any, .any, .any, .any, .any, .any, .any, .any, .any, .any, .any, .any], [.box 69 [.sl (b_0.Mesh.Places.map GVector.cells), .sl (b_0.Mesh.Triangles.map (cL (cI .i64))), .sl (b_0.Springs.map GSpring.cells), .f .f32 b_0.Film, .f .f32 b_0.Bend, .sl (b_0.Weights.map (cF .f32)), .f .f32 b_0.Fall.X, .f .f32 b_0.Fall.Y, .f .f32 b_0.Fall.Z], .vec 38 1 (r.map (cF .f32)) false, .nest 52 ((v_impl_hingesOf b_0.Mesh).map fun l => l.map (cI .i64)) false]⟩)

def hd_impl_partsOf_4 (b_0 : GBody) (x_l0 : Int) (r1_l1 : (List Nat)) : St := ⟨[.agg [.sl (b_0.Mesh.Places.map GVector.cells), .sl (b_0.Mesh.Triangles.map (cL (cI .i64))), .sl (b_0.Springs.map GSpring.cells), .f .f32 b_0.Film, .f .f32 b_0.Bend, .sl (b_0.Weights.map (cF .f32)), .f .f32 b_0.Fall.X, .f .f32 b_0.Fall.Y, .f .f32 b_0.Fall.Z], .ptr 0 0 0, .nils, .own 1, .any, .any, .any, .any, .any, .any, .any, .any, .any, .any, .own 1, .ptr 0 0 2, .sl (b_0.Springs.map GSpring.cells), .any, .any, .any, .any, .any, .any, .any, .any, .any, .any, .any, .any, .any, .any, .any, .any, .any, .any, .any, .any, .any, .any, .any, .any, .any, .ptr 0 0 0, .ptr 0 0 1, .sl (b_0.Mesh.Triangles.map (cL (cI .i64))), .any, .any, .any, .any, .any, .any, .any, .any, .any, .any, .any, .any, .any, .any, .any, .any, .any, .any, .any, .any, .ptr 0 0 0, .agg [.sl (b_0.Mesh.Places.map GVector.cells), .sl (b_0.Mesh.Triangles.map (cL (cI .i64)))], .own 2, .any, .any, .any, .any, .any, .any, .any, .any, .any, .any, .any, .any, .any, .any, .any, .any, .any, .any, .any, .any, .any, .any, .ptr 0 0 0, .ptr 0 0 0, .sl (b_0.Mesh.Places.map GVector.cells), .i .i64 (b_0.Mesh.Places.length : Int), .i .i64 x_l0, .any, .any, .any, .any, .any, .any, .any, .any, .any, .any, .any, .any, .any, .any, .any, .any, .any, .any, .any, .any, .any, .any], [.box 69 [.sl (b_0.Mesh.Places.map GVector.cells), .sl (b_0.Mesh.Triangles.map (cL (cI .i64))), .sl (b_0.Springs.map GSpring.cells), .f .f32 b_0.Film, .f .f32 b_0.Bend, .sl (b_0.Weights.map (cF .f32)), .f .f32 b_0.Fall.X, .f .f32 b_0.Fall.Y, .f .f32 b_0.Fall.Z], .vec 38 1 (r1_l1.map (cF .f32)) false, .nest 52 ((v_impl_hingesOf b_0.Mesh).map fun l => l.map (cI .i64)) false]⟩

def mk_impl_partsOf_4_0 : List Bool := [true, true, true, true, false, false, false, false, false, false, false, false, false, false, true, true, true, false, false, false, false, false, false, false, false, false, false, false, false, false, false, false, false, false, false, false, false, false, false, false, false, false, true, true, true, false, false, false, false, false, false, false, false, false, false, false, false, false, false, false, false, false, false, false, false, true, true, true, false, false, false, false, false, false, false, false, false, false, false, false, false, false, false, false, false, false, false, false, false, false, true, true, true, true, true, false, false, false, false, false, false, false, false, false, false, false, false, false, false, false, false, false, false, false, false, false, false]

def mk_impl_partsOf_4_1 : List Bool := [true, true, true, true, false, false, false, false, false, false, false, false, false, false, true, true, true, false, false, false, false, false, false, false, false, false, false, false, false, false, false, false, false, false, false, false, false, false, false, false, false, false, true, true, true, false, false, false, false, false, false, false, false, false, false, false, false, false, false, false, false, false, false, false, false, true, true, true, false, false, false, false, false, false, false, false, false, false, false, false, false, false, false, false, false, false, false, false, false, false, true, true, true, false, false, false, false, false, false, false, false, false, false, false, false, false, false, false, false, false, false, false, false, false, false, false, false]

theorem lp_impl_partsOf_4 (b_0 : GBody) (hp0 : b_0.Mesh.Places.length ≤ 1073741824) (hp1 : b_0.Mesh.Triangles.length ≤ 1073741824) (hp2 : ∀ t ∈ b_0.Mesh.Triangles, t.length ≤ 1073741824) (hp3 : b_0.Springs.length ≤ 1073741824) (hp4 : b_0.Weights.length ≤ 1073741824) (hp5 : OkBd b_0) : ∀ (k : Nat) (x_l0 : Int) (r1_l1 : (List Nat)) (hv_impl_partsOf_4_0 : 0 ≤ x_l0) (hv_impl_partsOf_4_1 : r1_l1.length = (lr_impl_partsOf_3_2 b_0).length) (hk : ((b_0.Mesh.Places.length : Int) - x_l0).toNat < k), Lp prog 0 (sub (bodyOf f102) [1, 1, 1, 1, 1, 0, 1, 0, 0]) (hd_impl_partsOf_4 b_0 x_l0 r1_l1) (ls_impl_partsOf_4 b_0 (lo_impl_partsOf_4 b_0 k x_l0 r1_l1)).1 (ls_impl_partsOf_4 b_0 (lo_impl_partsOf_4 b_0 k x_l0 r1_l1)).2 := by
 intro k
 induction k with
 | zero => intro x_l0 r1_l1 hv_impl_partsOf_4_0 hv_impl_partsOf_4_1 hk; exact absurd hk (Nat.not_lt_zero _)
 | succ k ih =>
  intro x_l0 r1_l1 hv_impl_partsOf_4_0 hv_impl_partsOf_4_1 hk
  cases h_0 : (decide (x_l0 < (b_0.Mesh.Places.length : Int))) with
  | true =>
   have gh_0 := of_decide_eq_true h_0
   have y_0 : (0 : Int) ≤ x_l0 := (by first | assumption | omega | (have q := hp5.w; first | omega | (have q := okBd_spr hp5 (by assumption) h_0; omega) | (have q := impl_hingesOf_len _ hp5.e; omega) | (simp; done)) | (simp_all <;> omega))
   have y_1 : x_l0 < (b_0.Mesh.Places.length : Int) := (by first | assumption | omega | (have q := hp5.w; first | omega | (have q := okBd_spr hp5 (by assumption) h_0; omega) | (have q := impl_hingesOf_len _ hp5.e; omega) | (simp; done)) | (simp_all <;> omega))
   have y_2 : (0 : Int) ≤ 3 := (by first | assumption | omega | (have q := hp5.w; first | omega | (have q := okBd_spr hp5 (by assumption) h_0; omega) | (have q := impl_hingesOf_len _ hp5.e; omega) | (simp; done)) | (simp_all <;> omega))
   have y_3 : 3 < (r1_l1.length : Int) := (by first | assumption | omega | (have q := hp5.w; first | omega | (have q := okBd_spr hp5 (by assumption) h_0; omega) | (have q := impl_hingesOf_len _ hp5.e; omega) | (simp; done)) | (simp_all <;> omega))
   have y_4 : 3 < r1_l1.length := (by first | assumption | omega | (have q := hp5.w; first | omega | (have q := okBd_spr hp5 (by assumption) h_0; omega) | (have q := impl_hingesOf_len _ hp5.e; omega) | (simp; done)) | (simp_all <;> omega))
   have y_5 : x_l0 < (b_0.Weights.length : Int) := (by first | assumption | omega | (have q := hp5.w; first | omega | (have q := okBd_spr hp5 (by assumption) h_0; omega) | (have q := impl_hingesOf_len _ hp5.e; omega) | (simp; done)) | (simp_all <;> omega))
   have y_6 : (-9223372036854775808 : Int) ≤ (x_l0 + 1) := (by first | assumption | omega | (have q := hp5.w; first | omega | (have q := okBd_spr hp5 (by assumption) h_0; omega) | (have q := impl_hingesOf_len _ hp5.e; omega) | (simp; done)) | (simp_all <;> omega))
   have y_7 : (x_l0 + 1) ≤ (9223372036854775807 : Int) := (by first | assumption | omega | (have q := hp5.w; first | omega | (have q := okBd_spr hp5 (by assumption) h_0; omega) | (have q := impl_hingesOf_len _ hp5.e; omega) | (simp; done)) | (simp_all <;> omega))
   have e : lo_impl_partsOf_4 b_0 (k + 1) x_l0 r1_l1 = (lo_impl_partsOf_4 b_0 k (x_l0 + 1) (r1_l1.set 3 (nd_impl_partsOf_6 b_0 x_l0 r1_l1))) := by simp only [lo_impl_partsOf_4, h_0, cond_true]
   rw [e]
   exact nextS E0Ok hMixed [] mk_impl_partsOf_4_0 [0, 1, 2] (⟨[.agg [.sl (b_0.Mesh.Places.map GVector.cells), .sl (b_0.Mesh.Triangles.map (cL (cI .i64))), .sl (b_0.Springs.map GSpring.cells), .f .f32 b_0.Film, .f .f32 b_0.Bend, .sl (b_0.Weights.map (cF .f32)), .f .f32 b_0.Fall.X, .f .f32 b_0.Fall.Y, .f .f32 b_0.Fall.Z], .ptr 0 0 0, .nils, .own 1, .any, .any, .any, .any, .any, .any, .any, .any, .any, .any, .own 1, .ptr 0 0 2, .sl (b_0.Springs.map GSpring.cells), .any, .any, .any, .any, .any, .any, .any, .any, .any, .any, .any, .any, .any, .any, .any, .any, .any, .any, .any, .any, .any, .any, .any, .any, .any, .ptr 0 0 0, .ptr 0 0 1, .sl (b_0.Mesh.Triangles.map (cL (cI .i64))), .any, .any, .any, .any, .any, .any, .any, .any, .any, .any, .any, .any, .any, .any, .any, .any, .any, .any, .any, .any, .ptr 0 0 0, .agg [.sl (b_0.Mesh.Places.map GVector.cells), .sl (b_0.Mesh.Triangles.map (cL (cI .i64)))], .own 2, .any, .any, .any, .any, .any, .any, .any, .any, .any, .any, .any, .any, .any, .any, .any, .any, .any, .any, .any, .any, .any, .any, .ptr 0 0 0, .ptr 0 0 0, .sl (b_0.Mesh.Places.map GVector.cells), .i .i64 (b_0.Mesh.Places.length : Int), .i .i64 (x_l0 + 1), .any, .any, .any, .any, .any, .any, .any, .any, .any, .any, .any, .any, .any, .any, .any, .any, .any, .any, .any, .any, .any, .any], [.box 69 [.sl (b_0.Mesh.Places.map GVector.cells), .sl (b_0.Mesh.Triangles.map (cL (cI .i64))), .sl (b_0.Springs.map GSpring.cells), .f .f32 b_0.Film, .f .f32 b_0.Bend, .sl (b_0.Weights.map (cF .f32)), .f .f32 b_0.Fall.X, .f .f32 b_0.Fall.Y, .f .f32 b_0.Fall.Z], .vec 38 1 ((r1_l1.map (cF .f32)).set 3 [.f .f32 (nd_impl_partsOf_6 b_0 x_l0 r1_l1)]) false, .nest 52 ((v_impl_hingesOf b_0.Mesh).map fun l => l.map (cI .i64)) false]⟩) (sB h_0 <| sG GVector.cells b_0.Mesh.Places x_l0 y_0 y_1 <| sK [14, 14] <| sX (cF .f32) r1_l1 3 y_2 y_3 <| sV (cF .f32) r1_l1 3 y_4 <| sG (cF .f32) b_0.Weights x_l0 y_0 y_5 <| sF (t_impl_InnerOf b_0.Fall (b_0.Mesh.Places.getD x_l0.toNat default)) <| sX (cF .f32) r1_l1 3 y_2 y_3 <| sC (maplt (c := (cF .f32)) (l := r1_l1) y_4) <| sI (x_l0 + 1) y_6 y_7 <| sN) (by kernel_rfl) (show _ = ⟨[.agg [.sl (b_0.Mesh.Places.map GVector.cells), .sl (b_0.Mesh.Triangles.map (cL (cI .i64))), .sl (b_0.Springs.map GSpring.cells), .f .f32 b_0.Film, .f .f32 b_0.Bend, .sl (b_0.Weights.map (cF .f32)), .f .f32 b_0.Fall.X, .f .f32 b_0.Fall.Y, .f .f32 b_0.Fall.Z], .ptr 0 0 0, .nils, .own 1, .any, .any, .any, .any, .any, .any, .any, .any, .any, .any, .own 1, .ptr 0 0 2, .sl (b_0.Springs.map GSpring.cells), .any, .any, .any, .any, .any, .any, .any, .any, .any, .any, .any, .any, .any, .any, .any, .any, .any, .any, .any, .any, .any, .any, .any, .any, .any, .ptr 0 0 0, .ptr 0 0 1, .sl (b_0.Mesh.Triangles.map (cL (cI .i64))), .any, .any, .any, .any, .any, .any, .any, .any, .any, .any, .any, .any, .any, .any, .any, .any, .any, .any, .any, .any, .ptr 0 0 0, .agg [.sl (b_0.Mesh.Places.map GVector.cells), .sl (b_0.Mesh.Triangles.map (cL (cI .i64)))], .own 2, .any, .any, .any, .any, .any, .any, .any, .any, .any, .any, .any, .any, .any, .any, .any, .any, .any, .any, .any, .any, .any, .any, .ptr 0 0 0, .ptr 0 0 0, .sl (b_0.Mesh.Places.map GVector.cells), .i .i64 (b_0.Mesh.Places.length : Int), .i .i64 (x_l0 + 1), .any, .any, .any, .any, .any, .any, .any, .any, .any, .any, .any, .any, .any, .any, .any, .any, .any, .any, .any, .any, .any, .any], [.box 69 [.sl (b_0.Mesh.Places.map GVector.cells), .sl (b_0.Mesh.Triangles.map (cL (cI .i64))), .sl (b_0.Springs.map GSpring.cells), .f .f32 b_0.Film, .f .f32 b_0.Bend, .sl (b_0.Weights.map (cF .f32)), .f .f32 b_0.Fall.X, .f .f32 b_0.Fall.Y, .f .f32 b_0.Fall.Z], .vec 38 1 ((r1_l1.set 3 (nd_impl_partsOf_6 b_0 x_l0 r1_l1)).map (cF .f32)) false, .nest 52 ((v_impl_hingesOf b_0.Mesh).map fun l => l.map (cI .i64)) false]⟩ from (by simp [List.map_set, cF])) (ih (x_l0 + 1) (r1_l1.set 3 (nd_impl_partsOf_6 b_0 x_l0 r1_l1)) (show 0 ≤ (x_l0 + 1) from (by first | assumption | omega | (have q := hp5.w; first | omega | (have q := okBd_spr hp5 (by assumption) h_0; omega) | (have q := impl_hingesOf_len _ hp5.e; omega) | (simp; done)) | (simp_all <;> omega))) (show (r1_l1.set 3 (nd_impl_partsOf_6 b_0 x_l0 r1_l1)).length = (lr_impl_partsOf_3_2 b_0).length from (by first | assumption | omega | (have q := hp5.w; first | omega | (have q := okBd_spr hp5 (by assumption) h_0; omega) | (have q := impl_hingesOf_len _ hp5.e; omega) | (simp; done)) | (simp_all <;> omega))) (by first | assumption | omega | (have q := hp5.w; first | omega | (have q := okBd_spr hp5 (by assumption) h_0; omega) | (have q := impl_hingesOf_len _ hp5.e; omega) | (simp; done)) | (simp_all <;> omega)))
  | false =>
   have gh_0 := of_decide_eq_false h_0
   have e : lo_impl_partsOf_4 b_0 (k + 1) x_l0 r1_l1 = r1_l1 := by simp only [lo_impl_partsOf_4, h_0, cond_false]
   rw [e]
   exact outR (e := (.exit 6)) E0Ok hMixed [] mk_impl_partsOf_4_1 [0, 1, 2] (sB h_0 <| sN) (by kernel_rfl) (by intro h; cases h)

theorem ln_impl_partsOf_4_0 (b_0 : GBody) : ∀ (k : Nat) (x_l0 : Int) (r1_l1 : (List Nat)) (hk : ((b_0.Mesh.Places.length : Int) - x_l0).toNat < k), (lo_impl_partsOf_4 b_0 k x_l0 r1_l1).length = r1_l1.length := by
  intro k
  induction k with
  | zero => intro x_l0 r1_l1 hk; exact absurd hk (Nat.not_lt_zero _)
  | succ k ih =>
    intro x_l0 r1_l1 hk
    cases h_0 : (decide (x_l0 < (b_0.Mesh.Places.length : Int))) with
    | true =>
      have e : lo_impl_partsOf_4 b_0 (k + 1) x_l0 r1_l1 = (lo_impl_partsOf_4 b_0 k (x_l0 + 1) (r1_l1.set 3 (nd_impl_partsOf_6 b_0 x_l0 r1_l1))) := by simp only [lo_impl_partsOf_4, h_0, cond_true]
      rw [e, ih (x_l0 + 1) (r1_l1.set 3 (nd_impl_partsOf_6 b_0 x_l0 r1_l1)) (by first | assumption | omega | (have q := hp5.w; first | omega | (have q := okBd_spr hp5 (by assumption) h_0; omega) | (have q := impl_hingesOf_len _ hp5.e; omega) | (simp; done)) | (simp_all <;> omega))]; simp
    | false =>
      have e : lo_impl_partsOf_4 b_0 (k + 1) x_l0 r1_l1 = r1_l1 := by simp only [lo_impl_partsOf_4, h_0, cond_false]
      first | (rw [e]; done) | (rw [e]; rfl)

def lr_impl_partsOf_4_3 (b_0 : GBody) : (List Nat) := (lo_impl_partsOf_4 b_0 (((b_0.Mesh.Places.length : Int) - 0).toNat + 1) 0 (lr_impl_partsOf_3_2 b_0))

@[simp] theorem len_lr_impl_partsOf_4_3_0 (b_0 : GBody) : (lr_impl_partsOf_4_3 b_0).length = ((lr_impl_partsOf_3_2 b_0) : (List Nat)).length := ln_impl_partsOf_4_0 b_0 (((b_0.Mesh.Places.length : Int) - 0).toNat + 1) 0 (lr_impl_partsOf_3_2 b_0) (by first | exact Nat.lt_succ_self _ | simp)

def v_impl_partsOf (b_0 : GBody) : (List Nat) := (lr_impl_partsOf_4_3 b_0)

@[simp] theorem len_v_impl_partsOf_0 (b_0 : GBody) : (v_impl_partsOf b_0).length = 4 := by
  first | (simp [v_impl_partsOf]; done)

theorem eq_bendOf (m : GMesh) (h : List Int) : v_impl_bendOf m h = v_spec_l03Bent m h := by kernel_rfl
theorem lo_parts1 (b : GBody) : lo_impl_partsOf_1 b = lo_spec_l03Parts_1 b := by kernel_rfl
theorem lo_parts2 (b : GBody) : lo_impl_partsOf_2 b = lo_spec_l03Parts_2 b := by kernel_rfl
theorem lo_parts4 (b : GBody) : lo_impl_partsOf_4 b = lo_spec_l03Parts_4 b := by kernel_rfl
theorem lo_parts3 (b : GBody) (h : v_impl_hingesOf b.Mesh = v_spec_l03Hinges b.Mesh) : ∀ (k : Nat) (x : Int) (r : List Nat), lo_impl_partsOf_3 b k x r = lo_spec_l03Parts_3 b k x r := by
  intro k
  induction k with
  | zero => intro x r; rfl
  | succ k ih =>
    intro x r
    rw [lo_impl_partsOf_3, lo_spec_l03Parts_3, ih]
    unfold nd_impl_partsOf_4 nd_spec_l03Parts_6
    rw [h, eq_bendOf]
    rfl
theorem eq_partsOf (b : GBody) (ok : OkBd b) : v_impl_partsOf b = v_spec_l03Parts b := by
  have h : v_impl_hingesOf b.Mesh = v_spec_l03Hinges b.Mesh := by rw [impl_hingesOf_eq _ ok.e, l03Hinges_eq _ ok.e]
  unfold v_impl_partsOf v_spec_l03Parts lr_impl_partsOf_4_3 lr_spec_l03Parts_4_3 lr_impl_partsOf_3_2 lr_spec_l03Parts_3_2 lr_impl_partsOf_2_1 lr_spec_l03Parts_2_1 lr_impl_partsOf_1_0 lr_spec_l03Parts_1_0
  rw [lo_parts1, lo_parts2, lo_parts4, lo_parts3 b h, h]
theorem len_partsOf (b : GBody) : (v_impl_partsOf b).length = 4 := by
  unfold v_impl_partsOf
  rw [len_lr_impl_partsOf_4_3_0, len_lr_impl_partsOf_3_2_0, len_lr_impl_partsOf_2_1_0, len_lr_impl_partsOf_1_0_0]; simp

theorem t_impl_partsOf (b_0 : GBody) (hp0 : b_0.Mesh.Places.length ≤ 1073741824) (hp1 : b_0.Mesh.Triangles.length ≤ 1073741824) (hp2 : ∀ t ∈ b_0.Mesh.Triangles, t.length ≤ 1073741824) (hp3 : b_0.Springs.length ≤ 1073741824) (hp4 : b_0.Weights.length ≤ 1073741824) (hp5 : OkBd b_0)  : Fn prog 102 [.agg [.sl (b_0.Mesh.Places.map GVector.cells), .sl (b_0.Mesh.Triangles.map (cL (cI .i64))), .sl (b_0.Springs.map GSpring.cells), .f .f32 b_0.Film, .f .f32 b_0.Bend, .sl (b_0.Weights.map (cF .f32)), .f .f32 b_0.Fall.X, .f .f32 b_0.Fall.Y, .f .f32 b_0.Fall.Z]] (.own 0) [.vec 38 1 ((v_impl_partsOf b_0).map (cF .f32)) false] := by
 have y0 : (0 : Int) ≤ 4 := (by first | assumption | omega | (have q := hp5.w; first | omega | (have q := okBd_spr hp5 (by assumption) h_0; omega) | (have q := impl_hingesOf_len _ hp5.e; omega) | (simp; done)) | (simp_all <;> omega))
 have y1 : (4 : Int) ≤ 2147483648 := (by first | assumption | omega | (have q := hp5.w; first | omega | (have q := okBd_spr hp5 (by assumption) h_0; omega) | (have q := impl_hingesOf_len _ hp5.e; omega) | (simp; done)) | (simp_all <;> omega))
 have y2 : OkE b_0.Mesh.Places.length b_0.Mesh.Triangles := (by first | assumption | omega | exact hp5.e | (have q := okBd_spr hp5 (by assumption) h_0; omega) | exact tri3 hp5.e (by assumption) h_0 | exact tri3L hp5.e (by assumption) h_0 | exact hin4i hp5.e (by assumption) h_0 | exact hin4iL hp5.e (by assumption) h_0)
 refine fnS E0Ok hMixed (c := bodyOf f102) [] (.own 0) [.vec 38 1 ((lr_impl_partsOf_4_3 b_0).map (cF .f32)) false] func102 (sC (show (4 : Int) = 4 from rfl) <| sC y0 <| sC y1 <| sZ GSpring.cells b_0.Springs <| sL mk_impl_partsOf_1_0 2 (lp_cast (st2 := ⟨[.agg [.sl (b_0.Mesh.Places.map GVector.cells), .sl (b_0.Mesh.Triangles.map (cL (cI .i64))), .sl (b_0.Springs.map GSpring.cells), .f .f32 b_0.Film, .f .f32 b_0.Bend, .sl (b_0.Weights.map (cF .f32)), .f .f32 b_0.Fall.X, .f .f32 b_0.Fall.Y, .f .f32 b_0.Fall.Z], .ptr 0 0 0, .nils, .own 1, .any, .any, .any, .any, .any, .any, .any, .any, .any, .any, .own 1, .ptr 0 0 2, .sl (b_0.Springs.map GSpring.cells), .i .i64 (b_0.Springs.length : Int), .i .i64 0, .any, .any, .any, .any, .any, .any, .any, .any, .any, .any, .any, .any, .any, .any, .any, .any, .any, .any, .any, .any, .any, .any, .any, .any, .any, .any, .any, .any, .any, .any, .any, .any, .any, .any, .any, .any, .any, .any, .any, .any, .any, .any, .any, .any, .any, .any, .any, .any, .any, .any, .any, .any, .any, .any, .any, .any, .any, .any, .any, .any, .any, .any, .any, .any, .any, .any, .any, .any, .any, .any, .any, .any, .any, .any, .any, .any, .any, .any, .any, .any, .any, .any, .any, .any, .any, .any, .any, .any, .any, .any, .any, .any, .any, .any, .any, .any, .any, .any], [.box 69 [.sl (b_0.Mesh.Places.map GVector.cells), .sl (b_0.Mesh.Triangles.map (cL (cI .i64))), .sl (b_0.Springs.map GSpring.cells), .f .f32 b_0.Film, .f .f32 b_0.Bend, .sl (b_0.Weights.map (cF .f32)), .f .f32 b_0.Fall.X, .f .f32 b_0.Fall.Y, .f .f32 b_0.Fall.Z], .vec 38 1 (List.replicate (Int.toNat 4) [.f .f32 0]) false]⟩) (lp_val (ls_impl_partsOf_1 b_0) (x := (lr_impl_partsOf_1_0 b_0)) (lp_impl_partsOf_1 b_0 hp0 hp1 hp2 hp3 hp4 hp5 (((b_0.Springs.length : Int) - 0).toNat + 1) 0 (List.replicate 4 0) (show 0 ≤ 0 from (by first | omega | (simp; done))) (show (List.replicate 4 0).length = 4 from (by first | omega | (simp; done))) (Nat.lt_succ_self _)) rfl) (by simp [hd_impl_partsOf_1, cF])) <| sZ (cL (cI .i64)) b_0.Mesh.Triangles <| sL mk_impl_partsOf_2_0 2 (lp_val (ls_impl_partsOf_2 b_0) (x := (lr_impl_partsOf_2_1 b_0)) (lp_impl_partsOf_2 b_0 hp0 hp1 hp2 hp3 hp4 hp5 (((b_0.Mesh.Triangles.length : Int) - 0).toNat + 1) 0 (lr_impl_partsOf_1_0 b_0) (show 0 ≤ 0 from (by first | omega | (simp; done))) (show (lr_impl_partsOf_1_0 b_0).length = (lr_impl_partsOf_1_0 b_0).length from (by first | omega | (simp; done))) (Nat.lt_succ_self _)) rfl) <| sF (t_impl_hingesOf b_0.Mesh hp0 hp1 hp2 y2) <| sM (nlen_ok (l := (v_impl_hingesOf b_0.Mesh)) (f := fun l => l.map (cI .i64))) <| sL mk_impl_partsOf_3_0 3 (lp_val (ls_impl_partsOf_3 b_0) (x := (lr_impl_partsOf_3_2 b_0)) (lp_impl_partsOf_3 b_0 hp0 hp1 hp2 hp3 hp4 hp5 ((((v_impl_hingesOf b_0.Mesh).length : Int) - 0).toNat + 1) 0 (lr_impl_partsOf_2_1 b_0) (show 0 ≤ 0 from (by first | omega | (simp; done))) (show (lr_impl_partsOf_2_1 b_0).length = (lr_impl_partsOf_2_1 b_0).length from (by first | omega | (simp; done))) (Nat.lt_succ_self _)) rfl) <| sZ GVector.cells b_0.Mesh.Places <| sL mk_impl_partsOf_4_0 3 (lp_val (ls_impl_partsOf_4 b_0) (x := (lr_impl_partsOf_4_3 b_0)) (lp_impl_partsOf_4 b_0 hp0 hp1 hp2 hp3 hp4 hp5 (((b_0.Mesh.Places.length : Int) - 0).toNat + 1) 0 (lr_impl_partsOf_3_2 b_0) (show 0 ≤ 0 from (by first | omega | (simp; done))) (show (lr_impl_partsOf_3_2 b_0).length = (lr_impl_partsOf_3_2 b_0).length from (by first | omega | (simp; done))) (Nat.lt_succ_self _)) rfl) <| sK [1] sN) rfl (by kernel_rfl) (by kernel_rfl) rfl ?_ ?_
 · rfl
 · simp [v_impl_partsOf]

def nd_impl_energyOf_0 (b_0 : GBody) : Nat := (fop .add .f32 (fop .add .f32 (fop .add .f32 ((v_impl_partsOf b_0).getD 0 default) ((v_impl_partsOf b_0).getD 1 default)) ((v_impl_partsOf b_0).getD 2 default)) ((v_impl_partsOf b_0).getD 3 default))

def v_impl_energyOf (b_0 : GBody) : Nat := (nd_impl_energyOf_0 b_0)

theorem eq_energyOf (b : GBody) (ok : OkBd b) : v_impl_energyOf b = v_spec_l03Energy b := by
  unfold v_impl_energyOf v_spec_l03Energy nd_impl_energyOf_0 nd_spec_l03Energy_0
  rw [eq_partsOf b ok]

theorem t_impl_energyOf (b_0 : GBody) (hp0 : b_0.Mesh.Places.length ≤ 1073741824) (hp1 : b_0.Mesh.Triangles.length ≤ 1073741824) (hp2 : ∀ t ∈ b_0.Mesh.Triangles, t.length ≤ 1073741824) (hp3 : b_0.Springs.length ≤ 1073741824) (hp4 : b_0.Weights.length ≤ 1073741824) (hp5 : OkBd b_0)  : Fn prog 94 [.agg [.sl (b_0.Mesh.Places.map GVector.cells), .sl (b_0.Mesh.Triangles.map (cL (cI .i64))), .sl (b_0.Springs.map GSpring.cells), .f .f32 b_0.Film, .f .f32 b_0.Bend, .sl (b_0.Weights.map (cF .f32)), .f .f32 b_0.Fall.X, .f .f32 b_0.Fall.Y, .f .f32 b_0.Fall.Z]] (.f .f32 (v_impl_energyOf b_0)) [] := by
 have y0 : (0 : Int) ≤ 0 := (by first | assumption | omega | (have q := len_partsOf b_0; omega) | (simp_all <;> omega))
 have y1 : 0 < ((v_impl_partsOf b_0).length : Int) := (by first | assumption | omega | (have q := len_partsOf b_0; omega) | (simp_all <;> omega))
 have y2 : 0 < (v_impl_partsOf b_0).length := (by first | assumption | omega | (have q := len_partsOf b_0; omega) | (simp_all <;> omega))
 have y3 : (0 : Int) ≤ 1 := (by first | assumption | omega | (have q := len_partsOf b_0; omega) | (simp_all <;> omega))
 have y4 : 1 < ((v_impl_partsOf b_0).length : Int) := (by first | assumption | omega | (have q := len_partsOf b_0; omega) | (simp_all <;> omega))
 have y5 : 1 < (v_impl_partsOf b_0).length := (by first | assumption | omega | (have q := len_partsOf b_0; omega) | (simp_all <;> omega))
 have y6 : (0 : Int) ≤ 2 := (by first | assumption | omega | (have q := len_partsOf b_0; omega) | (simp_all <;> omega))
 have y7 : 2 < ((v_impl_partsOf b_0).length : Int) := (by first | assumption | omega | (have q := len_partsOf b_0; omega) | (simp_all <;> omega))
 have y8 : 2 < (v_impl_partsOf b_0).length := (by first | assumption | omega | (have q := len_partsOf b_0; omega) | (simp_all <;> omega))
 have y9 : (0 : Int) ≤ 3 := (by first | assumption | omega | (have q := len_partsOf b_0; omega) | (simp_all <;> omega))
 have y10 : 3 < ((v_impl_partsOf b_0).length : Int) := (by first | assumption | omega | (have q := len_partsOf b_0; omega) | (simp_all <;> omega))
 have y11 : 3 < (v_impl_partsOf b_0).length := (by first | assumption | omega | (have q := len_partsOf b_0; omega) | (simp_all <;> omega))
 refine fnS E0Ok hMixed (c := bodyOf f94) [] (.f .f32 (nd_impl_energyOf_0 b_0)) [] func94 (sF (t_impl_partsOf b_0 hp0 hp1 hp2 hp3 hp4 hp5) <| sK [14, 14] <| sX (cF .f32) (v_impl_partsOf b_0) 0 y0 y1 <| sV (cF .f32) (v_impl_partsOf b_0) 0 y2 <| sX (cF .f32) (v_impl_partsOf b_0) 1 y3 y4 <| sV (cF .f32) (v_impl_partsOf b_0) 1 y5 <| sX (cF .f32) (v_impl_partsOf b_0) 2 y6 y7 <| sV (cF .f32) (v_impl_partsOf b_0) 2 y8 <| sX (cF .f32) (v_impl_partsOf b_0) 3 y9 y10 <| sV (cF .f32) (v_impl_partsOf b_0) 3 y11 <| sK [] sN) rfl (by kernel_rfl) (by kernel_rfl) rfl ?_ ?_
 · rfl
 · rfl

def v_impl_EnergyOf (b_0 : GBody) : Nat × Bool := (cond (v_impl_ValidBody b_0)
  ((v_impl_energyOf b_0), true)
  (0, false))

theorem t_impl_EnergyOf (b_0 : GBody) (hp0 : b_0.Mesh.Places.length ≤ 1073741824) (hp1 : b_0.Mesh.Triangles.length ≤ 1073741824) (hp2 : ∀ t ∈ b_0.Mesh.Triangles, t.length ≤ 1073741824) (hp3 : b_0.Springs.length ≤ 1073741824) (hp4 : b_0.Weights.length ≤ 1073741824)  : Fn prog 41 [.agg [.sl (b_0.Mesh.Places.map GVector.cells), .sl (b_0.Mesh.Triangles.map (cL (cI .i64))), .sl (b_0.Springs.map GSpring.cells), .f .f32 b_0.Film, .f .f32 b_0.Bend, .sl (b_0.Weights.map (cF .f32)), .f .f32 b_0.Fall.X, .f .f32 b_0.Fall.Y, .f .f32 b_0.Fall.Z]] (.tup [.f .f32 ((v_impl_EnergyOf b_0).1), .b ((v_impl_EnergyOf b_0).2)]) [] := by
 have p {a C} (s : Scr a C) := sF (t_impl_ValidBody b_0 hp0 hp1 hp2 hp3 hp4) <| s
 cases h0 : (v_impl_ValidBody b_0) with
 | true =>
  have y0 : OkBd b_0 := by clear p; exact (by first | assumption | exact okBd_is _ (by rw [← eq_ValidBody]; assumption) | omega)
  refine fnS E0Ok hMixed (c := bodyOf f41) [] (.tup [.f .f32 (v_impl_energyOf b_0), .b true]) [] func41 (p (sB' h0 <| sF (t_impl_energyOf b_0 hp0 hp1 hp2 hp3 hp4 y0) <| sK [] sN)) rfl (by kernel_rfl) (by kernel_rfl) rfl ?_ ?_
  · simp only [v_impl_EnergyOf, h0, cond_true]
  · rfl
 | false =>
  refine fnS E0Ok hMixed (c := bodyOf f41) [] (.tup [.f .f32 0, .b false]) [] func41 (p (sB' h0 <| sK [] sN)) rfl (by kernel_rfl) (by kernel_rfl) rfl ?_ ?_
  · simp only [v_impl_EnergyOf, h0, cond_false]
  · rfl

def v_laws_sameFloat (a_0 : Nat) (b_1 : Nat) : Bool := (cond (fcmp .neq .f64 a_0 a_0)
  (fcmp .neq .f64 b_1 b_1)
  (cond (fcmp .neq .f64 b_1 b_1)
    false
    (cond (fcmp .eql .f64 a_0 0)
      (cond (fcmp .eql .f64 b_1 0)
        ((fcmp .gtr .f64 (fop .quo .f64 4607182418800017408 a_0) 0) == (fcmp .gtr .f64 (fop .quo .f64 4607182418800017408 b_1) 0))
        (fcmp .eql .f64 a_0 b_1))
      (fcmp .eql .f64 a_0 b_1))))

theorem t_laws_sameFloat (a_0 : Nat) (b_1 : Nat)   : Fn prog 42 [.f .f64 a_0, .f .f64 b_1] (.b (v_laws_sameFloat a_0 b_1)) [] := by
 cases h0 : (fcmp .neq .f64 a_0 a_0) with
 | true =>
  refine fnS E0Ok hMixed (c := bodyOf f42) [] (.b (fcmp .neq .f64 b_1 b_1)) [] func42 (sB h0 <| sB h0 <| sB h0 <| sB h0 <| sB (show true = true from rfl) <| sB h0 <| sB h0 <| sB h0 <| sB h0 <| sK [] sN) rfl (by kernel_rfl) (by kernel_rfl) rfl ?_ ?_
  · simp only [v_laws_sameFloat, h0, cond_true]
  · rfl
 | false =>
  have p {a C} (s : Scr a C) := sB h0 <| sB h0 <| sB h0 <| sB h0 <| s
  cases h1 : (fcmp .neq .f64 b_1 b_1) with
  | true =>
   refine fnS E0Ok hMixed (c := bodyOf f42) [] (.b false) [] func42 (p (sB h1 <| sB h0 <| sB h0 <| sB h0 <| sB h0 <| sK [] sN)) rfl (by kernel_rfl) (by kernel_rfl) rfl ?_ ?_
   · simp only [v_laws_sameFloat, h0, h1, cond_true, cond_false]
   · rfl
  | false =>
   have q {a C} (s : Scr a C) := p (sB h1 <| s)
   clear p
   cases h2 : (fcmp .eql .f64 a_0 0) with
   | true =>
    have p {a C} (s : Scr a C) := q (sB h2 <| sB h2 <| sB h2 <| s)
    clear q
    cases h3 : (fcmp .eql .f64 b_1 0) with
    | true =>
     refine fnS E0Ok hMixed (c := bodyOf f42) [] (.b ((fcmp .gtr .f64 (fop .quo .f64 4607182418800017408 a_0) 0) == (fcmp .gtr .f64 (fop .quo .f64 4607182418800017408 b_1) 0))) [] func42 (p (sB h3 <| sK [] sN)) rfl (by kernel_rfl) (by kernel_rfl) rfl ?_ ?_
     · simp only [v_laws_sameFloat, h0, h1, h2, h3, cond_true, cond_false]
     · rfl
    | false =>
     refine fnS E0Ok hMixed (c := bodyOf f42) [] (.b (fcmp .eql .f64 a_0 b_1)) [] func42 (p (sB h3 <| sK [] sN)) rfl (by kernel_rfl) (by kernel_rfl) rfl ?_ ?_
     · simp only [v_laws_sameFloat, h0, h1, h2, h3, cond_true, cond_false]
     · rfl
   | false =>
    refine fnS E0Ok hMixed (c := bodyOf f42) [] (.b (fcmp .eql .f64 a_0 b_1)) [] func42 (q (sB h2 <| sB h2 <| sB h2 <| sB (show false = false from rfl) <| sK [] sN)) rfl (by kernel_rfl) (by kernel_rfl) rfl ?_ ?_
    · simp only [v_laws_sameFloat, h0, h1, h2, cond_false]
    · rfl

theorem same_self (x : Nat) : v_laws_sameFloat x x = true := by
  unfold v_laws_sameFloat
  cases h : fcmp .neq .f64 x x
  · simp only [cond_false]
    have h2 : fcmp .eql .f64 x x = true := by
      unfold fcmp at h ⊢
      simpa using h
    cases fcmp .eql .f64 x 0 <;> simp [h2]
  · rfl

def v_laws_eqVector (a_0 : GVector) (b_1 : GVector) : Bool := (cond (v_laws_sameFloat (fcv .f32 .f64 a_0.X) (fcv .f32 .f64 b_1.X))
  (cond (v_laws_sameFloat (fcv .f32 .f64 a_0.Y) (fcv .f32 .f64 b_1.Y))
    (cond (v_laws_sameFloat (fcv .f32 .f64 a_0.Z) (fcv .f32 .f64 b_1.Z))
      true
      false)
    false)
  false)

theorem t_laws_eqVector (a_0 : GVector) (b_1 : GVector)   : Fn prog 96 [.agg [.f .f32 a_0.X, .f .f32 a_0.Y, .f .f32 a_0.Z], .agg [.f .f32 b_1.X, .f .f32 b_1.Y, .f .f32 b_1.Z]] (.b (v_laws_eqVector a_0 b_1)) [] := by
 have p {a C} (s : Scr a C) := sC (widenOk a_0.X) <| sC (widenOk b_1.X) <| sF (t_laws_sameFloat (fcv .f32 .f64 a_0.X) (fcv .f32 .f64 b_1.X)) <| s
 cases h0 : (v_laws_sameFloat (fcv .f32 .f64 a_0.X) (fcv .f32 .f64 b_1.X)) with
 | true =>
  have q {a C} (s : Scr a C) := p (sB' h0 <| sC (widenOk a_0.Y) <| sC (widenOk b_1.Y) <| sF (t_laws_sameFloat (fcv .f32 .f64 a_0.Y) (fcv .f32 .f64 b_1.Y)) <| s)
  clear p
  cases h1 : (v_laws_sameFloat (fcv .f32 .f64 a_0.Y) (fcv .f32 .f64 b_1.Y)) with
  | true =>
   have p {a C} (s : Scr a C) := q (sB' h1 <| sC (widenOk a_0.Z) <| sC (widenOk b_1.Z) <| sF (t_laws_sameFloat (fcv .f32 .f64 a_0.Z) (fcv .f32 .f64 b_1.Z)) <| s)
   clear q
   cases h2 : (v_laws_sameFloat (fcv .f32 .f64 a_0.Z) (fcv .f32 .f64 b_1.Z)) with
   | true =>
    refine fnS E0Ok hMixed (c := bodyOf f96) [] (.b true) [] func96 (p (sB' h2 <| sK [] sN)) rfl (by kernel_rfl) (by kernel_rfl) rfl ?_ ?_
    · simp only [v_laws_eqVector, h0, h1, h2, cond_true]
    · rfl
   | false =>
    refine fnS E0Ok hMixed (c := bodyOf f96) [] (.b false) [] func96 (p (sB' h2 <| sK [] sN)) rfl (by kernel_rfl) (by kernel_rfl) rfl ?_ ?_
    · simp only [v_laws_eqVector, h0, h1, h2, cond_true, cond_false]
    · rfl
  | false =>
   refine fnS E0Ok hMixed (c := bodyOf f96) [] (.b false) [] func96 (q (sB' h1 <| sK [] sN)) rfl (by kernel_rfl) (by kernel_rfl) rfl ?_ ?_
   · simp only [v_laws_eqVector, h0, h1, cond_true, cond_false]
   · rfl
 | false =>
  refine fnS E0Ok hMixed (c := bodyOf f96) [] (.b false) [] func96 (p (sB' h0 <| sK [] sN)) rfl (by kernel_rfl) (by kernel_rfl) rfl ?_ ?_
  · simp only [v_laws_eqVector, h0, cond_false]
  · rfl

theorem eqVector_self (a : GVector) : v_laws_eqVector a a = true := by
  simp [v_laws_eqVector, same_self]

def lo_laws_eqVectorS_1 (a_0 : (List GVector)) (b_1 : (List GVector)) : Nat → Int → (Unit) ⊕ (Unit)
  | 0, _ => .inl default
  | k + 1, i_l0 => (cond (decide (i_l0 < (a_0.length : Int)))
    (cond (v_laws_eqVector (a_0.getD i_l0.toNat default) (b_1.getD i_l0.toNat default))
      (lo_laws_eqVectorS_1 a_0 b_1 k (i_l0 + 1))
      (.inl ()))
    (.inr ()))

def ls_laws_eqVectorS_1 (a_0 : (List GVector)) (b_1 : (List GVector)) : (Unit) ⊕ (Unit) → Ex × St
  | .inl r => (.ret, ⟨[.any, .any, .any, .any, .b false, .any, .any, .any, .any, .any, .any, .any, .any, .any, .any, .any, .any, .any, .any, .any, .any, .any, .any, .any, .any, .any, .any], []⟩)
  | .inr r => ((.exit 0), ⟨[.sl (a_0.map GVector.cells), .sl (b_1.map GVector.cells), .any, .any, .any, .any, .sl (a_0.map GVector.cells), .i .i64 (a_0.length : Int), .sl (b_1.map GVector.cells), .i .i64 (b_1.length : Int), .b ((a_0.length : Int) != (b_1.length : Int)), .any, .any, .any, .any, .any, .any, .any, .any, .any, .any, .any, .any, .any, .any, .any, .any], []⟩)

def hd_laws_eqVectorS_1 (a_0 : (List GVector)) (b_1 : (List GVector)) (i_l0 : Int) : St := ⟨[.sl (a_0.map GVector.cells), .sl (b_1.map GVector.cells), .any, .any, .any, .i .i64 i_l0, .sl (a_0.map GVector.cells), .i .i64 (a_0.length : Int), .sl (b_1.map GVector.cells), .i .i64 (b_1.length : Int), .b ((a_0.length : Int) != (b_1.length : Int)), .any, .any, .any, .any, .any, .any, .any, .any, .any, .any, .any, .any, .any, .any, .any, .any], []⟩

def mk_laws_eqVectorS_1_0 : List Bool := [true, true, false, false, false, true, true, true, true, true, true, false, false, false, false, false, false, false, false, false, false, false, false, false, false, false, false]

def mk_laws_eqVectorS_1_1 : List Bool := [false, false, false, false, true, false, false, false, false, false, false, false, false, false, false, false, false, false, false, false, false, false, false, false, false, false, false]

def mk_laws_eqVectorS_1_2 : List Bool := [true, true, false, false, false, false, true, true, true, true, true, false, false, false, false, false, false, false, false, false, false, false, false, false, false, false, false]

theorem lp_laws_eqVectorS_1 (a_0 : (List GVector)) (b_1 : (List GVector)) (hp0 : a_0.length ≤ 1073741824) (hp1 : b_1.length ≤ 1073741824) (hf_laws_eqVectorS_1_0 : ((a_0.length : Int) != (b_1.length : Int)) = false) : ∀ (k : Nat) (i_l0 : Int) (hv_laws_eqVectorS_1_0 : 0 ≤ i_l0) (hk : ((a_0.length : Int) - i_l0).toNat < k), Lp prog 0 (sub (bodyOf f58) [1, 1, 0, 1, 0, 0]) (hd_laws_eqVectorS_1 a_0 b_1 i_l0) (ls_laws_eqVectorS_1 a_0 b_1 (lo_laws_eqVectorS_1 a_0 b_1 k i_l0)).1 (ls_laws_eqVectorS_1 a_0 b_1 (lo_laws_eqVectorS_1 a_0 b_1 k i_l0)).2 := by
 intro k
 induction k with
 | zero => intro i_l0 hv_laws_eqVectorS_1_0 hk; exact absurd hk (Nat.not_lt_zero _)
 | succ k ih =>
  intro i_l0 hv_laws_eqVectorS_1_0 hk
  have p {a C} (s : Scr a C) := sZ GVector.cells a_0 <| s
  cases h_0 : (decide (i_l0 < (a_0.length : Int))) with
  | true =>
   have gh_0 := of_decide_eq_true h_0
   have y_0 : (0 : Int) ≤ i_l0 := by clear p; exact (by first | assumption | omega | (simp_all <;> omega))
   have y_1 : i_l0 < (a_0.length : Int) := by clear p; exact (by first | assumption | omega | (simp_all <;> omega))
   have y_2 : i_l0 < (b_1.length : Int) := by clear p; exact (by first | assumption | omega | (simp_all <;> omega))
   have q {a C} (s : Scr a C) := p (sB h_0 <| sK [8, 8] <| sG GVector.cells a_0 i_l0 y_0 y_1 <| sG GVector.cells b_1 i_l0 y_0 y_2 <| sF (t_laws_eqVector (a_0.getD i_l0.toNat default) (b_1.getD i_l0.toNat default)) <| s)
   clear p
   cases h_1 : (v_laws_eqVector (a_0.getD i_l0.toNat default) (b_1.getD i_l0.toNat default)) with
   | true =>
    have y_3 : (-9223372036854775808 : Int) ≤ (i_l0 + 1) := by clear q; exact (by first | assumption | omega | (simp_all <;> omega))
    have y_4 : (i_l0 + 1) ≤ (9223372036854775807 : Int) := by clear q; exact (by first | assumption | omega | (simp_all <;> omega))
    have e : lo_laws_eqVectorS_1 a_0 b_1 (k + 1) i_l0 = (lo_laws_eqVectorS_1 a_0 b_1 k (i_l0 + 1)) := by simp only [lo_laws_eqVectorS_1, h_0, h_1, cond_true]
    rw [e]
    exact nextR E0Ok hMixed [] mk_laws_eqVectorS_1_0 [] (ih (i_l0 + 1) (show 0 ≤ (i_l0 + 1) from (by first | assumption | omega | (simp_all <;> omega))) (by first | assumption | omega | (simp_all <;> omega))) (q (sB' h_1 <| sI (i_l0 + 1) y_3 y_4 <| sN)) (by kernel_rfl)
   | false =>
    have e : lo_laws_eqVectorS_1 a_0 b_1 (k + 1) i_l0 = (.inl ()) := by simp only [lo_laws_eqVectorS_1, h_0, h_1, cond_true, cond_false]
    rw [e]
    exact outR (e := .ret) E0Ok hMixed [] mk_laws_eqVectorS_1_1 [] (q (sB' h_1 <| sN)) (by kernel_rfl) (by intro h; cases h)
  | false =>
   have gh_0 := of_decide_eq_false h_0
   have e : lo_laws_eqVectorS_1 a_0 b_1 (k + 1) i_l0 = (.inr ()) := by simp only [lo_laws_eqVectorS_1, h_0, cond_false]
   rw [e]
   exact outR (e := (.exit 0)) E0Ok hMixed [] mk_laws_eqVectorS_1_2 [] (p (sB h_0 <| sN)) (by kernel_rfl) (by intro h; cases h)

def lr_laws_eqVectorS_1_0 (a_0 : (List GVector)) (b_1 : (List GVector)) : (Unit) ⊕ (Unit) := (lo_laws_eqVectorS_1 a_0 b_1 (((a_0.length : Int) - 0).toNat + 1) 0)

def v_laws_eqVectorS (a_0 : (List GVector)) (b_1 : (List GVector)) : Bool := (cond ((a_0.length : Int) != (b_1.length : Int))
  false
  (match (lr_laws_eqVectorS_1_0 a_0 b_1) with
    | .inl r2 => false
    | .inr r2 => true))

theorem t_laws_eqVectorS (a_0 : (List GVector)) (b_1 : (List GVector)) (hp0 : a_0.length ≤ 1073741824) (hp1 : b_1.length ≤ 1073741824)  : Fn prog 58 [.sl (a_0.map GVector.cells), .sl (b_1.map GVector.cells)] (.b (v_laws_eqVectorS a_0 b_1)) [] := by
 have p {a C} (s : Scr a C) := sZ GVector.cells a_0 <| sZ GVector.cells b_1 <| s
 cases h0 : ((a_0.length : Int) != (b_1.length : Int)) with
 | true =>
  have gh0 := bne_iff_ne.1 h0
  refine fnS E0Ok hMixed (c := bodyOf f58) [] (.b false) [] func58 (p (sB h0 <| sK [] sN)) rfl (by kernel_rfl) (by kernel_rfl) rfl ?_ ?_
  · simp only [v_laws_eqVectorS, h0, cond_true]
  · rfl
 | false =>
  have gh0 := bne_eq_false_iff_eq.1 h0
  have q {a C} (s : Scr a C) := p (sB h0 <| s)
  clear p
  cases h1 : (lr_laws_eqVectorS_1_0 a_0 b_1) with
  | inl r2 =>
   refine fnS E0Ok hMixed (c := bodyOf f58) [] (.b false) [] func58 (q (sL mk_laws_eqVectorS_1_0 0 (lp_val (ls_laws_eqVectorS_1 a_0 b_1) (x := (lr_laws_eqVectorS_1_0 a_0 b_1)) (lp_laws_eqVectorS_1 a_0 b_1 hp0 hp1 h0 (((a_0.length : Int) - 0).toNat + 1) 0 (show 0 ≤ 0 from (by first | assumption | omega | (simp_all <;> omega))) (Nat.lt_succ_self _)) h1) <| sK [] sN)) rfl (by kernel_rfl) (by kernel_rfl) rfl ?_ ?_
   · simp only [v_laws_eqVectorS, h0, h1, cond_false]
   · rfl
  | inr r2 =>
   refine fnS E0Ok hMixed (c := bodyOf f58) [] (.b true) [] func58 (q (sL mk_laws_eqVectorS_1_0 0 (lp_val (ls_laws_eqVectorS_1 a_0 b_1) (x := (lr_laws_eqVectorS_1_0 a_0 b_1)) (lp_laws_eqVectorS_1 a_0 b_1 hp0 hp1 h0 (((a_0.length : Int) - 0).toNat + 1) 0 (show 0 ≤ 0 from (by first | assumption | omega | (simp_all <;> omega))) (Nat.lt_succ_self _)) h1) <| sK [] sN)) rfl (by kernel_rfl) (by kernel_rfl) rfl ?_ ?_
   · simp only [v_laws_eqVectorS, h0, h1, cond_false]
   · rfl

theorem eqVectorS_self (a : List GVector) : v_laws_eqVectorS a a = true := by
  unfold v_laws_eqVectorS lr_laws_eqVectorS_1_0
  rw [all_loop (a := a) (p := fun v => v_laws_eqVector v v) (lo := lo_laws_eqVectorS_1 a a) (x := ()) (y := ()) (fun k i => rfl) (fun v _ => eqVector_self v) _ _ (Int.le_refl 0) (Nat.lt_succ_self _)]
  simp

def lo_laws_eqInt64S_1 (a_0 : (List Int)) (b_1 : (List Int)) : Nat → Int → (Unit) ⊕ (Unit)
  | 0, _ => .inl default
  | k + 1, i_l0 => (cond (decide (i_l0 < (a_0.length : Int)))
    (cond ((a_0.getD i_l0.toNat default) != (b_1.getD i_l0.toNat default))
      (.inl ())
      (lo_laws_eqInt64S_1 a_0 b_1 k (i_l0 + 1)))
    (.inr ()))

def ls_laws_eqInt64S_1 (a_0 : (List Int)) (b_1 : (List Int)) : (Unit) ⊕ (Unit) → Ex × St
  | .inl r => (.ret, ⟨[.any, .any, .any, .any, .b false, .any, .any, .any, .any, .any, .any, .any, .any, .any, .any, .any, .any, .any, .any, .any, .any, .any, .any, .any, .any, .any], []⟩)
  | .inr r => ((.exit 0), ⟨[.sl (a_0.map (cI .i64)), .sl (b_1.map (cI .i64)), .any, .any, .any, .any, .sl (a_0.map (cI .i64)), .i .i64 (a_0.length : Int), .sl (b_1.map (cI .i64)), .i .i64 (b_1.length : Int), .b ((a_0.length : Int) != (b_1.length : Int)), .any, .any, .any, .any, .any, .any, .any, .any, .any, .any, .any, .any, .any, .any, .any], []⟩)

def hd_laws_eqInt64S_1 (a_0 : (List Int)) (b_1 : (List Int)) (i_l0 : Int) : St := ⟨[.sl (a_0.map (cI .i64)), .sl (b_1.map (cI .i64)), .any, .any, .any, .i .i64 i_l0, .sl (a_0.map (cI .i64)), .i .i64 (a_0.length : Int), .sl (b_1.map (cI .i64)), .i .i64 (b_1.length : Int), .b ((a_0.length : Int) != (b_1.length : Int)), .any, .any, .any, .any, .any, .any, .any, .any, .any, .any, .any, .any, .any, .any, .any], []⟩

def mk_laws_eqInt64S_1_0 : List Bool := [true, true, false, false, false, true, true, true, true, true, true, false, false, false, false, false, false, false, false, false, false, false, false, false, false, false]

def mk_laws_eqInt64S_1_1 : List Bool := [false, false, false, false, true, false, false, false, false, false, false, false, false, false, false, false, false, false, false, false, false, false, false, false, false, false]

def mk_laws_eqInt64S_1_2 : List Bool := [true, true, false, false, false, false, true, true, true, true, true, false, false, false, false, false, false, false, false, false, false, false, false, false, false, false]

theorem lp_laws_eqInt64S_1 (a_0 : (List Int)) (b_1 : (List Int)) (hp0 : a_0.length ≤ 1073741824) (hp1 : b_1.length ≤ 1073741824) (hf_laws_eqInt64S_1_0 : ((a_0.length : Int) != (b_1.length : Int)) = false) : ∀ (k : Nat) (i_l0 : Int) (hv_laws_eqInt64S_1_0 : 0 ≤ i_l0) (hk : ((a_0.length : Int) - i_l0).toNat < k), Lp prog 0 (sub (bodyOf f35) [1, 1, 0, 1, 0, 0]) (hd_laws_eqInt64S_1 a_0 b_1 i_l0) (ls_laws_eqInt64S_1 a_0 b_1 (lo_laws_eqInt64S_1 a_0 b_1 k i_l0)).1 (ls_laws_eqInt64S_1 a_0 b_1 (lo_laws_eqInt64S_1 a_0 b_1 k i_l0)).2 := by
 intro k
 induction k with
 | zero => intro i_l0 hv_laws_eqInt64S_1_0 hk; exact absurd hk (Nat.not_lt_zero _)
 | succ k ih =>
  intro i_l0 hv_laws_eqInt64S_1_0 hk
  have p {a C} (s : Scr a C) := sZ (cI .i64) a_0 <| s
  cases h_0 : (decide (i_l0 < (a_0.length : Int))) with
  | true =>
   have gh_0 := of_decide_eq_true h_0
   have y_0 : (0 : Int) ≤ i_l0 := by clear p; exact (by first | assumption | omega | (simp_all <;> omega))
   have y_1 : i_l0 < (a_0.length : Int) := by clear p; exact (by first | assumption | omega | (simp_all <;> omega))
   have y_2 : i_l0 < (b_1.length : Int) := by clear p; exact (by first | assumption | omega | (simp_all <;> omega))
   have q {a C} (s : Scr a C) := p (sB h_0 <| sK [8, 8] <| sG (cI .i64) a_0 i_l0 y_0 y_1 <| sG (cI .i64) b_1 i_l0 y_0 y_2 <| s)
   clear p
   cases h_1 : ((a_0.getD i_l0.toNat default) != (b_1.getD i_l0.toNat default)) with
   | true =>
    have gh_1 := bne_iff_ne.1 h_1
    have e : lo_laws_eqInt64S_1 a_0 b_1 (k + 1) i_l0 = (.inl ()) := by simp only [lo_laws_eqInt64S_1, h_0, h_1, cond_true]
    rw [e]
    exact outR (e := .ret) E0Ok hMixed [] mk_laws_eqInt64S_1_1 [] (q (sB h_1 <| sN)) (by kernel_rfl) (by intro h; cases h)
   | false =>
    have gh_1 := bne_eq_false_iff_eq.1 h_1
    have y_3 : (-9223372036854775808 : Int) ≤ (i_l0 + 1) := by clear q; exact (by first | assumption | omega | (simp_all <;> omega))
    have y_4 : (i_l0 + 1) ≤ (9223372036854775807 : Int) := by clear q; exact (by first | assumption | omega | (simp_all <;> omega))
    have e : lo_laws_eqInt64S_1 a_0 b_1 (k + 1) i_l0 = (lo_laws_eqInt64S_1 a_0 b_1 k (i_l0 + 1)) := by simp only [lo_laws_eqInt64S_1, h_0, h_1, cond_true, cond_false]
    rw [e]
    exact nextR E0Ok hMixed [] mk_laws_eqInt64S_1_0 [] (ih (i_l0 + 1) (show 0 ≤ (i_l0 + 1) from (by first | assumption | omega | (simp_all <;> omega))) (by first | assumption | omega | (simp_all <;> omega))) (q (sB h_1 <| sI (i_l0 + 1) y_3 y_4 <| sN)) (by kernel_rfl)
  | false =>
   have gh_0 := of_decide_eq_false h_0
   have e : lo_laws_eqInt64S_1 a_0 b_1 (k + 1) i_l0 = (.inr ()) := by simp only [lo_laws_eqInt64S_1, h_0, cond_false]
   rw [e]
   exact outR (e := (.exit 0)) E0Ok hMixed [] mk_laws_eqInt64S_1_2 [] (p (sB h_0 <| sN)) (by kernel_rfl) (by intro h; cases h)

def lr_laws_eqInt64S_1_0 (a_0 : (List Int)) (b_1 : (List Int)) : (Unit) ⊕ (Unit) := (lo_laws_eqInt64S_1 a_0 b_1 (((a_0.length : Int) - 0).toNat + 1) 0)

def v_laws_eqInt64S (a_0 : (List Int)) (b_1 : (List Int)) : Bool := (cond ((a_0.length : Int) != (b_1.length : Int))
  false
  (match (lr_laws_eqInt64S_1_0 a_0 b_1) with
    | .inl r2 => false
    | .inr r2 => true))

theorem t_laws_eqInt64S (a_0 : (List Int)) (b_1 : (List Int)) (hp0 : a_0.length ≤ 1073741824) (hp1 : b_1.length ≤ 1073741824)  : Fn prog 35 [.sl (a_0.map (cI .i64)), .sl (b_1.map (cI .i64))] (.b (v_laws_eqInt64S a_0 b_1)) [] := by
 have p {a C} (s : Scr a C) := sZ (cI .i64) a_0 <| sZ (cI .i64) b_1 <| s
 cases h0 : ((a_0.length : Int) != (b_1.length : Int)) with
 | true =>
  have gh0 := bne_iff_ne.1 h0
  refine fnS E0Ok hMixed (c := bodyOf f35) [] (.b false) [] func35 (p (sB h0 <| sK [] sN)) rfl (by kernel_rfl) (by kernel_rfl) rfl ?_ ?_
  · simp only [v_laws_eqInt64S, h0, cond_true]
  · rfl
 | false =>
  have gh0 := bne_eq_false_iff_eq.1 h0
  have q {a C} (s : Scr a C) := p (sB h0 <| s)
  clear p
  cases h1 : (lr_laws_eqInt64S_1_0 a_0 b_1) with
  | inl r2 =>
   refine fnS E0Ok hMixed (c := bodyOf f35) [] (.b false) [] func35 (q (sL mk_laws_eqInt64S_1_0 0 (lp_val (ls_laws_eqInt64S_1 a_0 b_1) (x := (lr_laws_eqInt64S_1_0 a_0 b_1)) (lp_laws_eqInt64S_1 a_0 b_1 hp0 hp1 h0 (((a_0.length : Int) - 0).toNat + 1) 0 (show 0 ≤ 0 from (by first | assumption | omega | (simp_all <;> omega))) (Nat.lt_succ_self _)) h1) <| sK [] sN)) rfl (by kernel_rfl) (by kernel_rfl) rfl ?_ ?_
   · simp only [v_laws_eqInt64S, h0, h1, cond_false]
   · rfl
  | inr r2 =>
   refine fnS E0Ok hMixed (c := bodyOf f35) [] (.b true) [] func35 (q (sL mk_laws_eqInt64S_1_0 0 (lp_val (ls_laws_eqInt64S_1 a_0 b_1) (x := (lr_laws_eqInt64S_1_0 a_0 b_1)) (lp_laws_eqInt64S_1 a_0 b_1 hp0 hp1 h0 (((a_0.length : Int) - 0).toNat + 1) 0 (show 0 ≤ 0 from (by first | assumption | omega | (simp_all <;> omega))) (Nat.lt_succ_self _)) h1) <| sK [] sN)) rfl (by kernel_rfl) (by kernel_rfl) rfl ?_ ?_
   · simp only [v_laws_eqInt64S, h0, h1, cond_false]
   · rfl

theorem eqInt64S_self (a : List Int) : v_laws_eqInt64S a a = true := by
  unfold v_laws_eqInt64S lr_laws_eqInt64S_1_0
  rw [all_from (a := a) (p := fun v => !(v != v)) (lo := lo_laws_eqInt64S_1 a a) (x := ()) (y := ()) (fun k i => by rw [lo_laws_eqInt64S_1]; cases (a.getD i.toNat default != a.getD i.toNat default) <;> rfl)]
  rw [show (a.all fun v => !(v != v)) = true from by rw [List.all_eq_true]; intro v _; simp]
  simp

def lo_laws_eqInt64SS_1 (a_0 : (List (List Int))) (b_1 : (List (List Int))) : Nat → Int → (Unit) ⊕ (Unit)
  | 0, _ => .inl default
  | k + 1, i_l0 => (cond (decide (i_l0 < (a_0.length : Int)))
    (cond (v_laws_eqInt64S (a_0.getD i_l0.toNat default) (b_1.getD i_l0.toNat default))
      (lo_laws_eqInt64SS_1 a_0 b_1 k (i_l0 + 1))
      (.inl ()))
    (.inr ()))

def ls_laws_eqInt64SS_1 (a_0 : (List (List Int))) (b_1 : (List (List Int))) : (Unit) ⊕ (Unit) → Ex × St
  | .inl r => (.ret, ⟨[.any, .any, .any, .any, .b false, .any, .any, .any, .any, .any, .any, .any, .any, .any, .any, .any, .any, .any, .any, .any, .any, .any, .any, .any, .any, .any, .any], []⟩)
  | .inr r => ((.exit 0), ⟨[.sl (a_0.map (cL (cI .i64))), .sl (b_1.map (cL (cI .i64))), .any, .any, .any, .any, .sl (a_0.map (cL (cI .i64))), .i .i64 (a_0.length : Int), .sl (b_1.map (cL (cI .i64))), .i .i64 (b_1.length : Int), .b ((a_0.length : Int) != (b_1.length : Int)), .any, .any, .any, .any, .any, .any, .any, .any, .any, .any, .any, .any, .any, .any, .any, .any], []⟩)

def hd_laws_eqInt64SS_1 (a_0 : (List (List Int))) (b_1 : (List (List Int))) (i_l0 : Int) : St := ⟨[.sl (a_0.map (cL (cI .i64))), .sl (b_1.map (cL (cI .i64))), .any, .any, .any, .i .i64 i_l0, .sl (a_0.map (cL (cI .i64))), .i .i64 (a_0.length : Int), .sl (b_1.map (cL (cI .i64))), .i .i64 (b_1.length : Int), .b ((a_0.length : Int) != (b_1.length : Int)), .any, .any, .any, .any, .any, .any, .any, .any, .any, .any, .any, .any, .any, .any, .any, .any], []⟩

def mk_laws_eqInt64SS_1_0 : List Bool := [true, true, false, false, false, true, true, true, true, true, true, false, false, false, false, false, false, false, false, false, false, false, false, false, false, false, false]

def mk_laws_eqInt64SS_1_1 : List Bool := [false, false, false, false, true, false, false, false, false, false, false, false, false, false, false, false, false, false, false, false, false, false, false, false, false, false, false]

def mk_laws_eqInt64SS_1_2 : List Bool := [true, true, false, false, false, false, true, true, true, true, true, false, false, false, false, false, false, false, false, false, false, false, false, false, false, false, false]

theorem lp_laws_eqInt64SS_1 (a_0 : (List (List Int))) (b_1 : (List (List Int))) (hp0 : a_0.length ≤ 1073741824) (hp1 : ∀ t ∈ a_0, t.length ≤ 1073741824) (hp2 : b_1.length ≤ 1073741824) (hp3 : ∀ t ∈ b_1, t.length ≤ 1073741824) (hf_laws_eqInt64SS_1_0 : ((a_0.length : Int) != (b_1.length : Int)) = false) : ∀ (k : Nat) (i_l0 : Int) (hv_laws_eqInt64SS_1_0 : 0 ≤ i_l0) (hk : ((a_0.length : Int) - i_l0).toNat < k), Lp prog 0 (sub (bodyOf f15) [1, 1, 0, 1, 0, 0]) (hd_laws_eqInt64SS_1 a_0 b_1 i_l0) (ls_laws_eqInt64SS_1 a_0 b_1 (lo_laws_eqInt64SS_1 a_0 b_1 k i_l0)).1 (ls_laws_eqInt64SS_1 a_0 b_1 (lo_laws_eqInt64SS_1 a_0 b_1 k i_l0)).2 := by
 intro k
 induction k with
 | zero => intro i_l0 hv_laws_eqInt64SS_1_0 hk; exact absurd hk (Nat.not_lt_zero _)
 | succ k ih =>
  intro i_l0 hv_laws_eqInt64SS_1_0 hk
  have p {a C} (s : Scr a C) := sZ (cL (cI .i64)) a_0 <| s
  cases h_0 : (decide (i_l0 < (a_0.length : Int))) with
  | true =>
   have gh_0 := of_decide_eq_true h_0
   have y_0 : (0 : Int) ≤ i_l0 := by clear p; exact (by first | assumption | omega | (simp_all <;> omega))
   have y_1 : i_l0 < (a_0.length : Int) := by clear p; exact (by first | assumption | omega | (simp_all <;> omega))
   have y_2 : i_l0 < (b_1.length : Int) := by clear p; exact (by first | assumption | omega | (simp_all <;> omega))
   have y_3 : (a_0.getD i_l0.toNat default).length ≤ 1073741824 := by clear p; exact (by first | assumption | omega | (simp_all <;> omega))
   have y_4 : (b_1.getD i_l0.toNat default).length ≤ 1073741824 := by clear p; exact (by first | assumption | omega | (simp_all <;> omega))
   have q {a C} (s : Scr a C) := p (sB h_0 <| sK [8, 8] <| sG (cL (cI .i64)) a_0 i_l0 y_0 y_1 <| sG (cL (cI .i64)) b_1 i_l0 y_0 y_2 <| sF (t_laws_eqInt64S (a_0.getD i_l0.toNat default) (b_1.getD i_l0.toNat default) y_3 y_4) <| s)
   clear p
   cases h_1 : (v_laws_eqInt64S (a_0.getD i_l0.toNat default) (b_1.getD i_l0.toNat default)) with
   | true =>
    have y_5 : (-9223372036854775808 : Int) ≤ (i_l0 + 1) := by clear q; exact (by first | assumption | omega | (simp_all <;> omega))
    have y_6 : (i_l0 + 1) ≤ (9223372036854775807 : Int) := by clear q; exact (by first | assumption | omega | (simp_all <;> omega))
    have e : lo_laws_eqInt64SS_1 a_0 b_1 (k + 1) i_l0 = (lo_laws_eqInt64SS_1 a_0 b_1 k (i_l0 + 1)) := by simp only [lo_laws_eqInt64SS_1, h_0, h_1, cond_true]
    rw [e]
    exact nextR E0Ok hMixed [] mk_laws_eqInt64SS_1_0 [] (ih (i_l0 + 1) (show 0 ≤ (i_l0 + 1) from (by first | assumption | omega | (simp_all <;> omega))) (by first | assumption | omega | (simp_all <;> omega))) (q (sB' h_1 <| sI (i_l0 + 1) y_5 y_6 <| sN)) (by kernel_rfl)
   | false =>
    have e : lo_laws_eqInt64SS_1 a_0 b_1 (k + 1) i_l0 = (.inl ()) := by simp only [lo_laws_eqInt64SS_1, h_0, h_1, cond_true, cond_false]
    rw [e]
    exact outR (e := .ret) E0Ok hMixed [] mk_laws_eqInt64SS_1_1 [] (q (sB' h_1 <| sN)) (by kernel_rfl) (by intro h; cases h)
  | false =>
   have gh_0 := of_decide_eq_false h_0
   have e : lo_laws_eqInt64SS_1 a_0 b_1 (k + 1) i_l0 = (.inr ()) := by simp only [lo_laws_eqInt64SS_1, h_0, cond_false]
   rw [e]
   exact outR (e := (.exit 0)) E0Ok hMixed [] mk_laws_eqInt64SS_1_2 [] (p (sB h_0 <| sN)) (by kernel_rfl) (by intro h; cases h)

def lr_laws_eqInt64SS_1_0 (a_0 : (List (List Int))) (b_1 : (List (List Int))) : (Unit) ⊕ (Unit) := (lo_laws_eqInt64SS_1 a_0 b_1 (((a_0.length : Int) - 0).toNat + 1) 0)

def v_laws_eqInt64SS (a_0 : (List (List Int))) (b_1 : (List (List Int))) : Bool := (cond ((a_0.length : Int) != (b_1.length : Int))
  false
  (match (lr_laws_eqInt64SS_1_0 a_0 b_1) with
    | .inl r2 => false
    | .inr r2 => true))

theorem t_laws_eqInt64SS (a_0 : (List (List Int))) (b_1 : (List (List Int))) (hp0 : a_0.length ≤ 1073741824) (hp1 : ∀ t ∈ a_0, t.length ≤ 1073741824) (hp2 : b_1.length ≤ 1073741824) (hp3 : ∀ t ∈ b_1, t.length ≤ 1073741824)  : Fn prog 15 [.sl (a_0.map (cL (cI .i64))), .sl (b_1.map (cL (cI .i64)))] (.b (v_laws_eqInt64SS a_0 b_1)) [] := by
 have p {a C} (s : Scr a C) := sZ (cL (cI .i64)) a_0 <| sZ (cL (cI .i64)) b_1 <| s
 cases h0 : ((a_0.length : Int) != (b_1.length : Int)) with
 | true =>
  have gh0 := bne_iff_ne.1 h0
  refine fnS E0Ok hMixed (c := bodyOf f15) [] (.b false) [] func15 (p (sB h0 <| sK [] sN)) rfl (by kernel_rfl) (by kernel_rfl) rfl ?_ ?_
  · simp only [v_laws_eqInt64SS, h0, cond_true]
  · rfl
 | false =>
  have gh0 := bne_eq_false_iff_eq.1 h0
  have q {a C} (s : Scr a C) := p (sB h0 <| s)
  clear p
  cases h1 : (lr_laws_eqInt64SS_1_0 a_0 b_1) with
  | inl r2 =>
   refine fnS E0Ok hMixed (c := bodyOf f15) [] (.b false) [] func15 (q (sL mk_laws_eqInt64SS_1_0 0 (lp_val (ls_laws_eqInt64SS_1 a_0 b_1) (x := (lr_laws_eqInt64SS_1_0 a_0 b_1)) (lp_laws_eqInt64SS_1 a_0 b_1 hp0 hp1 hp2 hp3 h0 (((a_0.length : Int) - 0).toNat + 1) 0 (show 0 ≤ 0 from (by first | assumption | omega | (simp_all <;> omega))) (Nat.lt_succ_self _)) h1) <| sK [] sN)) rfl (by kernel_rfl) (by kernel_rfl) rfl ?_ ?_
   · simp only [v_laws_eqInt64SS, h0, h1, cond_false]
   · rfl
  | inr r2 =>
   refine fnS E0Ok hMixed (c := bodyOf f15) [] (.b true) [] func15 (q (sL mk_laws_eqInt64SS_1_0 0 (lp_val (ls_laws_eqInt64SS_1 a_0 b_1) (x := (lr_laws_eqInt64SS_1_0 a_0 b_1)) (lp_laws_eqInt64SS_1 a_0 b_1 hp0 hp1 hp2 hp3 h0 (((a_0.length : Int) - 0).toNat + 1) 0 (show 0 ≤ 0 from (by first | assumption | omega | (simp_all <;> omega))) (Nat.lt_succ_self _)) h1) <| sK [] sN)) rfl (by kernel_rfl) (by kernel_rfl) rfl ?_ ?_
   · simp only [v_laws_eqInt64SS, h0, h1, cond_false]
   · rfl

theorem eqInt64SS_self (a : List (List Int)) : v_laws_eqInt64SS a a = true := by
  unfold v_laws_eqInt64SS lr_laws_eqInt64SS_1_0
  rw [all_from (a := a) (p := fun v => v_laws_eqInt64S v v) (lo := lo_laws_eqInt64SS_1 a a) (x := ()) (y := ()) (fun k i => rfl)]
  rw [show (a.all fun v => v_laws_eqInt64S v v) = true from by rw [List.all_eq_true]; intro v _; exact eqInt64S_self v]
  simp

def v_laws_eqMesh (a_0 : GMesh) (b_1 : GMesh) : Bool := (cond (v_laws_eqVectorS a_0.Places b_1.Places)
  (cond (v_laws_eqInt64SS a_0.Triangles b_1.Triangles)
    true
    false)
  false)

theorem t_laws_eqMesh (a_0 : GMesh) (b_1 : GMesh) (hp0 : a_0.Places.length ≤ 1073741824) (hp1 : a_0.Triangles.length ≤ 1073741824) (hp2 : ∀ t ∈ a_0.Triangles, t.length ≤ 1073741824) (hp3 : b_1.Places.length ≤ 1073741824) (hp4 : b_1.Triangles.length ≤ 1073741824) (hp5 : ∀ t ∈ b_1.Triangles, t.length ≤ 1073741824)  : Fn prog 16 [.agg [.sl (a_0.Places.map GVector.cells), .sl (a_0.Triangles.map (cL (cI .i64)))], .agg [.sl (b_1.Places.map GVector.cells), .sl (b_1.Triangles.map (cL (cI .i64)))]] (.b (v_laws_eqMesh a_0 b_1)) [] := by
 have p {a C} (s : Scr a C) := sF (t_laws_eqVectorS a_0.Places b_1.Places hp0 hp3) <| s
 cases h0 : (v_laws_eqVectorS a_0.Places b_1.Places) with
 | true =>
  have q {a C} (s : Scr a C) := p (sB' h0 <| sF (t_laws_eqInt64SS a_0.Triangles b_1.Triangles hp1 hp2 hp4 hp5) <| s)
  clear p
  cases h1 : (v_laws_eqInt64SS a_0.Triangles b_1.Triangles) with
  | true =>
   refine fnS E0Ok hMixed (c := bodyOf f16) [] (.b true) [] func16 (q (sB' h1 <| sK [] sN)) rfl (by kernel_rfl) (by kernel_rfl) rfl ?_ ?_
   · simp only [v_laws_eqMesh, h0, h1, cond_true]
   · rfl
  | false =>
   refine fnS E0Ok hMixed (c := bodyOf f16) [] (.b false) [] func16 (q (sB' h1 <| sK [] sN)) rfl (by kernel_rfl) (by kernel_rfl) rfl ?_ ?_
   · simp only [v_laws_eqMesh, h0, h1, cond_true, cond_false]
   · rfl
 | false =>
  refine fnS E0Ok hMixed (c := bodyOf f16) [] (.b false) [] func16 (p (sB' h0 <| sK [] sN)) rfl (by kernel_rfl) (by kernel_rfl) rfl ?_ ?_
  · simp only [v_laws_eqMesh, h0, cond_false]
  · rfl

end Go.Ab
