/- The functions of this seat as plain Lean, and that the program's are these. Printed by a program of the prover's own. -/
import Derived.Test.YtiihcpcabmamiaaB6
set_option linter.unusedVariables false
set_option linter.unusedSimpArgs false
set_option maxRecDepth 100000
namespace Go.Ab
open Go.RowKit Go.Proofs.Try

def nd_impl_thirdOf_0 (t_0 : (List Int)) (e_1 : Gedge) : Int := (IntKind.wrap .i64 ((IntKind.wrap .i64 ((IntKind.wrap .i64 ((IntKind.wrap .i64 ((t_0.getD 0 default) + (t_0.getD 1 default))) + (t_0.getD 2 default))) - e_1.e0)) - e_1.e1))

def v_impl_thirdOf (t_0 : (List Int)) (e_1 : Gedge) : Int := (nd_impl_thirdOf_0 t_0 e_1)

theorem t_impl_thirdOf (t_0 : (List Int)) (e_1 : Gedge) (hp0 : t_0.length ≤ 1073741824) (hp1 : t_0.length = 3)  : Fn prog 107 [.sl (t_0.map (cI .i64)), .agg [.i .i64 e_1.e0, .i .i64 e_1.e1]] (.i .i64 (v_impl_thirdOf t_0 e_1)) [] := by
 have y0 : (0 : Int) ≤ 0 := (by first | assumption | omega | (simp_all <;> omega))
 have y1 : 0 < (t_0.length : Int) := (by first | assumption | omega | (simp_all <;> omega))
 have y2 : (0 : Int) ≤ 1 := (by first | assumption | omega | (simp_all <;> omega))
 have y3 : 1 < (t_0.length : Int) := (by first | assumption | omega | (simp_all <;> omega))
 have y4 : (0 : Int) ≤ 2 := (by first | assumption | omega | (simp_all <;> omega))
 have y5 : 2 < (t_0.length : Int) := (by first | assumption | omega | (simp_all <;> omega))
 refine fnS E0Ok hMixed (c := bodyOf f107) [] (.i .i64 (nd_impl_thirdOf_0 t_0 e_1)) [] func107 (sK [16, 16] <| sG (cI .i64) t_0 0 y0 y1 <| sG (cI .i64) t_0 1 y2 y3 <| sW .i64 ((t_0.getD 0 default) + (t_0.getD 1 default)) <| sG (cI .i64) t_0 2 y4 y5 <| sW .i64 ((IntKind.wrap .i64 ((t_0.getD 0 default) + (t_0.getD 1 default))) + (t_0.getD 2 default)) <| sC (show (0 : Int) ≤ 0 ∧ 0 < ((2 : Nat) : Int) from (by decide)) <| sW .i64 ((IntKind.wrap .i64 ((IntKind.wrap .i64 ((t_0.getD 0 default) + (t_0.getD 1 default))) + (t_0.getD 2 default))) - e_1.e0) <| sC (show (0 : Int) ≤ 1 ∧ 1 < ((2 : Nat) : Int) from (by decide)) <| sM (show IntKind.wrap .i64 ((IntKind.wrap .i64 ((IntKind.wrap .i64 ((IntKind.wrap .i64 ((t_0.getD 0 default) + (t_0.getD 1 default))) + (t_0.getD 2 default))) - e_1.e0)) - e_1.e1) = (nd_impl_thirdOf_0 t_0 e_1) from rfl) <| sK [] sN) rfl (by kernel_rfl) (by kernel_rfl) rfl ?_ ?_
 · rfl
 · rfl

def nd_impl_hingesOf_0 (m_0 : GMesh) (x_l0 : Int) : Int := (v_impl_thirdOf (m_0.Triangles.getD ((((v_impl_trianglesByEdge m_0).1).getD (midx ((v_impl_trianglesByEdge m_0).1) (((v_impl_trianglesByEdge m_0).2).getD x_l0.toNat default)) default).2.getD 0 default).toNat default) (((v_impl_trianglesByEdge m_0).2).getD x_l0.toNat default))

def nd_impl_hingesOf_1 (m_0 : GMesh) (x_l0 : Int) : Int := (v_impl_thirdOf (m_0.Triangles.getD ((((v_impl_trianglesByEdge m_0).1).getD (midx ((v_impl_trianglesByEdge m_0).1) (((v_impl_trianglesByEdge m_0).2).getD x_l0.toNat default)) default).2.getD 1 default).toNat default) (((v_impl_trianglesByEdge m_0).2).getD x_l0.toNat default))

def lo_impl_hingesOf_1 (m_0 : GMesh) : Nat → Int → (List (List Int)) → (List (List Int))
  | 0, _, _ => default
  | k + 1, x_l0, r1_l1 => (cond (decide (x_l0 < (((v_impl_trianglesByEdge m_0).2).length : Int)))
    (cond (mhas ((v_impl_trianglesByEdge m_0).1) (((v_impl_trianglesByEdge m_0).2).getD x_l0.toNat default))
      (cond (((((v_impl_trianglesByEdge m_0).1).getD (midx ((v_impl_trianglesByEdge m_0).1) (((v_impl_trianglesByEdge m_0).2).getD x_l0.toNat default)) default).2.length : Int) == 2)
        (lo_impl_hingesOf_1 m_0 k (x_l0 + 1) (r1_l1 ++ [[(((v_impl_trianglesByEdge m_0).2).getD x_l0.toNat default).e0, (((v_impl_trianglesByEdge m_0).2).getD x_l0.toNat default).e1, (nd_impl_hingesOf_0 m_0 x_l0), (nd_impl_hingesOf_1 m_0 x_l0)]]))
        (lo_impl_hingesOf_1 m_0 k (x_l0 + 1) r1_l1))
      (lo_impl_hingesOf_1 m_0 k (x_l0 + 1) r1_l1))
    r1_l1)

def ls_impl_hingesOf_1 (m_0 : GMesh) (r : (List (List Int))) : Ex × St := ((.exit 0), ⟨[.agg [.sl (m_0.Places.map GVector.cells), .sl (m_0.Triangles.map (cL (cI .i64)))], .ptr 0 0 0, .nils, .own 1, .any, .own 2, .any, .any, .any, .any, .any, .agg [.sl (m_0.Places.map GVector.cells), .sl (m_0.Triangles.map (cL (cI .i64)))], .any, .mp 3, .own 2, .own 2, .any, .any, .any, .any, .any, .any, .any, .any, .any, .any, .any, .any, .any, .any, .any, .any, .any, .any, .any, .any, .any, .any, .any, .any, .any, .any, .any, .any, .any, .any, .any, .any, .any, .any, .any, .any, .any, .any, .any], [.box 31 [.sl (m_0.Places.map GVector.cells), .sl (m_0.Triangles.map (cL (cI .i64)))], .nest 52 (r.map fun l => l.map (cI .i64)) false, .vec 100 2 (((v_impl_trianglesByEdge m_0).2).map Gedge.cells) false, .mapN 2 (mapC Gedge.pr (cI .i64) ((v_impl_trianglesByEdge m_0).1)) none]⟩)

def hd_impl_hingesOf_1 (m_0 : GMesh) (x_l0 : Int) (r1_l1 : (List (List Int))) : St := ⟨[.agg [.sl (m_0.Places.map GVector.cells), .sl (m_0.Triangles.map (cL (cI .i64)))], .ptr 0 0 0, .nils, .own 1, .mp 2, .own 3, .any, .any, .any, .any, .any, .agg [.sl (m_0.Places.map GVector.cells), .sl (m_0.Triangles.map (cL (cI .i64)))], .any, .mp 2, .own 3, .own 3, .i .i64 (((v_impl_trianglesByEdge m_0).2).length : Int), .i .i64 x_l0, .any, .any, .any, .any, .any, .any, .any, .any, .any, .any, .any, .any, .any, .any, .any, .any, .any, .any, .any, .any, .any, .any, .any, .any, .any, .any, .any, .any, .any, .any, .any, .any, .any, .any, .any, .any, .any], [.box 31 [.sl (m_0.Places.map GVector.cells), .sl (m_0.Triangles.map (cL (cI .i64)))], .nest 52 (r1_l1.map fun l => l.map (cI .i64)) false, .mapN 2 (mapC Gedge.pr (cI .i64) ((v_impl_trianglesByEdge m_0).1)) none, .vec 100 2 (((v_impl_trianglesByEdge m_0).2).map Gedge.cells) false]⟩

def mk_impl_hingesOf_1_0 : List Bool := [true, true, true, true, true, true, false, false, false, false, false, true, false, true, true, true, true, true, false, false, false, false, false, false, false, false, false, false, false, false, false, false, false, false, false, false, false, false, false, false, false, false, false, false, false, false, false, false, false, false, false, false, false, false, false]

def mk_impl_hingesOf_1_1 : List Bool := [true, true, true, true, false, true, false, false, false, false, false, true, false, true, true, true, false, false, false, false, false, false, false, false, false, false, false, false, false, false, false, false, false, false, false, false, false, false, false, false, false, false, false, false, false, false, false, false, false, false, false, false, false, false, false]

theorem lp_impl_hingesOf_1 (m_0 : GMesh) (hp0 : m_0.Places.length ≤ 1073741824) (hp1 : m_0.Triangles.length ≤ 1073741824) (hp2 : ∀ t ∈ m_0.Triangles, t.length ≤ 1073741824) (hp3 : OkE m_0.Places.length m_0.Triangles) : ∀ (k : Nat) (x_l0 : Int) (r1_l1 : (List (List Int))) (hv_impl_hingesOf_1_0 : 0 ≤ x_l0) (hv_impl_hingesOf_1_1 : (r1_l1.length : Int) ≤ x_l0) (hk : ((((v_impl_trianglesByEdge m_0).2).length : Int) - x_l0).toNat < k), Lp prog 0 (sub (bodyOf f57) [1, 1, 1, 0, 1, 0, 0]) (hd_impl_hingesOf_1 m_0 x_l0 r1_l1) (ls_impl_hingesOf_1 m_0 (lo_impl_hingesOf_1 m_0 k x_l0 r1_l1)).1 (ls_impl_hingesOf_1 m_0 (lo_impl_hingesOf_1 m_0 k x_l0 r1_l1)).2 := by
 intro k
 induction k with
 | zero => intro x_l0 r1_l1 hv_impl_hingesOf_1_0 hv_impl_hingesOf_1_1 hk; exact absurd hk (Nat.not_lt_zero _)
 | succ k ih =>
  intro x_l0 r1_l1 hv_impl_hingesOf_1_0 hv_impl_hingesOf_1_1 hk
  cases h_0 : (decide (x_l0 < (((v_impl_trianglesByEdge m_0).2).length : Int))) with
  | true =>
   have gh_0 := of_decide_eq_true h_0
   have y_0 : (0 : Int) ≤ x_l0 := (by first | assumption | omega | (first | (have q := hg_at m_0 hp3 hv_impl_hingesOf_1_0 (of_decide_eq_true (by assumption)) (by assumption); omega) | (have q := edges_nth m_0 hp3 hv_impl_hingesOf_1_0 (of_decide_eq_true (by assumption)); first | omega | (simp only [List.length_append, List.length_cons, List.length_nil]; omega)) | (have q := edges_len m_0 hp3; omega)) | (simp_all <;> omega))
   have y_1 : x_l0 < (((v_impl_trianglesByEdge m_0).2).length : Int) := (by first | assumption | omega | (first | (have q := hg_at m_0 hp3 hv_impl_hingesOf_1_0 (of_decide_eq_true (by assumption)) (by assumption); omega) | (have q := edges_nth m_0 hp3 hv_impl_hingesOf_1_0 (of_decide_eq_true (by assumption)); first | omega | (simp only [List.length_append, List.length_cons, List.length_nil]; omega)) | (have q := edges_len m_0 hp3; omega)) | (simp_all <;> omega))
   have y_2 : x_l0.toNat < ((v_impl_trianglesByEdge m_0).2).length := (by first | assumption | omega | (first | (have q := hg_at m_0 hp3 hv_impl_hingesOf_1_0 (of_decide_eq_true (by assumption)) (by assumption); omega) | (have q := edges_nth m_0 hp3 hv_impl_hingesOf_1_0 (of_decide_eq_true (by assumption)); first | omega | (simp only [List.length_append, List.length_cons, List.length_nil]; omega)) | (have q := edges_len m_0 hp3; omega)) | (simp_all <;> omega))
   have p {a C} (s : Scr a C) := sB h_0 <| sX Gedge.cells ((v_impl_trianglesByEdge m_0).2) x_l0 y_0 y_1 <| sV Gedge.cells ((v_impl_trianglesByEdge m_0).2) x_l0.toNat y_2 <| s
   cases h_1 : (mhas ((v_impl_trianglesByEdge m_0).1) (((v_impl_trianglesByEdge m_0).2).getD x_l0.toNat default)) with
   | true =>
    have m_8 := midx_lt h_1
    have q {a C} (s : Scr a C) := p (sA (.keep [midx ((v_impl_trianglesByEdge m_0).1) (((v_impl_trianglesByEdge m_0).2).getD x_l0.toNat default)]) <| sC (mget_ok (ck := Gedge.pr) (cv := (cI .i64)) h_1) <| sM (mget_len (ck := Gedge.pr) (cv := (cI .i64)) (l := (v_impl_trianglesByEdge m_0).1) (j := (midx ((v_impl_trianglesByEdge m_0).1) (((v_impl_trianglesByEdge m_0).2).getD x_l0.toNat default)))) <| s)
    clear p
    cases h_2 : (((((v_impl_trianglesByEdge m_0).1).getD (midx ((v_impl_trianglesByEdge m_0).1) (((v_impl_trianglesByEdge m_0).2).getD x_l0.toNat default)) default).2.length : Int) == 2) with
    | true =>
     have gh_2 := eq_of_beq h_2
     have y_3 : (0 : Int) ≤ 0 := by clear q; exact (by first | assumption | omega | (first | (have q := hg_at m_0 hp3 hv_impl_hingesOf_1_0 (of_decide_eq_true (by assumption)) (by assumption); omega) | (have q := edges_nth m_0 hp3 hv_impl_hingesOf_1_0 (of_decide_eq_true (by assumption)); first | omega | (simp only [List.length_append, List.length_cons, List.length_nil]; omega)) | (have q := edges_len m_0 hp3; omega)) | (simp_all <;> omega))
     have y_4 : 0 < ((((v_impl_trianglesByEdge m_0).1).getD (midx ((v_impl_trianglesByEdge m_0).1) (((v_impl_trianglesByEdge m_0).2).getD x_l0.toNat default)) default).2.length : Int) := by clear q; exact (by first | assumption | omega | (first | (have q := hg_at m_0 hp3 hv_impl_hingesOf_1_0 (of_decide_eq_true (by assumption)) (by assumption); omega) | (have q := edges_nth m_0 hp3 hv_impl_hingesOf_1_0 (of_decide_eq_true (by assumption)); first | omega | (simp only [List.length_append, List.length_cons, List.length_nil]; omega)) | (have q := edges_len m_0 hp3; omega)) | (simp_all <;> omega))
     have y_5 : 0 < (((v_impl_trianglesByEdge m_0).1).getD (midx ((v_impl_trianglesByEdge m_0).1) (((v_impl_trianglesByEdge m_0).2).getD x_l0.toNat default)) default).2.length := by clear q; exact (by first | assumption | omega | (first | (have q := hg_at m_0 hp3 hv_impl_hingesOf_1_0 (of_decide_eq_true (by assumption)) (by assumption); omega) | (have q := edges_nth m_0 hp3 hv_impl_hingesOf_1_0 (of_decide_eq_true (by assumption)); first | omega | (simp only [List.length_append, List.length_cons, List.length_nil]; omega)) | (have q := edges_len m_0 hp3; omega)) | (simp_all <;> omega))
     have y_6 : (0 : Int) ≤ ((((v_impl_trianglesByEdge m_0).1).getD (midx ((v_impl_trianglesByEdge m_0).1) (((v_impl_trianglesByEdge m_0).2).getD x_l0.toNat default)) default).2.getD 0 default) := by clear q; exact (by first | assumption | omega | (first | (have q := hg_at m_0 hp3 hv_impl_hingesOf_1_0 (of_decide_eq_true (by assumption)) (by assumption); omega) | (have q := edges_nth m_0 hp3 hv_impl_hingesOf_1_0 (of_decide_eq_true (by assumption)); first | omega | (simp only [List.length_append, List.length_cons, List.length_nil]; omega)) | (have q := edges_len m_0 hp3; omega)) | (simp_all <;> omega))
     have y_7 : ((((v_impl_trianglesByEdge m_0).1).getD (midx ((v_impl_trianglesByEdge m_0).1) (((v_impl_trianglesByEdge m_0).2).getD x_l0.toNat default)) default).2.getD 0 default) < (m_0.Triangles.length : Int) := by clear q; exact (by first | assumption | omega | (first | (have q := hg_at m_0 hp3 hv_impl_hingesOf_1_0 (of_decide_eq_true (by assumption)) (by assumption); omega) | (have q := edges_nth m_0 hp3 hv_impl_hingesOf_1_0 (of_decide_eq_true (by assumption)); first | omega | (simp only [List.length_append, List.length_cons, List.length_nil]; omega)) | (have q := edges_len m_0 hp3; omega)) | (simp_all <;> omega))
     have y_8 : (m_0.Triangles.getD ((((v_impl_trianglesByEdge m_0).1).getD (midx ((v_impl_trianglesByEdge m_0).1) (((v_impl_trianglesByEdge m_0).2).getD x_l0.toNat default)) default).2.getD 0 default).toNat default).length ≤ 1073741824 := by clear q; exact (by first | assumption | omega | (have q := hg_at m_0 hp3 hv_impl_hingesOf_1_0 (of_decide_eq_true (by assumption)) (by assumption); have q1 := (hp3.tris.at q.1 q.2.1).1; have q2 := (hp3.tris.at q.2.2.1 q.2.2.2.1).1; first | exact q1 | exact q2 | omega))
     have y_9 : (m_0.Triangles.getD ((((v_impl_trianglesByEdge m_0).1).getD (midx ((v_impl_trianglesByEdge m_0).1) (((v_impl_trianglesByEdge m_0).2).getD x_l0.toNat default)) default).2.getD 0 default).toNat default).length = 3 := by clear q; exact (by first | assumption | omega | (have q := hg_at m_0 hp3 hv_impl_hingesOf_1_0 (of_decide_eq_true (by assumption)) (by assumption); have q1 := (hp3.tris.at q.1 q.2.1).1; have q2 := (hp3.tris.at q.2.2.1 q.2.2.2.1).1; first | exact q1 | exact q2 | omega))
     have y_10 : (0 : Int) ≤ 1 := by clear q; exact (by first | assumption | omega | (first | (have q := hg_at m_0 hp3 hv_impl_hingesOf_1_0 (of_decide_eq_true (by assumption)) (by assumption); omega) | (have q := edges_nth m_0 hp3 hv_impl_hingesOf_1_0 (of_decide_eq_true (by assumption)); first | omega | (simp only [List.length_append, List.length_cons, List.length_nil]; omega)) | (have q := edges_len m_0 hp3; omega)) | (simp_all <;> omega))
     have y_11 : 1 < ((((v_impl_trianglesByEdge m_0).1).getD (midx ((v_impl_trianglesByEdge m_0).1) (((v_impl_trianglesByEdge m_0).2).getD x_l0.toNat default)) default).2.length : Int) := by clear q; exact (by first | assumption | omega | (first | (have q := hg_at m_0 hp3 hv_impl_hingesOf_1_0 (of_decide_eq_true (by assumption)) (by assumption); omega) | (have q := edges_nth m_0 hp3 hv_impl_hingesOf_1_0 (of_decide_eq_true (by assumption)); first | omega | (simp only [List.length_append, List.length_cons, List.length_nil]; omega)) | (have q := edges_len m_0 hp3; omega)) | (simp_all <;> omega))
     have y_12 : 1 < (((v_impl_trianglesByEdge m_0).1).getD (midx ((v_impl_trianglesByEdge m_0).1) (((v_impl_trianglesByEdge m_0).2).getD x_l0.toNat default)) default).2.length := by clear q; exact (by first | assumption | omega | (first | (have q := hg_at m_0 hp3 hv_impl_hingesOf_1_0 (of_decide_eq_true (by assumption)) (by assumption); omega) | (have q := edges_nth m_0 hp3 hv_impl_hingesOf_1_0 (of_decide_eq_true (by assumption)); first | omega | (simp only [List.length_append, List.length_cons, List.length_nil]; omega)) | (have q := edges_len m_0 hp3; omega)) | (simp_all <;> omega))
     have y_13 : (0 : Int) ≤ ((((v_impl_trianglesByEdge m_0).1).getD (midx ((v_impl_trianglesByEdge m_0).1) (((v_impl_trianglesByEdge m_0).2).getD x_l0.toNat default)) default).2.getD 1 default) := by clear q; exact (by first | assumption | omega | (first | (have q := hg_at m_0 hp3 hv_impl_hingesOf_1_0 (of_decide_eq_true (by assumption)) (by assumption); omega) | (have q := edges_nth m_0 hp3 hv_impl_hingesOf_1_0 (of_decide_eq_true (by assumption)); first | omega | (simp only [List.length_append, List.length_cons, List.length_nil]; omega)) | (have q := edges_len m_0 hp3; omega)) | (simp_all <;> omega))
     have y_14 : ((((v_impl_trianglesByEdge m_0).1).getD (midx ((v_impl_trianglesByEdge m_0).1) (((v_impl_trianglesByEdge m_0).2).getD x_l0.toNat default)) default).2.getD 1 default) < (m_0.Triangles.length : Int) := by clear q; exact (by first | assumption | omega | (first | (have q := hg_at m_0 hp3 hv_impl_hingesOf_1_0 (of_decide_eq_true (by assumption)) (by assumption); omega) | (have q := edges_nth m_0 hp3 hv_impl_hingesOf_1_0 (of_decide_eq_true (by assumption)); first | omega | (simp only [List.length_append, List.length_cons, List.length_nil]; omega)) | (have q := edges_len m_0 hp3; omega)) | (simp_all <;> omega))
     have y_15 : (m_0.Triangles.getD ((((v_impl_trianglesByEdge m_0).1).getD (midx ((v_impl_trianglesByEdge m_0).1) (((v_impl_trianglesByEdge m_0).2).getD x_l0.toNat default)) default).2.getD 1 default).toNat default).length ≤ 1073741824 := by clear q; exact (by first | assumption | omega | (have q := hg_at m_0 hp3 hv_impl_hingesOf_1_0 (of_decide_eq_true (by assumption)) (by assumption); have q1 := (hp3.tris.at q.1 q.2.1).1; have q2 := (hp3.tris.at q.2.2.1 q.2.2.2.1).1; first | exact q1 | exact q2 | omega))
     have y_16 : (m_0.Triangles.getD ((((v_impl_trianglesByEdge m_0).1).getD (midx ((v_impl_trianglesByEdge m_0).1) (((v_impl_trianglesByEdge m_0).2).getD x_l0.toNat default)) default).2.getD 1 default).toNat default).length = 3 := by clear q; exact (by first | assumption | omega | (have q := hg_at m_0 hp3 hv_impl_hingesOf_1_0 (of_decide_eq_true (by assumption)) (by assumption); have q1 := (hp3.tris.at q.1 q.2.1).1; have q2 := (hp3.tris.at q.2.2.1 q.2.2.2.1).1; first | exact q1 | exact q2 | omega))
     have y_17 : r1_l1.length + [[(((v_impl_trianglesByEdge m_0).2).getD x_l0.toNat default).e0, (((v_impl_trianglesByEdge m_0).2).getD x_l0.toNat default).e1, (nd_impl_hingesOf_0 m_0 x_l0), (nd_impl_hingesOf_1 m_0 x_l0)]].length ≤ 1073741824 := by clear q; exact (by first | assumption | omega | (first | (have q := hg_at m_0 hp3 hv_impl_hingesOf_1_0 (of_decide_eq_true (by assumption)) (by assumption); omega) | (have q := edges_nth m_0 hp3 hv_impl_hingesOf_1_0 (of_decide_eq_true (by assumption)); first | omega | (simp only [List.length_append, List.length_cons, List.length_nil]; omega)) | (have q := edges_len m_0 hp3; omega)) | (simp_all <;> omega))
     have y_18 : (-9223372036854775808 : Int) ≤ (x_l0 + 1) := by clear q; exact (by first | assumption | omega | (first | (have q := hg_at m_0 hp3 hv_impl_hingesOf_1_0 (of_decide_eq_true (by assumption)) (by assumption); omega) | (have q := edges_nth m_0 hp3 hv_impl_hingesOf_1_0 (of_decide_eq_true (by assumption)); first | omega | (simp only [List.length_append, List.length_cons, List.length_nil]; omega)) | (have q := edges_len m_0 hp3; omega)) | (simp_all <;> omega))
     have y_19 : (x_l0 + 1) ≤ (9223372036854775807 : Int) := by clear q; exact (by first | assumption | omega | (first | (have q := hg_at m_0 hp3 hv_impl_hingesOf_1_0 (of_decide_eq_true (by assumption)) (by assumption); omega) | (have q := edges_nth m_0 hp3 hv_impl_hingesOf_1_0 (of_decide_eq_true (by assumption)); first | omega | (simp only [List.length_append, List.length_cons, List.length_nil]; omega)) | (have q := edges_len m_0 hp3; omega)) | (simp_all <;> omega))
     have e : lo_impl_hingesOf_1 m_0 (k + 1) x_l0 r1_l1 = (lo_impl_hingesOf_1 m_0 k (x_l0 + 1) (r1_l1 ++ [[(((v_impl_trianglesByEdge m_0).2).getD x_l0.toNat default).e0, (((v_impl_trianglesByEdge m_0).2).getD x_l0.toNat default).e1, (nd_impl_hingesOf_0 m_0 x_l0), (nd_impl_hingesOf_1 m_0 x_l0)]])) := by simp only [lo_impl_hingesOf_1, h_0, h_1, h_2, cond_true]
     rw [e]
     exact nextS E0Ok hMixed [] mk_impl_hingesOf_1_0 [0, 1, 2, 3] (⟨[.agg [.sl (m_0.Places.map GVector.cells), .sl (m_0.Triangles.map (cL (cI .i64)))], .ptr 0 0 0, .nils, .own 1, .mp 2, .own 3, .any, .any, .any, .any, .any, .agg [.sl (m_0.Places.map GVector.cells), .sl (m_0.Triangles.map (cL (cI .i64)))], .any, .mp 2, .own 3, .own 3, .i .i64 (((v_impl_trianglesByEdge m_0).2).length : Int), .i .i64 (x_l0 + 1), .any, .any, .any, .any, .any, .any, .any, .any, .any, .any, .any, .any, .any, .any, .any, .any, .any, .any, .any, .any, .any, .any, .any, .any, .any, .any, .any, .any, .any, .any, .any, .any, .any, .any, .any, .any, .any], [.box 31 [.sl (m_0.Places.map GVector.cells), .sl (m_0.Triangles.map (cL (cI .i64)))], .nest 52 ((r1_l1.map fun l => l.map (cI .i64)) ++ [([[.i .i64 ((((v_impl_trianglesByEdge m_0).2).getD x_l0.toNat default).e0)], [.i .i64 ((((v_impl_trianglesByEdge m_0).2).getD x_l0.toNat default).e1)], [.i .i64 (nd_impl_hingesOf_0 m_0 x_l0)], [.i .i64 (nd_impl_hingesOf_1 m_0 x_l0)]] : List (List AV))]) false, .mapN 2 (mapC Gedge.pr (cI .i64) ((v_impl_trianglesByEdge m_0).1)) none, .vec 100 2 (((v_impl_trianglesByEdge m_0).2).map Gedge.cells) false]⟩) (q (sB h_2 <| sK [25, 25] <| sC (show (0 : Int) ≤ 0 ∧ 0 < ((2 : Nat) : Int) from (by decide)) <| sC (show (0 : Int) ≤ 1 ∧ 1 < ((2 : Nat) : Int) from (by decide)) <| sC (mget_ix (ck := Gedge.pr) (cv := (cI .i64)) (l := (v_impl_trianglesByEdge m_0).1) (j := (midx ((v_impl_trianglesByEdge m_0).1) (((v_impl_trianglesByEdge m_0).2).getD x_l0.toNat default))) (i := 0) y_3 y_4) <| sE (mget_el (ck := Gedge.pr) (cv := (cI .i64)) (l := (v_impl_trianglesByEdge m_0).1) (j := (midx ((v_impl_trianglesByEdge m_0).1) (((v_impl_trianglesByEdge m_0).2).getD x_l0.toNat default))) (i := 0) y_5) <| sG (cL (cI .i64)) m_0.Triangles ((((v_impl_trianglesByEdge m_0).1).getD (midx ((v_impl_trianglesByEdge m_0).1) (((v_impl_trianglesByEdge m_0).2).getD x_l0.toNat default)) default).2.getD 0 default) y_6 y_7 <| sF (t_impl_thirdOf (m_0.Triangles.getD ((((v_impl_trianglesByEdge m_0).1).getD (midx ((v_impl_trianglesByEdge m_0).1) (((v_impl_trianglesByEdge m_0).2).getD x_l0.toNat default)) default).2.getD 0 default).toNat default) (((v_impl_trianglesByEdge m_0).2).getD x_l0.toNat default) y_8 y_9) <| sC (mget_ix (ck := Gedge.pr) (cv := (cI .i64)) (l := (v_impl_trianglesByEdge m_0).1) (j := (midx ((v_impl_trianglesByEdge m_0).1) (((v_impl_trianglesByEdge m_0).2).getD x_l0.toNat default))) (i := 1) y_10 y_11) <| sE (mget_el (ck := Gedge.pr) (cv := (cI .i64)) (l := (v_impl_trianglesByEdge m_0).1) (j := (midx ((v_impl_trianglesByEdge m_0).1) (((v_impl_trianglesByEdge m_0).2).getD x_l0.toNat default))) (i := 1) y_12) <| sG (cL (cI .i64)) m_0.Triangles ((((v_impl_trianglesByEdge m_0).1).getD (midx ((v_impl_trianglesByEdge m_0).1) (((v_impl_trianglesByEdge m_0).2).getD x_l0.toNat default)) default).2.getD 1 default) y_13 y_14 <| sF (t_impl_thirdOf (m_0.Triangles.getD ((((v_impl_trianglesByEdge m_0).1).getD (midx ((v_impl_trianglesByEdge m_0).1) (((v_impl_trianglesByEdge m_0).2).getD x_l0.toNat default)) default).2.getD 1 default).toNat default) (((v_impl_trianglesByEdge m_0).2).getD x_l0.toNat default) y_15 y_16) <| sC (show (r1_l1.map fun l => l.map (cI .i64)).length + [([[.i .i64 ((((v_impl_trianglesByEdge m_0).2).getD x_l0.toNat default).e0)], [.i .i64 ((((v_impl_trianglesByEdge m_0).2).getD x_l0.toNat default).e1)], [.i .i64 (nd_impl_hingesOf_0 m_0 x_l0)], [.i .i64 (nd_impl_hingesOf_1 m_0 x_l0)]] : List (List AV))].length ≤ 1073741824 from (by simpa using y_17)) <| sI (x_l0 + 1) y_18 y_19 <| sN)) (by kernel_rfl) (show _ = ⟨[.agg [.sl (m_0.Places.map GVector.cells), .sl (m_0.Triangles.map (cL (cI .i64)))], .ptr 0 0 0, .nils, .own 1, .mp 2, .own 3, .any, .any, .any, .any, .any, .agg [.sl (m_0.Places.map GVector.cells), .sl (m_0.Triangles.map (cL (cI .i64)))], .any, .mp 2, .own 3, .own 3, .i .i64 (((v_impl_trianglesByEdge m_0).2).length : Int), .i .i64 (x_l0 + 1), .any, .any, .any, .any, .any, .any, .any, .any, .any, .any, .any, .any, .any, .any, .any, .any, .any, .any, .any, .any, .any, .any, .any, .any, .any, .any, .any, .any, .any, .any, .any, .any, .any, .any, .any, .any, .any], [.box 31 [.sl (m_0.Places.map GVector.cells), .sl (m_0.Triangles.map (cL (cI .i64)))], .nest 52 ((r1_l1 ++ [[(((v_impl_trianglesByEdge m_0).2).getD x_l0.toNat default).e0, (((v_impl_trianglesByEdge m_0).2).getD x_l0.toNat default).e1, (nd_impl_hingesOf_0 m_0 x_l0), (nd_impl_hingesOf_1 m_0 x_l0)]]).map fun l => l.map (cI .i64)) false, .mapN 2 (mapC Gedge.pr (cI .i64) ((v_impl_trianglesByEdge m_0).1)) none, .vec 100 2 (((v_impl_trianglesByEdge m_0).2).map Gedge.cells) false]⟩ from (by simp [cL, cI])) (ih (x_l0 + 1) (r1_l1 ++ [[(((v_impl_trianglesByEdge m_0).2).getD x_l0.toNat default).e0, (((v_impl_trianglesByEdge m_0).2).getD x_l0.toNat default).e1, (nd_impl_hingesOf_0 m_0 x_l0), (nd_impl_hingesOf_1 m_0 x_l0)]]) (show 0 ≤ (x_l0 + 1) from (by first | assumption | omega | (first | (have q := hg_at m_0 hp3 hv_impl_hingesOf_1_0 (of_decide_eq_true (by assumption)) (by assumption); omega) | (have q := edges_nth m_0 hp3 hv_impl_hingesOf_1_0 (of_decide_eq_true (by assumption)); first | omega | (simp only [List.length_append, List.length_cons, List.length_nil]; omega)) | (have q := edges_len m_0 hp3; omega)) | (simp_all <;> omega))) (show ((r1_l1 ++ [[(((v_impl_trianglesByEdge m_0).2).getD x_l0.toNat default).e0, (((v_impl_trianglesByEdge m_0).2).getD x_l0.toNat default).e1, (nd_impl_hingesOf_0 m_0 x_l0), (nd_impl_hingesOf_1 m_0 x_l0)]]).length : Int) ≤ (x_l0 + 1) from (by first | assumption | omega | (first | (have q := hg_at m_0 hp3 hv_impl_hingesOf_1_0 (of_decide_eq_true (by assumption)) (by assumption); omega) | (have q := edges_nth m_0 hp3 hv_impl_hingesOf_1_0 (of_decide_eq_true (by assumption)); first | omega | (simp only [List.length_append, List.length_cons, List.length_nil]; omega)) | (have q := edges_len m_0 hp3; omega)) | (simp_all <;> omega))) (by first | assumption | omega | (first | (have q := hg_at m_0 hp3 hv_impl_hingesOf_1_0 (of_decide_eq_true (by assumption)) (by assumption); omega) | (have q := edges_nth m_0 hp3 hv_impl_hingesOf_1_0 (of_decide_eq_true (by assumption)); first | omega | (simp only [List.length_append, List.length_cons, List.length_nil]; omega)) | (have q := edges_len m_0 hp3; omega)) | (simp_all <;> omega)))
    | false =>
     have gh_2 := ne_of_beq_false h_2
     have y_3 : (-9223372036854775808 : Int) ≤ (x_l0 + 1) := by clear q; exact (by first | assumption | omega | (first | (have q := hg_at m_0 hp3 hv_impl_hingesOf_1_0 (of_decide_eq_true (by assumption)) (by assumption); omega) | (have q := edges_nth m_0 hp3 hv_impl_hingesOf_1_0 (of_decide_eq_true (by assumption)); first | omega | (simp only [List.length_append, List.length_cons, List.length_nil]; omega)) | (have q := edges_len m_0 hp3; omega)) | (simp_all <;> omega))
     have y_4 : (x_l0 + 1) ≤ (9223372036854775807 : Int) := by clear q; exact (by first | assumption | omega | (first | (have q := hg_at m_0 hp3 hv_impl_hingesOf_1_0 (of_decide_eq_true (by assumption)) (by assumption); omega) | (have q := edges_nth m_0 hp3 hv_impl_hingesOf_1_0 (of_decide_eq_true (by assumption)); first | omega | (simp only [List.length_append, List.length_cons, List.length_nil]; omega)) | (have q := edges_len m_0 hp3; omega)) | (simp_all <;> omega))
     have e : lo_impl_hingesOf_1 m_0 (k + 1) x_l0 r1_l1 = (lo_impl_hingesOf_1 m_0 k (x_l0 + 1) r1_l1) := by simp only [lo_impl_hingesOf_1, h_0, h_1, h_2, cond_true, cond_false]
     rw [e]
     exact nextR E0Ok hMixed [] mk_impl_hingesOf_1_0 [0, 1, 2, 3] (ih (x_l0 + 1) r1_l1 (show 0 ≤ (x_l0 + 1) from (by first | assumption | omega | (first | (have q := hg_at m_0 hp3 hv_impl_hingesOf_1_0 (of_decide_eq_true (by assumption)) (by assumption); omega) | (have q := edges_nth m_0 hp3 hv_impl_hingesOf_1_0 (of_decide_eq_true (by assumption)); first | omega | (simp only [List.length_append, List.length_cons, List.length_nil]; omega)) | (have q := edges_len m_0 hp3; omega)) | (simp_all <;> omega))) (show (r1_l1.length : Int) ≤ (x_l0 + 1) from (by first | assumption | omega | (first | (have q := hg_at m_0 hp3 hv_impl_hingesOf_1_0 (of_decide_eq_true (by assumption)) (by assumption); omega) | (have q := edges_nth m_0 hp3 hv_impl_hingesOf_1_0 (of_decide_eq_true (by assumption)); first | omega | (simp only [List.length_append, List.length_cons, List.length_nil]; omega)) | (have q := edges_len m_0 hp3; omega)) | (simp_all <;> omega))) (by first | assumption | omega | (first | (have q := hg_at m_0 hp3 hv_impl_hingesOf_1_0 (of_decide_eq_true (by assumption)) (by assumption); omega) | (have q := edges_nth m_0 hp3 hv_impl_hingesOf_1_0 (of_decide_eq_true (by assumption)); first | omega | (simp only [List.length_append, List.length_cons, List.length_nil]; omega)) | (have q := edges_len m_0 hp3; omega)) | (simp_all <;> omega))) (q (sB h_2 <| sI (x_l0 + 1) y_3 y_4 <| sN)) (by kernel_rfl)
   | false =>
    have y_3 : (-9223372036854775808 : Int) ≤ (x_l0 + 1) := by clear p; exact (by first | assumption | omega | (first | (have q := hg_at m_0 hp3 hv_impl_hingesOf_1_0 (of_decide_eq_true (by assumption)) (by assumption); omega) | (have q := edges_nth m_0 hp3 hv_impl_hingesOf_1_0 (of_decide_eq_true (by assumption)); first | omega | (simp only [List.length_append, List.length_cons, List.length_nil]; omega)) | (have q := edges_len m_0 hp3; omega)) | (simp_all <;> omega))
    have y_4 : (x_l0 + 1) ≤ (9223372036854775807 : Int) := by clear p; exact (by first | assumption | omega | (first | (have q := hg_at m_0 hp3 hv_impl_hingesOf_1_0 (of_decide_eq_true (by assumption)) (by assumption); omega) | (have q := edges_nth m_0 hp3 hv_impl_hingesOf_1_0 (of_decide_eq_true (by assumption)); first | omega | (simp only [List.length_append, List.length_cons, List.length_nil]; omega)) | (have q := edges_len m_0 hp3; omega)) | (simp_all <;> omega))
    have e : lo_impl_hingesOf_1 m_0 (k + 1) x_l0 r1_l1 = (lo_impl_hingesOf_1 m_0 k (x_l0 + 1) r1_l1) := by simp only [lo_impl_hingesOf_1, h_0, h_1, cond_true, cond_false]
    rw [e]
    exact nextR E0Ok hMixed [] mk_impl_hingesOf_1_0 [0, 1, 2, 3] (ih (x_l0 + 1) r1_l1 (show 0 ≤ (x_l0 + 1) from (by first | assumption | omega | (first | (have q := hg_at m_0 hp3 hv_impl_hingesOf_1_0 (of_decide_eq_true (by assumption)) (by assumption); omega) | (have q := edges_nth m_0 hp3 hv_impl_hingesOf_1_0 (of_decide_eq_true (by assumption)); first | omega | (simp only [List.length_append, List.length_cons, List.length_nil]; omega)) | (have q := edges_len m_0 hp3; omega)) | (simp_all <;> omega))) (show (r1_l1.length : Int) ≤ (x_l0 + 1) from (by first | assumption | omega | (first | (have q := hg_at m_0 hp3 hv_impl_hingesOf_1_0 (of_decide_eq_true (by assumption)) (by assumption); omega) | (have q := edges_nth m_0 hp3 hv_impl_hingesOf_1_0 (of_decide_eq_true (by assumption)); first | omega | (simp only [List.length_append, List.length_cons, List.length_nil]; omega)) | (have q := edges_len m_0 hp3; omega)) | (simp_all <;> omega))) (by first | assumption | omega | (first | (have q := hg_at m_0 hp3 hv_impl_hingesOf_1_0 (of_decide_eq_true (by assumption)) (by assumption); omega) | (have q := edges_nth m_0 hp3 hv_impl_hingesOf_1_0 (of_decide_eq_true (by assumption)); first | omega | (simp only [List.length_append, List.length_cons, List.length_nil]; omega)) | (have q := edges_len m_0 hp3; omega)) | (simp_all <;> omega))) (p (sA (.keep []) <| sC (mnot_ok (ck := Gedge.pr) (cv := (cI .i64)) Gedge.inj h_1) <| sM (show ((0 : Nat) : Int) = 0 from rfl) <| sB (show (0 == 2) = false from rfl) <| sI (x_l0 + 1) y_3 y_4 <| sN)) (by kernel_rfl)
  | false =>
   have gh_0 := of_decide_eq_false h_0
   have e : lo_impl_hingesOf_1 m_0 (k + 1) x_l0 r1_l1 = r1_l1 := by simp only [lo_impl_hingesOf_1, h_0, cond_false]
   rw [e]
   exact outR (e := (.exit 0)) E0Ok hMixed [] mk_impl_hingesOf_1_1 [0, 1, 3, 2] (sB h_0 <| sN) (by kernel_rfl) (by intro h; cases h)

def lr_impl_hingesOf_1_0 (m_0 : GMesh) : (List (List Int)) := (lo_impl_hingesOf_1 m_0 (((((v_impl_trianglesByEdge m_0).2).length : Int) - 0).toNat + 1) 0 ([] : List (List Int)))

def v_impl_hingesOf (m_0 : GMesh) : (List (List Int)) := (lr_impl_hingesOf_1_0 m_0)

theorem impl_hingesOf_eq (m : GMesh) (ok : OkE m.Places.length m.Triangles) : v_impl_hingesOf m = hgL m.Places.length m.Triangles := by
  unfold v_impl_hingesOf lr_impl_hingesOf_1_0
  refine (filtm_from (a := (v_impl_trianglesByEdge m).2) (p := fun e => decide ((idxP m.Triangles e.e0 e.e1).length = 2)) (f := fun e => [e.e0, e.e1] ++ (idxP m.Triangles e.e0 e.e1).map fun i => thd (m.Triangles.getD i.toNat default) e.e0 e.e1) (lo := lo_impl_hingesOf_1 m) (fun k i r h0 hi => ?_) (fun k i r hi => ?_)).trans ?_
  · have q := edges_nth m ok h0 hi
    have hm := edges_mem m ok h0 hi
    obtain ⟨g1, g2⟩ := edges_at m ok hm
    rw [lo_impl_hingesOf_1, decide_eq_true hi, cond_true, g1, cond_true, g2]
    unfold nd_impl_hingesOf_0 nd_impl_hingesOf_1
    rw [g2]
    generalize (v_impl_trianglesByEdge m).2.getD i.toNat default = e at *
    by_cases h2 : (idxP m.Triangles e.e0 e.e1).length = 2
    · rw [decide_eq_true h2, show (((idxP m.Triangles e.e0 e.e1).length : Int) == 2) = true from by rw [beq_iff_eq]; omega, cond_true, cond_true]
      have hthd : ∀ k : Nat, k < 2 → v_impl_thirdOf (m.Triangles.getD ((idxP m.Triangles e.e0 e.e1).getD k default).toNat default) e = thd (m.Triangles.getD ((idxP m.Triangles e.e0 e.e1).getD k default).toNat default) e.e0 e.e1 := by
        intro k hk
        obtain ⟨a1, a2, a3⟩ := idxP_at (ts := m.Triangles) (a := e.e0) (b := e.e1) (k := k) (by omega)
        generalize (idxP m.Triangles e.e0 e.e1).getD k default = i' at *
        have q2 := ok.tris.at a1 a2
        generalize m.Triangles.getD i'.toNat default = t at *
        have h64 := ok.1
        unfold v_impl_thirdOf nd_impl_thirdOf_0 thd
        rw [wrap_id (n := t.getD 0 default + t.getD 1 default) (by omega) (by omega), wrap_id (n := t.getD 0 default + t.getD 1 default + t.getD 2 default) (by omega) (by omega), wrap_id (n := t.getD 0 default + t.getD 1 default + t.getD 2 default - e.e0) (by omega) (by omega), wrap_id (n := t.getD 0 default + t.getD 1 default + t.getD 2 default - e.e0 - e.e1) (by omega) (by omega)]
      rw [hthd 0 (by omega), hthd 1 (by omega)]
      generalize idxP m.Triangles e.e0 e.e1 = l at *
      match l, h2 with
      | [a, b], _ => rfl
    · rw [decide_eq_false h2, show (((idxP m.Triangles e.e0 e.e1).length : Int) == 2) = false from by rw [beq_eq_false_iff_ne]; omega, cond_false, cond_false]
  · rw [lo_impl_hingesOf_1, decide_eq_false (by omega), cond_false]
  · rw [edges_eq m ok]; rfl
theorem impl_hingesOf_len (m : GMesh) (ok : OkE m.Places.length m.Triangles) : (v_impl_hingesOf m).length ≤ 4096 := by rw [impl_hingesOf_eq m ok]; exact hgL_len ok

theorem t_impl_hingesOf (m_0 : GMesh) (hp0 : m_0.Places.length ≤ 1073741824) (hp1 : m_0.Triangles.length ≤ 1073741824) (hp2 : ∀ t ∈ m_0.Triangles, t.length ≤ 1073741824) (hp3 : OkE m_0.Places.length m_0.Triangles)  : Fn prog 57 [.agg [.sl (m_0.Places.map GVector.cells), .sl (m_0.Triangles.map (cL (cI .i64)))]] (.own 0) [.nest 52 ((v_impl_hingesOf m_0).map fun l => l.map (cI .i64)) false] := by
 refine fnS E0Ok hMixed (c := bodyOf f57) [] (.own 0) [.nest 52 ((lr_impl_hingesOf_1_0 m_0).map fun l => l.map (cI .i64)) false] func57 (sF (t_impl_trianglesByEdge m_0 hp0 hp1 hp2 hp3) <| sZ Gedge.cells ((v_impl_trianglesByEdge m_0).2) <| sL mk_impl_hingesOf_1_0 4 (lp_cast (st2 := ⟨[.agg [.sl (m_0.Places.map GVector.cells), .sl (m_0.Triangles.map (cL (cI .i64)))], .ptr 0 0 0, .nils, .own 1, .mp 2, .own 3, .any, .any, .any, .any, .any, .agg [.sl (m_0.Places.map GVector.cells), .sl (m_0.Triangles.map (cL (cI .i64)))], .any, .mp 2, .own 3, .own 3, .i .i64 (((v_impl_trianglesByEdge m_0).2).length : Int), .i .i64 0, .any, .any, .any, .any, .any, .any, .any, .any, .any, .any, .any, .any, .any, .any, .any, .any, .any, .any, .any, .any, .any, .any, .any, .any, .any, .any, .any, .any, .any, .any, .any, .any, .any, .any, .any, .any, .any], [.box 31 [.sl (m_0.Places.map GVector.cells), .sl (m_0.Triangles.map (cL (cI .i64)))], .nest 52 [] false, .mapN 2 (mapC Gedge.pr (cI .i64) ((v_impl_trianglesByEdge m_0).1)) none, .vec 100 2 (((v_impl_trianglesByEdge m_0).2).map Gedge.cells) false]⟩) (lp_val (ls_impl_hingesOf_1 m_0) (x := (lr_impl_hingesOf_1_0 m_0)) (lp_impl_hingesOf_1 m_0 hp0 hp1 hp2 hp3 (((((v_impl_trianglesByEdge m_0).2).length : Int) - 0).toNat + 1) 0 ([] : List (List Int)) (show 0 ≤ 0 from (by first | assumption | omega | (first | (have q := hg_at m_0 hp3 hv_impl_hingesOf_1_0 (of_decide_eq_true (by assumption)) (by assumption); omega) | (have q := edges_nth m_0 hp3 hv_impl_hingesOf_1_0 (of_decide_eq_true (by assumption)); first | omega | (simp only [List.length_append, List.length_cons, List.length_nil]; omega)) | (have q := edges_len m_0 hp3; omega)) | (simp_all <;> omega))) (show (([] : List (List Int)).length : Int) ≤ 0 from (by simp)) (Nat.lt_succ_self _)) rfl) (by simp [hd_impl_hingesOf_1, cL, cI])) <| sK [1] sN) rfl (by kernel_rfl) (by kernel_rfl) rfl ?_ ?_
 · rfl
 · simp [v_impl_hingesOf]

def v_impl_HingesOf (m_0 : GMesh) : (List (List Int)) × Bool := (cond (v_impl_ValidMesh m_0)
  ((v_impl_hingesOf m_0), true)
  (([] : List (List Int)), false))

theorem eq_HingesOf (m : GMesh) : v_impl_HingesOf m = v_spec_HingesOf m := by
  unfold v_impl_HingesOf v_spec_HingesOf
  rw [eq_ValidMesh]
  cases h : v_spec_l02Is m with
  | false => rfl
  | true => rw [cond_true, cond_true, impl_hingesOf_eq m (okE_is m h), l03Hinges_eq m (okE_is m h)]
theorem le_impl_HingesOf (m : GMesh) : (v_impl_HingesOf m).1.length ≤ 4096 := by rw [eq_HingesOf]; exact le_spec_HingesOf m
theorem len2_impl_HingesOf (m : GMesh) : ∀ t ∈ (v_impl_HingesOf m).1, t.length ≤ 4 := by rw [eq_HingesOf]; exact len2_spec_HingesOf m

theorem t_impl_HingesOf (m_0 : GMesh) (hp0 : m_0.Places.length ≤ 1073741824) (hp1 : m_0.Triangles.length ≤ 1073741824) (hp2 : ∀ t ∈ m_0.Triangles, t.length ≤ 1073741824)  : Fn prog 14 [.agg [.sl (m_0.Places.map GVector.cells), .sl (m_0.Triangles.map (cL (cI .i64)))]] (.tup [.own 0, .b ((v_impl_HingesOf m_0).2)]) [.nest 52 (((v_impl_HingesOf m_0).1).map fun l => l.map (cI .i64)) false] := by
 have p {a C} (s : Scr a C) := sF (t_impl_ValidMesh m_0 hp0 hp1 hp2) <| s
 cases h0 : (v_impl_ValidMesh m_0) with
 | true =>
  have y0 : OkE m_0.Places.length m_0.Triangles := by clear p; exact (by first | assumption | exact okE_is _ (by rw [← eq_ValidMesh]; assumption) | exact Nat.le_trans (edges_len _ (by first | assumption | exact okE_is _ (by rw [← eq_ValidMesh]; assumption))) (by decide) | omega)
  refine fnS E0Ok hMixed (c := bodyOf f14) [] (.tup [.own 0, .b true]) [.nest 52 ((v_impl_hingesOf m_0).map fun l => l.map (cI .i64)) false] func14 (p (sB' h0 <| sF (t_impl_hingesOf m_0 hp0 hp1 hp2 y0) <| sK [1] sN)) rfl (by kernel_rfl) (by kernel_rfl) rfl ?_ ?_
  · simp only [v_impl_HingesOf, h0, cond_true]
  · simp [v_impl_HingesOf, h0]
 | false =>
  refine fnS E0Ok hMixed (c := bodyOf f14) [(.tm 2, .nest 52 [] false)] (.tup [.own 0, .b false]) [.nest 52 [] false] func14 (p (sB' h0 <| sK [1] sN)) rfl (by kernel_rfl) (by kernel_rfl) rfl ?_ ?_
  · simp only [v_impl_HingesOf, h0, cond_false]
  · simp [v_impl_HingesOf, h0, cL, cI]

def lo_laws_eqInt64S_1 (a_0 : (List Int)) (b_1 : (List Int)) : Nat → Int → (Unit) ⊕ (Unit)
  | 0, _ => .inl default
  | k + 1, i_l0 => (cond (decide (i_l0 < (a_0.length : Int)))
    (cond ((a_0.getD i_l0.toNat default) != (b_1.getD i_l0.toNat default))
      (.inl ())
      (lo_laws_eqInt64S_1 a_0 b_1 k (i_l0 + 1)))
    (.inr ()))

def ls_laws_eqInt64S_1 (a_0 : (List Int)) (b_1 : (List Int)) : (Unit) ⊕ (Unit) → Ex × St
  | .inl r => (.ret, ⟨[.any, .any, .any, .any, .b false, .any, .any, .any, .any, .any, .any, .any, .any, .any, .any, .any, .any, .any, .any, .any, .any, .any, .any, .any, .any, .any], []⟩)
  | .inr r => ((.exit 0), ⟨[.sl (a_0.map (cI .i64)), .sl (b_1.map (cI .i64)), .any, .any, .any, .any, .sl (a_0.map (cI .i64)), .i .i64 (a_0.length : Int), .sl (b_1.map (cI .i64)), .i .i64 (b_1.length : Int), .b ((a_0.length : Int) != (b_1.length : Int)), .any, .any, .any, .any, .any, .any, .any, .any, .any, .any, .any, .any, .any, .any, .any], []⟩)

def hd_laws_eqInt64S_1 (a_0 : (List Int)) (b_1 : (List Int)) (i_l0 : Int) : St := ⟨[.sl (a_0.map (cI .i64)), .sl (b_1.map (cI .i64)), .any, .any, .any, .i .i64 i_l0, .sl (a_0.map (cI .i64)), .i .i64 (a_0.length : Int), .sl (b_1.map (cI .i64)), .i .i64 (b_1.length : Int), .b ((a_0.length : Int) != (b_1.length : Int)), .any, .any, .any, .any, .any, .any, .any, .any, .any, .any, .any, .any, .any, .any, .any], []⟩

def mk_laws_eqInt64S_1_0 : List Bool := [true, true, false, false, false, true, true, true, true, true, true, false, false, false, false, false, false, false, false, false, false, false, false, false, false, false]

def mk_laws_eqInt64S_1_1 : List Bool := [false, false, false, false, true, false, false, false, false, false, false, false, false, false, false, false, false, false, false, false, false, false, false, false, false, false]

def mk_laws_eqInt64S_1_2 : List Bool := [true, true, false, false, false, false, true, true, true, true, true, false, false, false, false, false, false, false, false, false, false, false, false, false, false, false]

theorem lp_laws_eqInt64S_1 (a_0 : (List Int)) (b_1 : (List Int)) (hp0 : a_0.length ≤ 1073741824) (hp1 : b_1.length ≤ 1073741824) (hf_laws_eqInt64S_1_0 : ((a_0.length : Int) != (b_1.length : Int)) = false) : ∀ (k : Nat) (i_l0 : Int) (hv_laws_eqInt64S_1_0 : 0 ≤ i_l0) (hk : ((a_0.length : Int) - i_l0).toNat < k), Lp prog 0 (sub (bodyOf f35) [1, 1, 0, 1, 0, 0]) (hd_laws_eqInt64S_1 a_0 b_1 i_l0) (ls_laws_eqInt64S_1 a_0 b_1 (lo_laws_eqInt64S_1 a_0 b_1 k i_l0)).1 (ls_laws_eqInt64S_1 a_0 b_1 (lo_laws_eqInt64S_1 a_0 b_1 k i_l0)).2 := by
 intro k
 induction k with
 | zero => intro i_l0 hv_laws_eqInt64S_1_0 hk; exact absurd hk (Nat.not_lt_zero _)
 | succ k ih =>
  intro i_l0 hv_laws_eqInt64S_1_0 hk
  have p {a C} (s : Scr a C) := sZ (cI .i64) a_0 <| s
  cases h_0 : (decide (i_l0 < (a_0.length : Int))) with
  | true =>
   have gh_0 := of_decide_eq_true h_0
   have y_0 : (0 : Int) ≤ i_l0 := by clear p; exact (by first | assumption | omega | (simp_all <;> omega))
   have y_1 : i_l0 < (a_0.length : Int) := by clear p; exact (by first | assumption | omega | (simp_all <;> omega))
   have y_2 : i_l0 < (b_1.length : Int) := by clear p; exact (by first | assumption | omega | (simp_all <;> omega))
   have q {a C} (s : Scr a C) := p (sB h_0 <| sK [8, 8] <| sG (cI .i64) a_0 i_l0 y_0 y_1 <| sG (cI .i64) b_1 i_l0 y_0 y_2 <| s)
   clear p
   cases h_1 : ((a_0.getD i_l0.toNat default) != (b_1.getD i_l0.toNat default)) with
   | true =>
    have gh_1 := bne_iff_ne.1 h_1
    have e : lo_laws_eqInt64S_1 a_0 b_1 (k + 1) i_l0 = (.inl ()) := by simp only [lo_laws_eqInt64S_1, h_0, h_1, cond_true]
    rw [e]
    exact outR (e := .ret) E0Ok hMixed [] mk_laws_eqInt64S_1_1 [] (q (sB h_1 <| sN)) (by kernel_rfl) (by intro h; cases h)
   | false =>
    have gh_1 := bne_eq_false_iff_eq.1 h_1
    have y_3 : (-9223372036854775808 : Int) ≤ (i_l0 + 1) := by clear q; exact (by first | assumption | omega | (simp_all <;> omega))
    have y_4 : (i_l0 + 1) ≤ (9223372036854775807 : Int) := by clear q; exact (by first | assumption | omega | (simp_all <;> omega))
    have e : lo_laws_eqInt64S_1 a_0 b_1 (k + 1) i_l0 = (lo_laws_eqInt64S_1 a_0 b_1 k (i_l0 + 1)) := by simp only [lo_laws_eqInt64S_1, h_0, h_1, cond_true, cond_false]
    rw [e]
    exact nextR E0Ok hMixed [] mk_laws_eqInt64S_1_0 [] (ih (i_l0 + 1) (show 0 ≤ (i_l0 + 1) from (by first | assumption | omega | (simp_all <;> omega))) (by first | assumption | omega | (simp_all <;> omega))) (q (sB h_1 <| sI (i_l0 + 1) y_3 y_4 <| sN)) (by kernel_rfl)
  | false =>
   have gh_0 := of_decide_eq_false h_0
   have e : lo_laws_eqInt64S_1 a_0 b_1 (k + 1) i_l0 = (.inr ()) := by simp only [lo_laws_eqInt64S_1, h_0, cond_false]
   rw [e]
   exact outR (e := (.exit 0)) E0Ok hMixed [] mk_laws_eqInt64S_1_2 [] (p (sB h_0 <| sN)) (by kernel_rfl) (by intro h; cases h)

def lr_laws_eqInt64S_1_0 (a_0 : (List Int)) (b_1 : (List Int)) : (Unit) ⊕ (Unit) := (lo_laws_eqInt64S_1 a_0 b_1 (((a_0.length : Int) - 0).toNat + 1) 0)

def v_laws_eqInt64S (a_0 : (List Int)) (b_1 : (List Int)) : Bool := (cond ((a_0.length : Int) != (b_1.length : Int))
  false
  (match (lr_laws_eqInt64S_1_0 a_0 b_1) with
    | .inl r2 => false
    | .inr r2 => true))

theorem t_laws_eqInt64S (a_0 : (List Int)) (b_1 : (List Int)) (hp0 : a_0.length ≤ 1073741824) (hp1 : b_1.length ≤ 1073741824)  : Fn prog 35 [.sl (a_0.map (cI .i64)), .sl (b_1.map (cI .i64))] (.b (v_laws_eqInt64S a_0 b_1)) [] := by
 have p {a C} (s : Scr a C) := sZ (cI .i64) a_0 <| sZ (cI .i64) b_1 <| s
 cases h0 : ((a_0.length : Int) != (b_1.length : Int)) with
 | true =>
  have gh0 := bne_iff_ne.1 h0
  refine fnS E0Ok hMixed (c := bodyOf f35) [] (.b false) [] func35 (p (sB h0 <| sK [] sN)) rfl (by kernel_rfl) (by kernel_rfl) rfl ?_ ?_
  · simp only [v_laws_eqInt64S, h0, cond_true]
  · rfl
 | false =>
  have gh0 := bne_eq_false_iff_eq.1 h0
  have q {a C} (s : Scr a C) := p (sB h0 <| s)
  clear p
  cases h1 : (lr_laws_eqInt64S_1_0 a_0 b_1) with
  | inl r2 =>
   refine fnS E0Ok hMixed (c := bodyOf f35) [] (.b false) [] func35 (q (sL mk_laws_eqInt64S_1_0 0 (lp_val (ls_laws_eqInt64S_1 a_0 b_1) (x := (lr_laws_eqInt64S_1_0 a_0 b_1)) (lp_laws_eqInt64S_1 a_0 b_1 hp0 hp1 h0 (((a_0.length : Int) - 0).toNat + 1) 0 (show 0 ≤ 0 from (by first | assumption | omega | (simp_all <;> omega))) (Nat.lt_succ_self _)) h1) <| sK [] sN)) rfl (by kernel_rfl) (by kernel_rfl) rfl ?_ ?_
   · simp only [v_laws_eqInt64S, h0, h1, cond_false]
   · rfl
  | inr r2 =>
   refine fnS E0Ok hMixed (c := bodyOf f35) [] (.b true) [] func35 (q (sL mk_laws_eqInt64S_1_0 0 (lp_val (ls_laws_eqInt64S_1 a_0 b_1) (x := (lr_laws_eqInt64S_1_0 a_0 b_1)) (lp_laws_eqInt64S_1 a_0 b_1 hp0 hp1 h0 (((a_0.length : Int) - 0).toNat + 1) 0 (show 0 ≤ 0 from (by first | assumption | omega | (simp_all <;> omega))) (Nat.lt_succ_self _)) h1) <| sK [] sN)) rfl (by kernel_rfl) (by kernel_rfl) rfl ?_ ?_
   · simp only [v_laws_eqInt64S, h0, h1, cond_false]
   · rfl

theorem eqInt64S_self (a : List Int) : v_laws_eqInt64S a a = true := by
  unfold v_laws_eqInt64S lr_laws_eqInt64S_1_0
  rw [all_from (a := a) (p := fun v => !(v != v)) (lo := lo_laws_eqInt64S_1 a a) (x := ()) (y := ()) (fun k i => by rw [lo_laws_eqInt64S_1]; cases (a.getD i.toNat default != a.getD i.toNat default) <;> rfl)]
  rw [show (a.all fun v => !(v != v)) = true from by rw [List.all_eq_true]; intro v _; simp]
  simp

def lo_laws_eqInt64SS_1 (a_0 : (List (List Int))) (b_1 : (List (List Int))) : Nat → Int → (Unit) ⊕ (Unit)
  | 0, _ => .inl default
  | k + 1, i_l0 => (cond (decide (i_l0 < (a_0.length : Int)))
    (cond (v_laws_eqInt64S (a_0.getD i_l0.toNat default) (b_1.getD i_l0.toNat default))
      (lo_laws_eqInt64SS_1 a_0 b_1 k (i_l0 + 1))
      (.inl ()))
    (.inr ()))

def ls_laws_eqInt64SS_1 (a_0 : (List (List Int))) (b_1 : (List (List Int))) : (Unit) ⊕ (Unit) → Ex × St
  | .inl r => (.ret, ⟨[.any, .any, .any, .any, .b false, .any, .any, .any, .any, .any, .any, .any, .any, .any, .any, .any, .any, .any, .any, .any, .any, .any, .any, .any, .any, .any, .any], []⟩)
  | .inr r => ((.exit 0), ⟨[.sl (a_0.map (cL (cI .i64))), .sl (b_1.map (cL (cI .i64))), .any, .any, .any, .any, .sl (a_0.map (cL (cI .i64))), .i .i64 (a_0.length : Int), .sl (b_1.map (cL (cI .i64))), .i .i64 (b_1.length : Int), .b ((a_0.length : Int) != (b_1.length : Int)), .any, .any, .any, .any, .any, .any, .any, .any, .any, .any, .any, .any, .any, .any, .any, .any], []⟩)

def hd_laws_eqInt64SS_1 (a_0 : (List (List Int))) (b_1 : (List (List Int))) (i_l0 : Int) : St := ⟨[.sl (a_0.map (cL (cI .i64))), .sl (b_1.map (cL (cI .i64))), .any, .any, .any, .i .i64 i_l0, .sl (a_0.map (cL (cI .i64))), .i .i64 (a_0.length : Int), .sl (b_1.map (cL (cI .i64))), .i .i64 (b_1.length : Int), .b ((a_0.length : Int) != (b_1.length : Int)), .any, .any, .any, .any, .any, .any, .any, .any, .any, .any, .any, .any, .any, .any, .any, .any], []⟩

def mk_laws_eqInt64SS_1_0 : List Bool := [true, true, false, false, false, true, true, true, true, true, true, false, false, false, false, false, false, false, false, false, false, false, false, false, false, false, false]

def mk_laws_eqInt64SS_1_1 : List Bool := [false, false, false, false, true, false, false, false, false, false, false, false, false, false, false, false, false, false, false, false, false, false, false, false, false, false, false]

def mk_laws_eqInt64SS_1_2 : List Bool := [true, true, false, false, false, false, true, true, true, true, true, false, false, false, false, false, false, false, false, false, false, false, false, false, false, false, false]

theorem lp_laws_eqInt64SS_1 (a_0 : (List (List Int))) (b_1 : (List (List Int))) (hp0 : a_0.length ≤ 1073741824) (hp1 : ∀ t ∈ a_0, t.length ≤ 1073741824) (hp2 : b_1.length ≤ 1073741824) (hp3 : ∀ t ∈ b_1, t.length ≤ 1073741824) (hf_laws_eqInt64SS_1_0 : ((a_0.length : Int) != (b_1.length : Int)) = false) : ∀ (k : Nat) (i_l0 : Int) (hv_laws_eqInt64SS_1_0 : 0 ≤ i_l0) (hk : ((a_0.length : Int) - i_l0).toNat < k), Lp prog 0 (sub (bodyOf f15) [1, 1, 0, 1, 0, 0]) (hd_laws_eqInt64SS_1 a_0 b_1 i_l0) (ls_laws_eqInt64SS_1 a_0 b_1 (lo_laws_eqInt64SS_1 a_0 b_1 k i_l0)).1 (ls_laws_eqInt64SS_1 a_0 b_1 (lo_laws_eqInt64SS_1 a_0 b_1 k i_l0)).2 := by
 intro k
 induction k with
 | zero => intro i_l0 hv_laws_eqInt64SS_1_0 hk; exact absurd hk (Nat.not_lt_zero _)
 | succ k ih =>
  intro i_l0 hv_laws_eqInt64SS_1_0 hk
  have p {a C} (s : Scr a C) := sZ (cL (cI .i64)) a_0 <| s
  cases h_0 : (decide (i_l0 < (a_0.length : Int))) with
  | true =>
   have gh_0 := of_decide_eq_true h_0
   have y_0 : (0 : Int) ≤ i_l0 := by clear p; exact (by first | assumption | omega | (simp_all <;> omega))
   have y_1 : i_l0 < (a_0.length : Int) := by clear p; exact (by first | assumption | omega | (simp_all <;> omega))
   have y_2 : i_l0 < (b_1.length : Int) := by clear p; exact (by first | assumption | omega | (simp_all <;> omega))
   have y_3 : (a_0.getD i_l0.toNat default).length ≤ 1073741824 := by clear p; exact (by first | assumption | omega | (simp_all <;> omega))
   have y_4 : (b_1.getD i_l0.toNat default).length ≤ 1073741824 := by clear p; exact (by first | assumption | omega | (simp_all <;> omega))
   have q {a C} (s : Scr a C) := p (sB h_0 <| sK [8, 8] <| sG (cL (cI .i64)) a_0 i_l0 y_0 y_1 <| sG (cL (cI .i64)) b_1 i_l0 y_0 y_2 <| sF (t_laws_eqInt64S (a_0.getD i_l0.toNat default) (b_1.getD i_l0.toNat default) y_3 y_4) <| s)
   clear p
   cases h_1 : (v_laws_eqInt64S (a_0.getD i_l0.toNat default) (b_1.getD i_l0.toNat default)) with
   | true =>
    have y_5 : (-9223372036854775808 : Int) ≤ (i_l0 + 1) := by clear q; exact (by first | assumption | omega | (simp_all <;> omega))
    have y_6 : (i_l0 + 1) ≤ (9223372036854775807 : Int) := by clear q; exact (by first | assumption | omega | (simp_all <;> omega))
    have e : lo_laws_eqInt64SS_1 a_0 b_1 (k + 1) i_l0 = (lo_laws_eqInt64SS_1 a_0 b_1 k (i_l0 + 1)) := by simp only [lo_laws_eqInt64SS_1, h_0, h_1, cond_true]
    rw [e]
    exact nextR E0Ok hMixed [] mk_laws_eqInt64SS_1_0 [] (ih (i_l0 + 1) (show 0 ≤ (i_l0 + 1) from (by first | assumption | omega | (simp_all <;> omega))) (by first | assumption | omega | (simp_all <;> omega))) (q (sB' h_1 <| sI (i_l0 + 1) y_5 y_6 <| sN)) (by kernel_rfl)
   | false =>
    have e : lo_laws_eqInt64SS_1 a_0 b_1 (k + 1) i_l0 = (.inl ()) := by simp only [lo_laws_eqInt64SS_1, h_0, h_1, cond_true, cond_false]
    rw [e]
    exact outR (e := .ret) E0Ok hMixed [] mk_laws_eqInt64SS_1_1 [] (q (sB' h_1 <| sN)) (by kernel_rfl) (by intro h; cases h)
  | false =>
   have gh_0 := of_decide_eq_false h_0
   have e : lo_laws_eqInt64SS_1 a_0 b_1 (k + 1) i_l0 = (.inr ()) := by simp only [lo_laws_eqInt64SS_1, h_0, cond_false]
   rw [e]
   exact outR (e := (.exit 0)) E0Ok hMixed [] mk_laws_eqInt64SS_1_2 [] (p (sB h_0 <| sN)) (by kernel_rfl) (by intro h; cases h)

def lr_laws_eqInt64SS_1_0 (a_0 : (List (List Int))) (b_1 : (List (List Int))) : (Unit) ⊕ (Unit) := (lo_laws_eqInt64SS_1 a_0 b_1 (((a_0.length : Int) - 0).toNat + 1) 0)

def v_laws_eqInt64SS (a_0 : (List (List Int))) (b_1 : (List (List Int))) : Bool := (cond ((a_0.length : Int) != (b_1.length : Int))
  false
  (match (lr_laws_eqInt64SS_1_0 a_0 b_1) with
    | .inl r2 => false
    | .inr r2 => true))

theorem t_laws_eqInt64SS (a_0 : (List (List Int))) (b_1 : (List (List Int))) (hp0 : a_0.length ≤ 1073741824) (hp1 : ∀ t ∈ a_0, t.length ≤ 1073741824) (hp2 : b_1.length ≤ 1073741824) (hp3 : ∀ t ∈ b_1, t.length ≤ 1073741824)  : Fn prog 15 [.sl (a_0.map (cL (cI .i64))), .sl (b_1.map (cL (cI .i64)))] (.b (v_laws_eqInt64SS a_0 b_1)) [] := by
 have p {a C} (s : Scr a C) := sZ (cL (cI .i64)) a_0 <| sZ (cL (cI .i64)) b_1 <| s
 cases h0 : ((a_0.length : Int) != (b_1.length : Int)) with
 | true =>
  have gh0 := bne_iff_ne.1 h0
  refine fnS E0Ok hMixed (c := bodyOf f15) [] (.b false) [] func15 (p (sB h0 <| sK [] sN)) rfl (by kernel_rfl) (by kernel_rfl) rfl ?_ ?_
  · simp only [v_laws_eqInt64SS, h0, cond_true]
  · rfl
 | false =>
  have gh0 := bne_eq_false_iff_eq.1 h0
  have q {a C} (s : Scr a C) := p (sB h0 <| s)
  clear p
  cases h1 : (lr_laws_eqInt64SS_1_0 a_0 b_1) with
  | inl r2 =>
   refine fnS E0Ok hMixed (c := bodyOf f15) [] (.b false) [] func15 (q (sL mk_laws_eqInt64SS_1_0 0 (lp_val (ls_laws_eqInt64SS_1 a_0 b_1) (x := (lr_laws_eqInt64SS_1_0 a_0 b_1)) (lp_laws_eqInt64SS_1 a_0 b_1 hp0 hp1 hp2 hp3 h0 (((a_0.length : Int) - 0).toNat + 1) 0 (show 0 ≤ 0 from (by first | assumption | omega | (simp_all <;> omega))) (Nat.lt_succ_self _)) h1) <| sK [] sN)) rfl (by kernel_rfl) (by kernel_rfl) rfl ?_ ?_
   · simp only [v_laws_eqInt64SS, h0, h1, cond_false]
   · rfl
  | inr r2 =>
   refine fnS E0Ok hMixed (c := bodyOf f15) [] (.b true) [] func15 (q (sL mk_laws_eqInt64SS_1_0 0 (lp_val (ls_laws_eqInt64SS_1 a_0 b_1) (x := (lr_laws_eqInt64SS_1_0 a_0 b_1)) (lp_laws_eqInt64SS_1 a_0 b_1 hp0 hp1 hp2 hp3 h0 (((a_0.length : Int) - 0).toNat + 1) 0 (show 0 ≤ 0 from (by first | assumption | omega | (simp_all <;> omega))) (Nat.lt_succ_self _)) h1) <| sK [] sN)) rfl (by kernel_rfl) (by kernel_rfl) rfl ?_ ?_
   · simp only [v_laws_eqInt64SS, h0, h1, cond_false]
   · rfl

theorem eqInt64SS_self (a : List (List Int)) : v_laws_eqInt64SS a a = true := by
  unfold v_laws_eqInt64SS lr_laws_eqInt64SS_1_0
  rw [all_from (a := a) (p := fun v => v_laws_eqInt64S v v) (lo := lo_laws_eqInt64SS_1 a a) (x := ()) (y := ()) (fun k i => rfl)]
  rw [show (a.all fun v => v_laws_eqInt64S v v) = true from by rw [List.all_eq_true]; intro v _; exact eqInt64S_self v]
  simp

def v_laws_sameFloat (a_0 : Nat) (b_1 : Nat) : Bool := (cond (fcmp .neq .f64 a_0 a_0)
  (fcmp .neq .f64 b_1 b_1)
  (cond (fcmp .neq .f64 b_1 b_1)
    false
    (cond (fcmp .eql .f64 a_0 0)
      (cond (fcmp .eql .f64 b_1 0)
        ((fcmp .gtr .f64 (fop .quo .f64 4607182418800017408 a_0) 0) == (fcmp .gtr .f64 (fop .quo .f64 4607182418800017408 b_1) 0))
        (fcmp .eql .f64 a_0 b_1))
      (fcmp .eql .f64 a_0 b_1))))

theorem t_laws_sameFloat (a_0 : Nat) (b_1 : Nat)   : Fn prog 42 [.f .f64 a_0, .f .f64 b_1] (.b (v_laws_sameFloat a_0 b_1)) [] := by
 cases h0 : (fcmp .neq .f64 a_0 a_0) with
 | true =>
  refine fnS E0Ok hMixed (c := bodyOf f42) [] (.b (fcmp .neq .f64 b_1 b_1)) [] func42 (sB h0 <| sB h0 <| sB h0 <| sB h0 <| sB (show true = true from rfl) <| sB h0 <| sB h0 <| sB h0 <| sB h0 <| sK [] sN) rfl (by kernel_rfl) (by kernel_rfl) rfl ?_ ?_
  · simp only [v_laws_sameFloat, h0, cond_true]
  · rfl
 | false =>
  have p {a C} (s : Scr a C) := sB h0 <| sB h0 <| sB h0 <| sB h0 <| s
  cases h1 : (fcmp .neq .f64 b_1 b_1) with
  | true =>
   refine fnS E0Ok hMixed (c := bodyOf f42) [] (.b false) [] func42 (p (sB h1 <| sB h0 <| sB h0 <| sB h0 <| sB h0 <| sK [] sN)) rfl (by kernel_rfl) (by kernel_rfl) rfl ?_ ?_
   · simp only [v_laws_sameFloat, h0, h1, cond_true, cond_false]
   · rfl
  | false =>
   have q {a C} (s : Scr a C) := p (sB h1 <| s)
   clear p
   cases h2 : (fcmp .eql .f64 a_0 0) with
   | true =>
    have p {a C} (s : Scr a C) := q (sB h2 <| sB h2 <| sB h2 <| s)
    clear q
    cases h3 : (fcmp .eql .f64 b_1 0) with
    | true =>
     refine fnS E0Ok hMixed (c := bodyOf f42) [] (.b ((fcmp .gtr .f64 (fop .quo .f64 4607182418800017408 a_0) 0) == (fcmp .gtr .f64 (fop .quo .f64 4607182418800017408 b_1) 0))) [] func42 (p (sB h3 <| sK [] sN)) rfl (by kernel_rfl) (by kernel_rfl) rfl ?_ ?_
     · simp only [v_laws_sameFloat, h0, h1, h2, h3, cond_true, cond_false]
     · rfl
    | false =>
     refine fnS E0Ok hMixed (c := bodyOf f42) [] (.b (fcmp .eql .f64 a_0 b_1)) [] func42 (p (sB h3 <| sK [] sN)) rfl (by kernel_rfl) (by kernel_rfl) rfl ?_ ?_
     · simp only [v_laws_sameFloat, h0, h1, h2, h3, cond_true, cond_false]
     · rfl
   | false =>
    refine fnS E0Ok hMixed (c := bodyOf f42) [] (.b (fcmp .eql .f64 a_0 b_1)) [] func42 (q (sB h2 <| sB h2 <| sB h2 <| sB (show false = false from rfl) <| sK [] sN)) rfl (by kernel_rfl) (by kernel_rfl) rfl ?_ ?_
    · simp only [v_laws_sameFloat, h0, h1, h2, cond_false]
    · rfl

theorem same_self (x : Nat) : v_laws_sameFloat x x = true := by
  unfold v_laws_sameFloat
  cases h : fcmp .neq .f64 x x
  · simp only [cond_false]
    have h2 : fcmp .eql .f64 x x = true := by
      unfold fcmp at h ⊢
      simpa using h
    cases fcmp .eql .f64 x 0 <;> simp [h2]
  · rfl

def v_laws_eqVector (a_0 : GVector) (b_1 : GVector) : Bool := (cond (v_laws_sameFloat (fcv .f32 .f64 a_0.X) (fcv .f32 .f64 b_1.X))
  (cond (v_laws_sameFloat (fcv .f32 .f64 a_0.Y) (fcv .f32 .f64 b_1.Y))
    (cond (v_laws_sameFloat (fcv .f32 .f64 a_0.Z) (fcv .f32 .f64 b_1.Z))
      true
      false)
    false)
  false)

theorem t_laws_eqVector (a_0 : GVector) (b_1 : GVector)   : Fn prog 96 [.agg [.f .f32 a_0.X, .f .f32 a_0.Y, .f .f32 a_0.Z], .agg [.f .f32 b_1.X, .f .f32 b_1.Y, .f .f32 b_1.Z]] (.b (v_laws_eqVector a_0 b_1)) [] := by
 have p {a C} (s : Scr a C) := sC (widenOk a_0.X) <| sC (widenOk b_1.X) <| sF (t_laws_sameFloat (fcv .f32 .f64 a_0.X) (fcv .f32 .f64 b_1.X)) <| s
 cases h0 : (v_laws_sameFloat (fcv .f32 .f64 a_0.X) (fcv .f32 .f64 b_1.X)) with
 | true =>
  have q {a C} (s : Scr a C) := p (sB' h0 <| sC (widenOk a_0.Y) <| sC (widenOk b_1.Y) <| sF (t_laws_sameFloat (fcv .f32 .f64 a_0.Y) (fcv .f32 .f64 b_1.Y)) <| s)
  clear p
  cases h1 : (v_laws_sameFloat (fcv .f32 .f64 a_0.Y) (fcv .f32 .f64 b_1.Y)) with
  | true =>
   have p {a C} (s : Scr a C) := q (sB' h1 <| sC (widenOk a_0.Z) <| sC (widenOk b_1.Z) <| sF (t_laws_sameFloat (fcv .f32 .f64 a_0.Z) (fcv .f32 .f64 b_1.Z)) <| s)
   clear q
   cases h2 : (v_laws_sameFloat (fcv .f32 .f64 a_0.Z) (fcv .f32 .f64 b_1.Z)) with
   | true =>
    refine fnS E0Ok hMixed (c := bodyOf f96) [] (.b true) [] func96 (p (sB' h2 <| sK [] sN)) rfl (by kernel_rfl) (by kernel_rfl) rfl ?_ ?_
    · simp only [v_laws_eqVector, h0, h1, h2, cond_true]
    · rfl
   | false =>
    refine fnS E0Ok hMixed (c := bodyOf f96) [] (.b false) [] func96 (p (sB' h2 <| sK [] sN)) rfl (by kernel_rfl) (by kernel_rfl) rfl ?_ ?_
    · simp only [v_laws_eqVector, h0, h1, h2, cond_true, cond_false]
    · rfl
  | false =>
   refine fnS E0Ok hMixed (c := bodyOf f96) [] (.b false) [] func96 (q (sB' h1 <| sK [] sN)) rfl (by kernel_rfl) (by kernel_rfl) rfl ?_ ?_
   · simp only [v_laws_eqVector, h0, h1, cond_true, cond_false]
   · rfl
 | false =>
  refine fnS E0Ok hMixed (c := bodyOf f96) [] (.b false) [] func96 (p (sB' h0 <| sK [] sN)) rfl (by kernel_rfl) (by kernel_rfl) rfl ?_ ?_
  · simp only [v_laws_eqVector, h0, cond_false]
  · rfl

theorem eqVector_self (a : GVector) : v_laws_eqVector a a = true := by
  simp [v_laws_eqVector, same_self]

def lo_laws_eqVectorS_1 (a_0 : (List GVector)) (b_1 : (List GVector)) : Nat → Int → (Unit) ⊕ (Unit)
  | 0, _ => .inl default
  | k + 1, i_l0 => (cond (decide (i_l0 < (a_0.length : Int)))
    (cond (v_laws_eqVector (a_0.getD i_l0.toNat default) (b_1.getD i_l0.toNat default))
      (lo_laws_eqVectorS_1 a_0 b_1 k (i_l0 + 1))
      (.inl ()))
    (.inr ()))

def ls_laws_eqVectorS_1 (a_0 : (List GVector)) (b_1 : (List GVector)) : (Unit) ⊕ (Unit) → Ex × St
  | .inl r => (.ret, ⟨[.any, .any, .any, .any, .b false, .any, .any, .any, .any, .any, .any, .any, .any, .any, .any, .any, .any, .any, .any, .any, .any, .any, .any, .any, .any, .any, .any], []⟩)
  | .inr r => ((.exit 0), ⟨[.sl (a_0.map GVector.cells), .sl (b_1.map GVector.cells), .any, .any, .any, .any, .sl (a_0.map GVector.cells), .i .i64 (a_0.length : Int), .sl (b_1.map GVector.cells), .i .i64 (b_1.length : Int), .b ((a_0.length : Int) != (b_1.length : Int)), .any, .any, .any, .any, .any, .any, .any, .any, .any, .any, .any, .any, .any, .any, .any, .any], []⟩)

end Go.Ab
