/- The functions of this seat as plain Lean, and that the program's are these. Printed by a program of the prover's own. -/
import Derived.Test.YtiiijolkhbnblaaB2
set_option linter.unusedVariables false
set_option linter.unusedSimpArgs false
set_option maxRecDepth 100000
namespace Go.Ab
open Go.RowKit Go.Proofs.Try

def v_spec_l00Own (list_0 : (List Int)) : (List Int) := (([] : List Int) ++ list_0)

theorem t_spec_l00Own (list_0 : (List Int)) (hp0 : list_0.length ≤ 1073741824)  : Fn prog 165 [.sl (list_0.map (cI .i64))] (.own 0) [.vec 2 1 ((v_spec_l00Own list_0).map (cI .i64)) false] := by
 have y0 : ([] : List Int).length + list_0.length ≤ 1073741824 := (by first | assumption | omega | (simp_all <;> omega))
 refine fnS E0Ok hMixed (c := bodyOf f165) [] (.own 0) [.vec 2 1 (([] : List (List AV)) ++ (list_0.map (cI .i64))) false] func165 (sC (show ([] : List (List AV)).length + (list_0.map (cI .i64)).length ≤ 1073741824 from (by simpa using y0)) <| sC (show (list_0.map (cI .i64)).all (fun cs => cs.length == 1 && cs.all isS) = true from (src_ok (fun _ => rfl))) <| sK [0] sN) rfl (by kernel_rfl) (by kernel_rfl) rfl ?_ ?_
 · rfl
 · simp [v_spec_l00Own, cI]

@[simp] theorem eq_l00Own (l : List Int) : v_spec_l00Own l = l := by simp [v_spec_l00Own]

theorem i_spec_l00Own (list_0 : (List Int)) (hp0 : list_0.length ≤ 1073741824) : Fn prog 165 [.sl (list_0.map (cI .i64))] (.own 0) [.vec 2 1 (list_0.map (cI .i64)) false] := by
 simpa only [eq_l00Own] using t_spec_l00Own  list_0 hp0

def lo_spec_l02Own_1 (m_0 : GMesh) : Nat → Int → (List (List Int)) → (List (List Int))
  | 0, _, _ => default
  | k + 1, i_l0, r2_l1 => (cond (decide (i_l0 < (m_0.Triangles.length : Int)))
    (lo_spec_l02Own_1 m_0 k (i_l0 + 1) (r2_l1 ++ [(m_0.Triangles.getD i_l0.toNat default)]))
    r2_l1)

def ls_spec_l02Own_1 (m_0 : GMesh) (r : (List (List Int))) : Ex × St := ((.exit 0), ⟨[.ref [.sl (m_0.Places.map GVector.cells), .sl (m_0.Triangles.map (cL (cI .i64)))] 0, .any, .ptr 0 0 0, .ptr 1 0 0, .any, .any, .ref [.sl (m_0.Places.map GVector.cells), .sl (m_0.Triangles.map (cL (cI .i64)))] 0, .ref [.sl (m_0.Places.map GVector.cells), .sl (m_0.Triangles.map (cL (cI .i64)))] 0, .ref [.sl (m_0.Places.map GVector.cells), .sl (m_0.Triangles.map (cL (cI .i64)))] 0, .sl (m_0.Places.map GVector.cells), .own 2, .any, .any, .any, .any, .any, .any, .any, .any, .any, .any, .any, .any, .any, .any, .any, .any, .any, .any, .any, .any, .any, .any, .any, .any, .any], [.box 42 [.nils, .nils], .box 42 [.own 2, .own 3], .vec 44 3 (([] : List (List AV)) ++ (m_0.Places.map GVector.cells)) false, .nest 52 (r.map fun l => l.map (cI .i64)) false]⟩)

def hd_spec_l02Own_1 (m_0 : GMesh) (i_l0 : Int) (r2_l1 : (List (List Int))) : St := ⟨[.ref [.sl (m_0.Places.map GVector.cells), .sl (m_0.Triangles.map (cL (cI .i64)))] 0, .any, .ptr 0 0 0, .ptr 3 0 0, .i .i64 i_l0, .any, .ref [.sl (m_0.Places.map GVector.cells), .sl (m_0.Triangles.map (cL (cI .i64)))] 0, .ref [.sl (m_0.Places.map GVector.cells), .sl (m_0.Triangles.map (cL (cI .i64)))] 0, .ref [.sl (m_0.Places.map GVector.cells), .sl (m_0.Triangles.map (cL (cI .i64)))] 0, .sl (m_0.Places.map GVector.cells), .own 1, .any, .any, .any, .any, .any, .any, .any, .any, .any, .any, .any, .any, .any, .any, .any, .any, .any, .any, .any, .any, .any, .any, .any, .any, .any], [.box 42 [.nils, .nils], .vec 44 3 (([] : List (List AV)) ++ (m_0.Places.map GVector.cells)) false, .nest 52 (r2_l1.map fun l => l.map (cI .i64)) false, .box 42 [.own 1, .own 2]]⟩

def mk_spec_l02Own_1_0 : List Bool := [true, false, true, true, true, false, true, true, true, true, true, false, false, false, false, false, false, false, false, false, false, false, false, false, false, false, false, false, false, false, false, false, false, false, false, false]

def mk_spec_l02Own_1_1 : List Bool := [true, false, true, true, false, false, true, true, true, true, true, false, false, false, false, false, false, false, false, false, false, false, false, false, false, false, false, false, false, false, false, false, false, false, false, false]

theorem lp_spec_l02Own_1 (m_0 : GMesh) (hp0 : m_0.Places.length ≤ 1073741824) (hp1 : m_0.Triangles.length ≤ 1073741824) (hp2 : ∀ t ∈ m_0.Triangles, t.length ≤ 1073741824) : ∀ (k : Nat) (i_l0 : Int) (r2_l1 : (List (List Int))) (hv_spec_l02Own_1_0 : 0 ≤ i_l0) (hv_spec_l02Own_1_1 : (r2_l1.length : Int) = i_l0) (hk : ((m_0.Triangles.length : Int) - i_l0).toNat < k), Lp prog 0 (sub (bodyOf f112) [1, 1, 0, 1, 0, 0]) (hd_spec_l02Own_1 m_0 i_l0 r2_l1) (ls_spec_l02Own_1 m_0 (lo_spec_l02Own_1 m_0 k i_l0 r2_l1)).1 (ls_spec_l02Own_1 m_0 (lo_spec_l02Own_1 m_0 k i_l0 r2_l1)).2 := by
 intro k
 induction k with
 | zero => intro i_l0 r2_l1 hv_spec_l02Own_1_0 hv_spec_l02Own_1_1 hk; exact absurd hk (Nat.not_lt_zero _)
 | succ k ih =>
  intro i_l0 r2_l1 hv_spec_l02Own_1_0 hv_spec_l02Own_1_1 hk
  have p {a C} (s : Scr a C) := sZ (cL (cI .i64)) m_0.Triangles <| s
  cases h_0 : (decide (i_l0 < (m_0.Triangles.length : Int))) with
  | true =>
   have gh_0 := of_decide_eq_true h_0
   have y_0 : (0 : Int) ≤ i_l0 := by clear p; exact (by first | assumption | omega | (simp_all <;> omega))
   have y_1 : i_l0 < (m_0.Triangles.length : Int) := by clear p; exact (by first | assumption | omega | (simp_all <;> omega))
   have y_2 : (m_0.Triangles.getD i_l0.toNat default).length ≤ 1073741824 := by clear p; exact (by first | assumption | omega | (simp_all <;> omega))
   have y_3 : r2_l1.length + [(m_0.Triangles.getD i_l0.toNat default)].length ≤ 1073741824 := by clear p; exact (by first | assumption | omega | (simp_all <;> omega))
   have y_4 : (-9223372036854775808 : Int) ≤ (i_l0 + 1) := by clear p; exact (by first | assumption | omega | (simp_all <;> omega))
   have y_5 : (i_l0 + 1) ≤ (9223372036854775807 : Int) := by clear p; exact (by first | assumption | omega | (simp_all <;> omega))
   have e : lo_spec_l02Own_1 m_0 (k + 1) i_l0 r2_l1 = (lo_spec_l02Own_1 m_0 k (i_l0 + 1) (r2_l1 ++ [(m_0.Triangles.getD i_l0.toNat default)])) := by simp only [lo_spec_l02Own_1, h_0, cond_true]
   rw [e]
   exact nextS E0Ok hMixed [] mk_spec_l02Own_1_0 [0, 1, 2, 3] (⟨[.ref [.sl (m_0.Places.map GVector.cells), .sl (m_0.Triangles.map (cL (cI .i64)))] 0, .any, .ptr 0 0 0, .ptr 3 0 0, .i .i64 (i_l0 + 1), .any, .ref [.sl (m_0.Places.map GVector.cells), .sl (m_0.Triangles.map (cL (cI .i64)))] 0, .ref [.sl (m_0.Places.map GVector.cells), .sl (m_0.Triangles.map (cL (cI .i64)))] 0, .ref [.sl (m_0.Places.map GVector.cells), .sl (m_0.Triangles.map (cL (cI .i64)))] 0, .sl (m_0.Places.map GVector.cells), .own 1, .any, .any, .any, .any, .any, .any, .any, .any, .any, .any, .any, .any, .any, .any, .any, .any, .any, .any, .any, .any, .any, .any, .any, .any, .any], [.box 42 [.nils, .nils], .vec 44 3 (([] : List (List AV)) ++ (m_0.Places.map GVector.cells)) false, .nest 52 ((r2_l1.map fun l => l.map (cI .i64)) ++ [((m_0.Triangles.getD i_l0.toNat default).map (cI .i64))]) false, .box 42 [.own 1, .own 2]]⟩) (p (sB h_0 <| sK [11, 11] <| sG (cL (cI .i64)) m_0.Triangles i_l0 y_0 y_1 <| sF (i_spec_l00Own (m_0.Triangles.getD i_l0.toNat default) y_2) <| sC (show (r2_l1.map fun l => l.map (cI .i64)).length + [((m_0.Triangles.getD i_l0.toNat default).map (cI .i64))].length ≤ 1073741824 from (by simpa using y_3)) <| sI (i_l0 + 1) y_4 y_5 <| sN)) (by kernel_rfl) (show _ = ⟨[.ref [.sl (m_0.Places.map GVector.cells), .sl (m_0.Triangles.map (cL (cI .i64)))] 0, .any, .ptr 0 0 0, .ptr 3 0 0, .i .i64 (i_l0 + 1), .any, .ref [.sl (m_0.Places.map GVector.cells), .sl (m_0.Triangles.map (cL (cI .i64)))] 0, .ref [.sl (m_0.Places.map GVector.cells), .sl (m_0.Triangles.map (cL (cI .i64)))] 0, .ref [.sl (m_0.Places.map GVector.cells), .sl (m_0.Triangles.map (cL (cI .i64)))] 0, .sl (m_0.Places.map GVector.cells), .own 1, .any, .any, .any, .any, .any, .any, .any, .any, .any, .any, .any, .any, .any, .any, .any, .any, .any, .any, .any, .any, .any, .any, .any, .any, .any], [.box 42 [.nils, .nils], .vec 44 3 (([] : List (List AV)) ++ (m_0.Places.map GVector.cells)) false, .nest 52 ((r2_l1 ++ [(m_0.Triangles.getD i_l0.toNat default)]).map fun l => l.map (cI .i64)) false, .box 42 [.own 1, .own 2]]⟩ from (by simp [GVector.cells, cL])) (ih (i_l0 + 1) (r2_l1 ++ [(m_0.Triangles.getD i_l0.toNat default)]) (show 0 ≤ (i_l0 + 1) from (by first | assumption | omega | (simp_all <;> omega))) (show ((r2_l1 ++ [(m_0.Triangles.getD i_l0.toNat default)]).length : Int) = (i_l0 + 1) from (by first | assumption | omega | (simp_all <;> omega))) (by first | assumption | omega | (simp_all <;> omega)))
  | false =>
   have gh_0 := of_decide_eq_false h_0
   have e : lo_spec_l02Own_1 m_0 (k + 1) i_l0 r2_l1 = r2_l1 := by simp only [lo_spec_l02Own_1, h_0, cond_false]
   rw [e]
   exact outR (e := (.exit 0)) E0Ok hMixed [] mk_spec_l02Own_1_1 [0, 3, 1, 2] (p (sB h_0 <| sN)) (by kernel_rfl) (by intro h; cases h)

def lr_spec_l02Own_1_0 (m_0 : GMesh) : (List (List Int)) := (lo_spec_l02Own_1 m_0 (((m_0.Triangles.length : Int) - 0).toNat + 1) 0 ([] : List (List Int)))

def v_spec_l02Own (m_0 : GMesh) : GMesh := (⟨(([] : List GVector) ++ m_0.Places), (lr_spec_l02Own_1_0 m_0)⟩ : GMesh)

theorem t_spec_l02Own (m_0 : GMesh) (hp0 : m_0.Places.length ≤ 1073741824) (hp1 : m_0.Triangles.length ≤ 1073741824) (hp2 : ∀ t ∈ m_0.Triangles, t.length ≤ 1073741824)  : Fn prog 112 [.ref [.sl (m_0.Places.map GVector.cells), .sl (m_0.Triangles.map (cL (cI .i64)))] 0] (.agg [.own 0, .own 1]) [.vec 44 3 (((v_spec_l02Own m_0).Places).map GVector.cells) false, .nest 52 (((v_spec_l02Own m_0).Triangles).map fun l => l.map (cI .i64)) false] := by
 have y0 : ([] : List GVector).length + m_0.Places.length ≤ 1073741824 := (by first | assumption | omega | (simp_all <;> omega))
 refine fnS E0Ok hMixed (c := bodyOf f112) [] (.agg [.own 0, .own 1]) [.vec 44 3 (([] : List (List AV)) ++ (m_0.Places.map GVector.cells)) false, .nest 52 ((lr_spec_l02Own_1_0 m_0).map fun l => l.map (cI .i64)) false] func112 (sC (show ([] : List (List AV)).length + (m_0.Places.map GVector.cells).length ≤ 1073741824 from (by simpa using y0)) <| sC (show (m_0.Places.map GVector.cells).all (fun cs => cs.length == 3 && cs.all isS) = true from (src_ok (fun _ => rfl))) <| sL mk_spec_l02Own_1_0 4 (lp_cast (st2 := ⟨[.ref [.sl (m_0.Places.map GVector.cells), .sl (m_0.Triangles.map (cL (cI .i64)))] 0, .any, .ptr 0 0 0, .ptr 3 0 0, .i .i64 0, .any, .ref [.sl (m_0.Places.map GVector.cells), .sl (m_0.Triangles.map (cL (cI .i64)))] 0, .ref [.sl (m_0.Places.map GVector.cells), .sl (m_0.Triangles.map (cL (cI .i64)))] 0, .ref [.sl (m_0.Places.map GVector.cells), .sl (m_0.Triangles.map (cL (cI .i64)))] 0, .sl (m_0.Places.map GVector.cells), .own 1, .any, .any, .any, .any, .any, .any, .any, .any, .any, .any, .any, .any, .any, .any, .any, .any, .any, .any, .any, .any, .any, .any, .any, .any, .any], [.box 42 [.nils, .nils], .vec 44 3 (([] : List (List AV)) ++ (m_0.Places.map GVector.cells)) false, .nest 52 [] false, .box 42 [.own 1, .own 2]]⟩) (lp_val (ls_spec_l02Own_1 m_0) (x := (lr_spec_l02Own_1_0 m_0)) (lp_spec_l02Own_1 m_0 hp0 hp1 hp2 (((m_0.Triangles.length : Int) - 0).toNat + 1) 0 ([] : List (List Int)) (show 0 ≤ 0 from (by first | assumption | omega | (simp_all <;> omega))) (show (([] : List (List Int)).length : Int) = 0 from (by simp)) (Nat.lt_succ_self _)) rfl) (by simp [hd_spec_l02Own_1, GVector.cells, cL])) <| sK [2, 3] sN) rfl (by kernel_rfl) (by kernel_rfl) rfl ?_ ?_
 · rfl
 · simp [v_spec_l02Own, GVector.cells]

@[simp] theorem eq_l02Own (m : GMesh) : v_spec_l02Own m = m := by
  unfold v_spec_l02Own lr_spec_l02Own_1_0
  rw [app_loop (f := fun i => (m.Triangles.getD i.toNat default)) (n := (m.Triangles.length : Int)) (lo := lo_spec_l02Own_1 m) (fun k i r => rfl) _ _ _ (Nat.lt_succ_self _)]
  simp [getD_range2]

theorem i_spec_l02Own (m_0 : GMesh) (hp0 : m_0.Places.length ≤ 1073741824) (hp1 : m_0.Triangles.length ≤ 1073741824) (hp2 : ∀ t ∈ m_0.Triangles, t.length ≤ 1073741824) : Fn prog 112 [.ref [.sl (m_0.Places.map GVector.cells), .sl (m_0.Triangles.map (cL (cI .i64)))] 0] (.agg [.own 0, .own 1]) [.vec 44 3 (m_0.Places.map GVector.cells) false, .nest 52 (m_0.Triangles.map fun l => l.map (cI .i64)) false] := by
 simpa only [eq_l02Own] using t_spec_l02Own  m_0 hp0 hp1 hp2

def v_spec_l03Own (b_0 : GBody) : GBody := (⟨b_0.Mesh, (([] : List GSpring) ++ b_0.Springs), b_0.Film, b_0.Bend, (([] : List Nat) ++ b_0.Weights), b_0.Fall⟩ : GBody)

theorem t_spec_l03Own (b_0 : GBody) (hp0 : b_0.Mesh.Places.length ≤ 1073741824) (hp1 : b_0.Mesh.Triangles.length ≤ 1073741824) (hp2 : ∀ t ∈ b_0.Mesh.Triangles, t.length ≤ 1073741824) (hp3 : b_0.Springs.length ≤ 1073741824) (hp4 : b_0.Weights.length ≤ 1073741824)  : Fn prog 125 [.ref [.sl (b_0.Mesh.Places.map GVector.cells), .sl (b_0.Mesh.Triangles.map (cL (cI .i64))), .sl (b_0.Springs.map GSpring.cells), .f .f32 b_0.Film, .f .f32 b_0.Bend, .sl (b_0.Weights.map (cF .f32)), .f .f32 b_0.Fall.X, .f .f32 b_0.Fall.Y, .f .f32 b_0.Fall.Z] 0] (.agg [.own 0, .own 1, .own 2, .f .f32 ((v_spec_l03Own b_0).Film), .f .f32 ((v_spec_l03Own b_0).Bend), .own 3, .f .f32 ((v_spec_l03Own b_0).Fall.X), .f .f32 ((v_spec_l03Own b_0).Fall.Y), .f .f32 ((v_spec_l03Own b_0).Fall.Z)]) [.vec 44 3 (((v_spec_l03Own b_0).Mesh.Places).map GVector.cells) false, .nest 52 (((v_spec_l03Own b_0).Mesh.Triangles).map fun l => l.map (cI .i64)) false, .vec 105 4 (((v_spec_l03Own b_0).Springs).map GSpring.cells) false, .vec 22 1 (((v_spec_l03Own b_0).Weights).map (cF .f32)) false] := by
 have y0 : ([] : List GSpring).length + b_0.Springs.length ≤ 1073741824 := (by first | assumption | omega | (simp_all <;> omega))
 have y1 : ([] : List Nat).length + b_0.Weights.length ≤ 1073741824 := (by first | assumption | omega | (simp_all <;> omega))
 refine fnS E0Ok hMixed (c := bodyOf f125) [] (.agg [.own 0, .own 1, .own 2, .f .f32 b_0.Film, .f .f32 b_0.Bend, .own 3, .f .f32 b_0.Fall.X, .f .f32 b_0.Fall.Y, .f .f32 b_0.Fall.Z]) [.vec 44 3 (b_0.Mesh.Places.map GVector.cells) false, .nest 52 (b_0.Mesh.Triangles.map fun l => l.map (cI .i64)) false, .vec 105 4 (([] : List (List AV)) ++ (b_0.Springs.map GSpring.cells)) false, .vec 22 1 (([] : List (List AV)) ++ (b_0.Weights.map (cF .f32))) false] func125 (sF (Fn.sub (args := [.ref [.sl (b_0.Mesh.Places.map GVector.cells), .sl (b_0.Mesh.Triangles.map (cL (cI .i64))), .sl (b_0.Springs.map GSpring.cells), .f .f32 b_0.Film, .f .f32 b_0.Bend, .sl (b_0.Weights.map (cF .f32)), .f .f32 b_0.Fall.X, .f .f32 b_0.Fall.Y, .f .f32 b_0.Fall.Z] 0]) (r := .agg [.own 0, .own 1]) (new := [.vec 44 3 (b_0.Mesh.Places.map GVector.cells) false, .nest 52 (b_0.Mesh.Triangles.map fun l => l.map (cI .i64)) false]) [some 2] (i_spec_l02Own b_0.Mesh hp0 hp1 hp2)) <| sC (show ([] : List (List AV)).length + (b_0.Springs.map GSpring.cells).length ≤ 1073741824 from (by simpa using y0)) <| sC (show (b_0.Springs.map GSpring.cells).all (fun cs => cs.length == 4 && cs.all isS) = true from (src_ok (fun _ => rfl))) <| sC (show ([] : List (List AV)).length + (b_0.Weights.map (cF .f32)).length ≤ 1073741824 from (by simpa using y1)) <| sC (show (b_0.Weights.map (cF .f32)).all (fun cs => cs.length == 1 && cs.all isS) = true from (src_ok (fun _ => rfl))) <| sK [2, 3, 4, 5] sN) rfl (by kernel_rfl) (by kernel_rfl) rfl ?_ ?_
 · rfl
 · simp [v_spec_l03Own, GSpring.cells, cF]

@[simp] theorem eq_l03Own (b : GBody) : v_spec_l03Own b = b := by simp [v_spec_l03Own]

theorem i_spec_l03Own (b_0 : GBody) (hp0 : b_0.Mesh.Places.length ≤ 1073741824) (hp1 : b_0.Mesh.Triangles.length ≤ 1073741824) (hp2 : ∀ t ∈ b_0.Mesh.Triangles, t.length ≤ 1073741824) (hp3 : b_0.Springs.length ≤ 1073741824) (hp4 : b_0.Weights.length ≤ 1073741824) : Fn prog 125 [.ref [.sl (b_0.Mesh.Places.map GVector.cells), .sl (b_0.Mesh.Triangles.map (cL (cI .i64))), .sl (b_0.Springs.map GSpring.cells), .f .f32 b_0.Film, .f .f32 b_0.Bend, .sl (b_0.Weights.map (cF .f32)), .f .f32 b_0.Fall.X, .f .f32 b_0.Fall.Y, .f .f32 b_0.Fall.Z] 0] (.agg [.own 0, .own 1, .own 2, .f .f32 b_0.Film, .f .f32 b_0.Bend, .own 3, .f .f32 b_0.Fall.X, .f .f32 b_0.Fall.Y, .f .f32 b_0.Fall.Z]) [.vec 44 3 (b_0.Mesh.Places.map GVector.cells) false, .nest 52 (b_0.Mesh.Triangles.map fun l => l.map (cI .i64)) false, .vec 105 4 (b_0.Springs.map GSpring.cells) false, .vec 22 1 (b_0.Weights.map (cF .f32)) false] := by
 simpa only [eq_l03Own] using t_spec_l03Own  b_0 hp0 hp1 hp2 hp3 hp4

def v_spec_l01Scale (v_0 : GVector) (by_1 : Nat) : GVector := (⟨(fop .mul .f32 v_0.X by_1), (fop .mul .f32 v_0.Y by_1), (fop .mul .f32 v_0.Z by_1)⟩ : GVector)

theorem t_spec_l01Scale (v_0 : GVector) (by_1 : Nat)   : Fn prog 114 [.agg [.f .f32 v_0.X, .f .f32 v_0.Y, .f .f32 v_0.Z], .f .f32 by_1] (.agg [.f .f32 ((v_spec_l01Scale v_0 by_1).X), .f .f32 ((v_spec_l01Scale v_0 by_1).Y), .f .f32 ((v_spec_l01Scale v_0 by_1).Z)]) [] := by
 refine fnS E0Ok hMixed (c := bodyOf f114) [] (.agg [.f .f32 (fop .mul .f32 v_0.X by_1), .f .f32 (fop .mul .f32 v_0.Y by_1), .f .f32 (fop .mul .f32 v_0.Z by_1)]) [] func114 (sK [] sN) rfl (by kernel_rfl) (by kernel_rfl) rfl ?_ ?_
 · rfl
 · rfl

def v_spec_l01Add (a_0 : GVector) (b_1 : GVector) : GVector := (⟨(fop .add .f32 a_0.X b_1.X), (fop .add .f32 a_0.Y b_1.Y), (fop .add .f32 a_0.Z b_1.Z)⟩ : GVector)

theorem t_spec_l01Add (a_0 : GVector) (b_1 : GVector)   : Fn prog 113 [.agg [.f .f32 a_0.X, .f .f32 a_0.Y, .f .f32 a_0.Z], .agg [.f .f32 b_1.X, .f .f32 b_1.Y, .f .f32 b_1.Z]] (.agg [.f .f32 ((v_spec_l01Add a_0 b_1).X), .f .f32 ((v_spec_l01Add a_0 b_1).Y), .f .f32 ((v_spec_l01Add a_0 b_1).Z)]) [] := by
 refine fnS E0Ok hMixed (c := bodyOf f113) [] (.agg [.f .f32 (fop .add .f32 a_0.X b_1.X), .f .f32 (fop .add .f32 a_0.Y b_1.Y), .f .f32 (fop .add .f32 a_0.Z b_1.Z)]) [] func113 (sK [] sN) rfl (by kernel_rfl) (by kernel_rfl) rfl ?_ ?_
 · rfl
 · rfl

def lo_spec_l03Moved_1 (b_0 : GBody) (by_1 : (List GVector)) (share_2 : Nat) : Nat → Int → (List GVector) → (List GVector)
  | 0, _, _ => default
  | k + 1, x_l0, r1_l1 => (cond (decide (x_l0 < (by_1.length : Int)))
    (lo_spec_l03Moved_1 b_0 by_1 share_2 k (x_l0 + 1) (r1_l1.set x_l0.toNat (v_spec_l01Add (b_0.Mesh.Places.getD x_l0.toNat default) (v_spec_l01Scale (by_1.getD x_l0.toNat default) share_2))))
    r1_l1)

def ls_spec_l03Moved_1 (b_0 : GBody) (by_1 : (List GVector)) (share_2 : Nat) (r : (List GVector)) : Ex × St := ((.exit 0), ⟨[.ref [.sl (b_0.Mesh.Places.map GVector.cells), .sl (b_0.Mesh.Triangles.map (cL (cI .i64))), .sl (b_0.Springs.map GSpring.cells), .f .f32 b_0.Film, .f .f32 b_0.Bend, .sl (b_0.Weights.map (cF .f32)), .f .f32 b_0.Fall.X, .f .f32 b_0.Fall.Y, .f .f32 b_0.Fall.Z] 0, .sl (by_1.map GVector.cells), .any, .any, .any, .any, .ptr 0 0 0, .ptr 1 0 0, .any, .ref [.sl (b_0.Mesh.Places.map GVector.cells), .sl (b_0.Mesh.Triangles.map (cL (cI .i64))), .sl (b_0.Springs.map GSpring.cells), .f .f32 b_0.Film, .f .f32 b_0.Bend, .sl (b_0.Weights.map (cF .f32)), .f .f32 b_0.Fall.X, .f .f32 b_0.Fall.Y, .f .f32 b_0.Fall.Z] 0, .agg [.own 2, .own 3, .own 4, .f .f32 b_0.Film, .f .f32 b_0.Bend, .own 5, .f .f32 b_0.Fall.X, .f .f32 b_0.Fall.Y, .f .f32 b_0.Fall.Z], .sl (by_1.map GVector.cells), .any, .any, .any, .any, .any, .any, .any, .any, .any, .any, .any, .any, .any, .any, .any, .any, .any, .any, .any, .any, .any, .any, .any, .any, .any, .any], [.box 46 [.nils, .nils, .nils, .f .f32 0, .f .f32 0, .nils, .f .f32 0, .f .f32 0, .f .f32 0], .box 46 [.own 2, .own 3, .own 4, .f .f32 b_0.Film, .f .f32 b_0.Bend, .own 5, .f .f32 b_0.Fall.X, .f .f32 b_0.Fall.Y, .f .f32 b_0.Fall.Z], .vec 44 3 (r.map GVector.cells) false, .nest 52 (b_0.Mesh.Triangles.map fun l => l.map (cI .i64)) false, .vec 105 4 (b_0.Springs.map GSpring.cells) false, .vec 22 1 (b_0.Weights.map (cF .f32)) false]⟩)

def hd_spec_l03Moved_1 (b_0 : GBody) (by_1 : (List GVector)) (share_2 : Nat) (x_l0 : Int) (r1_l1 : (List GVector)) : St := ⟨[.ref [.sl (b_0.Mesh.Places.map GVector.cells), .sl (b_0.Mesh.Triangles.map (cL (cI .i64))), .sl (b_0.Springs.map GSpring.cells), .f .f32 b_0.Film, .f .f32 b_0.Bend, .sl (b_0.Weights.map (cF .f32)), .f .f32 b_0.Fall.X, .f .f32 b_0.Fall.Y, .f .f32 b_0.Fall.Z] 0, .sl (by_1.map GVector.cells), .f .f32 share_2, .any, .any, .any, .ptr 0 0 0, .ptr 5 0 0, .any, .ref [.sl (b_0.Mesh.Places.map GVector.cells), .sl (b_0.Mesh.Triangles.map (cL (cI .i64))), .sl (b_0.Springs.map GSpring.cells), .f .f32 b_0.Film, .f .f32 b_0.Bend, .sl (b_0.Weights.map (cF .f32)), .f .f32 b_0.Fall.X, .f .f32 b_0.Fall.Y, .f .f32 b_0.Fall.Z] 0, .agg [.own 1, .own 2, .own 3, .f .f32 b_0.Film, .f .f32 b_0.Bend, .own 4, .f .f32 b_0.Fall.X, .f .f32 b_0.Fall.Y, .f .f32 b_0.Fall.Z], .sl (by_1.map GVector.cells), .i .i64 (by_1.length : Int), .i .i64 x_l0, .any, .any, .any, .any, .any, .any, .any, .any, .any, .any, .any, .any, .any, .any, .any, .any, .any, .any, .any, .any, .any, .any, .any, .any], [.box 46 [.nils, .nils, .nils, .f .f32 0, .f .f32 0, .nils, .f .f32 0, .f .f32 0, .f .f32 0], .vec 44 3 (r1_l1.map GVector.cells) false, .nest 52 (b_0.Mesh.Triangles.map fun l => l.map (cI .i64)) false, .vec 105 4 (b_0.Springs.map GSpring.cells) false, .vec 22 1 (b_0.Weights.map (cF .f32)) false, .box 46 [.own 1, .own 2, .own 3, .f .f32 b_0.Film, .f .f32 b_0.Bend, .own 4, .f .f32 b_0.Fall.X, .f .f32 b_0.Fall.Y, .f .f32 b_0.Fall.Z]]⟩

def mk_spec_l03Moved_1_0 : List Bool := [true, true, true, false, false, false, true, true, false, true, true, true, true, true, false, false, false, false, false, false, false, false, false, false, false, false, false, false, false, false, false, false, false, false, false, false, false, false]

def mk_spec_l03Moved_1_1 : List Bool := [true, true, false, false, false, false, true, true, false, true, true, true, false, false, false, false, false, false, false, false, false, false, false, false, false, false, false, false, false, false, false, false, false, false, false, false, false, false]

theorem lp_spec_l03Moved_1 (b_0 : GBody) (by_1 : (List GVector)) (share_2 : Nat) (hp0 : b_0.Mesh.Places.length ≤ 1073741824) (hp1 : b_0.Mesh.Triangles.length ≤ 1073741824) (hp2 : ∀ t ∈ b_0.Mesh.Triangles, t.length ≤ 1073741824) (hp3 : b_0.Springs.length ≤ 1073741824) (hp4 : b_0.Weights.length ≤ 1073741824) (hp5 : by_1.length ≤ 1073741824) (hp6 : by_1.length ≤ b_0.Mesh.Places.length) : ∀ (k : Nat) (x_l0 : Int) (r1_l1 : (List GVector)) (hv_spec_l03Moved_1_0 : 0 ≤ x_l0) (hv_spec_l03Moved_1_1 : r1_l1.length = b_0.Mesh.Places.length) (hk : ((by_1.length : Int) - x_l0).toNat < k), Lp prog 0 (sub (bodyOf f128) [1, 1, 0, 1, 0, 0]) (hd_spec_l03Moved_1 b_0 by_1 share_2 x_l0 r1_l1) (ls_spec_l03Moved_1 b_0 by_1 share_2 (lo_spec_l03Moved_1 b_0 by_1 share_2 k x_l0 r1_l1)).1 (ls_spec_l03Moved_1 b_0 by_1 share_2 (lo_spec_l03Moved_1 b_0 by_1 share_2 k x_l0 r1_l1)).2 := by
 intro k
 induction k with
 | zero => intro x_l0 r1_l1 hv_spec_l03Moved_1_0 hv_spec_l03Moved_1_1 hk; exact absurd hk (Nat.not_lt_zero _)
 | succ k ih =>
  intro x_l0 r1_l1 hv_spec_l03Moved_1_0 hv_spec_l03Moved_1_1 hk
  cases h_0 : (decide (x_l0 < (by_1.length : Int))) with
  | true =>
   have gh_0 := of_decide_eq_true h_0
   have y_0 : (0 : Int) ≤ x_l0 := (by first | assumption | omega | (simp_all <;> omega))
   have y_1 : x_l0 < (b_0.Mesh.Places.length : Int) := (by first | assumption | omega | (simp_all <;> omega))
   have y_2 : x_l0 < (by_1.length : Int) := (by first | assumption | omega | (simp_all <;> omega))
   have y_3 : x_l0 < (r1_l1.length : Int) := (by first | assumption | omega | (simp_all <;> omega))
   have y_4 : x_l0.toNat < r1_l1.length := (by first | assumption | omega | (simp_all <;> omega))
   have y_5 : (-9223372036854775808 : Int) ≤ (x_l0 + 1) := (by first | assumption | omega | (simp_all <;> omega))
   have y_6 : (x_l0 + 1) ≤ (9223372036854775807 : Int) := (by first | assumption | omega | (simp_all <;> omega))
   have e : lo_spec_l03Moved_1 b_0 by_1 share_2 (k + 1) x_l0 r1_l1 = (lo_spec_l03Moved_1 b_0 by_1 share_2 k (x_l0 + 1) (r1_l1.set x_l0.toNat (v_spec_l01Add (b_0.Mesh.Places.getD x_l0.toNat default) (v_spec_l01Scale (by_1.getD x_l0.toNat default) share_2)))) := by simp only [lo_spec_l03Moved_1, h_0, cond_true]
   rw [e]
   exact nextS E0Ok hMixed [] mk_spec_l03Moved_1_0 [0, 1, 2, 3, 4, 5] (⟨[.ref [.sl (b_0.Mesh.Places.map GVector.cells), .sl (b_0.Mesh.Triangles.map (cL (cI .i64))), .sl (b_0.Springs.map GSpring.cells), .f .f32 b_0.Film, .f .f32 b_0.Bend, .sl (b_0.Weights.map (cF .f32)), .f .f32 b_0.Fall.X, .f .f32 b_0.Fall.Y, .f .f32 b_0.Fall.Z] 0, .sl (by_1.map GVector.cells), .f .f32 share_2, .any, .any, .any, .ptr 0 0 0, .ptr 5 0 0, .any, .ref [.sl (b_0.Mesh.Places.map GVector.cells), .sl (b_0.Mesh.Triangles.map (cL (cI .i64))), .sl (b_0.Springs.map GSpring.cells), .f .f32 b_0.Film, .f .f32 b_0.Bend, .sl (b_0.Weights.map (cF .f32)), .f .f32 b_0.Fall.X, .f .f32 b_0.Fall.Y, .f .f32 b_0.Fall.Z] 0, .agg [.own 1, .own 2, .own 3, .f .f32 b_0.Film, .f .f32 b_0.Bend, .own 4, .f .f32 b_0.Fall.X, .f .f32 b_0.Fall.Y, .f .f32 b_0.Fall.Z], .sl (by_1.map GVector.cells), .i .i64 (by_1.length : Int), .i .i64 (x_l0 + 1), .any, .any, .any, .any, .any, .any, .any, .any, .any, .any, .any, .any, .any, .any, .any, .any, .any, .any, .any, .any, .any, .any, .any, .any], [.box 46 [.nils, .nils, .nils, .f .f32 0, .f .f32 0, .nils, .f .f32 0, .f .f32 0, .f .f32 0], .vec 44 3 ((r1_l1.map GVector.cells).set x_l0.toNat [.f .f32 ((v_spec_l01Add (b_0.Mesh.Places.getD x_l0.toNat default) (v_spec_l01Scale (by_1.getD x_l0.toNat default) share_2)).X), .f .f32 ((v_spec_l01Add (b_0.Mesh.Places.getD x_l0.toNat default) (v_spec_l01Scale (by_1.getD x_l0.toNat default) share_2)).Y), .f .f32 ((v_spec_l01Add (b_0.Mesh.Places.getD x_l0.toNat default) (v_spec_l01Scale (by_1.getD x_l0.toNat default) share_2)).Z)]) false, .nest 52 (b_0.Mesh.Triangles.map fun l => l.map (cI .i64)) false, .vec 105 4 (b_0.Springs.map GSpring.cells) false, .vec 22 1 (b_0.Weights.map (cF .f32)) false, .box 46 [.own 1, .own 2, .own 3, .f .f32 b_0.Film, .f .f32 b_0.Bend, .own 4, .f .f32 b_0.Fall.X, .f .f32 b_0.Fall.Y, .f .f32 b_0.Fall.Z]]⟩) (sB h_0 <| sK [19, 19] <| sG GVector.cells b_0.Mesh.Places x_l0 y_0 y_1 <| sG GVector.cells by_1 x_l0 y_0 y_2 <| sF (t_spec_l01Scale (by_1.getD x_l0.toNat default) share_2) <| sF (t_spec_l01Add (b_0.Mesh.Places.getD x_l0.toNat default) (v_spec_l01Scale (by_1.getD x_l0.toNat default) share_2)) <| sX GVector.cells r1_l1 x_l0 y_0 y_3 <| sC (maplt (c := GVector.cells) (l := r1_l1) y_4) <| sI (x_l0 + 1) y_5 y_6 <| sN) (by kernel_rfl) (show _ = ⟨[.ref [.sl (b_0.Mesh.Places.map GVector.cells), .sl (b_0.Mesh.Triangles.map (cL (cI .i64))), .sl (b_0.Springs.map GSpring.cells), .f .f32 b_0.Film, .f .f32 b_0.Bend, .sl (b_0.Weights.map (cF .f32)), .f .f32 b_0.Fall.X, .f .f32 b_0.Fall.Y, .f .f32 b_0.Fall.Z] 0, .sl (by_1.map GVector.cells), .f .f32 share_2, .any, .any, .any, .ptr 0 0 0, .ptr 5 0 0, .any, .ref [.sl (b_0.Mesh.Places.map GVector.cells), .sl (b_0.Mesh.Triangles.map (cL (cI .i64))), .sl (b_0.Springs.map GSpring.cells), .f .f32 b_0.Film, .f .f32 b_0.Bend, .sl (b_0.Weights.map (cF .f32)), .f .f32 b_0.Fall.X, .f .f32 b_0.Fall.Y, .f .f32 b_0.Fall.Z] 0, .agg [.own 1, .own 2, .own 3, .f .f32 b_0.Film, .f .f32 b_0.Bend, .own 4, .f .f32 b_0.Fall.X, .f .f32 b_0.Fall.Y, .f .f32 b_0.Fall.Z], .sl (by_1.map GVector.cells), .i .i64 (by_1.length : Int), .i .i64 (x_l0 + 1), .any, .any, .any, .any, .any, .any, .any, .any, .any, .any, .any, .any, .any, .any, .any, .any, .any, .any, .any, .any, .any, .any, .any, .any], [.box 46 [.nils, .nils, .nils, .f .f32 0, .f .f32 0, .nils, .f .f32 0, .f .f32 0, .f .f32 0], .vec 44 3 ((r1_l1.set x_l0.toNat (v_spec_l01Add (b_0.Mesh.Places.getD x_l0.toNat default) (v_spec_l01Scale (by_1.getD x_l0.toNat default) share_2))).map GVector.cells) false, .nest 52 (b_0.Mesh.Triangles.map fun l => l.map (cI .i64)) false, .vec 105 4 (b_0.Springs.map GSpring.cells) false, .vec 22 1 (b_0.Weights.map (cF .f32)) false, .box 46 [.own 1, .own 2, .own 3, .f .f32 b_0.Film, .f .f32 b_0.Bend, .own 4, .f .f32 b_0.Fall.X, .f .f32 b_0.Fall.Y, .f .f32 b_0.Fall.Z]]⟩ from (by simp [List.map_set, GVector.cells])) (ih (x_l0 + 1) (r1_l1.set x_l0.toNat (v_spec_l01Add (b_0.Mesh.Places.getD x_l0.toNat default) (v_spec_l01Scale (by_1.getD x_l0.toNat default) share_2))) (show 0 ≤ (x_l0 + 1) from (by first | assumption | omega | (simp_all <;> omega))) (show (r1_l1.set x_l0.toNat (v_spec_l01Add (b_0.Mesh.Places.getD x_l0.toNat default) (v_spec_l01Scale (by_1.getD x_l0.toNat default) share_2))).length = b_0.Mesh.Places.length from (by first | assumption | omega | (simp_all <;> omega))) (by first | assumption | omega | (simp_all <;> omega)))
  | false =>
   have gh_0 := of_decide_eq_false h_0
   have e : lo_spec_l03Moved_1 b_0 by_1 share_2 (k + 1) x_l0 r1_l1 = r1_l1 := by simp only [lo_spec_l03Moved_1, h_0, cond_false]
   rw [e]
   exact outR (e := (.exit 0)) E0Ok hMixed [] mk_spec_l03Moved_1_1 [0, 5, 1, 2, 3, 4] (sB h_0 <| sN) (by kernel_rfl) (by intro h; cases h)

theorem ln_spec_l03Moved_1_0 (b_0 : GBody) (by_1 : (List GVector)) (share_2 : Nat) : ∀ (k : Nat) (x_l0 : Int) (r1_l1 : (List GVector)) (hk : ((by_1.length : Int) - x_l0).toNat < k), (lo_spec_l03Moved_1 b_0 by_1 share_2 k x_l0 r1_l1).length = r1_l1.length := by
  intro k
  induction k with
  | zero => intro x_l0 r1_l1 hk; exact absurd hk (Nat.not_lt_zero _)
  | succ k ih =>
    intro x_l0 r1_l1 hk
    cases h_0 : (decide (x_l0 < (by_1.length : Int))) with
    | true =>
      have e : lo_spec_l03Moved_1 b_0 by_1 share_2 (k + 1) x_l0 r1_l1 = (lo_spec_l03Moved_1 b_0 by_1 share_2 k (x_l0 + 1) (r1_l1.set x_l0.toNat (v_spec_l01Add (b_0.Mesh.Places.getD x_l0.toNat default) (v_spec_l01Scale (by_1.getD x_l0.toNat default) share_2)))) := by simp only [lo_spec_l03Moved_1, h_0, cond_true]
      rw [e, ih (x_l0 + 1) (r1_l1.set x_l0.toNat (v_spec_l01Add (b_0.Mesh.Places.getD x_l0.toNat default) (v_spec_l01Scale (by_1.getD x_l0.toNat default) share_2))) (by first | assumption | omega | (simp_all <;> omega))]; simp
    | false =>
      have e : lo_spec_l03Moved_1 b_0 by_1 share_2 (k + 1) x_l0 r1_l1 = r1_l1 := by simp only [lo_spec_l03Moved_1, h_0, cond_false]
      first | (rw [e]; done) | (rw [e]; rfl)

def lr_spec_l03Moved_1_0 (b_0 : GBody) (by_1 : (List GVector)) (share_2 : Nat) : (List GVector) := (lo_spec_l03Moved_1 b_0 by_1 share_2 (((by_1.length : Int) - 0).toNat + 1) 0 b_0.Mesh.Places)

@[simp] theorem len_lr_spec_l03Moved_1_0_0 (b_0 : GBody) (by_1 : (List GVector)) (share_2 : Nat) : (lr_spec_l03Moved_1_0 b_0 by_1 share_2).length = (b_0.Mesh.Places : (List GVector)).length := ln_spec_l03Moved_1_0 b_0 by_1 share_2 (((by_1.length : Int) - 0).toNat + 1) 0 b_0.Mesh.Places (by first | exact Nat.lt_succ_self _ | simp)

def v_spec_l03Moved (b_0 : GBody) (by_1 : (List GVector)) (share_2 : Nat) : GBody := (⟨(⟨(lr_spec_l03Moved_1_0 b_0 by_1 share_2), b_0.Mesh.Triangles⟩ : GMesh), b_0.Springs, b_0.Film, b_0.Bend, b_0.Weights, b_0.Fall⟩ : GBody)

theorem leP_spec_l03Moved (b : GBody) (v : List GVector) (s : Nat) : (v_spec_l03Moved b v s).Mesh.Places.length ≤ b.Mesh.Places.length := by
  unfold v_spec_l03Moved
  simp

theorem leT_spec_l03Moved (b : GBody) (v : List GVector) (s : Nat) : (v_spec_l03Moved b v s).Mesh.Triangles.length ≤ b.Mesh.Triangles.length := by
  unfold v_spec_l03Moved
  simp

theorem leW_spec_l03Moved (b : GBody) (v : List GVector) (s : Nat) : (v_spec_l03Moved b v s).Weights.length ≤ b.Weights.length := by
  unfold v_spec_l03Moved
  simp

theorem leS_spec_l03Moved (b : GBody) (v : List GVector) (s : Nat) : (v_spec_l03Moved b v s).Springs.length ≤ b.Springs.length := by
  unfold v_spec_l03Moved
  simp

theorem mem_spec_l03Moved (b : GBody) (v : List GVector) (s : Nat) : ∀ t ∈ (v_spec_l03Moved b v s).Mesh.Triangles, t ∈ b.Mesh.Triangles := by
  unfold v_spec_l03Moved
  simp

theorem t_spec_l03Moved (b_0 : GBody) (by_1 : (List GVector)) (share_2 : Nat) (hp0 : b_0.Mesh.Places.length ≤ 1073741824) (hp1 : b_0.Mesh.Triangles.length ≤ 1073741824) (hp2 : ∀ t ∈ b_0.Mesh.Triangles, t.length ≤ 1073741824) (hp3 : b_0.Springs.length ≤ 1073741824) (hp4 : b_0.Weights.length ≤ 1073741824) (hp5 : by_1.length ≤ 1073741824) (hp6 : by_1.length ≤ b_0.Mesh.Places.length)  : Fn prog 128 [.ref [.sl (b_0.Mesh.Places.map GVector.cells), .sl (b_0.Mesh.Triangles.map (cL (cI .i64))), .sl (b_0.Springs.map GSpring.cells), .f .f32 b_0.Film, .f .f32 b_0.Bend, .sl (b_0.Weights.map (cF .f32)), .f .f32 b_0.Fall.X, .f .f32 b_0.Fall.Y, .f .f32 b_0.Fall.Z] 0, .sl (by_1.map GVector.cells), .f .f32 share_2] (.agg [.own 0, .own 1, .own 2, .f .f32 ((v_spec_l03Moved b_0 by_1 share_2).Film), .f .f32 ((v_spec_l03Moved b_0 by_1 share_2).Bend), .own 3, .f .f32 ((v_spec_l03Moved b_0 by_1 share_2).Fall.X), .f .f32 ((v_spec_l03Moved b_0 by_1 share_2).Fall.Y), .f .f32 ((v_spec_l03Moved b_0 by_1 share_2).Fall.Z)]) [.vec 44 3 (((v_spec_l03Moved b_0 by_1 share_2).Mesh.Places).map GVector.cells) false, .nest 52 (((v_spec_l03Moved b_0 by_1 share_2).Mesh.Triangles).map fun l => l.map (cI .i64)) false, .vec 105 4 (((v_spec_l03Moved b_0 by_1 share_2).Springs).map GSpring.cells) false, .vec 22 1 (((v_spec_l03Moved b_0 by_1 share_2).Weights).map (cF .f32)) false] := by
 refine fnS E0Ok hMixed (c := bodyOf f128) [] (.agg [.own 0, .own 1, .own 2, .f .f32 b_0.Film, .f .f32 b_0.Bend, .own 3, .f .f32 b_0.Fall.X, .f .f32 b_0.Fall.Y, .f .f32 b_0.Fall.Z]) [.vec 44 3 ((lr_spec_l03Moved_1_0 b_0 by_1 share_2).map GVector.cells) false, .nest 52 (b_0.Mesh.Triangles.map fun l => l.map (cI .i64)) false, .vec 105 4 (b_0.Springs.map GSpring.cells) false, .vec 22 1 (b_0.Weights.map (cF .f32)) false] func128 (sF (i_spec_l03Own b_0 hp0 hp1 hp2 hp3 hp4) <| sZ GVector.cells by_1 <| sL mk_spec_l03Moved_1_0 6 (lp_val (ls_spec_l03Moved_1 b_0 by_1 share_2) (x := (lr_spec_l03Moved_1_0 b_0 by_1 share_2)) (lp_spec_l03Moved_1 b_0 by_1 share_2 hp0 hp1 hp2 hp3 hp4 hp5 hp6 (((by_1.length : Int) - 0).toNat + 1) 0 b_0.Mesh.Places (show 0 ≤ 0 from (by first | assumption | omega | (simp_all <;> omega))) (show b_0.Mesh.Places.length = b_0.Mesh.Places.length from (by simp)) (Nat.lt_succ_self _)) rfl) <| sK [2, 3, 4, 5] sN) rfl (by kernel_rfl) (by kernel_rfl) rfl ?_ ?_
 · rfl
 · simp [v_spec_l03Moved]

theorem len_l03Moved (b : GBody) (v : List GVector) (s : Nat) : (lr_spec_l03Moved_1_0 b v s).length = b.Mesh.Places.length := by simp
theorem l03Is_all (b : GBody) : v_spec_l03Is b = cond (v_spec_l02Is b.Mesh) (cond (decide ((b.Springs.length : Int) > 200)) false (cond ((b.Weights.length : Int) != (b.Mesh.Places.length : Int)) false (b.Springs.all fun s => v_spec_l03Spring s (b.Mesh.Places.length : Int)))) false := by
  unfold v_spec_l03Is lr_spec_l03Is_1_0
  rw [all_from (a := b.Springs) (p := fun s => v_spec_l03Spring s (b.Mesh.Places.length : Int)) (lo := lo_spec_l03Is_1 b) (x := ()) (y := ()) (fun k i => rfl)]
  cases (b.Springs.all fun s => v_spec_l03Spring s (b.Mesh.Places.length : Int)) <;> rfl
theorem l03Is_moved (b : GBody) (v : List GVector) (s : Nat) : v_spec_l03Is (v_spec_l03Moved b v s) = v_spec_l03Is b := by
  rw [l03Is_all, l03Is_all, l02Is_eq, l02Is_eq]
  unfold v_spec_l03Moved
  simp only [len_l03Moved]

def v_spec_MovePlaces (b_0 : GBody) (by_1 : (List GVector)) (share_2 : Nat) : GBody × Bool := (cond (v_spec_l03Is b_0)
  (cond ((by_1.length : Int) != (b_0.Mesh.Places.length : Int))
    ((⟨(⟨([] : List GVector), ([] : List (List Int))⟩ : GMesh), ([] : List GSpring), 0, 0, ([] : List Nat), (⟨0, 0, 0⟩ : GVector)⟩ : GBody), false)
    (cond (v_spec_l03Is (v_spec_l03Moved b_0 by_1 share_2))
      ((v_spec_l03Moved b_0 by_1 share_2), true)
      ((⟨(⟨([] : List GVector), ([] : List (List Int))⟩ : GMesh), ([] : List GSpring), 0, 0, ([] : List Nat), (⟨0, 0, 0⟩ : GVector)⟩ : GBody), false)))
  ((⟨(⟨([] : List GVector), ([] : List (List Int))⟩ : GMesh), ([] : List GSpring), 0, 0, ([] : List Nat), (⟨0, 0, 0⟩ : GVector)⟩ : GBody), false))

theorem leP_spec_MovePlaces (b : GBody) (v : List GVector) (s : Nat) : (v_spec_MovePlaces b v s).1.Mesh.Places.length ≤ b.Mesh.Places.length := by
  unfold v_spec_MovePlaces
  rw [l03Is_moved]; cases v_spec_l03Is b <;> cases ((v.length : Int) != (b.Mesh.Places.length : Int)) <;> simp [v_spec_l03Moved]

theorem leT_spec_MovePlaces (b : GBody) (v : List GVector) (s : Nat) : (v_spec_MovePlaces b v s).1.Mesh.Triangles.length ≤ b.Mesh.Triangles.length := by
  unfold v_spec_MovePlaces
  rw [l03Is_moved]; cases v_spec_l03Is b <;> cases ((v.length : Int) != (b.Mesh.Places.length : Int)) <;> simp [v_spec_l03Moved]

theorem leW_spec_MovePlaces (b : GBody) (v : List GVector) (s : Nat) : (v_spec_MovePlaces b v s).1.Weights.length ≤ b.Weights.length := by
  unfold v_spec_MovePlaces
  rw [l03Is_moved]; cases v_spec_l03Is b <;> cases ((v.length : Int) != (b.Mesh.Places.length : Int)) <;> simp [v_spec_l03Moved]

theorem leS_spec_MovePlaces (b : GBody) (v : List GVector) (s : Nat) : (v_spec_MovePlaces b v s).1.Springs.length ≤ b.Springs.length := by
  unfold v_spec_MovePlaces
  rw [l03Is_moved]; cases v_spec_l03Is b <;> cases ((v.length : Int) != (b.Mesh.Places.length : Int)) <;> simp [v_spec_l03Moved]

theorem mem_spec_MovePlaces (b : GBody) (v : List GVector) (s : Nat) : ∀ t ∈ (v_spec_MovePlaces b v s).1.Mesh.Triangles, t ∈ b.Mesh.Triangles := by
  unfold v_spec_MovePlaces
  rw [l03Is_moved]; cases v_spec_l03Is b <;> cases ((v.length : Int) != (b.Mesh.Places.length : Int)) <;> simp [v_spec_l03Moved]

theorem t_spec_MovePlaces (b_0 : GBody) (by_1 : (List GVector)) (share_2 : Nat) (hp0 : b_0.Mesh.Places.length ≤ 1073741824) (hp1 : b_0.Mesh.Triangles.length ≤ 1073741824) (hp2 : ∀ t ∈ b_0.Mesh.Triangles, t.length ≤ 1073741824) (hp3 : b_0.Springs.length ≤ 1073741824) (hp4 : b_0.Weights.length ≤ 1073741824) (hp5 : by_1.length ≤ 1073741824)  : Fn prog 57 [.agg [.sl (b_0.Mesh.Places.map GVector.cells), .sl (b_0.Mesh.Triangles.map (cL (cI .i64))), .sl (b_0.Springs.map GSpring.cells), .f .f32 b_0.Film, .f .f32 b_0.Bend, .sl (b_0.Weights.map (cF .f32)), .f .f32 b_0.Fall.X, .f .f32 b_0.Fall.Y, .f .f32 b_0.Fall.Z], .sl (by_1.map GVector.cells), .f .f32 share_2] (.tup [.agg [.own 0, .own 1, .own 2, .f .f32 ((v_spec_MovePlaces b_0 by_1 share_2).1.Film), .f .f32 ((v_spec_MovePlaces b_0 by_1 share_2).1.Bend), .own 3, .f .f32 ((v_spec_MovePlaces b_0 by_1 share_2).1.Fall.X), .f .f32 ((v_spec_MovePlaces b_0 by_1 share_2).1.Fall.Y), .f .f32 ((v_spec_MovePlaces b_0 by_1 share_2).1.Fall.Z)], .b ((v_spec_MovePlaces b_0 by_1 share_2).2)]) [.vec 44 3 (((v_spec_MovePlaces b_0 by_1 share_2).1.Mesh.Places).map GVector.cells) false, .nest 52 (((v_spec_MovePlaces b_0 by_1 share_2).1.Mesh.Triangles).map fun l => l.map (cI .i64)) false, .vec 105 4 (((v_spec_MovePlaces b_0 by_1 share_2).1.Springs).map GSpring.cells) false, .vec 22 1 (((v_spec_MovePlaces b_0 by_1 share_2).1.Weights).map (cF .f32)) false] := by
 have p {a C} (s : Scr a C) := sF (t_spec_l03Is b_0 hp0 hp1 hp2 hp3 hp4) <| s
 cases h0 : (v_spec_l03Is b_0) with
 | true =>
  have q {a C} (s : Scr a C) := p (sB' h0 <| sB' h0 <| sZ GVector.cells by_1 <| sB' h0 <| sB' h0 <| sB' h0 <| sB' h0 <| sZ GVector.cells b_0.Mesh.Places <| sB' h0 <| sB' h0 <| s)
  clear p
  cases h1 : ((by_1.length : Int) != (b_0.Mesh.Places.length : Int)) with
  | true =>
   have gh1 := bne_iff_ne.1 h1
   refine fnS E0Ok hMixed (c := bodyOf f57) [(.row 1 0, .vec 44 3 [] false), (.row 1 1, .nest 52 [] false), (.row 1 2, .vec 105 4 [] false), (.row 1 5, .vec 22 1 [] false)] (.tup [.agg [.own 0, .own 1, .own 2, .f .f32 0, .f .f32 0, .own 3, .f .f32 0, .f .f32 0, .f .f32 0], .b false]) [.vec 44 3 [] false, .nest 52 [] false, .vec 105 4 [] false, .vec 22 1 [] false] func57 (q (sB h1 <| sK [2, 3, 4, 5] sN)) rfl (by kernel_rfl) (by kernel_rfl) rfl ?_ ?_
   · simp only [v_spec_MovePlaces, h0, h1, cond_true]
   · simp [v_spec_MovePlaces, h0, h1, GVector.cells, cL, GSpring.cells, cF]
  | false =>
   have gh1 := bne_eq_false_iff_eq.1 h1
   have y0 : by_1.length ≤ b_0.Mesh.Places.length := by clear q; exact (by first | assumption | omega | (simp_all <;> omega))
   have l1 := (leP_spec_l03Moved b_0 by_1 share_2)
   have l2 := (leT_spec_l03Moved b_0 by_1 share_2)
   have l3 := (leW_spec_l03Moved b_0 by_1 share_2)
   have l4 := (leS_spec_l03Moved b_0 by_1 share_2)
   have y1 : (v_spec_l03Moved b_0 by_1 share_2).Mesh.Places.length ≤ 1073741824 := by clear q; exact (by first | assumption | omega | (simp_all <;> omega))
   have y2 : (v_spec_l03Moved b_0 by_1 share_2).Mesh.Triangles.length ≤ 1073741824 := by clear q; exact (by first | assumption | omega | (simp_all <;> omega))
   have y3 : ∀ t ∈ (v_spec_l03Moved b_0 by_1 share_2).Mesh.Triangles, t.length ≤ 1073741824 := by clear q; exact (by first | assumption | omega | (simp_all <;> omega))
   have y4 : (v_spec_l03Moved b_0 by_1 share_2).Springs.length ≤ 1073741824 := by clear q; exact (by first | assumption | omega | (simp_all <;> omega))
   have y5 : (v_spec_l03Moved b_0 by_1 share_2).Weights.length ≤ 1073741824 := by clear q; exact (by first | assumption | omega | (simp_all <;> omega))
   have p {a C} (s : Scr a C) := q (sB h1 <| sF (t_spec_l03Moved b_0 by_1 share_2 hp0 hp1 hp2 hp3 hp4 hp5 y0) <| sF (Fn.castA (args' := [.ref [.sl (((v_spec_l03Moved b_0 by_1 share_2).Mesh.Places).map GVector.cells), .sl ((((v_spec_l03Moved b_0 by_1 share_2).Mesh.Triangles).map fun l => l.map (cI .i64)).map fun l => [.sl l]), .sl (((v_spec_l03Moved b_0 by_1 share_2).Springs).map GSpring.cells), .f .f32 ((v_spec_l03Moved b_0 by_1 share_2).Film), .f .f32 ((v_spec_l03Moved b_0 by_1 share_2).Bend), .sl (((v_spec_l03Moved b_0 by_1 share_2).Weights).map (cF .f32)), .f .f32 ((v_spec_l03Moved b_0 by_1 share_2).Fall.X), .f .f32 ((v_spec_l03Moved b_0 by_1 share_2).Fall.Y), .f .f32 ((v_spec_l03Moved b_0 by_1 share_2).Fall.Z)] 0]) (t_spec_l03Is (v_spec_l03Moved b_0 by_1 share_2) y1 y2 y3 y4 y5) (by simp [cL, Function.comp_def])) <| s)
   clear q
   cases h2 : (v_spec_l03Is (v_spec_l03Moved b_0 by_1 share_2)) with
   | true =>
    refine fnS E0Ok hMixed (c := bodyOf f57) [] (.tup [.agg [.own 0, .own 1, .own 2, .f .f32 ((v_spec_l03Moved b_0 by_1 share_2).Film), .f .f32 ((v_spec_l03Moved b_0 by_1 share_2).Bend), .own 3, .f .f32 ((v_spec_l03Moved b_0 by_1 share_2).Fall.X), .f .f32 ((v_spec_l03Moved b_0 by_1 share_2).Fall.Y), .f .f32 ((v_spec_l03Moved b_0 by_1 share_2).Fall.Z)], .b true]) [.vec 44 3 (((v_spec_l03Moved b_0 by_1 share_2).Mesh.Places).map GVector.cells) false, .nest 52 (((v_spec_l03Moved b_0 by_1 share_2).Mesh.Triangles).map fun l => l.map (cI .i64)) false, .vec 105 4 (((v_spec_l03Moved b_0 by_1 share_2).Springs).map GSpring.cells) false, .vec 22 1 (((v_spec_l03Moved b_0 by_1 share_2).Weights).map (cF .f32)) false] func57 (p (sB' h2 <| sK [2, 3, 4, 5] sN)) rfl (by kernel_rfl) (by kernel_rfl) rfl ?_ ?_
    · simp only [v_spec_MovePlaces, h0, h1, h2, cond_true, cond_false]
    · simp [v_spec_MovePlaces, h0, h1, h2]
   | false =>
    refine fnS E0Ok hMixed (c := bodyOf f57) [(.row 1 0, .vec 44 3 [] false), (.row 1 1, .nest 52 [] false), (.row 1 2, .vec 105 4 [] false), (.row 1 5, .vec 22 1 [] false)] (.tup [.agg [.own 0, .own 1, .own 2, .f .f32 0, .f .f32 0, .own 3, .f .f32 0, .f .f32 0, .f .f32 0], .b false]) [.vec 44 3 [] false, .nest 52 [] false, .vec 105 4 [] false, .vec 22 1 [] false] func57 (p (sB' h2 <| sK [7, 8, 9, 10] sN)) rfl (by kernel_rfl) (by kernel_rfl) rfl ?_ ?_
    · simp only [v_spec_MovePlaces, h0, h1, h2, cond_true, cond_false]
    · simp [v_spec_MovePlaces, h0, h1, h2, GVector.cells, cL, GSpring.cells, cF]
 | false =>
  refine fnS E0Ok hMixed (c := bodyOf f57) [(.row 1 0, .vec 44 3 [] false), (.row 1 1, .nest 52 [] false), (.row 1 2, .vec 105 4 [] false), (.row 1 5, .vec 22 1 [] false)] (.tup [.agg [.own 0, .own 1, .own 2, .f .f32 0, .f .f32 0, .own 3, .f .f32 0, .f .f32 0, .f .f32 0], .b false]) [.vec 44 3 [] false, .nest 52 [] false, .vec 105 4 [] false, .vec 22 1 [] false] func57 (p (sB' h0 <| sB' h0 <| sB' h0 <| sB' h0 <| sB' h0 <| sB' h0 <| sB' h0 <| sB' h0 <| sB (show true = true from rfl) <| sK [2, 3, 4, 5] sN)) rfl (by kernel_rfl) (by kernel_rfl) rfl ?_ ?_
  · simp only [v_spec_MovePlaces, h0, cond_false]
  · simp [v_spec_MovePlaces, h0, GVector.cells, cL, GSpring.cells, cF]

def v_impl_within (n_0 : Int) (low_1 : Int) (high_2 : Int) : Bool := (cond (decide (n_0 ≥ low_1))
  (decide (n_0 ≤ high_2))
  false)

theorem t_impl_within (n_0 : Int) (low_1 : Int) (high_2 : Int)   : Fn prog 156 [.i .i64 n_0, .i .i64 low_1, .i .i64 high_2] (.b (v_impl_within n_0 low_1 high_2)) [] := by
 cases h0 : (decide (n_0 ≥ low_1)) with
 | true =>
  have gh0 := of_decide_eq_true h0
  refine fnS E0Ok hMixed (c := bodyOf f156) [] (.b (decide (n_0 ≤ high_2))) [] func156 (sB h0 <| sB h0 <| sB h0 <| sB h0 <| sK [] sN) rfl (by kernel_rfl) (by kernel_rfl) rfl ?_ ?_
  · simp only [v_impl_within, h0, cond_true]
  · rfl
 | false =>
  have gh0 := of_decide_eq_false h0
  refine fnS E0Ok hMixed (c := bodyOf f156) [] (.b false) [] func156 (sB h0 <| sB h0 <| sB h0 <| sB h0 <| sK [] sN) rfl (by kernel_rfl) (by kernel_rfl) rfl ?_ ?_
  · simp only [v_impl_within, h0, cond_false]
  · rfl

def lo_impl_ValidMesh_2 (m_0 : GMesh) (x_l0 : Int) : Nat → Int → (Unit) ⊕ (Unit)
  | 0, _ => .inl default
  | k + 1, x_l0_1 => (cond (decide (x_l0_1 < ((m_0.Triangles.getD x_l0.toNat default).length : Int)))
    (cond (v_impl_within ((m_0.Triangles.getD x_l0.toNat default).getD x_l0_1.toNat default) 0 (IntKind.wrap .i64 ((m_0.Places.length : Int) - 1)))
      (lo_impl_ValidMesh_2 m_0 x_l0 k (x_l0_1 + 1))
      (.inl ()))
    (.inr ()))

def ls_impl_ValidMesh_2 (m_0 : GMesh) (x_l0 : Int) : (Unit) ⊕ (Unit) → Ex × St
  | .inl r => (.ret, ⟨[.any, .any, .b false, .any, .any, .any, .any, .any, .any, .any, .any, .any, .any, .any, .any, .any, .any, .any, .any, .any, .any, .any, .any, .any, .any, .any, .any, .any, .any, .any, .any, .any, .any, .any, .any, .any, .any, .any, .any, .any, .any, .any, .any, .any, .any, .any, .any, .any, .any, .any, .any, .any, .any, .any, .any, .any, .any, .any, .any, .any, .any, .any, .any, .any, .any, .any, .any, .any, .any], []⟩)
  | .inr r => ((.exit 2), ⟨[.agg [.sl (m_0.Places.map GVector.cells), .sl (m_0.Triangles.map (cL (cI .i64)))], .ptr 0 0 0, .any, .i .i64 (m_0.Places.length : Int), .any, .sl ((m_0.Triangles.getD x_l0.toNat default).map (cI .i64)), .any, .any, .ptr 0 0 0, .sl (m_0.Places.map GVector.cells), .i .i64 (m_0.Places.length : Int), .i .i64 (m_0.Places.length : Int), .b (decide ((m_0.Places.length : Int) > 64)), .b (decide ((m_0.Places.length : Int) > 64)), .ptr 0 0 1, .sl (m_0.Triangles.map (cL (cI .i64))), .i .i64 (m_0.Triangles.length : Int), .b (decide ((m_0.Triangles.length : Int) > 128)), .b (decide ((m_0.Triangles.length : Int) > 128)), .ptr 0 0 1, .sl (m_0.Triangles.map (cL (cI .i64))), .i .i64 (m_0.Triangles.length : Int), .i .i64 x_l0, .b (decide (x_l0 < (m_0.Triangles.length : Int))), .ref [.sl ((m_0.Triangles.getD x_l0.toNat default).map (cI .i64))] 0, .sl ((m_0.Triangles.getD x_l0.toNat default).map (cI .i64)), .sl ((m_0.Triangles.getD x_l0.toNat default).map (cI .i64)), .i .i64 ((m_0.Triangles.getD x_l0.toNat default).length : Int), .b (((m_0.Triangles.getD x_l0.toNat default).length : Int) != 3), .b (((m_0.Triangles.getD x_l0.toNat default).length : Int) != 3), .sl ((m_0.Triangles.getD x_l0.toNat default).map (cI .i64)), .ref [.i .i64 ((m_0.Triangles.getD x_l0.toNat default).getD 0 default)] 0, .i .i64 ((m_0.Triangles.getD x_l0.toNat default).getD 0 default), .sl ((m_0.Triangles.getD x_l0.toNat default).map (cI .i64)), .ref [.i .i64 ((m_0.Triangles.getD x_l0.toNat default).getD 1 default)] 0, .i .i64 ((m_0.Triangles.getD x_l0.toNat default).getD 1 default), .b (((m_0.Triangles.getD x_l0.toNat default).getD 0 default) == ((m_0.Triangles.getD x_l0.toNat default).getD 1 default)), .b (((m_0.Triangles.getD x_l0.toNat default).getD 0 default) == ((m_0.Triangles.getD x_l0.toNat default).getD 1 default)), .b (((m_0.Triangles.getD x_l0.toNat default).getD 0 default) == ((m_0.Triangles.getD x_l0.toNat default).getD 1 default)), .sl ((m_0.Triangles.getD x_l0.toNat default).map (cI .i64)), .ref [.i .i64 ((m_0.Triangles.getD x_l0.toNat default).getD 1 default)] 0, .i .i64 ((m_0.Triangles.getD x_l0.toNat default).getD 1 default), .sl ((m_0.Triangles.getD x_l0.toNat default).map (cI .i64)), .ref [.i .i64 ((m_0.Triangles.getD x_l0.toNat default).getD 2 default)] 0, .i .i64 ((m_0.Triangles.getD x_l0.toNat default).getD 2 default), .b (((m_0.Triangles.getD x_l0.toNat default).getD 1 default) == ((m_0.Triangles.getD x_l0.toNat default).getD 2 default)), .b (((m_0.Triangles.getD x_l0.toNat default).getD 1 default) == ((m_0.Triangles.getD x_l0.toNat default).getD 2 default)), .b (((m_0.Triangles.getD x_l0.toNat default).getD 1 default) == ((m_0.Triangles.getD x_l0.toNat default).getD 2 default)), .sl ((m_0.Triangles.getD x_l0.toNat default).map (cI .i64)), .ref [.i .i64 ((m_0.Triangles.getD x_l0.toNat default).getD 0 default)] 0, .i .i64 ((m_0.Triangles.getD x_l0.toNat default).getD 0 default), .sl ((m_0.Triangles.getD x_l0.toNat default).map (cI .i64)), .ref [.i .i64 ((m_0.Triangles.getD x_l0.toNat default).getD 2 default)] 0, .i .i64 ((m_0.Triangles.getD x_l0.toNat default).getD 2 default), .b (((m_0.Triangles.getD x_l0.toNat default).getD 0 default) == ((m_0.Triangles.getD x_l0.toNat default).getD 2 default)), .b (((m_0.Triangles.getD x_l0.toNat default).getD 0 default) == ((m_0.Triangles.getD x_l0.toNat default).getD 2 default)), .sl ((m_0.Triangles.getD x_l0.toNat default).map (cI .i64)), .any, .any, .any, .any, .any, .any, .any, .any, .any, .any, .any, .any], [.box 42 [.sl (m_0.Places.map GVector.cells), .sl (m_0.Triangles.map (cL (cI .i64)))]]⟩)

def hd_impl_ValidMesh_2 (m_0 : GMesh) (x_l0 : Int) (x_l0_1 : Int) : St := ⟨[.agg [.sl (m_0.Places.map GVector.cells), .sl (m_0.Triangles.map (cL (cI .i64)))], .ptr 0 0 0, .any, .i .i64 (m_0.Places.length : Int), .any, .sl ((m_0.Triangles.getD x_l0.toNat default).map (cI .i64)), .any, .any, .ptr 0 0 0, .sl (m_0.Places.map GVector.cells), .i .i64 (m_0.Places.length : Int), .i .i64 (m_0.Places.length : Int), .b (decide ((m_0.Places.length : Int) > 64)), .b (decide ((m_0.Places.length : Int) > 64)), .ptr 0 0 1, .sl (m_0.Triangles.map (cL (cI .i64))), .i .i64 (m_0.Triangles.length : Int), .b (decide ((m_0.Triangles.length : Int) > 128)), .b (decide ((m_0.Triangles.length : Int) > 128)), .ptr 0 0 1, .sl (m_0.Triangles.map (cL (cI .i64))), .i .i64 (m_0.Triangles.length : Int), .i .i64 x_l0, .b (decide (x_l0 < (m_0.Triangles.length : Int))), .ref [.sl ((m_0.Triangles.getD x_l0.toNat default).map (cI .i64))] 0, .sl ((m_0.Triangles.getD x_l0.toNat default).map (cI .i64)), .sl ((m_0.Triangles.getD x_l0.toNat default).map (cI .i64)), .i .i64 ((m_0.Triangles.getD x_l0.toNat default).length : Int), .b (((m_0.Triangles.getD x_l0.toNat default).length : Int) != 3), .b (((m_0.Triangles.getD x_l0.toNat default).length : Int) != 3), .sl ((m_0.Triangles.getD x_l0.toNat default).map (cI .i64)), .ref [.i .i64 ((m_0.Triangles.getD x_l0.toNat default).getD 0 default)] 0, .i .i64 ((m_0.Triangles.getD x_l0.toNat default).getD 0 default), .sl ((m_0.Triangles.getD x_l0.toNat default).map (cI .i64)), .ref [.i .i64 ((m_0.Triangles.getD x_l0.toNat default).getD 1 default)] 0, .i .i64 ((m_0.Triangles.getD x_l0.toNat default).getD 1 default), .b (((m_0.Triangles.getD x_l0.toNat default).getD 0 default) == ((m_0.Triangles.getD x_l0.toNat default).getD 1 default)), .b (((m_0.Triangles.getD x_l0.toNat default).getD 0 default) == ((m_0.Triangles.getD x_l0.toNat default).getD 1 default)), .b (((m_0.Triangles.getD x_l0.toNat default).getD 0 default) == ((m_0.Triangles.getD x_l0.toNat default).getD 1 default)), .sl ((m_0.Triangles.getD x_l0.toNat default).map (cI .i64)), .ref [.i .i64 ((m_0.Triangles.getD x_l0.toNat default).getD 1 default)] 0, .i .i64 ((m_0.Triangles.getD x_l0.toNat default).getD 1 default), .sl ((m_0.Triangles.getD x_l0.toNat default).map (cI .i64)), .ref [.i .i64 ((m_0.Triangles.getD x_l0.toNat default).getD 2 default)] 0, .i .i64 ((m_0.Triangles.getD x_l0.toNat default).getD 2 default), .b (((m_0.Triangles.getD x_l0.toNat default).getD 1 default) == ((m_0.Triangles.getD x_l0.toNat default).getD 2 default)), .b (((m_0.Triangles.getD x_l0.toNat default).getD 1 default) == ((m_0.Triangles.getD x_l0.toNat default).getD 2 default)), .b (((m_0.Triangles.getD x_l0.toNat default).getD 1 default) == ((m_0.Triangles.getD x_l0.toNat default).getD 2 default)), .sl ((m_0.Triangles.getD x_l0.toNat default).map (cI .i64)), .ref [.i .i64 ((m_0.Triangles.getD x_l0.toNat default).getD 0 default)] 0, .i .i64 ((m_0.Triangles.getD x_l0.toNat default).getD 0 default), .sl ((m_0.Triangles.getD x_l0.toNat default).map (cI .i64)), .ref [.i .i64 ((m_0.Triangles.getD x_l0.toNat default).getD 2 default)] 0, .i .i64 ((m_0.Triangles.getD x_l0.toNat default).getD 2 default), .b (((m_0.Triangles.getD x_l0.toNat default).getD 0 default) == ((m_0.Triangles.getD x_l0.toNat default).getD 2 default)), .b (((m_0.Triangles.getD x_l0.toNat default).getD 0 default) == ((m_0.Triangles.getD x_l0.toNat default).getD 2 default)), .sl ((m_0.Triangles.getD x_l0.toNat default).map (cI .i64)), .i .i64 ((m_0.Triangles.getD x_l0.toNat default).length : Int), .i .i64 x_l0_1, .any, .any, .any, .any, .any, .any, .any, .any, .any, .any], [.box 42 [.sl (m_0.Places.map GVector.cells), .sl (m_0.Triangles.map (cL (cI .i64)))]]⟩

def mk_impl_ValidMesh_2_0 : List Bool := [true, true, false, true, false, true, false, false, true, true, true, true, true, true, true, true, true, true, true, true, true, true, true, true, true, true, true, true, true, true, true, true, true, true, true, true, true, true, true, true, true, true, true, true, true, true, true, true, true, true, true, true, true, true, true, true, true, true, true, false, false, false, false, false, false, false, false, false, false]

def mk_impl_ValidMesh_2_1 : List Bool := [false, false, true, false, false, false, false, false, false, false, false, false, false, false, false, false, false, false, false, false, false, false, false, false, false, false, false, false, false, false, false, false, false, false, false, false, false, false, false, false, false, false, false, false, false, false, false, false, false, false, false, false, false, false, false, false, false, false, false, false, false, false, false, false, false, false, false, false, false]

def mk_impl_ValidMesh_2_2 : List Bool := [true, true, false, true, false, true, false, false, true, true, true, true, true, true, true, true, true, true, true, true, true, true, true, true, true, true, true, true, true, true, true, true, true, true, true, true, true, true, true, true, true, true, true, true, true, true, true, true, true, true, true, true, true, true, true, true, true, false, false, false, false, false, false, false, false, false, false, false, false]

theorem lp_impl_ValidMesh_2 (m_0 : GMesh) (x_l0 : Int) (hp0 : m_0.Places.length ≤ 1073741824) (hp1 : m_0.Triangles.length ≤ 1073741824) (hp2 : ∀ t ∈ m_0.Triangles, t.length ≤ 1073741824) (hf_impl_ValidMesh_1_0 : (decide ((m_0.Places.length : Int) > 64)) = false) (hf_impl_ValidMesh_1_1 : (decide ((m_0.Triangles.length : Int) > 128)) = false) (hv_impl_ValidMesh_1_0 : 0 ≤ x_l0) (hf_impl_ValidMesh_2_0 : (((m_0.Triangles.getD x_l0.toNat default).length : Int) != 3) = false) (hf_impl_ValidMesh_2_1 : (decide ((m_0.Places.length : Int) > 64)) = false) (hf_impl_ValidMesh_2_2 : (decide ((m_0.Triangles.length : Int) > 128)) = false) (hf_impl_ValidMesh_2_3 : (decide (x_l0 < (m_0.Triangles.length : Int))) = true) : ∀ (k : Nat) (x_l0_1 : Int) (hv_impl_ValidMesh_2_0 : 0 ≤ x_l0_1) (hk : (((m_0.Triangles.getD x_l0.toNat default).length : Int) - x_l0_1).toNat < k), Lp prog 0 (sub (bodyOf f99) [1, 1, 1, 0, 1, 0, 0, 1, 1, 0, 0, 1, 1, 1, 0, 0]) (hd_impl_ValidMesh_2 m_0 x_l0 x_l0_1) (ls_impl_ValidMesh_2 m_0 x_l0 (lo_impl_ValidMesh_2 m_0 x_l0 k x_l0_1)).1 (ls_impl_ValidMesh_2 m_0 x_l0 (lo_impl_ValidMesh_2 m_0 x_l0 k x_l0_1)).2 := by
 intro k
 induction k with
 | zero => intro x_l0_1 hv_impl_ValidMesh_2_0 hk; exact absurd hk (Nat.not_lt_zero _)
 | succ k ih =>
  intro x_l0_1 hv_impl_ValidMesh_2_0 hk
  cases h__0 : (decide (x_l0_1 < ((m_0.Triangles.getD x_l0.toNat default).length : Int))) with
  | true =>
   have gh__0 := of_decide_eq_true h__0
   have y__0 : (0 : Int) ≤ x_l0_1 := (by first | assumption | omega | (simp_all <;> omega))
   have y__1 : x_l0_1 < ((m_0.Triangles.getD x_l0.toNat default).length : Int) := (by first | assumption | omega | (simp_all <;> omega))
   have p {a C} (s : Scr a C) := sB h__0 <| sG (cI .i64) (m_0.Triangles.getD x_l0.toNat default) x_l0_1 y__0 y__1 <| sW .i64 ((m_0.Places.length : Int) - 1) <| sF (t_impl_within ((m_0.Triangles.getD x_l0.toNat default).getD x_l0_1.toNat default) 0 (IntKind.wrap .i64 ((m_0.Places.length : Int) - 1))) <| s
   cases h__1 : (v_impl_within ((m_0.Triangles.getD x_l0.toNat default).getD x_l0_1.toNat default) 0 (IntKind.wrap .i64 ((m_0.Places.length : Int) - 1))) with
   | true =>
    have y__2 : (-9223372036854775808 : Int) ≤ (x_l0_1 + 1) := by clear p; exact (by first | assumption | omega | (simp_all <;> omega))
    have y__3 : (x_l0_1 + 1) ≤ (9223372036854775807 : Int) := by clear p; exact (by first | assumption | omega | (simp_all <;> omega))
    have e : lo_impl_ValidMesh_2 m_0 x_l0 (k + 1) x_l0_1 = (lo_impl_ValidMesh_2 m_0 x_l0 k (x_l0_1 + 1)) := by simp only [lo_impl_ValidMesh_2, h__0, h__1, cond_true]
    rw [e]
    exact nextR E0Ok hMixed [] mk_impl_ValidMesh_2_0 [0] (ih (x_l0_1 + 1) (show 0 ≤ (x_l0_1 + 1) from (by first | assumption | omega | (simp_all <;> omega))) (by first | assumption | omega | (simp_all <;> omega))) (p (sB' h__1 <| sI (x_l0_1 + 1) y__2 y__3 <| sN)) (by kernel_rfl)
   | false =>
    have e : lo_impl_ValidMesh_2 m_0 x_l0 (k + 1) x_l0_1 = (.inl ()) := by simp only [lo_impl_ValidMesh_2, h__0, h__1, cond_true, cond_false]
    rw [e]
    exact outR (e := .ret) E0Ok hMixed [] mk_impl_ValidMesh_2_1 [] (p (sB' h__1 <| sN)) (by kernel_rfl) (by intro h; cases h)
  | false =>
   have gh__0 := of_decide_eq_false h__0
   have e : lo_impl_ValidMesh_2 m_0 x_l0 (k + 1) x_l0_1 = (.inr ()) := by simp only [lo_impl_ValidMesh_2, h__0, cond_false]
   rw [e]
   exact outR (e := (.exit 2)) E0Ok hMixed [] mk_impl_ValidMesh_2_2 [0] (sB h__0 <| sN) (by kernel_rfl) (by intro h; cases h)

def lr_impl_ValidMesh_2_0 (m_0 : GMesh) (x_l0 : Int) : (Unit) ⊕ (Unit) := (lo_impl_ValidMesh_2 m_0 x_l0 ((((m_0.Triangles.getD x_l0.toNat default).length : Int) - 0).toNat + 1) 0)

def lo_impl_ValidMesh_1 (m_0 : GMesh) : Nat → Int → (Unit) ⊕ (Unit)
  | 0, _ => .inl default
  | k + 1, x_l0 => (cond (decide (x_l0 < (m_0.Triangles.length : Int)))
    (cond (((m_0.Triangles.getD x_l0.toNat default).length : Int) != 3)
      (.inl ())
      (cond (((m_0.Triangles.getD x_l0.toNat default).getD 0 default) == ((m_0.Triangles.getD x_l0.toNat default).getD 1 default))
        (.inl ())
        (cond (((m_0.Triangles.getD x_l0.toNat default).getD 1 default) == ((m_0.Triangles.getD x_l0.toNat default).getD 2 default))
          (.inl ())
          (cond (((m_0.Triangles.getD x_l0.toNat default).getD 0 default) == ((m_0.Triangles.getD x_l0.toNat default).getD 2 default))
            (.inl ())
            (match (lr_impl_ValidMesh_2_0 m_0 x_l0) with
              | .inl r_6 => (.inl ())
              | .inr r_6 => (lo_impl_ValidMesh_1 m_0 k (x_l0 + 1)))))))
    (.inr ()))

def ls_impl_ValidMesh_1 (m_0 : GMesh) : (Unit) ⊕ (Unit) → Ex × St
  | .inl r => (.ret, ⟨[.any, .any, .b false, .any, .any, .any, .any, .any, .any, .any, .any, .any, .any, .any, .any, .any, .any, .any, .any, .any, .any, .any, .any, .any, .any, .any, .any, .any, .any, .any, .any, .any, .any, .any, .any, .any, .any, .any, .any, .any, .any, .any, .any, .any, .any, .any, .any, .any, .any, .any, .any, .any, .any, .any, .any, .any, .any, .any, .any, .any, .any, .any, .any, .any, .any, .any, .any, .any, .any], []⟩)
  | .inr r => ((.exit 0), ⟨[.agg [.sl (m_0.Places.map GVector.cells), .sl (m_0.Triangles.map (cL (cI .i64)))], .ptr 0 0 0, .any, .i .i64 (m_0.Places.length : Int), .any, .any, .any, .any, .ptr 0 0 0, .sl (m_0.Places.map GVector.cells), .i .i64 (m_0.Places.length : Int), .i .i64 (m_0.Places.length : Int), .b (decide ((m_0.Places.length : Int) > 64)), .b (decide ((m_0.Places.length : Int) > 64)), .ptr 0 0 1, .sl (m_0.Triangles.map (cL (cI .i64))), .i .i64 (m_0.Triangles.length : Int), .b (decide ((m_0.Triangles.length : Int) > 128)), .b (decide ((m_0.Triangles.length : Int) > 128)), .ptr 0 0 1, .sl (m_0.Triangles.map (cL (cI .i64))), .any, .any, .any, .any, .any, .any, .any, .any, .any, .any, .any, .any, .any, .any, .any, .any, .any, .any, .any, .any, .any, .any, .any, .any, .any, .any, .any, .any, .any, .any, .any, .any, .any, .any, .any, .any, .any, .any, .any, .any, .any, .any, .any, .any, .any, .any, .any, .any], [.box 42 [.sl (m_0.Places.map GVector.cells), .sl (m_0.Triangles.map (cL (cI .i64)))]]⟩)

end Go.Ab
