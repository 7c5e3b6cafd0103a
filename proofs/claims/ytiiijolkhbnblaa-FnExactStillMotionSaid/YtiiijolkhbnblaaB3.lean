/- The functions of this seat as plain Lean, and that the program's are these. Printed by a program of the prover's own. -/
import Derived.Test.YtiiijolkhbnblaaB2
set_option linter.unusedVariables false
set_option linter.unusedSimpArgs false
set_option maxRecDepth 100000
namespace Go.Ab
open Go.RowKit Go.Proofs.Try

def v_spec_l00Own (list_0 : (List Int)) : (List Int) := (([] : List Int) ++ list_0)

theorem t_spec_l00Own (list_0 : (List Int)) (hp0 : list_0.length ≤ 1073741824)  : Fn prog 165 [.sl (list_0.map (cI .i64))] (.own 0) [.vec 2 1 ((v_spec_l00Own list_0).map (cI .i64)) false] := by
 have y0 : ([] : List Int).length + list_0.length ≤ 1073741824 := (by first | assumption | omega | (simp_all <;> omega))
 refine fnS E0Ok hMixed (c := bodyOf f165) [] (.own 0) [.vec 2 1 (([] : List (List AV)) ++ (list_0.map (cI .i64))) false] func165 (sC (show ([] : List (List AV)).length + (list_0.map (cI .i64)).length ≤ 1073741824 from (by simpa using y0)) <| sC (show (list_0.map (cI .i64)).all (fun cs => cs.length == 1 && cs.all isS) = true from (src_ok (fun _ => rfl))) <| sK [0] sN) rfl (by kernel_rfl) (by kernel_rfl) rfl ?_ ?_
 · rfl
 · simp [v_spec_l00Own, cI]

@[simp] theorem eq_l00Own (l : List Int) : v_spec_l00Own l = l := by simp [v_spec_l00Own]

theorem i_spec_l00Own (list_0 : (List Int)) (hp0 : list_0.length ≤ 1073741824) : Fn prog 165 [.sl (list_0.map (cI .i64))] (.own 0) [.vec 2 1 (list_0.map (cI .i64)) false] := by
 simpa only [eq_l00Own] using t_spec_l00Own  list_0 hp0

def lo_spec_l02Own_1 (m_0 : GMesh) : Nat → Int → (List (List Int)) → (List (List Int))
  | 0, _, _ => default
  | k + 1, i_l0, r2_l1 => (cond (decide (i_l0 < (m_0.Triangles.length : Int)))
    (lo_spec_l02Own_1 m_0 k (i_l0 + 1) (r2_l1 ++ [(m_0.Triangles.getD i_l0.toNat default)]))
    r2_l1)

def ls_spec_l02Own_1 (m_0 : GMesh) (r : (List (List Int))) : Ex × St := ((.exit 0), ⟨[.ref [.sl (m_0.Places.map GVector.cells), .sl (m_0.Triangles.map (cL (cI .i64)))] 0, .any, .ptr 0 0 0, .ptr 1 0 0, .any, .any, .ref [.sl (m_0.Places.map GVector.cells), .sl (m_0.Triangles.map (cL (cI .i64)))] 0, .ref [.sl (m_0.Places.map GVector.cells), .sl (m_0.Triangles.map (cL (cI .i64)))] 0, .ref [.sl (m_0.Places.map GVector.cells), .sl (m_0.Triangles.map (cL (cI .i64)))] 0, .sl (m_0.Places.map GVector.cells), .own 2, .any, .any, .any, .any, .any, .any, .any, .any, .any, .any, .any, .any, .any, .any, .any, .any, .any, .any, .any, .any, .any, .any, .any, .any, .any], [.box 42 [.nils, .nils], .box 42 [.own 2, .own 3], .vec 44 3 (([] : List (List AV)) ++ (m_0.Places.map GVector.cells)) false, .nest 52 (r.map fun l => l.map (cI .i64)) false]⟩)

def hd_spec_l02Own_1 (m_0 : GMesh) (i_l0 : Int) (r2_l1 : (List (List Int))) : St := ⟨[.ref [.sl (m_0.Places.map GVector.cells), .sl (m_0.Triangles.map (cL (cI .i64)))] 0, .any, .ptr 0 0 0, .ptr 3 0 0, .i .i64 i_l0, .any, .ref [.sl (m_0.Places.map GVector.cells), .sl (m_0.Triangles.map (cL (cI .i64)))] 0, .ref [.sl (m_0.Places.map GVector.cells), .sl (m_0.Triangles.map (cL (cI .i64)))] 0, .ref [.sl (m_0.Places.map GVector.cells), .sl (m_0.Triangles.map (cL (cI .i64)))] 0, .sl (m_0.Places.map GVector.cells), .own 1, .any, .any, .any, .any, .any, .any, .any, .any, .any, .any, .any, .any, .any, .any, .any, .any, .any, .any, .any, .any, .any, .any, .any, .any, .any], [.box 42 [.nils, .nils], .vec 44 3 (([] : List (List AV)) ++ (m_0.Places.map GVector.cells)) false, .nest 52 (r2_l1.map fun l => l.map (cI .i64)) false, .box 42 [.own 1, .own 2]]⟩

def mk_spec_l02Own_1_0 : List Bool := [true, false, true, true, true, false, true, true, true, true, true, false, false, false, false, false, false, false, false, false, false, false, false, false, false, false, false, false, false, false, false, false, false, false, false, false]

def mk_spec_l02Own_1_1 : List Bool := [true, false, true, true, false, false, true, true, true, true, true, false, false, false, false, false, false, false, false, false, false, false, false, false, false, false, false, false, false, false, false, false, false, false, false, false]

theorem lp_spec_l02Own_1 (m_0 : GMesh) (hp0 : m_0.Places.length ≤ 1073741824) (hp1 : m_0.Triangles.length ≤ 1073741824) (hp2 : ∀ t ∈ m_0.Triangles, t.length ≤ 1073741824) : ∀ (k : Nat) (i_l0 : Int) (r2_l1 : (List (List Int))) (hv_spec_l02Own_1_0 : 0 ≤ i_l0) (hv_spec_l02Own_1_1 : (r2_l1.length : Int) = i_l0) (hk : ((m_0.Triangles.length : Int) - i_l0).toNat < k), Lp prog 0 (sub (bodyOf f112) [1, 1, 0, 1, 0, 0]) (hd_spec_l02Own_1 m_0 i_l0 r2_l1) (ls_spec_l02Own_1 m_0 (lo_spec_l02Own_1 m_0 k i_l0 r2_l1)).1 (ls_spec_l02Own_1 m_0 (lo_spec_l02Own_1 m_0 k i_l0 r2_l1)).2 := by
 intro k
 induction k with
 | zero => intro i_l0 r2_l1 hv_spec_l02Own_1_0 hv_spec_l02Own_1_1 hk; exact absurd hk (Nat.not_lt_zero _)
 | succ k ih =>
  intro i_l0 r2_l1 hv_spec_l02Own_1_0 hv_spec_l02Own_1_1 hk
  have p {a C} (s : Scr a C) := sZ (cL (cI .i64)) m_0.Triangles <| s
  cases h_0 : (decide (i_l0 < (m_0.Triangles.length : Int))) with
  | true =>
   have gh_0 := of_decide_eq_true h_0
   have y_0 : (0 : Int) ≤ i_l0 := by clear p; exact (by first | assumption | omega | (simp_all <;> omega))
   have y_1 : i_l0 < (m_0.Triangles.length : Int) := by clear p; exact (by first | assumption | omega | (simp_all <;> omega))
   have y_2 : (m_0.Triangles.getD i_l0.toNat default).length ≤ 1073741824 := by clear p; exact (by first | assumption | omega | (simp_all <;> omega))
   have y_3 : r2_l1.length + [(m_0.Triangles.getD i_l0.toNat default)].length ≤ 1073741824 := by clear p; exact (by first | assumption | omega | (simp_all <;> omega))
   have y_4 : (-9223372036854775808 : Int) ≤ (i_l0 + 1) := by clear p; exact (by first | assumption | omega | (simp_all <;> omega))
   have y_5 : (i_l0 + 1) ≤ (9223372036854775807 : Int) := by clear p; exact (by first | assumption | omega | (simp_all <;> omega))
   have e : lo_spec_l02Own_1 m_0 (k + 1) i_l0 r2_l1 = (lo_spec_l02Own_1 m_0 k (i_l0 + 1) (r2_l1 ++ [(m_0.Triangles.getD i_l0.toNat default)])) := by simp only [lo_spec_l02Own_1, h_0, cond_true]
   rw [e]
   exact nextS E0Ok hMixed [] mk_spec_l02Own_1_0 [0, 1, 2, 3] (⟨[.ref [.sl (m_0.Places.map GVector.cells), .sl (m_0.Triangles.map (cL (cI .i64)))] 0, .any, .ptr 0 0 0, .ptr 3 0 0, .i .i64 (i_l0 + 1), .any, .ref [.sl (m_0.Places.map GVector.cells), .sl (m_0.Triangles.map (cL (cI .i64)))] 0, .ref [.sl (m_0.Places.map GVector.cells), .sl (m_0.Triangles.map (cL (cI .i64)))] 0, .ref [.sl (m_0.Places.map GVector.cells), .sl (m_0.Triangles.map (cL (cI .i64)))] 0, .sl (m_0.Places.map GVector.cells), .own 1, .any, .any, .any, .any, .any, .any, .any, .any, .any, .any, .any, .any, .any, .any, .any, .any, .any, .any, .any, .any, .any, .any, .any, .any, .any], [.box 42 [.nils, .nils], .vec 44 3 (([] : List (List AV)) ++ (m_0.Places.map GVector.cells)) false, .nest 52 ((r2_l1.map fun l => l.map (cI .i64)) ++ [((m_0.Triangles.getD i_l0.toNat default).map (cI .i64))]) false, .box 42 [.own 1, .own 2]]⟩) (p (sB h_0 <| sK [11, 11] <| sG (cL (cI .i64)) m_0.Triangles i_l0 y_0 y_1 <| sF (i_spec_l00Own (m_0.Triangles.getD i_l0.toNat default) y_2) <| sC (show (r2_l1.map fun l => l.map (cI .i64)).length + [((m_0.Triangles.getD i_l0.toNat default).map (cI .i64))].length ≤ 1073741824 from (by simpa using y_3)) <| sI (i_l0 + 1) y_4 y_5 <| sN)) (by kernel_rfl) (show _ = ⟨[.ref [.sl (m_0.Places.map GVector.cells), .sl (m_0.Triangles.map (cL (cI .i64)))] 0, .any, .ptr 0 0 0, .ptr 3 0 0, .i .i64 (i_l0 + 1), .any, .ref [.sl (m_0.Places.map GVector.cells), .sl (m_0.Triangles.map (cL (cI .i64)))] 0, .ref [.sl (m_0.Places.map GVector.cells), .sl (m_0.Triangles.map (cL (cI .i64)))] 0, .ref [.sl (m_0.Places.map GVector.cells), .sl (m_0.Triangles.map (cL (cI .i64)))] 0, .sl (m_0.Places.map GVector.cells), .own 1, .any, .any, .any, .any, .any, .any, .any, .any, .any, .any, .any, .any, .any, .any, .any, .any, .any, .any, .any, .any, .any, .any, .any, .any, .any], [.box 42 [.nils, .nils], .vec 44 3 (([] : List (List AV)) ++ (m_0.Places.map GVector.cells)) false, .nest 52 ((r2_l1 ++ [(m_0.Triangles.getD i_l0.toNat default)]).map fun l => l.map (cI .i64)) false, .box 42 [.own 1, .own 2]]⟩ from (by simp [GVector.cells, cL])) (ih (i_l0 + 1) (r2_l1 ++ [(m_0.Triangles.getD i_l0.toNat default)]) (show 0 ≤ (i_l0 + 1) from (by first | assumption | omega | (simp_all <;> omega))) (show ((r2_l1 ++ [(m_0.Triangles.getD i_l0.toNat default)]).length : Int) = (i_l0 + 1) from (by first | assumption | omega | (simp_all <;> omega))) (by first | assumption | omega | (simp_all <;> omega)))
  | false =>
   have gh_0 := of_decide_eq_false h_0
   have e : lo_spec_l02Own_1 m_0 (k + 1) i_l0 r2_l1 = r2_l1 := by simp only [lo_spec_l02Own_1, h_0, cond_false]
   rw [e]
   exact outR (e := (.exit 0)) E0Ok hMixed [] mk_spec_l02Own_1_1 [0, 3, 1, 2] (p (sB h_0 <| sN)) (by kernel_rfl) (by intro h; cases h)

def lr_spec_l02Own_1_0 (m_0 : GMesh) : (List (List Int)) := (lo_spec_l02Own_1 m_0 (((m_0.Triangles.length : Int) - 0).toNat + 1) 0 ([] : List (List Int)))

def v_spec_l02Own (m_0 : GMesh) : GMesh := (⟨(([] : List GVector) ++ m_0.Places), (lr_spec_l02Own_1_0 m_0)⟩ : GMesh)

theorem t_spec_l02Own (m_0 : GMesh) (hp0 : m_0.Places.length ≤ 1073741824) (hp1 : m_0.Triangles.length ≤ 1073741824) (hp2 : ∀ t ∈ m_0.Triangles, t.length ≤ 1073741824)  : Fn prog 112 [.ref [.sl (m_0.Places.map GVector.cells), .sl (m_0.Triangles.map (cL (cI .i64)))] 0] (.agg [.own 0, .own 1]) [.vec 44 3 (((v_spec_l02Own m_0).Places).map GVector.cells) false, .nest 52 (((v_spec_l02Own m_0).Triangles).map fun l => l.map (cI .i64)) false] := by
 have y0 : ([] : List GVector).length + m_0.Places.length ≤ 1073741824 := (by first | assumption | omega | (simp_all <;> omega))
 refine fnS E0Ok hMixed (c := bodyOf f112) [] (.agg [.own 0, .own 1]) [.vec 44 3 (([] : List (List AV)) ++ (m_0.Places.map GVector.cells)) false, .nest 52 ((lr_spec_l02Own_1_0 m_0).map fun l => l.map (cI .i64)) false] func112 (sC (show ([] : List (List AV)).length + (m_0.Places.map GVector.cells).length ≤ 1073741824 from (by simpa using y0)) <| sC (show (m_0.Places.map GVector.cells).all (fun cs => cs.length == 3 && cs.all isS) = true from (src_ok (fun _ => rfl))) <| sL mk_spec_l02Own_1_0 4 (lp_cast (st2 := ⟨[.ref [.sl (m_0.Places.map GVector.cells), .sl (m_0.Triangles.map (cL (cI .i64)))] 0, .any, .ptr 0 0 0, .ptr 3 0 0, .i .i64 0, .any, .ref [.sl (m_0.Places.map GVector.cells), .sl (m_0.Triangles.map (cL (cI .i64)))] 0, .ref [.sl (m_0.Places.map GVector.cells), .sl (m_0.Triangles.map (cL (cI .i64)))] 0, .ref [.sl (m_0.Places.map GVector.cells), .sl (m_0.Triangles.map (cL (cI .i64)))] 0, .sl (m_0.Places.map GVector.cells), .own 1, .any, .any, .any, .any, .any, .any, .any, .any, .any, .any, .any, .any, .any, .any, .any, .any, .any, .any, .any, .any, .any, .any, .any, .any, .any], [.box 42 [.nils, .nils], .vec 44 3 (([] : List (List AV)) ++ (m_0.Places.map GVector.cells)) false, .nest 52 [] false, .box 42 [.own 1, .own 2]]⟩) (lp_val (ls_spec_l02Own_1 m_0) (x := (lr_spec_l02Own_1_0 m_0)) (lp_spec_l02Own_1 m_0 hp0 hp1 hp2 (((m_0.Triangles.length : Int) - 0).toNat + 1) 0 ([] : List (List Int)) (show 0 ≤ 0 from (by first | assumption | omega | (simp_all <;> omega))) (show (([] : List (List Int)).length : Int) = 0 from (by simp)) (Nat.lt_succ_self _)) rfl) (by simp [hd_spec_l02Own_1, GVector.cells, cL])) <| sK [2, 3] sN) rfl (by kernel_rfl) (by kernel_rfl) rfl ?_ ?_
 · rfl
 · simp [v_spec_l02Own, GVector.cells]

@[simp] theorem eq_l02Own (m : GMesh) : v_spec_l02Own m = m := by
  unfold v_spec_l02Own lr_spec_l02Own_1_0
  rw [app_loop (f := fun i => (m.Triangles.getD i.toNat default)) (n := (m.Triangles.length : Int)) (lo := lo_spec_l02Own_1 m) (fun k i r => rfl) _ _ _ (Nat.lt_succ_self _)]
  simp [getD_range2]

theorem i_spec_l02Own (m_0 : GMesh) (hp0 : m_0.Places.length ≤ 1073741824) (hp1 : m_0.Triangles.length ≤ 1073741824) (hp2 : ∀ t ∈ m_0.Triangles, t.length ≤ 1073741824) : Fn prog 112 [.ref [.sl (m_0.Places.map GVector.cells), .sl (m_0.Triangles.map (cL (cI .i64)))] 0] (.agg [.own 0, .own 1]) [.vec 44 3 (m_0.Places.map GVector.cells) false, .nest 52 (m_0.Triangles.map fun l => l.map (cI .i64)) false] := by
 simpa only [eq_l02Own] using t_spec_l02Own  m_0 hp0 hp1 hp2

def v_spec_l03Own (b_0 : GBody) : GBody := (⟨b_0.Mesh, (([] : List GSpring) ++ b_0.Springs), b_0.Film, b_0.Bend, (([] : List Nat) ++ b_0.Weights), b_0.Fall⟩ : GBody)

theorem t_spec_l03Own (b_0 : GBody) (hp0 : b_0.Mesh.Places.length ≤ 1073741824) (hp1 : b_0.Mesh.Triangles.length ≤ 1073741824) (hp2 : ∀ t ∈ b_0.Mesh.Triangles, t.length ≤ 1073741824) (hp3 : b_0.Springs.length ≤ 1073741824) (hp4 : b_0.Weights.length ≤ 1073741824)  : Fn prog 125 [.ref [.sl (b_0.Mesh.Places.map GVector.cells), .sl (b_0.Mesh.Triangles.map (cL (cI .i64))), .sl (b_0.Springs.map GSpring.cells), .f .f32 b_0.Film, .f .f32 b_0.Bend, .sl (b_0.Weights.map (cF .f32)), .f .f32 b_0.Fall.X, .f .f32 b_0.Fall.Y, .f .f32 b_0.Fall.Z] 0] (.agg [.own 0, .own 1, .own 2, .f .f32 ((v_spec_l03Own b_0).Film), .f .f32 ((v_spec_l03Own b_0).Bend), .own 3, .f .f32 ((v_spec_l03Own b_0).Fall.X), .f .f32 ((v_spec_l03Own b_0).Fall.Y), .f .f32 ((v_spec_l03Own b_0).Fall.Z)]) [.vec 44 3 (((v_spec_l03Own b_0).Mesh.Places).map GVector.cells) false, .nest 52 (((v_spec_l03Own b_0).Mesh.Triangles).map fun l => l.map (cI .i64)) false, .vec 105 4 (((v_spec_l03Own b_0).Springs).map GSpring.cells) false, .vec 22 1 (((v_spec_l03Own b_0).Weights).map (cF .f32)) false] := by
 have y0 : ([] : List GSpring).length + b_0.Springs.length ≤ 1073741824 := (by first | assumption | omega | (simp_all <;> omega))
 have y1 : ([] : List Nat).length + b_0.Weights.length ≤ 1073741824 := (by first | assumption | omega | (simp_all <;> omega))
 refine fnS E0Ok hMixed (c := bodyOf f125) [] (.agg [.own 0, .own 1, .own 2, .f .f32 b_0.Film, .f .f32 b_0.Bend, .own 3, .f .f32 b_0.Fall.X, .f .f32 b_0.Fall.Y, .f .f32 b_0.Fall.Z]) [.vec 44 3 (b_0.Mesh.Places.map GVector.cells) false, .nest 52 (b_0.Mesh.Triangles.map fun l => l.map (cI .i64)) false, .vec 105 4 (([] : List (List AV)) ++ (b_0.Springs.map GSpring.cells)) false, .vec 22 1 (([] : List (List AV)) ++ (b_0.Weights.map (cF .f32))) false] func125 (sF (Fn.sub (args := [.ref [.sl (b_0.Mesh.Places.map GVector.cells), .sl (b_0.Mesh.Triangles.map (cL (cI .i64))), .sl (b_0.Springs.map GSpring.cells), .f .f32 b_0.Film, .f .f32 b_0.Bend, .sl (b_0.Weights.map (cF .f32)), .f .f32 b_0.Fall.X, .f .f32 b_0.Fall.Y, .f .f32 b_0.Fall.Z] 0]) (r := .agg [.own 0, .own 1]) (new := [.vec 44 3 (b_0.Mesh.Places.map GVector.cells) false, .nest 52 (b_0.Mesh.Triangles.map fun l => l.map (cI .i64)) false]) [some 2] (i_spec_l02Own b_0.Mesh hp0 hp1 hp2)) <| sC (show ([] : List (List AV)).length + (b_0.Springs.map GSpring.cells).length ≤ 1073741824 from (by simpa using y0)) <| sC (show (b_0.Springs.map GSpring.cells).all (fun cs => cs.length == 4 && cs.all isS) = true from (src_ok (fun _ => rfl))) <| sC (show ([] : List (List AV)).length + (b_0.Weights.map (cF .f32)).length ≤ 1073741824 from (by simpa using y1)) <| sC (show (b_0.Weights.map (cF .f32)).all (fun cs => cs.length == 1 && cs.all isS) = true from (src_ok (fun _ => rfl))) <| sK [2, 3, 4, 5] sN) rfl (by kernel_rfl) (by kernel_rfl) rfl ?_ ?_
 · rfl
 · simp [v_spec_l03Own, GSpring.cells, cF]

@[simp] theorem eq_l03Own (b : GBody) : v_spec_l03Own b = b := by simp [v_spec_l03Own]

theorem i_spec_l03Own (b_0 : GBody) (hp0 : b_0.Mesh.Places.length ≤ 1073741824) (hp1 : b_0.Mesh.Triangles.length ≤ 1073741824) (hp2 : ∀ t ∈ b_0.Mesh.Triangles, t.length ≤ 1073741824) (hp3 : b_0.Springs.length ≤ 1073741824) (hp4 : b_0.Weights.length ≤ 1073741824) : Fn prog 125 [.ref [.sl (b_0.Mesh.Places.map GVector.cells), .sl (b_0.Mesh.Triangles.map (cL (cI .i64))), .sl (b_0.Springs.map GSpring.cells), .f .f32 b_0.Film, .f .f32 b_0.Bend, .sl (b_0.Weights.map (cF .f32)), .f .f32 b_0.Fall.X, .f .f32 b_0.Fall.Y, .f .f32 b_0.Fall.Z] 0] (.agg [.own 0, .own 1, .own 2, .f .f32 b_0.Film, .f .f32 b_0.Bend, .own 3, .f .f32 b_0.Fall.X, .f .f32 b_0.Fall.Y, .f .f32 b_0.Fall.Z]) [.vec 44 3 (b_0.Mesh.Places.map GVector.cells) false, .nest 52 (b_0.Mesh.Triangles.map fun l => l.map (cI .i64)) false, .vec 105 4 (b_0.Springs.map GSpring.cells) false, .vec 22 1 (b_0.Weights.map (cF .f32)) false] := by
 simpa only [eq_l03Own] using t_spec_l03Own  b_0 hp0 hp1 hp2 hp3 hp4

def v_spec_StillMotion (b_0 : GBody) : GMotion × Bool := (cond (v_spec_l03Is b_0)
  ((⟨b_0, (List.replicate (b_0.Mesh.Places.length : Int).toNat (⟨0, 0, 0⟩ : GVector))⟩ : GMotion), true)
  ((⟨(⟨(⟨([] : List GVector), ([] : List (List Int))⟩ : GMesh), ([] : List GSpring), 0, 0, ([] : List Nat), (⟨0, 0, 0⟩ : GVector)⟩ : GBody), ([] : List GVector)⟩ : GMotion), false))

theorem leP_spec_StillMotion (b : GBody) : (v_spec_StillMotion b).1.Body.Mesh.Places.length ≤ b.Mesh.Places.length := by
  unfold v_spec_StillMotion
  cases v_spec_l03Is b <;> simp

theorem leT_spec_StillMotion (b : GBody) : (v_spec_StillMotion b).1.Body.Mesh.Triangles.length ≤ b.Mesh.Triangles.length := by
  unfold v_spec_StillMotion
  cases v_spec_l03Is b <;> simp

theorem leW_spec_StillMotion (b : GBody) : (v_spec_StillMotion b).1.Body.Weights.length ≤ b.Weights.length := by
  unfold v_spec_StillMotion
  cases v_spec_l03Is b <;> simp

theorem leS_spec_StillMotion (b : GBody) : (v_spec_StillMotion b).1.Body.Springs.length ≤ b.Springs.length := by
  unfold v_spec_StillMotion
  cases v_spec_l03Is b <;> simp

theorem mem_spec_StillMotion (b : GBody) : ∀ t ∈ (v_spec_StillMotion b).1.Body.Mesh.Triangles, t ∈ b.Mesh.Triangles := by
  unfold v_spec_StillMotion
  cases v_spec_l03Is b <;> simp

theorem leV_spec_StillMotion (b : GBody) : (v_spec_StillMotion b).1.Speeds.length ≤ b.Mesh.Places.length := by
  unfold v_spec_StillMotion
  cases v_spec_l03Is b <;> simp

theorem t_spec_StillMotion (b_0 : GBody) (hp0 : b_0.Mesh.Places.length ≤ 1073741824) (hp1 : b_0.Mesh.Triangles.length ≤ 1073741824) (hp2 : ∀ t ∈ b_0.Mesh.Triangles, t.length ≤ 1073741824) (hp3 : b_0.Springs.length ≤ 1073741824) (hp4 : b_0.Weights.length ≤ 1073741824)  : Fn prog 52 [.agg [.sl (b_0.Mesh.Places.map GVector.cells), .sl (b_0.Mesh.Triangles.map (cL (cI .i64))), .sl (b_0.Springs.map GSpring.cells), .f .f32 b_0.Film, .f .f32 b_0.Bend, .sl (b_0.Weights.map (cF .f32)), .f .f32 b_0.Fall.X, .f .f32 b_0.Fall.Y, .f .f32 b_0.Fall.Z]] (.tup [.agg [.own 0, .own 1, .own 2, .f .f32 ((v_spec_StillMotion b_0).1.Body.Film), .f .f32 ((v_spec_StillMotion b_0).1.Body.Bend), .own 3, .f .f32 ((v_spec_StillMotion b_0).1.Body.Fall.X), .f .f32 ((v_spec_StillMotion b_0).1.Body.Fall.Y), .f .f32 ((v_spec_StillMotion b_0).1.Body.Fall.Z), .own 4], .b ((v_spec_StillMotion b_0).2)]) [.vec 44 3 (((v_spec_StillMotion b_0).1.Body.Mesh.Places).map GVector.cells) false, .nest 52 (((v_spec_StillMotion b_0).1.Body.Mesh.Triangles).map fun l => l.map (cI .i64)) false, .vec 105 4 (((v_spec_StillMotion b_0).1.Body.Springs).map GSpring.cells) false, .vec 22 1 (((v_spec_StillMotion b_0).1.Body.Weights).map (cF .f32)) false, .vec 44 3 (((v_spec_StillMotion b_0).1.Speeds).map GVector.cells) false] := by
 have p {a C} (s : Scr a C) := sF (t_spec_l03Is b_0 hp0 hp1 hp2 hp3 hp4) <| s
 cases h0 : (v_spec_l03Is b_0) with
 | true =>
  have y0 : (0 : Int) ≤ (b_0.Mesh.Places.length : Int) := by clear p; exact (by first | assumption | omega | (simp_all <;> omega))
  have y1 : ((b_0.Mesh.Places.length : Int) : Int) ≤ 2147483648 := by clear p; exact (by first | assumption | omega | (simp_all <;> omega))
  refine fnS E0Ok hMixed (c := bodyOf f52) [] (.tup [.agg [.own 0, .own 1, .own 2, .f .f32 b_0.Film, .f .f32 b_0.Bend, .own 3, .f .f32 b_0.Fall.X, .f .f32 b_0.Fall.Y, .f .f32 b_0.Fall.Z, .own 4], .b true]) [.vec 44 3 (b_0.Mesh.Places.map GVector.cells) false, .nest 52 (b_0.Mesh.Triangles.map fun l => l.map (cI .i64)) false, .vec 105 4 (b_0.Springs.map GSpring.cells) false, .vec 22 1 (b_0.Weights.map (cF .f32)) false, .vec 44 3 (List.replicate (Int.toNat (b_0.Mesh.Places.length : Int)) [.f .f32 0, .f .f32 0, .f .f32 0]) false] func52 (p (sB' h0 <| sK [6, 6] <| sF (i_spec_l03Own b_0 hp0 hp1 hp2 hp3 hp4) <| sZ GVector.cells b_0.Mesh.Places <| sC (show (b_0.Mesh.Places.length : Int) = (b_0.Mesh.Places.length : Int) from rfl) <| sC y0 <| sC y1 <| sK [2, 3, 4, 5, 6] sN)) rfl (by kernel_rfl) (by kernel_rfl) rfl ?_ ?_
  · simp only [v_spec_StillMotion, h0, cond_true]
  · simp [v_spec_StillMotion, h0, GVector.cells]
 | false =>
  refine fnS E0Ok hMixed (c := bodyOf f52) [(.row 1 0, .vec 44 3 [] false), (.row 1 1, .nest 52 [] false), (.row 1 2, .vec 105 4 [] false), (.row 1 5, .vec 22 1 [] false), (.row 1 9, .vec 44 3 [] false)] (.tup [.agg [.own 0, .own 1, .own 2, .f .f32 0, .f .f32 0, .own 3, .f .f32 0, .f .f32 0, .f .f32 0, .own 4], .b false]) [.vec 44 3 [] false, .nest 52 [] false, .vec 105 4 [] false, .vec 22 1 [] false, .vec 44 3 [] false] func52 (p (sB' h0 <| sK [2, 3, 4, 5, 6] sN)) rfl (by kernel_rfl) (by kernel_rfl) rfl ?_ ?_
  · simp only [v_spec_StillMotion, h0, cond_false]
  · simp [v_spec_StillMotion, h0, GVector.cells, cL, GSpring.cells, cF]

def v_impl_within (n_0 : Int) (low_1 : Int) (high_2 : Int) : Bool := (cond (decide (n_0 ≥ low_1))
  (decide (n_0 ≤ high_2))
  false)

theorem t_impl_within (n_0 : Int) (low_1 : Int) (high_2 : Int)   : Fn prog 156 [.i .i64 n_0, .i .i64 low_1, .i .i64 high_2] (.b (v_impl_within n_0 low_1 high_2)) [] := by
 cases h0 : (decide (n_0 ≥ low_1)) with
 | true =>
  have gh0 := of_decide_eq_true h0
  refine fnS E0Ok hMixed (c := bodyOf f156) [] (.b (decide (n_0 ≤ high_2))) [] func156 (sB h0 <| sB h0 <| sB h0 <| sB h0 <| sK [] sN) rfl (by kernel_rfl) (by kernel_rfl) rfl ?_ ?_
  · simp only [v_impl_within, h0, cond_true]
  · rfl
 | false =>
  have gh0 := of_decide_eq_false h0
  refine fnS E0Ok hMixed (c := bodyOf f156) [] (.b false) [] func156 (sB h0 <| sB h0 <| sB h0 <| sB h0 <| sK [] sN) rfl (by kernel_rfl) (by kernel_rfl) rfl ?_ ?_
  · simp only [v_impl_within, h0, cond_false]
  · rfl

def lo_impl_ValidMesh_2 (m_0 : GMesh) (x_l0 : Int) : Nat → Int → (Unit) ⊕ (Unit)
  | 0, _ => .inl default
  | k + 1, x_l0_1 => (cond (decide (x_l0_1 < ((m_0.Triangles.getD x_l0.toNat default).length : Int)))
    (cond (v_impl_within ((m_0.Triangles.getD x_l0.toNat default).getD x_l0_1.toNat default) 0 (IntKind.wrap .i64 ((m_0.Places.length : Int) - 1)))
      (lo_impl_ValidMesh_2 m_0 x_l0 k (x_l0_1 + 1))
      (.inl ()))
    (.inr ()))

def ls_impl_ValidMesh_2 (m_0 : GMesh) (x_l0 : Int) : (Unit) ⊕ (Unit) → Ex × St
  | .inl r => (.ret, ⟨[.any, .any, .b false, .any, .any, .any, .any, .any, .any, .any, .any, .any, .any, .any, .any, .any, .any, .any, .any, .any, .any, .any, .any, .any, .any, .any, .any, .any, .any, .any, .any, .any, .any, .any, .any, .any, .any, .any, .any, .any, .any, .any, .any, .any, .any, .any, .any, .any, .any, .any, .any, .any, .any, .any, .any, .any, .any, .any, .any, .any, .any, .any, .any, .any, .any, .any, .any, .any, .any], []⟩)
  | .inr r => ((.exit 2), ⟨[.agg [.sl (m_0.Places.map GVector.cells), .sl (m_0.Triangles.map (cL (cI .i64)))], .ptr 0 0 0, .any, .i .i64 (m_0.Places.length : Int), .any, .sl ((m_0.Triangles.getD x_l0.toNat default).map (cI .i64)), .any, .any, .ptr 0 0 0, .sl (m_0.Places.map GVector.cells), .i .i64 (m_0.Places.length : Int), .i .i64 (m_0.Places.length : Int), .b (decide ((m_0.Places.length : Int) > 64)), .b (decide ((m_0.Places.length : Int) > 64)), .ptr 0 0 1, .sl (m_0.Triangles.map (cL (cI .i64))), .i .i64 (m_0.Triangles.length : Int), .b (decide ((m_0.Triangles.length : Int) > 128)), .b (decide ((m_0.Triangles.length : Int) > 128)), .ptr 0 0 1, .sl (m_0.Triangles.map (cL (cI .i64))), .i .i64 (m_0.Triangles.length : Int), .i .i64 x_l0, .b (decide (x_l0 < (m_0.Triangles.length : Int))), .ref [.sl ((m_0.Triangles.getD x_l0.toNat default).map (cI .i64))] 0, .sl ((m_0.Triangles.getD x_l0.toNat default).map (cI .i64)), .sl ((m_0.Triangles.getD x_l0.toNat default).map (cI .i64)), .i .i64 ((m_0.Triangles.getD x_l0.toNat default).length : Int), .b (((m_0.Triangles.getD x_l0.toNat default).length : Int) != 3), .b (((m_0.Triangles.getD x_l0.toNat default).length : Int) != 3), .sl ((m_0.Triangles.getD x_l0.toNat default).map (cI .i64)), .ref [.i .i64 ((m_0.Triangles.getD x_l0.toNat default).getD 0 default)] 0, .i .i64 ((m_0.Triangles.getD x_l0.toNat default).getD 0 default), .sl ((m_0.Triangles.getD x_l0.toNat default).map (cI .i64)), .ref [.i .i64 ((m_0.Triangles.getD x_l0.toNat default).getD 1 default)] 0, .i .i64 ((m_0.Triangles.getD x_l0.toNat default).getD 1 default), .b (((m_0.Triangles.getD x_l0.toNat default).getD 0 default) == ((m_0.Triangles.getD x_l0.toNat default).getD 1 default)), .b (((m_0.Triangles.getD x_l0.toNat default).getD 0 default) == ((m_0.Triangles.getD x_l0.toNat default).getD 1 default)), .b (((m_0.Triangles.getD x_l0.toNat default).getD 0 default) == ((m_0.Triangles.getD x_l0.toNat default).getD 1 default)), .sl ((m_0.Triangles.getD x_l0.toNat default).map (cI .i64)), .ref [.i .i64 ((m_0.Triangles.getD x_l0.toNat default).getD 1 default)] 0, .i .i64 ((m_0.Triangles.getD x_l0.toNat default).getD 1 default), .sl ((m_0.Triangles.getD x_l0.toNat default).map (cI .i64)), .ref [.i .i64 ((m_0.Triangles.getD x_l0.toNat default).getD 2 default)] 0, .i .i64 ((m_0.Triangles.getD x_l0.toNat default).getD 2 default), .b (((m_0.Triangles.getD x_l0.toNat default).getD 1 default) == ((m_0.Triangles.getD x_l0.toNat default).getD 2 default)), .b (((m_0.Triangles.getD x_l0.toNat default).getD 1 default) == ((m_0.Triangles.getD x_l0.toNat default).getD 2 default)), .b (((m_0.Triangles.getD x_l0.toNat default).getD 1 default) == ((m_0.Triangles.getD x_l0.toNat default).getD 2 default)), .sl ((m_0.Triangles.getD x_l0.toNat default).map (cI .i64)), .ref [.i .i64 ((m_0.Triangles.getD x_l0.toNat default).getD 0 default)] 0, .i .i64 ((m_0.Triangles.getD x_l0.toNat default).getD 0 default), .sl ((m_0.Triangles.getD x_l0.toNat default).map (cI .i64)), .ref [.i .i64 ((m_0.Triangles.getD x_l0.toNat default).getD 2 default)] 0, .i .i64 ((m_0.Triangles.getD x_l0.toNat default).getD 2 default), .b (((m_0.Triangles.getD x_l0.toNat default).getD 0 default) == ((m_0.Triangles.getD x_l0.toNat default).getD 2 default)), .b (((m_0.Triangles.getD x_l0.toNat default).getD 0 default) == ((m_0.Triangles.getD x_l0.toNat default).getD 2 default)), .sl ((m_0.Triangles.getD x_l0.toNat default).map (cI .i64)), .any, .any, .any, .any, .any, .any, .any, .any, .any, .any, .any, .any], [.box 42 [.sl (m_0.Places.map GVector.cells), .sl (m_0.Triangles.map (cL (cI .i64)))]]⟩)

def hd_impl_ValidMesh_2 (m_0 : GMesh) (x_l0 : Int) (x_l0_1 : Int) : St := ⟨[.agg [.sl (m_0.Places.map GVector.cells), .sl (m_0.Triangles.map (cL (cI .i64)))], .ptr 0 0 0, .any, .i .i64 (m_0.Places.length : Int), .any, .sl ((m_0.Triangles.getD x_l0.toNat default).map (cI .i64)), .any, .any, .ptr 0 0 0, .sl (m_0.Places.map GVector.cells), .i .i64 (m_0.Places.length : Int), .i .i64 (m_0.Places.length : Int), .b (decide ((m_0.Places.length : Int) > 64)), .b (decide ((m_0.Places.length : Int) > 64)), .ptr 0 0 1, .sl (m_0.Triangles.map (cL (cI .i64))), .i .i64 (m_0.Triangles.length : Int), .b (decide ((m_0.Triangles.length : Int) > 128)), .b (decide ((m_0.Triangles.length : Int) > 128)), .ptr 0 0 1, .sl (m_0.Triangles.map (cL (cI .i64))), .i .i64 (m_0.Triangles.length : Int), .i .i64 x_l0, .b (decide (x_l0 < (m_0.Triangles.length : Int))), .ref [.sl ((m_0.Triangles.getD x_l0.toNat default).map (cI .i64))] 0, .sl ((m_0.Triangles.getD x_l0.toNat default).map (cI .i64)), .sl ((m_0.Triangles.getD x_l0.toNat default).map (cI .i64)), .i .i64 ((m_0.Triangles.getD x_l0.toNat default).length : Int), .b (((m_0.Triangles.getD x_l0.toNat default).length : Int) != 3), .b (((m_0.Triangles.getD x_l0.toNat default).length : Int) != 3), .sl ((m_0.Triangles.getD x_l0.toNat default).map (cI .i64)), .ref [.i .i64 ((m_0.Triangles.getD x_l0.toNat default).getD 0 default)] 0, .i .i64 ((m_0.Triangles.getD x_l0.toNat default).getD 0 default), .sl ((m_0.Triangles.getD x_l0.toNat default).map (cI .i64)), .ref [.i .i64 ((m_0.Triangles.getD x_l0.toNat default).getD 1 default)] 0, .i .i64 ((m_0.Triangles.getD x_l0.toNat default).getD 1 default), .b (((m_0.Triangles.getD x_l0.toNat default).getD 0 default) == ((m_0.Triangles.getD x_l0.toNat default).getD 1 default)), .b (((m_0.Triangles.getD x_l0.toNat default).getD 0 default) == ((m_0.Triangles.getD x_l0.toNat default).getD 1 default)), .b (((m_0.Triangles.getD x_l0.toNat default).getD 0 default) == ((m_0.Triangles.getD x_l0.toNat default).getD 1 default)), .sl ((m_0.Triangles.getD x_l0.toNat default).map (cI .i64)), .ref [.i .i64 ((m_0.Triangles.getD x_l0.toNat default).getD 1 default)] 0, .i .i64 ((m_0.Triangles.getD x_l0.toNat default).getD 1 default), .sl ((m_0.Triangles.getD x_l0.toNat default).map (cI .i64)), .ref [.i .i64 ((m_0.Triangles.getD x_l0.toNat default).getD 2 default)] 0, .i .i64 ((m_0.Triangles.getD x_l0.toNat default).getD 2 default), .b (((m_0.Triangles.getD x_l0.toNat default).getD 1 default) == ((m_0.Triangles.getD x_l0.toNat default).getD 2 default)), .b (((m_0.Triangles.getD x_l0.toNat default).getD 1 default) == ((m_0.Triangles.getD x_l0.toNat default).getD 2 default)), .b (((m_0.Triangles.getD x_l0.toNat default).getD 1 default) == ((m_0.Triangles.getD x_l0.toNat default).getD 2 default)), .sl ((m_0.Triangles.getD x_l0.toNat default).map (cI .i64)), .ref [.i .i64 ((m_0.Triangles.getD x_l0.toNat default).getD 0 default)] 0, .i .i64 ((m_0.Triangles.getD x_l0.toNat default).getD 0 default), .sl ((m_0.Triangles.getD x_l0.toNat default).map (cI .i64)), .ref [.i .i64 ((m_0.Triangles.getD x_l0.toNat default).getD 2 default)] 0, .i .i64 ((m_0.Triangles.getD x_l0.toNat default).getD 2 default), .b (((m_0.Triangles.getD x_l0.toNat default).getD 0 default) == ((m_0.Triangles.getD x_l0.toNat default).getD 2 default)), .b (((m_0.Triangles.getD x_l0.toNat default).getD 0 default) == ((m_0.Triangles.getD x_l0.toNat default).getD 2 default)), .sl ((m_0.Triangles.getD x_l0.toNat default).map (cI .i64)), .i .i64 ((m_0.Triangles.getD x_l0.toNat default).length : Int), .i .i64 x_l0_1, .any, .any, .any, .any, .any, .any, .any, .any, .any, .any], [.box 42 [.sl (m_0.Places.map GVector.cells), .sl (m_0.Triangles.map (cL (cI .i64)))]]⟩

def mk_impl_ValidMesh_2_0 : List Bool := [true, true, false, true, false, true, false, false, true, true, true, true, true, true, true, true, true, true, true, true, true, true, true, true, true, true, true, true, true, true, true, true, true, true, true, true, true, true, true, true, true, true, true, true, true, true, true, true, true, true, true, true, true, true, true, true, true, true, true, false, false, false, false, false, false, false, false, false, false]

def mk_impl_ValidMesh_2_1 : List Bool := [false, false, true, false, false, false, false, false, false, false, false, false, false, false, false, false, false, false, false, false, false, false, false, false, false, false, false, false, false, false, false, false, false, false, false, false, false, false, false, false, false, false, false, false, false, false, false, false, false, false, false, false, false, false, false, false, false, false, false, false, false, false, false, false, false, false, false, false, false]

def mk_impl_ValidMesh_2_2 : List Bool := [true, true, false, true, false, true, false, false, true, true, true, true, true, true, true, true, true, true, true, true, true, true, true, true, true, true, true, true, true, true, true, true, true, true, true, true, true, true, true, true, true, true, true, true, true, true, true, true, true, true, true, true, true, true, true, true, true, false, false, false, false, false, false, false, false, false, false, false, false]

theorem lp_impl_ValidMesh_2 (m_0 : GMesh) (x_l0 : Int) (hp0 : m_0.Places.length ≤ 1073741824) (hp1 : m_0.Triangles.length ≤ 1073741824) (hp2 : ∀ t ∈ m_0.Triangles, t.length ≤ 1073741824) (hf_impl_ValidMesh_1_0 : (decide ((m_0.Places.length : Int) > 64)) = false) (hf_impl_ValidMesh_1_1 : (decide ((m_0.Triangles.length : Int) > 128)) = false) (hv_impl_ValidMesh_1_0 : 0 ≤ x_l0) (hf_impl_ValidMesh_2_0 : (((m_0.Triangles.getD x_l0.toNat default).length : Int) != 3) = false) (hf_impl_ValidMesh_2_1 : (decide ((m_0.Places.length : Int) > 64)) = false) (hf_impl_ValidMesh_2_2 : (decide ((m_0.Triangles.length : Int) > 128)) = false) (hf_impl_ValidMesh_2_3 : (decide (x_l0 < (m_0.Triangles.length : Int))) = true) : ∀ (k : Nat) (x_l0_1 : Int) (hv_impl_ValidMesh_2_0 : 0 ≤ x_l0_1) (hk : (((m_0.Triangles.getD x_l0.toNat default).length : Int) - x_l0_1).toNat < k), Lp prog 0 (sub (bodyOf f99) [1, 1, 1, 0, 1, 0, 0, 1, 1, 0, 0, 1, 1, 1, 0, 0]) (hd_impl_ValidMesh_2 m_0 x_l0 x_l0_1) (ls_impl_ValidMesh_2 m_0 x_l0 (lo_impl_ValidMesh_2 m_0 x_l0 k x_l0_1)).1 (ls_impl_ValidMesh_2 m_0 x_l0 (lo_impl_ValidMesh_2 m_0 x_l0 k x_l0_1)).2 := by
 intro k
 induction k with
 | zero => intro x_l0_1 hv_impl_ValidMesh_2_0 hk; exact absurd hk (Nat.not_lt_zero _)
 | succ k ih =>
  intro x_l0_1 hv_impl_ValidMesh_2_0 hk
  cases h__0 : (decide (x_l0_1 < ((m_0.Triangles.getD x_l0.toNat default).length : Int))) with
  | true =>
   have gh__0 := of_decide_eq_true h__0
   have y__0 : (0 : Int) ≤ x_l0_1 := (by first | assumption | omega | (simp_all <;> omega))
   have y__1 : x_l0_1 < ((m_0.Triangles.getD x_l0.toNat default).length : Int) := (by first | assumption | omega | (simp_all <;> omega))
   have p {a C} (s : Scr a C) := sB h__0 <| sG (cI .i64) (m_0.Triangles.getD x_l0.toNat default) x_l0_1 y__0 y__1 <| sW .i64 ((m_0.Places.length : Int) - 1) <| sF (t_impl_within ((m_0.Triangles.getD x_l0.toNat default).getD x_l0_1.toNat default) 0 (IntKind.wrap .i64 ((m_0.Places.length : Int) - 1))) <| s
   cases h__1 : (v_impl_within ((m_0.Triangles.getD x_l0.toNat default).getD x_l0_1.toNat default) 0 (IntKind.wrap .i64 ((m_0.Places.length : Int) - 1))) with
   | true =>
    have y__2 : (-9223372036854775808 : Int) ≤ (x_l0_1 + 1) := by clear p; exact (by first | assumption | omega | (simp_all <;> omega))
    have y__3 : (x_l0_1 + 1) ≤ (9223372036854775807 : Int) := by clear p; exact (by first | assumption | omega | (simp_all <;> omega))
    have e : lo_impl_ValidMesh_2 m_0 x_l0 (k + 1) x_l0_1 = (lo_impl_ValidMesh_2 m_0 x_l0 k (x_l0_1 + 1)) := by simp only [lo_impl_ValidMesh_2, h__0, h__1, cond_true]
    rw [e]
    exact nextR E0Ok hMixed [] mk_impl_ValidMesh_2_0 [0] (ih (x_l0_1 + 1) (show 0 ≤ (x_l0_1 + 1) from (by first | assumption | omega | (simp_all <;> omega))) (by first | assumption | omega | (simp_all <;> omega))) (p (sB' h__1 <| sI (x_l0_1 + 1) y__2 y__3 <| sN)) (by kernel_rfl)
   | false =>
    have e : lo_impl_ValidMesh_2 m_0 x_l0 (k + 1) x_l0_1 = (.inl ()) := by simp only [lo_impl_ValidMesh_2, h__0, h__1, cond_true, cond_false]
    rw [e]
    exact outR (e := .ret) E0Ok hMixed [] mk_impl_ValidMesh_2_1 [] (p (sB' h__1 <| sN)) (by kernel_rfl) (by intro h; cases h)
  | false =>
   have gh__0 := of_decide_eq_false h__0
   have e : lo_impl_ValidMesh_2 m_0 x_l0 (k + 1) x_l0_1 = (.inr ()) := by simp only [lo_impl_ValidMesh_2, h__0, cond_false]
   rw [e]
   exact outR (e := (.exit 2)) E0Ok hMixed [] mk_impl_ValidMesh_2_2 [0] (sB h__0 <| sN) (by kernel_rfl) (by intro h; cases h)

def lr_impl_ValidMesh_2_0 (m_0 : GMesh) (x_l0 : Int) : (Unit) ⊕ (Unit) := (lo_impl_ValidMesh_2 m_0 x_l0 ((((m_0.Triangles.getD x_l0.toNat default).length : Int) - 0).toNat + 1) 0)

def lo_impl_ValidMesh_1 (m_0 : GMesh) : Nat → Int → (Unit) ⊕ (Unit)
  | 0, _ => .inl default
  | k + 1, x_l0 => (cond (decide (x_l0 < (m_0.Triangles.length : Int)))
    (cond (((m_0.Triangles.getD x_l0.toNat default).length : Int) != 3)
      (.inl ())
      (cond (((m_0.Triangles.getD x_l0.toNat default).getD 0 default) == ((m_0.Triangles.getD x_l0.toNat default).getD 1 default))
        (.inl ())
        (cond (((m_0.Triangles.getD x_l0.toNat default).getD 1 default) == ((m_0.Triangles.getD x_l0.toNat default).getD 2 default))
          (.inl ())
          (cond (((m_0.Triangles.getD x_l0.toNat default).getD 0 default) == ((m_0.Triangles.getD x_l0.toNat default).getD 2 default))
            (.inl ())
            (match (lr_impl_ValidMesh_2_0 m_0 x_l0) with
              | .inl r_6 => (.inl ())
              | .inr r_6 => (lo_impl_ValidMesh_1 m_0 k (x_l0 + 1)))))))
    (.inr ()))

def ls_impl_ValidMesh_1 (m_0 : GMesh) : (Unit) ⊕ (Unit) → Ex × St
  | .inl r => (.ret, ⟨[.any, .any, .b false, .any, .any, .any, .any, .any, .any, .any, .any, .any, .any, .any, .any, .any, .any, .any, .any, .any, .any, .any, .any, .any, .any, .any, .any, .any, .any, .any, .any, .any, .any, .any, .any, .any, .any, .any, .any, .any, .any, .any, .any, .any, .any, .any, .any, .any, .any, .any, .any, .any, .any, .any, .any, .any, .any, .any, .any, .any, .any, .any, .any, .any, .any, .any, .any, .any, .any], []⟩)
  | .inr r => ((.exit 0), ⟨[.agg [.sl (m_0.Places.map GVector.cells), .sl (m_0.Triangles.map (cL (cI .i64)))], .ptr 0 0 0, .any, .i .i64 (m_0.Places.length : Int), .any, .any, .any, .any, .ptr 0 0 0, .sl (m_0.Places.map GVector.cells), .i .i64 (m_0.Places.length : Int), .i .i64 (m_0.Places.length : Int), .b (decide ((m_0.Places.length : Int) > 64)), .b (decide ((m_0.Places.length : Int) > 64)), .ptr 0 0 1, .sl (m_0.Triangles.map (cL (cI .i64))), .i .i64 (m_0.Triangles.length : Int), .b (decide ((m_0.Triangles.length : Int) > 128)), .b (decide ((m_0.Triangles.length : Int) > 128)), .ptr 0 0 1, .sl (m_0.Triangles.map (cL (cI .i64))), .any, .any, .any, .any, .any, .any, .any, .any, .any, .any, .any, .any, .any, .any, .any, .any, .any, .any, .any, .any, .any, .any, .any, .any, .any, .any, .any, .any, .any, .any, .any, .any, .any, .any, .any, .any, .any, .any, .any, .any, .any, .any, .any, .any, .any, .any, .any, .any], [.box 42 [.sl (m_0.Places.map GVector.cells), .sl (m_0.Triangles.map (cL (cI .i64)))]]⟩)

def hd_impl_ValidMesh_1 (m_0 : GMesh) (x_l0 : Int) : St := ⟨[.agg [.sl (m_0.Places.map GVector.cells), .sl (m_0.Triangles.map (cL (cI .i64)))], .ptr 0 0 0, .any, .i .i64 (m_0.Places.length : Int), .any, .any, .any, .any, .ptr 0 0 0, .sl (m_0.Places.map GVector.cells), .i .i64 (m_0.Places.length : Int), .i .i64 (m_0.Places.length : Int), .b (decide ((m_0.Places.length : Int) > 64)), .b (decide ((m_0.Places.length : Int) > 64)), .ptr 0 0 1, .sl (m_0.Triangles.map (cL (cI .i64))), .i .i64 (m_0.Triangles.length : Int), .b (decide ((m_0.Triangles.length : Int) > 128)), .b (decide ((m_0.Triangles.length : Int) > 128)), .ptr 0 0 1, .sl (m_0.Triangles.map (cL (cI .i64))), .i .i64 (m_0.Triangles.length : Int), .i .i64 x_l0, .any, .any, .any, .any, .any, .any, .any, .any, .any, .any, .any, .any, .any, .any, .any, .any, .any, .any, .any, .any, .any, .any, .any, .any, .any, .any, .any, .any, .any, .any, .any, .any, .any, .any, .any, .any, .any, .any, .any, .any, .any, .any, .any, .any, .any, .any], [.box 42 [.sl (m_0.Places.map GVector.cells), .sl (m_0.Triangles.map (cL (cI .i64)))]]⟩

def mk_impl_ValidMesh_1_0 : List Bool := [true, true, false, true, false, false, false, false, true, true, true, true, true, true, true, true, true, true, true, true, true, true, true, false, false, false, false, false, false, false, false, false, false, false, false, false, false, false, false, false, false, false, false, false, false, false, false, false, false, false, false, false, false, false, false, false, false, false, false, false, false, false, false, false, false, false, false, false, false]

def mk_impl_ValidMesh_1_1 : List Bool := [false, false, true, false, false, false, false, false, false, false, false, false, false, false, false, false, false, false, false, false, false, false, false, false, false, false, false, false, false, false, false, false, false, false, false, false, false, false, false, false, false, false, false, false, false, false, false, false, false, false, false, false, false, false, false, false, false, false, false, false, false, false, false, false, false, false, false, false, false]

def mk_impl_ValidMesh_1_2 : List Bool := [true, true, false, true, false, false, false, false, true, true, true, true, true, true, true, true, true, true, true, true, true, false, false, false, false, false, false, false, false, false, false, false, false, false, false, false, false, false, false, false, false, false, false, false, false, false, false, false, false, false, false, false, false, false, false, false, false, false, false, false, false, false, false, false, false, false, false, false, false]

theorem lp_impl_ValidMesh_1 (m_0 : GMesh) (hp0 : m_0.Places.length ≤ 1073741824) (hp1 : m_0.Triangles.length ≤ 1073741824) (hp2 : ∀ t ∈ m_0.Triangles, t.length ≤ 1073741824) (hf_impl_ValidMesh_1_0 : (decide ((m_0.Places.length : Int) > 64)) = false) (hf_impl_ValidMesh_1_1 : (decide ((m_0.Triangles.length : Int) > 128)) = false) : ∀ (k : Nat) (x_l0 : Int) (hv_impl_ValidMesh_1_0 : 0 ≤ x_l0) (hk : ((m_0.Triangles.length : Int) - x_l0).toNat < k), Lp prog 0 (sub (bodyOf f99) [1, 1, 1, 0, 1, 0, 0]) (hd_impl_ValidMesh_1 m_0 x_l0) (ls_impl_ValidMesh_1 m_0 (lo_impl_ValidMesh_1 m_0 k x_l0)).1 (ls_impl_ValidMesh_1 m_0 (lo_impl_ValidMesh_1 m_0 k x_l0)).2 := by
 intro k
 induction k with
 | zero => intro x_l0 hv_impl_ValidMesh_1_0 hk; exact absurd hk (Nat.not_lt_zero _)
 | succ k ih =>
  intro x_l0 hv_impl_ValidMesh_1_0 hk
  cases h_0 : (decide (x_l0 < (m_0.Triangles.length : Int))) with
  | true =>
   have gh_0 := of_decide_eq_true h_0
   have y_0 : (0 : Int) ≤ x_l0 := (by first | assumption | omega | (simp_all <;> omega))
   have y_1 : x_l0 < (m_0.Triangles.length : Int) := (by first | assumption | omega | (simp_all <;> omega))
   have p {a C} (s : Scr a C) := sB h_0 <| sG (cL (cI .i64)) m_0.Triangles x_l0 y_0 y_1 <| sK [28, 28] <| sZ (cI .i64) (m_0.Triangles.getD x_l0.toNat default) <| s
   cases h_1 : (((m_0.Triangles.getD x_l0.toNat default).length : Int) != 3) with
   | true =>
    have gh_1 := bne_iff_ne.1 h_1
    have e : lo_impl_ValidMesh_1 m_0 (k + 1) x_l0 = (.inl ()) := by simp only [lo_impl_ValidMesh_1, h_0, h_1, cond_true]
    rw [e]
    exact outR (e := .ret) E0Ok hMixed [] mk_impl_ValidMesh_1_1 [] (p (sB h_1 <| sB h_1 <| sB h_1 <| sB h_1 <| sB h_1 <| sB h_1 <| sB h_1 <| sB h_1 <| sB (show true = true from rfl) <| sB (show true = true from rfl) <| sB (show true = true from rfl) <| sB (show true = true from rfl) <| sB (show true = true from rfl) <| sB (show true = true from rfl) <| sB (show true = true from rfl) <| sB (show true = true from rfl) <| sB (show true = true from rfl) <| sB (show true = true from rfl) <| sB (show true = true from rfl) <| sB (show true = true from rfl) <| sB (show true = true from rfl) <| sB (show true = true from rfl) <| sB (show true = true from rfl) <| sB (show true = true from rfl) <| sB (show true = true from rfl) <| sN)) (by kernel_rfl) (by intro h; cases h)
   | false =>
    have gh_1 := bne_eq_false_iff_eq.1 h_1
    have y_2 : (0 : Int) ≤ 0 := by clear p; exact (by first | assumption | omega | (simp_all <;> omega))
    have y_3 : 0 < ((m_0.Triangles.getD x_l0.toNat default).length : Int) := by clear p; exact (by first | assumption | omega | (simp_all <;> omega))
    have y_4 : (0 : Int) ≤ 1 := by clear p; exact (by first | assumption | omega | (simp_all <;> omega))
    have y_5 : 1 < ((m_0.Triangles.getD x_l0.toNat default).length : Int) := by clear p; exact (by first | assumption | omega | (simp_all <;> omega))
    have q {a C} (s : Scr a C) := p (sB h_1 <| sB h_1 <| sG (cI .i64) (m_0.Triangles.getD x_l0.toNat default) 0 y_2 y_3 <| sB h_1 <| sB h_1 <| sB h_1 <| sG (cI .i64) (m_0.Triangles.getD x_l0.toNat default) 1 y_4 y_5 <| sB h_1 <| sB h_1 <| sB h_1 <| s)
    clear p
    cases h_2 : (((m_0.Triangles.getD x_l0.toNat default).getD 0 default) == ((m_0.Triangles.getD x_l0.toNat default).getD 1 default)) with
    | true =>
     have gh_2 := eq_of_beq h_2
     have e : lo_impl_ValidMesh_1 m_0 (k + 1) x_l0 = (.inl ()) := by simp only [lo_impl_ValidMesh_1, h_0, h_1, h_2, cond_true, cond_false]
     rw [e]
     exact outR (e := .ret) E0Ok hMixed [] mk_impl_ValidMesh_1_1 [] (q (sB h_2 <| sB h_2 <| sB h_2 <| sB h_2 <| sB h_2 <| sB h_2 <| sB h_2 <| sB h_2 <| sB (show true = true from rfl) <| sB (show true = true from rfl) <| sB (show true = true from rfl) <| sB (show true = true from rfl) <| sB (show true = true from rfl) <| sB (show true = true from rfl) <| sB (show true = true from rfl) <| sB (show true = true from rfl) <| sB (show true = true from rfl) <| sN)) (by kernel_rfl) (by intro h; cases h)
    | false =>
     have gh_2 := ne_of_beq_false h_2
     have y_6 : (0 : Int) ≤ 2 := by clear q; exact (by first | assumption | omega | (simp_all <;> omega))
     have y_7 : 2 < ((m_0.Triangles.getD x_l0.toNat default).length : Int) := by clear q; exact (by first | assumption | omega | (simp_all <;> omega))
     have p {a C} (s : Scr a C) := q (sB h_2 <| sB h_2 <| sG (cI .i64) (m_0.Triangles.getD x_l0.toNat default) 1 y_4 y_5 <| sB h_2 <| sB h_2 <| sB h_2 <| sG (cI .i64) (m_0.Triangles.getD x_l0.toNat default) 2 y_6 y_7 <| sB h_2 <| sB h_2 <| sB h_2 <| s)
     clear q
     cases h_3 : (((m_0.Triangles.getD x_l0.toNat default).getD 1 default) == ((m_0.Triangles.getD x_l0.toNat default).getD 2 default)) with
     | true =>
      have gh_3 := eq_of_beq h_3
      have e : lo_impl_ValidMesh_1 m_0 (k + 1) x_l0 = (.inl ()) := by simp only [lo_impl_ValidMesh_1, h_0, h_1, h_2, h_3, cond_true, cond_false]
      rw [e]
      exact outR (e := .ret) E0Ok hMixed [] mk_impl_ValidMesh_1_1 [] (p (sB h_3 <| sB h_3 <| sB h_3 <| sB h_3 <| sB h_3 <| sB h_3 <| sB h_3 <| sB h_3 <| sB (show true = true from rfl) <| sN)) (by kernel_rfl) (by intro h; cases h)
     | false =>
      have gh_3 := ne_of_beq_false h_3
      have q {a C} (s : Scr a C) := p (sB h_3 <| sB h_3 <| sG (cI .i64) (m_0.Triangles.getD x_l0.toNat default) 0 y_2 y_3 <| sB h_3 <| sB h_3 <| sB h_3 <| sG (cI .i64) (m_0.Triangles.getD x_l0.toNat default) 2 y_6 y_7 <| sB h_3 <| sB h_3 <| sB h_3 <| s)
      clear p
      cases h_4 : (((m_0.Triangles.getD x_l0.toNat default).getD 0 default) == ((m_0.Triangles.getD x_l0.toNat default).getD 2 default)) with
      | true =>
       have gh_4 := eq_of_beq h_4
       have e : lo_impl_ValidMesh_1 m_0 (k + 1) x_l0 = (.inl ()) := by simp only [lo_impl_ValidMesh_1, h_0, h_1, h_2, h_3, h_4, cond_true, cond_false]
       rw [e]
       exact outR (e := .ret) E0Ok hMixed [] mk_impl_ValidMesh_1_1 [] (q (sB h_4 <| sN)) (by kernel_rfl) (by intro h; cases h)
      | false =>
       have gh_4 := ne_of_beq_false h_4
       have p {a C} (s : Scr a C) := q (sB h_4 <| sZ (cI .i64) (m_0.Triangles.getD x_l0.toNat default) <| s)
       clear q
       cases h_5 : (lr_impl_ValidMesh_2_0 m_0 x_l0) with
       | inl r_6 =>
        have e : lo_impl_ValidMesh_1 m_0 (k + 1) x_l0 = (.inl ()) := by simp only [lo_impl_ValidMesh_1, h_0, h_1, h_2, h_3, h_4, h_5, cond_true, cond_false]
        rw [e]
        exact outR (e := .ret) E0Ok hMixed [] mk_impl_ValidMesh_1_1 [] (p (sL mk_impl_ValidMesh_2_0 1 (lp_val (ls_impl_ValidMesh_2 m_0 x_l0) (x := (lr_impl_ValidMesh_2_0 m_0 x_l0)) (lp_impl_ValidMesh_2 m_0 x_l0 hp0 hp1 hp2 hf_impl_ValidMesh_1_0 hf_impl_ValidMesh_1_1 hv_impl_ValidMesh_1_0 h_1 hf_impl_ValidMesh_1_0 hf_impl_ValidMesh_1_1 h_0 ((((m_0.Triangles.getD x_l0.toNat default).length : Int) - 0).toNat + 1) 0 (show 0 ≤ 0 from (by first | assumption | omega | (simp_all <;> omega))) (Nat.lt_succ_self _)) h_5) <| sN)) (by kernel_rfl) (by intro h; cases h)
       | inr r_6 =>
        have y_8 : (-9223372036854775808 : Int) ≤ (x_l0 + 1) := by clear p; exact (by first | assumption | omega | (simp_all <;> omega))
        have y_9 : (x_l0 + 1) ≤ (9223372036854775807 : Int) := by clear p; exact (by first | assumption | omega | (simp_all <;> omega))
        have e : lo_impl_ValidMesh_1 m_0 (k + 1) x_l0 = (lo_impl_ValidMesh_1 m_0 k (x_l0 + 1)) := by simp only [lo_impl_ValidMesh_1, h_0, h_1, h_2, h_3, h_4, h_5, cond_true, cond_false]
        rw [e]
        exact nextR E0Ok hMixed [] mk_impl_ValidMesh_1_0 [0] (ih (x_l0 + 1) (show 0 ≤ (x_l0 + 1) from (by first | assumption | omega | (simp_all <;> omega))) (by first | assumption | omega | (simp_all <;> omega))) (p (sL mk_impl_ValidMesh_2_0 1 (lp_val (ls_impl_ValidMesh_2 m_0 x_l0) (x := (lr_impl_ValidMesh_2_0 m_0 x_l0)) (lp_impl_ValidMesh_2 m_0 x_l0 hp0 hp1 hp2 hf_impl_ValidMesh_1_0 hf_impl_ValidMesh_1_1 hv_impl_ValidMesh_1_0 h_1 hf_impl_ValidMesh_1_0 hf_impl_ValidMesh_1_1 h_0 ((((m_0.Triangles.getD x_l0.toNat default).length : Int) - 0).toNat + 1) 0 (show 0 ≤ 0 from (by first | assumption | omega | (simp_all <;> omega))) (Nat.lt_succ_self _)) h_5) <| sI (x_l0 + 1) y_8 y_9 <| sN)) (by kernel_rfl)
  | false =>
   have gh_0 := of_decide_eq_false h_0
   have e : lo_impl_ValidMesh_1 m_0 (k + 1) x_l0 = (.inr ()) := by simp only [lo_impl_ValidMesh_1, h_0, cond_false]
   rw [e]
   exact outR (e := (.exit 0)) E0Ok hMixed [] mk_impl_ValidMesh_1_2 [0] (sB h_0 <| sN) (by kernel_rfl) (by intro h; cases h)

def lr_impl_ValidMesh_1_1 (m_0 : GMesh) : (Unit) ⊕ (Unit) := (lo_impl_ValidMesh_1 m_0 (((m_0.Triangles.length : Int) - 0).toNat + 1) 0)

def v_impl_ValidMesh (m_0 : GMesh) : Bool := (cond (decide ((m_0.Places.length : Int) > 64))
  false
  (cond (decide ((m_0.Triangles.length : Int) > 128))
    false
    (match (lr_impl_ValidMesh_1_1 m_0) with
      | .inl r3 => false
      | .inr r3 => true)))

theorem t_impl_ValidMesh (m_0 : GMesh) (hp0 : m_0.Places.length ≤ 1073741824) (hp1 : m_0.Triangles.length ≤ 1073741824) (hp2 : ∀ t ∈ m_0.Triangles, t.length ≤ 1073741824)  : Fn prog 99 [.agg [.sl (m_0.Places.map GVector.cells), .sl (m_0.Triangles.map (cL (cI .i64)))]] (.b (v_impl_ValidMesh m_0)) [] := by
 have p {a C} (s : Scr a C) := sZ GVector.cells m_0.Places <| s
 cases h0 : (decide ((m_0.Places.length : Int) > 64)) with
 | true =>
  have gh0 := of_decide_eq_true h0
  refine fnS E0Ok hMixed (c := bodyOf f99) [] (.b false) [] func99 (p (sB h0 <| sB h0 <| sB h0 <| sB h0 <| sB h0 <| sB (show true = true from rfl) <| sK [] sN)) rfl (by kernel_rfl) (by kernel_rfl) rfl ?_ ?_
  · simp only [v_impl_ValidMesh, h0, cond_true]
  · rfl
 | false =>
  have gh0 := of_decide_eq_false h0
  have q {a C} (s : Scr a C) := p (sB h0 <| sB h0 <| sB h0 <| sZ (cL (cI .i64)) m_0.Triangles <| sB h0 <| sB h0 <| s)
  clear p
  cases h1 : (decide ((m_0.Triangles.length : Int) > 128)) with
  | true =>
   have gh1 := of_decide_eq_true h1
   refine fnS E0Ok hMixed (c := bodyOf f99) [] (.b false) [] func99 (q (sB h1 <| sK [] sN)) rfl (by kernel_rfl) (by kernel_rfl) rfl ?_ ?_
   · simp only [v_impl_ValidMesh, h0, h1, cond_true, cond_false]
   · rfl
  | false =>
   have gh1 := of_decide_eq_false h1
   have p {a C} (s : Scr a C) := q (sB h1 <| sZ (cL (cI .i64)) m_0.Triangles <| s)
   clear q
   cases h2 : (lr_impl_ValidMesh_1_1 m_0) with
   | inl r3 =>
    refine fnS E0Ok hMixed (c := bodyOf f99) [] (.b false) [] func99 (p (sL mk_impl_ValidMesh_1_0 1 (lp_val (ls_impl_ValidMesh_1 m_0) (x := (lr_impl_ValidMesh_1_1 m_0)) (lp_impl_ValidMesh_1 m_0 hp0 hp1 hp2 h0 h1 (((m_0.Triangles.length : Int) - 0).toNat + 1) 0 (show 0 ≤ 0 from (by first | assumption | omega | (simp_all <;> omega))) (Nat.lt_succ_self _)) h2) <| sK [] sN)) rfl (by kernel_rfl) (by kernel_rfl) rfl ?_ ?_
    · simp only [v_impl_ValidMesh, h0, h1, h2, cond_false]
    · rfl
   | inr r3 =>
    refine fnS E0Ok hMixed (c := bodyOf f99) [] (.b true) [] func99 (p (sL mk_impl_ValidMesh_1_0 1 (lp_val (ls_impl_ValidMesh_1 m_0) (x := (lr_impl_ValidMesh_1_1 m_0)) (lp_impl_ValidMesh_1 m_0 hp0 hp1 hp2 h0 h1 (((m_0.Triangles.length : Int) - 0).toNat + 1) 0 (show 0 ≤ 0 from (by first | assumption | omega | (simp_all <;> omega))) (Nat.lt_succ_self _)) h2) <| sK [] sN)) rfl (by kernel_rfl) (by kernel_rfl) rfl ?_ ?_
    · simp only [v_impl_ValidMesh, h0, h1, h2, cond_false]
    · rfl

theorem triB (t : List Int) (n : Int) : (!((t.length : Int) != 3) && (!(t.getD 0 default == t.getD 1 default) && (!(t.getD 1 default == t.getD 2 default) && (!(t.getD 0 default == t.getD 2 default) && t.all fun x => v_impl_within x 0 (IntKind.wrap .i64 (n - 1)))))) = v_spec_l02Triangle t n := by
  unfold v_spec_l02Triangle
  cases hl : ((t.length : Int) != 3) with
  | true => rfl
  | false =>
    have hl3 : t.length = 3 := by simp at hl; omega
    match t, hl3 with
    | [a, b, c], _ =>
      simp only [List.getD_cons_zero, List.getD_cons_succ, List.all_cons, List.all_nil, Bool.and_true]
      rw [show v_impl_within = v_spec_l00In from rfl]
      cases (a == b) <;> cases (b == c) <;> cases (a == c) <;> cases v_spec_l00In a 0 (IntKind.wrap .i64 (n - 1)) <;> cases v_spec_l00In b 0 (IntKind.wrap .i64 (n - 1)) <;> cases v_spec_l00In c 0 (IntKind.wrap .i64 (n - 1)) <;> rfl
theorem lo_ValidMesh (m : GMesh) (k : Nat) (i : Int) : lo_impl_ValidMesh_1 m (k + 1) i = cond (decide (i < (m.Triangles.length : Int))) (cond (v_spec_l02Triangle (m.Triangles.getD i.toNat default) (m.Places.length : Int)) (lo_impl_ValidMesh_1 m k (i + 1)) (.inl ())) (.inr ()) := by
  rw [lo_impl_ValidMesh_1, ← triB]
  have hin : lr_impl_ValidMesh_2_0 m i = cond ((m.Triangles.getD i.toNat default).all fun x => v_impl_within x 0 (IntKind.wrap .i64 ((m.Places.length : Int) - 1))) (.inr ()) (.inl ()) := by
    unfold lr_impl_ValidMesh_2_0
    exact all_from (a := m.Triangles.getD i.toNat default) (p := fun x => v_impl_within x 0 (IntKind.wrap .i64 ((m.Places.length : Int) - 1))) (lo := lo_impl_ValidMesh_2 m i) (x := ()) (y := ()) (fun k i => rfl)
  rw [hin]
  generalize m.Triangles.getD i.toNat default = t
  generalize (t.all fun x => v_impl_within x 0 (IntKind.wrap .i64 ((m.Places.length : Int) - 1))) = q
  cases ((t.length : Int) != 3) <;> cases (t.getD 0 default == t.getD 1 default) <;> cases (t.getD 1 default == t.getD 2 default) <;> cases (t.getD 0 default == t.getD 2 default) <;> cases q <;> rfl
theorem eq_ValidMesh (m : GMesh) : v_impl_ValidMesh m = v_spec_l02Is m := by
  rw [l02Is_eq]
  unfold v_impl_ValidMesh lr_impl_ValidMesh_1_1
  rw [all_from (a := m.Triangles) (p := fun t => v_spec_l02Triangle t (m.Places.length : Int)) (lo := lo_impl_ValidMesh_1 m) (x := ()) (y := ()) (lo_ValidMesh m)]
  cases (m.Triangles.all fun t => v_spec_l02Triangle t (m.Places.length : Int)) <;> rfl

def lo_impl_ValidBody_1 (b_0 : GBody) : Nat → Int → (Unit) ⊕ (Unit)
  | 0, _ => .inl default
  | k + 1, x_l0 => (cond (decide (x_l0 < (b_0.Springs.length : Int)))
    (cond (v_impl_within ((b_0.Springs.getD x_l0.toNat default).A) 0 (IntKind.wrap .i64 ((b_0.Mesh.Places.length : Int) - 1)))
      (cond (v_impl_within ((b_0.Springs.getD x_l0.toNat default).B) 0 (IntKind.wrap .i64 ((b_0.Mesh.Places.length : Int) - 1)))
        (cond ((b_0.Springs.getD x_l0.toNat default).A == (b_0.Springs.getD x_l0.toNat default).B)
          (.inl ())
          (cond (fcmp .geq .f32 ((b_0.Springs.getD x_l0.toNat default).Long) 0)
            (lo_impl_ValidBody_1 b_0 k (x_l0 + 1))
            (.inl ())))
        (.inl ()))
      (.inl ()))
    (.inr ()))

def ls_impl_ValidBody_1 (b_0 : GBody) : (Unit) ⊕ (Unit) → Ex × St
  | .inl r => (.ret, ⟨[.any, .any, .b false, .any, .any, .any, .any, .any, .any, .any, .any, .any, .any, .any, .any, .any, .any, .any, .any, .any, .any, .any, .any, .any, .any, .any, .any, .any, .any, .any, .any, .any, .any, .any, .any, .any, .any, .any, .any, .any, .any, .any, .any, .any, .any, .any, .any, .any, .any, .any, .any, .any, .any, .any, .any, .any, .any, .any, .any, .any, .any, .any], []⟩)
  | .inr r => ((.exit 0), ⟨[.agg [.sl (b_0.Mesh.Places.map GVector.cells), .sl (b_0.Mesh.Triangles.map (cL (cI .i64))), .sl (b_0.Springs.map GSpring.cells), .f .f32 b_0.Film, .f .f32 b_0.Bend, .sl (b_0.Weights.map (cF .f32)), .f .f32 b_0.Fall.X, .f .f32 b_0.Fall.Y, .f .f32 b_0.Fall.Z], .ptr 0 0 0, .any, .i .i64 (b_0.Mesh.Places.length : Int), .any, .any, .ptr 0 0 0, .ptr 0 0 0, .sl (b_0.Mesh.Places.map GVector.cells), .i .i64 (b_0.Mesh.Places.length : Int), .ptr 0 0 0, .agg [.sl (b_0.Mesh.Places.map GVector.cells), .sl (b_0.Mesh.Triangles.map (cL (cI .i64)))], .b (v_impl_ValidMesh b_0.Mesh), .b (!(v_impl_ValidMesh b_0.Mesh)), .b (!(v_impl_ValidMesh b_0.Mesh)), .ptr 0 0 2, .sl (b_0.Springs.map GSpring.cells), .i .i64 (b_0.Springs.length : Int), .b (decide ((b_0.Springs.length : Int) > 200)), .b (decide ((b_0.Springs.length : Int) > 200)), .b (decide ((b_0.Springs.length : Int) > 200)), .ptr 0 0 5, .sl (b_0.Weights.map (cF .f32)), .i .i64 (b_0.Weights.length : Int), .i .i64 (b_0.Mesh.Places.length : Int), .b ((b_0.Weights.length : Int) != (b_0.Mesh.Places.length : Int)), .b ((b_0.Weights.length : Int) != (b_0.Mesh.Places.length : Int)), .ptr 0 0 2, .sl (b_0.Springs.map GSpring.cells), .any, .any, .any, .any, .any, .any, .any, .any, .any, .any, .any, .any, .any, .any, .any, .any, .any, .any, .any, .any, .any, .any, .any, .any, .any, .any, .any, .any, .any, .any, .any, .any, .any], [.box 46 [.sl (b_0.Mesh.Places.map GVector.cells), .sl (b_0.Mesh.Triangles.map (cL (cI .i64))), .sl (b_0.Springs.map GSpring.cells), .f .f32 b_0.Film, .f .f32 b_0.Bend, .sl (b_0.Weights.map (cF .f32)), .f .f32 b_0.Fall.X, .f .f32 b_0.Fall.Y, .f .f32 b_0.Fall.Z]]⟩)

def hd_impl_ValidBody_1 (b_0 : GBody) (x_l0 : Int) : St := ⟨[.agg [.sl (b_0.Mesh.Places.map GVector.cells), .sl (b_0.Mesh.Triangles.map (cL (cI .i64))), .sl (b_0.Springs.map GSpring.cells), .f .f32 b_0.Film, .f .f32 b_0.Bend, .sl (b_0.Weights.map (cF .f32)), .f .f32 b_0.Fall.X, .f .f32 b_0.Fall.Y, .f .f32 b_0.Fall.Z], .ptr 0 0 0, .any, .i .i64 (b_0.Mesh.Places.length : Int), .any, .any, .ptr 0 0 0, .ptr 0 0 0, .sl (b_0.Mesh.Places.map GVector.cells), .i .i64 (b_0.Mesh.Places.length : Int), .ptr 0 0 0, .agg [.sl (b_0.Mesh.Places.map GVector.cells), .sl (b_0.Mesh.Triangles.map (cL (cI .i64)))], .b (v_impl_ValidMesh b_0.Mesh), .b (!(v_impl_ValidMesh b_0.Mesh)), .b (!(v_impl_ValidMesh b_0.Mesh)), .ptr 0 0 2, .sl (b_0.Springs.map GSpring.cells), .i .i64 (b_0.Springs.length : Int), .b (decide ((b_0.Springs.length : Int) > 200)), .b (decide ((b_0.Springs.length : Int) > 200)), .b (decide ((b_0.Springs.length : Int) > 200)), .ptr 0 0 5, .sl (b_0.Weights.map (cF .f32)), .i .i64 (b_0.Weights.length : Int), .i .i64 (b_0.Mesh.Places.length : Int), .b ((b_0.Weights.length : Int) != (b_0.Mesh.Places.length : Int)), .b ((b_0.Weights.length : Int) != (b_0.Mesh.Places.length : Int)), .ptr 0 0 2, .sl (b_0.Springs.map GSpring.cells), .i .i64 (b_0.Springs.length : Int), .i .i64 x_l0, .any, .any, .any, .any, .any, .any, .any, .any, .any, .any, .any, .any, .any, .any, .any, .any, .any, .any, .any, .any, .any, .any, .any, .any, .any, .any, .any, .any, .any, .any, .any], [.box 46 [.sl (b_0.Mesh.Places.map GVector.cells), .sl (b_0.Mesh.Triangles.map (cL (cI .i64))), .sl (b_0.Springs.map GSpring.cells), .f .f32 b_0.Film, .f .f32 b_0.Bend, .sl (b_0.Weights.map (cF .f32)), .f .f32 b_0.Fall.X, .f .f32 b_0.Fall.Y, .f .f32 b_0.Fall.Z]]⟩

def mk_impl_ValidBody_1_0 : List Bool := [true, true, false, true, false, false, true, true, true, true, true, true, true, true, true, true, true, true, true, true, true, true, true, true, true, true, true, true, true, true, true, false, false, false, false, false, false, false, false, false, false, false, false, false, false, false, false, false, false, false, false, false, false, false, false, false, false, false, false, false, false, false]

def mk_impl_ValidBody_1_1 : List Bool := [false, false, true, false, false, false, false, false, false, false, false, false, false, false, false, false, false, false, false, false, false, false, false, false, false, false, false, false, false, false, false, false, false, false, false, false, false, false, false, false, false, false, false, false, false, false, false, false, false, false, false, false, false, false, false, false, false, false, false, false, false, false]

def mk_impl_ValidBody_1_2 : List Bool := [true, true, false, true, false, false, true, true, true, true, true, true, true, true, true, true, true, true, true, true, true, true, true, true, true, true, true, true, true, false, false, false, false, false, false, false, false, false, false, false, false, false, false, false, false, false, false, false, false, false, false, false, false, false, false, false, false, false, false, false, false, false]

end Go.Ab
