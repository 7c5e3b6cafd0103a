/- The functions of this seat as plain Lean, and that the program's are these. Printed by a program of the prover's own. -/
import Derived.Test.YtiiijolkhbnblaaB7
set_option linter.unusedVariables false
set_option linter.unusedSimpArgs false
set_option maxRecDepth 100000
namespace Go.Ab
open Go.RowKit Go.Proofs.Try

def nd_laws_FnExactMovePlaces_0 (aB_0 : GBody) (aBy_1 : (List GVector)) (aShare_2 : Nat) : Int := (v_laws_heldBody (⟨(⟨(v_laws_markBody_mAooonnonnnZn ((v_impl_MovePlaces aB_0 aBy_1 aShare_2).1) 1).2.1, (v_laws_markBody_mAooonnonnnZn ((v_impl_MovePlaces aB_0 aBy_1 aShare_2).1) 1).2.2.1⟩ : GMesh), (v_laws_markBody_mAooonnonnnZn ((v_impl_MovePlaces aB_0 aBy_1 aShare_2).1) 1).2.2.2.1, (v_impl_MovePlaces aB_0 aBy_1 aShare_2).1.Film, (v_impl_MovePlaces aB_0 aBy_1 aShare_2).1.Bend, (v_laws_markBody_mAooonnonnnZn ((v_impl_MovePlaces aB_0 aBy_1 aShare_2).1) 1).2.2.2.2, (v_impl_MovePlaces aB_0 aBy_1 aShare_2).1.Fall⟩ : GBody) 1)

def v_laws_FnExactMovePlaces (aB_0 : GBody) (aBy_1 : (List GVector)) (aShare_2 : Nat) : Bool := (cond (decide ((v_laws_szBody aB_0 1048576) < 0))
  true
  (cond (decide ((v_laws_szVectorS aBy_1 (v_laws_szBody aB_0 1048576)) < 0))
    true
    (cond (v_laws_eqBody ((v_impl_MovePlaces aB_0 aBy_1 aShare_2).1) ((v_spec_MovePlaces aB_0 aBy_1 aShare_2).1))
      (cond ((v_impl_MovePlaces aB_0 aBy_1 aShare_2).2 == (v_spec_MovePlaces aB_0 aBy_1 aShare_2).2)
        (cond (v_laws_eqBody aB_0 aB_0)
          (cond (v_laws_eqVectorS aBy_1 aBy_1)
            (cond (decide ((v_laws_markVectorS_mon aBy_1 ((v_laws_markBody_mAooonnonnnZn aB_0 1).1)).1 < 0))
              false
              (cond (decide ((nd_laws_FnExactMovePlaces_0 aB_0 aBy_1 aShare_2) < 0))
                false
                (cond ((nd_laws_FnExactMovePlaces_0 aB_0 aBy_1 aShare_2) != (v_laws_markBody_mAooonnonnnZn ((v_impl_MovePlaces aB_0 aBy_1 aShare_2).1) 1).1)
                  false
                  true)))
            false)
          false)
        false)
      false)))

set_option maxHeartbeats 1000000 in
theorem t_laws_FnExactMovePlaces (aB_0 : GBody) (aBy_1 : (List GVector)) (aShare_2 : Nat) (hp0 : aB_0.Mesh.Places.length ≤ 9223372036854775807) (hp1 : aB_0.Mesh.Triangles.length ≤ 9223372036854775807) (hp2 : ∀ t ∈ aB_0.Mesh.Triangles, t.length ≤ 9223372036854775807) (hp3 : aB_0.Springs.length ≤ 9223372036854775807) (hp4 : aB_0.Weights.length ≤ 9223372036854775807) (hp5 : aBy_1.length ≤ 9223372036854775807)  : Fn prog 11 [.agg [.sl (aB_0.Mesh.Places.map GVector.cells), .sl (aB_0.Mesh.Triangles.map (cL (cI .i64))), .sl (aB_0.Springs.map GSpring.cells), .f .f32 aB_0.Film, .f .f32 aB_0.Bend, .sl (aB_0.Weights.map (cF .f32)), .f .f32 aB_0.Fall.X, .f .f32 aB_0.Fall.Y, .f .f32 aB_0.Fall.Z], .sl (aBy_1.map GVector.cells), .f .f32 aShare_2] (.b (v_laws_FnExactMovePlaces aB_0 aBy_1 aShare_2)) [] := by
 have z0 := (ok_laws_szBody aB_0 1048576 (by omega) (by omega) (by assumption) (by omega) (by omega) (by omega) (by omega))
 have z1 := (ok_laws_szVectorS aBy_1 (v_laws_szBody aB_0 1048576) (by omega) (by omega) (by omega))
 have p {a C} (s : Scr a C) := sF (t_laws_szBody aB_0 1048576 hp0 hp1 hp2 hp3 hp4) <| s
 cases h0 : (decide ((v_laws_szBody aB_0 1048576) < 0)) with
 | true =>
  have gh0 := of_decide_eq_true h0
  refine fnS E0Ok hMixed (c := bodyOf f11) [] (.b true) [] func11 (p (sB h0 <| sK [] sN)) rfl (by kernel_rfl) (by kernel_rfl) rfl ?_ ?_
  · simp only [v_laws_FnExactMovePlaces, h0, cond_true]
  · rfl
 | false =>
  have gh0 := of_decide_eq_false h0
  have q {a C} (s : Scr a C) := p (sB h0 <| sF (t_laws_szVectorS aBy_1 (v_laws_szBody aB_0 1048576) hp5) <| s)
  clear p
  cases h1 : (decide ((v_laws_szVectorS aBy_1 (v_laws_szBody aB_0 1048576)) < 0)) with
  | true =>
   have gh1 := of_decide_eq_true h1
   refine fnS E0Ok hMixed (c := bodyOf f11) [] (.b true) [] func11 (q (sB h1 <| sK [] sN)) rfl (by kernel_rfl) (by kernel_rfl) rfl ?_ ?_
   · simp only [v_laws_FnExactMovePlaces, h0, h1, cond_true, cond_false]
   · rfl
  | false =>
   have gh1 := of_decide_eq_false h1
   have y0 : aB_0.Mesh.Places.length ≤ 1073741824 := by clear q; exact (by first | assumption | omega | (simp_all <;> omega))
   have y1 : aB_0.Mesh.Triangles.length ≤ 1073741824 := by clear q; exact (by first | assumption | omega | (simp_all <;> omega))
   have y2 : ∀ t ∈ aB_0.Mesh.Triangles, t.length ≤ 1073741824 := by clear q; exact (by first | assumption | (intro t ht; first | (have q := z0.2.2.2.2.2.2 t ht; omega)) | omega | (simp_all <;> omega))
   have y3 : aB_0.Springs.length ≤ 1073741824 := by clear q; exact (by first | assumption | omega | (simp_all <;> omega))
   have y4 : aB_0.Weights.length ≤ 1073741824 := by clear q; exact (by first | assumption | omega | (simp_all <;> omega))
   have y5 : aBy_1.length ≤ 1073741824 := by clear q; exact (by first | assumption | omega | (simp_all <;> omega))
   have l1 := (leP_spec_MovePlaces aB_0 aBy_1 aShare_2)
   have l2 := (leT_spec_MovePlaces aB_0 aBy_1 aShare_2)
   have l3 := (leW_spec_MovePlaces aB_0 aBy_1 aShare_2)
   have l4 := (leS_spec_MovePlaces aB_0 aBy_1 aShare_2)
   have l5 := (leP_impl_MovePlaces aB_0 aBy_1 aShare_2)
   have l6 := (leT_impl_MovePlaces aB_0 aBy_1 aShare_2)
   have l7 := (leW_impl_MovePlaces aB_0 aBy_1 aShare_2)
   have l8 := (leS_impl_MovePlaces aB_0 aBy_1 aShare_2)
   have y6 : ((v_impl_MovePlaces aB_0 aBy_1 aShare_2).1).Mesh.Places.length ≤ 1073741824 := by clear q; exact (by first | assumption | omega | (simp_all <;> omega))
   have y7 : ((v_impl_MovePlaces aB_0 aBy_1 aShare_2).1).Mesh.Triangles.length ≤ 1073741824 := by clear q; exact (by first | assumption | omega | (simp_all <;> omega))
   have y8 : ∀ t ∈ ((v_impl_MovePlaces aB_0 aBy_1 aShare_2).1).Mesh.Triangles, t.length ≤ 1073741824 := by clear q; exact (by first | assumption | (intro t ht; first | (have q := z0.2.2.2.2.2.2 t ht; omega) | (have q := z0.2.2.2.2.2.2 t (mem_impl_MovePlaces aB_0 aBy_1 aShare_2 t ht); omega)) | omega | (simp_all <;> omega))
   have y9 : ((v_impl_MovePlaces aB_0 aBy_1 aShare_2).1).Springs.length ≤ 1073741824 := by clear q; exact (by first | assumption | omega | (simp_all <;> omega))
   have y10 : ((v_impl_MovePlaces aB_0 aBy_1 aShare_2).1).Weights.length ≤ 1073741824 := by clear q; exact (by first | assumption | omega | (simp_all <;> omega))
   have y11 : ((v_spec_MovePlaces aB_0 aBy_1 aShare_2).1).Mesh.Places.length ≤ 1073741824 := by clear q; exact (by first | assumption | omega | (simp_all <;> omega))
   have y12 : ((v_spec_MovePlaces aB_0 aBy_1 aShare_2).1).Mesh.Triangles.length ≤ 1073741824 := by clear q; exact (by first | assumption | omega | (simp_all <;> omega))
   have y13 : ∀ t ∈ ((v_spec_MovePlaces aB_0 aBy_1 aShare_2).1).Mesh.Triangles, t.length ≤ 1073741824 := by clear q; exact (by first | assumption | (intro t ht; first | (have q := z0.2.2.2.2.2.2 t ht; omega) | (have q := z0.2.2.2.2.2.2 t (mem_spec_MovePlaces aB_0 aBy_1 aShare_2 t ht); omega)) | omega | (simp_all <;> omega))
   have y14 : ((v_spec_MovePlaces aB_0 aBy_1 aShare_2).1).Springs.length ≤ 1073741824 := by clear q; exact (by first | assumption | omega | (simp_all <;> omega))
   have y15 : ((v_spec_MovePlaces aB_0 aBy_1 aShare_2).1).Weights.length ≤ 1073741824 := by clear q; exact (by first | assumption | omega | (simp_all <;> omega))
   have p {a C} (s : Scr a C) := q (sB h1 <| sF (i_laws_toBody aB_0 y0 y1 y2 y3 y4) <| sF (i_laws_toVectorS aBy_1 y5) <| sF (Fn.castA (args' := [.agg [.sl (aB_0.Mesh.Places.map GVector.cells), .sl ((aB_0.Mesh.Triangles.map fun l => l.map (cI .i64)).map fun l => [.sl l]), .sl (aB_0.Springs.map GSpring.cells), .f .f32 aB_0.Film, .f .f32 aB_0.Bend, .sl (aB_0.Weights.map (cF .f32)), .f .f32 aB_0.Fall.X, .f .f32 aB_0.Fall.Y, .f .f32 aB_0.Fall.Z], .sl (aBy_1.map GVector.cells), .f .f32 aShare_2]) (t_spec_MovePlaces aB_0 aBy_1 aShare_2 y0 y1 y2 y3 y4 y5) (by simp [cL, Function.comp_def])) <| sF (i_laws_toBody aB_0 y0 y1 y2 y3 y4) <| sF (i_laws_toVectorS aBy_1 y5) <| sF (Fn.castA (args' := [.agg [.sl (aB_0.Mesh.Places.map GVector.cells), .sl ((aB_0.Mesh.Triangles.map fun l => l.map (cI .i64)).map fun l => [.sl l]), .sl (aB_0.Springs.map GSpring.cells), .f .f32 aB_0.Film, .f .f32 aB_0.Bend, .sl (aB_0.Weights.map (cF .f32)), .f .f32 aB_0.Fall.X, .f .f32 aB_0.Fall.Y, .f .f32 aB_0.Fall.Z], .sl (aBy_1.map GVector.cells), .f .f32 aShare_2]) (t_impl_MovePlaces aB_0 aBy_1 aShare_2 y0 y1 y2 y3 y4 y5) (by simp [cL, Function.comp_def])) <| sF (Fn.castA (args' := [.agg [.sl (((v_impl_MovePlaces aB_0 aBy_1 aShare_2).1.Mesh.Places).map GVector.cells), .sl ((((v_impl_MovePlaces aB_0 aBy_1 aShare_2).1.Mesh.Triangles).map fun l => l.map (cI .i64)).map fun l => [.sl l]), .sl (((v_impl_MovePlaces aB_0 aBy_1 aShare_2).1.Springs).map GSpring.cells), .f .f32 ((v_impl_MovePlaces aB_0 aBy_1 aShare_2).1.Film), .f .f32 ((v_impl_MovePlaces aB_0 aBy_1 aShare_2).1.Bend), .sl (((v_impl_MovePlaces aB_0 aBy_1 aShare_2).1.Weights).map (cF .f32)), .f .f32 ((v_impl_MovePlaces aB_0 aBy_1 aShare_2).1.Fall.X), .f .f32 ((v_impl_MovePlaces aB_0 aBy_1 aShare_2).1.Fall.Y), .f .f32 ((v_impl_MovePlaces aB_0 aBy_1 aShare_2).1.Fall.Z)], .agg [.sl (((v_spec_MovePlaces aB_0 aBy_1 aShare_2).1.Mesh.Places).map GVector.cells), .sl ((((v_spec_MovePlaces aB_0 aBy_1 aShare_2).1.Mesh.Triangles).map fun l => l.map (cI .i64)).map fun l => [.sl l]), .sl (((v_spec_MovePlaces aB_0 aBy_1 aShare_2).1.Springs).map GSpring.cells), .f .f32 ((v_spec_MovePlaces aB_0 aBy_1 aShare_2).1.Film), .f .f32 ((v_spec_MovePlaces aB_0 aBy_1 aShare_2).1.Bend), .sl (((v_spec_MovePlaces aB_0 aBy_1 aShare_2).1.Weights).map (cF .f32)), .f .f32 ((v_spec_MovePlaces aB_0 aBy_1 aShare_2).1.Fall.X), .f .f32 ((v_spec_MovePlaces aB_0 aBy_1 aShare_2).1.Fall.Y), .f .f32 ((v_spec_MovePlaces aB_0 aBy_1 aShare_2).1.Fall.Z)]]) (t_laws_eqBody ((v_impl_MovePlaces aB_0 aBy_1 aShare_2).1) ((v_spec_MovePlaces aB_0 aBy_1 aShare_2).1) y6 y7 y8 y9 y10 y11 y12 y13 y14 y15) (by simp [cL, Function.comp_def])) <| s)
   clear q
   cases h2 : (v_laws_eqBody ((v_impl_MovePlaces aB_0 aBy_1 aShare_2).1) ((v_spec_MovePlaces aB_0 aBy_1 aShare_2).1)) with
   | true =>
    have q {a C} (s : Scr a C) := p (sB' h2 <| sB' h2 <| sB' h2 <| sB' h2 <| s)
    clear p
    cases h3 : ((v_impl_MovePlaces aB_0 aBy_1 aShare_2).2 == (v_spec_MovePlaces aB_0 aBy_1 aShare_2).2) with
    | true =>
     have gh3 := eq_of_beq h3
     have p {a C} (s : Scr a C) := q (sB' h3 <| sK [3, 3] <| sF (i_laws_toBody aB_0 y0 y1 y2 y3 y4) <| sF (Fn.castA (args' := [.agg [.sl (aB_0.Mesh.Places.map GVector.cells), .sl ((aB_0.Mesh.Triangles.map fun l => l.map (cI .i64)).map fun l => [.sl l]), .sl (aB_0.Springs.map GSpring.cells), .f .f32 aB_0.Film, .f .f32 aB_0.Bend, .sl (aB_0.Weights.map (cF .f32)), .f .f32 aB_0.Fall.X, .f .f32 aB_0.Fall.Y, .f .f32 aB_0.Fall.Z], .agg [.sl (aB_0.Mesh.Places.map GVector.cells), .sl ((aB_0.Mesh.Triangles.map fun l => l.map (cI .i64)).map fun l => [.sl l]), .sl (aB_0.Springs.map GSpring.cells), .f .f32 aB_0.Film, .f .f32 aB_0.Bend, .sl (aB_0.Weights.map (cF .f32)), .f .f32 aB_0.Fall.X, .f .f32 aB_0.Fall.Y, .f .f32 aB_0.Fall.Z]]) (t_laws_eqBody aB_0 aB_0 y0 y1 y2 y3 y4 y0 y1 y2 y3 y4) (by simp [cL, Function.comp_def])) <| s)
     clear q
     cases h4 : (v_laws_eqBody aB_0 aB_0) with
     | true =>
      have q {a C} (s : Scr a C) := p (sB' h4 <| sF (i_laws_toVectorS aBy_1 y5) <| sF (t_laws_eqVectorS aBy_1 aBy_1 y5 y5) <| s)
      clear p
      cases h5 : (v_laws_eqVectorS aBy_1 aBy_1) with
      | true =>
       have p {a C} (s : Scr a C) := q (sB' h5 <| sS (CallSt.frame (t_laws_markBody_mAooonnonnnZn aB_0 1 y0 y1 y2 y3 y4) [11, 12, 13, 14] (R := [.box 37 [.sl (aB_0.Mesh.Places.map GVector.cells), .sl (aB_0.Mesh.Triangles.map (cL (cI .i64))), .sl (aB_0.Springs.map GSpring.cells), .f .f32 aB_0.Film, .f .f32 aB_0.Bend, .sl (aB_0.Weights.map (cF .f32)), .f .f32 aB_0.Fall.X, .f .f32 aB_0.Fall.Y, .f .f32 aB_0.Fall.Z], .vec 44 3 (aB_0.Mesh.Places.map GVector.cells) false, .nest 52 (aB_0.Mesh.Triangles.map fun l => l.map (cI .i64)) false, .vec 105 4 (aB_0.Springs.map GSpring.cells) false, .vec 22 1 (aB_0.Weights.map (cF .f32)) false, .vec 44 3 (aBy_1.map GVector.cells) false, .vec 44 3 (((v_spec_MovePlaces aB_0 aBy_1 aShare_2).1.Mesh.Places).map GVector.cells) false, .nest 52 (((v_spec_MovePlaces aB_0 aBy_1 aShare_2).1.Mesh.Triangles).map fun l => l.map (cI .i64)) false, .vec 105 4 (((v_spec_MovePlaces aB_0 aBy_1 aShare_2).1.Springs).map GSpring.cells) false, .vec 22 1 (((v_spec_MovePlaces aB_0 aBy_1 aShare_2).1.Weights).map (cF .f32)) false, .box 46 [.own 6, .own 7, .own 8, .f .f32 ((v_spec_MovePlaces aB_0 aBy_1 aShare_2).1.Film), .f .f32 ((v_spec_MovePlaces aB_0 aBy_1 aShare_2).1.Bend), .own 9, .f .f32 ((v_spec_MovePlaces aB_0 aBy_1 aShare_2).1.Fall.X), .f .f32 ((v_spec_MovePlaces aB_0 aBy_1 aShare_2).1.Fall.Y), .f .f32 ((v_spec_MovePlaces aB_0 aBy_1 aShare_2).1.Fall.Z)], .vec 44 3 (aB_0.Mesh.Places.map GVector.cells) false, .nest 52 (aB_0.Mesh.Triangles.map fun l => l.map (cI .i64)) false, .vec 105 4 (aB_0.Springs.map GSpring.cells) false, .vec 22 1 (aB_0.Weights.map (cF .f32)) false, .box 46 [.own 11, .own 12, .own 13, .f .f32 aB_0.Film, .f .f32 aB_0.Bend, .own 14, .f .f32 aB_0.Fall.X, .f .f32 aB_0.Fall.Y, .f .f32 aB_0.Fall.Z], .vec 44 3 (aBy_1.map GVector.cells) false, .vec 44 3 (((v_impl_MovePlaces aB_0 aBy_1 aShare_2).1.Mesh.Places).map GVector.cells) false, .nest 52 (((v_impl_MovePlaces aB_0 aBy_1 aShare_2).1.Mesh.Triangles).map fun l => l.map (cI .i64)) false, .vec 105 4 (((v_impl_MovePlaces aB_0 aBy_1 aShare_2).1.Springs).map GSpring.cells) false, .vec 22 1 (((v_impl_MovePlaces aB_0 aBy_1 aShare_2).1.Weights).map (cF .f32)) false, .box 46 [.own 17, .own 18, .own 19, .f .f32 ((v_impl_MovePlaces aB_0 aBy_1 aShare_2).1.Film), .f .f32 ((v_impl_MovePlaces aB_0 aBy_1 aShare_2).1.Bend), .own 20, .f .f32 ((v_impl_MovePlaces aB_0 aBy_1 aShare_2).1.Fall.X), .f .f32 ((v_impl_MovePlaces aB_0 aBy_1 aShare_2).1.Fall.Y), .f .f32 ((v_impl_MovePlaces aB_0 aBy_1 aShare_2).1.Fall.Z)], .vec 44 3 (aB_0.Mesh.Places.map GVector.cells) false, .nest 52 (aB_0.Mesh.Triangles.map fun l => l.map (cI .i64)) false, .vec 105 4 (aB_0.Springs.map GSpring.cells) false, .vec 22 1 (aB_0.Weights.map (cF .f32)) false, .vec 44 3 (aBy_1.map GVector.cells) false]) (args' := [.agg [.own 11, .own 12, .own 13, .f .f32 aB_0.Film, .f .f32 aB_0.Bend, .own 14, .f .f32 aB_0.Fall.X, .f .f32 aB_0.Fall.Y, .f .f32 aB_0.Fall.Z], .i .i64 1]) rfl rfl rfl rfl rfl rfl) <| sS (CallSt.frame (t_laws_markVectorS_mon aBy_1 ((v_laws_markBody_mAooonnonnnZn aB_0 1).1) y5) [16] (R := [.box 37 [.sl (aB_0.Mesh.Places.map GVector.cells), .sl (aB_0.Mesh.Triangles.map (cL (cI .i64))), .sl (aB_0.Springs.map GSpring.cells), .f .f32 aB_0.Film, .f .f32 aB_0.Bend, .sl (aB_0.Weights.map (cF .f32)), .f .f32 aB_0.Fall.X, .f .f32 aB_0.Fall.Y, .f .f32 aB_0.Fall.Z], .vec 44 3 (aB_0.Mesh.Places.map GVector.cells) false, .nest 52 (aB_0.Mesh.Triangles.map fun l => l.map (cI .i64)) false, .vec 105 4 (aB_0.Springs.map GSpring.cells) false, .vec 22 1 (aB_0.Weights.map (cF .f32)) false, .vec 44 3 (aBy_1.map GVector.cells) false, .vec 44 3 (((v_spec_MovePlaces aB_0 aBy_1 aShare_2).1.Mesh.Places).map GVector.cells) false, .nest 52 (((v_spec_MovePlaces aB_0 aBy_1 aShare_2).1.Mesh.Triangles).map fun l => l.map (cI .i64)) false, .vec 105 4 (((v_spec_MovePlaces aB_0 aBy_1 aShare_2).1.Springs).map GSpring.cells) false, .vec 22 1 (((v_spec_MovePlaces aB_0 aBy_1 aShare_2).1.Weights).map (cF .f32)) false, .box 46 [.own 6, .own 7, .own 8, .f .f32 ((v_spec_MovePlaces aB_0 aBy_1 aShare_2).1.Film), .f .f32 ((v_spec_MovePlaces aB_0 aBy_1 aShare_2).1.Bend), .own 9, .f .f32 ((v_spec_MovePlaces aB_0 aBy_1 aShare_2).1.Fall.X), .f .f32 ((v_spec_MovePlaces aB_0 aBy_1 aShare_2).1.Fall.Y), .f .f32 ((v_spec_MovePlaces aB_0 aBy_1 aShare_2).1.Fall.Z)], .vec 44 3 (((v_laws_markBody_mAooonnonnnZn aB_0 1).2.1).map GVector.cells) false, .nest 52 (((v_laws_markBody_mAooonnonnnZn aB_0 1).2.2.1).map fun l => l.map (cI .i64)) false, .vec 105 4 (((v_laws_markBody_mAooonnonnnZn aB_0 1).2.2.2.1).map GSpring.cells) false, .vec 22 1 (((v_laws_markBody_mAooonnonnnZn aB_0 1).2.2.2.2).map (cF .f32)) false, .box 46 [.own 11, .own 12, .own 13, .f .f32 aB_0.Film, .f .f32 aB_0.Bend, .own 14, .f .f32 aB_0.Fall.X, .f .f32 aB_0.Fall.Y, .f .f32 aB_0.Fall.Z], .vec 44 3 (aBy_1.map GVector.cells) false, .vec 44 3 (((v_impl_MovePlaces aB_0 aBy_1 aShare_2).1.Mesh.Places).map GVector.cells) false, .nest 52 (((v_impl_MovePlaces aB_0 aBy_1 aShare_2).1.Mesh.Triangles).map fun l => l.map (cI .i64)) false, .vec 105 4 (((v_impl_MovePlaces aB_0 aBy_1 aShare_2).1.Springs).map GSpring.cells) false, .vec 22 1 (((v_impl_MovePlaces aB_0 aBy_1 aShare_2).1.Weights).map (cF .f32)) false, .box 46 [.own 17, .own 18, .own 19, .f .f32 ((v_impl_MovePlaces aB_0 aBy_1 aShare_2).1.Film), .f .f32 ((v_impl_MovePlaces aB_0 aBy_1 aShare_2).1.Bend), .own 20, .f .f32 ((v_impl_MovePlaces aB_0 aBy_1 aShare_2).1.Fall.X), .f .f32 ((v_impl_MovePlaces aB_0 aBy_1 aShare_2).1.Fall.Y), .f .f32 ((v_impl_MovePlaces aB_0 aBy_1 aShare_2).1.Fall.Z)], .vec 44 3 (aB_0.Mesh.Places.map GVector.cells) false, .nest 52 (aB_0.Mesh.Triangles.map fun l => l.map (cI .i64)) false, .vec 105 4 (aB_0.Springs.map GSpring.cells) false, .vec 22 1 (aB_0.Weights.map (cF .f32)) false, .vec 44 3 (aBy_1.map GVector.cells) false]) (args' := [.own 16, .i .i64 ((v_laws_markBody_mAooonnonnnZn aB_0 1).1)]) rfl rfl rfl rfl rfl rfl) <| s)
       clear q
       cases h6 : (decide ((v_laws_markVectorS_mon aBy_1 ((v_laws_markBody_mAooonnonnnZn aB_0 1).1)).1 < 0)) with
       | true =>
        have gh6 := of_decide_eq_true h6
        refine fnS E0Ok hMixed (c := bodyOf f11) [] (.b false) [] func11 (p (sB h6 <| sB h6 <| sB h6 <| sB h6 <| sB h6 <| sB (show true = true from rfl) <| sB (show true = true from rfl) <| sB (show true = true from rfl) <| sB (show true = true from rfl) <| sB (show true = true from rfl) <| sK [] sN)) rfl (by kernel_rfl) (by kernel_rfl) rfl ?_ ?_
        · simp only [v_laws_FnExactMovePlaces, h0, h1, h2, h3, h4, h5, h6, cond_true, cond_false]
        · rfl
       | false =>
        have gh6 := of_decide_eq_false h6
        have y16 : (⟨(⟨(v_laws_markBody_mAooonnonnnZn ((v_impl_MovePlaces aB_0 aBy_1 aShare_2).1) 1).2.1, (v_laws_markBody_mAooonnonnnZn ((v_impl_MovePlaces aB_0 aBy_1 aShare_2).1) 1).2.2.1⟩ : GMesh), (v_laws_markBody_mAooonnonnnZn ((v_impl_MovePlaces aB_0 aBy_1 aShare_2).1) 1).2.2.2.1, (v_impl_MovePlaces aB_0 aBy_1 aShare_2).1.Film, (v_impl_MovePlaces aB_0 aBy_1 aShare_2).1.Bend, (v_laws_markBody_mAooonnonnnZn ((v_impl_MovePlaces aB_0 aBy_1 aShare_2).1) 1).2.2.2.2, (v_impl_MovePlaces aB_0 aBy_1 aShare_2).1.Fall⟩ : GBody).Mesh.Places.length ≤ 1073741824 := by clear p; exact (by first | assumption | omega | (simp_all <;> omega))
        have y17 : (⟨(⟨(v_laws_markBody_mAooonnonnnZn ((v_impl_MovePlaces aB_0 aBy_1 aShare_2).1) 1).2.1, (v_laws_markBody_mAooonnonnnZn ((v_impl_MovePlaces aB_0 aBy_1 aShare_2).1) 1).2.2.1⟩ : GMesh), (v_laws_markBody_mAooonnonnnZn ((v_impl_MovePlaces aB_0 aBy_1 aShare_2).1) 1).2.2.2.1, (v_impl_MovePlaces aB_0 aBy_1 aShare_2).1.Film, (v_impl_MovePlaces aB_0 aBy_1 aShare_2).1.Bend, (v_laws_markBody_mAooonnonnnZn ((v_impl_MovePlaces aB_0 aBy_1 aShare_2).1) 1).2.2.2.2, (v_impl_MovePlaces aB_0 aBy_1 aShare_2).1.Fall⟩ : GBody).Mesh.Triangles.length ≤ 1073741824 := by clear p; exact (by first | assumption | omega | (simp_all <;> omega))
        have y18 : ∀ t ∈ (⟨(⟨(v_laws_markBody_mAooonnonnnZn ((v_impl_MovePlaces aB_0 aBy_1 aShare_2).1) 1).2.1, (v_laws_markBody_mAooonnonnnZn ((v_impl_MovePlaces aB_0 aBy_1 aShare_2).1) 1).2.2.1⟩ : GMesh), (v_laws_markBody_mAooonnonnnZn ((v_impl_MovePlaces aB_0 aBy_1 aShare_2).1) 1).2.2.2.1, (v_impl_MovePlaces aB_0 aBy_1 aShare_2).1.Film, (v_impl_MovePlaces aB_0 aBy_1 aShare_2).1.Bend, (v_laws_markBody_mAooonnonnnZn ((v_impl_MovePlaces aB_0 aBy_1 aShare_2).1) 1).2.2.2.2, (v_impl_MovePlaces aB_0 aBy_1 aShare_2).1.Fall⟩ : GBody).Mesh.Triangles, t.length ≤ 1073741824 := by clear p; exact (by first | assumption | exact mlen_Body_mAooonnonnnZn _ _ _ (by assumption))
        have y19 : (⟨(⟨(v_laws_markBody_mAooonnonnnZn ((v_impl_MovePlaces aB_0 aBy_1 aShare_2).1) 1).2.1, (v_laws_markBody_mAooonnonnnZn ((v_impl_MovePlaces aB_0 aBy_1 aShare_2).1) 1).2.2.1⟩ : GMesh), (v_laws_markBody_mAooonnonnnZn ((v_impl_MovePlaces aB_0 aBy_1 aShare_2).1) 1).2.2.2.1, (v_impl_MovePlaces aB_0 aBy_1 aShare_2).1.Film, (v_impl_MovePlaces aB_0 aBy_1 aShare_2).1.Bend, (v_laws_markBody_mAooonnonnnZn ((v_impl_MovePlaces aB_0 aBy_1 aShare_2).1) 1).2.2.2.2, (v_impl_MovePlaces aB_0 aBy_1 aShare_2).1.Fall⟩ : GBody).Springs.length ≤ 1073741824 := by clear p; exact (by first | assumption | omega | (simp_all <;> omega))
        have y20 : (⟨(⟨(v_laws_markBody_mAooonnonnnZn ((v_impl_MovePlaces aB_0 aBy_1 aShare_2).1) 1).2.1, (v_laws_markBody_mAooonnonnnZn ((v_impl_MovePlaces aB_0 aBy_1 aShare_2).1) 1).2.2.1⟩ : GMesh), (v_laws_markBody_mAooonnonnnZn ((v_impl_MovePlaces aB_0 aBy_1 aShare_2).1) 1).2.2.2.1, (v_impl_MovePlaces aB_0 aBy_1 aShare_2).1.Film, (v_impl_MovePlaces aB_0 aBy_1 aShare_2).1.Bend, (v_laws_markBody_mAooonnonnnZn ((v_impl_MovePlaces aB_0 aBy_1 aShare_2).1) 1).2.2.2.2, (v_impl_MovePlaces aB_0 aBy_1 aShare_2).1.Fall⟩ : GBody).Weights.length ≤ 1073741824 := by clear p; exact (by first | assumption | omega | (simp_all <;> omega))
        have q {a C} (s : Scr a C) := p (sB h6 <| sB h6 <| sB h6 <| sF (Fn.castA (args' := [.agg [.sl (((v_impl_MovePlaces aB_0 aBy_1 aShare_2).1.Mesh.Places).map GVector.cells), .sl ((((v_impl_MovePlaces aB_0 aBy_1 aShare_2).1.Mesh.Triangles).map fun l => l.map (cI .i64)).map fun l => [.sl l]), .sl (((v_impl_MovePlaces aB_0 aBy_1 aShare_2).1.Springs).map GSpring.cells), .f .f32 ((v_impl_MovePlaces aB_0 aBy_1 aShare_2).1.Film), .f .f32 ((v_impl_MovePlaces aB_0 aBy_1 aShare_2).1.Bend), .sl (((v_impl_MovePlaces aB_0 aBy_1 aShare_2).1.Weights).map (cF .f32)), .f .f32 ((v_impl_MovePlaces aB_0 aBy_1 aShare_2).1.Fall.X), .f .f32 ((v_impl_MovePlaces aB_0 aBy_1 aShare_2).1.Fall.Y), .f .f32 ((v_impl_MovePlaces aB_0 aBy_1 aShare_2).1.Fall.Z)], .agg [.sl (((v_spec_MovePlaces aB_0 aBy_1 aShare_2).1.Mesh.Places).map GVector.cells), .sl ((((v_spec_MovePlaces aB_0 aBy_1 aShare_2).1.Mesh.Triangles).map fun l => l.map (cI .i64)).map fun l => [.sl l]), .sl (((v_spec_MovePlaces aB_0 aBy_1 aShare_2).1.Springs).map GSpring.cells), .f .f32 ((v_spec_MovePlaces aB_0 aBy_1 aShare_2).1.Film), .f .f32 ((v_spec_MovePlaces aB_0 aBy_1 aShare_2).1.Bend), .sl (((v_spec_MovePlaces aB_0 aBy_1 aShare_2).1.Weights).map (cF .f32)), .f .f32 ((v_spec_MovePlaces aB_0 aBy_1 aShare_2).1.Fall.X), .f .f32 ((v_spec_MovePlaces aB_0 aBy_1 aShare_2).1.Fall.Y), .f .f32 ((v_spec_MovePlaces aB_0 aBy_1 aShare_2).1.Fall.Z)]]) (t_laws_eqBody ((v_impl_MovePlaces aB_0 aBy_1 aShare_2).1) ((v_spec_MovePlaces aB_0 aBy_1 aShare_2).1) y6 y7 y8 y9 y10 y11 y12 y13 y14 y15) (by simp [cL, Function.comp_def])) <| sB h6 <| sB h6 <| sB' h2 <| sB' h2 <| sB' h2 <| sB' h2 <| sB' h3 <| sS (CallSt.frame (t_laws_markBody_mAooonnonnnZn ((v_impl_MovePlaces aB_0 aBy_1 aShare_2).1) 1 y6 y7 y8 y9 y10) [17, 18, 19, 20] (R := [.box 37 [.sl (aB_0.Mesh.Places.map GVector.cells), .sl (aB_0.Mesh.Triangles.map (cL (cI .i64))), .sl (aB_0.Springs.map GSpring.cells), .f .f32 aB_0.Film, .f .f32 aB_0.Bend, .sl (aB_0.Weights.map (cF .f32)), .f .f32 aB_0.Fall.X, .f .f32 aB_0.Fall.Y, .f .f32 aB_0.Fall.Z], .vec 44 3 (aB_0.Mesh.Places.map GVector.cells) false, .nest 52 (aB_0.Mesh.Triangles.map fun l => l.map (cI .i64)) false, .vec 105 4 (aB_0.Springs.map GSpring.cells) false, .vec 22 1 (aB_0.Weights.map (cF .f32)) false, .vec 44 3 (aBy_1.map GVector.cells) false, .vec 44 3 (((v_spec_MovePlaces aB_0 aBy_1 aShare_2).1.Mesh.Places).map GVector.cells) false, .nest 52 (((v_spec_MovePlaces aB_0 aBy_1 aShare_2).1.Mesh.Triangles).map fun l => l.map (cI .i64)) false, .vec 105 4 (((v_spec_MovePlaces aB_0 aBy_1 aShare_2).1.Springs).map GSpring.cells) false, .vec 22 1 (((v_spec_MovePlaces aB_0 aBy_1 aShare_2).1.Weights).map (cF .f32)) false, .box 46 [.own 6, .own 7, .own 8, .f .f32 ((v_spec_MovePlaces aB_0 aBy_1 aShare_2).1.Film), .f .f32 ((v_spec_MovePlaces aB_0 aBy_1 aShare_2).1.Bend), .own 9, .f .f32 ((v_spec_MovePlaces aB_0 aBy_1 aShare_2).1.Fall.X), .f .f32 ((v_spec_MovePlaces aB_0 aBy_1 aShare_2).1.Fall.Y), .f .f32 ((v_spec_MovePlaces aB_0 aBy_1 aShare_2).1.Fall.Z)], .vec 44 3 (((v_laws_markBody_mAooonnonnnZn aB_0 1).2.1).map GVector.cells) false, .nest 52 (((v_laws_markBody_mAooonnonnnZn aB_0 1).2.2.1).map fun l => l.map (cI .i64)) false, .vec 105 4 (((v_laws_markBody_mAooonnonnnZn aB_0 1).2.2.2.1).map GSpring.cells) false, .vec 22 1 (((v_laws_markBody_mAooonnonnnZn aB_0 1).2.2.2.2).map (cF .f32)) false, .box 46 [.own 11, .own 12, .own 13, .f .f32 aB_0.Film, .f .f32 aB_0.Bend, .own 14, .f .f32 aB_0.Fall.X, .f .f32 aB_0.Fall.Y, .f .f32 aB_0.Fall.Z], .vec 44 3 (((v_laws_markVectorS_mon aBy_1 ((v_laws_markBody_mAooonnonnnZn aB_0 1).1)).2).map GVector.cells) false, .vec 44 3 (((v_impl_MovePlaces aB_0 aBy_1 aShare_2).1.Mesh.Places).map GVector.cells) false, .nest 52 (((v_impl_MovePlaces aB_0 aBy_1 aShare_2).1.Mesh.Triangles).map fun l => l.map (cI .i64)) false, .vec 105 4 (((v_impl_MovePlaces aB_0 aBy_1 aShare_2).1.Springs).map GSpring.cells) false, .vec 22 1 (((v_impl_MovePlaces aB_0 aBy_1 aShare_2).1.Weights).map (cF .f32)) false, .box 46 [.own 17, .own 18, .own 19, .f .f32 ((v_impl_MovePlaces aB_0 aBy_1 aShare_2).1.Film), .f .f32 ((v_impl_MovePlaces aB_0 aBy_1 aShare_2).1.Bend), .own 20, .f .f32 ((v_impl_MovePlaces aB_0 aBy_1 aShare_2).1.Fall.X), .f .f32 ((v_impl_MovePlaces aB_0 aBy_1 aShare_2).1.Fall.Y), .f .f32 ((v_impl_MovePlaces aB_0 aBy_1 aShare_2).1.Fall.Z)], .vec 44 3 (aB_0.Mesh.Places.map GVector.cells) false, .nest 52 (aB_0.Mesh.Triangles.map fun l => l.map (cI .i64)) false, .vec 105 4 (aB_0.Springs.map GSpring.cells) false, .vec 22 1 (aB_0.Weights.map (cF .f32)) false, .vec 44 3 (aBy_1.map GVector.cells) false]) (args' := [.agg [.own 17, .own 18, .own 19, .f .f32 ((v_impl_MovePlaces aB_0 aBy_1 aShare_2).1.Film), .f .f32 ((v_impl_MovePlaces aB_0 aBy_1 aShare_2).1.Bend), .own 20, .f .f32 ((v_impl_MovePlaces aB_0 aBy_1 aShare_2).1.Fall.X), .f .f32 ((v_impl_MovePlaces aB_0 aBy_1 aShare_2).1.Fall.Y), .f .f32 ((v_impl_MovePlaces aB_0 aBy_1 aShare_2).1.Fall.Z)], .i .i64 1]) rfl rfl rfl rfl rfl rfl) <| sF (Fn.castA (args' := [.agg [.sl (((v_laws_markBody_mAooonnonnnZn ((v_impl_MovePlaces aB_0 aBy_1 aShare_2).1) 1).2.1).map GVector.cells), .sl ((((v_laws_markBody_mAooonnonnnZn ((v_impl_MovePlaces aB_0 aBy_1 aShare_2).1) 1).2.2.1).map fun l => l.map (cI .i64)).map fun l => [.sl l]), .sl (((v_laws_markBody_mAooonnonnnZn ((v_impl_MovePlaces aB_0 aBy_1 aShare_2).1) 1).2.2.2.1).map GSpring.cells), .f .f32 ((v_impl_MovePlaces aB_0 aBy_1 aShare_2).1.Film), .f .f32 ((v_impl_MovePlaces aB_0 aBy_1 aShare_2).1.Bend), .sl (((v_laws_markBody_mAooonnonnnZn ((v_impl_MovePlaces aB_0 aBy_1 aShare_2).1) 1).2.2.2.2).map (cF .f32)), .f .f32 ((v_impl_MovePlaces aB_0 aBy_1 aShare_2).1.Fall.X), .f .f32 ((v_impl_MovePlaces aB_0 aBy_1 aShare_2).1.Fall.Y), .f .f32 ((v_impl_MovePlaces aB_0 aBy_1 aShare_2).1.Fall.Z)], .i .i64 1]) (t_laws_heldBody (⟨(⟨(v_laws_markBody_mAooonnonnnZn ((v_impl_MovePlaces aB_0 aBy_1 aShare_2).1) 1).2.1, (v_laws_markBody_mAooonnonnnZn ((v_impl_MovePlaces aB_0 aBy_1 aShare_2).1) 1).2.2.1⟩ : GMesh), (v_laws_markBody_mAooonnonnnZn ((v_impl_MovePlaces aB_0 aBy_1 aShare_2).1) 1).2.2.2.1, (v_impl_MovePlaces aB_0 aBy_1 aShare_2).1.Film, (v_impl_MovePlaces aB_0 aBy_1 aShare_2).1.Bend, (v_laws_markBody_mAooonnonnnZn ((v_impl_MovePlaces aB_0 aBy_1 aShare_2).1) 1).2.2.2.2, (v_impl_MovePlaces aB_0 aBy_1 aShare_2).1.Fall⟩ : GBody) 1 y16 y17 y18 y19 y20) (by simp [cL, Function.comp_def])) <| s)
        clear p
        cases h7 : (decide ((nd_laws_FnExactMovePlaces_0 aB_0 aBy_1 aShare_2) < 0)) with
        | true =>
         have gh7 := of_decide_eq_true h7
         refine fnS E0Ok hMixed (c := bodyOf f11) [] (.b false) [] func11 (q (sB h7 <| sK [] sN)) rfl (by kernel_rfl) (by kernel_rfl) rfl ?_ ?_
         · simp only [v_laws_FnExactMovePlaces, h0, h1, h2, h3, h4, h5, h6, h7, cond_true, cond_false]
         · rfl
        | false =>
         have gh7 := of_decide_eq_false h7
         have p {a C} (s : Scr a C) := q (sB h7 <| s)
         clear q
         cases h8 : ((nd_laws_FnExactMovePlaces_0 aB_0 aBy_1 aShare_2) != (v_laws_markBody_mAooonnonnnZn ((v_impl_MovePlaces aB_0 aBy_1 aShare_2).1) 1).1) with
         | true =>
          have gh8 := bne_iff_ne.1 h8
          refine fnS E0Ok hMixed (c := bodyOf f11) [] (.b false) [] func11 (p (sB h8 <| sK [] sN)) rfl (by kernel_rfl) (by kernel_rfl) rfl ?_ ?_
          · simp only [v_laws_FnExactMovePlaces, h0, h1, h2, h3, h4, h5, h6, h7, h8, cond_true, cond_false]
          · rfl
         | false =>
          have gh8 := bne_eq_false_iff_eq.1 h8
          refine fnS E0Ok hMixed (c := bodyOf f11) [] (.b true) [] func11 (p (sB h8 <| sF (i_laws_toBody aB_0 y0 y1 y2 y3 y4) <| sF (i_laws_toVectorS aBy_1 y5) <| sF (Fn.castA (args' := [.agg [.sl (aB_0.Mesh.Places.map GVector.cells), .sl ((aB_0.Mesh.Triangles.map fun l => l.map (cI .i64)).map fun l => [.sl l]), .sl (aB_0.Springs.map GSpring.cells), .f .f32 aB_0.Film, .f .f32 aB_0.Bend, .sl (aB_0.Weights.map (cF .f32)), .f .f32 aB_0.Fall.X, .f .f32 aB_0.Fall.Y, .f .f32 aB_0.Fall.Z], .sl (aBy_1.map GVector.cells), .f .f32 aShare_2]) (t_impl_MovePlaces aB_0 aBy_1 aShare_2 y0 y1 y2 y3 y4 y5) (by simp [cL, Function.comp_def])) <| sF (Fn.castA (args' := [.agg [.sl (((v_impl_MovePlaces aB_0 aBy_1 aShare_2).1.Mesh.Places).map GVector.cells), .sl ((((v_impl_MovePlaces aB_0 aBy_1 aShare_2).1.Mesh.Triangles).map fun l => l.map (cI .i64)).map fun l => [.sl l]), .sl (((v_impl_MovePlaces aB_0 aBy_1 aShare_2).1.Springs).map GSpring.cells), .f .f32 ((v_impl_MovePlaces aB_0 aBy_1 aShare_2).1.Film), .f .f32 ((v_impl_MovePlaces aB_0 aBy_1 aShare_2).1.Bend), .sl (((v_impl_MovePlaces aB_0 aBy_1 aShare_2).1.Weights).map (cF .f32)), .f .f32 ((v_impl_MovePlaces aB_0 aBy_1 aShare_2).1.Fall.X), .f .f32 ((v_impl_MovePlaces aB_0 aBy_1 aShare_2).1.Fall.Y), .f .f32 ((v_impl_MovePlaces aB_0 aBy_1 aShare_2).1.Fall.Z)], .agg [.sl (((v_spec_MovePlaces aB_0 aBy_1 aShare_2).1.Mesh.Places).map GVector.cells), .sl ((((v_spec_MovePlaces aB_0 aBy_1 aShare_2).1.Mesh.Triangles).map fun l => l.map (cI .i64)).map fun l => [.sl l]), .sl (((v_spec_MovePlaces aB_0 aBy_1 aShare_2).1.Springs).map GSpring.cells), .f .f32 ((v_spec_MovePlaces aB_0 aBy_1 aShare_2).1.Film), .f .f32 ((v_spec_MovePlaces aB_0 aBy_1 aShare_2).1.Bend), .sl (((v_spec_MovePlaces aB_0 aBy_1 aShare_2).1.Weights).map (cF .f32)), .f .f32 ((v_spec_MovePlaces aB_0 aBy_1 aShare_2).1.Fall.X), .f .f32 ((v_spec_MovePlaces aB_0 aBy_1 aShare_2).1.Fall.Y), .f .f32 ((v_spec_MovePlaces aB_0 aBy_1 aShare_2).1.Fall.Z)]]) (t_laws_eqBody ((v_impl_MovePlaces aB_0 aBy_1 aShare_2).1) ((v_spec_MovePlaces aB_0 aBy_1 aShare_2).1) y6 y7 y8 y9 y10 y11 y12 y13 y14 y15) (by simp [cL, Function.comp_def])) <| sB' h2 <| sB' h2 <| sB' h2 <| sB' h2 <| sB' h3 <| sF (Fn.castA (args' := [.agg [.sl (((v_laws_markBody_mAooonnonnnZn ((v_impl_MovePlaces aB_0 aBy_1 aShare_2).1) 1).2.1).map GVector.cells), .sl ((((v_laws_markBody_mAooonnonnnZn ((v_impl_MovePlaces aB_0 aBy_1 aShare_2).1) 1).2.2.1).map fun l => l.map (cI .i64)).map fun l => [.sl l]), .sl (((v_laws_markBody_mAooonnonnnZn ((v_impl_MovePlaces aB_0 aBy_1 aShare_2).1) 1).2.2.2.1).map GSpring.cells), .f .f32 ((v_impl_MovePlaces aB_0 aBy_1 aShare_2).1.Film), .f .f32 ((v_impl_MovePlaces aB_0 aBy_1 aShare_2).1.Bend), .sl (((v_laws_markBody_mAooonnonnnZn ((v_impl_MovePlaces aB_0 aBy_1 aShare_2).1) 1).2.2.2.2).map (cF .f32)), .f .f32 ((v_impl_MovePlaces aB_0 aBy_1 aShare_2).1.Fall.X), .f .f32 ((v_impl_MovePlaces aB_0 aBy_1 aShare_2).1.Fall.Y), .f .f32 ((v_impl_MovePlaces aB_0 aBy_1 aShare_2).1.Fall.Z)], .i .i64 1]) (t_laws_heldBody (⟨(⟨(v_laws_markBody_mAooonnonnnZn ((v_impl_MovePlaces aB_0 aBy_1 aShare_2).1) 1).2.1, (v_laws_markBody_mAooonnonnnZn ((v_impl_MovePlaces aB_0 aBy_1 aShare_2).1) 1).2.2.1⟩ : GMesh), (v_laws_markBody_mAooonnonnnZn ((v_impl_MovePlaces aB_0 aBy_1 aShare_2).1) 1).2.2.2.1, (v_impl_MovePlaces aB_0 aBy_1 aShare_2).1.Film, (v_impl_MovePlaces aB_0 aBy_1 aShare_2).1.Bend, (v_laws_markBody_mAooonnonnnZn ((v_impl_MovePlaces aB_0 aBy_1 aShare_2).1) 1).2.2.2.2, (v_impl_MovePlaces aB_0 aBy_1 aShare_2).1.Fall⟩ : GBody) 1 y16 y17 y18 y19 y20) (by simp [cL, Function.comp_def])) <| sB h7 <| sB h8 <| sK [] sN)) rfl (by kernel_rfl) (by kernel_rfl) rfl ?_ ?_
          · simp only [v_laws_FnExactMovePlaces, h0, h1, h2, h3, h4, h5, h6, h7, h8, cond_true, cond_false]
          · rfl
      | false =>
       refine fnS E0Ok hMixed (c := bodyOf f11) [] (.b false) [] func11 (q (sB' h5 <| sK [] sN)) rfl (by kernel_rfl) (by kernel_rfl) rfl ?_ ?_
       · simp only [v_laws_FnExactMovePlaces, h0, h1, h2, h3, h4, h5, cond_true, cond_false]
       · rfl
     | false =>
      refine fnS E0Ok hMixed (c := bodyOf f11) [] (.b false) [] func11 (p (sB' h4 <| sK [] sN)) rfl (by kernel_rfl) (by kernel_rfl) rfl ?_ ?_
      · simp only [v_laws_FnExactMovePlaces, h0, h1, h2, h3, h4, cond_true, cond_false]
      · rfl
    | false =>
     have gh3 := ne_of_beq_false h3
     refine fnS E0Ok hMixed (c := bodyOf f11) [] (.b false) [] func11 (q (sB' h3 <| sK [] sN)) rfl (by kernel_rfl) (by kernel_rfl) rfl ?_ ?_
     · simp only [v_laws_FnExactMovePlaces, h0, h1, h2, h3, cond_true, cond_false]
     · rfl
   | false =>
    refine fnS E0Ok hMixed (c := bodyOf f11) [] (.b false) [] func11 (p (sB' h2 <| sB' h2 <| sB' h2 <| sB' h2 <| sB (show true = true from rfl) <| sK [] sN)) rfl (by kernel_rfl) (by kernel_rfl) rfl ?_ ?_
    · simp only [v_laws_FnExactMovePlaces, h0, h1, h2, cond_false]
    · rfl

theorem held_Vector_mon (a : List GVector) (c : Int) : v_laws_heldVectorS (v_laws_markVectorS_mon a c).2 c = (v_laws_markVectorS_mon a c).1 := by
  rw [hdeq_Vector, mkeq_Vector_mon, hdL_mkL (fun x c => by simp [hp_Vector, mk_Vector_mon, ofInt_self]) (fun x c => rfl)]

theorem held_Int64_min (a : List Int) (c : Int) : v_laws_heldInt64S (v_laws_markInt64S_min a c).2 c = (v_laws_markInt64S_min a c).1 := by
  rw [hdeq_Int64, mkeq_Int64_min, hdL_mkL (fun x c => by simp [hp_Int64, mk_Int64_min, ofInt_self]) (fun x c => rfl)]

theorem held_Int64SS_mon (a : List (List Int)) (c : Int) (g0 : a.length ≤ 1073741824) (g1 : ∀ t ∈ a, t.length ≤ 1073741824) (h0 : 0 ≤ c) (h1 : c ≤ 3458764513820540928) : v_laws_heldInt64SS (v_laws_markInt64SS_mon a c).2 c = (v_laws_markInt64SS_mon a c).1 := by
  rw [hdeq_Int64SS, mkeq_Int64SS, hdL_mkL_b (W := 1073741824) (M := 4611686018427387904) a c (fun x hx c k0 k1 => by
    have q := markge_Int64_min x c (g1 x hx) k0 (by omega)
    have q2 := held_Int64_min x c
    refine ⟨?_, q2, q.1, q.2⟩
    rw [q2]
    simp; omega) h0 (by omega)]

theorem held_Mesh_mAooZn (a : GMesh) (c : Int) (g0 : a.Places.length ≤ 1073741824) (g1 : a.Triangles.length ≤ 1073741824) (g2 : ∀ t ∈ a.Triangles, t.length ≤ 1073741824) (h0 : 0 ≤ c) (h1 : c ≤ 1152921504606846976) : v_laws_heldMesh ⟨(v_laws_markMesh_mAooZn a c).2.1, (v_laws_markMesh_mAooZn a c).2.2⟩ c = (v_laws_markMesh_mAooZn a c).1 := by
  have p0 := markge_Vector_mon a.Places c g0 (by omega) (by omega)
  have q0 := held_Vector_mon a.Places c
  have p1 := markge_Int64SS_mon a.Triangles ((v_laws_markVectorS_mon a.Places c).1) g1 g2 (by omega) (by omega)
  have q1 := held_Int64SS_mon a.Triangles ((v_laws_markVectorS_mon a.Places c).1) g1 g2 (by omega) (by omega)
  unfold v_laws_heldMesh
  simp only [v_laws_markMesh_mAooZn, true_and] at *
  simp only [q0, q1]
  repeat (first | rw [decide_eq_false (by omega), cond_false])
  try rfl

theorem held_Spring_mon (a : List GSpring) (c : Int) : v_laws_heldSpringS (v_laws_markSpringS_mon a c).2 c = (v_laws_markSpringS_mon a c).1 := by
  rw [hdeq_Spring, mkeq_Spring_mon, hdL_mkL (fun x c => by simp [hp_Spring, mk_Spring_mon, ofInt_self]) (fun x c => rfl)]

theorem held_Float32_mon (a : List Nat) (c : Int) : v_laws_heldFloat32S (v_laws_markFloat32S_mon a c).2 c = (v_laws_markFloat32S_mon a c).1 := by
  rw [hdeq_Float32, mkeq_Float32_mon, hdL_mkL (fun x c => by simp [hp_Float32, mk_Float32_mon, ofInt_self]) (fun x c => rfl)]

theorem held_Body_mAooonnonnnZn (a : GBody) (c : Int) (g0 : a.Mesh.Places.length ≤ 1073741824) (g1 : a.Mesh.Triangles.length ≤ 1073741824) (g2 : ∀ t ∈ a.Mesh.Triangles, t.length ≤ 1073741824) (g3 : a.Springs.length ≤ 1073741824) (g4 : a.Weights.length ≤ 1073741824) (h0 : 0 ≤ c) (h1 : c ≤ 1152921504606846976) : v_laws_heldBody ⟨⟨(v_laws_markBody_mAooonnonnnZn a c).2.1, (v_laws_markBody_mAooonnonnnZn a c).2.2.1⟩, (v_laws_markBody_mAooonnonnnZn a c).2.2.2.1, a.Film, a.Bend, (v_laws_markBody_mAooonnonnnZn a c).2.2.2.2, a.Fall⟩ c = (v_laws_markBody_mAooonnonnnZn a c).1 := by
  have p0 := markge_Mesh_mAooZn a.Mesh c g0 g1 g2 (by omega) (by omega)
  have q0 := held_Mesh_mAooZn a.Mesh c g0 g1 g2 (by omega) (by omega)
  have p1 := markge_Spring_mon a.Springs ((v_laws_markMesh_mAooZn a.Mesh c).1) g3 (by omega) (by omega)
  have q1 := held_Spring_mon a.Springs ((v_laws_markMesh_mAooZn a.Mesh c).1)
  have p2 := markge_Float32_mon a.Weights ((v_laws_markSpringS_mon a.Springs ((v_laws_markMesh_mAooZn a.Mesh c).1)).1) g4 (by omega) (by omega)
  have q2 := held_Float32_mon a.Weights ((v_laws_markSpringS_mon a.Springs ((v_laws_markMesh_mAooZn a.Mesh c).1)).1)
  unfold v_laws_heldBody
  simp only [v_laws_markBody_mAooonnonnnZn, v_laws_markMesh_mAooZn] at *
  simp only [q0, q1, q2]
  repeat (first | rw [decide_eq_false (by omega), cond_false])
  try rfl

theorem lo_moved (b : GBody) (v : List GVector) (s : Nat) : ∀ (k : Nat) (i : Int) (r : List GVector), 0 ≤ i → (∀ j, i.toNat ≤ j → r.getD j default = b.Mesh.Places.getD j default) → lo_impl_moved_1 b v s k i r = lo_spec_l03Moved_1 b v s k i r := by
  intro k
  induction k with
  | zero => intros; rfl
  | succ k ih =>
    intro i r h0 hr
    rw [lo_impl_moved_1, lo_spec_l03Moved_1, hr _ (Nat.le_refl _)]
    cases decide (i < (v.length : Int)) with
    | false => rfl
    | true =>
      rw [cond_true, cond_true]
      rw [ih (i + 1) _ (by omega) (fun j hj => by rw [List.getD_eq_getElem?_getD, List.getElem?_set_ne (by omega), ← List.getD_eq_getElem?_getD]; exact hr j (by omega))]
      rfl
theorem eq_moved (b : GBody) (v : List GVector) (s : Nat) : v_impl_moved b v s = v_spec_l03Moved b v s := by
  unfold v_impl_moved v_spec_l03Moved lr_impl_moved_1_0 lr_spec_l03Moved_1_0
  rw [lo_moved b v s _ _ _ (Int.le_refl 0) (fun _ _ => rfl)]
theorem eq_MovePlaces (b : GBody) (v : List GVector) (s : Nat) : v_impl_MovePlaces b v s = v_spec_MovePlaces b v s := by
  unfold v_impl_MovePlaces v_spec_MovePlaces
  rw [eq_ValidBody, l03Is_moved, eq_moved]
  cases v_spec_l03Is b <;> cases ((v.length : Int) != (b.Mesh.Places.length : Int)) <;> rfl

theorem true_laws_FnExactMovePlaces (a : GBody) (v : (List GVector)) (s : Nat) (h0_0 : a.Mesh.Places.length ≤ 9223372036854775807) (h0_1 : a.Mesh.Triangles.length ≤ 9223372036854775807) (h0_2 : ∀ t ∈ a.Mesh.Triangles, t.length ≤ 9223372036854775807) (h0_3 : a.Springs.length ≤ 9223372036854775807) (h0_4 : a.Weights.length ≤ 9223372036854775807) (h1_0 : v.length ≤ 9223372036854775807) : v_laws_FnExactMovePlaces a v s = true := by
  unfold v_laws_FnExactMovePlaces
  have z0 := ok_laws_szBody a 1048576 h0_0 h0_1 h0_2 h0_3 h0_4 (by omega) (by omega)
  cases hc0 : decide (v_laws_szBody a 1048576 < 0) with
  | true => rfl
  | false =>
    simp only [decide_eq_false_iff_not] at hc0
    have z1 := ok_laws_szVectorS v (v_laws_szBody a 1048576) h1_0 (by omega) (by omega)
    cases hc1 : decide (v_laws_szVectorS v (v_laws_szBody a 1048576) < 0) with
    | true => rfl
    | false =>
      simp only [decide_eq_false_iff_not] at hc1
      have hm0 := markge_Body_mAooonnonnnZn a 1 (by omega) (by omega) (fun t ht => by have q := z0.2.2.2.2.2.2 t ht; omega) (by omega) (by omega) (by omega) (by omega)
      have hm1 := markge_Vector_mon v ((v_laws_markBody_mAooonnonnnZn a 1).1) (by omega) (by omega) (by omega)
      have l0 := leP_impl_MovePlaces a v s
      have l1 := leT_impl_MovePlaces a v s
      have l2 := leW_impl_MovePlaces a v s
      have l3 := leS_impl_MovePlaces a v s
      have v0 := markge_Body_mAooonnonnnZn (v_impl_MovePlaces a v s).1 1 (by omega) (by omega) (fun t ht => by have q := z0.2.2.2.2.2.2 t (mem_impl_MovePlaces a v s t ht); omega) (by omega) (by omega) (by omega) (by omega)
      have w0 := held_Body_mAooonnonnnZn (v_impl_MovePlaces a v s).1 1 (by omega) (by omega) (fun t ht => by have q := z0.2.2.2.2.2.2 t (mem_impl_MovePlaces a v s t ht); omega) (by omega) (by omega) (by omega) (by omega)
      simp only [nd_laws_FnExactMovePlaces_0, eq_MovePlaces] at *
      simp only [eqBody_self, eqVectorS_self, same_self, w0, beq_self_eq_true, Bool.not_true, cond_true, cond_false, bne_self_eq_false]
      rw [decide_eq_false (by omega)]
      rw [decide_eq_false (by omega)]
      rfl

end Go.Ab
