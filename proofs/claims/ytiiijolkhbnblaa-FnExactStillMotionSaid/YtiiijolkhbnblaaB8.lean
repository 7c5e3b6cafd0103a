/- The functions of this seat as plain Lean, and that the program's are these. Printed by a program of the prover's own. -/
import Derived.Test.YtiiijolkhbnblaaB7
set_option linter.unusedVariables false
set_option linter.unusedSimpArgs false
set_option maxRecDepth 100000
namespace Go.Ab
open Go.RowKit Go.Proofs.Try

theorem held_Vector_mon (a : List GVector) (c : Int) : v_laws_heldVectorS (v_laws_markVectorS_mon a c).2 c = (v_laws_markVectorS_mon a c).1 := by
  rw [hdeq_Vector, mkeq_Vector_mon, hdL_mkL (fun x c => by simp [hp_Vector, mk_Vector_mon, ofInt_self]) (fun x c => rfl)]

theorem held_Int64_min (a : List Int) (c : Int) : v_laws_heldInt64S (v_laws_markInt64S_min a c).2 c = (v_laws_markInt64S_min a c).1 := by
  rw [hdeq_Int64, mkeq_Int64_min, hdL_mkL (fun x c => by simp [hp_Int64, mk_Int64_min, ofInt_self]) (fun x c => rfl)]

theorem held_Int64SS_mon (a : List (List Int)) (c : Int) (g0 : a.length ≤ 1073741824) (g1 : ∀ t ∈ a, t.length ≤ 1073741824) (h0 : 0 ≤ c) (h1 : c ≤ 3458764513820540928) : v_laws_heldInt64SS (v_laws_markInt64SS_mon a c).2 c = (v_laws_markInt64SS_mon a c).1 := by
  rw [hdeq_Int64SS, mkeq_Int64SS, hdL_mkL_b (W := 1073741824) (M := 4611686018427387904) a c (fun x hx c k0 k1 => by
    have q := markge_Int64_min x c (g1 x hx) k0 (by omega)
    have q2 := held_Int64_min x c
    refine ⟨?_, q2, q.1, q.2⟩
    rw [q2]
    simp; omega) h0 (by omega)]

theorem held_Mesh_mAooZn (a : GMesh) (c : Int) (g0 : a.Places.length ≤ 1073741824) (g1 : a.Triangles.length ≤ 1073741824) (g2 : ∀ t ∈ a.Triangles, t.length ≤ 1073741824) (h0 : 0 ≤ c) (h1 : c ≤ 1152921504606846976) : v_laws_heldMesh ⟨(v_laws_markMesh_mAooZn a c).2.1, (v_laws_markMesh_mAooZn a c).2.2⟩ c = (v_laws_markMesh_mAooZn a c).1 := by
  have p0 := markge_Vector_mon a.Places c g0 (by omega) (by omega)
  have q0 := held_Vector_mon a.Places c
  have p1 := markge_Int64SS_mon a.Triangles ((v_laws_markVectorS_mon a.Places c).1) g1 g2 (by omega) (by omega)
  have q1 := held_Int64SS_mon a.Triangles ((v_laws_markVectorS_mon a.Places c).1) g1 g2 (by omega) (by omega)
  unfold v_laws_heldMesh
  simp only [v_laws_markMesh_mAooZn, true_and] at *
  simp only [q0, q1]
  repeat (first | rw [decide_eq_false (by omega), cond_false])
  try rfl

theorem held_Spring_mon (a : List GSpring) (c : Int) : v_laws_heldSpringS (v_laws_markSpringS_mon a c).2 c = (v_laws_markSpringS_mon a c).1 := by
  rw [hdeq_Spring, mkeq_Spring_mon, hdL_mkL (fun x c => by simp [hp_Spring, mk_Spring_mon, ofInt_self]) (fun x c => rfl)]

theorem held_Float32_mon (a : List Nat) (c : Int) : v_laws_heldFloat32S (v_laws_markFloat32S_mon a c).2 c = (v_laws_markFloat32S_mon a c).1 := by
  rw [hdeq_Float32, mkeq_Float32_mon, hdL_mkL (fun x c => by simp [hp_Float32, mk_Float32_mon, ofInt_self]) (fun x c => rfl)]

theorem held_Body_mAooonnonnnZn (a : GBody) (c : Int) (g0 : a.Mesh.Places.length ≤ 1073741824) (g1 : a.Mesh.Triangles.length ≤ 1073741824) (g2 : ∀ t ∈ a.Mesh.Triangles, t.length ≤ 1073741824) (g3 : a.Springs.length ≤ 1073741824) (g4 : a.Weights.length ≤ 1073741824) (h0 : 0 ≤ c) (h1 : c ≤ 1152921504606846976) : v_laws_heldBody ⟨⟨(v_laws_markBody_mAooonnonnnZn a c).2.1, (v_laws_markBody_mAooonnonnnZn a c).2.2.1⟩, (v_laws_markBody_mAooonnonnnZn a c).2.2.2.1, a.Film, a.Bend, (v_laws_markBody_mAooonnonnnZn a c).2.2.2.2, a.Fall⟩ c = (v_laws_markBody_mAooonnonnnZn a c).1 := by
  have p0 := markge_Mesh_mAooZn a.Mesh c g0 g1 g2 (by omega) (by omega)
  have q0 := held_Mesh_mAooZn a.Mesh c g0 g1 g2 (by omega) (by omega)
  have p1 := markge_Spring_mon a.Springs ((v_laws_markMesh_mAooZn a.Mesh c).1) g3 (by omega) (by omega)
  have q1 := held_Spring_mon a.Springs ((v_laws_markMesh_mAooZn a.Mesh c).1)
  have p2 := markge_Float32_mon a.Weights ((v_laws_markSpringS_mon a.Springs ((v_laws_markMesh_mAooZn a.Mesh c).1)).1) g4 (by omega) (by omega)
  have q2 := held_Float32_mon a.Weights ((v_laws_markSpringS_mon a.Springs ((v_laws_markMesh_mAooZn a.Mesh c).1)).1)
  unfold v_laws_heldBody
  simp only [v_laws_markBody_mAooonnonnnZn, v_laws_markMesh_mAooZn] at *
  simp only [q0, q1, q2]
  repeat (first | rw [decide_eq_false (by omega), cond_false])
  try rfl

theorem held_Motion_mAooonnonnnoZn (a : GMotion) (c : Int) (g0 : a.Body.Mesh.Places.length ≤ 1073741824) (g1 : a.Body.Mesh.Triangles.length ≤ 1073741824) (g2 : ∀ t ∈ a.Body.Mesh.Triangles, t.length ≤ 1073741824) (g3 : a.Body.Springs.length ≤ 1073741824) (g4 : a.Body.Weights.length ≤ 1073741824) (g5 : a.Speeds.length ≤ 1073741824) (h0 : 0 ≤ c) (h1 : c ≤ 1152921504606846976) : v_laws_heldMotion ⟨⟨⟨(v_laws_markMotion_mAooonnonnnoZn a c).2.1, (v_laws_markMotion_mAooonnonnnoZn a c).2.2.1⟩, (v_laws_markMotion_mAooonnonnnoZn a c).2.2.2.1, a.Body.Film, a.Body.Bend, (v_laws_markMotion_mAooonnonnnoZn a c).2.2.2.2.1, a.Body.Fall⟩, (v_laws_markMotion_mAooonnonnnoZn a c).2.2.2.2.2⟩ c = (v_laws_markMotion_mAooonnonnnoZn a c).1 := by
  have p0 := markge_Body_mAooonnonnnZn a.Body c g0 g1 g2 g3 g4 (by omega) (by omega)
  have q0 := held_Body_mAooonnonnnZn a.Body c g0 g1 g2 g3 g4 (by omega) (by omega)
  have p1 := markge_Vector_mon a.Speeds ((v_laws_markBody_mAooonnonnnZn a.Body c).1) g5 (by omega) (by omega)
  have q1 := held_Vector_mon a.Speeds ((v_laws_markBody_mAooonnonnnZn a.Body c).1)
  unfold v_laws_heldMotion
  simp only [v_laws_markMotion_mAooonnonnnoZn, v_laws_markBody_mAooonnonnnZn] at *
  simp only [q0, q1]
  repeat (first | rw [decide_eq_false (by omega), cond_false])
  try rfl

theorem eq_StillMotion (b : GBody) : v_impl_StillMotion b = v_spec_StillMotion b := by
  unfold v_impl_StillMotion v_spec_StillMotion
  rw [eq_ValidBody]

theorem true_laws_FnExactStillMotion (a : GBody) (h0_0 : a.Mesh.Places.length ≤ 9223372036854775807) (h0_1 : a.Mesh.Triangles.length ≤ 9223372036854775807) (h0_2 : ∀ t ∈ a.Mesh.Triangles, t.length ≤ 9223372036854775807) (h0_3 : a.Springs.length ≤ 9223372036854775807) (h0_4 : a.Weights.length ≤ 9223372036854775807) : v_laws_FnExactStillMotion a = true := by
  unfold v_laws_FnExactStillMotion
  have z0 := ok_laws_szBody a 1048576 h0_0 h0_1 h0_2 h0_3 h0_4 (by omega) (by omega)
  cases hc0 : decide (v_laws_szBody a 1048576 < 0) with
  | true => rfl
  | false =>
    simp only [decide_eq_false_iff_not] at hc0
    have hm0 := markge_Body_mAooonnonnnZn a 1 (by omega) (by omega) (fun t ht => by have q := z0.2.2.2.2.2.2 t ht; omega) (by omega) (by omega) (by omega) (by omega)
    have l0 := leP_impl_StillMotion a
    have l1 := leT_impl_StillMotion a
    have l2 := leW_impl_StillMotion a
    have l3 := leS_impl_StillMotion a
    have l4 := leV_impl_StillMotion a
    have v0 := markge_Motion_mAooonnonnnoZn (v_impl_StillMotion a).1 1 (by omega) (by omega) (fun t ht => by have q := z0.2.2.2.2.2.2 t (mem_impl_StillMotion a t ht); omega) (by omega) (by omega) (by omega) (by omega) (by omega)
    have w0 := held_Motion_mAooonnonnnoZn (v_impl_StillMotion a).1 1 (by omega) (by omega) (fun t ht => by have q := z0.2.2.2.2.2.2 t (mem_impl_StillMotion a t ht); omega) (by omega) (by omega) (by omega) (by omega) (by omega)
    simp only [nd_laws_FnExactStillMotion_0, eq_StillMotion] at *
    simp only [eqBody_self, eqMotion_self, w0, beq_self_eq_true, Bool.not_true, cond_true, cond_false, bne_self_eq_false]
    rw [decide_eq_false (by omega)]
    rw [decide_eq_false (by omega)]
    rfl

end Go.Ab
