/- The functions of this seat as plain Lean, and that the program's are these. Printed by a program of the prover's own. -/
import Derived.Test.YtiiijolkhbnblaaB6
set_option linter.unusedVariables false
set_option linter.unusedSimpArgs false
set_option maxRecDepth 100000
namespace Go.Ab
open Go.RowKit Go.Proofs.Try

def hd_laws_markFloat32S_mon_1 (a_0 : (List Nat)) (k_1 : Int) (k_l0 : Int) (i_l1 : Int) (r0_l2 : (List Nat)) : St := ⟨[.own 0, .i .i64 k_l0, .any, .any, .i .i64 0, .i .i64 i_l1, .any, .any, .any, .any, .any, .any, .any, .any, .any, .any, .any, .any, .any, .any], [.vec 22 1 (r0_l2.map (cF .f32)) false]⟩

def mk_laws_markFloat32S_mon_1_0 : List Bool := [true, true, false, false, true, true, false, false, false, false, false, false, false, false, false, false, false, false, false, false]

def mk_laws_markFloat32S_mon_1_1 : List Bool := [false, true, false, false, true, false, false, false, false, false, false, false, false, false, false, false, false, false, false, false]

theorem lp_laws_markFloat32S_mon_1 (a_0 : (List Nat)) (k_1 : Int) (hp0 : a_0.length ≤ 1073741824) : ∀ (k : Nat) (k_l0 : Int) (i_l1 : Int) (r0_l2 : (List Nat)) (hv_laws_markFloat32S_mon_1_0 : 0 ≤ i_l1) (hv_laws_markFloat32S_mon_1_1 : r0_l2.length = a_0.length) (hk : ((a_0.length : Int) - i_l1).toNat < k), Lp prog 1 (sub (bodyOf f102) [1, 0, 1, 0, 0]) (hd_laws_markFloat32S_mon_1 a_0 k_1 k_l0 i_l1 r0_l2) (ls_laws_markFloat32S_mon_1 a_0 k_1 (lo_laws_markFloat32S_mon_1 a_0 k_1 k k_l0 i_l1 r0_l2)).1 (ls_laws_markFloat32S_mon_1 a_0 k_1 (lo_laws_markFloat32S_mon_1 a_0 k_1 k k_l0 i_l1 r0_l2)).2 := by
 intro k
 induction k with
 | zero => intro k_l0 i_l1 r0_l2 hv_laws_markFloat32S_mon_1_0 hv_laws_markFloat32S_mon_1_1 hk; exact absurd hk (Nat.not_lt_zero _)
 | succ k ih =>
  intro k_l0 i_l1 r0_l2 hv_laws_markFloat32S_mon_1_0 hv_laws_markFloat32S_mon_1_1 hk
  have p {a C} (s : Scr a C) := sZ (cF .f32) r0_l2 <| s
  cases h_0 : (decide (i_l1 < (r0_l2.length : Int))) with
  | true =>
   have gh_0 := of_decide_eq_true h_0
   have y_0 : (0 : Int) ≤ i_l1 := by clear p; exact (by first | assumption | omega | (simp_all <;> omega))
   have y_1 : i_l1 < (r0_l2.length : Int) := by clear p; exact (by first | assumption | omega | (simp_all <;> omega))
   have y_2 : i_l1.toNat < r0_l2.length := by clear p; exact (by first | assumption | omega | (simp_all <;> omega))
   have y_3 : (-9223372036854775808 : Int) ≤ (i_l1 + 1) := by clear p; exact (by first | assumption | omega | (simp_all <;> omega))
   have y_4 : (i_l1 + 1) ≤ (9223372036854775807 : Int) := by clear p; exact (by first | assumption | omega | (simp_all <;> omega))
   have e : lo_laws_markFloat32S_mon_1 a_0 k_1 (k + 1) k_l0 i_l1 r0_l2 = (lo_laws_markFloat32S_mon_1 a_0 k_1 k (IntKind.wrap .i64 (k_l0 + 1)) (i_l1 + 1) (r0_l2.set i_l1.toNat (ofInt .f32 k_l0))) := by simp only [lo_laws_markFloat32S_mon_1, h_0, cond_true]
   rw [e]
   exact nextS (EpOk 1) hMixed [] mk_laws_markFloat32S_mon_1_0 [] (⟨[.own 0, .i .i64 (IntKind.wrap .i64 (k_l0 + 1)), .any, .any, .i .i64 0, .i .i64 (i_l1 + 1), .any, .any, .any, .any, .any, .any, .any, .any, .any, .any, .any, .any, .any, .any], [.vec 22 1 ((r0_l2.map (cF .f32)).set i_l1.toNat [.f .f32 (ofInt .f32 k_l0)]) false]⟩) (p (sB h_0 <| sX (cF .f32) r0_l2 i_l1 y_0 y_1 <| sC (maplt (c := (cF .f32)) (l := r0_l2) y_2) <| sW .i64 (k_l0 + 1) <| sI (i_l1 + 1) y_3 y_4 <| sN)) (by kernel_rfl) (show _ = ⟨[.own 0, .i .i64 (IntKind.wrap .i64 (k_l0 + 1)), .any, .any, .i .i64 0, .i .i64 (i_l1 + 1), .any, .any, .any, .any, .any, .any, .any, .any, .any, .any, .any, .any, .any, .any], [.vec 22 1 ((r0_l2.set i_l1.toNat (ofInt .f32 k_l0)).map (cF .f32)) false]⟩ from (by simp [List.map_set, cF])) (ih (IntKind.wrap .i64 (k_l0 + 1)) (i_l1 + 1) (r0_l2.set i_l1.toNat (ofInt .f32 k_l0)) (show 0 ≤ (i_l1 + 1) from (by first | assumption | omega | (simp_all <;> omega))) (show (r0_l2.set i_l1.toNat (ofInt .f32 k_l0)).length = a_0.length from (by first | assumption | omega | (simp_all <;> omega))) (by first | assumption | omega | (simp_all <;> omega)))
  | false =>
   have gh_0 := of_decide_eq_false h_0
   have e : lo_laws_markFloat32S_mon_1 a_0 k_1 (k + 1) k_l0 i_l1 r0_l2 = (k_l0, r0_l2) := by simp only [lo_laws_markFloat32S_mon_1, h_0, cond_false]
   rw [e]
   exact outR (e := (.exit 0)) (EpOk 1) hMixed [] mk_laws_markFloat32S_mon_1_1 [] (p (sB h_0 <| sN)) (by kernel_rfl) (by intro h; cases h)

theorem ln_laws_markFloat32S_mon_1_1 (a_0 : (List Nat)) (k_1 : Int) : ∀ (k : Nat) (k_l0 : Int) (i_l1 : Int) (r0_l2 : (List Nat)) (hk : ((r0_l2.length : Int) - i_l1).toNat < k), (lo_laws_markFloat32S_mon_1 a_0 k_1 k k_l0 i_l1 r0_l2).2.length = r0_l2.length := by
  intro k
  induction k with
  | zero => intro k_l0 i_l1 r0_l2 hk; exact absurd hk (Nat.not_lt_zero _)
  | succ k ih =>
    intro k_l0 i_l1 r0_l2 hk
    cases h_0 : (decide (i_l1 < (r0_l2.length : Int))) with
    | true =>
      have e : lo_laws_markFloat32S_mon_1 a_0 k_1 (k + 1) k_l0 i_l1 r0_l2 = (lo_laws_markFloat32S_mon_1 a_0 k_1 k (IntKind.wrap .i64 (k_l0 + 1)) (i_l1 + 1) (r0_l2.set i_l1.toNat (ofInt .f32 k_l0))) := by simp only [lo_laws_markFloat32S_mon_1, h_0, cond_true]
      rw [e, ih (IntKind.wrap .i64 (k_l0 + 1)) (i_l1 + 1) (r0_l2.set i_l1.toNat (ofInt .f32 k_l0)) (by first | assumption | omega | (simp_all <;> omega))]; simp
    | false =>
      have e : lo_laws_markFloat32S_mon_1 a_0 k_1 (k + 1) k_l0 i_l1 r0_l2 = (k_l0, r0_l2) := by simp only [lo_laws_markFloat32S_mon_1, h_0, cond_false]
      first | (rw [e]; done) | (rw [e]; rfl)

def lr_laws_markFloat32S_mon_1_0 (a_0 : (List Nat)) (k_1 : Int) : Int × (List Nat) := (lo_laws_markFloat32S_mon_1 a_0 k_1 (((a_0.length : Int) - 0).toNat + 1) k_1 0 a_0)

@[simp] theorem len_lr_laws_markFloat32S_mon_1_0_1 (a_0 : (List Nat)) (k_1 : Int) : (lr_laws_markFloat32S_mon_1_0 a_0 k_1).2.length = (a_0 : (List Nat)).length := ln_laws_markFloat32S_mon_1_1 a_0 k_1 (((a_0.length : Int) - 0).toNat + 1) k_1 0 a_0 (by first | exact Nat.lt_succ_self _ | simp)

def v_laws_markFloat32S_mon (a_0 : (List Nat)) (k_1 : Int) : Int × (List Nat) := ((lr_laws_markFloat32S_mon_1_0 a_0 k_1).1, (lr_laws_markFloat32S_mon_1_0 a_0 k_1).2)

@[simp] theorem len_v_laws_markFloat32S_mon_1 (a_0 : (List Nat)) (k_1 : Int) : (v_laws_markFloat32S_mon a_0 k_1).2.length = a_0.length := by
  first | (simp [v_laws_markFloat32S_mon]; done)

theorem t_laws_markFloat32S_mon (a_0 : (List Nat)) (k_1 : Int) (hp0 : a_0.length ≤ 1073741824)  : CallSt prog 102 [.vec 22 1 (a_0.map (cF .f32)) false] [.own 0, .i .i64 k_1] (.i .i64 ((v_laws_markFloat32S_mon a_0 k_1).1)) [.vec 22 1 (((v_laws_markFloat32S_mon a_0 k_1).2).map (cF .f32)) false] := by
 refine callS (EpOk 1) hMixed (c := bodyOf f102) [.vec 22 1 (a_0.map (cF .f32)) false] [] (.i .i64 ((lr_laws_markFloat32S_mon_1_0 a_0 k_1).1)) [.vec 22 1 (((lr_laws_markFloat32S_mon_1_0 a_0 k_1).2).map (cF .f32)) false] func102 (sL mk_laws_markFloat32S_mon_1_0 1 (lp_val (ls_laws_markFloat32S_mon_1 a_0 k_1) (x := (lr_laws_markFloat32S_mon_1_0 a_0 k_1)) (lp_laws_markFloat32S_mon_1 a_0 k_1 hp0 (((a_0.length : Int) - 0).toNat + 1) k_1 0 a_0 (show 0 ≤ 0 from (by first | assumption | omega | (simp_all <;> omega))) (show a_0.length = a_0.length from (by simp)) (Nat.lt_succ_self _)) rfl) <| sK [] sN) rfl (by kernel_rfl) (by kernel_rfl) ?_ ?_
 · rfl
 · simp [v_laws_markFloat32S_mon]

def mk_Float32_mon (_ : Nat) (c : Int) : Int × Nat := ((IntKind.wrap .i64 (c + 1)), ofInt .f32 c)
theorem mkeq_Float32_mon (a : List Nat) (c : Int) : v_laws_markFloat32S_mon a c = mkL mk_Float32_mon a c := by
  unfold v_laws_markFloat32S_mon lr_laws_markFloat32S_mon_1_0
  rw [mark_loop (f := mk_Float32_mon) (lo := lo_laws_markFloat32S_mon_1 a c) (fun k c i r => rfl) _ _ _ _ (Int.le_refl 0) (Nat.lt_succ_self _)]
  simp
theorem markge_Float32_mon (a : List Nat) (c : Int) (g0 : a.length ≤ 1073741824) (h0 : 0 ≤ c) (h1 : c ≤ 4611686018427387904) : c ≤ (v_laws_markFloat32S_mon a c).1 ∧ (v_laws_markFloat32S_mon a c).1 ≤ c + 1073741824 := by
  rw [mkeq_Float32_mon]
  have q := mkL_ge (f := mk_Float32_mon) (W := 1) a c (fun x _ c k0 k1 => by simp only [mk_Float32_mon]; rw [wrap_id (n := c + 1) (by omega) (by omega)]; omega) h0 (by omega)
  omega

def v_laws_markBody_mAooonnonnnZn (a_0 : GBody) (k_1 : Int) : Int × (List GVector) × (List (List Int)) × (List GSpring) × (List Nat) := ((v_laws_markFloat32S_mon a_0.Weights ((v_laws_markSpringS_mon a_0.Springs ((v_laws_markMesh_mAooZn a_0.Mesh k_1).1)).1)).1, (v_laws_markMesh_mAooZn a_0.Mesh k_1).2.1, (v_laws_markMesh_mAooZn a_0.Mesh k_1).2.2, (v_laws_markSpringS_mon a_0.Springs ((v_laws_markMesh_mAooZn a_0.Mesh k_1).1)).2, (v_laws_markFloat32S_mon a_0.Weights ((v_laws_markSpringS_mon a_0.Springs ((v_laws_markMesh_mAooZn a_0.Mesh k_1).1)).1)).2)

@[simp] theorem len_v_laws_markBody_mAooonnonnnZn_1 (a_0 : GBody) (k_1 : Int) : (v_laws_markBody_mAooonnonnnZn a_0 k_1).2.1.length = a_0.Mesh.Places.length := by
  first | (simp [v_laws_markBody_mAooonnonnnZn]; done)

@[simp] theorem len_v_laws_markBody_mAooonnonnnZn_2 (a_0 : GBody) (k_1 : Int) : (v_laws_markBody_mAooonnonnnZn a_0 k_1).2.2.1.length = a_0.Mesh.Triangles.length := by
  first | (simp [v_laws_markBody_mAooonnonnnZn]; done)

@[simp] theorem len_v_laws_markBody_mAooonnonnnZn_3 (a_0 : GBody) (k_1 : Int) : (v_laws_markBody_mAooonnonnnZn a_0 k_1).2.2.2.1.length = a_0.Springs.length := by
  first | (simp [v_laws_markBody_mAooonnonnnZn]; done)

@[simp] theorem len_v_laws_markBody_mAooonnonnnZn_4 (a_0 : GBody) (k_1 : Int) : (v_laws_markBody_mAooonnonnnZn a_0 k_1).2.2.2.2.length = a_0.Weights.length := by
  first | (simp [v_laws_markBody_mAooonnonnnZn]; done)

theorem t_laws_markBody_mAooonnonnnZn (a_0 : GBody) (k_1 : Int) (hp0 : a_0.Mesh.Places.length ≤ 1073741824) (hp1 : a_0.Mesh.Triangles.length ≤ 1073741824) (hp2 : ∀ t ∈ a_0.Mesh.Triangles, t.length ≤ 1073741824) (hp3 : a_0.Springs.length ≤ 1073741824) (hp4 : a_0.Weights.length ≤ 1073741824)  : CallSt prog 45 [.vec 44 3 (a_0.Mesh.Places.map GVector.cells) false, .nest 52 (a_0.Mesh.Triangles.map fun l => l.map (cI .i64)) false, .vec 105 4 (a_0.Springs.map GSpring.cells) false, .vec 22 1 (a_0.Weights.map (cF .f32)) false] [.agg [.own 0, .own 1, .own 2, .f .f32 a_0.Film, .f .f32 a_0.Bend, .own 3, .f .f32 a_0.Fall.X, .f .f32 a_0.Fall.Y, .f .f32 a_0.Fall.Z], .i .i64 k_1] (.i .i64 ((v_laws_markBody_mAooonnonnnZn a_0 k_1).1)) [.vec 44 3 (((v_laws_markBody_mAooonnonnnZn a_0 k_1).2.1).map GVector.cells) false, .nest 52 (((v_laws_markBody_mAooonnonnnZn a_0 k_1).2.2.1).map fun l => l.map (cI .i64)) false, .vec 105 4 (((v_laws_markBody_mAooonnonnnZn a_0 k_1).2.2.2.1).map GSpring.cells) false, .vec 22 1 (((v_laws_markBody_mAooonnonnnZn a_0 k_1).2.2.2.2).map (cF .f32)) false] := by
 refine callS (EpOk 4) hMixed (c := bodyOf f45) [.vec 44 3 (a_0.Mesh.Places.map GVector.cells) false, .nest 52 (a_0.Mesh.Triangles.map fun l => l.map (cI .i64)) false, .vec 105 4 (a_0.Springs.map GSpring.cells) false, .vec 22 1 (a_0.Weights.map (cF .f32)) false] [] (.i .i64 ((v_laws_markFloat32S_mon a_0.Weights ((v_laws_markSpringS_mon a_0.Springs ((v_laws_markMesh_mAooZn a_0.Mesh k_1).1)).1)).1)) [.vec 44 3 (((v_laws_markMesh_mAooZn a_0.Mesh k_1).2.1).map GVector.cells) false, .nest 52 (((v_laws_markMesh_mAooZn a_0.Mesh k_1).2.2).map fun l => l.map (cI .i64)) false, .vec 105 4 (((v_laws_markSpringS_mon a_0.Springs ((v_laws_markMesh_mAooZn a_0.Mesh k_1).1)).2).map GSpring.cells) false, .vec 22 1 (((v_laws_markFloat32S_mon a_0.Weights ((v_laws_markSpringS_mon a_0.Springs ((v_laws_markMesh_mAooZn a_0.Mesh k_1).1)).1)).2).map (cF .f32)) false] func45 (sS (CallSt.frame (t_laws_markMesh_mAooZn a_0.Mesh k_1 hp0 hp1 hp2) [0, 1] (R := [.vec 44 3 (a_0.Mesh.Places.map GVector.cells) false, .nest 52 (a_0.Mesh.Triangles.map fun l => l.map (cI .i64)) false, .vec 105 4 (a_0.Springs.map GSpring.cells) false, .vec 22 1 (a_0.Weights.map (cF .f32)) false, .box 46 [.own 0, .own 1, .own 2, .f .f32 a_0.Film, .f .f32 a_0.Bend, .own 3, .f .f32 a_0.Fall.X, .f .f32 a_0.Fall.Y, .f .f32 a_0.Fall.Z]]) (args' := [.agg [.own 0, .own 1], .i .i64 k_1]) rfl rfl rfl rfl rfl rfl) <| sS (CallSt.frame (t_laws_markSpringS_mon a_0.Springs ((v_laws_markMesh_mAooZn a_0.Mesh k_1).1) hp3) [2] (R := [.vec 44 3 (((v_laws_markMesh_mAooZn a_0.Mesh k_1).2.1).map GVector.cells) false, .nest 52 (((v_laws_markMesh_mAooZn a_0.Mesh k_1).2.2).map fun l => l.map (cI .i64)) false, .vec 105 4 (a_0.Springs.map GSpring.cells) false, .vec 22 1 (a_0.Weights.map (cF .f32)) false, .box 46 [.own 0, .own 1, .own 2, .f .f32 a_0.Film, .f .f32 a_0.Bend, .own 3, .f .f32 a_0.Fall.X, .f .f32 a_0.Fall.Y, .f .f32 a_0.Fall.Z]]) (args' := [.own 2, .i .i64 ((v_laws_markMesh_mAooZn a_0.Mesh k_1).1)]) rfl rfl rfl rfl rfl rfl) <| sS (CallSt.frame (t_laws_markFloat32S_mon a_0.Weights ((v_laws_markSpringS_mon a_0.Springs ((v_laws_markMesh_mAooZn a_0.Mesh k_1).1)).1) hp4) [3] (R := [.vec 44 3 (((v_laws_markMesh_mAooZn a_0.Mesh k_1).2.1).map GVector.cells) false, .nest 52 (((v_laws_markMesh_mAooZn a_0.Mesh k_1).2.2).map fun l => l.map (cI .i64)) false, .vec 105 4 (((v_laws_markSpringS_mon a_0.Springs ((v_laws_markMesh_mAooZn a_0.Mesh k_1).1)).2).map GSpring.cells) false, .vec 22 1 (a_0.Weights.map (cF .f32)) false, .box 46 [.own 0, .own 1, .own 2, .f .f32 a_0.Film, .f .f32 a_0.Bend, .own 3, .f .f32 a_0.Fall.X, .f .f32 a_0.Fall.Y, .f .f32 a_0.Fall.Z]]) (args' := [.own 3, .i .i64 ((v_laws_markSpringS_mon a_0.Springs ((v_laws_markMesh_mAooZn a_0.Mesh k_1).1)).1)]) rfl rfl rfl rfl rfl rfl) <| sK [] sN) rfl (by kernel_rfl) (by kernel_rfl) ?_ ?_
 · rfl
 · simp [v_laws_markBody_mAooonnonnnZn]

theorem markge_Body_mAooonnonnnZn (a : GBody) (c : Int) (g0 : a.Mesh.Places.length ≤ 1073741824) (g1 : a.Mesh.Triangles.length ≤ 1073741824) (g2 : ∀ t ∈ a.Mesh.Triangles, t.length ≤ 1073741824) (g3 : a.Springs.length ≤ 1073741824) (g4 : a.Weights.length ≤ 1073741824) (h0 : 0 ≤ c) (h1 : c ≤ 2305843009213693952) : c ≤ (v_laws_markBody_mAooonnonnnZn a c).1 ∧ (v_laws_markBody_mAooonnonnnZn a c).1 ≤ c + 1152921513196781568 := by
  unfold v_laws_markBody_mAooonnonnnZn
  have p0 := markge_Mesh_mAooZn a.Mesh c g0 g1 g2 (by omega) (by omega)
  have p1 := markge_Spring_mon a.Springs ((v_laws_markMesh_mAooZn a.Mesh c).1) g3 (by omega) (by omega)
  have p2 := markge_Float32_mon a.Weights ((v_laws_markSpringS_mon a.Springs ((v_laws_markMesh_mAooZn a.Mesh c).1)).1) g4 (by omega) (by omega)
  simp only
  omega

theorem mlen_Body_mAooonnonnnZn (a : GBody) (c : Int) (N : Nat) (h : ∀ t ∈ a.Mesh.Triangles, t.length ≤ N) : ∀ t ∈ (v_laws_markBody_mAooonnonnnZn a c).2.2.1, t.length ≤ N := by
  unfold v_laws_markBody_mAooonnonnnZn
  exact mlen_Mesh_mAooZn _ _ N h

def lo_laws_heldVectorS_1 (a_0 : (List GVector)) (k_1 : Int) : Nat → Int → Int → (Unit) ⊕ (Int)
  | 0, _, _ => .inl default
  | k + 1, k_l0, i_l1 => (cond (decide (i_l1 < (a_0.length : Int)))
    (cond (fcmp .neq .f32 ((a_0.getD i_l1.toNat default).X) (ofInt .f32 k_l0))
      (.inl ())
      (cond (fcmp .neq .f32 ((a_0.getD i_l1.toNat default).Y) (ofInt .f32 (IntKind.wrap .i64 (k_l0 + 1))))
        (.inl ())
        (cond (fcmp .neq .f32 ((a_0.getD i_l1.toNat default).Z) (ofInt .f32 (IntKind.wrap .i64 ((IntKind.wrap .i64 (k_l0 + 1)) + 1))))
          (.inl ())
          (lo_laws_heldVectorS_1 a_0 k_1 k (IntKind.wrap .i64 ((IntKind.wrap .i64 ((IntKind.wrap .i64 (k_l0 + 1)) + 1)) + 1)) (i_l1 + 1)))))
    (.inr k_l0))

def ls_laws_heldVectorS_1 (a_0 : (List GVector)) (k_1 : Int) : (Unit) ⊕ (Int) → Ex × St
  | .inl r => (.ret, ⟨[.any, .any, .any, .any, .i .i64 (-1), .any, .any, .any, .any, .any, .any, .any, .any, .any, .any, .any, .any, .any, .any, .any, .any, .any, .any, .any, .any, .any, .any, .any, .any, .any, .any, .any, .any, .any, .any, .any, .any, .any, .any, .any, .any, .any, .any], []⟩)
  | .inr r => ((.exit 0), ⟨[.any, .i .i64 r, .any, .any, .any, .any, .any, .any, .any, .any, .any, .any, .any, .any, .any, .any, .any, .any, .any, .any, .any, .any, .any, .any, .any, .any, .any, .any, .any, .any, .any, .any, .any, .any, .any, .any, .any, .any, .any, .any, .any, .any, .any], []⟩)

def hd_laws_heldVectorS_1 (a_0 : (List GVector)) (k_1 : Int) (k_l0 : Int) (i_l1 : Int) : St := ⟨[.sl (a_0.map GVector.cells), .i .i64 k_l0, .any, .any, .any, .i .i64 i_l1, .any, .any, .any, .any, .any, .any, .any, .any, .any, .any, .any, .any, .any, .any, .any, .any, .any, .any, .any, .any, .any, .any, .any, .any, .any, .any, .any, .any, .any, .any, .any, .any, .any, .any, .any, .any, .any], []⟩

def mk_laws_heldVectorS_1_0 : List Bool := [true, true, false, false, false, true, false, false, false, false, false, false, false, false, false, false, false, false, false, false, false, false, false, false, false, false, false, false, false, false, false, false, false, false, false, false, false, false, false, false, false, false, false]

def mk_laws_heldVectorS_1_1 : List Bool := [false, false, false, false, true, false, false, false, false, false, false, false, false, false, false, false, false, false, false, false, false, false, false, false, false, false, false, false, false, false, false, false, false, false, false, false, false, false, false, false, false, false, false]

def mk_laws_heldVectorS_1_2 : List Bool := [false, true, false, false, false, false, false, false, false, false, false, false, false, false, false, false, false, false, false, false, false, false, false, false, false, false, false, false, false, false, false, false, false, false, false, false, false, false, false, false, false, false, false]

theorem lp_laws_heldVectorS_1 (a_0 : (List GVector)) (k_1 : Int) (hp0 : a_0.length ≤ 1073741824) : ∀ (k : Nat) (k_l0 : Int) (i_l1 : Int) (hv_laws_heldVectorS_1_0 : 0 ≤ i_l1) (hk : ((a_0.length : Int) - i_l1).toNat < k), Lp prog 0 (sub (bodyOf f42) [1, 0, 1, 0, 0]) (hd_laws_heldVectorS_1 a_0 k_1 k_l0 i_l1) (ls_laws_heldVectorS_1 a_0 k_1 (lo_laws_heldVectorS_1 a_0 k_1 k k_l0 i_l1)).1 (ls_laws_heldVectorS_1 a_0 k_1 (lo_laws_heldVectorS_1 a_0 k_1 k k_l0 i_l1)).2 := by
 intro k
 induction k with
 | zero => intro k_l0 i_l1 hv_laws_heldVectorS_1_0 hk; exact absurd hk (Nat.not_lt_zero _)
 | succ k ih =>
  intro k_l0 i_l1 hv_laws_heldVectorS_1_0 hk
  have p {a C} (s : Scr a C) := sZ GVector.cells a_0 <| s
  cases h_0 : (decide (i_l1 < (a_0.length : Int))) with
  | true =>
   have gh_0 := of_decide_eq_true h_0
   have y_0 : (0 : Int) ≤ i_l1 := by clear p; exact (by first | assumption | omega | (simp_all <;> omega))
   have y_1 : i_l1 < (a_0.length : Int) := by clear p; exact (by first | assumption | omega | (simp_all <;> omega))
   have q {a C} (s : Scr a C) := p (sB h_0 <| sG GVector.cells a_0 i_l1 y_0 y_1 <| s)
   clear p
   cases h_1 : (fcmp .neq .f32 ((a_0.getD i_l1.toNat default).X) (ofInt .f32 k_l0)) with
   | true =>
    have e : lo_laws_heldVectorS_1 a_0 k_1 (k + 1) k_l0 i_l1 = (.inl ()) := by simp only [lo_laws_heldVectorS_1, h_0, h_1, cond_true]
    rw [e]
    exact outR (e := .ret) E0Ok hMixed [] mk_laws_heldVectorS_1_1 [] (q (sB h_1 <| sN)) (by kernel_rfl) (by intro h; cases h)
   | false =>
    have p {a C} (s : Scr a C) := q (sB h_1 <| sW .i64 (k_l0 + 1) <| sG GVector.cells a_0 i_l1 y_0 y_1 <| s)
    clear q
    cases h_2 : (fcmp .neq .f32 ((a_0.getD i_l1.toNat default).Y) (ofInt .f32 (IntKind.wrap .i64 (k_l0 + 1)))) with
    | true =>
     have e : lo_laws_heldVectorS_1 a_0 k_1 (k + 1) k_l0 i_l1 = (.inl ()) := by simp only [lo_laws_heldVectorS_1, h_0, h_1, h_2, cond_true, cond_false]
     rw [e]
     exact outR (e := .ret) E0Ok hMixed [] mk_laws_heldVectorS_1_1 [] (p (sB h_2 <| sN)) (by kernel_rfl) (by intro h; cases h)
    | false =>
     have q {a C} (s : Scr a C) := p (sB h_2 <| sW .i64 ((IntKind.wrap .i64 (k_l0 + 1)) + 1) <| sG GVector.cells a_0 i_l1 y_0 y_1 <| s)
     clear p
     cases h_3 : (fcmp .neq .f32 ((a_0.getD i_l1.toNat default).Z) (ofInt .f32 (IntKind.wrap .i64 ((IntKind.wrap .i64 (k_l0 + 1)) + 1)))) with
     | true =>
      have e : lo_laws_heldVectorS_1 a_0 k_1 (k + 1) k_l0 i_l1 = (.inl ()) := by simp only [lo_laws_heldVectorS_1, h_0, h_1, h_2, h_3, cond_true, cond_false]
      rw [e]
      exact outR (e := .ret) E0Ok hMixed [] mk_laws_heldVectorS_1_1 [] (q (sB h_3 <| sN)) (by kernel_rfl) (by intro h; cases h)
     | false =>
      have y_2 : (-9223372036854775808 : Int) ≤ (i_l1 + 1) := by clear q; exact (by first | assumption | omega | (simp_all <;> omega))
      have y_3 : (i_l1 + 1) ≤ (9223372036854775807 : Int) := by clear q; exact (by first | assumption | omega | (simp_all <;> omega))
      have e : lo_laws_heldVectorS_1 a_0 k_1 (k + 1) k_l0 i_l1 = (lo_laws_heldVectorS_1 a_0 k_1 k (IntKind.wrap .i64 ((IntKind.wrap .i64 ((IntKind.wrap .i64 (k_l0 + 1)) + 1)) + 1)) (i_l1 + 1)) := by simp only [lo_laws_heldVectorS_1, h_0, h_1, h_2, h_3, cond_true, cond_false]
      rw [e]
      exact nextR E0Ok hMixed [] mk_laws_heldVectorS_1_0 [] (ih (IntKind.wrap .i64 ((IntKind.wrap .i64 ((IntKind.wrap .i64 (k_l0 + 1)) + 1)) + 1)) (i_l1 + 1) (show 0 ≤ (i_l1 + 1) from (by first | assumption | omega | (simp_all <;> omega))) (by first | assumption | omega | (simp_all <;> omega))) (q (sB h_3 <| sW .i64 ((IntKind.wrap .i64 ((IntKind.wrap .i64 (k_l0 + 1)) + 1)) + 1) <| sI (i_l1 + 1) y_2 y_3 <| sN)) (by kernel_rfl)
  | false =>
   have gh_0 := of_decide_eq_false h_0
   have e : lo_laws_heldVectorS_1 a_0 k_1 (k + 1) k_l0 i_l1 = (.inr k_l0) := by simp only [lo_laws_heldVectorS_1, h_0, cond_false]
   rw [e]
   exact outR (e := (.exit 0)) E0Ok hMixed [] mk_laws_heldVectorS_1_2 [] (p (sB h_0 <| sN)) (by kernel_rfl) (by intro h; cases h)

def lr_laws_heldVectorS_1_0 (a_0 : (List GVector)) (k_1 : Int) : (Unit) ⊕ (Int) := (lo_laws_heldVectorS_1 a_0 k_1 (((a_0.length : Int) - 0).toNat + 1) k_1 0)

def v_laws_heldVectorS (a_0 : (List GVector)) (k_1 : Int) : Int := (match (lr_laws_heldVectorS_1_0 a_0 k_1) with
  | .inl r1 => (-1)
  | .inr r1 => r1)

theorem t_laws_heldVectorS (a_0 : (List GVector)) (k_1 : Int) (hp0 : a_0.length ≤ 1073741824)  : Fn prog 42 [.sl (a_0.map GVector.cells), .i .i64 k_1] (.i .i64 (v_laws_heldVectorS a_0 k_1)) [] := by
 cases h0 : (lr_laws_heldVectorS_1_0 a_0 k_1) with
 | inl r1 =>
  refine fnS E0Ok hMixed (c := bodyOf f42) [] (.i .i64 (-1)) [] func42 (sL mk_laws_heldVectorS_1_0 0 (lp_val (ls_laws_heldVectorS_1 a_0 k_1) (x := (lr_laws_heldVectorS_1_0 a_0 k_1)) (lp_laws_heldVectorS_1 a_0 k_1 hp0 (((a_0.length : Int) - 0).toNat + 1) k_1 0 (show 0 ≤ 0 from (by first | assumption | omega | (simp_all <;> omega))) (Nat.lt_succ_self _)) h0) <| sK [] sN) rfl (by kernel_rfl) (by kernel_rfl) rfl ?_ ?_
  · simp only [v_laws_heldVectorS, h0]
  · rfl
 | inr r1 =>
  refine fnS E0Ok hMixed (c := bodyOf f42) [] (.i .i64 r1) [] func42 (sL mk_laws_heldVectorS_1_0 0 (lp_val (ls_laws_heldVectorS_1 a_0 k_1) (x := (lr_laws_heldVectorS_1_0 a_0 k_1)) (lp_laws_heldVectorS_1 a_0 k_1 hp0 (((a_0.length : Int) - 0).toNat + 1) k_1 0 (show 0 ≤ 0 from (by first | assumption | omega | (simp_all <;> omega))) (Nat.lt_succ_self _)) h0) <| sK [] sN) rfl (by kernel_rfl) (by kernel_rfl) rfl ?_ ?_
  · simp only [v_laws_heldVectorS, h0]
  · rfl

def hp_Vector (x : GVector) (c : Int) : Bool := (!(fcmp .neq .f32 x.X (ofInt .f32 c))) && (!(fcmp .neq .f32 x.Y (ofInt .f32 (IntKind.wrap .i64 (c + 1))))) && (!(fcmp .neq .f32 x.Z (ofInt .f32 (IntKind.wrap .i64 ((IntKind.wrap .i64 (c + 1)) + 1)))))
def hq_Vector (_ : GVector) (c : Int) : Int := (IntKind.wrap .i64 ((IntKind.wrap .i64 ((IntKind.wrap .i64 (c + 1)) + 1)) + 1))
theorem hdeq_Vector (a : List GVector) (c : Int) : v_laws_heldVectorS a c = match hdL hp_Vector hq_Vector a c with
    | some c' => c'
    | none => -1 := by
  unfold v_laws_heldVectorS lr_laws_heldVectorS_1_0
  rw [held_loop (p := hp_Vector) (q := hq_Vector) (a := a) (x := ()) (lo := lo_laws_heldVectorS_1 a c) (fun k c i => by
    rw [lo_laws_heldVectorS_1]
    unfold hp_Vector hq_Vector
    generalize a.getD i.toNat default = x
    cases decide (i < (a.length : Int)) <;> cases fcmp .neq .f32 x.X (ofInt .f32 c) <;> cases fcmp .neq .f32 x.Y (ofInt .f32 (IntKind.wrap .i64 (c + 1))) <;> cases fcmp .neq .f32 x.Z (ofInt .f32 (IntKind.wrap .i64 ((IntKind.wrap .i64 (c + 1)) + 1))) <;> rfl) _ _ _ (Int.le_refl 0) (Nat.lt_succ_self _)]
  simp only [Int.toNat_zero, List.drop_zero]
  cases hdL hp_Vector hq_Vector a c <;> rfl

def lo_laws_heldInt64S_1 (a_0 : (List Int)) (k_1 : Int) : Nat → Int → Int → (Unit) ⊕ (Int)
  | 0, _, _ => .inl default
  | k + 1, k_l0, i_l1 => (cond (decide (i_l1 < (a_0.length : Int)))
    (cond ((a_0.getD i_l1.toNat default) != k_l0)
      (.inl ())
      (lo_laws_heldInt64S_1 a_0 k_1 k (IntKind.wrap .i64 (k_l0 + 1)) (i_l1 + 1)))
    (.inr k_l0))

def ls_laws_heldInt64S_1 (a_0 : (List Int)) (k_1 : Int) : (Unit) ⊕ (Int) → Ex × St
  | .inl r => (.ret, ⟨[.any, .any, .any, .any, .i .i64 (-1), .any, .any, .any, .any, .any, .any, .any, .any, .any, .any, .any, .any, .any, .any, .any, .any], []⟩)
  | .inr r => ((.exit 0), ⟨[.any, .i .i64 r, .any, .any, .any, .any, .any, .any, .any, .any, .any, .any, .any, .any, .any, .any, .any, .any, .any, .any, .any], []⟩)

def hd_laws_heldInt64S_1 (a_0 : (List Int)) (k_1 : Int) (k_l0 : Int) (i_l1 : Int) : St := ⟨[.sl (a_0.map (cI .i64)), .i .i64 k_l0, .any, .any, .any, .i .i64 i_l1, .any, .any, .any, .any, .any, .any, .any, .any, .any, .any, .any, .any, .any, .any, .any], []⟩

def mk_laws_heldInt64S_1_0 : List Bool := [true, true, false, false, false, true, false, false, false, false, false, false, false, false, false, false, false, false, false, false, false]

def mk_laws_heldInt64S_1_1 : List Bool := [false, false, false, false, true, false, false, false, false, false, false, false, false, false, false, false, false, false, false, false, false]

def mk_laws_heldInt64S_1_2 : List Bool := [false, true, false, false, false, false, false, false, false, false, false, false, false, false, false, false, false, false, false, false, false]

theorem lp_laws_heldInt64S_1 (a_0 : (List Int)) (k_1 : Int) (hp0 : a_0.length ≤ 1073741824) : ∀ (k : Nat) (k_l0 : Int) (i_l1 : Int) (hv_laws_heldInt64S_1_0 : 0 ≤ i_l1) (hk : ((a_0.length : Int) - i_l1).toNat < k), Lp prog 0 (sub (bodyOf f35) [1, 0, 1, 0, 0]) (hd_laws_heldInt64S_1 a_0 k_1 k_l0 i_l1) (ls_laws_heldInt64S_1 a_0 k_1 (lo_laws_heldInt64S_1 a_0 k_1 k k_l0 i_l1)).1 (ls_laws_heldInt64S_1 a_0 k_1 (lo_laws_heldInt64S_1 a_0 k_1 k k_l0 i_l1)).2 := by
 intro k
 induction k with
 | zero => intro k_l0 i_l1 hv_laws_heldInt64S_1_0 hk; exact absurd hk (Nat.not_lt_zero _)
 | succ k ih =>
  intro k_l0 i_l1 hv_laws_heldInt64S_1_0 hk
  have p {a C} (s : Scr a C) := sZ (cI .i64) a_0 <| s
  cases h_0 : (decide (i_l1 < (a_0.length : Int))) with
  | true =>
   have gh_0 := of_decide_eq_true h_0
   have y_0 : (0 : Int) ≤ i_l1 := by clear p; exact (by first | assumption | omega | (simp_all <;> omega))
   have y_1 : i_l1 < (a_0.length : Int) := by clear p; exact (by first | assumption | omega | (simp_all <;> omega))
   have q {a C} (s : Scr a C) := p (sB h_0 <| sG (cI .i64) a_0 i_l1 y_0 y_1 <| s)
   clear p
   cases h_1 : ((a_0.getD i_l1.toNat default) != k_l0) with
   | true =>
    have gh_1 := bne_iff_ne.1 h_1
    have e : lo_laws_heldInt64S_1 a_0 k_1 (k + 1) k_l0 i_l1 = (.inl ()) := by simp only [lo_laws_heldInt64S_1, h_0, h_1, cond_true]
    rw [e]
    exact outR (e := .ret) E0Ok hMixed [] mk_laws_heldInt64S_1_1 [] (q (sB h_1 <| sN)) (by kernel_rfl) (by intro h; cases h)
   | false =>
    have gh_1 := bne_eq_false_iff_eq.1 h_1
    have y_2 : (-9223372036854775808 : Int) ≤ (i_l1 + 1) := by clear q; exact (by first | assumption | omega | (simp_all <;> omega))
    have y_3 : (i_l1 + 1) ≤ (9223372036854775807 : Int) := by clear q; exact (by first | assumption | omega | (simp_all <;> omega))
    have e : lo_laws_heldInt64S_1 a_0 k_1 (k + 1) k_l0 i_l1 = (lo_laws_heldInt64S_1 a_0 k_1 k (IntKind.wrap .i64 (k_l0 + 1)) (i_l1 + 1)) := by simp only [lo_laws_heldInt64S_1, h_0, h_1, cond_true, cond_false]
    rw [e]
    exact nextR E0Ok hMixed [] mk_laws_heldInt64S_1_0 [] (ih (IntKind.wrap .i64 (k_l0 + 1)) (i_l1 + 1) (show 0 ≤ (i_l1 + 1) from (by first | assumption | omega | (simp_all <;> omega))) (by first | assumption | omega | (simp_all <;> omega))) (q (sB h_1 <| sW .i64 (k_l0 + 1) <| sI (i_l1 + 1) y_2 y_3 <| sN)) (by kernel_rfl)
  | false =>
   have gh_0 := of_decide_eq_false h_0
   have e : lo_laws_heldInt64S_1 a_0 k_1 (k + 1) k_l0 i_l1 = (.inr k_l0) := by simp only [lo_laws_heldInt64S_1, h_0, cond_false]
   rw [e]
   exact outR (e := (.exit 0)) E0Ok hMixed [] mk_laws_heldInt64S_1_2 [] (p (sB h_0 <| sN)) (by kernel_rfl) (by intro h; cases h)

def lr_laws_heldInt64S_1_0 (a_0 : (List Int)) (k_1 : Int) : (Unit) ⊕ (Int) := (lo_laws_heldInt64S_1 a_0 k_1 (((a_0.length : Int) - 0).toNat + 1) k_1 0)

def v_laws_heldInt64S (a_0 : (List Int)) (k_1 : Int) : Int := (match (lr_laws_heldInt64S_1_0 a_0 k_1) with
  | .inl r1 => (-1)
  | .inr r1 => r1)

theorem t_laws_heldInt64S (a_0 : (List Int)) (k_1 : Int) (hp0 : a_0.length ≤ 1073741824)  : Fn prog 35 [.sl (a_0.map (cI .i64)), .i .i64 k_1] (.i .i64 (v_laws_heldInt64S a_0 k_1)) [] := by
 cases h0 : (lr_laws_heldInt64S_1_0 a_0 k_1) with
 | inl r1 =>
  refine fnS E0Ok hMixed (c := bodyOf f35) [] (.i .i64 (-1)) [] func35 (sL mk_laws_heldInt64S_1_0 0 (lp_val (ls_laws_heldInt64S_1 a_0 k_1) (x := (lr_laws_heldInt64S_1_0 a_0 k_1)) (lp_laws_heldInt64S_1 a_0 k_1 hp0 (((a_0.length : Int) - 0).toNat + 1) k_1 0 (show 0 ≤ 0 from (by first | assumption | omega | (simp_all <;> omega))) (Nat.lt_succ_self _)) h0) <| sK [] sN) rfl (by kernel_rfl) (by kernel_rfl) rfl ?_ ?_
  · simp only [v_laws_heldInt64S, h0]
  · rfl
 | inr r1 =>
  refine fnS E0Ok hMixed (c := bodyOf f35) [] (.i .i64 r1) [] func35 (sL mk_laws_heldInt64S_1_0 0 (lp_val (ls_laws_heldInt64S_1 a_0 k_1) (x := (lr_laws_heldInt64S_1_0 a_0 k_1)) (lp_laws_heldInt64S_1 a_0 k_1 hp0 (((a_0.length : Int) - 0).toNat + 1) k_1 0 (show 0 ≤ 0 from (by first | assumption | omega | (simp_all <;> omega))) (Nat.lt_succ_self _)) h0) <| sK [] sN) rfl (by kernel_rfl) (by kernel_rfl) rfl ?_ ?_
  · simp only [v_laws_heldInt64S, h0]
  · rfl

def hp_Int64 (x : Int) (c : Int) : Bool := (!(x != c))
def hq_Int64 (_ : Int) (c : Int) : Int := (IntKind.wrap .i64 (c + 1))
theorem hdeq_Int64 (a : List Int) (c : Int) : v_laws_heldInt64S a c = match hdL hp_Int64 hq_Int64 a c with
    | some c' => c'
    | none => -1 := by
  unfold v_laws_heldInt64S lr_laws_heldInt64S_1_0
  rw [held_loop (p := hp_Int64) (q := hq_Int64) (a := a) (x := ()) (lo := lo_laws_heldInt64S_1 a c) (fun k c i => by
    rw [lo_laws_heldInt64S_1]
    unfold hp_Int64 hq_Int64
    generalize a.getD i.toNat default = x
    cases decide (i < (a.length : Int)) <;> cases (x != c) <;> rfl) _ _ _ (Int.le_refl 0) (Nat.lt_succ_self _)]
  simp only [Int.toNat_zero, List.drop_zero]
  cases hdL hp_Int64 hq_Int64 a c <;> rfl

def lo_laws_heldInt64SS_1 (a_0 : (List (List Int))) (k_1 : Int) : Nat → Int → Int → (Unit) ⊕ (Int)
  | 0, _, _ => .inl default
  | k + 1, k_l0, i_l1 => (cond (decide (i_l1 < (a_0.length : Int)))
    (cond (decide ((v_laws_heldInt64S (a_0.getD i_l1.toNat default) k_l0) < 0))
      (.inl ())
      (lo_laws_heldInt64SS_1 a_0 k_1 k (v_laws_heldInt64S (a_0.getD i_l1.toNat default) k_l0) (i_l1 + 1)))
    (.inr k_l0))

def ls_laws_heldInt64SS_1 (a_0 : (List (List Int))) (k_1 : Int) : (Unit) ⊕ (Int) → Ex × St
  | .inl r => (.ret, ⟨[.any, .any, .any, .any, .i .i64 (-1), .any, .any, .any, .any, .any, .any, .any, .any, .any, .any, .any, .any, .any, .any, .any, .any], []⟩)
  | .inr r => ((.exit 0), ⟨[.any, .i .i64 r, .any, .any, .any, .any, .any, .any, .any, .any, .any, .any, .any, .any, .any, .any, .any, .any, .any, .any, .any], []⟩)

def hd_laws_heldInt64SS_1 (a_0 : (List (List Int))) (k_1 : Int) (k_l0 : Int) (i_l1 : Int) : St := ⟨[.sl (a_0.map (cL (cI .i64))), .i .i64 k_l0, .any, .any, .any, .i .i64 i_l1, .any, .any, .any, .any, .any, .any, .any, .any, .any, .any, .any, .any, .any, .any, .any], []⟩

def mk_laws_heldInt64SS_1_0 : List Bool := [true, true, false, false, false, true, false, false, false, false, false, false, false, false, false, false, false, false, false, false, false]

def mk_laws_heldInt64SS_1_1 : List Bool := [false, false, false, false, true, false, false, false, false, false, false, false, false, false, false, false, false, false, false, false, false]

def mk_laws_heldInt64SS_1_2 : List Bool := [false, true, false, false, false, false, false, false, false, false, false, false, false, false, false, false, false, false, false, false, false]

theorem lp_laws_heldInt64SS_1 (a_0 : (List (List Int))) (k_1 : Int) (hp0 : a_0.length ≤ 1073741824) (hp1 : ∀ t ∈ a_0, t.length ≤ 1073741824) : ∀ (k : Nat) (k_l0 : Int) (i_l1 : Int) (hv_laws_heldInt64SS_1_0 : 0 ≤ i_l1) (hk : ((a_0.length : Int) - i_l1).toNat < k), Lp prog 0 (sub (bodyOf f63) [1, 0, 1, 0, 0]) (hd_laws_heldInt64SS_1 a_0 k_1 k_l0 i_l1) (ls_laws_heldInt64SS_1 a_0 k_1 (lo_laws_heldInt64SS_1 a_0 k_1 k k_l0 i_l1)).1 (ls_laws_heldInt64SS_1 a_0 k_1 (lo_laws_heldInt64SS_1 a_0 k_1 k k_l0 i_l1)).2 := by
 intro k
 induction k with
 | zero => intro k_l0 i_l1 hv_laws_heldInt64SS_1_0 hk; exact absurd hk (Nat.not_lt_zero _)
 | succ k ih =>
  intro k_l0 i_l1 hv_laws_heldInt64SS_1_0 hk
  have p {a C} (s : Scr a C) := sZ (cL (cI .i64)) a_0 <| s
  cases h_0 : (decide (i_l1 < (a_0.length : Int))) with
  | true =>
   have gh_0 := of_decide_eq_true h_0
   have y_0 : (0 : Int) ≤ i_l1 := by clear p; exact (by first | assumption | omega | (simp_all <;> omega))
   have y_1 : i_l1 < (a_0.length : Int) := by clear p; exact (by first | assumption | omega | (simp_all <;> omega))
   have y_2 : (a_0.getD i_l1.toNat default).length ≤ 1073741824 := by clear p; exact (by first | assumption | omega | (simp_all <;> omega))
   have q {a C} (s : Scr a C) := p (sB h_0 <| sG (cL (cI .i64)) a_0 i_l1 y_0 y_1 <| sF (t_laws_heldInt64S (a_0.getD i_l1.toNat default) k_l0 y_2) <| s)
   clear p
   cases h_1 : (decide ((v_laws_heldInt64S (a_0.getD i_l1.toNat default) k_l0) < 0)) with
   | true =>
    have gh_1 := of_decide_eq_true h_1
    have e : lo_laws_heldInt64SS_1 a_0 k_1 (k + 1) k_l0 i_l1 = (.inl ()) := by simp only [lo_laws_heldInt64SS_1, h_0, h_1, cond_true]
    rw [e]
    exact outR (e := .ret) E0Ok hMixed [] mk_laws_heldInt64SS_1_1 [] (q (sB h_1 <| sN)) (by kernel_rfl) (by intro h; cases h)
   | false =>
    have gh_1 := of_decide_eq_false h_1
    have y_3 : (-9223372036854775808 : Int) ≤ (i_l1 + 1) := by clear q; exact (by first | assumption | omega | (simp_all <;> omega))
    have y_4 : (i_l1 + 1) ≤ (9223372036854775807 : Int) := by clear q; exact (by first | assumption | omega | (simp_all <;> omega))
    have e : lo_laws_heldInt64SS_1 a_0 k_1 (k + 1) k_l0 i_l1 = (lo_laws_heldInt64SS_1 a_0 k_1 k (v_laws_heldInt64S (a_0.getD i_l1.toNat default) k_l0) (i_l1 + 1)) := by simp only [lo_laws_heldInt64SS_1, h_0, h_1, cond_true, cond_false]
    rw [e]
    exact nextR E0Ok hMixed [] mk_laws_heldInt64SS_1_0 [] (ih (v_laws_heldInt64S (a_0.getD i_l1.toNat default) k_l0) (i_l1 + 1) (show 0 ≤ (i_l1 + 1) from (by first | assumption | omega | (simp_all <;> omega))) (by first | assumption | omega | (simp_all <;> omega))) (q (sB h_1 <| sI (i_l1 + 1) y_3 y_4 <| sN)) (by kernel_rfl)
  | false =>
   have gh_0 := of_decide_eq_false h_0
   have e : lo_laws_heldInt64SS_1 a_0 k_1 (k + 1) k_l0 i_l1 = (.inr k_l0) := by simp only [lo_laws_heldInt64SS_1, h_0, cond_false]
   rw [e]
   exact outR (e := (.exit 0)) E0Ok hMixed [] mk_laws_heldInt64SS_1_2 [] (p (sB h_0 <| sN)) (by kernel_rfl) (by intro h; cases h)

def lr_laws_heldInt64SS_1_0 (a_0 : (List (List Int))) (k_1 : Int) : (Unit) ⊕ (Int) := (lo_laws_heldInt64SS_1 a_0 k_1 (((a_0.length : Int) - 0).toNat + 1) k_1 0)

def v_laws_heldInt64SS (a_0 : (List (List Int))) (k_1 : Int) : Int := (match (lr_laws_heldInt64SS_1_0 a_0 k_1) with
  | .inl r1 => (-1)
  | .inr r1 => r1)

theorem t_laws_heldInt64SS (a_0 : (List (List Int))) (k_1 : Int) (hp0 : a_0.length ≤ 1073741824) (hp1 : ∀ t ∈ a_0, t.length ≤ 1073741824)  : Fn prog 63 [.sl (a_0.map (cL (cI .i64))), .i .i64 k_1] (.i .i64 (v_laws_heldInt64SS a_0 k_1)) [] := by
 cases h0 : (lr_laws_heldInt64SS_1_0 a_0 k_1) with
 | inl r1 =>
  refine fnS E0Ok hMixed (c := bodyOf f63) [] (.i .i64 (-1)) [] func63 (sL mk_laws_heldInt64SS_1_0 0 (lp_val (ls_laws_heldInt64SS_1 a_0 k_1) (x := (lr_laws_heldInt64SS_1_0 a_0 k_1)) (lp_laws_heldInt64SS_1 a_0 k_1 hp0 hp1 (((a_0.length : Int) - 0).toNat + 1) k_1 0 (show 0 ≤ 0 from (by first | assumption | omega | (simp_all <;> omega))) (Nat.lt_succ_self _)) h0) <| sK [] sN) rfl (by kernel_rfl) (by kernel_rfl) rfl ?_ ?_
  · simp only [v_laws_heldInt64SS, h0]
  · rfl
 | inr r1 =>
  refine fnS E0Ok hMixed (c := bodyOf f63) [] (.i .i64 r1) [] func63 (sL mk_laws_heldInt64SS_1_0 0 (lp_val (ls_laws_heldInt64SS_1 a_0 k_1) (x := (lr_laws_heldInt64SS_1_0 a_0 k_1)) (lp_laws_heldInt64SS_1 a_0 k_1 hp0 hp1 (((a_0.length : Int) - 0).toNat + 1) k_1 0 (show 0 ≤ 0 from (by first | assumption | omega | (simp_all <;> omega))) (Nat.lt_succ_self _)) h0) <| sK [] sN) rfl (by kernel_rfl) (by kernel_rfl) rfl ?_ ?_
  · simp only [v_laws_heldInt64SS, h0]
  · rfl

theorem hdeq_Int64SS (a : List (List Int)) (c : Int) : v_laws_heldInt64SS a c = match hdL (fun x c => !(decide (v_laws_heldInt64S x c < 0))) v_laws_heldInt64S a c with
    | some c' => c'
    | none => -1 := by
  unfold v_laws_heldInt64SS lr_laws_heldInt64SS_1_0
  rw [held_loop (p := fun x c => !(decide (v_laws_heldInt64S x c < 0))) (q := v_laws_heldInt64S) (a := a) (x := ()) (lo := lo_laws_heldInt64SS_1 a c) (fun k c i => by
    rw [lo_laws_heldInt64SS_1]
    cases decide (i < (a.length : Int)) <;> cases decide (v_laws_heldInt64S (a.getD i.toNat default) c < 0) <;> rfl) _ _ _ (Int.le_refl 0) (Nat.lt_succ_self _)]
  simp only [Int.toNat_zero, List.drop_zero]
  cases hdL (fun x c => !(decide (v_laws_heldInt64S x c < 0))) v_laws_heldInt64S a c <;> rfl

def v_laws_heldMesh (a_0 : GMesh) (k_1 : Int) : Int := (cond (decide ((v_laws_heldVectorS a_0.Places k_1) < 0))
  (-1)
  (cond (decide ((v_laws_heldInt64SS a_0.Triangles (v_laws_heldVectorS a_0.Places k_1)) < 0))
    (-1)
    (v_laws_heldInt64SS a_0.Triangles (v_laws_heldVectorS a_0.Places k_1))))

theorem t_laws_heldMesh (a_0 : GMesh) (k_1 : Int) (hp0 : a_0.Places.length ≤ 1073741824) (hp1 : a_0.Triangles.length ≤ 1073741824) (hp2 : ∀ t ∈ a_0.Triangles, t.length ≤ 1073741824)  : Fn prog 49 [.agg [.sl (a_0.Places.map GVector.cells), .sl (a_0.Triangles.map (cL (cI .i64)))], .i .i64 k_1] (.i .i64 (v_laws_heldMesh a_0 k_1)) [] := by
 have p {a C} (s : Scr a C) := sF (t_laws_heldVectorS a_0.Places k_1 hp0) <| s
 cases h0 : (decide ((v_laws_heldVectorS a_0.Places k_1) < 0)) with
 | true =>
  have gh0 := of_decide_eq_true h0
  refine fnS E0Ok hMixed (c := bodyOf f49) [] (.i .i64 (-1)) [] func49 (p (sB h0 <| sK [] sN)) rfl (by kernel_rfl) (by kernel_rfl) rfl ?_ ?_
  · simp only [v_laws_heldMesh, h0, cond_true]
  · rfl
 | false =>
  have gh0 := of_decide_eq_false h0
  have q {a C} (s : Scr a C) := p (sB h0 <| sF (t_laws_heldInt64SS a_0.Triangles (v_laws_heldVectorS a_0.Places k_1) hp1 hp2) <| s)
  clear p
  cases h1 : (decide ((v_laws_heldInt64SS a_0.Triangles (v_laws_heldVectorS a_0.Places k_1)) < 0)) with
  | true =>
   have gh1 := of_decide_eq_true h1
   refine fnS E0Ok hMixed (c := bodyOf f49) [] (.i .i64 (-1)) [] func49 (q (sB h1 <| sK [] sN)) rfl (by kernel_rfl) (by kernel_rfl) rfl ?_ ?_
   · simp only [v_laws_heldMesh, h0, h1, cond_true, cond_false]
   · rfl
  | false =>
   have gh1 := of_decide_eq_false h1
   refine fnS E0Ok hMixed (c := bodyOf f49) [] (.i .i64 (v_laws_heldInt64SS a_0.Triangles (v_laws_heldVectorS a_0.Places k_1))) [] func49 (q (sB h1 <| sK [] sN)) rfl (by kernel_rfl) (by kernel_rfl) rfl ?_ ?_
   · simp only [v_laws_heldMesh, h0, h1, cond_false]
   · rfl

def lo_laws_heldSpringS_1 (a_0 : (List GSpring)) (k_1 : Int) : Nat → Int → Int → (Unit) ⊕ (Int)
  | 0, _, _ => .inl default
  | k + 1, k_l0, i_l1 => (cond (decide (i_l1 < (a_0.length : Int)))
    (cond ((a_0.getD i_l1.toNat default).A != k_l0)
      (.inl ())
      (cond ((a_0.getD i_l1.toNat default).B != (IntKind.wrap .i64 (k_l0 + 1)))
        (.inl ())
        (cond (fcmp .neq .f32 ((a_0.getD i_l1.toNat default).Long) (ofInt .f32 (IntKind.wrap .i64 ((IntKind.wrap .i64 (k_l0 + 1)) + 1))))
          (.inl ())
          (cond (fcmp .neq .f32 ((a_0.getD i_l1.toNat default).Stiff) (ofInt .f32 (IntKind.wrap .i64 ((IntKind.wrap .i64 ((IntKind.wrap .i64 (k_l0 + 1)) + 1)) + 1))))
            (.inl ())
            (lo_laws_heldSpringS_1 a_0 k_1 k (IntKind.wrap .i64 ((IntKind.wrap .i64 ((IntKind.wrap .i64 ((IntKind.wrap .i64 (k_l0 + 1)) + 1)) + 1)) + 1)) (i_l1 + 1))))))
    (.inr k_l0))

def ls_laws_heldSpringS_1 (a_0 : (List GSpring)) (k_1 : Int) : (Unit) ⊕ (Int) → Ex × St
  | .inl r => (.ret, ⟨[.any, .any, .any, .any, .i .i64 (-1), .any, .any, .any, .any, .any, .any, .any, .any, .any, .any, .any, .any, .any, .any, .any, .any, .any, .any, .any, .any, .any, .any, .any, .any, .any, .any, .any, .any, .any, .any, .any, .any, .any, .any, .any, .any, .any, .any, .any, .any, .any, .any, .any, .any, .any, .any], []⟩)
  | .inr r => ((.exit 0), ⟨[.any, .i .i64 r, .any, .any, .any, .any, .any, .any, .any, .any, .any, .any, .any, .any, .any, .any, .any, .any, .any, .any, .any, .any, .any, .any, .any, .any, .any, .any, .any, .any, .any, .any, .any, .any, .any, .any, .any, .any, .any, .any, .any, .any, .any, .any, .any, .any, .any, .any, .any, .any, .any], []⟩)

def hd_laws_heldSpringS_1 (a_0 : (List GSpring)) (k_1 : Int) (k_l0 : Int) (i_l1 : Int) : St := ⟨[.sl (a_0.map GSpring.cells), .i .i64 k_l0, .any, .any, .any, .i .i64 i_l1, .any, .any, .any, .any, .any, .any, .any, .any, .any, .any, .any, .any, .any, .any, .any, .any, .any, .any, .any, .any, .any, .any, .any, .any, .any, .any, .any, .any, .any, .any, .any, .any, .any, .any, .any, .any, .any, .any, .any, .any, .any, .any, .any, .any, .any], []⟩

def mk_laws_heldSpringS_1_0 : List Bool := [true, true, false, false, false, true, false, false, false, false, false, false, false, false, false, false, false, false, false, false, false, false, false, false, false, false, false, false, false, false, false, false, false, false, false, false, false, false, false, false, false, false, false, false, false, false, false, false, false, false, false]

def mk_laws_heldSpringS_1_1 : List Bool := [false, false, false, false, true, false, false, false, false, false, false, false, false, false, false, false, false, false, false, false, false, false, false, false, false, false, false, false, false, false, false, false, false, false, false, false, false, false, false, false, false, false, false, false, false, false, false, false, false, false, false]

def mk_laws_heldSpringS_1_2 : List Bool := [false, true, false, false, false, false, false, false, false, false, false, false, false, false, false, false, false, false, false, false, false, false, false, false, false, false, false, false, false, false, false, false, false, false, false, false, false, false, false, false, false, false, false, false, false, false, false, false, false, false, false]

theorem lp_laws_heldSpringS_1 (a_0 : (List GSpring)) (k_1 : Int) (hp0 : a_0.length ≤ 1073741824) : ∀ (k : Nat) (k_l0 : Int) (i_l1 : Int) (hv_laws_heldSpringS_1_0 : 0 ≤ i_l1) (hk : ((a_0.length : Int) - i_l1).toNat < k), Lp prog 0 (sub (bodyOf f103) [1, 0, 1, 0, 0]) (hd_laws_heldSpringS_1 a_0 k_1 k_l0 i_l1) (ls_laws_heldSpringS_1 a_0 k_1 (lo_laws_heldSpringS_1 a_0 k_1 k k_l0 i_l1)).1 (ls_laws_heldSpringS_1 a_0 k_1 (lo_laws_heldSpringS_1 a_0 k_1 k k_l0 i_l1)).2 := by
 intro k
 induction k with
 | zero => intro k_l0 i_l1 hv_laws_heldSpringS_1_0 hk; exact absurd hk (Nat.not_lt_zero _)
 | succ k ih =>
  intro k_l0 i_l1 hv_laws_heldSpringS_1_0 hk
  have p {a C} (s : Scr a C) := sZ GSpring.cells a_0 <| s
  cases h_0 : (decide (i_l1 < (a_0.length : Int))) with
  | true =>
   have gh_0 := of_decide_eq_true h_0
   have y_0 : (0 : Int) ≤ i_l1 := by clear p; exact (by first | assumption | omega | (simp_all <;> omega))
   have y_1 : i_l1 < (a_0.length : Int) := by clear p; exact (by first | assumption | omega | (simp_all <;> omega))
   have q {a C} (s : Scr a C) := p (sB h_0 <| sG GSpring.cells a_0 i_l1 y_0 y_1 <| s)
   clear p
   cases h_1 : ((a_0.getD i_l1.toNat default).A != k_l0) with
   | true =>
    have gh_1 := bne_iff_ne.1 h_1
    have e : lo_laws_heldSpringS_1 a_0 k_1 (k + 1) k_l0 i_l1 = (.inl ()) := by simp only [lo_laws_heldSpringS_1, h_0, h_1, cond_true]
    rw [e]
    exact outR (e := .ret) E0Ok hMixed [] mk_laws_heldSpringS_1_1 [] (q (sB h_1 <| sN)) (by kernel_rfl) (by intro h; cases h)
   | false =>
    have gh_1 := bne_eq_false_iff_eq.1 h_1
    have p {a C} (s : Scr a C) := q (sB h_1 <| sW .i64 (k_l0 + 1) <| sG GSpring.cells a_0 i_l1 y_0 y_1 <| s)
    clear q
    cases h_2 : ((a_0.getD i_l1.toNat default).B != (IntKind.wrap .i64 (k_l0 + 1))) with
    | true =>
     have gh_2 := bne_iff_ne.1 h_2
     have e : lo_laws_heldSpringS_1 a_0 k_1 (k + 1) k_l0 i_l1 = (.inl ()) := by simp only [lo_laws_heldSpringS_1, h_0, h_1, h_2, cond_true, cond_false]
     rw [e]
     exact outR (e := .ret) E0Ok hMixed [] mk_laws_heldSpringS_1_1 [] (p (sB h_2 <| sN)) (by kernel_rfl) (by intro h; cases h)
    | false =>
     have gh_2 := bne_eq_false_iff_eq.1 h_2
     have q {a C} (s : Scr a C) := p (sB h_2 <| sW .i64 ((IntKind.wrap .i64 (k_l0 + 1)) + 1) <| sG GSpring.cells a_0 i_l1 y_0 y_1 <| s)
     clear p
     cases h_3 : (fcmp .neq .f32 ((a_0.getD i_l1.toNat default).Long) (ofInt .f32 (IntKind.wrap .i64 ((IntKind.wrap .i64 (k_l0 + 1)) + 1)))) with
     | true =>
      have e : lo_laws_heldSpringS_1 a_0 k_1 (k + 1) k_l0 i_l1 = (.inl ()) := by simp only [lo_laws_heldSpringS_1, h_0, h_1, h_2, h_3, cond_true, cond_false]
      rw [e]
      exact outR (e := .ret) E0Ok hMixed [] mk_laws_heldSpringS_1_1 [] (q (sB h_3 <| sN)) (by kernel_rfl) (by intro h; cases h)
     | false =>
      have p {a C} (s : Scr a C) := q (sB h_3 <| sW .i64 ((IntKind.wrap .i64 ((IntKind.wrap .i64 (k_l0 + 1)) + 1)) + 1) <| sG GSpring.cells a_0 i_l1 y_0 y_1 <| s)
      clear q
      cases h_4 : (fcmp .neq .f32 ((a_0.getD i_l1.toNat default).Stiff) (ofInt .f32 (IntKind.wrap .i64 ((IntKind.wrap .i64 ((IntKind.wrap .i64 (k_l0 + 1)) + 1)) + 1)))) with
      | true =>
       have e : lo_laws_heldSpringS_1 a_0 k_1 (k + 1) k_l0 i_l1 = (.inl ()) := by simp only [lo_laws_heldSpringS_1, h_0, h_1, h_2, h_3, h_4, cond_true, cond_false]
       rw [e]
       exact outR (e := .ret) E0Ok hMixed [] mk_laws_heldSpringS_1_1 [] (p (sB h_4 <| sN)) (by kernel_rfl) (by intro h; cases h)
      | false =>
       have y_2 : (-9223372036854775808 : Int) ≤ (i_l1 + 1) := by clear p; exact (by first | assumption | omega | (simp_all <;> omega))
       have y_3 : (i_l1 + 1) ≤ (9223372036854775807 : Int) := by clear p; exact (by first | assumption | omega | (simp_all <;> omega))
       have e : lo_laws_heldSpringS_1 a_0 k_1 (k + 1) k_l0 i_l1 = (lo_laws_heldSpringS_1 a_0 k_1 k (IntKind.wrap .i64 ((IntKind.wrap .i64 ((IntKind.wrap .i64 ((IntKind.wrap .i64 (k_l0 + 1)) + 1)) + 1)) + 1)) (i_l1 + 1)) := by simp only [lo_laws_heldSpringS_1, h_0, h_1, h_2, h_3, h_4, cond_true, cond_false]
       rw [e]
       exact nextR E0Ok hMixed [] mk_laws_heldSpringS_1_0 [] (ih (IntKind.wrap .i64 ((IntKind.wrap .i64 ((IntKind.wrap .i64 ((IntKind.wrap .i64 (k_l0 + 1)) + 1)) + 1)) + 1)) (i_l1 + 1) (show 0 ≤ (i_l1 + 1) from (by first | assumption | omega | (simp_all <;> omega))) (by first | assumption | omega | (simp_all <;> omega))) (p (sB h_4 <| sW .i64 ((IntKind.wrap .i64 ((IntKind.wrap .i64 ((IntKind.wrap .i64 (k_l0 + 1)) + 1)) + 1)) + 1) <| sI (i_l1 + 1) y_2 y_3 <| sN)) (by kernel_rfl)
  | false =>
   have gh_0 := of_decide_eq_false h_0
   have e : lo_laws_heldSpringS_1 a_0 k_1 (k + 1) k_l0 i_l1 = (.inr k_l0) := by simp only [lo_laws_heldSpringS_1, h_0, cond_false]
   rw [e]
   exact outR (e := (.exit 0)) E0Ok hMixed [] mk_laws_heldSpringS_1_2 [] (p (sB h_0 <| sN)) (by kernel_rfl) (by intro h; cases h)

def lr_laws_heldSpringS_1_0 (a_0 : (List GSpring)) (k_1 : Int) : (Unit) ⊕ (Int) := (lo_laws_heldSpringS_1 a_0 k_1 (((a_0.length : Int) - 0).toNat + 1) k_1 0)

def v_laws_heldSpringS (a_0 : (List GSpring)) (k_1 : Int) : Int := (match (lr_laws_heldSpringS_1_0 a_0 k_1) with
  | .inl r1 => (-1)
  | .inr r1 => r1)

theorem t_laws_heldSpringS (a_0 : (List GSpring)) (k_1 : Int) (hp0 : a_0.length ≤ 1073741824)  : Fn prog 103 [.sl (a_0.map GSpring.cells), .i .i64 k_1] (.i .i64 (v_laws_heldSpringS a_0 k_1)) [] := by
 cases h0 : (lr_laws_heldSpringS_1_0 a_0 k_1) with
 | inl r1 =>
  refine fnS E0Ok hMixed (c := bodyOf f103) [] (.i .i64 (-1)) [] func103 (sL mk_laws_heldSpringS_1_0 0 (lp_val (ls_laws_heldSpringS_1 a_0 k_1) (x := (lr_laws_heldSpringS_1_0 a_0 k_1)) (lp_laws_heldSpringS_1 a_0 k_1 hp0 (((a_0.length : Int) - 0).toNat + 1) k_1 0 (show 0 ≤ 0 from (by first | assumption | omega | (simp_all <;> omega))) (Nat.lt_succ_self _)) h0) <| sK [] sN) rfl (by kernel_rfl) (by kernel_rfl) rfl ?_ ?_
  · simp only [v_laws_heldSpringS, h0]
  · rfl
 | inr r1 =>
  refine fnS E0Ok hMixed (c := bodyOf f103) [] (.i .i64 r1) [] func103 (sL mk_laws_heldSpringS_1_0 0 (lp_val (ls_laws_heldSpringS_1 a_0 k_1) (x := (lr_laws_heldSpringS_1_0 a_0 k_1)) (lp_laws_heldSpringS_1 a_0 k_1 hp0 (((a_0.length : Int) - 0).toNat + 1) k_1 0 (show 0 ≤ 0 from (by first | assumption | omega | (simp_all <;> omega))) (Nat.lt_succ_self _)) h0) <| sK [] sN) rfl (by kernel_rfl) (by kernel_rfl) rfl ?_ ?_
  · simp only [v_laws_heldSpringS, h0]
  · rfl

def hp_Spring (x : GSpring) (c : Int) : Bool := (!(x.A != c)) && (!(x.B != (IntKind.wrap .i64 (c + 1)))) && (!(fcmp .neq .f32 x.Long (ofInt .f32 (IntKind.wrap .i64 ((IntKind.wrap .i64 (c + 1)) + 1))))) && (!(fcmp .neq .f32 x.Stiff (ofInt .f32 (IntKind.wrap .i64 ((IntKind.wrap .i64 ((IntKind.wrap .i64 (c + 1)) + 1)) + 1)))))
def hq_Spring (_ : GSpring) (c : Int) : Int := (IntKind.wrap .i64 ((IntKind.wrap .i64 ((IntKind.wrap .i64 ((IntKind.wrap .i64 (c + 1)) + 1)) + 1)) + 1))
theorem hdeq_Spring (a : List GSpring) (c : Int) : v_laws_heldSpringS a c = match hdL hp_Spring hq_Spring a c with
    | some c' => c'
    | none => -1 := by
  unfold v_laws_heldSpringS lr_laws_heldSpringS_1_0
  rw [held_loop (p := hp_Spring) (q := hq_Spring) (a := a) (x := ()) (lo := lo_laws_heldSpringS_1 a c) (fun k c i => by
    rw [lo_laws_heldSpringS_1]
    unfold hp_Spring hq_Spring
    generalize a.getD i.toNat default = x
    cases decide (i < (a.length : Int)) <;> cases (x.A != c) <;> cases (x.B != (IntKind.wrap .i64 (c + 1))) <;> cases fcmp .neq .f32 x.Long (ofInt .f32 (IntKind.wrap .i64 ((IntKind.wrap .i64 (c + 1)) + 1))) <;> cases fcmp .neq .f32 x.Stiff (ofInt .f32 (IntKind.wrap .i64 ((IntKind.wrap .i64 ((IntKind.wrap .i64 (c + 1)) + 1)) + 1))) <;> rfl) _ _ _ (Int.le_refl 0) (Nat.lt_succ_self _)]
  simp only [Int.toNat_zero, List.drop_zero]
  cases hdL hp_Spring hq_Spring a c <;> rfl

def lo_laws_heldFloat32S_1 (a_0 : (List Nat)) (k_1 : Int) : Nat → Int → Int → (Unit) ⊕ (Int)
  | 0, _, _ => .inl default
  | k + 1, k_l0, i_l1 => (cond (decide (i_l1 < (a_0.length : Int)))
    (cond (fcmp .neq .f32 (a_0.getD i_l1.toNat default) (ofInt .f32 k_l0))
      (.inl ())
      (lo_laws_heldFloat32S_1 a_0 k_1 k (IntKind.wrap .i64 (k_l0 + 1)) (i_l1 + 1)))
    (.inr k_l0))

def ls_laws_heldFloat32S_1 (a_0 : (List Nat)) (k_1 : Int) : (Unit) ⊕ (Int) → Ex × St
  | .inl r => (.ret, ⟨[.any, .any, .any, .any, .i .i64 (-1), .any, .any, .any, .any, .any, .any, .any, .any, .any, .any, .any, .any, .any, .any, .any, .any, .any], []⟩)
  | .inr r => ((.exit 0), ⟨[.any, .i .i64 r, .any, .any, .any, .any, .any, .any, .any, .any, .any, .any, .any, .any, .any, .any, .any, .any, .any, .any, .any, .any], []⟩)

def hd_laws_heldFloat32S_1 (a_0 : (List Nat)) (k_1 : Int) (k_l0 : Int) (i_l1 : Int) : St := ⟨[.sl (a_0.map (cF .f32)), .i .i64 k_l0, .any, .any, .any, .i .i64 i_l1, .any, .any, .any, .any, .any, .any, .any, .any, .any, .any, .any, .any, .any, .any, .any, .any], []⟩

def mk_laws_heldFloat32S_1_0 : List Bool := [true, true, false, false, false, true, false, false, false, false, false, false, false, false, false, false, false, false, false, false, false, false]

def mk_laws_heldFloat32S_1_1 : List Bool := [false, false, false, false, true, false, false, false, false, false, false, false, false, false, false, false, false, false, false, false, false, false]

def mk_laws_heldFloat32S_1_2 : List Bool := [false, true, false, false, false, false, false, false, false, false, false, false, false, false, false, false, false, false, false, false, false, false]

theorem lp_laws_heldFloat32S_1 (a_0 : (List Nat)) (k_1 : Int) (hp0 : a_0.length ≤ 1073741824) : ∀ (k : Nat) (k_l0 : Int) (i_l1 : Int) (hv_laws_heldFloat32S_1_0 : 0 ≤ i_l1) (hk : ((a_0.length : Int) - i_l1).toNat < k), Lp prog 0 (sub (bodyOf f104) [1, 0, 1, 0, 0]) (hd_laws_heldFloat32S_1 a_0 k_1 k_l0 i_l1) (ls_laws_heldFloat32S_1 a_0 k_1 (lo_laws_heldFloat32S_1 a_0 k_1 k k_l0 i_l1)).1 (ls_laws_heldFloat32S_1 a_0 k_1 (lo_laws_heldFloat32S_1 a_0 k_1 k k_l0 i_l1)).2 := by
 intro k
 induction k with
 | zero => intro k_l0 i_l1 hv_laws_heldFloat32S_1_0 hk; exact absurd hk (Nat.not_lt_zero _)
 | succ k ih =>
  intro k_l0 i_l1 hv_laws_heldFloat32S_1_0 hk
  have p {a C} (s : Scr a C) := sZ (cF .f32) a_0 <| s
  cases h_0 : (decide (i_l1 < (a_0.length : Int))) with
  | true =>
   have gh_0 := of_decide_eq_true h_0
   have y_0 : (0 : Int) ≤ i_l1 := by clear p; exact (by first | assumption | omega | (simp_all <;> omega))
   have y_1 : i_l1 < (a_0.length : Int) := by clear p; exact (by first | assumption | omega | (simp_all <;> omega))
   have q {a C} (s : Scr a C) := p (sB h_0 <| sG (cF .f32) a_0 i_l1 y_0 y_1 <| s)
   clear p
   cases h_1 : (fcmp .neq .f32 (a_0.getD i_l1.toNat default) (ofInt .f32 k_l0)) with
   | true =>
    have e : lo_laws_heldFloat32S_1 a_0 k_1 (k + 1) k_l0 i_l1 = (.inl ()) := by simp only [lo_laws_heldFloat32S_1, h_0, h_1, cond_true]
    rw [e]
    exact outR (e := .ret) E0Ok hMixed [] mk_laws_heldFloat32S_1_1 [] (q (sB h_1 <| sN)) (by kernel_rfl) (by intro h; cases h)
   | false =>
    have y_2 : (-9223372036854775808 : Int) ≤ (i_l1 + 1) := by clear q; exact (by first | assumption | omega | (simp_all <;> omega))
    have y_3 : (i_l1 + 1) ≤ (9223372036854775807 : Int) := by clear q; exact (by first | assumption | omega | (simp_all <;> omega))
    have e : lo_laws_heldFloat32S_1 a_0 k_1 (k + 1) k_l0 i_l1 = (lo_laws_heldFloat32S_1 a_0 k_1 k (IntKind.wrap .i64 (k_l0 + 1)) (i_l1 + 1)) := by simp only [lo_laws_heldFloat32S_1, h_0, h_1, cond_true, cond_false]
    rw [e]
    exact nextR E0Ok hMixed [] mk_laws_heldFloat32S_1_0 [] (ih (IntKind.wrap .i64 (k_l0 + 1)) (i_l1 + 1) (show 0 ≤ (i_l1 + 1) from (by first | assumption | omega | (simp_all <;> omega))) (by first | assumption | omega | (simp_all <;> omega))) (q (sB h_1 <| sW .i64 (k_l0 + 1) <| sI (i_l1 + 1) y_2 y_3 <| sN)) (by kernel_rfl)
  | false =>
   have gh_0 := of_decide_eq_false h_0
   have e : lo_laws_heldFloat32S_1 a_0 k_1 (k + 1) k_l0 i_l1 = (.inr k_l0) := by simp only [lo_laws_heldFloat32S_1, h_0, cond_false]
   rw [e]
   exact outR (e := (.exit 0)) E0Ok hMixed [] mk_laws_heldFloat32S_1_2 [] (p (sB h_0 <| sN)) (by kernel_rfl) (by intro h; cases h)

def lr_laws_heldFloat32S_1_0 (a_0 : (List Nat)) (k_1 : Int) : (Unit) ⊕ (Int) := (lo_laws_heldFloat32S_1 a_0 k_1 (((a_0.length : Int) - 0).toNat + 1) k_1 0)

def v_laws_heldFloat32S (a_0 : (List Nat)) (k_1 : Int) : Int := (match (lr_laws_heldFloat32S_1_0 a_0 k_1) with
  | .inl r1 => (-1)
  | .inr r1 => r1)

theorem t_laws_heldFloat32S (a_0 : (List Nat)) (k_1 : Int) (hp0 : a_0.length ≤ 1073741824)  : Fn prog 104 [.sl (a_0.map (cF .f32)), .i .i64 k_1] (.i .i64 (v_laws_heldFloat32S a_0 k_1)) [] := by
 cases h0 : (lr_laws_heldFloat32S_1_0 a_0 k_1) with
 | inl r1 =>
  refine fnS E0Ok hMixed (c := bodyOf f104) [] (.i .i64 (-1)) [] func104 (sL mk_laws_heldFloat32S_1_0 0 (lp_val (ls_laws_heldFloat32S_1 a_0 k_1) (x := (lr_laws_heldFloat32S_1_0 a_0 k_1)) (lp_laws_heldFloat32S_1 a_0 k_1 hp0 (((a_0.length : Int) - 0).toNat + 1) k_1 0 (show 0 ≤ 0 from (by first | assumption | omega | (simp_all <;> omega))) (Nat.lt_succ_self _)) h0) <| sK [] sN) rfl (by kernel_rfl) (by kernel_rfl) rfl ?_ ?_
  · simp only [v_laws_heldFloat32S, h0]
  · rfl
 | inr r1 =>
  refine fnS E0Ok hMixed (c := bodyOf f104) [] (.i .i64 r1) [] func104 (sL mk_laws_heldFloat32S_1_0 0 (lp_val (ls_laws_heldFloat32S_1 a_0 k_1) (x := (lr_laws_heldFloat32S_1_0 a_0 k_1)) (lp_laws_heldFloat32S_1 a_0 k_1 hp0 (((a_0.length : Int) - 0).toNat + 1) k_1 0 (show 0 ≤ 0 from (by first | assumption | omega | (simp_all <;> omega))) (Nat.lt_succ_self _)) h0) <| sK [] sN) rfl (by kernel_rfl) (by kernel_rfl) rfl ?_ ?_
  · simp only [v_laws_heldFloat32S, h0]
  · rfl

def hp_Float32 (x : Nat) (c : Int) : Bool := (!(fcmp .neq .f32 x (ofInt .f32 c)))
def hq_Float32 (_ : Nat) (c : Int) : Int := (IntKind.wrap .i64 (c + 1))
theorem hdeq_Float32 (a : List Nat) (c : Int) : v_laws_heldFloat32S a c = match hdL hp_Float32 hq_Float32 a c with
    | some c' => c'
    | none => -1 := by
  unfold v_laws_heldFloat32S lr_laws_heldFloat32S_1_0
  rw [held_loop (p := hp_Float32) (q := hq_Float32) (a := a) (x := ()) (lo := lo_laws_heldFloat32S_1 a c) (fun k c i => by
    rw [lo_laws_heldFloat32S_1]
    unfold hp_Float32 hq_Float32
    generalize a.getD i.toNat default = x
    cases decide (i < (a.length : Int)) <;> cases fcmp .neq .f32 x (ofInt .f32 c) <;> rfl) _ _ _ (Int.le_refl 0) (Nat.lt_succ_self _)]
  simp only [Int.toNat_zero, List.drop_zero]
  cases hdL hp_Float32 hq_Float32 a c <;> rfl

def v_laws_heldBody (a_0 : GBody) (k_1 : Int) : Int := (cond (decide ((v_laws_heldMesh a_0.Mesh k_1) < 0))
  (-1)
  (cond (decide ((v_laws_heldSpringS a_0.Springs (v_laws_heldMesh a_0.Mesh k_1)) < 0))
    (-1)
    (cond (decide ((v_laws_heldFloat32S a_0.Weights (v_laws_heldSpringS a_0.Springs (v_laws_heldMesh a_0.Mesh k_1))) < 0))
      (-1)
      (v_laws_heldFloat32S a_0.Weights (v_laws_heldSpringS a_0.Springs (v_laws_heldMesh a_0.Mesh k_1))))))

theorem t_laws_heldBody (a_0 : GBody) (k_1 : Int) (hp0 : a_0.Mesh.Places.length ≤ 1073741824) (hp1 : a_0.Mesh.Triangles.length ≤ 1073741824) (hp2 : ∀ t ∈ a_0.Mesh.Triangles, t.length ≤ 1073741824) (hp3 : a_0.Springs.length ≤ 1073741824) (hp4 : a_0.Weights.length ≤ 1073741824)  : Fn prog 46 [.agg [.sl (a_0.Mesh.Places.map GVector.cells), .sl (a_0.Mesh.Triangles.map (cL (cI .i64))), .sl (a_0.Springs.map GSpring.cells), .f .f32 a_0.Film, .f .f32 a_0.Bend, .sl (a_0.Weights.map (cF .f32)), .f .f32 a_0.Fall.X, .f .f32 a_0.Fall.Y, .f .f32 a_0.Fall.Z], .i .i64 k_1] (.i .i64 (v_laws_heldBody a_0 k_1)) [] := by
 have p {a C} (s : Scr a C) := sF (t_laws_heldMesh a_0.Mesh k_1 hp0 hp1 hp2) <| s
 cases h0 : (decide ((v_laws_heldMesh a_0.Mesh k_1) < 0)) with
 | true =>
  have gh0 := of_decide_eq_true h0
  refine fnS E0Ok hMixed (c := bodyOf f46) [] (.i .i64 (-1)) [] func46 (p (sB h0 <| sK [] sN)) rfl (by kernel_rfl) (by kernel_rfl) rfl ?_ ?_
  · simp only [v_laws_heldBody, h0, cond_true]
  · rfl
 | false =>
  have gh0 := of_decide_eq_false h0
  have q {a C} (s : Scr a C) := p (sB h0 <| sF (t_laws_heldSpringS a_0.Springs (v_laws_heldMesh a_0.Mesh k_1) hp3) <| s)
  clear p
  cases h1 : (decide ((v_laws_heldSpringS a_0.Springs (v_laws_heldMesh a_0.Mesh k_1)) < 0)) with
  | true =>
   have gh1 := of_decide_eq_true h1
   refine fnS E0Ok hMixed (c := bodyOf f46) [] (.i .i64 (-1)) [] func46 (q (sB h1 <| sK [] sN)) rfl (by kernel_rfl) (by kernel_rfl) rfl ?_ ?_
   · simp only [v_laws_heldBody, h0, h1, cond_true, cond_false]
   · rfl
  | false =>
   have gh1 := of_decide_eq_false h1
   have p {a C} (s : Scr a C) := q (sB h1 <| sF (t_laws_heldFloat32S a_0.Weights (v_laws_heldSpringS a_0.Springs (v_laws_heldMesh a_0.Mesh k_1)) hp4) <| s)
   clear q
   cases h2 : (decide ((v_laws_heldFloat32S a_0.Weights (v_laws_heldSpringS a_0.Springs (v_laws_heldMesh a_0.Mesh k_1))) < 0)) with
   | true =>
    have gh2 := of_decide_eq_true h2
    refine fnS E0Ok hMixed (c := bodyOf f46) [] (.i .i64 (-1)) [] func46 (p (sB h2 <| sK [] sN)) rfl (by kernel_rfl) (by kernel_rfl) rfl ?_ ?_
    · simp only [v_laws_heldBody, h0, h1, h2, cond_true, cond_false]
    · rfl
   | false =>
    have gh2 := of_decide_eq_false h2
    refine fnS E0Ok hMixed (c := bodyOf f46) [] (.i .i64 (v_laws_heldFloat32S a_0.Weights (v_laws_heldSpringS a_0.Springs (v_laws_heldMesh a_0.Mesh k_1)))) [] func46 (p (sB h2 <| sK [] sN)) rfl (by kernel_rfl) (by kernel_rfl) rfl ?_ ?_
    · simp only [v_laws_heldBody, h0, h1, h2, cond_false]
    · rfl

end Go.Ab
