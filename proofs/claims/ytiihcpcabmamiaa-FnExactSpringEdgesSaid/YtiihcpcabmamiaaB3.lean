/- The functions of this seat as plain Lean, and that the program's are these. Printed by a program of the prover's own. -/
import Derived.Test.YtiihcpcabmamiaaB2
set_option linter.unusedVariables false
set_option linter.unusedSimpArgs false
set_option maxRecDepth 100000
namespace Go.Ab
open Go.RowKit Go.Proofs.Try

def lr_spec_SpringEdges_1_0 (m_0 : GMesh) (stiff_1 : Nat) : (List GSpring) := (lo_spec_SpringEdges_1 m_0 stiff_1 ((((v_spec_l02Edges m_0).length : Int) - 0).toNat + 1) 0 ((v_spec_l03Bare m_0).Springs))

theorem specSE_eq (m : GMesh) (s : Nat) : lr_spec_SpringEdges_1_0 m s = (v_spec_l02Edges m).map fun x => (⟨x.getD 0 default, x.getD 1 default, v_spec_l01Long (v_spec_l01Less (m.Places.getD (x.getD 1 default).toNat default) (m.Places.getD (x.getD 0 default).toNat default)), s⟩ : GSpring) := by
  unfold lr_spec_SpringEdges_1_0
  exact appm_loop (fun k i r => rfl)
theorem specSE_len (m : GMesh) (s : Nat) (h : v_spec_l02Is m = true) : (lr_spec_SpringEdges_1_0 m s).length ≤ 4096 := by
  rw [specSE_eq, List.length_map]; exact l02Edges_len m (okE_is m h)

def nd_spec_SpringEdges_2 (m_0 : GMesh) (stiff_1 : Nat) : Bool := (v_spec_l03Is (⟨(v_spec_l03Bare m_0).Mesh, (lr_spec_SpringEdges_1_0 m_0 stiff_1), (v_spec_l03Bare m_0).Film, (v_spec_l03Bare m_0).Bend, (v_spec_l03Bare m_0).Weights, (v_spec_l03Bare m_0).Fall⟩ : GBody))

def v_spec_SpringEdges (m_0 : GMesh) (stiff_1 : Nat) : GBody × Bool := (cond (v_spec_l02Is m_0)
  (cond (nd_spec_SpringEdges_2 m_0 stiff_1)
    ((⟨(v_spec_l03Bare m_0).Mesh, (lr_spec_SpringEdges_1_0 m_0 stiff_1), (v_spec_l03Bare m_0).Film, (v_spec_l03Bare m_0).Bend, (v_spec_l03Bare m_0).Weights, (v_spec_l03Bare m_0).Fall⟩ : GBody), true)
    ((⟨(⟨([] : List GVector), ([] : List (List Int))⟩ : GMesh), ([] : List GSpring), 0, 0, ([] : List Nat), (⟨0, 0, 0⟩ : GVector)⟩ : GBody), false))
  ((⟨(⟨([] : List GVector), ([] : List (List Int))⟩ : GMesh), ([] : List GSpring), 0, 0, ([] : List Nat), (⟨0, 0, 0⟩ : GVector)⟩ : GBody), false))

theorem leP_spec_SpringEdges (m : GMesh) (s : Nat) : (v_spec_SpringEdges m s).1.Mesh.Places.length ≤ m.Places.length := by
  unfold v_spec_SpringEdges
  cases v_spec_l02Is m <;> cases nd_spec_SpringEdges_2 m s <;> simp [v_spec_l03Bare]

theorem leT_spec_SpringEdges (m : GMesh) (s : Nat) : (v_spec_SpringEdges m s).1.Mesh.Triangles.length ≤ m.Triangles.length := by
  unfold v_spec_SpringEdges
  cases v_spec_l02Is m <;> cases nd_spec_SpringEdges_2 m s <;> simp [v_spec_l03Bare]

theorem leW_spec_SpringEdges (m : GMesh) (s : Nat) : (v_spec_SpringEdges m s).1.Weights.length ≤ m.Places.length := by
  unfold v_spec_SpringEdges
  cases v_spec_l02Is m <;> cases nd_spec_SpringEdges_2 m s <;> simp [v_spec_l03Bare]

theorem mem_spec_SpringEdges (m : GMesh) (s : Nat) : ∀ t ∈ (v_spec_SpringEdges m s).1.Mesh.Triangles, t ∈ m.Triangles := by
  unfold v_spec_SpringEdges
  cases v_spec_l02Is m <;> cases nd_spec_SpringEdges_2 m s <;> simp [v_spec_l03Bare]

theorem leS_spec_SpringEdges (m : GMesh) (s : Nat) : (v_spec_SpringEdges m s).1.Springs.length ≤ 4096 := by
  unfold v_spec_SpringEdges
  cases h : v_spec_l02Is m with
  | false => exact Nat.zero_le _
  | true =>
    cases nd_spec_SpringEdges_2 m s with
    | false => exact Nat.zero_le _
    | true => exact specSE_len m s h

theorem t_spec_SpringEdges (m_0 : GMesh) (stiff_1 : Nat) (hp0 : m_0.Places.length ≤ 1073741824) (hp1 : m_0.Triangles.length ≤ 1073741824) (hp2 : ∀ t ∈ m_0.Triangles, t.length ≤ 1073741824)  : Fn prog 44 [.agg [.sl (m_0.Places.map GVector.cells), .sl (m_0.Triangles.map (cL (cI .i64)))], .f .f32 stiff_1] (.tup [.agg [.own 0, .own 1, .own 2, .f .f32 ((v_spec_SpringEdges m_0 stiff_1).1.Film), .f .f32 ((v_spec_SpringEdges m_0 stiff_1).1.Bend), .own 3, .f .f32 ((v_spec_SpringEdges m_0 stiff_1).1.Fall.X), .f .f32 ((v_spec_SpringEdges m_0 stiff_1).1.Fall.Y), .f .f32 ((v_spec_SpringEdges m_0 stiff_1).1.Fall.Z)], .b ((v_spec_SpringEdges m_0 stiff_1).2)]) [.vec 67 3 (((v_spec_SpringEdges m_0 stiff_1).1.Mesh.Places).map GVector.cells) false, .nest 52 (((v_spec_SpringEdges m_0 stiff_1).1.Mesh.Triangles).map fun l => l.map (cI .i64)) false, .vec 132 4 (((v_spec_SpringEdges m_0 stiff_1).1.Springs).map GSpring.cells) false, .vec 38 1 (((v_spec_SpringEdges m_0 stiff_1).1.Weights).map (cF .f32)) false] := by
 have p {a C} (s : Scr a C) := sF (t_spec_l02Is m_0 hp0 hp1 hp2) <| s
 cases h0 : (v_spec_l02Is m_0) with
 | true =>
  have l1 := (leP_spec_l03Bare m_0)
  have l2 := (leT_spec_l03Bare m_0)
  have l3 := (leW_spec_l03Bare m_0)
  have l4 := (leS_spec_l03Bare m_0)
  have y0 : OkE m_0.Places.length m_0.Triangles := by clear p; exact (by first | assumption | exact okE_is _ (by assumption) | omega | exact Nat.le_trans (specSE_len m_0 stiff_1 (by assumption)) (by decide) | exact Nat.le_trans (leW_spec_l03Bare m_0) (by omega) | exact fun t ht => hp2 t (mem_spec_l03Bare m_0 t ht))
  have y1 : (⟨(v_spec_l03Bare m_0).Mesh, (lr_spec_SpringEdges_1_0 m_0 stiff_1), (v_spec_l03Bare m_0).Film, (v_spec_l03Bare m_0).Bend, (v_spec_l03Bare m_0).Weights, (v_spec_l03Bare m_0).Fall⟩ : GBody).Mesh.Places.length ≤ 1073741824 := by clear p; exact (by first | assumption | exact okE_is _ (by assumption) | omega | exact Nat.le_trans (specSE_len m_0 stiff_1 (by assumption)) (by decide) | exact Nat.le_trans (leW_spec_l03Bare m_0) (by omega) | exact fun t ht => hp2 t (mem_spec_l03Bare m_0 t ht))
  have y2 : (⟨(v_spec_l03Bare m_0).Mesh, (lr_spec_SpringEdges_1_0 m_0 stiff_1), (v_spec_l03Bare m_0).Film, (v_spec_l03Bare m_0).Bend, (v_spec_l03Bare m_0).Weights, (v_spec_l03Bare m_0).Fall⟩ : GBody).Mesh.Triangles.length ≤ 1073741824 := by clear p; exact (by first | assumption | exact okE_is _ (by assumption) | omega | exact Nat.le_trans (specSE_len m_0 stiff_1 (by assumption)) (by decide) | exact Nat.le_trans (leW_spec_l03Bare m_0) (by omega) | exact fun t ht => hp2 t (mem_spec_l03Bare m_0 t ht))
  have y3 : ∀ t ∈ (⟨(v_spec_l03Bare m_0).Mesh, (lr_spec_SpringEdges_1_0 m_0 stiff_1), (v_spec_l03Bare m_0).Film, (v_spec_l03Bare m_0).Bend, (v_spec_l03Bare m_0).Weights, (v_spec_l03Bare m_0).Fall⟩ : GBody).Mesh.Triangles, t.length ≤ 1073741824 := by clear p; exact (by first | assumption | exact okE_is _ (by assumption) | omega | exact Nat.le_trans (specSE_len m_0 stiff_1 (by assumption)) (by decide) | exact Nat.le_trans (leW_spec_l03Bare m_0) (by omega) | exact fun t ht => hp2 t (mem_spec_l03Bare m_0 t ht))
  have y4 : (⟨(v_spec_l03Bare m_0).Mesh, (lr_spec_SpringEdges_1_0 m_0 stiff_1), (v_spec_l03Bare m_0).Film, (v_spec_l03Bare m_0).Bend, (v_spec_l03Bare m_0).Weights, (v_spec_l03Bare m_0).Fall⟩ : GBody).Springs.length ≤ 1073741824 := by clear p; exact (by first | assumption | exact okE_is _ (by assumption) | omega | exact Nat.le_trans (specSE_len m_0 stiff_1 (by assumption)) (by decide) | exact Nat.le_trans (leW_spec_l03Bare m_0) (by omega) | exact fun t ht => hp2 t (mem_spec_l03Bare m_0 t ht))
  have y5 : (⟨(v_spec_l03Bare m_0).Mesh, (lr_spec_SpringEdges_1_0 m_0 stiff_1), (v_spec_l03Bare m_0).Film, (v_spec_l03Bare m_0).Bend, (v_spec_l03Bare m_0).Weights, (v_spec_l03Bare m_0).Fall⟩ : GBody).Weights.length ≤ 1073741824 := by clear p; exact (by first | assumption | exact okE_is _ (by assumption) | omega | exact Nat.le_trans (specSE_len m_0 stiff_1 (by assumption)) (by decide) | exact Nat.le_trans (leW_spec_l03Bare m_0) (by omega) | exact fun t ht => hp2 t (mem_spec_l03Bare m_0 t ht))
  have q {a C} (s : Scr a C) := p (sB' h0 <| sF (t_spec_l03Bare m_0 hp0 hp1 hp2) <| sF (t_spec_l02Edges m_0 hp0 hp1 hp2 y0) <| sM (nlen_ok (l := (v_spec_l02Edges m_0)) (f := fun l => l.map (cI .i64))) <| sL mk_spec_SpringEdges_1_0 8 (lp_val (ls_spec_SpringEdges_1 m_0 stiff_1) (x := (lr_spec_SpringEdges_1_0 m_0 stiff_1)) (lp_spec_SpringEdges_1 m_0 stiff_1 hp0 hp1 hp2 h0 ((((v_spec_l02Edges m_0).length : Int) - 0).toNat + 1) 0 ((v_spec_l03Bare m_0).Springs) (show 0 ≤ 0 from (by first | omega | (simp [v_spec_l03Bare]; done))) (show (((v_spec_l03Bare m_0).Springs).length : Int) ≤ 0 from (by first | omega | (simp [v_spec_l03Bare]; done))) (Nat.lt_succ_self _)) rfl) <| sF (Fn.castA (args' := [.ref [.sl (((v_spec_l03Bare m_0).Mesh.Places).map GVector.cells), .sl ((((v_spec_l03Bare m_0).Mesh.Triangles).map fun l => l.map (cI .i64)).map fun l => [.sl l]), .sl ((lr_spec_SpringEdges_1_0 m_0 stiff_1).map GSpring.cells), .f .f32 ((v_spec_l03Bare m_0).Film), .f .f32 ((v_spec_l03Bare m_0).Bend), .sl (((v_spec_l03Bare m_0).Weights).map (cF .f32)), .f .f32 ((v_spec_l03Bare m_0).Fall.X), .f .f32 ((v_spec_l03Bare m_0).Fall.Y), .f .f32 ((v_spec_l03Bare m_0).Fall.Z)] 0]) (t_spec_l03Is (⟨(v_spec_l03Bare m_0).Mesh, (lr_spec_SpringEdges_1_0 m_0 stiff_1), (v_spec_l03Bare m_0).Film, (v_spec_l03Bare m_0).Bend, (v_spec_l03Bare m_0).Weights, (v_spec_l03Bare m_0).Fall⟩ : GBody) y1 y2 y3 y4 y5) (by first | (simp [cL, Function.comp_def]; done) | (simp [cL, Function.comp_def]; rfl))) <| s)
  clear p
  cases h1 : (nd_spec_SpringEdges_2 m_0 stiff_1) with
  | true =>
   refine fnS E0Ok hMixed (c := bodyOf f44) [] (.tup [.agg [.own 0, .own 1, .own 2, .f .f32 ((v_spec_l03Bare m_0).Film), .f .f32 ((v_spec_l03Bare m_0).Bend), .own 3, .f .f32 ((v_spec_l03Bare m_0).Fall.X), .f .f32 ((v_spec_l03Bare m_0).Fall.Y), .f .f32 ((v_spec_l03Bare m_0).Fall.Z)], .b true]) [.vec 67 3 (((v_spec_l03Bare m_0).Mesh.Places).map GVector.cells) false, .nest 52 (((v_spec_l03Bare m_0).Mesh.Triangles).map fun l => l.map (cI .i64)) false, .vec 132 4 ((lr_spec_SpringEdges_1_0 m_0 stiff_1).map GSpring.cells) false, .vec 38 1 (((v_spec_l03Bare m_0).Weights).map (cF .f32)) false] func44 (q (sB' h1 <| sK [4, 5, 6, 7] sN)) rfl (by kernel_rfl) (by kernel_rfl) rfl ?_ ?_
   · simp only [v_spec_SpringEdges, h0, h1, cond_true]
   · simp [v_spec_SpringEdges, h0, h1]
  | false =>
   refine fnS E0Ok hMixed (c := bodyOf f44) [(.row 1 0, .vec 67 3 [] false), (.row 1 1, .nest 52 [] false), (.row 1 2, .vec 132 4 [] false), (.row 1 5, .vec 38 1 [] false)] (.tup [.agg [.own 0, .own 1, .own 2, .f .f32 0, .f .f32 0, .own 3, .f .f32 0, .f .f32 0, .f .f32 0], .b false]) [.vec 67 3 [] false, .nest 52 [] false, .vec 132 4 [] false, .vec 38 1 [] false] func44 (q (sB' h1 <| sK [8, 9, 10, 11] sN)) rfl (by kernel_rfl) (by kernel_rfl) rfl ?_ ?_
   · simp only [v_spec_SpringEdges, h0, h1, cond_true, cond_false]
   · simp [v_spec_SpringEdges, h0, h1, GVector.cells, cL, cI, GSpring.cells, cF]
 | false =>
  refine fnS E0Ok hMixed (c := bodyOf f44) [(.row 1 0, .vec 67 3 [] false), (.row 1 1, .nest 52 [] false), (.row 1 2, .vec 132 4 [] false), (.row 1 5, .vec 38 1 [] false)] (.tup [.agg [.own 0, .own 1, .own 2, .f .f32 0, .f .f32 0, .own 3, .f .f32 0, .f .f32 0, .f .f32 0], .b false]) [.vec 67 3 [] false, .nest 52 [] false, .vec 132 4 [] false, .vec 38 1 [] false] func44 (p (sB' h0 <| sK [2, 3, 4, 5] sN)) rfl (by kernel_rfl) (by kernel_rfl) rfl ?_ ?_
  · simp only [v_spec_SpringEdges, h0, cond_false]
  · simp [v_spec_SpringEdges, h0, GVector.cells, cL, cI, GSpring.cells, cF]

def v_impl_within (n_0 : Int) (low_1 : Int) (high_2 : Int) : Bool := (cond (decide (n_0 ≥ low_1))
  (decide (n_0 ≤ high_2))
  false)

theorem t_impl_within (n_0 : Int) (low_1 : Int) (high_2 : Int)   : Fn prog 63 [.i .i64 n_0, .i .i64 low_1, .i .i64 high_2] (.b (v_impl_within n_0 low_1 high_2)) [] := by
 cases h0 : (decide (n_0 ≥ low_1)) with
 | true =>
  have gh0 := of_decide_eq_true h0
  refine fnS E0Ok hMixed (c := bodyOf f63) [] (.b (decide (n_0 ≤ high_2))) [] func63 (sB h0 <| sB h0 <| sB h0 <| sB h0 <| sK [] sN) rfl (by kernel_rfl) (by kernel_rfl) rfl ?_ ?_
  · simp only [v_impl_within, h0, cond_true]
  · rfl
 | false =>
  have gh0 := of_decide_eq_false h0
  refine fnS E0Ok hMixed (c := bodyOf f63) [] (.b false) [] func63 (sB h0 <| sB h0 <| sB h0 <| sB h0 <| sK [] sN) rfl (by kernel_rfl) (by kernel_rfl) rfl ?_ ?_
  · simp only [v_impl_within, h0, cond_false]
  · rfl

def lo_impl_ValidMesh_2 (m_0 : GMesh) (x_l0 : Int) : Nat → Int → (Unit) ⊕ (Unit)
  | 0, _ => .inl default
  | k + 1, x_l0_1 => (cond (decide (x_l0_1 < ((m_0.Triangles.getD x_l0.toNat default).length : Int)))
    (cond (v_impl_within ((m_0.Triangles.getD x_l0.toNat default).getD x_l0_1.toNat default) 0 (IntKind.wrap .i64 ((m_0.Places.length : Int) - 1)))
      (lo_impl_ValidMesh_2 m_0 x_l0 k (x_l0_1 + 1))
      (.inl ()))
    (.inr ()))

def ls_impl_ValidMesh_2 (m_0 : GMesh) (x_l0 : Int) : (Unit) ⊕ (Unit) → Ex × St
  | .inl r => (.ret, ⟨[.any, .any, .b false, .any, .any, .any, .any, .any, .any, .any, .any, .any, .any, .any, .any, .any, .any, .any, .any, .any, .any, .any, .any, .any, .any, .any, .any, .any, .any, .any, .any, .any, .any, .any, .any, .any, .any, .any, .any, .any, .any, .any, .any, .any, .any, .any, .any, .any, .any, .any, .any, .any, .any, .any, .any, .any, .any, .any, .any, .any, .any, .any, .any, .any, .any, .any, .any, .any, .any], []⟩)
  | .inr r => ((.exit 2), ⟨[.agg [.sl (m_0.Places.map GVector.cells), .sl (m_0.Triangles.map (cL (cI .i64)))], .ptr 0 0 0, .any, .i .i64 (m_0.Places.length : Int), .any, .sl ((m_0.Triangles.getD x_l0.toNat default).map (cI .i64)), .any, .any, .ptr 0 0 0, .sl (m_0.Places.map GVector.cells), .i .i64 (m_0.Places.length : Int), .i .i64 (m_0.Places.length : Int), .b (decide ((m_0.Places.length : Int) > 64)), .b (decide ((m_0.Places.length : Int) > 64)), .ptr 0 0 1, .sl (m_0.Triangles.map (cL (cI .i64))), .i .i64 (m_0.Triangles.length : Int), .b (decide ((m_0.Triangles.length : Int) > 128)), .b (decide ((m_0.Triangles.length : Int) > 128)), .ptr 0 0 1, .sl (m_0.Triangles.map (cL (cI .i64))), .i .i64 (m_0.Triangles.length : Int), .i .i64 x_l0, .b (decide (x_l0 < (m_0.Triangles.length : Int))), .ref [.sl ((m_0.Triangles.getD x_l0.toNat default).map (cI .i64))] 0, .sl ((m_0.Triangles.getD x_l0.toNat default).map (cI .i64)), .sl ((m_0.Triangles.getD x_l0.toNat default).map (cI .i64)), .i .i64 ((m_0.Triangles.getD x_l0.toNat default).length : Int), .b (((m_0.Triangles.getD x_l0.toNat default).length : Int) != 3), .b (((m_0.Triangles.getD x_l0.toNat default).length : Int) != 3), .sl ((m_0.Triangles.getD x_l0.toNat default).map (cI .i64)), .ref [.i .i64 ((m_0.Triangles.getD x_l0.toNat default).getD 0 default)] 0, .i .i64 ((m_0.Triangles.getD x_l0.toNat default).getD 0 default), .sl ((m_0.Triangles.getD x_l0.toNat default).map (cI .i64)), .ref [.i .i64 ((m_0.Triangles.getD x_l0.toNat default).getD 1 default)] 0, .i .i64 ((m_0.Triangles.getD x_l0.toNat default).getD 1 default), .b (((m_0.Triangles.getD x_l0.toNat default).getD 0 default) == ((m_0.Triangles.getD x_l0.toNat default).getD 1 default)), .b (((m_0.Triangles.getD x_l0.toNat default).getD 0 default) == ((m_0.Triangles.getD x_l0.toNat default).getD 1 default)), .b (((m_0.Triangles.getD x_l0.toNat default).getD 0 default) == ((m_0.Triangles.getD x_l0.toNat default).getD 1 default)), .sl ((m_0.Triangles.getD x_l0.toNat default).map (cI .i64)), .ref [.i .i64 ((m_0.Triangles.getD x_l0.toNat default).getD 1 default)] 0, .i .i64 ((m_0.Triangles.getD x_l0.toNat default).getD 1 default), .sl ((m_0.Triangles.getD x_l0.toNat default).map (cI .i64)), .ref [.i .i64 ((m_0.Triangles.getD x_l0.toNat default).getD 2 default)] 0, .i .i64 ((m_0.Triangles.getD x_l0.toNat default).getD 2 default), .b (((m_0.Triangles.getD x_l0.toNat default).getD 1 default) == ((m_0.Triangles.getD x_l0.toNat default).getD 2 default)), .b (((m_0.Triangles.getD x_l0.toNat default).getD 1 default) == ((m_0.Triangles.getD x_l0.toNat default).getD 2 default)), .b (((m_0.Triangles.getD x_l0.toNat default).getD 1 default) == ((m_0.Triangles.getD x_l0.toNat default).getD 2 default)), .sl ((m_0.Triangles.getD x_l0.toNat default).map (cI .i64)), .ref [.i .i64 ((m_0.Triangles.getD x_l0.toNat default).getD 0 default)] 0, .i .i64 ((m_0.Triangles.getD x_l0.toNat default).getD 0 default), .sl ((m_0.Triangles.getD x_l0.toNat default).map (cI .i64)), .ref [.i .i64 ((m_0.Triangles.getD x_l0.toNat default).getD 2 default)] 0, .i .i64 ((m_0.Triangles.getD x_l0.toNat default).getD 2 default), .b (((m_0.Triangles.getD x_l0.toNat default).getD 0 default) == ((m_0.Triangles.getD x_l0.toNat default).getD 2 default)), .b (((m_0.Triangles.getD x_l0.toNat default).getD 0 default) == ((m_0.Triangles.getD x_l0.toNat default).getD 2 default)), .sl ((m_0.Triangles.getD x_l0.toNat default).map (cI .i64)), .any, .any, .any, .any, .any, .any, .any, .any, .any, .any, .any, .any], [.box 31 [.sl (m_0.Places.map GVector.cells), .sl (m_0.Triangles.map (cL (cI .i64)))]]⟩)

def hd_impl_ValidMesh_2 (m_0 : GMesh) (x_l0 : Int) (x_l0_1 : Int) : St := ⟨[.agg [.sl (m_0.Places.map GVector.cells), .sl (m_0.Triangles.map (cL (cI .i64)))], .ptr 0 0 0, .any, .i .i64 (m_0.Places.length : Int), .any, .sl ((m_0.Triangles.getD x_l0.toNat default).map (cI .i64)), .any, .any, .ptr 0 0 0, .sl (m_0.Places.map GVector.cells), .i .i64 (m_0.Places.length : Int), .i .i64 (m_0.Places.length : Int), .b (decide ((m_0.Places.length : Int) > 64)), .b (decide ((m_0.Places.length : Int) > 64)), .ptr 0 0 1, .sl (m_0.Triangles.map (cL (cI .i64))), .i .i64 (m_0.Triangles.length : Int), .b (decide ((m_0.Triangles.length : Int) > 128)), .b (decide ((m_0.Triangles.length : Int) > 128)), .ptr 0 0 1, .sl (m_0.Triangles.map (cL (cI .i64))), .i .i64 (m_0.Triangles.length : Int), .i .i64 x_l0, .b (decide (x_l0 < (m_0.Triangles.length : Int))), .ref [.sl ((m_0.Triangles.getD x_l0.toNat default).map (cI .i64))] 0, .sl ((m_0.Triangles.getD x_l0.toNat default).map (cI .i64)), .sl ((m_0.Triangles.getD x_l0.toNat default).map (cI .i64)), .i .i64 ((m_0.Triangles.getD x_l0.toNat default).length : Int), .b (((m_0.Triangles.getD x_l0.toNat default).length : Int) != 3), .b (((m_0.Triangles.getD x_l0.toNat default).length : Int) != 3), .sl ((m_0.Triangles.getD x_l0.toNat default).map (cI .i64)), .ref [.i .i64 ((m_0.Triangles.getD x_l0.toNat default).getD 0 default)] 0, .i .i64 ((m_0.Triangles.getD x_l0.toNat default).getD 0 default), .sl ((m_0.Triangles.getD x_l0.toNat default).map (cI .i64)), .ref [.i .i64 ((m_0.Triangles.getD x_l0.toNat default).getD 1 default)] 0, .i .i64 ((m_0.Triangles.getD x_l0.toNat default).getD 1 default), .b (((m_0.Triangles.getD x_l0.toNat default).getD 0 default) == ((m_0.Triangles.getD x_l0.toNat default).getD 1 default)), .b (((m_0.Triangles.getD x_l0.toNat default).getD 0 default) == ((m_0.Triangles.getD x_l0.toNat default).getD 1 default)), .b (((m_0.Triangles.getD x_l0.toNat default).getD 0 default) == ((m_0.Triangles.getD x_l0.toNat default).getD 1 default)), .sl ((m_0.Triangles.getD x_l0.toNat default).map (cI .i64)), .ref [.i .i64 ((m_0.Triangles.getD x_l0.toNat default).getD 1 default)] 0, .i .i64 ((m_0.Triangles.getD x_l0.toNat default).getD 1 default), .sl ((m_0.Triangles.getD x_l0.toNat default).map (cI .i64)), .ref [.i .i64 ((m_0.Triangles.getD x_l0.toNat default).getD 2 default)] 0, .i .i64 ((m_0.Triangles.getD x_l0.toNat default).getD 2 default), .b (((m_0.Triangles.getD x_l0.toNat default).getD 1 default) == ((m_0.Triangles.getD x_l0.toNat default).getD 2 default)), .b (((m_0.Triangles.getD x_l0.toNat default).getD 1 default) == ((m_0.Triangles.getD x_l0.toNat default).getD 2 default)), .b (((m_0.Triangles.getD x_l0.toNat default).getD 1 default) == ((m_0.Triangles.getD x_l0.toNat default).getD 2 default)), .sl ((m_0.Triangles.getD x_l0.toNat default).map (cI .i64)), .ref [.i .i64 ((m_0.Triangles.getD x_l0.toNat default).getD 0 default)] 0, .i .i64 ((m_0.Triangles.getD x_l0.toNat default).getD 0 default), .sl ((m_0.Triangles.getD x_l0.toNat default).map (cI .i64)), .ref [.i .i64 ((m_0.Triangles.getD x_l0.toNat default).getD 2 default)] 0, .i .i64 ((m_0.Triangles.getD x_l0.toNat default).getD 2 default), .b (((m_0.Triangles.getD x_l0.toNat default).getD 0 default) == ((m_0.Triangles.getD x_l0.toNat default).getD 2 default)), .b (((m_0.Triangles.getD x_l0.toNat default).getD 0 default) == ((m_0.Triangles.getD x_l0.toNat default).getD 2 default)), .sl ((m_0.Triangles.getD x_l0.toNat default).map (cI .i64)), .i .i64 ((m_0.Triangles.getD x_l0.toNat default).length : Int), .i .i64 x_l0_1, .any, .any, .any, .any, .any, .any, .any, .any, .any, .any], [.box 31 [.sl (m_0.Places.map GVector.cells), .sl (m_0.Triangles.map (cL (cI .i64)))]]⟩

def mk_impl_ValidMesh_2_0 : List Bool := [true, true, false, true, false, true, false, false, true, true, true, true, true, true, true, true, true, true, true, true, true, true, true, true, true, true, true, true, true, true, true, true, true, true, true, true, true, true, true, true, true, true, true, true, true, true, true, true, true, true, true, true, true, true, true, true, true, true, true, false, false, false, false, false, false, false, false, false, false]

def mk_impl_ValidMesh_2_1 : List Bool := [false, false, true, false, false, false, false, false, false, false, false, false, false, false, false, false, false, false, false, false, false, false, false, false, false, false, false, false, false, false, false, false, false, false, false, false, false, false, false, false, false, false, false, false, false, false, false, false, false, false, false, false, false, false, false, false, false, false, false, false, false, false, false, false, false, false, false, false, false]

def mk_impl_ValidMesh_2_2 : List Bool := [true, true, false, true, false, true, false, false, true, true, true, true, true, true, true, true, true, true, true, true, true, true, true, true, true, true, true, true, true, true, true, true, true, true, true, true, true, true, true, true, true, true, true, true, true, true, true, true, true, true, true, true, true, true, true, true, true, false, false, false, false, false, false, false, false, false, false, false, false]

theorem lp_impl_ValidMesh_2 (m_0 : GMesh) (x_l0 : Int) (hp0 : m_0.Places.length ≤ 1073741824) (hp1 : m_0.Triangles.length ≤ 1073741824) (hp2 : ∀ t ∈ m_0.Triangles, t.length ≤ 1073741824) (hf_impl_ValidMesh_1_0 : (decide ((m_0.Places.length : Int) > 64)) = false) (hf_impl_ValidMesh_1_1 : (decide ((m_0.Triangles.length : Int) > 128)) = false) (hv_impl_ValidMesh_1_0 : 0 ≤ x_l0) (hf_impl_ValidMesh_2_0 : (((m_0.Triangles.getD x_l0.toNat default).length : Int) != 3) = false) (hf_impl_ValidMesh_2_1 : (decide ((m_0.Places.length : Int) > 64)) = false) (hf_impl_ValidMesh_2_2 : (decide ((m_0.Triangles.length : Int) > 128)) = false) (hf_impl_ValidMesh_2_3 : (decide (x_l0 < (m_0.Triangles.length : Int))) = true) : ∀ (k : Nat) (x_l0_1 : Int) (hv_impl_ValidMesh_2_0 : 0 ≤ x_l0_1) (hk : (((m_0.Triangles.getD x_l0.toNat default).length : Int) - x_l0_1).toNat < k), Lp prog 0 (sub (bodyOf f56) [1, 1, 1, 0, 1, 0, 0, 1, 1, 0, 0, 1, 1, 1, 0, 0]) (hd_impl_ValidMesh_2 m_0 x_l0 x_l0_1) (ls_impl_ValidMesh_2 m_0 x_l0 (lo_impl_ValidMesh_2 m_0 x_l0 k x_l0_1)).1 (ls_impl_ValidMesh_2 m_0 x_l0 (lo_impl_ValidMesh_2 m_0 x_l0 k x_l0_1)).2 := by
 intro k
 induction k with
 | zero => intro x_l0_1 hv_impl_ValidMesh_2_0 hk; exact absurd hk (Nat.not_lt_zero _)
 | succ k ih =>
  intro x_l0_1 hv_impl_ValidMesh_2_0 hk
  cases h__0 : (decide (x_l0_1 < ((m_0.Triangles.getD x_l0.toNat default).length : Int))) with
  | true =>
   have gh__0 := of_decide_eq_true h__0
   have y__0 : (0 : Int) ≤ x_l0_1 := (by first | assumption | omega | (simp_all <;> omega))
   have y__1 : x_l0_1 < ((m_0.Triangles.getD x_l0.toNat default).length : Int) := (by first | assumption | omega | (simp_all <;> omega))
   have p {a C} (s : Scr a C) := sB h__0 <| sG (cI .i64) (m_0.Triangles.getD x_l0.toNat default) x_l0_1 y__0 y__1 <| sW .i64 ((m_0.Places.length : Int) - 1) <| sF (t_impl_within ((m_0.Triangles.getD x_l0.toNat default).getD x_l0_1.toNat default) 0 (IntKind.wrap .i64 ((m_0.Places.length : Int) - 1))) <| s
   cases h__1 : (v_impl_within ((m_0.Triangles.getD x_l0.toNat default).getD x_l0_1.toNat default) 0 (IntKind.wrap .i64 ((m_0.Places.length : Int) - 1))) with
   | true =>
    have y__2 : (-9223372036854775808 : Int) ≤ (x_l0_1 + 1) := by clear p; exact (by first | assumption | omega | (simp_all <;> omega))
    have y__3 : (x_l0_1 + 1) ≤ (9223372036854775807 : Int) := by clear p; exact (by first | assumption | omega | (simp_all <;> omega))
    have e : lo_impl_ValidMesh_2 m_0 x_l0 (k + 1) x_l0_1 = (lo_impl_ValidMesh_2 m_0 x_l0 k (x_l0_1 + 1)) := by simp only [lo_impl_ValidMesh_2, h__0, h__1, cond_true]
    rw [e]
    exact nextR E0Ok hMixed [] mk_impl_ValidMesh_2_0 [0] (ih (x_l0_1 + 1) (show 0 ≤ (x_l0_1 + 1) from (by first | assumption | omega | (simp_all <;> omega))) (by first | assumption | omega | (simp_all <;> omega))) (p (sB' h__1 <| sI (x_l0_1 + 1) y__2 y__3 <| sN)) (by kernel_rfl)
   | false =>
    have e : lo_impl_ValidMesh_2 m_0 x_l0 (k + 1) x_l0_1 = (.inl ()) := by simp only [lo_impl_ValidMesh_2, h__0, h__1, cond_true, cond_false]
    rw [e]
    exact outR (e := .ret) E0Ok hMixed [] mk_impl_ValidMesh_2_1 [] (p (sB' h__1 <| sN)) (by kernel_rfl) (by intro h; cases h)
  | false =>
   have gh__0 := of_decide_eq_false h__0
   have e : lo_impl_ValidMesh_2 m_0 x_l0 (k + 1) x_l0_1 = (.inr ()) := by simp only [lo_impl_ValidMesh_2, h__0, cond_false]
   rw [e]
   exact outR (e := (.exit 2)) E0Ok hMixed [] mk_impl_ValidMesh_2_2 [0] (sB h__0 <| sN) (by kernel_rfl) (by intro h; cases h)

def lr_impl_ValidMesh_2_0 (m_0 : GMesh) (x_l0 : Int) : (Unit) ⊕ (Unit) := (lo_impl_ValidMesh_2 m_0 x_l0 ((((m_0.Triangles.getD x_l0.toNat default).length : Int) - 0).toNat + 1) 0)

def lo_impl_ValidMesh_1 (m_0 : GMesh) : Nat → Int → (Unit) ⊕ (Unit)
  | 0, _ => .inl default
  | k + 1, x_l0 => (cond (decide (x_l0 < (m_0.Triangles.length : Int)))
    (cond (((m_0.Triangles.getD x_l0.toNat default).length : Int) != 3)
      (.inl ())
      (cond (((m_0.Triangles.getD x_l0.toNat default).getD 0 default) == ((m_0.Triangles.getD x_l0.toNat default).getD 1 default))
        (.inl ())
        (cond (((m_0.Triangles.getD x_l0.toNat default).getD 1 default) == ((m_0.Triangles.getD x_l0.toNat default).getD 2 default))
          (.inl ())
          (cond (((m_0.Triangles.getD x_l0.toNat default).getD 0 default) == ((m_0.Triangles.getD x_l0.toNat default).getD 2 default))
            (.inl ())
            (match (lr_impl_ValidMesh_2_0 m_0 x_l0) with
              | .inl r_6 => (.inl ())
              | .inr r_6 => (lo_impl_ValidMesh_1 m_0 k (x_l0 + 1)))))))
    (.inr ()))

def ls_impl_ValidMesh_1 (m_0 : GMesh) : (Unit) ⊕ (Unit) → Ex × St
  | .inl r => (.ret, ⟨[.any, .any, .b false, .any, .any, .any, .any, .any, .any, .any, .any, .any, .any, .any, .any, .any, .any, .any, .any, .any, .any, .any, .any, .any, .any, .any, .any, .any, .any, .any, .any, .any, .any, .any, .any, .any, .any, .any, .any, .any, .any, .any, .any, .any, .any, .any, .any, .any, .any, .any, .any, .any, .any, .any, .any, .any, .any, .any, .any, .any, .any, .any, .any, .any, .any, .any, .any, .any, .any], []⟩)
  | .inr r => ((.exit 0), ⟨[.agg [.sl (m_0.Places.map GVector.cells), .sl (m_0.Triangles.map (cL (cI .i64)))], .ptr 0 0 0, .any, .i .i64 (m_0.Places.length : Int), .any, .any, .any, .any, .ptr 0 0 0, .sl (m_0.Places.map GVector.cells), .i .i64 (m_0.Places.length : Int), .i .i64 (m_0.Places.length : Int), .b (decide ((m_0.Places.length : Int) > 64)), .b (decide ((m_0.Places.length : Int) > 64)), .ptr 0 0 1, .sl (m_0.Triangles.map (cL (cI .i64))), .i .i64 (m_0.Triangles.length : Int), .b (decide ((m_0.Triangles.length : Int) > 128)), .b (decide ((m_0.Triangles.length : Int) > 128)), .ptr 0 0 1, .sl (m_0.Triangles.map (cL (cI .i64))), .any, .any, .any, .any, .any, .any, .any, .any, .any, .any, .any, .any, .any, .any, .any, .any, .any, .any, .any, .any, .any, .any, .any, .any, .any, .any, .any, .any, .any, .any, .any, .any, .any, .any, .any, .any, .any, .any, .any, .any, .any, .any, .any, .any, .any, .any, .any, .any], [.box 31 [.sl (m_0.Places.map GVector.cells), .sl (m_0.Triangles.map (cL (cI .i64)))]]⟩)

def hd_impl_ValidMesh_1 (m_0 : GMesh) (x_l0 : Int) : St := ⟨[.agg [.sl (m_0.Places.map GVector.cells), .sl (m_0.Triangles.map (cL (cI .i64)))], .ptr 0 0 0, .any, .i .i64 (m_0.Places.length : Int), .any, .any, .any, .any, .ptr 0 0 0, .sl (m_0.Places.map GVector.cells), .i .i64 (m_0.Places.length : Int), .i .i64 (m_0.Places.length : Int), .b (decide ((m_0.Places.length : Int) > 64)), .b (decide ((m_0.Places.length : Int) > 64)), .ptr 0 0 1, .sl (m_0.Triangles.map (cL (cI .i64))), .i .i64 (m_0.Triangles.length : Int), .b (decide ((m_0.Triangles.length : Int) > 128)), .b (decide ((m_0.Triangles.length : Int) > 128)), .ptr 0 0 1, .sl (m_0.Triangles.map (cL (cI .i64))), .i .i64 (m_0.Triangles.length : Int), .i .i64 x_l0, .any, .any, .any, .any, .any, .any, .any, .any, .any, .any, .any, .any, .any, .any, .any, .any, .any, .any, .any, .any, .any, .any, .any, .any, .any, .any, .any, .any, .any, .any, .any, .any, .any, .any, .any, .any, .any, .any, .any, .any, .any, .any, .any, .any, .any, .any], [.box 31 [.sl (m_0.Places.map GVector.cells), .sl (m_0.Triangles.map (cL (cI .i64)))]]⟩

def mk_impl_ValidMesh_1_0 : List Bool := [true, true, false, true, false, false, false, false, true, true, true, true, true, true, true, true, true, true, true, true, true, true, true, false, false, false, false, false, false, false, false, false, false, false, false, false, false, false, false, false, false, false, false, false, false, false, false, false, false, false, false, false, false, false, false, false, false, false, false, false, false, false, false, false, false, false, false, false, false]

def mk_impl_ValidMesh_1_1 : List Bool := [false, false, true, false, false, false, false, false, false, false, false, false, false, false, false, false, false, false, false, false, false, false, false, false, false, false, false, false, false, false, false, false, false, false, false, false, false, false, false, false, false, false, false, false, false, false, false, false, false, false, false, false, false, false, false, false, false, false, false, false, false, false, false, false, false, false, false, false, false]

def mk_impl_ValidMesh_1_2 : List Bool := [true, true, false, true, false, false, false, false, true, true, true, true, true, true, true, true, true, true, true, true, true, false, false, false, false, false, false, false, false, false, false, false, false, false, false, false, false, false, false, false, false, false, false, false, false, false, false, false, false, false, false, false, false, false, false, false, false, false, false, false, false, false, false, false, false, false, false, false, false]

theorem lp_impl_ValidMesh_1 (m_0 : GMesh) (hp0 : m_0.Places.length ≤ 1073741824) (hp1 : m_0.Triangles.length ≤ 1073741824) (hp2 : ∀ t ∈ m_0.Triangles, t.length ≤ 1073741824) (hf_impl_ValidMesh_1_0 : (decide ((m_0.Places.length : Int) > 64)) = false) (hf_impl_ValidMesh_1_1 : (decide ((m_0.Triangles.length : Int) > 128)) = false) : ∀ (k : Nat) (x_l0 : Int) (hv_impl_ValidMesh_1_0 : 0 ≤ x_l0) (hk : ((m_0.Triangles.length : Int) - x_l0).toNat < k), Lp prog 0 (sub (bodyOf f56) [1, 1, 1, 0, 1, 0, 0]) (hd_impl_ValidMesh_1 m_0 x_l0) (ls_impl_ValidMesh_1 m_0 (lo_impl_ValidMesh_1 m_0 k x_l0)).1 (ls_impl_ValidMesh_1 m_0 (lo_impl_ValidMesh_1 m_0 k x_l0)).2 := by
 intro k
 induction k with
 | zero => intro x_l0 hv_impl_ValidMesh_1_0 hk; exact absurd hk (Nat.not_lt_zero _)
 | succ k ih =>
  intro x_l0 hv_impl_ValidMesh_1_0 hk
  cases h_0 : (decide (x_l0 < (m_0.Triangles.length : Int))) with
  | true =>
   have gh_0 := of_decide_eq_true h_0
   have y_0 : (0 : Int) ≤ x_l0 := (by first | assumption | omega | (simp_all <;> omega))
   have y_1 : x_l0 < (m_0.Triangles.length : Int) := (by first | assumption | omega | (simp_all <;> omega))
   have p {a C} (s : Scr a C) := sB h_0 <| sG (cL (cI .i64)) m_0.Triangles x_l0 y_0 y_1 <| sK [28, 28] <| sZ (cI .i64) (m_0.Triangles.getD x_l0.toNat default) <| s
   cases h_1 : (((m_0.Triangles.getD x_l0.toNat default).length : Int) != 3) with
   | true =>
    have gh_1 := bne_iff_ne.1 h_1
    have e : lo_impl_ValidMesh_1 m_0 (k + 1) x_l0 = (.inl ()) := by simp only [lo_impl_ValidMesh_1, h_0, h_1, cond_true]
    rw [e]
    exact outR (e := .ret) E0Ok hMixed [] mk_impl_ValidMesh_1_1 [] (p (sB h_1 <| sB h_1 <| sB h_1 <| sB h_1 <| sB h_1 <| sB h_1 <| sB h_1 <| sB h_1 <| sB (show true = true from rfl) <| sB (show true = true from rfl) <| sB (show true = true from rfl) <| sB (show true = true from rfl) <| sB (show true = true from rfl) <| sB (show true = true from rfl) <| sB (show true = true from rfl) <| sB (show true = true from rfl) <| sB (show true = true from rfl) <| sB (show true = true from rfl) <| sB (show true = true from rfl) <| sB (show true = true from rfl) <| sB (show true = true from rfl) <| sB (show true = true from rfl) <| sB (show true = true from rfl) <| sB (show true = true from rfl) <| sB (show true = true from rfl) <| sN)) (by kernel_rfl) (by intro h; cases h)
   | false =>
    have gh_1 := bne_eq_false_iff_eq.1 h_1
    have y_2 : (0 : Int) ≤ 0 := by clear p; exact (by first | assumption | omega | (simp_all <;> omega))
    have y_3 : 0 < ((m_0.Triangles.getD x_l0.toNat default).length : Int) := by clear p; exact (by first | assumption | omega | (simp_all <;> omega))
    have y_4 : (0 : Int) ≤ 1 := by clear p; exact (by first | assumption | omega | (simp_all <;> omega))
    have y_5 : 1 < ((m_0.Triangles.getD x_l0.toNat default).length : Int) := by clear p; exact (by first | assumption | omega | (simp_all <;> omega))
    have q {a C} (s : Scr a C) := p (sB h_1 <| sB h_1 <| sG (cI .i64) (m_0.Triangles.getD x_l0.toNat default) 0 y_2 y_3 <| sB h_1 <| sB h_1 <| sB h_1 <| sG (cI .i64) (m_0.Triangles.getD x_l0.toNat default) 1 y_4 y_5 <| sB h_1 <| sB h_1 <| sB h_1 <| s)
    clear p
    cases h_2 : (((m_0.Triangles.getD x_l0.toNat default).getD 0 default) == ((m_0.Triangles.getD x_l0.toNat default).getD 1 default)) with
    | true =>
     have gh_2 := eq_of_beq h_2
     have e : lo_impl_ValidMesh_1 m_0 (k + 1) x_l0 = (.inl ()) := by simp only [lo_impl_ValidMesh_1, h_0, h_1, h_2, cond_true, cond_false]
     rw [e]
     exact outR (e := .ret) E0Ok hMixed [] mk_impl_ValidMesh_1_1 [] (q (sB h_2 <| sB h_2 <| sB h_2 <| sB h_2 <| sB h_2 <| sB h_2 <| sB h_2 <| sB h_2 <| sB (show true = true from rfl) <| sB (show true = true from rfl) <| sB (show true = true from rfl) <| sB (show true = true from rfl) <| sB (show true = true from rfl) <| sB (show true = true from rfl) <| sB (show true = true from rfl) <| sB (show true = true from rfl) <| sB (show true = true from rfl) <| sN)) (by kernel_rfl) (by intro h; cases h)
    | false =>
     have gh_2 := ne_of_beq_false h_2
     have y_6 : (0 : Int) ≤ 2 := by clear q; exact (by first | assumption | omega | (simp_all <;> omega))
     have y_7 : 2 < ((m_0.Triangles.getD x_l0.toNat default).length : Int) := by clear q; exact (by first | assumption | omega | (simp_all <;> omega))
     have p {a C} (s : Scr a C) := q (sB h_2 <| sB h_2 <| sG (cI .i64) (m_0.Triangles.getD x_l0.toNat default) 1 y_4 y_5 <| sB h_2 <| sB h_2 <| sB h_2 <| sG (cI .i64) (m_0.Triangles.getD x_l0.toNat default) 2 y_6 y_7 <| sB h_2 <| sB h_2 <| sB h_2 <| s)
     clear q
     cases h_3 : (((m_0.Triangles.getD x_l0.toNat default).getD 1 default) == ((m_0.Triangles.getD x_l0.toNat default).getD 2 default)) with
     | true =>
      have gh_3 := eq_of_beq h_3
      have e : lo_impl_ValidMesh_1 m_0 (k + 1) x_l0 = (.inl ()) := by simp only [lo_impl_ValidMesh_1, h_0, h_1, h_2, h_3, cond_true, cond_false]
      rw [e]
      exact outR (e := .ret) E0Ok hMixed [] mk_impl_ValidMesh_1_1 [] (p (sB h_3 <| sB h_3 <| sB h_3 <| sB h_3 <| sB h_3 <| sB h_3 <| sB h_3 <| sB h_3 <| sB (show true = true from rfl) <| sN)) (by kernel_rfl) (by intro h; cases h)
     | false =>
      have gh_3 := ne_of_beq_false h_3
      have q {a C} (s : Scr a C) := p (sB h_3 <| sB h_3 <| sG (cI .i64) (m_0.Triangles.getD x_l0.toNat default) 0 y_2 y_3 <| sB h_3 <| sB h_3 <| sB h_3 <| sG (cI .i64) (m_0.Triangles.getD x_l0.toNat default) 2 y_6 y_7 <| sB h_3 <| sB h_3 <| sB h_3 <| s)
      clear p
      cases h_4 : (((m_0.Triangles.getD x_l0.toNat default).getD 0 default) == ((m_0.Triangles.getD x_l0.toNat default).getD 2 default)) with
      | true =>
       have gh_4 := eq_of_beq h_4
       have e : lo_impl_ValidMesh_1 m_0 (k + 1) x_l0 = (.inl ()) := by simp only [lo_impl_ValidMesh_1, h_0, h_1, h_2, h_3, h_4, cond_true, cond_false]
       rw [e]
       exact outR (e := .ret) E0Ok hMixed [] mk_impl_ValidMesh_1_1 [] (q (sB h_4 <| sN)) (by kernel_rfl) (by intro h; cases h)
      | false =>
       have gh_4 := ne_of_beq_false h_4
       have p {a C} (s : Scr a C) := q (sB h_4 <| sZ (cI .i64) (m_0.Triangles.getD x_l0.toNat default) <| s)
       clear q
       cases h_5 : (lr_impl_ValidMesh_2_0 m_0 x_l0) with
       | inl r_6 =>
        have e : lo_impl_ValidMesh_1 m_0 (k + 1) x_l0 = (.inl ()) := by simp only [lo_impl_ValidMesh_1, h_0, h_1, h_2, h_3, h_4, h_5, cond_true, cond_false]
        rw [e]
        exact outR (e := .ret) E0Ok hMixed [] mk_impl_ValidMesh_1_1 [] (p (sL mk_impl_ValidMesh_2_0 1 (lp_val (ls_impl_ValidMesh_2 m_0 x_l0) (x := (lr_impl_ValidMesh_2_0 m_0 x_l0)) (lp_impl_ValidMesh_2 m_0 x_l0 hp0 hp1 hp2 hf_impl_ValidMesh_1_0 hf_impl_ValidMesh_1_1 hv_impl_ValidMesh_1_0 h_1 hf_impl_ValidMesh_1_0 hf_impl_ValidMesh_1_1 h_0 ((((m_0.Triangles.getD x_l0.toNat default).length : Int) - 0).toNat + 1) 0 (show 0 ≤ 0 from (by first | assumption | omega | (simp_all <;> omega))) (Nat.lt_succ_self _)) h_5) <| sN)) (by kernel_rfl) (by intro h; cases h)
       | inr r_6 =>
        have y_8 : (-9223372036854775808 : Int) ≤ (x_l0 + 1) := by clear p; exact (by first | assumption | omega | (simp_all <;> omega))
        have y_9 : (x_l0 + 1) ≤ (9223372036854775807 : Int) := by clear p; exact (by first | assumption | omega | (simp_all <;> omega))
        have e : lo_impl_ValidMesh_1 m_0 (k + 1) x_l0 = (lo_impl_ValidMesh_1 m_0 k (x_l0 + 1)) := by simp only [lo_impl_ValidMesh_1, h_0, h_1, h_2, h_3, h_4, h_5, cond_true, cond_false]
        rw [e]
        exact nextR E0Ok hMixed [] mk_impl_ValidMesh_1_0 [0] (ih (x_l0 + 1) (show 0 ≤ (x_l0 + 1) from (by first | assumption | omega | (simp_all <;> omega))) (by first | assumption | omega | (simp_all <;> omega))) (p (sL mk_impl_ValidMesh_2_0 1 (lp_val (ls_impl_ValidMesh_2 m_0 x_l0) (x := (lr_impl_ValidMesh_2_0 m_0 x_l0)) (lp_impl_ValidMesh_2 m_0 x_l0 hp0 hp1 hp2 hf_impl_ValidMesh_1_0 hf_impl_ValidMesh_1_1 hv_impl_ValidMesh_1_0 h_1 hf_impl_ValidMesh_1_0 hf_impl_ValidMesh_1_1 h_0 ((((m_0.Triangles.getD x_l0.toNat default).length : Int) - 0).toNat + 1) 0 (show 0 ≤ 0 from (by first | assumption | omega | (simp_all <;> omega))) (Nat.lt_succ_self _)) h_5) <| sI (x_l0 + 1) y_8 y_9 <| sN)) (by kernel_rfl)
  | false =>
   have gh_0 := of_decide_eq_false h_0
   have e : lo_impl_ValidMesh_1 m_0 (k + 1) x_l0 = (.inr ()) := by simp only [lo_impl_ValidMesh_1, h_0, cond_false]
   rw [e]
   exact outR (e := (.exit 0)) E0Ok hMixed [] mk_impl_ValidMesh_1_2 [0] (sB h_0 <| sN) (by kernel_rfl) (by intro h; cases h)

def lr_impl_ValidMesh_1_1 (m_0 : GMesh) : (Unit) ⊕ (Unit) := (lo_impl_ValidMesh_1 m_0 (((m_0.Triangles.length : Int) - 0).toNat + 1) 0)

def v_impl_ValidMesh (m_0 : GMesh) : Bool := (cond (decide ((m_0.Places.length : Int) > 64))
  false
  (cond (decide ((m_0.Triangles.length : Int) > 128))
    false
    (match (lr_impl_ValidMesh_1_1 m_0) with
      | .inl r3 => false
      | .inr r3 => true)))

theorem t_impl_ValidMesh (m_0 : GMesh) (hp0 : m_0.Places.length ≤ 1073741824) (hp1 : m_0.Triangles.length ≤ 1073741824) (hp2 : ∀ t ∈ m_0.Triangles, t.length ≤ 1073741824)  : Fn prog 56 [.agg [.sl (m_0.Places.map GVector.cells), .sl (m_0.Triangles.map (cL (cI .i64)))]] (.b (v_impl_ValidMesh m_0)) [] := by
 have p {a C} (s : Scr a C) := sZ GVector.cells m_0.Places <| s
 cases h0 : (decide ((m_0.Places.length : Int) > 64)) with
 | true =>
  have gh0 := of_decide_eq_true h0
  refine fnS E0Ok hMixed (c := bodyOf f56) [] (.b false) [] func56 (p (sB h0 <| sB h0 <| sB h0 <| sB h0 <| sB h0 <| sB (show true = true from rfl) <| sK [] sN)) rfl (by kernel_rfl) (by kernel_rfl) rfl ?_ ?_
  · simp only [v_impl_ValidMesh, h0, cond_true]
  · rfl
 | false =>
  have gh0 := of_decide_eq_false h0
  have q {a C} (s : Scr a C) := p (sB h0 <| sB h0 <| sB h0 <| sZ (cL (cI .i64)) m_0.Triangles <| sB h0 <| sB h0 <| s)
  clear p
  cases h1 : (decide ((m_0.Triangles.length : Int) > 128)) with
  | true =>
   have gh1 := of_decide_eq_true h1
   refine fnS E0Ok hMixed (c := bodyOf f56) [] (.b false) [] func56 (q (sB h1 <| sK [] sN)) rfl (by kernel_rfl) (by kernel_rfl) rfl ?_ ?_
   · simp only [v_impl_ValidMesh, h0, h1, cond_true, cond_false]
   · rfl
  | false =>
   have gh1 := of_decide_eq_false h1
   have p {a C} (s : Scr a C) := q (sB h1 <| sZ (cL (cI .i64)) m_0.Triangles <| s)
   clear q
   cases h2 : (lr_impl_ValidMesh_1_1 m_0) with
   | inl r3 =>
    refine fnS E0Ok hMixed (c := bodyOf f56) [] (.b false) [] func56 (p (sL mk_impl_ValidMesh_1_0 1 (lp_val (ls_impl_ValidMesh_1 m_0) (x := (lr_impl_ValidMesh_1_1 m_0)) (lp_impl_ValidMesh_1 m_0 hp0 hp1 hp2 h0 h1 (((m_0.Triangles.length : Int) - 0).toNat + 1) 0 (show 0 ≤ 0 from (by first | assumption | omega | (simp_all <;> omega))) (Nat.lt_succ_self _)) h2) <| sK [] sN)) rfl (by kernel_rfl) (by kernel_rfl) rfl ?_ ?_
    · simp only [v_impl_ValidMesh, h0, h1, h2, cond_false]
    · rfl
   | inr r3 =>
    refine fnS E0Ok hMixed (c := bodyOf f56) [] (.b true) [] func56 (p (sL mk_impl_ValidMesh_1_0 1 (lp_val (ls_impl_ValidMesh_1 m_0) (x := (lr_impl_ValidMesh_1_1 m_0)) (lp_impl_ValidMesh_1 m_0 hp0 hp1 hp2 h0 h1 (((m_0.Triangles.length : Int) - 0).toNat + 1) 0 (show 0 ≤ 0 from (by first | assumption | omega | (simp_all <;> omega))) (Nat.lt_succ_self _)) h2) <| sK [] sN)) rfl (by kernel_rfl) (by kernel_rfl) rfl ?_ ?_
    · simp only [v_impl_ValidMesh, h0, h1, h2, cond_false]
    · rfl

theorem triB (t : List Int) (n : Int) : (!((t.length : Int) != 3) && (!(t.getD 0 default == t.getD 1 default) && (!(t.getD 1 default == t.getD 2 default) && (!(t.getD 0 default == t.getD 2 default) && t.all fun x => v_impl_within x 0 (IntKind.wrap .i64 (n - 1)))))) = v_spec_l02Triangle t n := by
  unfold v_spec_l02Triangle
  cases hl : ((t.length : Int) != 3) with
  | true => rfl
  | false =>
    have hl3 : t.length = 3 := by simp at hl; omega
    match t, hl3 with
    | [a, b, c], _ =>
      simp only [List.getD_cons_zero, List.getD_cons_succ, List.all_cons, List.all_nil, Bool.and_true]
      rw [show v_impl_within = v_spec_l00In from rfl]
      cases (a == b) <;> cases (b == c) <;> cases (a == c) <;> cases v_spec_l00In a 0 (IntKind.wrap .i64 (n - 1)) <;> cases v_spec_l00In b 0 (IntKind.wrap .i64 (n - 1)) <;> cases v_spec_l00In c 0 (IntKind.wrap .i64 (n - 1)) <;> rfl
theorem lo_ValidMesh (m : GMesh) (k : Nat) (i : Int) : lo_impl_ValidMesh_1 m (k + 1) i = cond (decide (i < (m.Triangles.length : Int))) (cond (v_spec_l02Triangle (m.Triangles.getD i.toNat default) (m.Places.length : Int)) (lo_impl_ValidMesh_1 m k (i + 1)) (.inl ())) (.inr ()) := by
  rw [lo_impl_ValidMesh_1, ← triB]
  have hin : lr_impl_ValidMesh_2_0 m i = cond ((m.Triangles.getD i.toNat default).all fun x => v_impl_within x 0 (IntKind.wrap .i64 ((m.Places.length : Int) - 1))) (.inr ()) (.inl ()) := by
    unfold lr_impl_ValidMesh_2_0
    exact all_from (a := m.Triangles.getD i.toNat default) (p := fun x => v_impl_within x 0 (IntKind.wrap .i64 ((m.Places.length : Int) - 1))) (lo := lo_impl_ValidMesh_2 m i) (x := ()) (y := ()) (fun k i => rfl)
  rw [hin]
  generalize m.Triangles.getD i.toNat default = t
  generalize (t.all fun x => v_impl_within x 0 (IntKind.wrap .i64 ((m.Places.length : Int) - 1))) = q
  cases ((t.length : Int) != 3) <;> cases (t.getD 0 default == t.getD 1 default) <;> cases (t.getD 1 default == t.getD 2 default) <;> cases (t.getD 0 default == t.getD 2 default) <;> cases q <;> rfl
theorem eq_ValidMesh (m : GMesh) : v_impl_ValidMesh m = v_spec_l02Is m := by
  rw [l02Is_eq]
  unfold v_impl_ValidMesh lr_impl_ValidMesh_1_1
  rw [all_from (a := m.Triangles) (p := fun t => v_spec_l02Triangle t (m.Places.length : Int)) (lo := lo_impl_ValidMesh_1 m) (x := ()) (y := ()) (lo_ValidMesh m)]
  cases (m.Triangles.all fun t => v_spec_l02Triangle t (m.Places.length : Int)) <;> rfl

def lo_impl_copyMesh_1 (m_0 : GMesh) : Nat → Int → (List (List Int)) → (List (List Int))
  | 0, _, _ => default
  | k + 1, x_l0, r4_l1 => (cond (decide (x_l0 < (m_0.Triangles.length : Int)))
    (lo_impl_copyMesh_1 m_0 k (x_l0 + 1) (r4_l1 ++ [(([] : List Int) ++ (m_0.Triangles.getD x_l0.toNat default))]))
    r4_l1)

def ls_impl_copyMesh_1 (m_0 : GMesh) (r : (List (List Int))) : Ex × St := ((.exit 0), ⟨[.agg [.sl (m_0.Places.map GVector.cells), .sl (m_0.Triangles.map (cL (cI .i64)))], .ptr 0 0 0, .ptr 1 0 0, .ptr 2 0 0, .any, .any, .any, .ptr 0 0 0, .sl (m_0.Places.map GVector.cells), .own 3, .agg [.own 3, .nils], .ptr 0 0 1, .sl (m_0.Triangles.map (cL (cI .i64))), .any, .any, .any, .any, .any, .any, .any, .any, .any, .any, .any, .any, .any, .any, .any], [.box 31 [.sl (m_0.Places.map GVector.cells), .sl (m_0.Triangles.map (cL (cI .i64)))], .box 31 [.nils, .nils], .box 31 [.own 3, .own 4], .vec 67 3 (([] : List (List AV)) ++ (m_0.Places.map GVector.cells)) false, .nest 52 (r.map fun l => l.map (cI .i64)) false]⟩)

def hd_impl_copyMesh_1 (m_0 : GMesh) (x_l0 : Int) (r4_l1 : (List (List Int))) : St := ⟨[.agg [.sl (m_0.Places.map GVector.cells), .sl (m_0.Triangles.map (cL (cI .i64)))], .ptr 0 0 0, .ptr 1 0 0, .ptr 3 0 0, .any, .any, .any, .ptr 0 0 0, .sl (m_0.Places.map GVector.cells), .own 2, .agg [.own 2, .nils], .ptr 0 0 1, .sl (m_0.Triangles.map (cL (cI .i64))), .i .i64 (m_0.Triangles.length : Int), .i .i64 x_l0, .any, .any, .any, .any, .any, .any, .any, .any, .any, .any, .any, .any, .any], [.box 31 [.sl (m_0.Places.map GVector.cells), .sl (m_0.Triangles.map (cL (cI .i64)))], .box 31 [.nils, .nils], .vec 67 3 (([] : List (List AV)) ++ (m_0.Places.map GVector.cells)) false, .box 31 [.own 2, .own 4], .nest 52 (r4_l1.map fun l => l.map (cI .i64)) false]⟩

def mk_impl_copyMesh_1_0 : List Bool := [true, true, true, true, false, false, false, true, true, true, true, true, true, true, true, false, false, false, false, false, false, false, false, false, false, false, false, false]

def mk_impl_copyMesh_1_1 : List Bool := [true, true, true, true, false, false, false, true, true, true, true, true, true, false, false, false, false, false, false, false, false, false, false, false, false, false, false, false]

theorem lp_impl_copyMesh_1 (m_0 : GMesh) (hp0 : m_0.Places.length ≤ 1073741824) (hp1 : m_0.Triangles.length ≤ 1073741824) (hp2 : ∀ t ∈ m_0.Triangles, t.length ≤ 1073741824) (hp3 : OkTris m_0.Places.length m_0.Triangles) : ∀ (k : Nat) (x_l0 : Int) (r4_l1 : (List (List Int))) (hv_impl_copyMesh_1_0 : 0 ≤ x_l0) (hv_impl_copyMesh_1_1 : (r4_l1.length : Int) = x_l0) (hk : ((m_0.Triangles.length : Int) - x_l0).toNat < k), Lp prog 0 (sub (bodyOf f132) [1, 1, 0, 1, 0, 0]) (hd_impl_copyMesh_1 m_0 x_l0 r4_l1) (ls_impl_copyMesh_1 m_0 (lo_impl_copyMesh_1 m_0 k x_l0 r4_l1)).1 (ls_impl_copyMesh_1 m_0 (lo_impl_copyMesh_1 m_0 k x_l0 r4_l1)).2 := by
 intro k
 induction k with
 | zero => intro x_l0 r4_l1 hv_impl_copyMesh_1_0 hv_impl_copyMesh_1_1 hk; exact absurd hk (Nat.not_lt_zero _)
 | succ k ih =>
  intro x_l0 r4_l1 hv_impl_copyMesh_1_0 hv_impl_copyMesh_1_1 hk
  cases h_0 : (decide (x_l0 < (m_0.Triangles.length : Int))) with
  | true =>
   have gh_0 := of_decide_eq_true h_0
   have y_0 : (0 : Int) ≤ x_l0 := (by first | assumption | omega | (have q := (OkTris.at hp3 hv_impl_copyMesh_1_0 (of_decide_eq_true (by assumption))).1; omega) | (simp_all <;> omega))
   have y_1 : x_l0 < (m_0.Triangles.length : Int) := (by first | assumption | omega | (have q := (OkTris.at hp3 hv_impl_copyMesh_1_0 (of_decide_eq_true (by assumption))).1; omega) | (simp_all <;> omega))
   have y_2 : ([] : List Int).length + (m_0.Triangles.getD x_l0.toNat default).length ≤ 1073741824 := (by first | assumption | omega | (have q := (OkTris.at hp3 hv_impl_copyMesh_1_0 (of_decide_eq_true (by assumption))).1; omega) | (simp_all <;> omega))
   have y_3 : r4_l1.length + [(([] : List Int) ++ (m_0.Triangles.getD x_l0.toNat default))].length ≤ 1073741824 := (by first | assumption | omega | (have q := (OkTris.at hp3 hv_impl_copyMesh_1_0 (of_decide_eq_true (by assumption))).1; omega) | (simp_all <;> omega))
   have y_4 : (-9223372036854775808 : Int) ≤ (x_l0 + 1) := (by first | assumption | omega | (have q := (OkTris.at hp3 hv_impl_copyMesh_1_0 (of_decide_eq_true (by assumption))).1; omega) | (simp_all <;> omega))
   have y_5 : (x_l0 + 1) ≤ (9223372036854775807 : Int) := (by first | assumption | omega | (have q := (OkTris.at hp3 hv_impl_copyMesh_1_0 (of_decide_eq_true (by assumption))).1; omega) | (simp_all <;> omega))
   have e : lo_impl_copyMesh_1 m_0 (k + 1) x_l0 r4_l1 = (lo_impl_copyMesh_1 m_0 k (x_l0 + 1) (r4_l1 ++ [(([] : List Int) ++ (m_0.Triangles.getD x_l0.toNat default))])) := by simp only [lo_impl_copyMesh_1, h_0, cond_true]
   rw [e]
   exact nextS E0Ok hMixed [] mk_impl_copyMesh_1_0 [0, 1, 2, 3, 4] (⟨[.agg [.sl (m_0.Places.map GVector.cells), .sl (m_0.Triangles.map (cL (cI .i64)))], .ptr 0 0 0, .ptr 1 0 0, .ptr 3 0 0, .any, .any, .any, .ptr 0 0 0, .sl (m_0.Places.map GVector.cells), .own 2, .agg [.own 2, .nils], .ptr 0 0 1, .sl (m_0.Triangles.map (cL (cI .i64))), .i .i64 (m_0.Triangles.length : Int), .i .i64 (x_l0 + 1), .any, .any, .any, .any, .any, .any, .any, .any, .any, .any, .any, .any, .any], [.box 31 [.sl (m_0.Places.map GVector.cells), .sl (m_0.Triangles.map (cL (cI .i64)))], .box 31 [.nils, .nils], .vec 67 3 (([] : List (List AV)) ++ (m_0.Places.map GVector.cells)) false, .box 31 [.own 2, .own 4], .nest 52 ((r4_l1.map fun l => l.map (cI .i64)) ++ [(([] : List (List AV)) ++ ((m_0.Triangles.getD x_l0.toNat default).map (cI .i64)))]) false]⟩) (sB h_0 <| sG (cL (cI .i64)) m_0.Triangles x_l0 y_0 y_1 <| sK [6, 6] <| sC (show ((m_0.Triangles.getD x_l0.toNat default).map (cI .i64)) ≠ [] from (by have q := (OkTris.at hp3 hv_impl_copyMesh_1_0 (of_decide_eq_true (by assumption))).1; have q2 : (m_0.Triangles.getD x_l0.toNat default) ≠ [] := (by intro hq; rw [hq] at q; simp at q); simpa using q2)) <| sC (show ([] : List (List AV)).length + ((m_0.Triangles.getD x_l0.toNat default).map (cI .i64)).length ≤ 1073741824 from (by simpa using y_2)) <| sC (show ((m_0.Triangles.getD x_l0.toNat default).map (cI .i64)).all (fun cs => cs.length == 1 && cs.all isS) = true from (src_ok (fun _ => rfl))) <| sC (show (r4_l1.map fun l => l.map (cI .i64)).length + [(([] : List (List AV)) ++ ((m_0.Triangles.getD x_l0.toNat default).map (cI .i64)))].length ≤ 1073741824 from (by simpa using y_3)) <| sI (x_l0 + 1) y_4 y_5 <| sN) (by kernel_rfl) (show _ = ⟨[.agg [.sl (m_0.Places.map GVector.cells), .sl (m_0.Triangles.map (cL (cI .i64)))], .ptr 0 0 0, .ptr 1 0 0, .ptr 3 0 0, .any, .any, .any, .ptr 0 0 0, .sl (m_0.Places.map GVector.cells), .own 2, .agg [.own 2, .nils], .ptr 0 0 1, .sl (m_0.Triangles.map (cL (cI .i64))), .i .i64 (m_0.Triangles.length : Int), .i .i64 (x_l0 + 1), .any, .any, .any, .any, .any, .any, .any, .any, .any, .any, .any, .any, .any], [.box 31 [.sl (m_0.Places.map GVector.cells), .sl (m_0.Triangles.map (cL (cI .i64)))], .box 31 [.nils, .nils], .vec 67 3 (([] : List (List AV)) ++ (m_0.Places.map GVector.cells)) false, .box 31 [.own 2, .own 4], .nest 52 ((r4_l1 ++ [(([] : List Int) ++ (m_0.Triangles.getD x_l0.toNat default))]).map fun l => l.map (cI .i64)) false]⟩ from (by simp [GVector.cells, cL, cI])) (ih (x_l0 + 1) (r4_l1 ++ [(([] : List Int) ++ (m_0.Triangles.getD x_l0.toNat default))]) (show 0 ≤ (x_l0 + 1) from (by first | assumption | omega | (have q := (OkTris.at hp3 hv_impl_copyMesh_1_0 (of_decide_eq_true (by assumption))).1; omega) | (simp_all <;> omega))) (show ((r4_l1 ++ [(([] : List Int) ++ (m_0.Triangles.getD x_l0.toNat default))]).length : Int) = (x_l0 + 1) from (by first | assumption | omega | (have q := (OkTris.at hp3 hv_impl_copyMesh_1_0 (of_decide_eq_true (by assumption))).1; omega) | (simp_all <;> omega))) (by first | assumption | omega | (have q := (OkTris.at hp3 hv_impl_copyMesh_1_0 (of_decide_eq_true (by assumption))).1; omega) | (simp_all <;> omega)))
  | false =>
   have gh_0 := of_decide_eq_false h_0
   have e : lo_impl_copyMesh_1 m_0 (k + 1) x_l0 r4_l1 = r4_l1 := by simp only [lo_impl_copyMesh_1, h_0, cond_false]
   rw [e]
   exact outR (e := (.exit 0)) E0Ok hMixed [] mk_impl_copyMesh_1_1 [0, 1, 3, 2, 4] (sB h_0 <| sN) (by kernel_rfl) (by intro h; cases h)

def lr_impl_copyMesh_1_0 (m_0 : GMesh) : (List (List Int)) := (lo_impl_copyMesh_1 m_0 (((m_0.Triangles.length : Int) - 0).toNat + 1) 0 ([] : List (List Int)))

def v_impl_copyMesh (m_0 : GMesh) : GMesh := (⟨(([] : List GVector) ++ m_0.Places), (lr_impl_copyMesh_1_0 m_0)⟩ : GMesh)

theorem t_impl_copyMesh (m_0 : GMesh) (hp0 : m_0.Places.length ≤ 1073741824) (hp1 : m_0.Triangles.length ≤ 1073741824) (hp2 : ∀ t ∈ m_0.Triangles, t.length ≤ 1073741824) (hp3 : OkTris m_0.Places.length m_0.Triangles)  : Fn prog 132 [.agg [.sl (m_0.Places.map GVector.cells), .sl (m_0.Triangles.map (cL (cI .i64)))]] (.agg [.own 0, .own 1]) [.vec 67 3 (((v_impl_copyMesh m_0).Places).map GVector.cells) false, .nest 52 (((v_impl_copyMesh m_0).Triangles).map fun l => l.map (cI .i64)) false] := by
 have y0 : ([] : List GVector).length + m_0.Places.length ≤ 1073741824 := (by first | assumption | omega | (have q := (OkTris.at hp3 hv_impl_copyMesh_1_0 (of_decide_eq_true (by assumption))).1; omega) | (simp_all <;> omega))
 refine fnS E0Ok hMixed (c := bodyOf f132) [] (.agg [.own 0, .own 1]) [.vec 67 3 (([] : List (List AV)) ++ (m_0.Places.map GVector.cells)) false, .nest 52 ((lr_impl_copyMesh_1_0 m_0).map fun l => l.map (cI .i64)) false] func132 (sC (show ([] : List (List AV)).length + (m_0.Places.map GVector.cells).length ≤ 1073741824 from (by simpa using y0)) <| sC (show (m_0.Places.map GVector.cells).all (fun cs => cs.length == 3 && cs.all isS) = true from (src_ok (fun _ => rfl))) <| sZ (cL (cI .i64)) m_0.Triangles <| sL mk_impl_copyMesh_1_0 4 (Lp.nil (st := ⟨[.agg [.sl (m_0.Places.map GVector.cells), .sl (m_0.Triangles.map (cL (cI .i64)))], .ptr 0 0 0, .ptr 1 0 0, .ptr 3 0 0, .any, .any, .any, .ptr 0 0 0, .sl (m_0.Places.map GVector.cells), .own 2, .agg [.own 2, .nils], .ptr 0 0 1, .sl (m_0.Triangles.map (cL (cI .i64))), .i .i64 (m_0.Triangles.length : Int), .i .i64 0, .any, .any, .any, .any, .any, .any, .any, .any, .any, .any, .any, .any, .any], [.box 31 [.sl (m_0.Places.map GVector.cells), .sl (m_0.Triangles.map (cL (cI .i64)))], .box 31 [.nils, .nils], .vec 67 3 (([] : List (List AV)) ++ (m_0.Places.map GVector.cells)) false, .box 31 [.own 2, .nils]]⟩) (st2 := ⟨[.agg [.sl (m_0.Places.map GVector.cells), .sl (m_0.Triangles.map (cL (cI .i64)))], .ptr 0 0 0, .ptr 1 0 0, .ptr 3 0 0, .any, .any, .any, .ptr 0 0 0, .sl (m_0.Places.map GVector.cells), .own 2, .agg [.own 2, .nils], .ptr 0 0 1, .sl (m_0.Triangles.map (cL (cI .i64))), .i .i64 (m_0.Triangles.length : Int), .i .i64 0, .any, .any, .any, .any, .any, .any, .any, .any, .any, .any, .any, .any, .any], [.box 31 [.sl (m_0.Places.map GVector.cells), .sl (m_0.Triangles.map (cL (cI .i64)))], .box 31 [.nils, .nils], .vec 67 3 (([] : List (List AV)) ++ (m_0.Places.map GVector.cells)) false, .box 31 [.own 2, .own 4], .nest 52 [] false]⟩) (ps := [(.row 3 1, .nest 52 [] false)]) rfl (lp_cast (st2 := ⟨[.agg [.sl (m_0.Places.map GVector.cells), .sl (m_0.Triangles.map (cL (cI .i64)))], .ptr 0 0 0, .ptr 1 0 0, .ptr 3 0 0, .any, .any, .any, .ptr 0 0 0, .sl (m_0.Places.map GVector.cells), .own 2, .agg [.own 2, .nils], .ptr 0 0 1, .sl (m_0.Triangles.map (cL (cI .i64))), .i .i64 (m_0.Triangles.length : Int), .i .i64 0, .any, .any, .any, .any, .any, .any, .any, .any, .any, .any, .any, .any, .any], [.box 31 [.sl (m_0.Places.map GVector.cells), .sl (m_0.Triangles.map (cL (cI .i64)))], .box 31 [.nils, .nils], .vec 67 3 (([] : List (List AV)) ++ (m_0.Places.map GVector.cells)) false, .box 31 [.own 2, .own 4], .nest 52 [] false]⟩) (lp_val (ls_impl_copyMesh_1 m_0) (x := (lr_impl_copyMesh_1_0 m_0)) (lp_impl_copyMesh_1 m_0 hp0 hp1 hp2 hp3 (((m_0.Triangles.length : Int) - 0).toNat + 1) 0 ([] : List (List Int)) (show 0 ≤ 0 from (by first | assumption | omega | (have q := (OkTris.at hp3 hv_impl_copyMesh_1_0 (of_decide_eq_true (by assumption))).1; omega) | (simp_all <;> omega))) (show (([] : List (List Int)).length : Int) = 0 from (by simp)) (Nat.lt_succ_self _)) rfl) (by simp [hd_impl_copyMesh_1, GVector.cells, cL, cI]))) <| sK [3, 4] sN) rfl (by kernel_rfl) (by kernel_rfl) rfl ?_ ?_
 · rfl
 · simp [v_impl_copyMesh, GVector.cells]

@[simp] theorem eq_copyMesh (m : GMesh) : v_impl_copyMesh m = m := by
  unfold v_impl_copyMesh lr_impl_copyMesh_1_0
  rw [app_loop (f := fun i => (m.Triangles.getD i.toNat default)) (n := (m.Triangles.length : Int)) (lo := lo_impl_copyMesh_1 m) (fun k i r => rfl) _ _ _ (Nat.lt_succ_self _)]
  simp [getD_range2]

theorem i_impl_copyMesh (m_0 : GMesh) (hp0 : m_0.Places.length ≤ 1073741824) (hp1 : m_0.Triangles.length ≤ 1073741824) (hp2 : ∀ t ∈ m_0.Triangles, t.length ≤ 1073741824) (hp3 : OkTris m_0.Places.length m_0.Triangles) : Fn prog 132 [.agg [.sl (m_0.Places.map GVector.cells), .sl (m_0.Triangles.map (cL (cI .i64)))]] (.agg [.own 0, .own 1]) [.vec 67 3 (m_0.Places.map GVector.cells) false, .nest 52 (m_0.Triangles.map fun l => l.map (cI .i64)) false] := by
 simpa only [eq_copyMesh] using t_impl_copyMesh  m_0 hp0 hp1 hp2 hp3

def v_impl_BareBody (m_0 : GMesh) : GBody × Bool := (cond (v_impl_ValidMesh m_0)
  ((⟨m_0, ([] : List GSpring), 0, 0, (List.replicate (m_0.Places.length : Int).toNat 0), (⟨0, 0, 0⟩ : GVector)⟩ : GBody), true)
  ((⟨(⟨([] : List GVector), ([] : List (List Int))⟩ : GMesh), ([] : List GSpring), 0, 0, ([] : List Nat), (⟨0, 0, 0⟩ : GVector)⟩ : GBody), false))

theorem leP_impl_BareBody (m : GMesh) : (v_impl_BareBody m).1.Mesh.Places.length ≤ m.Places.length := by
  unfold v_impl_BareBody
  cases v_impl_ValidMesh m <;> simp

theorem leT_impl_BareBody (m : GMesh) : (v_impl_BareBody m).1.Mesh.Triangles.length ≤ m.Triangles.length := by
  unfold v_impl_BareBody
  cases v_impl_ValidMesh m <;> simp

theorem leW_impl_BareBody (m : GMesh) : (v_impl_BareBody m).1.Weights.length ≤ m.Places.length := by
  unfold v_impl_BareBody
  cases v_impl_ValidMesh m <;> simp

theorem leS_impl_BareBody (m : GMesh) : (v_impl_BareBody m).1.Springs.length ≤ 0 := by
  unfold v_impl_BareBody
  cases v_impl_ValidMesh m <;> simp

theorem mem_impl_BareBody (m : GMesh) : ∀ t ∈ (v_impl_BareBody m).1.Mesh.Triangles, t ∈ m.Triangles := by
  unfold v_impl_BareBody
  cases v_impl_ValidMesh m <;> simp

theorem bare_two (m : GMesh) : (v_impl_BareBody m).2 = v_spec_l02Is m := by
  unfold v_impl_BareBody; rw [eq_ValidMesh]; cases v_spec_l02Is m <;> rfl
theorem bare_ok (m : GMesh) (h : (v_impl_BareBody m).2 = true) : v_spec_l02Is m = true := by rw [← bare_two]; exact h
theorem bare_spr (m : GMesh) : (v_impl_BareBody m).1.Springs = [] := by
  unfold v_impl_BareBody; cases v_impl_ValidMesh m <;> rfl
theorem bare_one (m : GMesh) (h : v_spec_l02Is m = true) : (v_impl_BareBody m).1 = ⟨m, [], 0, 0, List.replicate (m.Places.length : Int).toNat 0, ⟨0, 0, 0⟩⟩ := by
  unfold v_impl_BareBody; rw [eq_ValidMesh, h]; rfl

theorem t_impl_BareBody (m_0 : GMesh) (hp0 : m_0.Places.length ≤ 1073741824) (hp1 : m_0.Triangles.length ≤ 1073741824) (hp2 : ∀ t ∈ m_0.Triangles, t.length ≤ 1073741824)  : Fn prog 98 [.agg [.sl (m_0.Places.map GVector.cells), .sl (m_0.Triangles.map (cL (cI .i64)))]] (.tup [.agg [.own 0, .own 1, .own 2, .f .f32 ((v_impl_BareBody m_0).1.Film), .f .f32 ((v_impl_BareBody m_0).1.Bend), .own 3, .f .f32 ((v_impl_BareBody m_0).1.Fall.X), .f .f32 ((v_impl_BareBody m_0).1.Fall.Y), .f .f32 ((v_impl_BareBody m_0).1.Fall.Z)], .b ((v_impl_BareBody m_0).2)]) [.vec 67 3 (((v_impl_BareBody m_0).1.Mesh.Places).map GVector.cells) false, .nest 52 (((v_impl_BareBody m_0).1.Mesh.Triangles).map fun l => l.map (cI .i64)) false, .vec 132 4 (((v_impl_BareBody m_0).1.Springs).map GSpring.cells) false, .vec 38 1 (((v_impl_BareBody m_0).1.Weights).map (cF .f32)) false] := by
 have p {a C} (s : Scr a C) := sF (t_impl_ValidMesh m_0 hp0 hp1 hp2) <| s
 cases h0 : (v_impl_ValidMesh m_0) with
 | true =>
  have y0 : OkTris m_0.Places.length m_0.Triangles := by clear p; exact (by first | assumption | omega | exact okTris_is _ (by rw [← eq_ValidMesh]; assumption))
  have y1 : (0 : Int) ≤ (m_0.Places.length : Int) := by clear p; exact (by first | assumption | omega | (simp_all <;> omega))
  have y2 : ((m_0.Places.length : Int) : Int) ≤ 2147483648 := by clear p; exact (by first | assumption | omega | (simp_all <;> omega))
  refine fnS E0Ok hMixed (c := bodyOf f98) [(.row 1 2, .vec 132 4 [] false)] (.tup [.agg [.own 0, .own 1, .own 2, .f .f32 0, .f .f32 0, .own 3, .f .f32 0, .f .f32 0, .f .f32 0], .b true]) [.vec 67 3 (m_0.Places.map GVector.cells) false, .nest 52 (m_0.Triangles.map fun l => l.map (cI .i64)) false, .vec 132 4 [] false, .vec 38 1 (List.replicate (Int.toNat (m_0.Places.length : Int)) [.f .f32 0]) false] func98 (p (sB' h0 <| sK [6, 6] <| sF (i_impl_copyMesh m_0 hp0 hp1 hp2 y0) <| sZ GVector.cells m_0.Places <| sC (show (m_0.Places.length : Int) = (m_0.Places.length : Int) from rfl) <| sC y1 <| sC y2 <| sK [2, 3, 5, 4] sN)) rfl (by kernel_rfl) (by kernel_rfl) rfl ?_ ?_
  · simp only [v_impl_BareBody, h0, cond_true]
  · simp [v_impl_BareBody, h0, GSpring.cells, cF]
 | false =>
  refine fnS E0Ok hMixed (c := bodyOf f98) [(.row 1 0, .vec 67 3 [] false), (.row 1 1, .nest 52 [] false), (.row 1 2, .vec 132 4 [] false), (.row 1 5, .vec 38 1 [] false)] (.tup [.agg [.own 0, .own 1, .own 2, .f .f32 0, .f .f32 0, .own 3, .f .f32 0, .f .f32 0, .f .f32 0], .b false]) [.vec 67 3 [] false, .nest 52 [] false, .vec 132 4 [] false, .vec 38 1 [] false] func98 (p (sB' h0 <| sK [2, 3, 4, 5] sN)) rfl (by kernel_rfl) (by kernel_rfl) rfl ?_ ?_
  · simp only [v_impl_BareBody, h0, cond_false]
  · simp [v_impl_BareBody, h0, GVector.cells, cL, cI, GSpring.cells, cF]

def v_impl_edgeOf (a_0 : Int) (b_1 : Int) : Gedge := (⟨(if b_1 < a_0 then b_1 else a_0), (if b_1 > a_0 then b_1 else a_0)⟩ : Gedge)

theorem t_impl_edgeOf (a_0 : Int) (b_1 : Int)   : Fn prog 70 [.i .i64 a_0, .i .i64 b_1] (.agg [.i .i64 ((v_impl_edgeOf a_0 b_1).e0), .i .i64 ((v_impl_edgeOf a_0 b_1).e1)]) [] := by
 refine fnS E0Ok hMixed (c := bodyOf f70) [] (.agg [.i .i64 (if b_1 < a_0 then b_1 else a_0), .i .i64 (if b_1 > a_0 then b_1 else a_0)]) [] func70 (sC (show (if false = true then (if b_1 > a_0 then b_1 else a_0) else (if b_1 < a_0 then b_1 else a_0)) = (if b_1 < a_0 then b_1 else a_0) from (by simp)) <| sA (.num (if b_1 < a_0 then b_1 else a_0)) <| sC (show (if true = true then (if b_1 > a_0 then b_1 else a_0) else (if b_1 < a_0 then b_1 else a_0)) = (if b_1 > a_0 then b_1 else a_0) from (by simp)) <| sA (.num (if b_1 > a_0 then b_1 else a_0)) <| sK [] sN) rfl (by kernel_rfl) (by kernel_rfl) rfl ?_ ?_
 · rfl
 · rfl

theorem edgeOf_eq (a b : Int) : v_impl_edgeOf a b = mkE a b := by
  unfold v_impl_edgeOf mkE
  by_cases h : a ≤ b
  · rw [if_pos h, if_neg (by omega)]
    by_cases h2 : b > a
    · rw [if_pos h2]
    · rw [if_neg h2, show a = b from by omega]
  · rw [if_neg h, if_pos (by omega), if_neg (by omega)]

def v_cmp_isNaN_int64_ (x_0 : Int) : Bool := (x_0 != x_0)

theorem t_cmp_isNaN_int64_ (x_0 : Int)   : Fn prog 173 [.i .i64 x_0] (.b (v_cmp_isNaN_int64_ x_0)) [] := by
 refine fnS E0Ok hMixed (c := bodyOf f173) [] (.b (x_0 != x_0)) [] func173 (sK [] sN) rfl (by kernel_rfl) (by kernel_rfl) rfl ?_ ?_
 · rfl
 · rfl

def v_cmp_Compare_int64_ (x_0 : Int) (y_1 : Int) : Int := (cond (v_cmp_isNaN_int64_ x_0)
  (cond (v_cmp_isNaN_int64_ y_1)
    0
    (-1))
  (cond (v_cmp_isNaN_int64_ y_1)
    1
    (cond (decide (x_0 < y_1))
      (-1)
      (cond (decide (x_0 > y_1))
        1
        0))))

theorem t_cmp_Compare_int64_ (x_0 : Int) (y_1 : Int)   : Fn prog 166 [.i .i64 x_0, .i .i64 y_1] (.i .i64 (v_cmp_Compare_int64_ x_0 y_1)) [] := by
 have p {a C} (s : Scr a C) := sF (t_cmp_isNaN_int64_ x_0) <| sF (t_cmp_isNaN_int64_ y_1) <| s
 cases h0 : (v_cmp_isNaN_int64_ x_0) with
 | true =>
  have q {a C} (s : Scr a C) := p (sB h0 <| s)
  clear p
  cases h1 : (v_cmp_isNaN_int64_ y_1) with
  | true =>
   refine fnS E0Ok hMixed (c := bodyOf f166) [] (.i .i64 0) [] func166 (q (sB h1 <| sK [] sN)) rfl (by kernel_rfl) (by kernel_rfl) rfl ?_ ?_
   · simp only [v_cmp_Compare_int64_, h0, h1, cond_true]
   · rfl
  | false =>
   refine fnS E0Ok hMixed (c := bodyOf f166) [] (.i .i64 (-1)) [] func166 (q (sB h1 <| sK [] sN)) rfl (by kernel_rfl) (by kernel_rfl) rfl ?_ ?_
   · simp only [v_cmp_Compare_int64_, h0, h1, cond_true, cond_false]
   · rfl
 | false =>
  have q {a C} (s : Scr a C) := p (sB h0 <| s)
  clear p
  cases h1 : (v_cmp_isNaN_int64_ y_1) with
  | true =>
   refine fnS E0Ok hMixed (c := bodyOf f166) [] (.i .i64 1) [] func166 (q (sB h1 <| sK [] sN)) rfl (by kernel_rfl) (by kernel_rfl) rfl ?_ ?_
   · simp only [v_cmp_Compare_int64_, h0, h1, cond_true, cond_false]
   · rfl
  | false =>
   have p {a C} (s : Scr a C) := q (sB h1 <| s)
   clear q
   cases h2 : (decide (x_0 < y_1)) with
   | true =>
    have gh2 := of_decide_eq_true h2
    refine fnS E0Ok hMixed (c := bodyOf f166) [] (.i .i64 (-1)) [] func166 (p (sB h2 <| sK [] sN)) rfl (by kernel_rfl) (by kernel_rfl) rfl ?_ ?_
    · simp only [v_cmp_Compare_int64_, h0, h1, h2, cond_true, cond_false]
    · rfl
   | false =>
    have gh2 := of_decide_eq_false h2
    have q {a C} (s : Scr a C) := p (sB h2 <| s)
    clear p
    cases h3 : (decide (x_0 > y_1)) with
    | true =>
     have gh3 := of_decide_eq_true h3
     refine fnS E0Ok hMixed (c := bodyOf f166) [] (.i .i64 1) [] func166 (q (sB h3 <| sK [] sN)) rfl (by kernel_rfl) (by kernel_rfl) rfl ?_ ?_
     · simp only [v_cmp_Compare_int64_, h0, h1, h2, h3, cond_true, cond_false]
     · rfl
    | false =>
     have gh3 := of_decide_eq_false h3
     refine fnS E0Ok hMixed (c := bodyOf f166) [] (.i .i64 0) [] func166 (q (sB h3 <| sK [] sN)) rfl (by kernel_rfl) (by kernel_rfl) rfl ?_ ?_
     · simp only [v_cmp_Compare_int64_, h0, h1, h2, h3, cond_false]
     · rfl

def lo_slices_Compare___int64_int64__1 (s1_0 : (List Int)) (s2_1 : (List Int)) : Nat → Int → (Int) ⊕ (Unit)
  | 0, _ => .inl default
  | k + 1, x_l0 => (cond (decide (x_l0 < (s1_0.length : Int)))
    (cond (decide (x_l0 ≥ (s2_1.length : Int)))
      (.inl 1)
      (cond ((v_cmp_Compare_int64_ (s1_0.getD x_l0.toNat default) (s2_1.getD x_l0.toNat default)) != 0)
        (.inl (v_cmp_Compare_int64_ (s1_0.getD x_l0.toNat default) (s2_1.getD x_l0.toNat default)))
        (lo_slices_Compare___int64_int64__1 s1_0 s2_1 k (x_l0 + 1))))
    (.inr ()))

def ls_slices_Compare___int64_int64__1 (s1_0 : (List Int)) (s2_1 : (List Int)) : (Int) ⊕ (Unit) → Ex × St
  | .inl r => (.ret, ⟨[.any, .any, .any, .any, .i .i64 r, .any, .any, .any, .any, .any, .any, .any, .any, .any, .any, .any, .any, .any, .any, .any, .any, .any, .any, .any, .any, .any, .any, .any, .any, .any, .any, .any, .any, .any, .any, .any], []⟩)
  | .inr r => ((.exit 0), ⟨[.sl (s1_0.map (cI .i64)), .sl (s2_1.map (cI .i64)), .any, .any, .any, .any, .any, .any, .any, .sl (s1_0.map (cI .i64)), .any, .any, .any, .any, .any, .any, .any, .any, .any, .any, .any, .any, .any, .any, .any, .any, .any, .any, .any, .any, .any, .any, .any, .any, .any, .any], []⟩)

def hd_slices_Compare___int64_int64__1 (s1_0 : (List Int)) (s2_1 : (List Int)) (x_l0 : Int) : St := ⟨[.sl (s1_0.map (cI .i64)), .sl (s2_1.map (cI .i64)), .any, .any, .any, .any, .any, .any, .any, .sl (s1_0.map (cI .i64)), .i .i64 (s1_0.length : Int), .i .i64 x_l0, .any, .any, .any, .any, .any, .any, .any, .any, .any, .any, .any, .any, .any, .any, .any, .any, .any, .any, .any, .any, .any, .any, .any, .any], []⟩

def mk_slices_Compare___int64_int64__1_0 : List Bool := [true, true, false, false, false, false, false, false, false, true, true, true, false, false, false, false, false, false, false, false, false, false, false, false, false, false, false, false, false, false, false, false, false, false, false, false]

def mk_slices_Compare___int64_int64__1_1 : List Bool := [false, false, false, false, true, false, false, false, false, false, false, false, false, false, false, false, false, false, false, false, false, false, false, false, false, false, false, false, false, false, false, false, false, false, false, false]

def mk_slices_Compare___int64_int64__1_2 : List Bool := [true, true, false, false, false, false, false, false, false, true, false, false, false, false, false, false, false, false, false, false, false, false, false, false, false, false, false, false, false, false, false, false, false, false, false, false]

theorem lp_slices_Compare___int64_int64__1 (s1_0 : (List Int)) (s2_1 : (List Int)) (hp0 : s1_0.length ≤ 1073741824) (hp1 : s2_1.length ≤ 1073741824) : ∀ (k : Nat) (x_l0 : Int) (hv_slices_Compare___int64_int64__1_0 : 0 ≤ x_l0) (hk : ((s1_0.length : Int) - x_l0).toNat < k), Lp prog 0 (sub (bodyOf f141) [1, 0, 1, 0, 0]) (hd_slices_Compare___int64_int64__1 s1_0 s2_1 x_l0) (ls_slices_Compare___int64_int64__1 s1_0 s2_1 (lo_slices_Compare___int64_int64__1 s1_0 s2_1 k x_l0)).1 (ls_slices_Compare___int64_int64__1 s1_0 s2_1 (lo_slices_Compare___int64_int64__1 s1_0 s2_1 k x_l0)).2 := by
 intro k
 induction k with
 | zero => intro x_l0 hv_slices_Compare___int64_int64__1_0 hk; exact absurd hk (Nat.not_lt_zero _)
 | succ k ih =>
  intro x_l0 hv_slices_Compare___int64_int64__1_0 hk
  cases h_0 : (decide (x_l0 < (s1_0.length : Int))) with
  | true =>
   have gh_0 := of_decide_eq_true h_0
   have y_0 : (0 : Int) ≤ x_l0 := (by first | assumption | omega | (simp_all <;> omega))
   have y_1 : x_l0 < (s1_0.length : Int) := (by first | assumption | omega | (simp_all <;> omega))
   have p {a C} (s : Scr a C) := sB h_0 <| sG (cI .i64) s1_0 x_l0 y_0 y_1 <| sZ (cI .i64) s2_1 <| s
   cases h_1 : (decide (x_l0 ≥ (s2_1.length : Int))) with
   | true =>
    have gh_1 := of_decide_eq_true h_1
    have e : lo_slices_Compare___int64_int64__1 s1_0 s2_1 (k + 1) x_l0 = (.inl 1) := by simp only [lo_slices_Compare___int64_int64__1, h_0, h_1, cond_true]
    rw [e]
    exact outR (e := .ret) E0Ok hMixed [] mk_slices_Compare___int64_int64__1_1 [] (p (sB h_1 <| sN)) (by kernel_rfl) (by intro h; cases h)
   | false =>
    have gh_1 := of_decide_eq_false h_1
    have y_2 : x_l0 < (s2_1.length : Int) := by clear p; exact (by first | assumption | omega | (simp_all <;> omega))
    have q {a C} (s : Scr a C) := p (sB h_1 <| sG (cI .i64) s2_1 x_l0 y_0 y_2 <| sF (t_cmp_Compare_int64_ (s1_0.getD x_l0.toNat default) (s2_1.getD x_l0.toNat default)) <| s)
    clear p
    cases h_2 : ((v_cmp_Compare_int64_ (s1_0.getD x_l0.toNat default) (s2_1.getD x_l0.toNat default)) != 0) with
    | true =>
     have gh_2 := bne_iff_ne.1 h_2
     have e : lo_slices_Compare___int64_int64__1 s1_0 s2_1 (k + 1) x_l0 = (.inl (v_cmp_Compare_int64_ (s1_0.getD x_l0.toNat default) (s2_1.getD x_l0.toNat default))) := by simp only [lo_slices_Compare___int64_int64__1, h_0, h_1, h_2, cond_true, cond_false]
     rw [e]
     exact outR (e := .ret) E0Ok hMixed [] mk_slices_Compare___int64_int64__1_1 [] (q (sB h_2 <| sN)) (by kernel_rfl) (by intro h; cases h)
    | false =>
     have gh_2 := bne_eq_false_iff_eq.1 h_2
     have y_3 : (-9223372036854775808 : Int) ≤ (x_l0 + 1) := by clear q; exact (by first | assumption | omega | (simp_all <;> omega))
     have y_4 : (x_l0 + 1) ≤ (9223372036854775807 : Int) := by clear q; exact (by first | assumption | omega | (simp_all <;> omega))
     have e : lo_slices_Compare___int64_int64__1 s1_0 s2_1 (k + 1) x_l0 = (lo_slices_Compare___int64_int64__1 s1_0 s2_1 k (x_l0 + 1)) := by simp only [lo_slices_Compare___int64_int64__1, h_0, h_1, h_2, cond_true, cond_false]
     rw [e]
     exact nextR E0Ok hMixed [] mk_slices_Compare___int64_int64__1_0 [] (ih (x_l0 + 1) (show 0 ≤ (x_l0 + 1) from (by first | assumption | omega | (simp_all <;> omega))) (by first | assumption | omega | (simp_all <;> omega))) (q (sB h_2 <| sI (x_l0 + 1) y_3 y_4 <| sN)) (by kernel_rfl)
  | false =>
   have gh_0 := of_decide_eq_false h_0
   have e : lo_slices_Compare___int64_int64__1 s1_0 s2_1 (k + 1) x_l0 = (.inr ()) := by simp only [lo_slices_Compare___int64_int64__1, h_0, cond_false]
   rw [e]
   exact outR (e := (.exit 0)) E0Ok hMixed [] mk_slices_Compare___int64_int64__1_2 [] (sB h_0 <| sN) (by kernel_rfl) (by intro h; cases h)

def lr_slices_Compare___int64_int64__1_0 (s1_0 : (List Int)) (s2_1 : (List Int)) : (Int) ⊕ (Unit) := (lo_slices_Compare___int64_int64__1 s1_0 s2_1 (((s1_0.length : Int) - 0).toNat + 1) 0)

def v_slices_Compare___int64_int64_ (s1_0 : (List Int)) (s2_1 : (List Int)) : Int := (match (lr_slices_Compare___int64_int64__1_0 s1_0 s2_1) with
  | .inl r1 => r1
  | .inr r1 => (cond (decide ((s1_0.length : Int) < (s2_1.length : Int)))
    (-1)
    0))

theorem t_slices_Compare___int64_int64_ (s1_0 : (List Int)) (s2_1 : (List Int)) (hp0 : s1_0.length ≤ 1073741824) (hp1 : s2_1.length ≤ 1073741824)  : Fn prog 141 [.sl (s1_0.map (cI .i64)), .sl (s2_1.map (cI .i64))] (.i .i64 (v_slices_Compare___int64_int64_ s1_0 s2_1)) [] := by
 have p {a C} (s : Scr a C) := sZ (cI .i64) s1_0 <| s
 cases h0 : (lr_slices_Compare___int64_int64__1_0 s1_0 s2_1) with
 | inl r1 =>
  refine fnS E0Ok hMixed (c := bodyOf f141) [] (.i .i64 r1) [] func141 (p (sL mk_slices_Compare___int64_int64__1_0 0 (lp_val (ls_slices_Compare___int64_int64__1 s1_0 s2_1) (x := (lr_slices_Compare___int64_int64__1_0 s1_0 s2_1)) (lp_slices_Compare___int64_int64__1 s1_0 s2_1 hp0 hp1 (((s1_0.length : Int) - 0).toNat + 1) 0 (show 0 ≤ 0 from (by first | assumption | omega | (simp_all <;> omega))) (Nat.lt_succ_self _)) h0) <| sK [] sN)) rfl (by kernel_rfl) (by kernel_rfl) rfl ?_ ?_
  · simp only [v_slices_Compare___int64_int64_, h0]
  · rfl
 | inr r1 =>
  have q {a C} (s : Scr a C) := p (sL mk_slices_Compare___int64_int64__1_0 0 (lp_val (ls_slices_Compare___int64_int64__1 s1_0 s2_1) (x := (lr_slices_Compare___int64_int64__1_0 s1_0 s2_1)) (lp_slices_Compare___int64_int64__1 s1_0 s2_1 hp0 hp1 (((s1_0.length : Int) - 0).toNat + 1) 0 (show 0 ≤ 0 from (by first | assumption | omega | (simp_all <;> omega))) (Nat.lt_succ_self _)) h0) <| sZ (cI .i64) s1_0 <| sZ (cI .i64) s2_1 <| s)
  clear p
  cases h1 : (decide ((s1_0.length : Int) < (s2_1.length : Int))) with
  | true =>
   have gh1 := of_decide_eq_true h1
   refine fnS E0Ok hMixed (c := bodyOf f141) [] (.i .i64 (-1)) [] func141 (q (sB h1 <| sK [] sN)) rfl (by kernel_rfl) (by kernel_rfl) rfl ?_ ?_
   · simp only [v_slices_Compare___int64_int64_, h0, h1, cond_true]
   · rfl
  | false =>
   have gh1 := of_decide_eq_false h1
   refine fnS E0Ok hMixed (c := bodyOf f141) [] (.i .i64 0) [] func141 (q (sB h1 <| sK [] sN)) rfl (by kernel_rfl) (by kernel_rfl) rfl ?_ ?_
   · simp only [v_slices_Compare___int64_int64_, h0, h1, cond_false]
   · rfl

def v_impl_compareEdges (a_0 : Gedge) (b_1 : Gedge) : Int := (v_slices_Compare___int64_int64_ ([a_0.e0, a_0.e1]) ([b_1.e0, b_1.e1]))

theorem t_impl_compareEdges (a_0 : Gedge) (b_1 : Gedge)   : Fn prog 115 [.agg [.i .i64 a_0.e0, .i .i64 a_0.e1], .agg [.i .i64 b_1.e0, .i .i64 b_1.e1]] (.i .i64 (v_impl_compareEdges a_0 b_1)) [] := by
 have y0 : ([a_0.e0, a_0.e1]).length ≤ 1073741824 := (by first | assumption | omega | (simp_all <;> omega))
 have y1 : ([b_1.e0, b_1.e1]).length ≤ 1073741824 := (by first | assumption | omega | (simp_all <;> omega))
 refine fnS E0Ok hMixed (c := bodyOf f115) [] (.i .i64 (v_slices_Compare___int64_int64_ ([a_0.e0, a_0.e1]) ([b_1.e0, b_1.e1]))) [] func115 (sK [2, 2] <| sF (t_slices_Compare___int64_int64_ ([a_0.e0, a_0.e1]) ([b_1.e0, b_1.e1]) y0 y1) <| sK [] sN) rfl (by kernel_rfl) (by kernel_rfl) rfl ?_ ?_
 · rfl
 · rfl

def nd_impl_trianglesByEdge_0 (m_0 : GMesh) (x_l0 : Int) (x_l0_1 : Int) : Gedge := (v_impl_edgeOf ((m_0.Triangles.getD x_l0.toNat default).getD x_l0_1.toNat default) ((m_0.Triangles.getD x_l0.toNat default).getD (Int.tmod (x_l0_1 + 1) 3).toNat default))

def lo_impl_trianglesByEdge_2 (m_0 : GMesh) (x_l0 : Int) (r1_l1 : (List (Gedge × List Int))) (r2_l2 : (List Gedge)) : Nat → Int → (List (Gedge × List Int)) → (List Gedge) → (List (Gedge × List Int)) × (List Gedge)
  | 0, _, _, _ => default
  | k + 1, x_l0_1, r1_l1_1, r2_l2_1 => (cond (decide (x_l0_1 < 3))
    (cond (mhas r1_l1_1 (nd_impl_trianglesByEdge_0 m_0 x_l0 x_l0_1))
      (cond (((r1_l1_1.getD (midx r1_l1_1 (nd_impl_trianglesByEdge_0 m_0 x_l0 x_l0_1)) default).2.length : Int) == 0)
        (lo_impl_trianglesByEdge_2 m_0 x_l0 r1_l1 r2_l2 k (x_l0_1 + 1) (mput r1_l1_1 (midx r1_l1_1 (nd_impl_trianglesByEdge_0 m_0 x_l0 x_l0_1)) ((r1_l1_1.getD (midx r1_l1_1 (nd_impl_trianglesByEdge_0 m_0 x_l0 x_l0_1)) default).2 ++ [x_l0])) (r2_l2_1 ++ [(nd_impl_trianglesByEdge_0 m_0 x_l0 x_l0_1)]))
        (lo_impl_trianglesByEdge_2 m_0 x_l0 r1_l1 r2_l2 k (x_l0_1 + 1) (mput r1_l1_1 (midx r1_l1_1 (nd_impl_trianglesByEdge_0 m_0 x_l0 x_l0_1)) ((r1_l1_1.getD (midx r1_l1_1 (nd_impl_trianglesByEdge_0 m_0 x_l0 x_l0_1)) default).2 ++ [x_l0])) r2_l2_1))
      (lo_impl_trianglesByEdge_2 m_0 x_l0 r1_l1 r2_l2 k (x_l0_1 + 1) (r1_l1_1 ++ [((nd_impl_trianglesByEdge_0 m_0 x_l0 x_l0_1), [x_l0])]) (r2_l2_1 ++ [(nd_impl_trianglesByEdge_0 m_0 x_l0 x_l0_1)])))
    (r1_l1_1, r2_l2_1))

def ls_impl_trianglesByEdge_2 (m_0 : GMesh) (x_l0 : Int) (r1_l1 : (List (Gedge × List Int))) (r2_l2 : (List Gedge)) (r : (List (Gedge × List Int)) × (List Gedge)) : Ex × St := ((.exit 2), ⟨[.agg [.sl (m_0.Places.map GVector.cells), .sl (m_0.Triangles.map (cL (cI .i64)))], .ptr 0 0 0, .any, .nils, .mp 1, .own 2, .any, .any, .any, .any, .mp 1, .any, .ptr 0 0 1, .sl (m_0.Triangles.map (cL (cI .i64))), .i .i64 (m_0.Triangles.length : Int), .i .i64 x_l0, .b (decide (x_l0 < (m_0.Triangles.length : Int))), .i .i64 x_l0, .ref [.sl ((m_0.Triangles.getD x_l0.toNat default).map (cI .i64))] 0, .sl ((m_0.Triangles.getD x_l0.toNat default).map (cI .i64)), .any, .any, .any, .any, .any, .any, .any, .any, .any, .any, .any, .any, .any, .any, .any, .any, .any, .any, .any, .any, .any, .any, .any, .any, .any, .any, .any, .any, .any, .any, .any, .any, .any, .any, .any, .any, .any], [.box 31 [.sl (m_0.Places.map GVector.cells), .sl (m_0.Triangles.map (cL (cI .i64)))], .mapN 2 (mapC Gedge.pr (cI .i64) r.1) none, .vec 100 2 (r.2.map Gedge.cells) false]⟩)

def hd_impl_trianglesByEdge_2 (m_0 : GMesh) (x_l0 : Int) (r1_l1 : (List (Gedge × List Int))) (r2_l2 : (List Gedge)) (x_l0_1 : Int) (r1_l1_1 : (List (Gedge × List Int))) (r2_l2_1 : (List Gedge)) : St := ⟨[.agg [.sl (m_0.Places.map GVector.cells), .sl (m_0.Triangles.map (cL (cI .i64)))], .ptr 0 0 0, .any, .nils, .mp 1, .own 2, .i .i64 x_l0, .sl ((m_0.Triangles.getD x_l0.toNat default).map (cI .i64)), .any, .any, .mp 1, .any, .ptr 0 0 1, .sl (m_0.Triangles.map (cL (cI .i64))), .i .i64 (m_0.Triangles.length : Int), .i .i64 x_l0, .b (decide (x_l0 < (m_0.Triangles.length : Int))), .i .i64 x_l0, .ref [.sl ((m_0.Triangles.getD x_l0.toNat default).map (cI .i64))] 0, .sl ((m_0.Triangles.getD x_l0.toNat default).map (cI .i64)), .i .i64 x_l0_1, .any, .any, .any, .any, .any, .any, .any, .any, .any, .any, .any, .any, .any, .any, .any, .any, .any, .any, .any, .any, .any, .any, .any, .any, .any, .any, .any, .any, .any, .any, .any, .any, .any, .any, .any, .any], [.box 31 [.sl (m_0.Places.map GVector.cells), .sl (m_0.Triangles.map (cL (cI .i64)))], .mapN 2 (mapC Gedge.pr (cI .i64) r1_l1_1) none, .vec 100 2 (r2_l2_1.map Gedge.cells) false]⟩

def mk_impl_trianglesByEdge_2_0 : List Bool := [true, true, false, true, true, true, true, true, false, false, true, false, true, true, true, true, true, true, true, true, true, false, false, false, false, false, false, false, false, false, false, false, false, false, false, false, false, false, false, false, false, false, false, false, false, false, false, false, false, false, false, false, false, false, false, false, false]

def mk_impl_trianglesByEdge_2_1 : List Bool := [true, true, false, true, true, true, false, false, false, false, true, false, true, true, true, true, true, true, true, true, false, false, false, false, false, false, false, false, false, false, false, false, false, false, false, false, false, false, false, false, false, false, false, false, false, false, false, false, false, false, false, false, false, false, false, false, false]

theorem lp_impl_trianglesByEdge_2 (m_0 : GMesh) (x_l0 : Int) (r1_l1 : (List (Gedge × List Int))) (r2_l2 : (List Gedge)) (hp0 : m_0.Places.length ≤ 1073741824) (hp1 : m_0.Triangles.length ≤ 1073741824) (hp2 : ∀ t ∈ m_0.Triangles, t.length ≤ 1073741824) (hp3 : OkE m_0.Places.length m_0.Triangles) (hv_impl_trianglesByEdge_1_0 : 0 ≤ x_l0) (hv_impl_trianglesByEdge_1_1 : (r2_l2.length : Int) ≤ 3 * x_l0) (hv_impl_trianglesByEdge_1_2 : ∀ y ∈ r1_l1, (y.2.length : Int) ≤ 3 * x_l0) (hf_impl_trianglesByEdge_2_0 : (decide (x_l0 < (m_0.Triangles.length : Int))) = true) : ∀ (k : Nat) (x_l0_1 : Int) (r1_l1_1 : (List (Gedge × List Int))) (r2_l2_1 : (List Gedge)) (hv_impl_trianglesByEdge_2_0 : 0 ≤ x_l0_1) (hv_impl_trianglesByEdge_2_1 : (r2_l2_1.length : Int) ≤ (r2_l2.length : Int) + x_l0_1) (hv_impl_trianglesByEdge_2_2 : ∀ y ∈ r1_l1_1, (y.2.length : Int) ≤ 3 * x_l0 + x_l0_1) (hk : ((3 : Int) - x_l0_1).toNat < k), Lp prog 0 (sub (bodyOf f66) [1, 1, 0, 1, 0, 0, 1, 1, 0, 0, 1, 1, 0, 0]) (hd_impl_trianglesByEdge_2 m_0 x_l0 r1_l1 r2_l2 x_l0_1 r1_l1_1 r2_l2_1) (ls_impl_trianglesByEdge_2 m_0 x_l0 r1_l1 r2_l2 (lo_impl_trianglesByEdge_2 m_0 x_l0 r1_l1 r2_l2 k x_l0_1 r1_l1_1 r2_l2_1)).1 (ls_impl_trianglesByEdge_2 m_0 x_l0 r1_l1 r2_l2 (lo_impl_trianglesByEdge_2 m_0 x_l0 r1_l1 r2_l2 k x_l0_1 r1_l1_1 r2_l2_1)).2 := by
 intro k
 induction k with
 | zero => intro x_l0_1 r1_l1_1 r2_l2_1 hv_impl_trianglesByEdge_2_0 hv_impl_trianglesByEdge_2_1 hv_impl_trianglesByEdge_2_2 hk; exact absurd hk (Nat.not_lt_zero _)
 | succ k ih =>
  intro x_l0_1 r1_l1_1 r2_l2_1 hv_impl_trianglesByEdge_2_0 hv_impl_trianglesByEdge_2_1 hv_impl_trianglesByEdge_2_2 hk
  cases h__0 : (decide (x_l0_1 < 3)) with
  | true =>
   have gh__0 := of_decide_eq_true h__0
   have y__0 : (0 : Int) ≤ x_l0_1 := (by first | assumption | omega | (first | (have g5 := of_decide_eq_true hf_impl_trianglesByEdge_2_0; have q := OkE.at hp3 hv_impl_trianglesByEdge_1_0 g5 hv_impl_trianglesByEdge_2_0 (of_decide_eq_true (by assumption)); first | omega | (simp only [List.length_append, List.length_cons, List.length_nil]; omega) | (have q3 := mlen_leI (N := 3 * x_l0 + x_l0_1) (by omega) (by assumption) (midx r1_l1_1 (nd_impl_trianglesByEdge_0 m_0 x_l0 x_l0_1)); simp only [List.length_cons, List.length_nil]; omega)) | (have := hp3.2.1; omega) | (have q := loTE_len m_0 hp3; omega)) | (simp_all <;> omega))
   have y__1 : x_l0_1 < ((m_0.Triangles.getD x_l0.toNat default).length : Int) := (by first | assumption | omega | (first | (have g5 := of_decide_eq_true hf_impl_trianglesByEdge_2_0; have q := OkE.at hp3 hv_impl_trianglesByEdge_1_0 g5 hv_impl_trianglesByEdge_2_0 (of_decide_eq_true (by assumption)); first | omega | (simp only [List.length_append, List.length_cons, List.length_nil]; omega) | (have q3 := mlen_leI (N := 3 * x_l0 + x_l0_1) (by omega) (by assumption) (midx r1_l1_1 (nd_impl_trianglesByEdge_0 m_0 x_l0 x_l0_1)); simp only [List.length_cons, List.length_nil]; omega)) | (have := hp3.2.1; omega) | (have q := loTE_len m_0 hp3; omega)) | (simp_all <;> omega))
   have y__2 : (-9223372036854775808 : Int) ≤ (x_l0_1 + 1) := (by first | assumption | omega | (first | (have g5 := of_decide_eq_true hf_impl_trianglesByEdge_2_0; have q := OkE.at hp3 hv_impl_trianglesByEdge_1_0 g5 hv_impl_trianglesByEdge_2_0 (of_decide_eq_true (by assumption)); first | omega | (simp only [List.length_append, List.length_cons, List.length_nil]; omega) | (have q3 := mlen_leI (N := 3 * x_l0 + x_l0_1) (by omega) (by assumption) (midx r1_l1_1 (nd_impl_trianglesByEdge_0 m_0 x_l0 x_l0_1)); simp only [List.length_cons, List.length_nil]; omega)) | (have := hp3.2.1; omega) | (have q := loTE_len m_0 hp3; omega)) | (simp_all <;> omega))
   have y__3 : (x_l0_1 + 1) ≤ (9223372036854775807 : Int) := (by first | assumption | omega | (first | (have g5 := of_decide_eq_true hf_impl_trianglesByEdge_2_0; have q := OkE.at hp3 hv_impl_trianglesByEdge_1_0 g5 hv_impl_trianglesByEdge_2_0 (of_decide_eq_true (by assumption)); first | omega | (simp only [List.length_append, List.length_cons, List.length_nil]; omega) | (have q3 := mlen_leI (N := 3 * x_l0 + x_l0_1) (by omega) (by assumption) (midx r1_l1_1 (nd_impl_trianglesByEdge_0 m_0 x_l0 x_l0_1)); simp only [List.length_cons, List.length_nil]; omega)) | (have := hp3.2.1; omega) | (have q := loTE_len m_0 hp3; omega)) | (simp_all <;> omega))
   have y__4 : (0 : Int) ≤ (Int.tmod (x_l0_1 + 1) 3) := (by first | assumption | omega | (first | (have g5 := of_decide_eq_true hf_impl_trianglesByEdge_2_0; have q := OkE.at hp3 hv_impl_trianglesByEdge_1_0 g5 hv_impl_trianglesByEdge_2_0 (of_decide_eq_true (by assumption)); first | omega | (simp only [List.length_append, List.length_cons, List.length_nil]; omega) | (have q3 := mlen_leI (N := 3 * x_l0 + x_l0_1) (by omega) (by assumption) (midx r1_l1_1 (nd_impl_trianglesByEdge_0 m_0 x_l0 x_l0_1)); simp only [List.length_cons, List.length_nil]; omega)) | (have := hp3.2.1; omega) | (have q := loTE_len m_0 hp3; omega)) | (simp_all <;> omega))
   have y__5 : (Int.tmod (x_l0_1 + 1) 3) < ((m_0.Triangles.getD x_l0.toNat default).length : Int) := (by first | assumption | omega | (first | (have g5 := of_decide_eq_true hf_impl_trianglesByEdge_2_0; have q := OkE.at hp3 hv_impl_trianglesByEdge_1_0 g5 hv_impl_trianglesByEdge_2_0 (of_decide_eq_true (by assumption)); first | omega | (simp only [List.length_append, List.length_cons, List.length_nil]; omega) | (have q3 := mlen_leI (N := 3 * x_l0 + x_l0_1) (by omega) (by assumption) (midx r1_l1_1 (nd_impl_trianglesByEdge_0 m_0 x_l0 x_l0_1)); simp only [List.length_cons, List.length_nil]; omega)) | (have := hp3.2.1; omega) | (have q := loTE_len m_0 hp3; omega)) | (simp_all <;> omega))
   have p {a C} (s : Scr a C) := sB h__0 <| sK [12, 12] <| sG (cI .i64) (m_0.Triangles.getD x_l0.toNat default) x_l0_1 y__0 y__1 <| sI (x_l0_1 + 1) y__2 y__3 <| sC (show (3 : Int) ≠ 0 from (by decide)) <| sQ (Int.tmod (x_l0_1 + 1) 3) <| sG (cI .i64) (m_0.Triangles.getD x_l0.toNat default) (Int.tmod (x_l0_1 + 1) 3) y__4 y__5 <| sF (t_impl_edgeOf ((m_0.Triangles.getD x_l0.toNat default).getD x_l0_1.toNat default) ((m_0.Triangles.getD x_l0.toNat default).getD (Int.tmod (x_l0_1 + 1) 3).toNat default)) <| s
   cases h__1 : (mhas r1_l1_1 (nd_impl_trianglesByEdge_0 m_0 x_l0 x_l0_1)) with
   | true =>
    have m__16 := midx_lt h__1
    have q {a C} (s : Scr a C) := p (sA (.keep [midx r1_l1_1 (nd_impl_trianglesByEdge_0 m_0 x_l0 x_l0_1)]) <| sC (mget_ok (ck := Gedge.pr) (cv := (cI .i64)) h__1) <| sM (mget_len (ck := Gedge.pr) (cv := (cI .i64)) (l := r1_l1_1) (j := (midx r1_l1_1 (nd_impl_trianglesByEdge_0 m_0 x_l0 x_l0_1)))) <| s)
    clear p
    cases h__2 : (((r1_l1_1.getD (midx r1_l1_1 (nd_impl_trianglesByEdge_0 m_0 x_l0 x_l0_1)) default).2.length : Int) == 0) with
    | true =>
     have gh__2 := eq_of_beq h__2
     have y__6 : r2_l2_1.length + ([(nd_impl_trianglesByEdge_0 m_0 x_l0 x_l0_1)]).length ≤ 1073741824 := by clear q; exact (by first | assumption | omega | (first | (have g5 := of_decide_eq_true hf_impl_trianglesByEdge_2_0; have q := OkE.at hp3 hv_impl_trianglesByEdge_1_0 g5 hv_impl_trianglesByEdge_2_0 (of_decide_eq_true (by assumption)); first | omega | (simp only [List.length_append, List.length_cons, List.length_nil]; omega) | (have q3 := mlen_leI (N := 3 * x_l0 + x_l0_1) (by omega) (by assumption) (midx r1_l1_1 (nd_impl_trianglesByEdge_0 m_0 x_l0 x_l0_1)); simp only [List.length_cons, List.length_nil]; omega)) | (have := hp3.2.1; omega) | (have q := loTE_len m_0 hp3; omega)) | (simp_all <;> omega))
     have y__7 : (midx r1_l1_1 (nd_impl_trianglesByEdge_0 m_0 x_l0 x_l0_1)) < r1_l1_1.length := by clear q; exact (by first | assumption | omega | (first | (have g5 := of_decide_eq_true hf_impl_trianglesByEdge_2_0; have q := OkE.at hp3 hv_impl_trianglesByEdge_1_0 g5 hv_impl_trianglesByEdge_2_0 (of_decide_eq_true (by assumption)); first | omega | (simp only [List.length_append, List.length_cons, List.length_nil]; omega) | (have q3 := mlen_leI (N := 3 * x_l0 + x_l0_1) (by omega) (by assumption) (midx r1_l1_1 (nd_impl_trianglesByEdge_0 m_0 x_l0 x_l0_1)); simp only [List.length_cons, List.length_nil]; omega)) | (have := hp3.2.1; omega) | (have q := loTE_len m_0 hp3; omega)) | (simp_all <;> omega))
     have y__8 : ((r1_l1_1.getD (midx r1_l1_1 (nd_impl_trianglesByEdge_0 m_0 x_l0 x_l0_1)) default).2).length + ([x_l0]).length ≤ 1073741824 := by clear q; exact (by first | assumption | omega | (first | (have g5 := of_decide_eq_true hf_impl_trianglesByEdge_2_0; have q := OkE.at hp3 hv_impl_trianglesByEdge_1_0 g5 hv_impl_trianglesByEdge_2_0 (of_decide_eq_true (by assumption)); first | omega | (simp only [List.length_append, List.length_cons, List.length_nil]; omega) | (have q3 := mlen_leI (N := 3 * x_l0 + x_l0_1) (by omega) (by assumption) (midx r1_l1_1 (nd_impl_trianglesByEdge_0 m_0 x_l0 x_l0_1)); simp only [List.length_cons, List.length_nil]; omega)) | (have := hp3.2.1; omega) | (have q := loTE_len m_0 hp3; omega)) | (simp_all <;> omega))
     have e : lo_impl_trianglesByEdge_2 m_0 x_l0 r1_l1 r2_l2 (k + 1) x_l0_1 r1_l1_1 r2_l2_1 = (lo_impl_trianglesByEdge_2 m_0 x_l0 r1_l1 r2_l2 k (x_l0_1 + 1) (mput r1_l1_1 (midx r1_l1_1 (nd_impl_trianglesByEdge_0 m_0 x_l0 x_l0_1)) ((r1_l1_1.getD (midx r1_l1_1 (nd_impl_trianglesByEdge_0 m_0 x_l0 x_l0_1)) default).2 ++ [x_l0])) (r2_l2_1 ++ [(nd_impl_trianglesByEdge_0 m_0 x_l0 x_l0_1)])) := by simp only [lo_impl_trianglesByEdge_2, h__0, h__1, h__2, cond_true]
     rw [e]
     exact nextS E0Ok hMixed [] mk_impl_trianglesByEdge_2_0 [0, 1, 2] (⟨[.agg [.sl (m_0.Places.map GVector.cells), .sl (m_0.Triangles.map (cL (cI .i64)))], .ptr 0 0 0, .any, .nils, .mp 1, .own 2, .i .i64 x_l0, .sl ((m_0.Triangles.getD x_l0.toNat default).map (cI .i64)), .any, .any, .mp 1, .any, .ptr 0 0 1, .sl (m_0.Triangles.map (cL (cI .i64))), .i .i64 (m_0.Triangles.length : Int), .i .i64 x_l0, .b (decide (x_l0 < (m_0.Triangles.length : Int))), .i .i64 x_l0, .ref [.sl ((m_0.Triangles.getD x_l0.toNat default).map (cI .i64))] 0, .sl ((m_0.Triangles.getD x_l0.toNat default).map (cI .i64)), .i .i64 (x_l0_1 + 1), .any, .any, .any, .any, .any, .any, .any, .any, .any, .any, .any, .any, .any, .any, .any, .any, .any, .any, .any, .any, .any, .any, .any, .any, .any, .any, .any, .any, .any, .any, .any, .any, .any, .any, .any, .any], [.box 31 [.sl (m_0.Places.map GVector.cells), .sl (m_0.Triangles.map (cL (cI .i64)))], .mapN 2 (((mapC Gedge.pr (cI .i64) r1_l1_1).set (midx r1_l1_1 (nd_impl_trianglesByEdge_0 m_0 x_l0 x_l0_1)) (((mapC Gedge.pr (cI .i64) r1_l1_1).getD (midx r1_l1_1 (nd_impl_trianglesByEdge_0 m_0 x_l0 x_l0_1)) default).1, [])).set (midx r1_l1_1 (nd_impl_trianglesByEdge_0 m_0 x_l0 x_l0_1)) ((((mapC Gedge.pr (cI .i64) r1_l1_1).set (midx r1_l1_1 (nd_impl_trianglesByEdge_0 m_0 x_l0 x_l0_1)) (((mapC Gedge.pr (cI .i64) r1_l1_1).getD (midx r1_l1_1 (nd_impl_trianglesByEdge_0 m_0 x_l0 x_l0_1)) default).1, [])).getD (midx r1_l1_1 (nd_impl_trianglesByEdge_0 m_0 x_l0 x_l0_1)) default).1, (((mapC Gedge.pr (cI .i64) r1_l1_1).getD (midx r1_l1_1 (nd_impl_trianglesByEdge_0 m_0 x_l0 x_l0_1)) default).2 ++ ([x_l0].map (cI .i64))))) none, .vec 100 2 ((r2_l2_1.map Gedge.cells) ++ ([[.i .i64 ((nd_impl_trianglesByEdge_0 m_0 x_l0 x_l0_1).e0), .i .i64 ((nd_impl_trianglesByEdge_0 m_0 x_l0 x_l0_1).e1)]] : List (List AV))) false]⟩) (q (sB h__2 <| sC (show (r2_l2_1.map Gedge.cells).length + ([[.i .i64 ((nd_impl_trianglesByEdge_0 m_0 x_l0 x_l0_1).e0), .i .i64 ((nd_impl_trianglesByEdge_0 m_0 x_l0 x_l0_1).e1)]] : List (List AV)).length ≤ 1073741824 from (by simpa using y__6)) <| sA (.keep [midx r1_l1_1 (nd_impl_trianglesByEdge_0 m_0 x_l0 x_l0_1)]) <| sC (mget_ok (ck := Gedge.pr) (cv := (cI .i64)) h__1) <| sC (show (midx r1_l1_1 (nd_impl_trianglesByEdge_0 m_0 x_l0 x_l0_1)) < (mapC Gedge.pr (cI .i64) r1_l1_1).length from (by simpa using y__7)) <| sC (show (((mapC Gedge.pr (cI .i64) r1_l1_1).getD (midx r1_l1_1 (nd_impl_trianglesByEdge_0 m_0 x_l0 x_l0_1)) default).2).length + ([[.i .i64 x_l0]] : List (List AV)).length ≤ 1073741824 from (by simpa using y__8)) <| sA (.keep [(midx r1_l1_1 (nd_impl_trianglesByEdge_0 m_0 x_l0 x_l0_1))]) <| sC (show ((midx r1_l1_1 (nd_impl_trianglesByEdge_0 m_0 x_l0 x_l0_1)) : Int) = (((midx r1_l1_1 (nd_impl_trianglesByEdge_0 m_0 x_l0 x_l0_1)) : Nat) : Int) from rfl) <| sC (show (midx r1_l1_1 (nd_impl_trianglesByEdge_0 m_0 x_l0 x_l0_1)) < ((mapC Gedge.pr (cI .i64) r1_l1_1).set (midx r1_l1_1 (nd_impl_trianglesByEdge_0 m_0 x_l0 x_l0_1)) (((mapC Gedge.pr (cI .i64) r1_l1_1).getD (midx r1_l1_1 (nd_impl_trianglesByEdge_0 m_0 x_l0 x_l0_1)) default).1, [])).length from (by simpa using y__7)) <| sC (show ∀ i, some (midx r1_l1_1 (nd_impl_trianglesByEdge_0 m_0 x_l0 x_l0_1)) = some i → i = (midx r1_l1_1 (nd_impl_trianglesByEdge_0 m_0 x_l0 x_l0_1)) from (fun i h => by cases h; rfl)) <| sI (x_l0_1 + 1) y__2 y__3 <| sN)) (by kernel_rfl) (show _ = ⟨[.agg [.sl (m_0.Places.map GVector.cells), .sl (m_0.Triangles.map (cL (cI .i64)))], .ptr 0 0 0, .any, .nils, .mp 1, .own 2, .i .i64 x_l0, .sl ((m_0.Triangles.getD x_l0.toNat default).map (cI .i64)), .any, .any, .mp 1, .any, .ptr 0 0 1, .sl (m_0.Triangles.map (cL (cI .i64))), .i .i64 (m_0.Triangles.length : Int), .i .i64 x_l0, .b (decide (x_l0 < (m_0.Triangles.length : Int))), .i .i64 x_l0, .ref [.sl ((m_0.Triangles.getD x_l0.toNat default).map (cI .i64))] 0, .sl ((m_0.Triangles.getD x_l0.toNat default).map (cI .i64)), .i .i64 (x_l0_1 + 1), .any, .any, .any, .any, .any, .any, .any, .any, .any, .any, .any, .any, .any, .any, .any, .any, .any, .any, .any, .any, .any, .any, .any, .any, .any, .any, .any, .any, .any, .any, .any, .any, .any, .any, .any, .any], [.box 31 [.sl (m_0.Places.map GVector.cells), .sl (m_0.Triangles.map (cL (cI .i64)))], .mapN 2 (mapC Gedge.pr (cI .i64) (mput r1_l1_1 (midx r1_l1_1 (nd_impl_trianglesByEdge_0 m_0 x_l0 x_l0_1)) ((r1_l1_1.getD (midx r1_l1_1 (nd_impl_trianglesByEdge_0 m_0 x_l0 x_l0_1)) default).2 ++ [x_l0]))) none, .vec 100 2 ((r2_l2_1 ++ [(nd_impl_trianglesByEdge_0 m_0 x_l0 x_l0_1)]).map Gedge.cells) false]⟩ from (by first | (rw [mapC_put (midx_lt h__1)]; done) | (rw [mapC_put (midx_lt h__1)]; simp [List.map_set, Gedge.cells]))) (ih (x_l0_1 + 1) (mput r1_l1_1 (midx r1_l1_1 (nd_impl_trianglesByEdge_0 m_0 x_l0 x_l0_1)) ((r1_l1_1.getD (midx r1_l1_1 (nd_impl_trianglesByEdge_0 m_0 x_l0 x_l0_1)) default).2 ++ [x_l0])) (r2_l2_1 ++ [(nd_impl_trianglesByEdge_0 m_0 x_l0 x_l0_1)]) (show 0 ≤ (x_l0_1 + 1) from (by first | assumption | omega | exact mput_inv (by assumption) (by omega) (by omega) | exact mnew_inv (by assumption) (by omega) (by omega) | (simp only [List.length_append, List.length_cons, List.length_nil]; omega) | exact (loT_inv _ _ _ _ hv_impl_trianglesByEdge_1_0 (by assumption) (by assumption)).1 | exact (loT_inv _ _ _ _ hv_impl_trianglesByEdge_1_0 (by assumption) (by assumption)).2)) (show ((r2_l2_1 ++ [(nd_impl_trianglesByEdge_0 m_0 x_l0 x_l0_1)]).length : Int) ≤ (r2_l2.length : Int) + (x_l0_1 + 1) from (by first | assumption | omega | exact mput_inv (by assumption) (by omega) (by omega) | exact mnew_inv (by assumption) (by omega) (by omega) | (simp only [List.length_append, List.length_cons, List.length_nil]; omega) | exact (loT_inv _ _ _ _ hv_impl_trianglesByEdge_1_0 (by assumption) (by assumption)).1 | exact (loT_inv _ _ _ _ hv_impl_trianglesByEdge_1_0 (by assumption) (by assumption)).2)) (show ∀ y ∈ (mput r1_l1_1 (midx r1_l1_1 (nd_impl_trianglesByEdge_0 m_0 x_l0 x_l0_1)) ((r1_l1_1.getD (midx r1_l1_1 (nd_impl_trianglesByEdge_0 m_0 x_l0 x_l0_1)) default).2 ++ [x_l0])), (y.2.length : Int) ≤ 3 * x_l0 + (x_l0_1 + 1) from (by first | assumption | omega | exact mput_inv (by assumption) (by omega) (by omega) | exact mnew_inv (by assumption) (by omega) (by omega) | (simp only [List.length_append, List.length_cons, List.length_nil]; omega) | exact (loT_inv _ _ _ _ hv_impl_trianglesByEdge_1_0 (by assumption) (by assumption)).1 | exact (loT_inv _ _ _ _ hv_impl_trianglesByEdge_1_0 (by assumption) (by assumption)).2)) (by first | assumption | omega | (first | (have g5 := of_decide_eq_true hf_impl_trianglesByEdge_2_0; have q := OkE.at hp3 hv_impl_trianglesByEdge_1_0 g5 hv_impl_trianglesByEdge_2_0 (of_decide_eq_true (by assumption)); first | omega | (simp only [List.length_append, List.length_cons, List.length_nil]; omega) | (have q3 := mlen_leI (N := 3 * x_l0 + x_l0_1) (by omega) (by assumption) (midx r1_l1_1 (nd_impl_trianglesByEdge_0 m_0 x_l0 x_l0_1)); simp only [List.length_cons, List.length_nil]; omega)) | (have := hp3.2.1; omega) | (have q := loTE_len m_0 hp3; omega)) | (simp_all <;> omega)))
    | false =>
     have gh__2 := ne_of_beq_false h__2
     have y__6 : (midx r1_l1_1 (nd_impl_trianglesByEdge_0 m_0 x_l0 x_l0_1)) < r1_l1_1.length := by clear q; exact (by first | assumption | omega | (first | (have g5 := of_decide_eq_true hf_impl_trianglesByEdge_2_0; have q := OkE.at hp3 hv_impl_trianglesByEdge_1_0 g5 hv_impl_trianglesByEdge_2_0 (of_decide_eq_true (by assumption)); first | omega | (simp only [List.length_append, List.length_cons, List.length_nil]; omega) | (have q3 := mlen_leI (N := 3 * x_l0 + x_l0_1) (by omega) (by assumption) (midx r1_l1_1 (nd_impl_trianglesByEdge_0 m_0 x_l0 x_l0_1)); simp only [List.length_cons, List.length_nil]; omega)) | (have := hp3.2.1; omega) | (have q := loTE_len m_0 hp3; omega)) | (simp_all <;> omega))
     have y__7 : ((r1_l1_1.getD (midx r1_l1_1 (nd_impl_trianglesByEdge_0 m_0 x_l0 x_l0_1)) default).2).length + ([x_l0]).length ≤ 1073741824 := by clear q; exact (by first | assumption | omega | (first | (have g5 := of_decide_eq_true hf_impl_trianglesByEdge_2_0; have q := OkE.at hp3 hv_impl_trianglesByEdge_1_0 g5 hv_impl_trianglesByEdge_2_0 (of_decide_eq_true (by assumption)); first | omega | (simp only [List.length_append, List.length_cons, List.length_nil]; omega) | (have q3 := mlen_leI (N := 3 * x_l0 + x_l0_1) (by omega) (by assumption) (midx r1_l1_1 (nd_impl_trianglesByEdge_0 m_0 x_l0 x_l0_1)); simp only [List.length_cons, List.length_nil]; omega)) | (have := hp3.2.1; omega) | (have q := loTE_len m_0 hp3; omega)) | (simp_all <;> omega))
     have e : lo_impl_trianglesByEdge_2 m_0 x_l0 r1_l1 r2_l2 (k + 1) x_l0_1 r1_l1_1 r2_l2_1 = (lo_impl_trianglesByEdge_2 m_0 x_l0 r1_l1 r2_l2 k (x_l0_1 + 1) (mput r1_l1_1 (midx r1_l1_1 (nd_impl_trianglesByEdge_0 m_0 x_l0 x_l0_1)) ((r1_l1_1.getD (midx r1_l1_1 (nd_impl_trianglesByEdge_0 m_0 x_l0 x_l0_1)) default).2 ++ [x_l0])) r2_l2_1) := by simp only [lo_impl_trianglesByEdge_2, h__0, h__1, h__2, cond_true, cond_false]
     rw [e]
     exact nextS E0Ok hMixed [] mk_impl_trianglesByEdge_2_0 [0, 1, 2] (⟨[.agg [.sl (m_0.Places.map GVector.cells), .sl (m_0.Triangles.map (cL (cI .i64)))], .ptr 0 0 0, .any, .nils, .mp 1, .own 2, .i .i64 x_l0, .sl ((m_0.Triangles.getD x_l0.toNat default).map (cI .i64)), .any, .any, .mp 1, .any, .ptr 0 0 1, .sl (m_0.Triangles.map (cL (cI .i64))), .i .i64 (m_0.Triangles.length : Int), .i .i64 x_l0, .b (decide (x_l0 < (m_0.Triangles.length : Int))), .i .i64 x_l0, .ref [.sl ((m_0.Triangles.getD x_l0.toNat default).map (cI .i64))] 0, .sl ((m_0.Triangles.getD x_l0.toNat default).map (cI .i64)), .i .i64 (x_l0_1 + 1), .any, .any, .any, .any, .any, .any, .any, .any, .any, .any, .any, .any, .any, .any, .any, .any, .any, .any, .any, .any, .any, .any, .any, .any, .any, .any, .any, .any, .any, .any, .any, .any, .any, .any, .any, .any], [.box 31 [.sl (m_0.Places.map GVector.cells), .sl (m_0.Triangles.map (cL (cI .i64)))], .mapN 2 (((mapC Gedge.pr (cI .i64) r1_l1_1).set (midx r1_l1_1 (nd_impl_trianglesByEdge_0 m_0 x_l0 x_l0_1)) (((mapC Gedge.pr (cI .i64) r1_l1_1).getD (midx r1_l1_1 (nd_impl_trianglesByEdge_0 m_0 x_l0 x_l0_1)) default).1, [])).set (midx r1_l1_1 (nd_impl_trianglesByEdge_0 m_0 x_l0 x_l0_1)) ((((mapC Gedge.pr (cI .i64) r1_l1_1).set (midx r1_l1_1 (nd_impl_trianglesByEdge_0 m_0 x_l0 x_l0_1)) (((mapC Gedge.pr (cI .i64) r1_l1_1).getD (midx r1_l1_1 (nd_impl_trianglesByEdge_0 m_0 x_l0 x_l0_1)) default).1, [])).getD (midx r1_l1_1 (nd_impl_trianglesByEdge_0 m_0 x_l0 x_l0_1)) default).1, (((mapC Gedge.pr (cI .i64) r1_l1_1).getD (midx r1_l1_1 (nd_impl_trianglesByEdge_0 m_0 x_l0 x_l0_1)) default).2 ++ ([x_l0].map (cI .i64))))) none, .vec 100 2 (r2_l2_1.map Gedge.cells) false]⟩) (q (sB h__2 <| sA (.keep [midx r1_l1_1 (nd_impl_trianglesByEdge_0 m_0 x_l0 x_l0_1)]) <| sC (mget_ok (ck := Gedge.pr) (cv := (cI .i64)) h__1) <| sC (show (midx r1_l1_1 (nd_impl_trianglesByEdge_0 m_0 x_l0 x_l0_1)) < (mapC Gedge.pr (cI .i64) r1_l1_1).length from (by simpa using y__6)) <| sC (show (((mapC Gedge.pr (cI .i64) r1_l1_1).getD (midx r1_l1_1 (nd_impl_trianglesByEdge_0 m_0 x_l0 x_l0_1)) default).2).length + ([[.i .i64 x_l0]] : List (List AV)).length ≤ 1073741824 from (by simpa using y__7)) <| sA (.keep [(midx r1_l1_1 (nd_impl_trianglesByEdge_0 m_0 x_l0 x_l0_1))]) <| sC (show ((midx r1_l1_1 (nd_impl_trianglesByEdge_0 m_0 x_l0 x_l0_1)) : Int) = (((midx r1_l1_1 (nd_impl_trianglesByEdge_0 m_0 x_l0 x_l0_1)) : Nat) : Int) from rfl) <| sC (show (midx r1_l1_1 (nd_impl_trianglesByEdge_0 m_0 x_l0 x_l0_1)) < ((mapC Gedge.pr (cI .i64) r1_l1_1).set (midx r1_l1_1 (nd_impl_trianglesByEdge_0 m_0 x_l0 x_l0_1)) (((mapC Gedge.pr (cI .i64) r1_l1_1).getD (midx r1_l1_1 (nd_impl_trianglesByEdge_0 m_0 x_l0 x_l0_1)) default).1, [])).length from (by simpa using y__6)) <| sC (show ∀ i, some (midx r1_l1_1 (nd_impl_trianglesByEdge_0 m_0 x_l0 x_l0_1)) = some i → i = (midx r1_l1_1 (nd_impl_trianglesByEdge_0 m_0 x_l0 x_l0_1)) from (fun i h => by cases h; rfl)) <| sI (x_l0_1 + 1) y__2 y__3 <| sN)) (by kernel_rfl) (show _ = ⟨[.agg [.sl (m_0.Places.map GVector.cells), .sl (m_0.Triangles.map (cL (cI .i64)))], .ptr 0 0 0, .any, .nils, .mp 1, .own 2, .i .i64 x_l0, .sl ((m_0.Triangles.getD x_l0.toNat default).map (cI .i64)), .any, .any, .mp 1, .any, .ptr 0 0 1, .sl (m_0.Triangles.map (cL (cI .i64))), .i .i64 (m_0.Triangles.length : Int), .i .i64 x_l0, .b (decide (x_l0 < (m_0.Triangles.length : Int))), .i .i64 x_l0, .ref [.sl ((m_0.Triangles.getD x_l0.toNat default).map (cI .i64))] 0, .sl ((m_0.Triangles.getD x_l0.toNat default).map (cI .i64)), .i .i64 (x_l0_1 + 1), .any, .any, .any, .any, .any, .any, .any, .any, .any, .any, .any, .any, .any, .any, .any, .any, .any, .any, .any, .any, .any, .any, .any, .any, .any, .any, .any, .any, .any, .any, .any, .any, .any, .any, .any, .any], [.box 31 [.sl (m_0.Places.map GVector.cells), .sl (m_0.Triangles.map (cL (cI .i64)))], .mapN 2 (mapC Gedge.pr (cI .i64) (mput r1_l1_1 (midx r1_l1_1 (nd_impl_trianglesByEdge_0 m_0 x_l0 x_l0_1)) ((r1_l1_1.getD (midx r1_l1_1 (nd_impl_trianglesByEdge_0 m_0 x_l0 x_l0_1)) default).2 ++ [x_l0]))) none, .vec 100 2 (r2_l2_1.map Gedge.cells) false]⟩ from (by first | (rw [mapC_put (midx_lt h__1)]; done) | (rw [mapC_put (midx_lt h__1)]; simp [List.map_set]))) (ih (x_l0_1 + 1) (mput r1_l1_1 (midx r1_l1_1 (nd_impl_trianglesByEdge_0 m_0 x_l0 x_l0_1)) ((r1_l1_1.getD (midx r1_l1_1 (nd_impl_trianglesByEdge_0 m_0 x_l0 x_l0_1)) default).2 ++ [x_l0])) r2_l2_1 (show 0 ≤ (x_l0_1 + 1) from (by first | assumption | omega | exact mput_inv (by assumption) (by omega) (by omega) | exact mnew_inv (by assumption) (by omega) (by omega) | (simp only [List.length_append, List.length_cons, List.length_nil]; omega) | exact (loT_inv _ _ _ _ hv_impl_trianglesByEdge_1_0 (by assumption) (by assumption)).1 | exact (loT_inv _ _ _ _ hv_impl_trianglesByEdge_1_0 (by assumption) (by assumption)).2)) (show (r2_l2_1.length : Int) ≤ (r2_l2.length : Int) + (x_l0_1 + 1) from (by first | assumption | omega | exact mput_inv (by assumption) (by omega) (by omega) | exact mnew_inv (by assumption) (by omega) (by omega) | (simp only [List.length_append, List.length_cons, List.length_nil]; omega) | exact (loT_inv _ _ _ _ hv_impl_trianglesByEdge_1_0 (by assumption) (by assumption)).1 | exact (loT_inv _ _ _ _ hv_impl_trianglesByEdge_1_0 (by assumption) (by assumption)).2)) (show ∀ y ∈ (mput r1_l1_1 (midx r1_l1_1 (nd_impl_trianglesByEdge_0 m_0 x_l0 x_l0_1)) ((r1_l1_1.getD (midx r1_l1_1 (nd_impl_trianglesByEdge_0 m_0 x_l0 x_l0_1)) default).2 ++ [x_l0])), (y.2.length : Int) ≤ 3 * x_l0 + (x_l0_1 + 1) from (by first | assumption | omega | exact mput_inv (by assumption) (by omega) (by omega) | exact mnew_inv (by assumption) (by omega) (by omega) | (simp only [List.length_append, List.length_cons, List.length_nil]; omega) | exact (loT_inv _ _ _ _ hv_impl_trianglesByEdge_1_0 (by assumption) (by assumption)).1 | exact (loT_inv _ _ _ _ hv_impl_trianglesByEdge_1_0 (by assumption) (by assumption)).2)) (by first | assumption | omega | (first | (have g5 := of_decide_eq_true hf_impl_trianglesByEdge_2_0; have q := OkE.at hp3 hv_impl_trianglesByEdge_1_0 g5 hv_impl_trianglesByEdge_2_0 (of_decide_eq_true (by assumption)); first | omega | (simp only [List.length_append, List.length_cons, List.length_nil]; omega) | (have q3 := mlen_leI (N := 3 * x_l0 + x_l0_1) (by omega) (by assumption) (midx r1_l1_1 (nd_impl_trianglesByEdge_0 m_0 x_l0 x_l0_1)); simp only [List.length_cons, List.length_nil]; omega)) | (have := hp3.2.1; omega) | (have q := loTE_len m_0 hp3; omega)) | (simp_all <;> omega)))
   | false =>
    have y__6 : r2_l2_1.length + ([(nd_impl_trianglesByEdge_0 m_0 x_l0 x_l0_1)]).length ≤ 1073741824 := by clear p; exact (by first | assumption | omega | (first | (have g5 := of_decide_eq_true hf_impl_trianglesByEdge_2_0; have q := OkE.at hp3 hv_impl_trianglesByEdge_1_0 g5 hv_impl_trianglesByEdge_2_0 (of_decide_eq_true (by assumption)); first | omega | (simp only [List.length_append, List.length_cons, List.length_nil]; omega) | (have q3 := mlen_leI (N := 3 * x_l0 + x_l0_1) (by omega) (by assumption) (midx r1_l1_1 (nd_impl_trianglesByEdge_0 m_0 x_l0 x_l0_1)); simp only [List.length_cons, List.length_nil]; omega)) | (have := hp3.2.1; omega) | (have q := loTE_len m_0 hp3; omega)) | (simp_all <;> omega))
    have e : lo_impl_trianglesByEdge_2 m_0 x_l0 r1_l1 r2_l2 (k + 1) x_l0_1 r1_l1_1 r2_l2_1 = (lo_impl_trianglesByEdge_2 m_0 x_l0 r1_l1 r2_l2 k (x_l0_1 + 1) (r1_l1_1 ++ [((nd_impl_trianglesByEdge_0 m_0 x_l0 x_l0_1), [x_l0])]) (r2_l2_1 ++ [(nd_impl_trianglesByEdge_0 m_0 x_l0 x_l0_1)])) := by simp only [lo_impl_trianglesByEdge_2, h__0, h__1, cond_true, cond_false]
    rw [e]
    exact nextS E0Ok hMixed [] mk_impl_trianglesByEdge_2_0 [0, 1, 2] (⟨[.agg [.sl (m_0.Places.map GVector.cells), .sl (m_0.Triangles.map (cL (cI .i64)))], .ptr 0 0 0, .any, .nils, .mp 1, .own 2, .i .i64 x_l0, .sl ((m_0.Triangles.getD x_l0.toNat default).map (cI .i64)), .any, .any, .mp 1, .any, .ptr 0 0 1, .sl (m_0.Triangles.map (cL (cI .i64))), .i .i64 (m_0.Triangles.length : Int), .i .i64 x_l0, .b (decide (x_l0 < (m_0.Triangles.length : Int))), .i .i64 x_l0, .ref [.sl ((m_0.Triangles.getD x_l0.toNat default).map (cI .i64))] 0, .sl ((m_0.Triangles.getD x_l0.toNat default).map (cI .i64)), .i .i64 (x_l0_1 + 1), .any, .any, .any, .any, .any, .any, .any, .any, .any, .any, .any, .any, .any, .any, .any, .any, .any, .any, .any, .any, .any, .any, .any, .any, .any, .any, .any, .any, .any, .any, .any, .any, .any, .any, .any, .any], [.box 31 [.sl (m_0.Places.map GVector.cells), .sl (m_0.Triangles.map (cL (cI .i64)))], .mapN 2 (((mapC Gedge.pr (cI .i64) r1_l1_1) ++ [((Gedge.pr (nd_impl_trianglesByEdge_0 m_0 x_l0 x_l0_1)), [])]).set (mapC Gedge.pr (cI .i64) r1_l1_1).length ((((mapC Gedge.pr (cI .i64) r1_l1_1) ++ [((Gedge.pr (nd_impl_trianglesByEdge_0 m_0 x_l0 x_l0_1)), [])]).getD (mapC Gedge.pr (cI .i64) r1_l1_1).length default).1, (([x_l0]).map (cI .i64)))) none, .vec 100 2 ((r2_l2_1.map Gedge.cells) ++ ([[.i .i64 ((nd_impl_trianglesByEdge_0 m_0 x_l0 x_l0_1).e0), .i .i64 ((nd_impl_trianglesByEdge_0 m_0 x_l0 x_l0_1).e1)]] : List (List AV))) false]⟩) (p (sA (.keep []) <| sC (mnot_ok (ck := Gedge.pr) (cv := (cI .i64)) Gedge.inj h__1) <| sM (show ((0 : Nat) : Int) = 0 from rfl) <| sB (show (0 == 0) = true from rfl) <| sC (show (r2_l2_1.map Gedge.cells).length + ([[.i .i64 ((nd_impl_trianglesByEdge_0 m_0 x_l0 x_l0_1).e0), .i .i64 ((nd_impl_trianglesByEdge_0 m_0 x_l0 x_l0_1).e1)]] : List (List AV)).length ≤ 1073741824 from (by simpa using y__6)) <| sA (.keep []) <| sC (mnot_ok (ck := Gedge.pr) (cv := (cI .i64)) Gedge.inj h__1) <| sC (show ([[.i .i64 x_l0]] : List (List AV)) ≠ [] from (by simp)) <| sC (show ([[.i .i64 x_l0]] : List (List AV)).length ≤ 1073741824 from (by simp)) <| sA (.keep [(mapC Gedge.pr (cI .i64) r1_l1_1).length]) <| sC (show ((mapC Gedge.pr (cI .i64) r1_l1_1).length : Int) = (((mapC Gedge.pr (cI .i64) r1_l1_1).length : Nat) : Int) from rfl) <| sC (show (mapC Gedge.pr (cI .i64) r1_l1_1).length < ((mapC Gedge.pr (cI .i64) r1_l1_1) ++ [((Gedge.pr (nd_impl_trianglesByEdge_0 m_0 x_l0 x_l0_1)), [])]).length from (by simp)) <| sC (show ∀ i, (none : Option Nat) = some i → i = (mapC Gedge.pr (cI .i64) r1_l1_1).length from (fun i h => by cases h)) <| sI (x_l0_1 + 1) y__2 y__3 <| sN)) (by kernel_rfl) (show _ = ⟨[.agg [.sl (m_0.Places.map GVector.cells), .sl (m_0.Triangles.map (cL (cI .i64)))], .ptr 0 0 0, .any, .nils, .mp 1, .own 2, .i .i64 x_l0, .sl ((m_0.Triangles.getD x_l0.toNat default).map (cI .i64)), .any, .any, .mp 1, .any, .ptr 0 0 1, .sl (m_0.Triangles.map (cL (cI .i64))), .i .i64 (m_0.Triangles.length : Int), .i .i64 x_l0, .b (decide (x_l0 < (m_0.Triangles.length : Int))), .i .i64 x_l0, .ref [.sl ((m_0.Triangles.getD x_l0.toNat default).map (cI .i64))] 0, .sl ((m_0.Triangles.getD x_l0.toNat default).map (cI .i64)), .i .i64 (x_l0_1 + 1), .any, .any, .any, .any, .any, .any, .any, .any, .any, .any, .any, .any, .any, .any, .any, .any, .any, .any, .any, .any, .any, .any, .any, .any, .any, .any, .any, .any, .any, .any, .any, .any, .any, .any, .any, .any], [.box 31 [.sl (m_0.Places.map GVector.cells), .sl (m_0.Triangles.map (cL (cI .i64)))], .mapN 2 (mapC Gedge.pr (cI .i64) (r1_l1_1 ++ [((nd_impl_trianglesByEdge_0 m_0 x_l0 x_l0_1), [x_l0])])) none, .vec 100 2 ((r2_l2_1 ++ [(nd_impl_trianglesByEdge_0 m_0 x_l0 x_l0_1)]).map Gedge.cells) false]⟩ from (by first | (rw [mapC_new]; done) | (rw [mapC_new]; simp [List.map_set, Gedge.cells]))) (ih (x_l0_1 + 1) (r1_l1_1 ++ [((nd_impl_trianglesByEdge_0 m_0 x_l0 x_l0_1), [x_l0])]) (r2_l2_1 ++ [(nd_impl_trianglesByEdge_0 m_0 x_l0 x_l0_1)]) (show 0 ≤ (x_l0_1 + 1) from (by first | assumption | omega | exact mput_inv (by assumption) (by omega) (by omega) | exact mnew_inv (by assumption) (by omega) (by omega) | (simp only [List.length_append, List.length_cons, List.length_nil]; omega) | exact (loT_inv _ _ _ _ hv_impl_trianglesByEdge_1_0 (by assumption) (by assumption)).1 | exact (loT_inv _ _ _ _ hv_impl_trianglesByEdge_1_0 (by assumption) (by assumption)).2)) (show ((r2_l2_1 ++ [(nd_impl_trianglesByEdge_0 m_0 x_l0 x_l0_1)]).length : Int) ≤ (r2_l2.length : Int) + (x_l0_1 + 1) from (by first | assumption | omega | exact mput_inv (by assumption) (by omega) (by omega) | exact mnew_inv (by assumption) (by omega) (by omega) | (simp only [List.length_append, List.length_cons, List.length_nil]; omega) | exact (loT_inv _ _ _ _ hv_impl_trianglesByEdge_1_0 (by assumption) (by assumption)).1 | exact (loT_inv _ _ _ _ hv_impl_trianglesByEdge_1_0 (by assumption) (by assumption)).2)) (show ∀ y ∈ (r1_l1_1 ++ [((nd_impl_trianglesByEdge_0 m_0 x_l0 x_l0_1), [x_l0])]), (y.2.length : Int) ≤ 3 * x_l0 + (x_l0_1 + 1) from (by first | assumption | omega | exact mput_inv (by assumption) (by omega) (by omega) | exact mnew_inv (by assumption) (by omega) (by omega) | (simp only [List.length_append, List.length_cons, List.length_nil]; omega) | exact (loT_inv _ _ _ _ hv_impl_trianglesByEdge_1_0 (by assumption) (by assumption)).1 | exact (loT_inv _ _ _ _ hv_impl_trianglesByEdge_1_0 (by assumption) (by assumption)).2)) (by first | assumption | omega | (first | (have g5 := of_decide_eq_true hf_impl_trianglesByEdge_2_0; have q := OkE.at hp3 hv_impl_trianglesByEdge_1_0 g5 hv_impl_trianglesByEdge_2_0 (of_decide_eq_true (by assumption)); first | omega | (simp only [List.length_append, List.length_cons, List.length_nil]; omega) | (have q3 := mlen_leI (N := 3 * x_l0 + x_l0_1) (by omega) (by assumption) (midx r1_l1_1 (nd_impl_trianglesByEdge_0 m_0 x_l0 x_l0_1)); simp only [List.length_cons, List.length_nil]; omega)) | (have := hp3.2.1; omega) | (have q := loTE_len m_0 hp3; omega)) | (simp_all <;> omega)))
  | false =>
   have gh__0 := of_decide_eq_false h__0
   have e : lo_impl_trianglesByEdge_2 m_0 x_l0 r1_l1 r2_l2 (k + 1) x_l0_1 r1_l1_1 r2_l2_1 = (r1_l1_1, r2_l2_1) := by simp only [lo_impl_trianglesByEdge_2, h__0, cond_false]
   rw [e]
   exact outR (e := (.exit 2)) E0Ok hMixed [] mk_impl_trianglesByEdge_2_1 [0, 1, 2] (sB h__0 <| sN) (by kernel_rfl) (by intro h; cases h)

end Go.Ab
