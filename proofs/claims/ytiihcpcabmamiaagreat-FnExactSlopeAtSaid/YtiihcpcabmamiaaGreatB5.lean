/- The functions of this seat as plain Lean, and that the program's are these. Printed by a program of the prover's own. -/
import Derived.Test.YtiihcpcabmamiaaGreatB4
set_option linter.unusedVariables false
set_option linter.unusedSimpArgs false
set_option maxRecDepth 100000
namespace Go.Ab
open Go.RowKit Go.Proofs.Tryz

theorem t_impl_ValidMesh (m_0 : GMesh) (hp0 : m_0.Places.length ≤ 1073741824) (hp1 : m_0.Triangles.length ≤ 1073741824) (hp2 : ∀ t ∈ m_0.Triangles, t.length ≤ 1073741824)  : Fn prog 67 [.agg [.sl (m_0.Places.map GVector.cells), .sl (m_0.Triangles.map (cL (cI .i64)))]] (.b (v_impl_ValidMesh m_0)) [] := by
 have p {a C} (s : Scr a C) := sZ GVector.cells m_0.Places <| s
 cases h0 : (decide ((m_0.Places.length : Int) > 64)) with
 | true =>
  have gh0 := of_decide_eq_true h0
  refine fnS E0Ok hMixed (c := bodyOf f67) [] (.b false) [] func67 (p (sB h0 <| sB h0 <| sB h0 <| sB h0 <| sB h0 <| sB (show true = true from rfl) <| sK [] sN)) rfl (by kernel_rfl) (by kernel_rfl) rfl ?_ ?_
  · simp only [v_impl_ValidMesh, h0, cond_true]
  · rfl
 | false =>
  have gh0 := of_decide_eq_false h0
  have q {a C} (s : Scr a C) := p (sB h0 <| sB h0 <| sB h0 <| sZ (cL (cI .i64)) m_0.Triangles <| sB h0 <| sB h0 <| s)
  clear p
  cases h1 : (decide ((m_0.Triangles.length : Int) > 128)) with
  | true =>
   have gh1 := of_decide_eq_true h1
   refine fnS E0Ok hMixed (c := bodyOf f67) [] (.b false) [] func67 (q (sB h1 <| sK [] sN)) rfl (by kernel_rfl) (by kernel_rfl) rfl ?_ ?_
   · simp only [v_impl_ValidMesh, h0, h1, cond_true, cond_false]
   · rfl
  | false =>
   have gh1 := of_decide_eq_false h1
   have p {a C} (s : Scr a C) := q (sB h1 <| sZ (cL (cI .i64)) m_0.Triangles <| s)
   clear q
   cases h2 : (lr_impl_ValidMesh_1_1 m_0) with
   | inl r3 =>
    refine fnS E0Ok hMixed (c := bodyOf f67) [] (.b false) [] func67 (p (sL mk_impl_ValidMesh_1_0 1 (lp_val (ls_impl_ValidMesh_1 m_0) (x := (lr_impl_ValidMesh_1_1 m_0)) (lp_impl_ValidMesh_1 m_0 hp0 hp1 hp2 h0 h1 (((m_0.Triangles.length : Int) - 0).toNat + 1) 0 (show 0 ≤ 0 from (by first | assumption | omega)) (Nat.lt_succ_self _)) h2) <| sK [] sN)) rfl (by kernel_rfl) (by kernel_rfl) rfl ?_ ?_
    · simp only [v_impl_ValidMesh, h0, h1, h2, cond_false]
    · rfl
   | inr r3 =>
    refine fnS E0Ok hMixed (c := bodyOf f67) [] (.b true) [] func67 (p (sL mk_impl_ValidMesh_1_0 1 (lp_val (ls_impl_ValidMesh_1 m_0) (x := (lr_impl_ValidMesh_1_1 m_0)) (lp_impl_ValidMesh_1 m_0 hp0 hp1 hp2 h0 h1 (((m_0.Triangles.length : Int) - 0).toNat + 1) 0 (show 0 ≤ 0 from (by first | assumption | omega)) (Nat.lt_succ_self _)) h2) <| sK [] sN)) rfl (by kernel_rfl) (by kernel_rfl) rfl ?_ ?_
    · simp only [v_impl_ValidMesh, h0, h1, h2, cond_false]
    · rfl

theorem triB (t : List Int) (n : Int) : (!((t.length : Int) != 3) && (!(t.getD 0 default == t.getD 1 default) && (!(t.getD 1 default == t.getD 2 default) && (!(t.getD 0 default == t.getD 2 default) && t.all fun x => v_impl_within x 0 (IntKind.wrap .i64 (n - 1)))))) = v_spec_l02Triangle t n := by
  unfold v_spec_l02Triangle
  cases hl : ((t.length : Int) != 3) with
  | true => rfl
  | false =>
    have hl3 : t.length = 3 := by simp at hl; omega
    match t, hl3 with
    | [a, b, c], _ =>
      simp only [List.getD_cons_zero, List.getD_cons_succ, List.all_cons, List.all_nil, Bool.and_true]
      rw [show v_impl_within = v_spec_l00In from rfl]
      cases (a == b) <;> cases (b == c) <;> cases (a == c) <;> cases v_spec_l00In a 0 (IntKind.wrap .i64 (n - 1)) <;> cases v_spec_l00In b 0 (IntKind.wrap .i64 (n - 1)) <;> cases v_spec_l00In c 0 (IntKind.wrap .i64 (n - 1)) <;> rfl
theorem lo_ValidMesh (m : GMesh) (k : Nat) (i : Int) : lo_impl_ValidMesh_1 m (k + 1) i = cond (decide (i < (m.Triangles.length : Int))) (cond (v_spec_l02Triangle (m.Triangles.getD i.toNat default) (m.Places.length : Int)) (lo_impl_ValidMesh_1 m k (i + 1)) (.inl ())) (.inr ()) := by
  rw [lo_impl_ValidMesh_1, ← triB]
  have hin : lr_impl_ValidMesh_2_0 m i = cond ((m.Triangles.getD i.toNat default).all fun x => v_impl_within x 0 (IntKind.wrap .i64 ((m.Places.length : Int) - 1))) (.inr ()) (.inl ()) := by
    unfold lr_impl_ValidMesh_2_0
    exact all_from (a := m.Triangles.getD i.toNat default) (p := fun x => v_impl_within x 0 (IntKind.wrap .i64 ((m.Places.length : Int) - 1))) (lo := lo_impl_ValidMesh_2 m i) (x := ()) (y := ()) (fun k i => rfl)
  rw [hin]
  generalize m.Triangles.getD i.toNat default = t
  generalize (t.all fun x => v_impl_within x 0 (IntKind.wrap .i64 ((m.Places.length : Int) - 1))) = q
  cases ((t.length : Int) != 3) <;> cases (t.getD 0 default == t.getD 1 default) <;> cases (t.getD 1 default == t.getD 2 default) <;> cases (t.getD 0 default == t.getD 2 default) <;> cases q <;> rfl
theorem eq_ValidMesh (m : GMesh) : v_impl_ValidMesh m = v_spec_l02Is m := by
  rw [l02Is_eq]
  unfold v_impl_ValidMesh lr_impl_ValidMesh_1_1
  rw [all_from (a := m.Triangles) (p := fun t => v_spec_l02Triangle t (m.Places.length : Int)) (lo := lo_impl_ValidMesh_1 m) (x := ()) (y := ()) (lo_ValidMesh m)]
  cases (m.Triangles.all fun t => v_spec_l02Triangle t (m.Places.length : Int)) <;> rfl

def lo_impl_ValidBody_1 (b_0 : GBody) : Nat → Int → (Unit) ⊕ (Unit)
  | 0, _ => .inl default
  | k + 1, x_l0 => (cond (decide (x_l0 < (b_0.Springs.length : Int)))
    (cond (v_impl_within ((b_0.Springs.getD x_l0.toNat default).A) 0 (IntKind.wrap .i64 ((b_0.Mesh.Places.length : Int) - 1)))
      (cond (v_impl_within ((b_0.Springs.getD x_l0.toNat default).B) 0 (IntKind.wrap .i64 ((b_0.Mesh.Places.length : Int) - 1)))
        (cond ((b_0.Springs.getD x_l0.toNat default).A == (b_0.Springs.getD x_l0.toNat default).B)
          (.inl ())
          (cond (fcmp .geq .f32 ((b_0.Springs.getD x_l0.toNat default).Long) 0)
            (lo_impl_ValidBody_1 b_0 k (x_l0 + 1))
            (.inl ())))
        (.inl ()))
      (.inl ()))
    (.inr ()))

def ls_impl_ValidBody_1 (b_0 : GBody) : (Unit) ⊕ (Unit) → Ex × St
  | .inl r => (.ret, ⟨[.any, .any, .b false, .any, .any, .any, .any, .any, .any, .any, .any, .any, .any, .any, .any, .any, .any, .any, .any, .any, .any, .any, .any, .any, .any, .any, .any, .any, .any, .any, .any, .any, .any, .any, .any, .any, .any, .any, .any, .any, .any, .any, .any, .any, .any, .any, .any, .any, .any, .any, .any, .any, .any, .any, .any, .any, .any, .any, .any, .any, .any, .any], []⟩)
  | .inr r => ((.exit 0), ⟨[.agg [.sl (b_0.Mesh.Places.map GVector.cells), .sl (b_0.Mesh.Triangles.map (cL (cI .i64))), .sl (b_0.Springs.map GSpring.cells), .f .f32 b_0.Film, .f .f32 b_0.Bend, .sl (b_0.Weights.map (cF .f32)), .f .f32 b_0.Fall.X, .f .f32 b_0.Fall.Y, .f .f32 b_0.Fall.Z], .ptr 0 0 0, .any, .i .i64 (b_0.Mesh.Places.length : Int), .any, .any, .ptr 0 0 0, .ptr 0 0 0, .sl (b_0.Mesh.Places.map GVector.cells), .i .i64 (b_0.Mesh.Places.length : Int), .ptr 0 0 0, .agg [.sl (b_0.Mesh.Places.map GVector.cells), .sl (b_0.Mesh.Triangles.map (cL (cI .i64)))], .b (v_impl_ValidMesh b_0.Mesh), .b (!(v_impl_ValidMesh b_0.Mesh)), .b (!(v_impl_ValidMesh b_0.Mesh)), .ptr 0 0 2, .sl (b_0.Springs.map GSpring.cells), .i .i64 (b_0.Springs.length : Int), .b (decide ((b_0.Springs.length : Int) > 200)), .b (decide ((b_0.Springs.length : Int) > 200)), .b (decide ((b_0.Springs.length : Int) > 200)), .ptr 0 0 5, .sl (b_0.Weights.map (cF .f32)), .i .i64 (b_0.Weights.length : Int), .i .i64 (b_0.Mesh.Places.length : Int), .b ((b_0.Weights.length : Int) != (b_0.Mesh.Places.length : Int)), .b ((b_0.Weights.length : Int) != (b_0.Mesh.Places.length : Int)), .ptr 0 0 2, .sl (b_0.Springs.map GSpring.cells), .any, .any, .any, .any, .any, .any, .any, .any, .any, .any, .any, .any, .any, .any, .any, .any, .any, .any, .any, .any, .any, .any, .any, .any, .any, .any, .any, .any, .any, .any, .any, .any, .any], [.box 42 [.sl (b_0.Mesh.Places.map GVector.cells), .sl (b_0.Mesh.Triangles.map (cL (cI .i64))), .sl (b_0.Springs.map GSpring.cells), .f .f32 b_0.Film, .f .f32 b_0.Bend, .sl (b_0.Weights.map (cF .f32)), .f .f32 b_0.Fall.X, .f .f32 b_0.Fall.Y, .f .f32 b_0.Fall.Z]]⟩)

def hd_impl_ValidBody_1 (b_0 : GBody) (x_l0 : Int) : St := ⟨[.agg [.sl (b_0.Mesh.Places.map GVector.cells), .sl (b_0.Mesh.Triangles.map (cL (cI .i64))), .sl (b_0.Springs.map GSpring.cells), .f .f32 b_0.Film, .f .f32 b_0.Bend, .sl (b_0.Weights.map (cF .f32)), .f .f32 b_0.Fall.X, .f .f32 b_0.Fall.Y, .f .f32 b_0.Fall.Z], .ptr 0 0 0, .any, .i .i64 (b_0.Mesh.Places.length : Int), .any, .any, .ptr 0 0 0, .ptr 0 0 0, .sl (b_0.Mesh.Places.map GVector.cells), .i .i64 (b_0.Mesh.Places.length : Int), .ptr 0 0 0, .agg [.sl (b_0.Mesh.Places.map GVector.cells), .sl (b_0.Mesh.Triangles.map (cL (cI .i64)))], .b (v_impl_ValidMesh b_0.Mesh), .b (!(v_impl_ValidMesh b_0.Mesh)), .b (!(v_impl_ValidMesh b_0.Mesh)), .ptr 0 0 2, .sl (b_0.Springs.map GSpring.cells), .i .i64 (b_0.Springs.length : Int), .b (decide ((b_0.Springs.length : Int) > 200)), .b (decide ((b_0.Springs.length : Int) > 200)), .b (decide ((b_0.Springs.length : Int) > 200)), .ptr 0 0 5, .sl (b_0.Weights.map (cF .f32)), .i .i64 (b_0.Weights.length : Int), .i .i64 (b_0.Mesh.Places.length : Int), .b ((b_0.Weights.length : Int) != (b_0.Mesh.Places.length : Int)), .b ((b_0.Weights.length : Int) != (b_0.Mesh.Places.length : Int)), .ptr 0 0 2, .sl (b_0.Springs.map GSpring.cells), .i .i64 (b_0.Springs.length : Int), .i .i64 x_l0, .any, .any, .any, .any, .any, .any, .any, .any, .any, .any, .any, .any, .any, .any, .any, .any, .any, .any, .any, .any, .any, .any, .any, .any, .any, .any, .any, .any, .any, .any, .any], [.box 42 [.sl (b_0.Mesh.Places.map GVector.cells), .sl (b_0.Mesh.Triangles.map (cL (cI .i64))), .sl (b_0.Springs.map GSpring.cells), .f .f32 b_0.Film, .f .f32 b_0.Bend, .sl (b_0.Weights.map (cF .f32)), .f .f32 b_0.Fall.X, .f .f32 b_0.Fall.Y, .f .f32 b_0.Fall.Z]]⟩

def mk_impl_ValidBody_1_0 : List Bool := [true, true, false, true, false, false, true, true, true, true, true, true, true, true, true, true, true, true, true, true, true, true, true, true, true, true, true, true, true, true, true, false, false, false, false, false, false, false, false, false, false, false, false, false, false, false, false, false, false, false, false, false, false, false, false, false, false, false, false, false, false, false]

def mk_impl_ValidBody_1_1 : List Bool := [false, false, true, false, false, false, false, false, false, false, false, false, false, false, false, false, false, false, false, false, false, false, false, false, false, false, false, false, false, false, false, false, false, false, false, false, false, false, false, false, false, false, false, false, false, false, false, false, false, false, false, false, false, false, false, false, false, false, false, false, false, false]

def mk_impl_ValidBody_1_2 : List Bool := [true, true, false, true, false, false, true, true, true, true, true, true, true, true, true, true, true, true, true, true, true, true, true, true, true, true, true, true, true, false, false, false, false, false, false, false, false, false, false, false, false, false, false, false, false, false, false, false, false, false, false, false, false, false, false, false, false, false, false, false, false, false]

theorem lp_impl_ValidBody_1 (b_0 : GBody) (hp0 : b_0.Mesh.Places.length ≤ 1073741824) (hp1 : b_0.Mesh.Triangles.length ≤ 1073741824) (hp2 : ∀ t ∈ b_0.Mesh.Triangles, t.length ≤ 1073741824) (hp3 : b_0.Springs.length ≤ 1073741824) (hp4 : b_0.Weights.length ≤ 1073741824) (hf_impl_ValidBody_1_0 : ((b_0.Weights.length : Int) != (b_0.Mesh.Places.length : Int)) = false) (hf_impl_ValidBody_1_1 : (decide ((b_0.Springs.length : Int) > 200)) = false) (hf_impl_ValidBody_1_2 : (v_impl_ValidMesh b_0.Mesh) = true) : ∀ (k : Nat) (x_l0 : Int) (hv_impl_ValidBody_1_0 : 0 ≤ x_l0) (hk : ((b_0.Springs.length : Int) - x_l0).toNat < k), Lp prog 0 (sub (bodyOf f38) [1, 1, 1, 0, 1, 0, 0]) (hd_impl_ValidBody_1 b_0 x_l0) (ls_impl_ValidBody_1 b_0 (lo_impl_ValidBody_1 b_0 k x_l0)).1 (ls_impl_ValidBody_1 b_0 (lo_impl_ValidBody_1 b_0 k x_l0)).2 := by
 intro k
 induction k with
 | zero => intro x_l0 hv_impl_ValidBody_1_0 hk; exact absurd hk (Nat.not_lt_zero _)
 | succ k ih =>
  intro x_l0 hv_impl_ValidBody_1_0 hk
  cases h_0 : (decide (x_l0 < (b_0.Springs.length : Int))) with
  | true =>
   have gh_0 := of_decide_eq_true h_0
   have y_0 : (0 : Int) ≤ x_l0 := (by first | assumption | omega)
   have y_1 : x_l0 < (b_0.Springs.length : Int) := (by first | assumption | omega)
   have p {a C} (s : Scr a C) := sB h_0 <| sG GSpring.cells b_0.Springs x_l0 y_0 y_1 <| sW .i64 ((b_0.Mesh.Places.length : Int) - 1) <| sF (t_impl_within ((b_0.Springs.getD x_l0.toNat default).A) 0 (IntKind.wrap .i64 ((b_0.Mesh.Places.length : Int) - 1))) <| s
   cases h_1 : (v_impl_within ((b_0.Springs.getD x_l0.toNat default).A) 0 (IntKind.wrap .i64 ((b_0.Mesh.Places.length : Int) - 1))) with
   | true =>
    have q {a C} (s : Scr a C) := p (sB' h_1 <| sB' h_1 <| sB' h_1 <| sB' h_1 <| sW .i64 ((b_0.Mesh.Places.length : Int) - 1) <| sB' h_1 <| sF (t_impl_within ((b_0.Springs.getD x_l0.toNat default).B) 0 (IntKind.wrap .i64 ((b_0.Mesh.Places.length : Int) - 1))) <| sB' h_1 <| sB' h_1 <| s)
    clear p
    cases h_2 : (v_impl_within ((b_0.Springs.getD x_l0.toNat default).B) 0 (IntKind.wrap .i64 ((b_0.Mesh.Places.length : Int) - 1))) with
    | true =>
     have p {a C} (s : Scr a C) := q (sB' h_2 <| sB' h_2 <| sB' h_2 <| sB' h_2 <| sB' h_2 <| sB' h_2 <| s)
     clear q
     cases h_3 : ((b_0.Springs.getD x_l0.toNat default).A == (b_0.Springs.getD x_l0.toNat default).B) with
     | true =>
      have gh_3 := eq_of_beq h_3
      have e : lo_impl_ValidBody_1 b_0 (k + 1) x_l0 = (.inl ()) := by simp only [lo_impl_ValidBody_1, h_0, h_1, h_2, h_3, cond_true]
      rw [e]
      exact outR (e := .ret) E0Ok hMixed [] mk_impl_ValidBody_1_1 [] (p (sB h_3 <| sB h_3 <| sB h_3 <| sB h_3 <| sB h_3 <| sB (show true = true from rfl) <| sN)) (by kernel_rfl) (by intro h; cases h)
     | false =>
      have gh_3 := ne_of_beq_false h_3
      have q {a C} (s : Scr a C) := p (sB h_3 <| sB h_3 <| sB h_3 <| sB h_3 <| sB h_3 <| s)
      clear p
      cases h_4 : (fcmp .geq .f32 ((b_0.Springs.getD x_l0.toNat default).Long) 0) with
      | true =>
       have y_2 : (-9223372036854775808 : Int) ≤ (x_l0 + 1) := by clear q; exact (by first | assumption | omega)
       have y_3 : (x_l0 + 1) ≤ (9223372036854775807 : Int) := by clear q; exact (by first | assumption | omega)
       have e : lo_impl_ValidBody_1 b_0 (k + 1) x_l0 = (lo_impl_ValidBody_1 b_0 k (x_l0 + 1)) := by simp only [lo_impl_ValidBody_1, h_0, h_1, h_2, h_3, h_4, cond_true, cond_false]
       rw [e]
       exact nextR E0Ok hMixed [] mk_impl_ValidBody_1_0 [0] (ih (x_l0 + 1) (show 0 ≤ (x_l0 + 1) from (by first | assumption | omega)) (by first | assumption | omega)) (q (sB' h_4 <| sI (x_l0 + 1) y_2 y_3 <| sN)) (by kernel_rfl)
      | false =>
       have e : lo_impl_ValidBody_1 b_0 (k + 1) x_l0 = (.inl ()) := by simp only [lo_impl_ValidBody_1, h_0, h_1, h_2, h_3, h_4, cond_true, cond_false]
       rw [e]
       exact outR (e := .ret) E0Ok hMixed [] mk_impl_ValidBody_1_1 [] (q (sB' h_4 <| sN)) (by kernel_rfl) (by intro h; cases h)
    | false =>
     have e : lo_impl_ValidBody_1 b_0 (k + 1) x_l0 = (.inl ()) := by simp only [lo_impl_ValidBody_1, h_0, h_1, h_2, cond_true, cond_false]
     rw [e]
     exact outR (e := .ret) E0Ok hMixed [] mk_impl_ValidBody_1_1 [] (q (sB' h_2 <| sB' h_2 <| sB' h_2 <| sB' h_2 <| sB' h_2 <| sB' h_2 <| sB (show true = true from rfl) <| sB (show true = true from rfl) <| sB (show true = true from rfl) <| sB (show true = true from rfl) <| sB (show true = true from rfl) <| sB (show true = true from rfl) <| sN)) (by kernel_rfl) (by intro h; cases h)
   | false =>
    have e : lo_impl_ValidBody_1 b_0 (k + 1) x_l0 = (.inl ()) := by simp only [lo_impl_ValidBody_1, h_0, h_1, cond_true, cond_false]
    rw [e]
    exact outR (e := .ret) E0Ok hMixed [] mk_impl_ValidBody_1_1 [] (p (sB' h_1 <| sB' h_1 <| sB' h_1 <| sB' h_1 <| sB' h_1 <| sB' h_1 <| sB' h_1 <| sB (show true = true from rfl) <| sB (show true = true from rfl) <| sB (show true = true from rfl) <| sB (show true = true from rfl) <| sB (show true = true from rfl) <| sB (show true = true from rfl) <| sB (show true = true from rfl) <| sB (show true = true from rfl) <| sB (show true = true from rfl) <| sB (show true = true from rfl) <| sB (show true = true from rfl) <| sB (show true = true from rfl) <| sN)) (by kernel_rfl) (by intro h; cases h)
  | false =>
   have gh_0 := of_decide_eq_false h_0
   have e : lo_impl_ValidBody_1 b_0 (k + 1) x_l0 = (.inr ()) := by simp only [lo_impl_ValidBody_1, h_0, cond_false]
   rw [e]
   exact outR (e := (.exit 0)) E0Ok hMixed [] mk_impl_ValidBody_1_2 [0] (sB h_0 <| sN) (by kernel_rfl) (by intro h; cases h)

def lr_impl_ValidBody_1_0 (b_0 : GBody) : (Unit) ⊕ (Unit) := (lo_impl_ValidBody_1 b_0 (((b_0.Springs.length : Int) - 0).toNat + 1) 0)

def v_impl_ValidBody (b_0 : GBody) : Bool := (cond (v_impl_ValidMesh b_0.Mesh)
  (cond (decide ((b_0.Springs.length : Int) > 200))
    false
    (cond ((b_0.Weights.length : Int) != (b_0.Mesh.Places.length : Int))
      false
      (match (lr_impl_ValidBody_1_0 b_0) with
        | .inl r4 => false
        | .inr r4 => true)))
  false)

theorem t_impl_ValidBody (b_0 : GBody) (hp0 : b_0.Mesh.Places.length ≤ 1073741824) (hp1 : b_0.Mesh.Triangles.length ≤ 1073741824) (hp2 : ∀ t ∈ b_0.Mesh.Triangles, t.length ≤ 1073741824) (hp3 : b_0.Springs.length ≤ 1073741824) (hp4 : b_0.Weights.length ≤ 1073741824)  : Fn prog 38 [.agg [.sl (b_0.Mesh.Places.map GVector.cells), .sl (b_0.Mesh.Triangles.map (cL (cI .i64))), .sl (b_0.Springs.map GSpring.cells), .f .f32 b_0.Film, .f .f32 b_0.Bend, .sl (b_0.Weights.map (cF .f32)), .f .f32 b_0.Fall.X, .f .f32 b_0.Fall.Y, .f .f32 b_0.Fall.Z]] (.b (v_impl_ValidBody b_0)) [] := by
 have p {a C} (s : Scr a C) := sZ GVector.cells b_0.Mesh.Places <| sF (t_impl_ValidMesh b_0.Mesh hp0 hp1 hp2) <| s
 cases h0 : (v_impl_ValidMesh b_0.Mesh) with
 | true =>
  have q {a C} (s : Scr a C) := p (sB' h0 <| sB' h0 <| sB' h0 <| sZ GSpring.cells b_0.Springs <| sB' h0 <| sB' h0 <| s)
  clear p
  cases h1 : (decide ((b_0.Springs.length : Int) > 200)) with
  | true =>
   have gh1 := of_decide_eq_true h1
   refine fnS E0Ok hMixed (c := bodyOf f38) [] (.b false) [] func38 (q (sB h1 <| sB h1 <| sB h1 <| sB h1 <| sB h1 <| sB h1 <| sB (show true = true from rfl) <| sK [] sN)) rfl (by kernel_rfl) (by kernel_rfl) rfl ?_ ?_
   · simp only [v_impl_ValidBody, h0, h1, cond_true]
   · rfl
  | false =>
   have gh1 := of_decide_eq_false h1
   have p {a C} (s : Scr a C) := q (sB h1 <| sB h1 <| sB h1 <| sZ (cF .f32) b_0.Weights <| sB h1 <| sB h1 <| sB h1 <| s)
   clear q
   cases h2 : ((b_0.Weights.length : Int) != (b_0.Mesh.Places.length : Int)) with
   | true =>
    have gh2 := bne_iff_ne.1 h2
    refine fnS E0Ok hMixed (c := bodyOf f38) [] (.b false) [] func38 (p (sB h2 <| sK [] sN)) rfl (by kernel_rfl) (by kernel_rfl) rfl ?_ ?_
    · simp only [v_impl_ValidBody, h0, h1, h2, cond_true, cond_false]
    · rfl
   | false =>
    have gh2 := bne_eq_false_iff_eq.1 h2
    have q {a C} (s : Scr a C) := p (sB h2 <| sZ GSpring.cells b_0.Springs <| s)
    clear p
    cases h3 : (lr_impl_ValidBody_1_0 b_0) with
    | inl r4 =>
     refine fnS E0Ok hMixed (c := bodyOf f38) [] (.b false) [] func38 (q (sL mk_impl_ValidBody_1_0 1 (lp_val (ls_impl_ValidBody_1 b_0) (x := (lr_impl_ValidBody_1_0 b_0)) (lp_impl_ValidBody_1 b_0 hp0 hp1 hp2 hp3 hp4 h2 h1 h0 (((b_0.Springs.length : Int) - 0).toNat + 1) 0 (show 0 ≤ 0 from (by first | assumption | omega)) (Nat.lt_succ_self _)) h3) <| sK [] sN)) rfl (by kernel_rfl) (by kernel_rfl) rfl ?_ ?_
     · simp only [v_impl_ValidBody, h0, h1, h2, h3, cond_true, cond_false]
     · rfl
    | inr r4 =>
     refine fnS E0Ok hMixed (c := bodyOf f38) [] (.b true) [] func38 (q (sL mk_impl_ValidBody_1_0 1 (lp_val (ls_impl_ValidBody_1 b_0) (x := (lr_impl_ValidBody_1_0 b_0)) (lp_impl_ValidBody_1 b_0 hp0 hp1 hp2 hp3 hp4 h2 h1 h0 (((b_0.Springs.length : Int) - 0).toNat + 1) 0 (show 0 ≤ 0 from (by first | assumption | omega)) (Nat.lt_succ_self _)) h3) <| sK [] sN)) rfl (by kernel_rfl) (by kernel_rfl) rfl ?_ ?_
     · simp only [v_impl_ValidBody, h0, h1, h2, h3, cond_true, cond_false]
     · rfl
 | false =>
  refine fnS E0Ok hMixed (c := bodyOf f38) [] (.b false) [] func38 (p (sB' h0 <| sB' h0 <| sB' h0 <| sB' h0 <| sB' h0 <| sB (show true = true from rfl) <| sB (show true = true from rfl) <| sB (show true = true from rfl) <| sB (show true = true from rfl) <| sB (show true = true from rfl) <| sB (show true = true from rfl) <| sB (show true = true from rfl) <| sK [] sN)) rfl (by kernel_rfl) (by kernel_rfl) rfl ?_ ?_
  · simp only [v_impl_ValidBody, h0, cond_false]
  · rfl

theorem springB (s : GSpring) (n : Int) : cond (v_impl_within s.A 0 (IntKind.wrap .i64 (n - 1))) (cond (v_impl_within s.B 0 (IntKind.wrap .i64 (n - 1))) (cond (s.A == s.B) false (fcmp .geq .f32 s.Long 0)) false) false = v_spec_l03Spring s n := by
  unfold v_spec_l03Spring
  rw [show v_impl_within = v_spec_l00In from rfl, show (s.A != s.B) = !(s.A == s.B) from rfl]
  cases (s.A == s.B) <;> rfl
theorem lo_ValidBody (b : GBody) (k : Nat) (i : Int) : lo_impl_ValidBody_1 b (k + 1) i = cond (decide (i < (b.Springs.length : Int))) (cond (v_spec_l03Spring (b.Springs.getD i.toNat default) (b.Mesh.Places.length : Int)) (lo_impl_ValidBody_1 b k (i + 1)) (.inl ())) (.inr ()) := by
  rw [lo_impl_ValidBody_1, ← springB]
  generalize b.Springs.getD i.toNat default = s
  cases v_impl_within s.A 0 (IntKind.wrap .i64 ((b.Mesh.Places.length : Int) - 1)) <;> cases v_impl_within s.B 0 (IntKind.wrap .i64 ((b.Mesh.Places.length : Int) - 1)) <;> cases (s.A == s.B) <;> cases fcmp .geq .f32 s.Long 0 <;> rfl
theorem eq_ValidBody (b : GBody) : v_impl_ValidBody b = v_spec_l03Is b := by
  unfold v_impl_ValidBody v_spec_l03Is lr_impl_ValidBody_1_0 lr_spec_l03Is_1_0
  rw [eq_ValidMesh, all_from (a := b.Springs) (p := fun s => v_spec_l03Spring s (b.Mesh.Places.length : Int)) (lo := lo_impl_ValidBody_1 b) (x := ()) (y := ()) (lo_ValidBody b),
    all_from (a := b.Springs) (p := fun s => v_spec_l03Spring s (b.Mesh.Places.length : Int)) (lo := lo_spec_l03Is_1 b) (x := ()) (y := ()) (fun k i => rfl)]
  rfl
theorem okMesh_is (b : GBody) (h : v_spec_l03Is b = true) : v_spec_l02Is b.Mesh = true := by
  cases hm : v_spec_l02Is b.Mesh with
  | true => rfl
  | false => simp [v_spec_l03Is, hm] at h
theorem places_le (m : GMesh) (h : v_spec_l02Is m = true) : m.Places.length ≤ 64 ∧ m.Triangles.length ≤ 128 := by
  rw [l02Is_eq] at h
  cases h1 : decide ((m.Places.length : Int) > 64) <;> rw [h1] at h <;> (try (cases h; done))
  cases h2 : decide ((m.Triangles.length : Int) > 128) <;> rw [h2] at h <;> (try (cases h; done))
  simp only [decide_eq_false_iff_not] at h1 h2
  omega

def v_impl_IsFinite (x_0 : Nat) : Bool := (fcmp .eql .f32 (fop .sub .f32 x_0 x_0) 0)

theorem t_impl_IsFinite (x_0 : Nat)   : Fn prog 68 [.f .f32 x_0] (.b (v_impl_IsFinite x_0)) [] := by
 refine fnS E0Ok hMixed (c := bodyOf f68) [] (.b (fcmp .eql .f32 (fop .sub .f32 x_0 x_0) 0)) [] func68 (sK [] sN) rfl (by kernel_rfl) (by kernel_rfl) rfl ?_ ?_
 · rfl
 · rfl

def v_impl_isOver (x_0 : Nat) : Bool := (cond (v_impl_IsFinite x_0)
  (fcmp .gtr .f32 x_0 0)
  false)

theorem t_impl_isOver (x_0 : Nat)   : Fn prog 40 [.f .f32 x_0] (.b (v_impl_isOver x_0)) [] := by
 have p {a C} (s : Scr a C) := sF (t_impl_IsFinite x_0) <| s
 cases h0 : (v_impl_IsFinite x_0) with
 | true =>
  refine fnS E0Ok hMixed (c := bodyOf f40) [] (.b (fcmp .gtr .f32 x_0 0)) [] func40 (p (sB h0 <| sB h0 <| sB h0 <| sK [] sN)) rfl (by kernel_rfl) (by kernel_rfl) rfl ?_ ?_
  · simp only [v_impl_isOver, h0, cond_true]
  · rfl
 | false =>
  refine fnS E0Ok hMixed (c := bodyOf f40) [] (.b false) [] func40 (p (sB h0 <| sB h0 <| sB h0 <| sK [] sN)) rfl (by kernel_rfl) (by kernel_rfl) rfl ?_ ?_
  · simp only [v_impl_isOver, h0, cond_false]
  · rfl

def lo_impl_copyMesh_1 (m_0 : GMesh) : Nat → Int → (List (List Int)) → (List (List Int))
  | 0, _, _ => default
  | k + 1, x_l0, r4_l1 => (cond (decide (x_l0 < (m_0.Triangles.length : Int)))
    (lo_impl_copyMesh_1 m_0 k (x_l0 + 1) (r4_l1 ++ [(([] : List Int) ++ (m_0.Triangles.getD x_l0.toNat default))]))
    r4_l1)

def ls_impl_copyMesh_1 (m_0 : GMesh) (r : (List (List Int))) : Ex × St := ((.exit 0), ⟨[.agg [.sl (m_0.Places.map GVector.cells), .sl (m_0.Triangles.map (cL (cI .i64)))], .ptr 0 0 0, .ptr 1 0 0, .ptr 2 0 0, .any, .any, .any, .ptr 0 0 0, .sl (m_0.Places.map GVector.cells), .own 3, .agg [.own 3, .nils], .ptr 0 0 1, .sl (m_0.Triangles.map (cL (cI .i64))), .any, .any, .any, .any, .any, .any, .any, .any, .any, .any, .any, .any, .any, .any, .any], [.box 38 [.sl (m_0.Places.map GVector.cells), .sl (m_0.Triangles.map (cL (cI .i64)))], .box 38 [.nils, .nils], .box 38 [.own 3, .own 4], .vec 40 3 (([] : List (List AV)) ++ (m_0.Places.map GVector.cells)) false, .nest 54 (r.map fun l => l.map (cI .i64)) false]⟩)

def hd_impl_copyMesh_1 (m_0 : GMesh) (x_l0 : Int) (r4_l1 : (List (List Int))) : St := ⟨[.agg [.sl (m_0.Places.map GVector.cells), .sl (m_0.Triangles.map (cL (cI .i64)))], .ptr 0 0 0, .ptr 1 0 0, .ptr 3 0 0, .any, .any, .any, .ptr 0 0 0, .sl (m_0.Places.map GVector.cells), .own 2, .agg [.own 2, .nils], .ptr 0 0 1, .sl (m_0.Triangles.map (cL (cI .i64))), .i .i64 (m_0.Triangles.length : Int), .i .i64 x_l0, .any, .any, .any, .any, .any, .any, .any, .any, .any, .any, .any, .any, .any], [.box 38 [.sl (m_0.Places.map GVector.cells), .sl (m_0.Triangles.map (cL (cI .i64)))], .box 38 [.nils, .nils], .vec 40 3 (([] : List (List AV)) ++ (m_0.Places.map GVector.cells)) false, .box 38 [.own 2, .own 4], .nest 54 (r4_l1.map fun l => l.map (cI .i64)) false]⟩

def mk_impl_copyMesh_1_0 : List Bool := [true, true, true, true, false, false, false, true, true, true, true, true, true, true, true, false, false, false, false, false, false, false, false, false, false, false, false, false]

def mk_impl_copyMesh_1_1 : List Bool := [true, true, true, true, false, false, false, true, true, true, true, true, true, false, false, false, false, false, false, false, false, false, false, false, false, false, false, false]

theorem lp_impl_copyMesh_1 (m_0 : GMesh) (hp0 : m_0.Places.length ≤ 1073741824) (hp1 : m_0.Triangles.length ≤ 1073741824) (hp2 : ∀ t ∈ m_0.Triangles, t.length ≤ 1073741824) (hp3 : OkTris m_0.Places.length m_0.Triangles) : ∀ (k : Nat) (x_l0 : Int) (r4_l1 : (List (List Int))) (hv_impl_copyMesh_1_0 : 0 ≤ x_l0) (hv_impl_copyMesh_1_1 : (r4_l1.length : Int) = x_l0) (hk : ((m_0.Triangles.length : Int) - x_l0).toNat < k), Lp prog 0 (sub (bodyOf f100) [1, 1, 0, 1, 0, 0]) (hd_impl_copyMesh_1 m_0 x_l0 r4_l1) (ls_impl_copyMesh_1 m_0 (lo_impl_copyMesh_1 m_0 k x_l0 r4_l1)).1 (ls_impl_copyMesh_1 m_0 (lo_impl_copyMesh_1 m_0 k x_l0 r4_l1)).2 := by
 intro k
 induction k with
 | zero => intro x_l0 r4_l1 hv_impl_copyMesh_1_0 hv_impl_copyMesh_1_1 hk; exact absurd hk (Nat.not_lt_zero _)
 | succ k ih =>
  intro x_l0 r4_l1 hv_impl_copyMesh_1_0 hv_impl_copyMesh_1_1 hk
  cases h_0 : (decide (x_l0 < (m_0.Triangles.length : Int))) with
  | true =>
   have gh_0 := of_decide_eq_true h_0
   have y_0 : (0 : Int) ≤ x_l0 := (by first | assumption | omega)
   have y_1 : x_l0 < (m_0.Triangles.length : Int) := (by first | assumption | omega)
   have y_2 : ([] : List Int).length + (m_0.Triangles.getD x_l0.toNat default).length ≤ 1073741824 := (by first | assumption | omega | (have q := (OkTris.at hp3 hv_impl_copyMesh_1_0 (of_decide_eq_true (by assumption))).1; omega) | (simp_all <;> omega))
   have y_3 : r4_l1.length + [(([] : List Int) ++ (m_0.Triangles.getD x_l0.toNat default))].length ≤ 1073741824 := (by first | assumption | omega | (have q := (OkTris.at hp3 hv_impl_copyMesh_1_0 (of_decide_eq_true (by assumption))).1; omega) | (simp_all <;> omega))
   have y_4 : (-9223372036854775808 : Int) ≤ (x_l0 + 1) := (by first | assumption | omega)
   have y_5 : (x_l0 + 1) ≤ (9223372036854775807 : Int) := (by first | assumption | omega)
   have e : lo_impl_copyMesh_1 m_0 (k + 1) x_l0 r4_l1 = (lo_impl_copyMesh_1 m_0 k (x_l0 + 1) (r4_l1 ++ [(([] : List Int) ++ (m_0.Triangles.getD x_l0.toNat default))])) := by simp only [lo_impl_copyMesh_1, h_0, cond_true]
   rw [e]
   exact nextS E0Ok hMixed [] mk_impl_copyMesh_1_0 [0, 1, 2, 3, 4] (⟨[.agg [.sl (m_0.Places.map GVector.cells), .sl (m_0.Triangles.map (cL (cI .i64)))], .ptr 0 0 0, .ptr 1 0 0, .ptr 3 0 0, .any, .any, .any, .ptr 0 0 0, .sl (m_0.Places.map GVector.cells), .own 2, .agg [.own 2, .nils], .ptr 0 0 1, .sl (m_0.Triangles.map (cL (cI .i64))), .i .i64 (m_0.Triangles.length : Int), .i .i64 (x_l0 + 1), .any, .any, .any, .any, .any, .any, .any, .any, .any, .any, .any, .any, .any], [.box 38 [.sl (m_0.Places.map GVector.cells), .sl (m_0.Triangles.map (cL (cI .i64)))], .box 38 [.nils, .nils], .vec 40 3 (([] : List (List AV)) ++ (m_0.Places.map GVector.cells)) false, .box 38 [.own 2, .own 4], .nest 54 ((r4_l1.map fun l => l.map (cI .i64)) ++ [(([] : List (List AV)) ++ ((m_0.Triangles.getD x_l0.toNat default).map (cI .i64)))]) false]⟩) (sB h_0 <| sG (cL (cI .i64)) m_0.Triangles x_l0 y_0 y_1 <| sK [6, 6] <| sC (show ((m_0.Triangles.getD x_l0.toNat default).map (cI .i64)) ≠ [] from (by have q := (OkTris.at hp3 hv_impl_copyMesh_1_0 (of_decide_eq_true (by assumption))).1; have q2 : (m_0.Triangles.getD x_l0.toNat default) ≠ [] := (by intro hq; rw [hq] at q; simp at q); simpa using q2)) <| sC (show ([] : List (List AV)).length + ((m_0.Triangles.getD x_l0.toNat default).map (cI .i64)).length ≤ 1073741824 from (by simpa using y_2)) <| sC (show ((m_0.Triangles.getD x_l0.toNat default).map (cI .i64)).all (fun cs => cs.length == 1 && cs.all isS) = true from (src_ok (fun _ => rfl))) <| sC (show (r4_l1.map fun l => l.map (cI .i64)).length + [(([] : List (List AV)) ++ ((m_0.Triangles.getD x_l0.toNat default).map (cI .i64)))].length ≤ 1073741824 from (by simpa using y_3)) <| sI (x_l0 + 1) y_4 y_5 <| sN) (by kernel_rfl) (show _ = ⟨[.agg [.sl (m_0.Places.map GVector.cells), .sl (m_0.Triangles.map (cL (cI .i64)))], .ptr 0 0 0, .ptr 1 0 0, .ptr 3 0 0, .any, .any, .any, .ptr 0 0 0, .sl (m_0.Places.map GVector.cells), .own 2, .agg [.own 2, .nils], .ptr 0 0 1, .sl (m_0.Triangles.map (cL (cI .i64))), .i .i64 (m_0.Triangles.length : Int), .i .i64 (x_l0 + 1), .any, .any, .any, .any, .any, .any, .any, .any, .any, .any, .any, .any, .any], [.box 38 [.sl (m_0.Places.map GVector.cells), .sl (m_0.Triangles.map (cL (cI .i64)))], .box 38 [.nils, .nils], .vec 40 3 (([] : List (List AV)) ++ (m_0.Places.map GVector.cells)) false, .box 38 [.own 2, .own 4], .nest 54 ((r4_l1 ++ [(([] : List Int) ++ (m_0.Triangles.getD x_l0.toNat default))]).map fun l => l.map (cI .i64)) false]⟩ from (by simp [GVector.cells, cL, cI])) (ih (x_l0 + 1) (r4_l1 ++ [(([] : List Int) ++ (m_0.Triangles.getD x_l0.toNat default))]) (show 0 ≤ (x_l0 + 1) from (by first | assumption | omega)) (show ((r4_l1 ++ [(([] : List Int) ++ (m_0.Triangles.getD x_l0.toNat default))]).length : Int) = (x_l0 + 1) from (by first | assumption | omega | (have q := (OkTris.at hp3 hv_impl_copyMesh_1_0 (of_decide_eq_true (by assumption))).1; omega) | (simp_all <;> omega))) (by first | assumption | omega))
  | false =>
   have gh_0 := of_decide_eq_false h_0
   have e : lo_impl_copyMesh_1 m_0 (k + 1) x_l0 r4_l1 = r4_l1 := by simp only [lo_impl_copyMesh_1, h_0, cond_false]
   rw [e]
   exact outR (e := (.exit 0)) E0Ok hMixed [] mk_impl_copyMesh_1_1 [0, 1, 3, 2, 4] (sB h_0 <| sN) (by kernel_rfl) (by intro h; cases h)

def lr_impl_copyMesh_1_0 (m_0 : GMesh) : (List (List Int)) := (lo_impl_copyMesh_1 m_0 (((m_0.Triangles.length : Int) - 0).toNat + 1) 0 ([] : List (List Int)))

def v_impl_copyMesh (m_0 : GMesh) : GMesh := (⟨(([] : List GVector) ++ m_0.Places), (lr_impl_copyMesh_1_0 m_0)⟩ : GMesh)

theorem t_impl_copyMesh (m_0 : GMesh) (hp0 : m_0.Places.length ≤ 1073741824) (hp1 : m_0.Triangles.length ≤ 1073741824) (hp2 : ∀ t ∈ m_0.Triangles, t.length ≤ 1073741824) (hp3 : OkTris m_0.Places.length m_0.Triangles)  : Fn prog 100 [.agg [.sl (m_0.Places.map GVector.cells), .sl (m_0.Triangles.map (cL (cI .i64)))]] (.agg [.own 0, .own 1]) [.vec 40 3 (((v_impl_copyMesh m_0).Places).map GVector.cells) false, .nest 54 (((v_impl_copyMesh m_0).Triangles).map fun l => l.map (cI .i64)) false] := by
 have y0 : ([] : List GVector).length + m_0.Places.length ≤ 1073741824 := (by first | assumption | omega | (have q := (OkTris.at hp3 hv_impl_copyMesh_1_0 (of_decide_eq_true (by assumption))).1; omega) | (simp_all <;> omega))
 refine fnS E0Ok hMixed (c := bodyOf f100) [] (.agg [.own 0, .own 1]) [.vec 40 3 (([] : List (List AV)) ++ (m_0.Places.map GVector.cells)) false, .nest 54 ((lr_impl_copyMesh_1_0 m_0).map fun l => l.map (cI .i64)) false] func100 (sC (show ([] : List (List AV)).length + (m_0.Places.map GVector.cells).length ≤ 1073741824 from (by simpa using y0)) <| sC (show (m_0.Places.map GVector.cells).all (fun cs => cs.length == 3 && cs.all isS) = true from (src_ok (fun _ => rfl))) <| sZ (cL (cI .i64)) m_0.Triangles <| sL mk_impl_copyMesh_1_0 4 (Lp.nil (st := ⟨[.agg [.sl (m_0.Places.map GVector.cells), .sl (m_0.Triangles.map (cL (cI .i64)))], .ptr 0 0 0, .ptr 1 0 0, .ptr 3 0 0, .any, .any, .any, .ptr 0 0 0, .sl (m_0.Places.map GVector.cells), .own 2, .agg [.own 2, .nils], .ptr 0 0 1, .sl (m_0.Triangles.map (cL (cI .i64))), .i .i64 (m_0.Triangles.length : Int), .i .i64 0, .any, .any, .any, .any, .any, .any, .any, .any, .any, .any, .any, .any, .any], [.box 38 [.sl (m_0.Places.map GVector.cells), .sl (m_0.Triangles.map (cL (cI .i64)))], .box 38 [.nils, .nils], .vec 40 3 (([] : List (List AV)) ++ (m_0.Places.map GVector.cells)) false, .box 38 [.own 2, .nils]]⟩) (st2 := ⟨[.agg [.sl (m_0.Places.map GVector.cells), .sl (m_0.Triangles.map (cL (cI .i64)))], .ptr 0 0 0, .ptr 1 0 0, .ptr 3 0 0, .any, .any, .any, .ptr 0 0 0, .sl (m_0.Places.map GVector.cells), .own 2, .agg [.own 2, .nils], .ptr 0 0 1, .sl (m_0.Triangles.map (cL (cI .i64))), .i .i64 (m_0.Triangles.length : Int), .i .i64 0, .any, .any, .any, .any, .any, .any, .any, .any, .any, .any, .any, .any, .any], [.box 38 [.sl (m_0.Places.map GVector.cells), .sl (m_0.Triangles.map (cL (cI .i64)))], .box 38 [.nils, .nils], .vec 40 3 (([] : List (List AV)) ++ (m_0.Places.map GVector.cells)) false, .box 38 [.own 2, .own 4], .nest 54 [] false]⟩) (ps := [(.row 3 1, .nest 54 [] false)]) rfl (lp_cast (st2 := ⟨[.agg [.sl (m_0.Places.map GVector.cells), .sl (m_0.Triangles.map (cL (cI .i64)))], .ptr 0 0 0, .ptr 1 0 0, .ptr 3 0 0, .any, .any, .any, .ptr 0 0 0, .sl (m_0.Places.map GVector.cells), .own 2, .agg [.own 2, .nils], .ptr 0 0 1, .sl (m_0.Triangles.map (cL (cI .i64))), .i .i64 (m_0.Triangles.length : Int), .i .i64 0, .any, .any, .any, .any, .any, .any, .any, .any, .any, .any, .any, .any, .any], [.box 38 [.sl (m_0.Places.map GVector.cells), .sl (m_0.Triangles.map (cL (cI .i64)))], .box 38 [.nils, .nils], .vec 40 3 (([] : List (List AV)) ++ (m_0.Places.map GVector.cells)) false, .box 38 [.own 2, .own 4], .nest 54 [] false]⟩) (lp_val (ls_impl_copyMesh_1 m_0) (x := (lr_impl_copyMesh_1_0 m_0)) (lp_impl_copyMesh_1 m_0 hp0 hp1 hp2 hp3 (((m_0.Triangles.length : Int) - 0).toNat + 1) 0 ([] : List (List Int)) (show 0 ≤ 0 from (by first | assumption | omega)) (show (([] : List (List Int)).length : Int) = 0 from (by simp)) (Nat.lt_succ_self _)) rfl) (by simp [hd_impl_copyMesh_1, GVector.cells, cL, cI]))) <| sK [3, 4] sN) rfl (by kernel_rfl) (by kernel_rfl) rfl ?_ ?_
 · rfl
 · simp [v_impl_copyMesh, GVector.cells]

@[simp] theorem eq_copyMesh (m : GMesh) : v_impl_copyMesh m = m := by
  unfold v_impl_copyMesh lr_impl_copyMesh_1_0
  rw [app_loop (f := fun i => (m.Triangles.getD i.toNat default)) (n := (m.Triangles.length : Int)) (lo := lo_impl_copyMesh_1 m) (fun k i r => rfl) _ _ _ (Nat.lt_succ_self _)]
  simp [getD_range2]

theorem i_impl_copyMesh (m_0 : GMesh) (hp0 : m_0.Places.length ≤ 1073741824) (hp1 : m_0.Triangles.length ≤ 1073741824) (hp2 : ∀ t ∈ m_0.Triangles, t.length ≤ 1073741824) (hp3 : OkTris m_0.Places.length m_0.Triangles) : Fn prog 100 [.agg [.sl (m_0.Places.map GVector.cells), .sl (m_0.Triangles.map (cL (cI .i64)))]] (.agg [.own 0, .own 1]) [.vec 40 3 (m_0.Places.map GVector.cells) false, .nest 54 (m_0.Triangles.map fun l => l.map (cI .i64)) false] := by
 simpa only [eq_copyMesh] using t_impl_copyMesh  m_0 hp0 hp1 hp2 hp3

def v_impl_copyBody (b_0 : GBody) : GBody := (⟨b_0.Mesh, (([] : List GSpring) ++ b_0.Springs), b_0.Film, b_0.Bend, (([] : List Nat) ++ b_0.Weights), b_0.Fall⟩ : GBody)

theorem t_impl_copyBody (b_0 : GBody) (hp0 : b_0.Mesh.Places.length ≤ 1073741824) (hp1 : b_0.Mesh.Triangles.length ≤ 1073741824) (hp2 : ∀ t ∈ b_0.Mesh.Triangles, t.length ≤ 1073741824) (hp3 : b_0.Springs.length ≤ 1073741824) (hp4 : b_0.Weights.length ≤ 1073741824) (hp5 : OkTris b_0.Mesh.Places.length b_0.Mesh.Triangles)  : Fn prog 69 [.agg [.sl (b_0.Mesh.Places.map GVector.cells), .sl (b_0.Mesh.Triangles.map (cL (cI .i64))), .sl (b_0.Springs.map GSpring.cells), .f .f32 b_0.Film, .f .f32 b_0.Bend, .sl (b_0.Weights.map (cF .f32)), .f .f32 b_0.Fall.X, .f .f32 b_0.Fall.Y, .f .f32 b_0.Fall.Z]] (.agg [.own 0, .own 1, .own 2, .f .f32 ((v_impl_copyBody b_0).Film), .f .f32 ((v_impl_copyBody b_0).Bend), .own 3, .f .f32 ((v_impl_copyBody b_0).Fall.X), .f .f32 ((v_impl_copyBody b_0).Fall.Y), .f .f32 ((v_impl_copyBody b_0).Fall.Z)]) [.vec 40 3 (((v_impl_copyBody b_0).Mesh.Places).map GVector.cells) false, .nest 54 (((v_impl_copyBody b_0).Mesh.Triangles).map fun l => l.map (cI .i64)) false, .vec 97 4 (((v_impl_copyBody b_0).Springs).map GSpring.cells) false, .vec 27 1 (((v_impl_copyBody b_0).Weights).map (cF .f32)) false] := by
 have y0 : ([] : List GSpring).length + b_0.Springs.length ≤ 1073741824 := (by first | assumption | omega | (simp_all <;> omega))
 have y1 : ([] : List Nat).length + b_0.Weights.length ≤ 1073741824 := (by first | assumption | omega | (simp_all <;> omega))
 refine fnS E0Ok hMixed (c := bodyOf f69) [] (.agg [.own 0, .own 1, .own 2, .f .f32 b_0.Film, .f .f32 b_0.Bend, .own 3, .f .f32 b_0.Fall.X, .f .f32 b_0.Fall.Y, .f .f32 b_0.Fall.Z]) [.vec 40 3 (b_0.Mesh.Places.map GVector.cells) false, .nest 54 (b_0.Mesh.Triangles.map fun l => l.map (cI .i64)) false, .vec 97 4 (([] : List (List AV)) ++ (b_0.Springs.map GSpring.cells)) false, .vec 27 1 (([] : List (List AV)) ++ (b_0.Weights.map (cF .f32))) false] func69 (sF (i_impl_copyMesh b_0.Mesh hp0 hp1 hp2 hp5) <| sC (show ([] : List (List AV)).length + (b_0.Springs.map GSpring.cells).length ≤ 1073741824 from (by simpa using y0)) <| sC (show (b_0.Springs.map GSpring.cells).all (fun cs => cs.length == 4 && cs.all isS) = true from (src_ok (fun _ => rfl))) <| sC (show ([] : List (List AV)).length + (b_0.Weights.map (cF .f32)).length ≤ 1073741824 from (by simpa using y1)) <| sC (show (b_0.Weights.map (cF .f32)).all (fun cs => cs.length == 1 && cs.all isS) = true from (src_ok (fun _ => rfl))) <| sK [2, 3, 4, 5] sN) rfl (by kernel_rfl) (by kernel_rfl) rfl ?_ ?_
 · rfl
 · simp [v_impl_copyBody, GSpring.cells, cF]

@[simp] theorem eq_copyBody (b : GBody) : v_impl_copyBody b = b := by simp [v_impl_copyBody]

theorem i_impl_copyBody (b_0 : GBody) (hp0 : b_0.Mesh.Places.length ≤ 1073741824) (hp1 : b_0.Mesh.Triangles.length ≤ 1073741824) (hp2 : ∀ t ∈ b_0.Mesh.Triangles, t.length ≤ 1073741824) (hp3 : b_0.Springs.length ≤ 1073741824) (hp4 : b_0.Weights.length ≤ 1073741824) (hp5 : OkTris b_0.Mesh.Places.length b_0.Mesh.Triangles) : Fn prog 69 [.agg [.sl (b_0.Mesh.Places.map GVector.cells), .sl (b_0.Mesh.Triangles.map (cL (cI .i64))), .sl (b_0.Springs.map GSpring.cells), .f .f32 b_0.Film, .f .f32 b_0.Bend, .sl (b_0.Weights.map (cF .f32)), .f .f32 b_0.Fall.X, .f .f32 b_0.Fall.Y, .f .f32 b_0.Fall.Z]] (.agg [.own 0, .own 1, .own 2, .f .f32 b_0.Film, .f .f32 b_0.Bend, .own 3, .f .f32 b_0.Fall.X, .f .f32 b_0.Fall.Y, .f .f32 b_0.Fall.Z]) [.vec 40 3 (b_0.Mesh.Places.map GVector.cells) false, .nest 54 (b_0.Mesh.Triangles.map fun l => l.map (cI .i64)) false, .vec 97 4 (b_0.Springs.map GSpring.cells) false, .vec 27 1 (b_0.Weights.map (cF .f32)) false] := by
 simpa only [eq_copyBody] using t_impl_copyBody  b_0 hp0 hp1 hp2 hp3 hp4 hp5

def v_impl_LessVectors (a_0 : GVector) (b_1 : GVector) : GVector := (⟨(fop .sub .f32 a_0.X b_1.X), (fop .sub .f32 a_0.Y b_1.Y), (fop .sub .f32 a_0.Z b_1.Z)⟩ : GVector)

theorem t_impl_LessVectors (a_0 : GVector) (b_1 : GVector)   : Fn prog 91 [.agg [.f .f32 a_0.X, .f .f32 a_0.Y, .f .f32 a_0.Z], .agg [.f .f32 b_1.X, .f .f32 b_1.Y, .f .f32 b_1.Z]] (.agg [.f .f32 ((v_impl_LessVectors a_0 b_1).X), .f .f32 ((v_impl_LessVectors a_0 b_1).Y), .f .f32 ((v_impl_LessVectors a_0 b_1).Z)]) [] := by
 refine fnS E0Ok hMixed (c := bodyOf f91) [] (.agg [.f .f32 (fop .sub .f32 a_0.X b_1.X), .f .f32 (fop .sub .f32 a_0.Y b_1.Y), .f .f32 (fop .sub .f32 a_0.Z b_1.Z)]) [] func91 (sK [] sN) rfl (by kernel_rfl) (by kernel_rfl) rfl ?_ ?_
 · rfl
 · rfl

def v_impl_alongSpring (b_0 : GBody) (s_1 : GSpring) : GVector := (v_impl_LessVectors (b_0.Mesh.Places.getD s_1.B.toNat default) (b_0.Mesh.Places.getD s_1.A.toNat default))

theorem t_impl_alongSpring (b_0 : GBody) (s_1 : GSpring) (hp0 : b_0.Mesh.Places.length ≤ 1073741824) (hp1 : b_0.Mesh.Triangles.length ≤ 1073741824) (hp2 : ∀ t ∈ b_0.Mesh.Triangles, t.length ≤ 1073741824) (hp3 : b_0.Springs.length ≤ 1073741824) (hp4 : b_0.Weights.length ≤ 1073741824) (hp5 : 0 ≤ s_1.A) (hp6 : s_1.A < (b_0.Mesh.Places.length : Int)) (hp7 : 0 ≤ s_1.B) (hp8 : s_1.B < (b_0.Mesh.Places.length : Int))  : Fn prog 86 [.agg [.sl (b_0.Mesh.Places.map GVector.cells), .sl (b_0.Mesh.Triangles.map (cL (cI .i64))), .sl (b_0.Springs.map GSpring.cells), .f .f32 b_0.Film, .f .f32 b_0.Bend, .sl (b_0.Weights.map (cF .f32)), .f .f32 b_0.Fall.X, .f .f32 b_0.Fall.Y, .f .f32 b_0.Fall.Z], .agg [.i .i64 s_1.A, .i .i64 s_1.B, .f .f32 s_1.Long, .f .f32 s_1.Stiff]] (.agg [.f .f32 ((v_impl_alongSpring b_0 s_1).X), .f .f32 ((v_impl_alongSpring b_0 s_1).Y), .f .f32 ((v_impl_alongSpring b_0 s_1).Z)]) [] := by
 have y0 : (0 : Int) ≤ s_1.B := (by first | assumption | omega)
 have y1 : (0 : Int) ≤ s_1.A := (by first | assumption | omega)
 refine fnS E0Ok hMixed (c := bodyOf f86) [] (.agg [.f .f32 ((v_impl_LessVectors (b_0.Mesh.Places.getD s_1.B.toNat default) (b_0.Mesh.Places.getD s_1.A.toNat default)).X), .f .f32 ((v_impl_LessVectors (b_0.Mesh.Places.getD s_1.B.toNat default) (b_0.Mesh.Places.getD s_1.A.toNat default)).Y), .f .f32 ((v_impl_LessVectors (b_0.Mesh.Places.getD s_1.B.toNat default) (b_0.Mesh.Places.getD s_1.A.toNat default)).Z)]) [] func86 (sK [14, 14] <| sG GVector.cells b_0.Mesh.Places s_1.B y0 hp8 <| sG GVector.cells b_0.Mesh.Places s_1.A y1 hp6 <| sF (t_impl_LessVectors (b_0.Mesh.Places.getD s_1.B.toNat default) (b_0.Mesh.Places.getD s_1.A.toNat default)) <| sK [] sN) rfl (by kernel_rfl) (by kernel_rfl) rfl ?_ ?_
 · rfl
 · rfl

def v_impl_InnerOf (a_0 : GVector) (b_1 : GVector) : Nat := (fop .add .f32 (fop .add .f32 (fop .mul .f32 a_0.X b_1.X) (fop .mul .f32 a_0.Y b_1.Y)) (fop .mul .f32 a_0.Z b_1.Z))

theorem t_impl_InnerOf (a_0 : GVector) (b_1 : GVector)   : Fn prog 106 [.agg [.f .f32 a_0.X, .f .f32 a_0.Y, .f .f32 a_0.Z], .agg [.f .f32 b_1.X, .f .f32 b_1.Y, .f .f32 b_1.Z]] (.f .f32 (v_impl_InnerOf a_0 b_1)) [] := by
 refine fnS E0Ok hMixed (c := bodyOf f106) [] (.f .f32 (fop .add .f32 (fop .add .f32 (fop .mul .f32 a_0.X b_1.X) (fop .mul .f32 a_0.Y b_1.Y)) (fop .mul .f32 a_0.Z b_1.Z))) [] func106 (sK [] sN) rfl (by kernel_rfl) (by kernel_rfl) rfl ?_ ?_
 · rfl
 · rfl

def v_impl_RootNumber (x_0 : Nat) : Nat := (fcv .f64 .f32 (v_math_Sqrt (fcv .f32 .f64 x_0)))

theorem t_impl_RootNumber (x_0 : Nat)   : Fn prog 105 [.f .f32 x_0] (.f .f32 (v_impl_RootNumber x_0)) [] := by
 have y0 : fcvOk .f64 .f32 (v_math_Sqrt (fcv .f32 .f64 x_0)) = true := (narrow_sqrt _)
 refine fnS E0Ok hMixed (c := bodyOf f105) [] (.f .f32 (fcv .f64 .f32 (v_math_Sqrt (fcv .f32 .f64 x_0)))) [] func105 (sC (widenOk x_0) <| sF (t_math_Sqrt (fcv .f32 .f64 x_0)) <| sC y0 <| sK [] sN) rfl (by kernel_rfl) (by kernel_rfl) rfl ?_ ?_
 · rfl
 · rfl

def v_impl_LongOf (v_0 : GVector) : Nat := (v_impl_RootNumber (v_impl_InnerOf v_0 v_0))

theorem t_impl_LongOf (v_0 : GVector)   : Fn prog 89 [.agg [.f .f32 v_0.X, .f .f32 v_0.Y, .f .f32 v_0.Z]] (.f .f32 (v_impl_LongOf v_0)) [] := by
 refine fnS E0Ok hMixed (c := bodyOf f89) [] (.f .f32 (v_impl_RootNumber (v_impl_InnerOf v_0 v_0))) [] func89 (sF (t_impl_InnerOf v_0 v_0) <| sF (t_impl_RootNumber (v_impl_InnerOf v_0 v_0)) <| sK [] sN) rfl (by kernel_rfl) (by kernel_rfl) rfl ?_ ?_
 · rfl
 · rfl

def v_impl_CrossOf (a_0 : GVector) (b_1 : GVector) : GVector := (⟨(fop .sub .f32 (fop .mul .f32 a_0.Y b_1.Z) (fop .mul .f32 a_0.Z b_1.Y)), (fop .sub .f32 (fop .mul .f32 a_0.Z b_1.X) (fop .mul .f32 a_0.X b_1.Z)), (fop .sub .f32 (fop .mul .f32 a_0.X b_1.Y) (fop .mul .f32 a_0.Y b_1.X))⟩ : GVector)

theorem t_impl_CrossOf (a_0 : GVector) (b_1 : GVector)   : Fn prog 90 [.agg [.f .f32 a_0.X, .f .f32 a_0.Y, .f .f32 a_0.Z], .agg [.f .f32 b_1.X, .f .f32 b_1.Y, .f .f32 b_1.Z]] (.agg [.f .f32 ((v_impl_CrossOf a_0 b_1).X), .f .f32 ((v_impl_CrossOf a_0 b_1).Y), .f .f32 ((v_impl_CrossOf a_0 b_1).Z)]) [] := by
 refine fnS E0Ok hMixed (c := bodyOf f90) [] (.agg [.f .f32 (fop .sub .f32 (fop .mul .f32 a_0.Y b_1.Z) (fop .mul .f32 a_0.Z b_1.Y)), .f .f32 (fop .sub .f32 (fop .mul .f32 a_0.Z b_1.X) (fop .mul .f32 a_0.X b_1.Z)), .f .f32 (fop .sub .f32 (fop .mul .f32 a_0.X b_1.Y) (fop .mul .f32 a_0.Y b_1.X))]) [] func90 (sK [] sN) rfl (by kernel_rfl) (by kernel_rfl) rfl ?_ ?_
 · rfl
 · rfl

def nd_impl_normalOf_0 (m_0 : GMesh) (t_1 : (List Int)) : GVector := (v_impl_CrossOf (v_impl_LessVectors (m_0.Places.getD (t_1.getD 1 default).toNat default) (m_0.Places.getD (t_1.getD 0 default).toNat default)) (v_impl_LessVectors (m_0.Places.getD (t_1.getD 2 default).toNat default) (m_0.Places.getD (t_1.getD 0 default).toNat default)))

def v_impl_normalOf (m_0 : GMesh) (t_1 : (List Int)) : GVector := (nd_impl_normalOf_0 m_0 t_1)

theorem t_impl_normalOf (m_0 : GMesh) (t_1 : (List Int)) (hp0 : m_0.Places.length ≤ 1073741824) (hp1 : m_0.Triangles.length ≤ 1073741824) (hp2 : ∀ t ∈ m_0.Triangles, t.length ≤ 1073741824) (hp3 : t_1.length ≤ 1073741824) (hp4 : t_1.length = 3 ∧ ∀ x ∈ t_1, 0 ≤ x ∧ x < (m_0.Places.length : Int))  : Fn prog 88 [.agg [.sl (m_0.Places.map GVector.cells), .sl (m_0.Triangles.map (cL (cI .i64)))], .sl (t_1.map (cI .i64))] (.agg [.f .f32 ((v_impl_normalOf m_0 t_1).X), .f .f32 ((v_impl_normalOf m_0 t_1).Y), .f .f32 ((v_impl_normalOf m_0 t_1).Z)]) [] := by
 have y0 : (0 : Int) ≤ 0 := (by first | assumption | omega)
 have y1 : 0 < (t_1.length : Int) := (by first | assumption | omega)
 have y2 : (0 : Int) ≤ (t_1.getD 0 default) := (by first | assumption | omega | (have q := Okt.at hp4; omega) | (simp_all <;> omega))
 have y3 : (t_1.getD 0 default) < (m_0.Places.length : Int) := (by first | assumption | omega | (have q := Okt.at hp4; omega) | (simp_all <;> omega))
 have y4 : (0 : Int) ≤ 1 := (by first | assumption | omega)
 have y5 : 1 < (t_1.length : Int) := (by first | assumption | omega)
 have y6 : (0 : Int) ≤ (t_1.getD 1 default) := (by first | assumption | omega | (have q := Okt.at hp4; omega) | (simp_all <;> omega))
 have y7 : (t_1.getD 1 default) < (m_0.Places.length : Int) := (by first | assumption | omega | (have q := Okt.at hp4; omega) | (simp_all <;> omega))
 have y8 : (0 : Int) ≤ 2 := (by first | assumption | omega)
 have y9 : 2 < (t_1.length : Int) := (by first | assumption | omega)
 have y10 : (0 : Int) ≤ (t_1.getD 2 default) := (by first | assumption | omega | (have q := Okt.at hp4; omega) | (simp_all <;> omega))
 have y11 : (t_1.getD 2 default) < (m_0.Places.length : Int) := (by first | assumption | omega | (have q := Okt.at hp4; omega) | (simp_all <;> omega))
 refine fnS E0Ok hMixed (c := bodyOf f88) [] (.agg [.f .f32 ((nd_impl_normalOf_0 m_0 t_1).X), .f .f32 ((nd_impl_normalOf_0 m_0 t_1).Y), .f .f32 ((nd_impl_normalOf_0 m_0 t_1).Z)]) [] func88 (sK [8, 8] <| sG (cI .i64) t_1 0 y0 y1 <| sG GVector.cells m_0.Places (t_1.getD 0 default) y2 y3 <| sK [17, 17] <| sG (cI .i64) t_1 1 y4 y5 <| sG GVector.cells m_0.Places (t_1.getD 1 default) y6 y7 <| sF (t_impl_LessVectors (m_0.Places.getD (t_1.getD 1 default).toNat default) (m_0.Places.getD (t_1.getD 0 default).toNat default)) <| sG (cI .i64) t_1 2 y8 y9 <| sG GVector.cells m_0.Places (t_1.getD 2 default) y10 y11 <| sF (t_impl_LessVectors (m_0.Places.getD (t_1.getD 2 default).toNat default) (m_0.Places.getD (t_1.getD 0 default).toNat default)) <| sF (t_impl_CrossOf (v_impl_LessVectors (m_0.Places.getD (t_1.getD 1 default).toNat default) (m_0.Places.getD (t_1.getD 0 default).toNat default)) (v_impl_LessVectors (m_0.Places.getD (t_1.getD 2 default).toNat default) (m_0.Places.getD (t_1.getD 0 default).toNat default))) <| sK [] sN) rfl (by kernel_rfl) (by kernel_rfl) rfl ?_ ?_
 · rfl
 · rfl

def v_impl_edgeOf (a_0 : Int) (b_1 : Int) : Gedge := (⟨(if b_1 < a_0 then b_1 else a_0), (if b_1 > a_0 then b_1 else a_0)⟩ : Gedge)

theorem t_impl_edgeOf (a_0 : Int) (b_1 : Int)   : Fn prog 115 [.i .i64 a_0, .i .i64 b_1] (.agg [.i .i64 ((v_impl_edgeOf a_0 b_1).e0), .i .i64 ((v_impl_edgeOf a_0 b_1).e1)]) [] := by
 refine fnS E0Ok hMixed (c := bodyOf f115) [] (.agg [.i .i64 (if b_1 < a_0 then b_1 else a_0), .i .i64 (if b_1 > a_0 then b_1 else a_0)]) [] func115 (sC (show (if false = true then (if b_1 > a_0 then b_1 else a_0) else (if b_1 < a_0 then b_1 else a_0)) = (if b_1 < a_0 then b_1 else a_0) from (by simp)) <| sA (.num (if b_1 < a_0 then b_1 else a_0)) <| sC (show (if true = true then (if b_1 > a_0 then b_1 else a_0) else (if b_1 < a_0 then b_1 else a_0)) = (if b_1 > a_0 then b_1 else a_0) from (by simp)) <| sA (.num (if b_1 > a_0 then b_1 else a_0)) <| sK [] sN) rfl (by kernel_rfl) (by kernel_rfl) rfl ?_ ?_
 · rfl
 · rfl

theorem edgeOf_eq (a b : Int) : v_impl_edgeOf a b = mkE a b := by
  unfold v_impl_edgeOf mkE
  by_cases h : a ≤ b
  · rw [if_pos h, if_neg (by omega)]
    by_cases h2 : b > a
    · rw [if_pos h2]
    · rw [if_neg h2, show a = b from by omega]
  · rw [if_neg h, if_pos (by omega), if_neg (by omega)]

def v_cmp_isNaN_int64_ (x_0 : Int) : Bool := (x_0 != x_0)

theorem t_cmp_isNaN_int64_ (x_0 : Int)   : Fn prog 138 [.i .i64 x_0] (.b (v_cmp_isNaN_int64_ x_0)) [] := by
 refine fnS E0Ok hMixed (c := bodyOf f138) [] (.b (x_0 != x_0)) [] func138 (sK [] sN) rfl (by kernel_rfl) (by kernel_rfl) rfl ?_ ?_
 · rfl
 · rfl

def v_cmp_Compare_int64_ (x_0 : Int) (y_1 : Int) : Int := (cond (v_cmp_isNaN_int64_ x_0)
  (cond (v_cmp_isNaN_int64_ y_1)
    0
    (-1))
  (cond (v_cmp_isNaN_int64_ y_1)
    1
    (cond (decide (x_0 < y_1))
      (-1)
      (cond (decide (x_0 > y_1))
        1
        0))))

theorem t_cmp_Compare_int64_ (x_0 : Int) (y_1 : Int)   : Fn prog 132 [.i .i64 x_0, .i .i64 y_1] (.i .i64 (v_cmp_Compare_int64_ x_0 y_1)) [] := by
 have p {a C} (s : Scr a C) := sF (t_cmp_isNaN_int64_ x_0) <| sF (t_cmp_isNaN_int64_ y_1) <| s
 cases h0 : (v_cmp_isNaN_int64_ x_0) with
 | true =>
  have q {a C} (s : Scr a C) := p (sB h0 <| s)
  clear p
  cases h1 : (v_cmp_isNaN_int64_ y_1) with
  | true =>
   refine fnS E0Ok hMixed (c := bodyOf f132) [] (.i .i64 0) [] func132 (q (sB h1 <| sK [] sN)) rfl (by kernel_rfl) (by kernel_rfl) rfl ?_ ?_
   · simp only [v_cmp_Compare_int64_, h0, h1, cond_true]
   · rfl
  | false =>
   refine fnS E0Ok hMixed (c := bodyOf f132) [] (.i .i64 (-1)) [] func132 (q (sB h1 <| sK [] sN)) rfl (by kernel_rfl) (by kernel_rfl) rfl ?_ ?_
   · simp only [v_cmp_Compare_int64_, h0, h1, cond_true, cond_false]
   · rfl
 | false =>
  have q {a C} (s : Scr a C) := p (sB h0 <| s)
  clear p
  cases h1 : (v_cmp_isNaN_int64_ y_1) with
  | true =>
   refine fnS E0Ok hMixed (c := bodyOf f132) [] (.i .i64 1) [] func132 (q (sB h1 <| sK [] sN)) rfl (by kernel_rfl) (by kernel_rfl) rfl ?_ ?_
   · simp only [v_cmp_Compare_int64_, h0, h1, cond_true, cond_false]
   · rfl
  | false =>
   have p {a C} (s : Scr a C) := q (sB h1 <| s)
   clear q
   cases h2 : (decide (x_0 < y_1)) with
   | true =>
    have gh2 := of_decide_eq_true h2
    refine fnS E0Ok hMixed (c := bodyOf f132) [] (.i .i64 (-1)) [] func132 (p (sB h2 <| sK [] sN)) rfl (by kernel_rfl) (by kernel_rfl) rfl ?_ ?_
    · simp only [v_cmp_Compare_int64_, h0, h1, h2, cond_true, cond_false]
    · rfl
   | false =>
    have gh2 := of_decide_eq_false h2
    have q {a C} (s : Scr a C) := p (sB h2 <| s)
    clear p
    cases h3 : (decide (x_0 > y_1)) with
    | true =>
     have gh3 := of_decide_eq_true h3
     refine fnS E0Ok hMixed (c := bodyOf f132) [] (.i .i64 1) [] func132 (q (sB h3 <| sK [] sN)) rfl (by kernel_rfl) (by kernel_rfl) rfl ?_ ?_
     · simp only [v_cmp_Compare_int64_, h0, h1, h2, h3, cond_true, cond_false]
     · rfl
    | false =>
     have gh3 := of_decide_eq_false h3
     refine fnS E0Ok hMixed (c := bodyOf f132) [] (.i .i64 0) [] func132 (q (sB h3 <| sK [] sN)) rfl (by kernel_rfl) (by kernel_rfl) rfl ?_ ?_
     · simp only [v_cmp_Compare_int64_, h0, h1, h2, h3, cond_false]
     · rfl

def lo_slices_Compare___int64_int64__1 (s1_0 : (List Int)) (s2_1 : (List Int)) : Nat → Int → (Int) ⊕ (Unit)
  | 0, _ => .inl default
  | k + 1, x_l0 => (cond (decide (x_l0 < (s1_0.length : Int)))
    (cond (decide (x_l0 ≥ (s2_1.length : Int)))
      (.inl 1)
      (cond ((v_cmp_Compare_int64_ (s1_0.getD x_l0.toNat default) (s2_1.getD x_l0.toNat default)) != 0)
        (.inl (v_cmp_Compare_int64_ (s1_0.getD x_l0.toNat default) (s2_1.getD x_l0.toNat default)))
        (lo_slices_Compare___int64_int64__1 s1_0 s2_1 k (x_l0 + 1))))
    (.inr ()))

def ls_slices_Compare___int64_int64__1 (s1_0 : (List Int)) (s2_1 : (List Int)) : (Int) ⊕ (Unit) → Ex × St
  | .inl r => (.ret, ⟨[.any, .any, .any, .any, .i .i64 r, .any, .any, .any, .any, .any, .any, .any, .any, .any, .any, .any, .any, .any, .any, .any, .any, .any, .any, .any, .any, .any, .any, .any, .any, .any, .any, .any, .any, .any, .any, .any], []⟩)
  | .inr r => ((.exit 0), ⟨[.sl (s1_0.map (cI .i64)), .sl (s2_1.map (cI .i64)), .any, .any, .any, .any, .any, .any, .any, .sl (s1_0.map (cI .i64)), .any, .any, .any, .any, .any, .any, .any, .any, .any, .any, .any, .any, .any, .any, .any, .any, .any, .any, .any, .any, .any, .any, .any, .any, .any, .any], []⟩)

def hd_slices_Compare___int64_int64__1 (s1_0 : (List Int)) (s2_1 : (List Int)) (x_l0 : Int) : St := ⟨[.sl (s1_0.map (cI .i64)), .sl (s2_1.map (cI .i64)), .any, .any, .any, .any, .any, .any, .any, .sl (s1_0.map (cI .i64)), .i .i64 (s1_0.length : Int), .i .i64 x_l0, .any, .any, .any, .any, .any, .any, .any, .any, .any, .any, .any, .any, .any, .any, .any, .any, .any, .any, .any, .any, .any, .any, .any, .any], []⟩

def mk_slices_Compare___int64_int64__1_0 : List Bool := [true, true, false, false, false, false, false, false, false, true, true, true, false, false, false, false, false, false, false, false, false, false, false, false, false, false, false, false, false, false, false, false, false, false, false, false]

def mk_slices_Compare___int64_int64__1_1 : List Bool := [false, false, false, false, true, false, false, false, false, false, false, false, false, false, false, false, false, false, false, false, false, false, false, false, false, false, false, false, false, false, false, false, false, false, false, false]

def mk_slices_Compare___int64_int64__1_2 : List Bool := [true, true, false, false, false, false, false, false, false, true, false, false, false, false, false, false, false, false, false, false, false, false, false, false, false, false, false, false, false, false, false, false, false, false, false, false]

theorem lp_slices_Compare___int64_int64__1 (s1_0 : (List Int)) (s2_1 : (List Int)) (hp0 : s1_0.length ≤ 1073741824) (hp1 : s2_1.length ≤ 1073741824) : ∀ (k : Nat) (x_l0 : Int) (hv_slices_Compare___int64_int64__1_0 : 0 ≤ x_l0) (hk : ((s1_0.length : Int) - x_l0).toNat < k), Lp prog 0 (sub (bodyOf f121) [1, 0, 1, 0, 0]) (hd_slices_Compare___int64_int64__1 s1_0 s2_1 x_l0) (ls_slices_Compare___int64_int64__1 s1_0 s2_1 (lo_slices_Compare___int64_int64__1 s1_0 s2_1 k x_l0)).1 (ls_slices_Compare___int64_int64__1 s1_0 s2_1 (lo_slices_Compare___int64_int64__1 s1_0 s2_1 k x_l0)).2 := by
 intro k
 induction k with
 | zero => intro x_l0 hv_slices_Compare___int64_int64__1_0 hk; exact absurd hk (Nat.not_lt_zero _)
 | succ k ih =>
  intro x_l0 hv_slices_Compare___int64_int64__1_0 hk
  cases h_0 : (decide (x_l0 < (s1_0.length : Int))) with
  | true =>
   have gh_0 := of_decide_eq_true h_0
   have y_0 : (0 : Int) ≤ x_l0 := (by first | assumption | omega)
   have y_1 : x_l0 < (s1_0.length : Int) := (by first | assumption | omega)
   have p {a C} (s : Scr a C) := sB h_0 <| sG (cI .i64) s1_0 x_l0 y_0 y_1 <| sZ (cI .i64) s2_1 <| s
   cases h_1 : (decide (x_l0 ≥ (s2_1.length : Int))) with
   | true =>
    have gh_1 := of_decide_eq_true h_1
    have e : lo_slices_Compare___int64_int64__1 s1_0 s2_1 (k + 1) x_l0 = (.inl 1) := by simp only [lo_slices_Compare___int64_int64__1, h_0, h_1, cond_true]
    rw [e]
    exact outR (e := .ret) E0Ok hMixed [] mk_slices_Compare___int64_int64__1_1 [] (p (sB h_1 <| sN)) (by kernel_rfl) (by intro h; cases h)
   | false =>
    have gh_1 := of_decide_eq_false h_1
    have y_2 : x_l0 < (s2_1.length : Int) := by clear p; exact (by first | assumption | omega)
    have q {a C} (s : Scr a C) := p (sB h_1 <| sG (cI .i64) s2_1 x_l0 y_0 y_2 <| sF (t_cmp_Compare_int64_ (s1_0.getD x_l0.toNat default) (s2_1.getD x_l0.toNat default)) <| s)
    clear p
    cases h_2 : ((v_cmp_Compare_int64_ (s1_0.getD x_l0.toNat default) (s2_1.getD x_l0.toNat default)) != 0) with
    | true =>
     have gh_2 := bne_iff_ne.1 h_2
     have e : lo_slices_Compare___int64_int64__1 s1_0 s2_1 (k + 1) x_l0 = (.inl (v_cmp_Compare_int64_ (s1_0.getD x_l0.toNat default) (s2_1.getD x_l0.toNat default))) := by simp only [lo_slices_Compare___int64_int64__1, h_0, h_1, h_2, cond_true, cond_false]
     rw [e]
     exact outR (e := .ret) E0Ok hMixed [] mk_slices_Compare___int64_int64__1_1 [] (q (sB h_2 <| sN)) (by kernel_rfl) (by intro h; cases h)
    | false =>
     have gh_2 := bne_eq_false_iff_eq.1 h_2
     have y_3 : (-9223372036854775808 : Int) ≤ (x_l0 + 1) := by clear q; exact (by first | assumption | omega)
     have y_4 : (x_l0 + 1) ≤ (9223372036854775807 : Int) := by clear q; exact (by first | assumption | omega)
     have e : lo_slices_Compare___int64_int64__1 s1_0 s2_1 (k + 1) x_l0 = (lo_slices_Compare___int64_int64__1 s1_0 s2_1 k (x_l0 + 1)) := by simp only [lo_slices_Compare___int64_int64__1, h_0, h_1, h_2, cond_true, cond_false]
     rw [e]
     exact nextR E0Ok hMixed [] mk_slices_Compare___int64_int64__1_0 [] (ih (x_l0 + 1) (show 0 ≤ (x_l0 + 1) from (by first | assumption | omega)) (by first | assumption | omega)) (q (sB h_2 <| sI (x_l0 + 1) y_3 y_4 <| sN)) (by kernel_rfl)
  | false =>
   have gh_0 := of_decide_eq_false h_0
   have e : lo_slices_Compare___int64_int64__1 s1_0 s2_1 (k + 1) x_l0 = (.inr ()) := by simp only [lo_slices_Compare___int64_int64__1, h_0, cond_false]
   rw [e]
   exact outR (e := (.exit 0)) E0Ok hMixed [] mk_slices_Compare___int64_int64__1_2 [] (sB h_0 <| sN) (by kernel_rfl) (by intro h; cases h)

def lr_slices_Compare___int64_int64__1_0 (s1_0 : (List Int)) (s2_1 : (List Int)) : (Int) ⊕ (Unit) := (lo_slices_Compare___int64_int64__1 s1_0 s2_1 (((s1_0.length : Int) - 0).toNat + 1) 0)

def v_slices_Compare___int64_int64_ (s1_0 : (List Int)) (s2_1 : (List Int)) : Int := (match (lr_slices_Compare___int64_int64__1_0 s1_0 s2_1) with
  | .inl r1 => r1
  | .inr r1 => (cond (decide ((s1_0.length : Int) < (s2_1.length : Int)))
    (-1)
    0))

theorem t_slices_Compare___int64_int64_ (s1_0 : (List Int)) (s2_1 : (List Int)) (hp0 : s1_0.length ≤ 1073741824) (hp1 : s2_1.length ≤ 1073741824)  : Fn prog 121 [.sl (s1_0.map (cI .i64)), .sl (s2_1.map (cI .i64))] (.i .i64 (v_slices_Compare___int64_int64_ s1_0 s2_1)) [] := by
 have p {a C} (s : Scr a C) := sZ (cI .i64) s1_0 <| s
 cases h0 : (lr_slices_Compare___int64_int64__1_0 s1_0 s2_1) with
 | inl r1 =>
  refine fnS E0Ok hMixed (c := bodyOf f121) [] (.i .i64 r1) [] func121 (p (sL mk_slices_Compare___int64_int64__1_0 0 (lp_val (ls_slices_Compare___int64_int64__1 s1_0 s2_1) (x := (lr_slices_Compare___int64_int64__1_0 s1_0 s2_1)) (lp_slices_Compare___int64_int64__1 s1_0 s2_1 hp0 hp1 (((s1_0.length : Int) - 0).toNat + 1) 0 (show 0 ≤ 0 from (by first | assumption | omega)) (Nat.lt_succ_self _)) h0) <| sK [] sN)) rfl (by kernel_rfl) (by kernel_rfl) rfl ?_ ?_
  · simp only [v_slices_Compare___int64_int64_, h0]
  · rfl
 | inr r1 =>
  have q {a C} (s : Scr a C) := p (sL mk_slices_Compare___int64_int64__1_0 0 (lp_val (ls_slices_Compare___int64_int64__1 s1_0 s2_1) (x := (lr_slices_Compare___int64_int64__1_0 s1_0 s2_1)) (lp_slices_Compare___int64_int64__1 s1_0 s2_1 hp0 hp1 (((s1_0.length : Int) - 0).toNat + 1) 0 (show 0 ≤ 0 from (by first | assumption | omega)) (Nat.lt_succ_self _)) h0) <| sZ (cI .i64) s1_0 <| sZ (cI .i64) s2_1 <| s)
  clear p
  cases h1 : (decide ((s1_0.length : Int) < (s2_1.length : Int))) with
  | true =>
   have gh1 := of_decide_eq_true h1
   refine fnS E0Ok hMixed (c := bodyOf f121) [] (.i .i64 (-1)) [] func121 (q (sB h1 <| sK [] sN)) rfl (by kernel_rfl) (by kernel_rfl) rfl ?_ ?_
   · simp only [v_slices_Compare___int64_int64_, h0, h1, cond_true]
   · rfl
  | false =>
   have gh1 := of_decide_eq_false h1
   refine fnS E0Ok hMixed (c := bodyOf f121) [] (.i .i64 0) [] func121 (q (sB h1 <| sK [] sN)) rfl (by kernel_rfl) (by kernel_rfl) rfl ?_ ?_
   · simp only [v_slices_Compare___int64_int64_, h0, h1, cond_false]
   · rfl

def v_impl_compareEdges (a_0 : Gedge) (b_1 : Gedge) : Int := (v_slices_Compare___int64_int64_ ([a_0.e0, a_0.e1]) ([b_1.e0, b_1.e1]))

theorem t_impl_compareEdges (a_0 : Gedge) (b_1 : Gedge)   : Fn prog 117 [.agg [.i .i64 a_0.e0, .i .i64 a_0.e1], .agg [.i .i64 b_1.e0, .i .i64 b_1.e1]] (.i .i64 (v_impl_compareEdges a_0 b_1)) [] := by
 have y0 : ([a_0.e0, a_0.e1]).length ≤ 1073741824 := (by first | assumption | omega | (simp_all <;> omega))
 have y1 : ([b_1.e0, b_1.e1]).length ≤ 1073741824 := (by first | assumption | omega)
 refine fnS E0Ok hMixed (c := bodyOf f117) [] (.i .i64 (v_slices_Compare___int64_int64_ ([a_0.e0, a_0.e1]) ([b_1.e0, b_1.e1]))) [] func117 (sK [2, 2] <| sF (t_slices_Compare___int64_int64_ ([a_0.e0, a_0.e1]) ([b_1.e0, b_1.e1]) y0 y1) <| sK [] sN) rfl (by kernel_rfl) (by kernel_rfl) rfl ?_ ?_
 · rfl
 · rfl

def nd_impl_trianglesByEdge_0 (m_0 : GMesh) (x_l0 : Int) (x_l0_1 : Int) : Gedge := (v_impl_edgeOf ((m_0.Triangles.getD x_l0.toNat default).getD x_l0_1.toNat default) ((m_0.Triangles.getD x_l0.toNat default).getD (Int.tmod (x_l0_1 + 1) 3).toNat default))

def lo_impl_trianglesByEdge_2 (m_0 : GMesh) (x_l0 : Int) (r1_l1 : (List (Gedge × List Int))) (r2_l2 : (List Gedge)) : Nat → Int → (List (Gedge × List Int)) → (List Gedge) → (List (Gedge × List Int)) × (List Gedge)
  | 0, _, _, _ => default
  | k + 1, x_l0_1, r1_l1_1, r2_l2_1 => (cond (decide (x_l0_1 < 3))
    (cond (mhas r1_l1_1 (nd_impl_trianglesByEdge_0 m_0 x_l0 x_l0_1))
      (cond (((r1_l1_1.getD (midx r1_l1_1 (nd_impl_trianglesByEdge_0 m_0 x_l0 x_l0_1)) default).2.length : Int) == 0)
        (lo_impl_trianglesByEdge_2 m_0 x_l0 r1_l1 r2_l2 k (x_l0_1 + 1) (mput r1_l1_1 (midx r1_l1_1 (nd_impl_trianglesByEdge_0 m_0 x_l0 x_l0_1)) ((r1_l1_1.getD (midx r1_l1_1 (nd_impl_trianglesByEdge_0 m_0 x_l0 x_l0_1)) default).2 ++ [x_l0])) (r2_l2_1 ++ [(nd_impl_trianglesByEdge_0 m_0 x_l0 x_l0_1)]))
        (lo_impl_trianglesByEdge_2 m_0 x_l0 r1_l1 r2_l2 k (x_l0_1 + 1) (mput r1_l1_1 (midx r1_l1_1 (nd_impl_trianglesByEdge_0 m_0 x_l0 x_l0_1)) ((r1_l1_1.getD (midx r1_l1_1 (nd_impl_trianglesByEdge_0 m_0 x_l0 x_l0_1)) default).2 ++ [x_l0])) r2_l2_1))
      (lo_impl_trianglesByEdge_2 m_0 x_l0 r1_l1 r2_l2 k (x_l0_1 + 1) (r1_l1_1 ++ [((nd_impl_trianglesByEdge_0 m_0 x_l0 x_l0_1), [x_l0])]) (r2_l2_1 ++ [(nd_impl_trianglesByEdge_0 m_0 x_l0 x_l0_1)])))
    (r1_l1_1, r2_l2_1))

def ls_impl_trianglesByEdge_2 (m_0 : GMesh) (x_l0 : Int) (r1_l1 : (List (Gedge × List Int))) (r2_l2 : (List Gedge)) (r : (List (Gedge × List Int)) × (List Gedge)) : Ex × St := ((.exit 2), ⟨[.agg [.sl (m_0.Places.map GVector.cells), .sl (m_0.Triangles.map (cL (cI .i64)))], .ptr 0 0 0, .any, .nils, .mp 1, .own 2, .any, .any, .any, .any, .mp 1, .any, .ptr 0 0 1, .sl (m_0.Triangles.map (cL (cI .i64))), .i .i64 (m_0.Triangles.length : Int), .i .i64 x_l0, .b (decide (x_l0 < (m_0.Triangles.length : Int))), .i .i64 x_l0, .ref [.sl ((m_0.Triangles.getD x_l0.toNat default).map (cI .i64))] 0, .sl ((m_0.Triangles.getD x_l0.toNat default).map (cI .i64)), .any, .any, .any, .any, .any, .any, .any, .any, .any, .any, .any, .any, .any, .any, .any, .any, .any, .any, .any, .any, .any, .any, .any, .any, .any, .any, .any, .any, .any, .any, .any, .any, .any, .any, .any, .any, .any], [.box 38 [.sl (m_0.Places.map GVector.cells), .sl (m_0.Triangles.map (cL (cI .i64)))], .mapN 2 (mapC Gedge.pr (cI .i64) r.1) none, .vec 136 2 (r.2.map Gedge.cells) false]⟩)

def hd_impl_trianglesByEdge_2 (m_0 : GMesh) (x_l0 : Int) (r1_l1 : (List (Gedge × List Int))) (r2_l2 : (List Gedge)) (x_l0_1 : Int) (r1_l1_1 : (List (Gedge × List Int))) (r2_l2_1 : (List Gedge)) : St := ⟨[.agg [.sl (m_0.Places.map GVector.cells), .sl (m_0.Triangles.map (cL (cI .i64)))], .ptr 0 0 0, .any, .nils, .mp 1, .own 2, .i .i64 x_l0, .sl ((m_0.Triangles.getD x_l0.toNat default).map (cI .i64)), .any, .any, .mp 1, .any, .ptr 0 0 1, .sl (m_0.Triangles.map (cL (cI .i64))), .i .i64 (m_0.Triangles.length : Int), .i .i64 x_l0, .b (decide (x_l0 < (m_0.Triangles.length : Int))), .i .i64 x_l0, .ref [.sl ((m_0.Triangles.getD x_l0.toNat default).map (cI .i64))] 0, .sl ((m_0.Triangles.getD x_l0.toNat default).map (cI .i64)), .i .i64 x_l0_1, .any, .any, .any, .any, .any, .any, .any, .any, .any, .any, .any, .any, .any, .any, .any, .any, .any, .any, .any, .any, .any, .any, .any, .any, .any, .any, .any, .any, .any, .any, .any, .any, .any, .any, .any, .any], [.box 38 [.sl (m_0.Places.map GVector.cells), .sl (m_0.Triangles.map (cL (cI .i64)))], .mapN 2 (mapC Gedge.pr (cI .i64) r1_l1_1) none, .vec 136 2 (r2_l2_1.map Gedge.cells) false]⟩

def mk_impl_trianglesByEdge_2_0 : List Bool := [true, true, false, true, true, true, true, true, false, false, true, false, true, true, true, true, true, true, true, true, true, false, false, false, false, false, false, false, false, false, false, false, false, false, false, false, false, false, false, false, false, false, false, false, false, false, false, false, false, false, false, false, false, false, false, false, false]

def mk_impl_trianglesByEdge_2_1 : List Bool := [true, true, false, true, true, true, false, false, false, false, true, false, true, true, true, true, true, true, true, true, false, false, false, false, false, false, false, false, false, false, false, false, false, false, false, false, false, false, false, false, false, false, false, false, false, false, false, false, false, false, false, false, false, false, false, false, false]

theorem lp_impl_trianglesByEdge_2 (m_0 : GMesh) (x_l0 : Int) (r1_l1 : (List (Gedge × List Int))) (r2_l2 : (List Gedge)) (hp0 : m_0.Places.length ≤ 1073741824) (hp1 : m_0.Triangles.length ≤ 1073741824) (hp2 : ∀ t ∈ m_0.Triangles, t.length ≤ 1073741824) (hp3 : OkE m_0.Places.length m_0.Triangles) (hv_impl_trianglesByEdge_1_0 : 0 ≤ x_l0) (hv_impl_trianglesByEdge_1_1 : (r2_l2.length : Int) ≤ 3 * x_l0) (hv_impl_trianglesByEdge_1_2 : ∀ y ∈ r1_l1, (y.2.length : Int) ≤ 3 * x_l0) (hf_impl_trianglesByEdge_2_0 : (decide (x_l0 < (m_0.Triangles.length : Int))) = true) : ∀ (k : Nat) (x_l0_1 : Int) (r1_l1_1 : (List (Gedge × List Int))) (r2_l2_1 : (List Gedge)) (hv_impl_trianglesByEdge_2_0 : 0 ≤ x_l0_1) (hv_impl_trianglesByEdge_2_1 : (r2_l2_1.length : Int) ≤ (r2_l2.length : Int) + x_l0_1) (hv_impl_trianglesByEdge_2_2 : ∀ y ∈ r1_l1_1, (y.2.length : Int) ≤ 3 * x_l0 + x_l0_1) (hk : ((3 : Int) - x_l0_1).toNat < k), Lp prog 0 (sub (bodyOf f107) [1, 1, 0, 1, 0, 0, 1, 1, 0, 0, 1, 1, 0, 0]) (hd_impl_trianglesByEdge_2 m_0 x_l0 r1_l1 r2_l2 x_l0_1 r1_l1_1 r2_l2_1) (ls_impl_trianglesByEdge_2 m_0 x_l0 r1_l1 r2_l2 (lo_impl_trianglesByEdge_2 m_0 x_l0 r1_l1 r2_l2 k x_l0_1 r1_l1_1 r2_l2_1)).1 (ls_impl_trianglesByEdge_2 m_0 x_l0 r1_l1 r2_l2 (lo_impl_trianglesByEdge_2 m_0 x_l0 r1_l1 r2_l2 k x_l0_1 r1_l1_1 r2_l2_1)).2 := by
 intro k
 induction k with
 | zero => intro x_l0_1 r1_l1_1 r2_l2_1 hv_impl_trianglesByEdge_2_0 hv_impl_trianglesByEdge_2_1 hv_impl_trianglesByEdge_2_2 hk; exact absurd hk (Nat.not_lt_zero _)
 | succ k ih =>
  intro x_l0_1 r1_l1_1 r2_l2_1 hv_impl_trianglesByEdge_2_0 hv_impl_trianglesByEdge_2_1 hv_impl_trianglesByEdge_2_2 hk
  cases h__0 : (decide (x_l0_1 < 3)) with
  | true =>
   have gh__0 := of_decide_eq_true h__0
   have y__0 : (0 : Int) ≤ x_l0_1 := (by first | assumption | omega)
   have y__1 : x_l0_1 < ((m_0.Triangles.getD x_l0.toNat default).length : Int) := (by first | assumption | omega | (first | (have g5 := of_decide_eq_true hf_impl_trianglesByEdge_2_0; have q := OkE.at hp3 hv_impl_trianglesByEdge_1_0 g5 hv_impl_trianglesByEdge_2_0 (of_decide_eq_true (by assumption)); first | omega | (simp only [List.length_append, List.length_cons, List.length_nil]; omega) | (have q3 := mlen_leI (N := 3 * x_l0 + x_l0_1) (by omega) (by assumption) (midx r1_l1_1 (nd_impl_trianglesByEdge_0 m_0 x_l0 x_l0_1)); simp only [List.length_cons, List.length_nil]; omega)) | (have := hp3.2.1; omega) | (have q := loTE_len m_0 hp3; omega)) | (simp_all <;> omega))
   have y__2 : (-9223372036854775808 : Int) ≤ (x_l0_1 + 1) := (by first | assumption | omega)
   have y__3 : (x_l0_1 + 1) ≤ (9223372036854775807 : Int) := (by first | assumption | omega)
   have y__4 : (0 : Int) ≤ (Int.tmod (x_l0_1 + 1) 3) := (by first | assumption | omega | (first | (have g5 := of_decide_eq_true hf_impl_trianglesByEdge_2_0; have q := OkE.at hp3 hv_impl_trianglesByEdge_1_0 g5 hv_impl_trianglesByEdge_2_0 (of_decide_eq_true (by assumption)); first | omega | (simp only [List.length_append, List.length_cons, List.length_nil]; omega) | (have q3 := mlen_leI (N := 3 * x_l0 + x_l0_1) (by omega) (by assumption) (midx r1_l1_1 (nd_impl_trianglesByEdge_0 m_0 x_l0 x_l0_1)); simp only [List.length_cons, List.length_nil]; omega)) | (have := hp3.2.1; omega) | (have q := loTE_len m_0 hp3; omega)) | (simp_all <;> omega))
   have y__5 : (Int.tmod (x_l0_1 + 1) 3) < ((m_0.Triangles.getD x_l0.toNat default).length : Int) := (by first | assumption | omega | (first | (have g5 := of_decide_eq_true hf_impl_trianglesByEdge_2_0; have q := OkE.at hp3 hv_impl_trianglesByEdge_1_0 g5 hv_impl_trianglesByEdge_2_0 (of_decide_eq_true (by assumption)); first | omega | (simp only [List.length_append, List.length_cons, List.length_nil]; omega) | (have q3 := mlen_leI (N := 3 * x_l0 + x_l0_1) (by omega) (by assumption) (midx r1_l1_1 (nd_impl_trianglesByEdge_0 m_0 x_l0 x_l0_1)); simp only [List.length_cons, List.length_nil]; omega)) | (have := hp3.2.1; omega) | (have q := loTE_len m_0 hp3; omega)) | (simp_all <;> omega))
   have p {a C} (s : Scr a C) := sB h__0 <| sK [12, 12] <| sG (cI .i64) (m_0.Triangles.getD x_l0.toNat default) x_l0_1 y__0 y__1 <| sI (x_l0_1 + 1) y__2 y__3 <| sC (show (3 : Int) ≠ 0 from (by decide)) <| sQ (Int.tmod (x_l0_1 + 1) 3) <| sG (cI .i64) (m_0.Triangles.getD x_l0.toNat default) (Int.tmod (x_l0_1 + 1) 3) y__4 y__5 <| sF (t_impl_edgeOf ((m_0.Triangles.getD x_l0.toNat default).getD x_l0_1.toNat default) ((m_0.Triangles.getD x_l0.toNat default).getD (Int.tmod (x_l0_1 + 1) 3).toNat default)) <| s
   cases h__1 : (mhas r1_l1_1 (nd_impl_trianglesByEdge_0 m_0 x_l0 x_l0_1)) with
   | true =>
    have m__16 := midx_lt h__1
    have q {a C} (s : Scr a C) := p (sA (.keep [midx r1_l1_1 (nd_impl_trianglesByEdge_0 m_0 x_l0 x_l0_1)]) <| sC (mget_ok (ck := Gedge.pr) (cv := (cI .i64)) h__1) <| sM (mget_len (ck := Gedge.pr) (cv := (cI .i64)) (l := r1_l1_1) (j := (midx r1_l1_1 (nd_impl_trianglesByEdge_0 m_0 x_l0 x_l0_1)))) <| s)
    clear p
    cases h__2 : (((r1_l1_1.getD (midx r1_l1_1 (nd_impl_trianglesByEdge_0 m_0 x_l0 x_l0_1)) default).2.length : Int) == 0) with
    | true =>
     have gh__2 := eq_of_beq h__2
     have y__6 : r2_l2_1.length + ([(nd_impl_trianglesByEdge_0 m_0 x_l0 x_l0_1)]).length ≤ 1073741824 := by clear q; exact (by first | assumption | omega | (first | (have g5 := of_decide_eq_true hf_impl_trianglesByEdge_2_0; have q := OkE.at hp3 hv_impl_trianglesByEdge_1_0 g5 hv_impl_trianglesByEdge_2_0 (of_decide_eq_true (by assumption)); first | omega | (simp only [List.length_append, List.length_cons, List.length_nil]; omega) | (have q3 := mlen_leI (N := 3 * x_l0 + x_l0_1) (by omega) (by assumption) (midx r1_l1_1 (nd_impl_trianglesByEdge_0 m_0 x_l0 x_l0_1)); simp only [List.length_cons, List.length_nil]; omega)) | (have := hp3.2.1; omega) | (have q := loTE_len m_0 hp3; omega)) | (simp_all <;> omega))
     have y__7 : (midx r1_l1_1 (nd_impl_trianglesByEdge_0 m_0 x_l0 x_l0_1)) < r1_l1_1.length := by clear q; exact (by first | assumption | omega)
     have y__8 : ((r1_l1_1.getD (midx r1_l1_1 (nd_impl_trianglesByEdge_0 m_0 x_l0 x_l0_1)) default).2).length + ([x_l0]).length ≤ 1073741824 := by clear q; exact (by first | assumption | omega | (first | (have g5 := of_decide_eq_true hf_impl_trianglesByEdge_2_0; have q := OkE.at hp3 hv_impl_trianglesByEdge_1_0 g5 hv_impl_trianglesByEdge_2_0 (of_decide_eq_true (by assumption)); first | omega | (simp only [List.length_append, List.length_cons, List.length_nil]; omega) | (have q3 := mlen_leI (N := 3 * x_l0 + x_l0_1) (by omega) (by assumption) (midx r1_l1_1 (nd_impl_trianglesByEdge_0 m_0 x_l0 x_l0_1)); simp only [List.length_cons, List.length_nil]; omega)) | (have := hp3.2.1; omega) | (have q := loTE_len m_0 hp3; omega)) | (simp_all <;> omega))
     have e : lo_impl_trianglesByEdge_2 m_0 x_l0 r1_l1 r2_l2 (k + 1) x_l0_1 r1_l1_1 r2_l2_1 = (lo_impl_trianglesByEdge_2 m_0 x_l0 r1_l1 r2_l2 k (x_l0_1 + 1) (mput r1_l1_1 (midx r1_l1_1 (nd_impl_trianglesByEdge_0 m_0 x_l0 x_l0_1)) ((r1_l1_1.getD (midx r1_l1_1 (nd_impl_trianglesByEdge_0 m_0 x_l0 x_l0_1)) default).2 ++ [x_l0])) (r2_l2_1 ++ [(nd_impl_trianglesByEdge_0 m_0 x_l0 x_l0_1)])) := by simp only [lo_impl_trianglesByEdge_2, h__0, h__1, h__2, cond_true]
     rw [e]
     exact nextS E0Ok hMixed [] mk_impl_trianglesByEdge_2_0 [0, 1, 2] (⟨[.agg [.sl (m_0.Places.map GVector.cells), .sl (m_0.Triangles.map (cL (cI .i64)))], .ptr 0 0 0, .any, .nils, .mp 1, .own 2, .i .i64 x_l0, .sl ((m_0.Triangles.getD x_l0.toNat default).map (cI .i64)), .any, .any, .mp 1, .any, .ptr 0 0 1, .sl (m_0.Triangles.map (cL (cI .i64))), .i .i64 (m_0.Triangles.length : Int), .i .i64 x_l0, .b (decide (x_l0 < (m_0.Triangles.length : Int))), .i .i64 x_l0, .ref [.sl ((m_0.Triangles.getD x_l0.toNat default).map (cI .i64))] 0, .sl ((m_0.Triangles.getD x_l0.toNat default).map (cI .i64)), .i .i64 (x_l0_1 + 1), .any, .any, .any, .any, .any, .any, .any, .any, .any, .any, .any, .any, .any, .any, .any, .any, .any, .any, .any, .any, .any, .any, .any, .any, .any, .any, .any, .any, .any, .any, .any, .any, .any, .any, .any, .any], [.box 38 [.sl (m_0.Places.map GVector.cells), .sl (m_0.Triangles.map (cL (cI .i64)))], .mapN 2 (((mapC Gedge.pr (cI .i64) r1_l1_1).set (midx r1_l1_1 (nd_impl_trianglesByEdge_0 m_0 x_l0 x_l0_1)) (((mapC Gedge.pr (cI .i64) r1_l1_1).getD (midx r1_l1_1 (nd_impl_trianglesByEdge_0 m_0 x_l0 x_l0_1)) default).1, [])).set (midx r1_l1_1 (nd_impl_trianglesByEdge_0 m_0 x_l0 x_l0_1)) ((((mapC Gedge.pr (cI .i64) r1_l1_1).set (midx r1_l1_1 (nd_impl_trianglesByEdge_0 m_0 x_l0 x_l0_1)) (((mapC Gedge.pr (cI .i64) r1_l1_1).getD (midx r1_l1_1 (nd_impl_trianglesByEdge_0 m_0 x_l0 x_l0_1)) default).1, [])).getD (midx r1_l1_1 (nd_impl_trianglesByEdge_0 m_0 x_l0 x_l0_1)) default).1, (((mapC Gedge.pr (cI .i64) r1_l1_1).getD (midx r1_l1_1 (nd_impl_trianglesByEdge_0 m_0 x_l0 x_l0_1)) default).2 ++ ([x_l0].map (cI .i64))))) none, .vec 136 2 ((r2_l2_1.map Gedge.cells) ++ ([[.i .i64 ((nd_impl_trianglesByEdge_0 m_0 x_l0 x_l0_1).e0), .i .i64 ((nd_impl_trianglesByEdge_0 m_0 x_l0 x_l0_1).e1)]] : List (List AV))) false]⟩) (q (sB h__2 <| sC (show (r2_l2_1.map Gedge.cells).length + ([[.i .i64 ((nd_impl_trianglesByEdge_0 m_0 x_l0 x_l0_1).e0), .i .i64 ((nd_impl_trianglesByEdge_0 m_0 x_l0 x_l0_1).e1)]] : List (List AV)).length ≤ 1073741824 from (by simpa using y__6)) <| sA (.keep [midx r1_l1_1 (nd_impl_trianglesByEdge_0 m_0 x_l0 x_l0_1)]) <| sC (mget_ok (ck := Gedge.pr) (cv := (cI .i64)) h__1) <| sC (show (midx r1_l1_1 (nd_impl_trianglesByEdge_0 m_0 x_l0 x_l0_1)) < (mapC Gedge.pr (cI .i64) r1_l1_1).length from (by simpa using y__7)) <| sC (show (((mapC Gedge.pr (cI .i64) r1_l1_1).getD (midx r1_l1_1 (nd_impl_trianglesByEdge_0 m_0 x_l0 x_l0_1)) default).2).length + ([[.i .i64 x_l0]] : List (List AV)).length ≤ 1073741824 from (by simpa using y__8)) <| sA (.keep [(midx r1_l1_1 (nd_impl_trianglesByEdge_0 m_0 x_l0 x_l0_1))]) <| sC (show ((midx r1_l1_1 (nd_impl_trianglesByEdge_0 m_0 x_l0 x_l0_1)) : Int) = (((midx r1_l1_1 (nd_impl_trianglesByEdge_0 m_0 x_l0 x_l0_1)) : Nat) : Int) from rfl) <| sC (show (midx r1_l1_1 (nd_impl_trianglesByEdge_0 m_0 x_l0 x_l0_1)) < ((mapC Gedge.pr (cI .i64) r1_l1_1).set (midx r1_l1_1 (nd_impl_trianglesByEdge_0 m_0 x_l0 x_l0_1)) (((mapC Gedge.pr (cI .i64) r1_l1_1).getD (midx r1_l1_1 (nd_impl_trianglesByEdge_0 m_0 x_l0 x_l0_1)) default).1, [])).length from (by simpa using y__7)) <| sC (show ∀ i, some (midx r1_l1_1 (nd_impl_trianglesByEdge_0 m_0 x_l0 x_l0_1)) = some i → i = (midx r1_l1_1 (nd_impl_trianglesByEdge_0 m_0 x_l0 x_l0_1)) from (fun i h => by cases h; rfl)) <| sI (x_l0_1 + 1) y__2 y__3 <| sN)) (by kernel_rfl) (show _ = ⟨[.agg [.sl (m_0.Places.map GVector.cells), .sl (m_0.Triangles.map (cL (cI .i64)))], .ptr 0 0 0, .any, .nils, .mp 1, .own 2, .i .i64 x_l0, .sl ((m_0.Triangles.getD x_l0.toNat default).map (cI .i64)), .any, .any, .mp 1, .any, .ptr 0 0 1, .sl (m_0.Triangles.map (cL (cI .i64))), .i .i64 (m_0.Triangles.length : Int), .i .i64 x_l0, .b (decide (x_l0 < (m_0.Triangles.length : Int))), .i .i64 x_l0, .ref [.sl ((m_0.Triangles.getD x_l0.toNat default).map (cI .i64))] 0, .sl ((m_0.Triangles.getD x_l0.toNat default).map (cI .i64)), .i .i64 (x_l0_1 + 1), .any, .any, .any, .any, .any, .any, .any, .any, .any, .any, .any, .any, .any, .any, .any, .any, .any, .any, .any, .any, .any, .any, .any, .any, .any, .any, .any, .any, .any, .any, .any, .any, .any, .any, .any, .any], [.box 38 [.sl (m_0.Places.map GVector.cells), .sl (m_0.Triangles.map (cL (cI .i64)))], .mapN 2 (mapC Gedge.pr (cI .i64) (mput r1_l1_1 (midx r1_l1_1 (nd_impl_trianglesByEdge_0 m_0 x_l0 x_l0_1)) ((r1_l1_1.getD (midx r1_l1_1 (nd_impl_trianglesByEdge_0 m_0 x_l0 x_l0_1)) default).2 ++ [x_l0]))) none, .vec 136 2 ((r2_l2_1 ++ [(nd_impl_trianglesByEdge_0 m_0 x_l0 x_l0_1)]).map Gedge.cells) false]⟩ from (by first | (rw [mapC_put (midx_lt h__1)]; done) | (rw [mapC_put (midx_lt h__1)]; simp [List.map_set, Gedge.cells]))) (ih (x_l0_1 + 1) (mput r1_l1_1 (midx r1_l1_1 (nd_impl_trianglesByEdge_0 m_0 x_l0 x_l0_1)) ((r1_l1_1.getD (midx r1_l1_1 (nd_impl_trianglesByEdge_0 m_0 x_l0 x_l0_1)) default).2 ++ [x_l0])) (r2_l2_1 ++ [(nd_impl_trianglesByEdge_0 m_0 x_l0 x_l0_1)]) (show 0 ≤ (x_l0_1 + 1) from (by first | assumption | omega)) (show ((r2_l2_1 ++ [(nd_impl_trianglesByEdge_0 m_0 x_l0 x_l0_1)]).length : Int) ≤ (r2_l2.length : Int) + (x_l0_1 + 1) from (by first | assumption | omega | exact mput_inv (by assumption) (by omega) (by omega) | exact mnew_inv (by assumption) (by omega) (by omega) | (simp only [List.length_append, List.length_cons, List.length_nil]; omega) | exact (loT_inv _ _ _ _ hv_impl_trianglesByEdge_1_0 (by assumption) (by assumption)).1 | exact (loT_inv _ _ _ _ hv_impl_trianglesByEdge_1_0 (by assumption) (by assumption)).2)) (show ∀ y ∈ (mput r1_l1_1 (midx r1_l1_1 (nd_impl_trianglesByEdge_0 m_0 x_l0 x_l0_1)) ((r1_l1_1.getD (midx r1_l1_1 (nd_impl_trianglesByEdge_0 m_0 x_l0 x_l0_1)) default).2 ++ [x_l0])), (y.2.length : Int) ≤ 3 * x_l0 + (x_l0_1 + 1) from (by first | assumption | omega | exact mput_inv (by assumption) (by omega) (by omega) | exact mnew_inv (by assumption) (by omega) (by omega) | (simp only [List.length_append, List.length_cons, List.length_nil]; omega) | exact (loT_inv _ _ _ _ hv_impl_trianglesByEdge_1_0 (by assumption) (by assumption)).1 | exact (loT_inv _ _ _ _ hv_impl_trianglesByEdge_1_0 (by assumption) (by assumption)).2)) (by first | assumption | omega))
    | false =>
     have gh__2 := ne_of_beq_false h__2
     have y__6 : (midx r1_l1_1 (nd_impl_trianglesByEdge_0 m_0 x_l0 x_l0_1)) < r1_l1_1.length := by clear q; exact (by first | assumption | omega)
     have y__7 : ((r1_l1_1.getD (midx r1_l1_1 (nd_impl_trianglesByEdge_0 m_0 x_l0 x_l0_1)) default).2).length + ([x_l0]).length ≤ 1073741824 := by clear q; exact (by first | assumption | omega | (first | (have g5 := of_decide_eq_true hf_impl_trianglesByEdge_2_0; have q := OkE.at hp3 hv_impl_trianglesByEdge_1_0 g5 hv_impl_trianglesByEdge_2_0 (of_decide_eq_true (by assumption)); first | omega | (simp only [List.length_append, List.length_cons, List.length_nil]; omega) | (have q3 := mlen_leI (N := 3 * x_l0 + x_l0_1) (by omega) (by assumption) (midx r1_l1_1 (nd_impl_trianglesByEdge_0 m_0 x_l0 x_l0_1)); simp only [List.length_cons, List.length_nil]; omega)) | (have := hp3.2.1; omega) | (have q := loTE_len m_0 hp3; omega)) | (simp_all <;> omega))
     have e : lo_impl_trianglesByEdge_2 m_0 x_l0 r1_l1 r2_l2 (k + 1) x_l0_1 r1_l1_1 r2_l2_1 = (lo_impl_trianglesByEdge_2 m_0 x_l0 r1_l1 r2_l2 k (x_l0_1 + 1) (mput r1_l1_1 (midx r1_l1_1 (nd_impl_trianglesByEdge_0 m_0 x_l0 x_l0_1)) ((r1_l1_1.getD (midx r1_l1_1 (nd_impl_trianglesByEdge_0 m_0 x_l0 x_l0_1)) default).2 ++ [x_l0])) r2_l2_1) := by simp only [lo_impl_trianglesByEdge_2, h__0, h__1, h__2, cond_true, cond_false]
     rw [e]
     exact nextS E0Ok hMixed [] mk_impl_trianglesByEdge_2_0 [0, 1, 2] (⟨[.agg [.sl (m_0.Places.map GVector.cells), .sl (m_0.Triangles.map (cL (cI .i64)))], .ptr 0 0 0, .any, .nils, .mp 1, .own 2, .i .i64 x_l0, .sl ((m_0.Triangles.getD x_l0.toNat default).map (cI .i64)), .any, .any, .mp 1, .any, .ptr 0 0 1, .sl (m_0.Triangles.map (cL (cI .i64))), .i .i64 (m_0.Triangles.length : Int), .i .i64 x_l0, .b (decide (x_l0 < (m_0.Triangles.length : Int))), .i .i64 x_l0, .ref [.sl ((m_0.Triangles.getD x_l0.toNat default).map (cI .i64))] 0, .sl ((m_0.Triangles.getD x_l0.toNat default).map (cI .i64)), .i .i64 (x_l0_1 + 1), .any, .any, .any, .any, .any, .any, .any, .any, .any, .any, .any, .any, .any, .any, .any, .any, .any, .any, .any, .any, .any, .any, .any, .any, .any, .any, .any, .any, .any, .any, .any, .any, .any, .any, .any, .any], [.box 38 [.sl (m_0.Places.map GVector.cells), .sl (m_0.Triangles.map (cL (cI .i64)))], .mapN 2 (((mapC Gedge.pr (cI .i64) r1_l1_1).set (midx r1_l1_1 (nd_impl_trianglesByEdge_0 m_0 x_l0 x_l0_1)) (((mapC Gedge.pr (cI .i64) r1_l1_1).getD (midx r1_l1_1 (nd_impl_trianglesByEdge_0 m_0 x_l0 x_l0_1)) default).1, [])).set (midx r1_l1_1 (nd_impl_trianglesByEdge_0 m_0 x_l0 x_l0_1)) ((((mapC Gedge.pr (cI .i64) r1_l1_1).set (midx r1_l1_1 (nd_impl_trianglesByEdge_0 m_0 x_l0 x_l0_1)) (((mapC Gedge.pr (cI .i64) r1_l1_1).getD (midx r1_l1_1 (nd_impl_trianglesByEdge_0 m_0 x_l0 x_l0_1)) default).1, [])).getD (midx r1_l1_1 (nd_impl_trianglesByEdge_0 m_0 x_l0 x_l0_1)) default).1, (((mapC Gedge.pr (cI .i64) r1_l1_1).getD (midx r1_l1_1 (nd_impl_trianglesByEdge_0 m_0 x_l0 x_l0_1)) default).2 ++ ([x_l0].map (cI .i64))))) none, .vec 136 2 (r2_l2_1.map Gedge.cells) false]⟩) (q (sB h__2 <| sA (.keep [midx r1_l1_1 (nd_impl_trianglesByEdge_0 m_0 x_l0 x_l0_1)]) <| sC (mget_ok (ck := Gedge.pr) (cv := (cI .i64)) h__1) <| sC (show (midx r1_l1_1 (nd_impl_trianglesByEdge_0 m_0 x_l0 x_l0_1)) < (mapC Gedge.pr (cI .i64) r1_l1_1).length from (by simpa using y__6)) <| sC (show (((mapC Gedge.pr (cI .i64) r1_l1_1).getD (midx r1_l1_1 (nd_impl_trianglesByEdge_0 m_0 x_l0 x_l0_1)) default).2).length + ([[.i .i64 x_l0]] : List (List AV)).length ≤ 1073741824 from (by simpa using y__7)) <| sA (.keep [(midx r1_l1_1 (nd_impl_trianglesByEdge_0 m_0 x_l0 x_l0_1))]) <| sC (show ((midx r1_l1_1 (nd_impl_trianglesByEdge_0 m_0 x_l0 x_l0_1)) : Int) = (((midx r1_l1_1 (nd_impl_trianglesByEdge_0 m_0 x_l0 x_l0_1)) : Nat) : Int) from rfl) <| sC (show (midx r1_l1_1 (nd_impl_trianglesByEdge_0 m_0 x_l0 x_l0_1)) < ((mapC Gedge.pr (cI .i64) r1_l1_1).set (midx r1_l1_1 (nd_impl_trianglesByEdge_0 m_0 x_l0 x_l0_1)) (((mapC Gedge.pr (cI .i64) r1_l1_1).getD (midx r1_l1_1 (nd_impl_trianglesByEdge_0 m_0 x_l0 x_l0_1)) default).1, [])).length from (by simpa using y__6)) <| sC (show ∀ i, some (midx r1_l1_1 (nd_impl_trianglesByEdge_0 m_0 x_l0 x_l0_1)) = some i → i = (midx r1_l1_1 (nd_impl_trianglesByEdge_0 m_0 x_l0 x_l0_1)) from (fun i h => by cases h; rfl)) <| sI (x_l0_1 + 1) y__2 y__3 <| sN)) (by kernel_rfl) (show _ = ⟨[.agg [.sl (m_0.Places.map GVector.cells), .sl (m_0.Triangles.map (cL (cI .i64)))], .ptr 0 0 0, .any, .nils, .mp 1, .own 2, .i .i64 x_l0, .sl ((m_0.Triangles.getD x_l0.toNat default).map (cI .i64)), .any, .any, .mp 1, .any, .ptr 0 0 1, .sl (m_0.Triangles.map (cL (cI .i64))), .i .i64 (m_0.Triangles.length : Int), .i .i64 x_l0, .b (decide (x_l0 < (m_0.Triangles.length : Int))), .i .i64 x_l0, .ref [.sl ((m_0.Triangles.getD x_l0.toNat default).map (cI .i64))] 0, .sl ((m_0.Triangles.getD x_l0.toNat default).map (cI .i64)), .i .i64 (x_l0_1 + 1), .any, .any, .any, .any, .any, .any, .any, .any, .any, .any, .any, .any, .any, .any, .any, .any, .any, .any, .any, .any, .any, .any, .any, .any, .any, .any, .any, .any, .any, .any, .any, .any, .any, .any, .any, .any], [.box 38 [.sl (m_0.Places.map GVector.cells), .sl (m_0.Triangles.map (cL (cI .i64)))], .mapN 2 (mapC Gedge.pr (cI .i64) (mput r1_l1_1 (midx r1_l1_1 (nd_impl_trianglesByEdge_0 m_0 x_l0 x_l0_1)) ((r1_l1_1.getD (midx r1_l1_1 (nd_impl_trianglesByEdge_0 m_0 x_l0 x_l0_1)) default).2 ++ [x_l0]))) none, .vec 136 2 (r2_l2_1.map Gedge.cells) false]⟩ from (by first | (rw [mapC_put (midx_lt h__1)]; done) | (rw [mapC_put (midx_lt h__1)]; simp [List.map_set]))) (ih (x_l0_1 + 1) (mput r1_l1_1 (midx r1_l1_1 (nd_impl_trianglesByEdge_0 m_0 x_l0 x_l0_1)) ((r1_l1_1.getD (midx r1_l1_1 (nd_impl_trianglesByEdge_0 m_0 x_l0 x_l0_1)) default).2 ++ [x_l0])) r2_l2_1 (show 0 ≤ (x_l0_1 + 1) from (by first | assumption | omega)) (show (r2_l2_1.length : Int) ≤ (r2_l2.length : Int) + (x_l0_1 + 1) from (by first | assumption | omega)) (show ∀ y ∈ (mput r1_l1_1 (midx r1_l1_1 (nd_impl_trianglesByEdge_0 m_0 x_l0 x_l0_1)) ((r1_l1_1.getD (midx r1_l1_1 (nd_impl_trianglesByEdge_0 m_0 x_l0 x_l0_1)) default).2 ++ [x_l0])), (y.2.length : Int) ≤ 3 * x_l0 + (x_l0_1 + 1) from (by first | assumption | omega | exact mput_inv (by assumption) (by omega) (by omega) | exact mnew_inv (by assumption) (by omega) (by omega) | (simp only [List.length_append, List.length_cons, List.length_nil]; omega) | exact (loT_inv _ _ _ _ hv_impl_trianglesByEdge_1_0 (by assumption) (by assumption)).1 | exact (loT_inv _ _ _ _ hv_impl_trianglesByEdge_1_0 (by assumption) (by assumption)).2)) (by first | assumption | omega))
   | false =>
    have y__6 : r2_l2_1.length + ([(nd_impl_trianglesByEdge_0 m_0 x_l0 x_l0_1)]).length ≤ 1073741824 := by clear p; exact (by first | assumption | omega | (first | (have g5 := of_decide_eq_true hf_impl_trianglesByEdge_2_0; have q := OkE.at hp3 hv_impl_trianglesByEdge_1_0 g5 hv_impl_trianglesByEdge_2_0 (of_decide_eq_true (by assumption)); first | omega | (simp only [List.length_append, List.length_cons, List.length_nil]; omega) | (have q3 := mlen_leI (N := 3 * x_l0 + x_l0_1) (by omega) (by assumption) (midx r1_l1_1 (nd_impl_trianglesByEdge_0 m_0 x_l0 x_l0_1)); simp only [List.length_cons, List.length_nil]; omega)) | (have := hp3.2.1; omega) | (have q := loTE_len m_0 hp3; omega)) | (simp_all <;> omega))
    have e : lo_impl_trianglesByEdge_2 m_0 x_l0 r1_l1 r2_l2 (k + 1) x_l0_1 r1_l1_1 r2_l2_1 = (lo_impl_trianglesByEdge_2 m_0 x_l0 r1_l1 r2_l2 k (x_l0_1 + 1) (r1_l1_1 ++ [((nd_impl_trianglesByEdge_0 m_0 x_l0 x_l0_1), [x_l0])]) (r2_l2_1 ++ [(nd_impl_trianglesByEdge_0 m_0 x_l0 x_l0_1)])) := by simp only [lo_impl_trianglesByEdge_2, h__0, h__1, cond_true, cond_false]
    rw [e]
    exact nextS E0Ok hMixed [] mk_impl_trianglesByEdge_2_0 [0, 1, 2] (⟨[.agg [.sl (m_0.Places.map GVector.cells), .sl (m_0.Triangles.map (cL (cI .i64)))], .ptr 0 0 0, .any, .nils, .mp 1, .own 2, .i .i64 x_l0, .sl ((m_0.Triangles.getD x_l0.toNat default).map (cI .i64)), .any, .any, .mp 1, .any, .ptr 0 0 1, .sl (m_0.Triangles.map (cL (cI .i64))), .i .i64 (m_0.Triangles.length : Int), .i .i64 x_l0, .b (decide (x_l0 < (m_0.Triangles.length : Int))), .i .i64 x_l0, .ref [.sl ((m_0.Triangles.getD x_l0.toNat default).map (cI .i64))] 0, .sl ((m_0.Triangles.getD x_l0.toNat default).map (cI .i64)), .i .i64 (x_l0_1 + 1), .any, .any, .any, .any, .any, .any, .any, .any, .any, .any, .any, .any, .any, .any, .any, .any, .any, .any, .any, .any, .any, .any, .any, .any, .any, .any, .any, .any, .any, .any, .any, .any, .any, .any, .any, .any], [.box 38 [.sl (m_0.Places.map GVector.cells), .sl (m_0.Triangles.map (cL (cI .i64)))], .mapN 2 (((mapC Gedge.pr (cI .i64) r1_l1_1) ++ [((Gedge.pr (nd_impl_trianglesByEdge_0 m_0 x_l0 x_l0_1)), [])]).set (mapC Gedge.pr (cI .i64) r1_l1_1).length ((((mapC Gedge.pr (cI .i64) r1_l1_1) ++ [((Gedge.pr (nd_impl_trianglesByEdge_0 m_0 x_l0 x_l0_1)), [])]).getD (mapC Gedge.pr (cI .i64) r1_l1_1).length default).1, (([x_l0]).map (cI .i64)))) none, .vec 136 2 ((r2_l2_1.map Gedge.cells) ++ ([[.i .i64 ((nd_impl_trianglesByEdge_0 m_0 x_l0 x_l0_1).e0), .i .i64 ((nd_impl_trianglesByEdge_0 m_0 x_l0 x_l0_1).e1)]] : List (List AV))) false]⟩) (p (sA (.keep []) <| sC (mnot_ok (ck := Gedge.pr) (cv := (cI .i64)) Gedge.inj h__1) <| sM (show ((0 : Nat) : Int) = 0 from rfl) <| sB (show (0 == 0) = true from rfl) <| sC (show (r2_l2_1.map Gedge.cells).length + ([[.i .i64 ((nd_impl_trianglesByEdge_0 m_0 x_l0 x_l0_1).e0), .i .i64 ((nd_impl_trianglesByEdge_0 m_0 x_l0 x_l0_1).e1)]] : List (List AV)).length ≤ 1073741824 from (by simpa using y__6)) <| sA (.keep []) <| sC (mnot_ok (ck := Gedge.pr) (cv := (cI .i64)) Gedge.inj h__1) <| sC (show ([[.i .i64 x_l0]] : List (List AV)) ≠ [] from (by simp)) <| sC (show ([[.i .i64 x_l0]] : List (List AV)).length ≤ 1073741824 from (by simp)) <| sA (.keep [(mapC Gedge.pr (cI .i64) r1_l1_1).length]) <| sC (show ((mapC Gedge.pr (cI .i64) r1_l1_1).length : Int) = (((mapC Gedge.pr (cI .i64) r1_l1_1).length : Nat) : Int) from rfl) <| sC (show (mapC Gedge.pr (cI .i64) r1_l1_1).length < ((mapC Gedge.pr (cI .i64) r1_l1_1) ++ [((Gedge.pr (nd_impl_trianglesByEdge_0 m_0 x_l0 x_l0_1)), [])]).length from (by simp)) <| sC (show ∀ i, (none : Option Nat) = some i → i = (mapC Gedge.pr (cI .i64) r1_l1_1).length from (fun i h => by cases h)) <| sI (x_l0_1 + 1) y__2 y__3 <| sN)) (by kernel_rfl) (show _ = ⟨[.agg [.sl (m_0.Places.map GVector.cells), .sl (m_0.Triangles.map (cL (cI .i64)))], .ptr 0 0 0, .any, .nils, .mp 1, .own 2, .i .i64 x_l0, .sl ((m_0.Triangles.getD x_l0.toNat default).map (cI .i64)), .any, .any, .mp 1, .any, .ptr 0 0 1, .sl (m_0.Triangles.map (cL (cI .i64))), .i .i64 (m_0.Triangles.length : Int), .i .i64 x_l0, .b (decide (x_l0 < (m_0.Triangles.length : Int))), .i .i64 x_l0, .ref [.sl ((m_0.Triangles.getD x_l0.toNat default).map (cI .i64))] 0, .sl ((m_0.Triangles.getD x_l0.toNat default).map (cI .i64)), .i .i64 (x_l0_1 + 1), .any, .any, .any, .any, .any, .any, .any, .any, .any, .any, .any, .any, .any, .any, .any, .any, .any, .any, .any, .any, .any, .any, .any, .any, .any, .any, .any, .any, .any, .any, .any, .any, .any, .any, .any, .any], [.box 38 [.sl (m_0.Places.map GVector.cells), .sl (m_0.Triangles.map (cL (cI .i64)))], .mapN 2 (mapC Gedge.pr (cI .i64) (r1_l1_1 ++ [((nd_impl_trianglesByEdge_0 m_0 x_l0 x_l0_1), [x_l0])])) none, .vec 136 2 ((r2_l2_1 ++ [(nd_impl_trianglesByEdge_0 m_0 x_l0 x_l0_1)]).map Gedge.cells) false]⟩ from (by first | (rw [mapC_new]; done) | (rw [mapC_new]; simp [List.map_set, Gedge.cells]))) (ih (x_l0_1 + 1) (r1_l1_1 ++ [((nd_impl_trianglesByEdge_0 m_0 x_l0 x_l0_1), [x_l0])]) (r2_l2_1 ++ [(nd_impl_trianglesByEdge_0 m_0 x_l0 x_l0_1)]) (show 0 ≤ (x_l0_1 + 1) from (by first | assumption | omega)) (show ((r2_l2_1 ++ [(nd_impl_trianglesByEdge_0 m_0 x_l0 x_l0_1)]).length : Int) ≤ (r2_l2.length : Int) + (x_l0_1 + 1) from (by first | assumption | omega | exact mput_inv (by assumption) (by omega) (by omega) | exact mnew_inv (by assumption) (by omega) (by omega) | (simp only [List.length_append, List.length_cons, List.length_nil]; omega) | exact (loT_inv _ _ _ _ hv_impl_trianglesByEdge_1_0 (by assumption) (by assumption)).1 | exact (loT_inv _ _ _ _ hv_impl_trianglesByEdge_1_0 (by assumption) (by assumption)).2)) (show ∀ y ∈ (r1_l1_1 ++ [((nd_impl_trianglesByEdge_0 m_0 x_l0 x_l0_1), [x_l0])]), (y.2.length : Int) ≤ 3 * x_l0 + (x_l0_1 + 1) from (by first | assumption | omega | exact mput_inv (by assumption) (by omega) (by omega) | exact mnew_inv (by assumption) (by omega) (by omega) | (simp only [List.length_append, List.length_cons, List.length_nil]; omega) | exact (loT_inv _ _ _ _ hv_impl_trianglesByEdge_1_0 (by assumption) (by assumption)).1 | exact (loT_inv _ _ _ _ hv_impl_trianglesByEdge_1_0 (by assumption) (by assumption)).2)) (by first | assumption | omega))
  | false =>
   have gh__0 := of_decide_eq_false h__0
   have e : lo_impl_trianglesByEdge_2 m_0 x_l0 r1_l1 r2_l2 (k + 1) x_l0_1 r1_l1_1 r2_l2_1 = (r1_l1_1, r2_l2_1) := by simp only [lo_impl_trianglesByEdge_2, h__0, cond_false]
   rw [e]
   exact outR (e := (.exit 2)) E0Ok hMixed [] mk_impl_trianglesByEdge_2_1 [0, 1, 2] (sB h__0 <| sN) (by kernel_rfl) (by intro h; cases h)

def lr_impl_trianglesByEdge_2_0 (m_0 : GMesh) (x_l0 : Int) (r1_l1 : (List (Gedge × List Int))) (r2_l2 : (List Gedge)) : (List (Gedge × List Int)) × (List Gedge) := (lo_impl_trianglesByEdge_2 m_0 x_l0 r1_l1 r2_l2 (((3 : Int) - 0).toNat + 1) 0 r1_l1 r2_l2)

theorem loT2_inv (m : GMesh) (i : Int) (b0 : List (Gedge × List Int)) (l0 : List Gedge) (h0 : 0 ≤ i) : ∀ (k : Nat) (x : Int) (b : List (Gedge × List Int)) (l : List Gedge), 0 ≤ x → (3 - x).toNat < k → x ≤ 3 → (l.length : Int) ≤ 3 * i + x → (∀ y ∈ b, (y.2.length : Int) ≤ 3 * i + x) → ((lo_impl_trianglesByEdge_2 m i b0 l0 k x b l).2.length : Int) ≤ 3 * (i + 1) ∧ ∀ y ∈ (lo_impl_trianglesByEdge_2 m i b0 l0 k x b l).1, (y.2.length : Int) ≤ 3 * (i + 1) := by
  intro k
  induction k with
  | zero => intro x b l _ hk; exact absurd hk (Nat.not_lt_zero _)
  | succ k ih =>
    intro x b l hx hk h3 hl hb
    rw [lo_impl_trianglesByEdge_2]
    cases hc : decide (x < 3) with
    | false => rw [cond_false]; exact ⟨by simp only; omega, fun y hy => by have := hb y hy; omega⟩
    | true =>
      have hc' := of_decide_eq_true hc
      rw [cond_true]
      cases mhas b (nd_impl_trianglesByEdge_0 m i x) with
      | true =>
        rw [cond_true]
        cases (((b.getD (midx b (nd_impl_trianglesByEdge_0 m i x)) default).2.length : Int) == 0) with
        | true => rw [cond_true]; exact ih _ _ _ (by omega) (by omega) (by omega) (by simp only [List.length_append, List.length_cons, List.length_nil]; omega) (mput_inv hb (by omega) (by omega))
        | false => rw [cond_false]; exact ih _ _ _ (by omega) (by omega) (by omega) (by omega) (mput_inv hb (by omega) (by omega))
      | false => rw [cond_false]; exact ih _ _ _ (by omega) (by omega) (by omega) (by simp only [List.length_append, List.length_cons, List.length_nil]; omega) (mnew_inv hb (by omega) (by omega))
theorem loT_inv (m : GMesh) (i : Int) (b : List (Gedge × List Int)) (l : List Gedge) (h0 : 0 ≤ i) (hl : (l.length : Int) ≤ 3 * i) (hb : ∀ y ∈ b, (y.2.length : Int) ≤ 3 * i) :
    ((lr_impl_trianglesByEdge_2_0 m i b l).2.length : Int) ≤ 3 * (i + 1) ∧ ∀ y ∈ (lr_impl_trianglesByEdge_2_0 m i b l).1, (y.2.length : Int) ≤ 3 * (i + 1) :=
  loT2_inv m i b l h0 _ 0 b l (Int.le_refl 0) (by omega) (by omega) (by omega) (fun y hy => by have := hb y hy; omega)

def lo_impl_trianglesByEdge_1 (m_0 : GMesh) : Nat → Int → (List (Gedge × List Int)) → (List Gedge) → (List (Gedge × List Int)) × (List Gedge)
  | 0, _, _, _ => default
  | k + 1, x_l0, r1_l1, r2_l2 => (cond (decide (x_l0 < (m_0.Triangles.length : Int)))
    (lo_impl_trianglesByEdge_1 m_0 k (x_l0 + 1) ((lr_impl_trianglesByEdge_2_0 m_0 x_l0 r1_l1 r2_l2).1) ((lr_impl_trianglesByEdge_2_0 m_0 x_l0 r1_l1 r2_l2).2))
    (r1_l1, r2_l2))

def ls_impl_trianglesByEdge_1 (m_0 : GMesh) (r : (List (Gedge × List Int)) × (List Gedge)) : Ex × St := ((.exit 0), ⟨[.agg [.sl (m_0.Places.map GVector.cells), .sl (m_0.Triangles.map (cL (cI .i64)))], .ptr 0 0 0, .any, .nils, .mp 1, .own 2, .any, .any, .any, .any, .mp 1, .any, .ptr 0 0 1, .sl (m_0.Triangles.map (cL (cI .i64))), .any, .any, .any, .any, .any, .any, .any, .any, .any, .any, .any, .any, .any, .any, .any, .any, .any, .any, .any, .any, .any, .any, .any, .any, .any, .any, .any, .any, .any, .any, .any, .any, .any, .any, .any, .any, .any, .any, .any, .any, .any, .any, .any], [.box 38 [.sl (m_0.Places.map GVector.cells), .sl (m_0.Triangles.map (cL (cI .i64)))], .mapN 2 (mapC Gedge.pr (cI .i64) r.1) none, .vec 136 2 (r.2.map Gedge.cells) false]⟩)

def hd_impl_trianglesByEdge_1 (m_0 : GMesh) (x_l0 : Int) (r1_l1 : (List (Gedge × List Int))) (r2_l2 : (List Gedge)) : St := ⟨[.agg [.sl (m_0.Places.map GVector.cells), .sl (m_0.Triangles.map (cL (cI .i64)))], .ptr 0 0 0, .any, .nils, .mp 1, .own 2, .any, .any, .any, .any, .mp 1, .any, .ptr 0 0 1, .sl (m_0.Triangles.map (cL (cI .i64))), .i .i64 (m_0.Triangles.length : Int), .i .i64 x_l0, .any, .any, .any, .any, .any, .any, .any, .any, .any, .any, .any, .any, .any, .any, .any, .any, .any, .any, .any, .any, .any, .any, .any, .any, .any, .any, .any, .any, .any, .any, .any, .any, .any, .any, .any, .any, .any, .any, .any, .any, .any], [.box 38 [.sl (m_0.Places.map GVector.cells), .sl (m_0.Triangles.map (cL (cI .i64)))], .mapN 2 (mapC Gedge.pr (cI .i64) r1_l1) none, .vec 136 2 (r2_l2.map Gedge.cells) false]⟩

def mk_impl_trianglesByEdge_1_0 : List Bool := [true, true, false, true, true, true, false, false, false, false, true, false, true, true, true, true, false, false, false, false, false, false, false, false, false, false, false, false, false, false, false, false, false, false, false, false, false, false, false, false, false, false, false, false, false, false, false, false, false, false, false, false, false, false, false, false, false]

def mk_impl_trianglesByEdge_1_1 : List Bool := [true, true, false, true, true, true, false, false, false, false, true, false, true, true, false, false, false, false, false, false, false, false, false, false, false, false, false, false, false, false, false, false, false, false, false, false, false, false, false, false, false, false, false, false, false, false, false, false, false, false, false, false, false, false, false, false, false]

theorem lp_impl_trianglesByEdge_1 (m_0 : GMesh) (hp0 : m_0.Places.length ≤ 1073741824) (hp1 : m_0.Triangles.length ≤ 1073741824) (hp2 : ∀ t ∈ m_0.Triangles, t.length ≤ 1073741824) (hp3 : OkE m_0.Places.length m_0.Triangles) : ∀ (k : Nat) (x_l0 : Int) (r1_l1 : (List (Gedge × List Int))) (r2_l2 : (List Gedge)) (hv_impl_trianglesByEdge_1_0 : 0 ≤ x_l0) (hv_impl_trianglesByEdge_1_1 : (r2_l2.length : Int) ≤ 3 * x_l0) (hv_impl_trianglesByEdge_1_2 : ∀ y ∈ r1_l1, (y.2.length : Int) ≤ 3 * x_l0) (hk : ((m_0.Triangles.length : Int) - x_l0).toNat < k), Lp prog 0 (sub (bodyOf f107) [1, 1, 0, 1, 0, 0]) (hd_impl_trianglesByEdge_1 m_0 x_l0 r1_l1 r2_l2) (ls_impl_trianglesByEdge_1 m_0 (lo_impl_trianglesByEdge_1 m_0 k x_l0 r1_l1 r2_l2)).1 (ls_impl_trianglesByEdge_1 m_0 (lo_impl_trianglesByEdge_1 m_0 k x_l0 r1_l1 r2_l2)).2 := by
 intro k
 induction k with
 | zero => intro x_l0 r1_l1 r2_l2 hv_impl_trianglesByEdge_1_0 hv_impl_trianglesByEdge_1_1 hv_impl_trianglesByEdge_1_2 hk; exact absurd hk (Nat.not_lt_zero _)
 | succ k ih =>
  intro x_l0 r1_l1 r2_l2 hv_impl_trianglesByEdge_1_0 hv_impl_trianglesByEdge_1_1 hv_impl_trianglesByEdge_1_2 hk
  cases h_0 : (decide (x_l0 < (m_0.Triangles.length : Int))) with
  | true =>
   have gh_0 := of_decide_eq_true h_0
   have y_0 : (0 : Int) ≤ x_l0 := (by first | assumption | omega)
   have y_1 : x_l0 < (m_0.Triangles.length : Int) := (by first | assumption | omega)
   have y_2 : (-9223372036854775808 : Int) ≤ (x_l0 + 1) := (by first | assumption | omega)
   have y_3 : (x_l0 + 1) ≤ (9223372036854775807 : Int) := (by first | assumption | omega)
   have e : lo_impl_trianglesByEdge_1 m_0 (k + 1) x_l0 r1_l1 r2_l2 = (lo_impl_trianglesByEdge_1 m_0 k (x_l0 + 1) ((lr_impl_trianglesByEdge_2_0 m_0 x_l0 r1_l1 r2_l2).1) ((lr_impl_trianglesByEdge_2_0 m_0 x_l0 r1_l1 r2_l2).2)) := by simp only [lo_impl_trianglesByEdge_1, h_0, cond_true]
   rw [e]
   exact nextR E0Ok hMixed [] mk_impl_trianglesByEdge_1_0 [0, 1, 2] (ih (x_l0 + 1) ((lr_impl_trianglesByEdge_2_0 m_0 x_l0 r1_l1 r2_l2).1) ((lr_impl_trianglesByEdge_2_0 m_0 x_l0 r1_l1 r2_l2).2) (show 0 ≤ (x_l0 + 1) from (by first | assumption | omega)) (show (((lr_impl_trianglesByEdge_2_0 m_0 x_l0 r1_l1 r2_l2).2).length : Int) ≤ 3 * (x_l0 + 1) from (by first | assumption | omega | exact mput_inv (by assumption) (by omega) (by omega) | exact mnew_inv (by assumption) (by omega) (by omega) | (simp only [List.length_append, List.length_cons, List.length_nil]; omega) | exact (loT_inv _ _ _ _ hv_impl_trianglesByEdge_1_0 (by assumption) (by assumption)).1 | exact (loT_inv _ _ _ _ hv_impl_trianglesByEdge_1_0 (by assumption) (by assumption)).2)) (show ∀ y ∈ ((lr_impl_trianglesByEdge_2_0 m_0 x_l0 r1_l1 r2_l2).1), (y.2.length : Int) ≤ 3 * (x_l0 + 1) from (by first | assumption | omega | exact mput_inv (by assumption) (by omega) (by omega) | exact mnew_inv (by assumption) (by omega) (by omega) | (simp only [List.length_append, List.length_cons, List.length_nil]; omega) | exact (loT_inv _ _ _ _ hv_impl_trianglesByEdge_1_0 (by assumption) (by assumption)).1 | exact (loT_inv _ _ _ _ hv_impl_trianglesByEdge_1_0 (by assumption) (by assumption)).2)) (by first | assumption | omega)) (sB h_0 <| sG (cL (cI .i64)) m_0.Triangles x_l0 y_0 y_1 <| sL mk_impl_trianglesByEdge_2_0 3 (lp_val (ls_impl_trianglesByEdge_2 m_0 x_l0 r1_l1 r2_l2) (x := (lr_impl_trianglesByEdge_2_0 m_0 x_l0 r1_l1 r2_l2)) (lp_impl_trianglesByEdge_2 m_0 x_l0 r1_l1 r2_l2 hp0 hp1 hp2 hp3 hv_impl_trianglesByEdge_1_0 hv_impl_trianglesByEdge_1_1 hv_impl_trianglesByEdge_1_2 h_0 (((3 : Int) - 0).toNat + 1) 0 r1_l1 r2_l2 (show 0 ≤ 0 from (by first | omega | (simp; done) | (intro y hy; have q := hv_impl_trianglesByEdge_1_2 y hy; omega))) (show (r2_l2.length : Int) ≤ (r2_l2.length : Int) + 0 from (by first | omega | (simp; done) | (intro y hy; have q := hv_impl_trianglesByEdge_1_2 y hy; omega))) (show ∀ y ∈ r1_l1, (y.2.length : Int) ≤ 3 * x_l0 + 0 from (by first | omega | (simp; done) | (intro y hy; have q := hv_impl_trianglesByEdge_1_2 y hy; omega))) (Nat.lt_succ_self _)) rfl) <| sI (x_l0 + 1) y_2 y_3 <| sN) (by kernel_rfl)
  | false =>
   have gh_0 := of_decide_eq_false h_0
   have e : lo_impl_trianglesByEdge_1 m_0 (k + 1) x_l0 r1_l1 r2_l2 = (r1_l1, r2_l2) := by simp only [lo_impl_trianglesByEdge_1, h_0, cond_false]
   rw [e]
   exact outR (e := (.exit 0)) E0Ok hMixed [] mk_impl_trianglesByEdge_1_1 [0, 1, 2] (sB h_0 <| sN) (by kernel_rfl) (by intro h; cases h)

end Go.Ab
