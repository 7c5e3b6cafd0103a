/- The functions of this seat as plain Lean, and that the program's are these. Printed by a program of the prover's own. -/
import Derived.Test.YtiiijolkhbnblaaB3
set_option linter.unusedVariables false
set_option linter.unusedSimpArgs false
set_option maxRecDepth 100000
namespace Go.Ab
open Go.RowKit Go.Proofs.Try

theorem lp_impl_ValidBody_1 (b_0 : GBody) (hp0 : b_0.Mesh.Places.length ≤ 1073741824) (hp1 : b_0.Mesh.Triangles.length ≤ 1073741824) (hp2 : ∀ t ∈ b_0.Mesh.Triangles, t.length ≤ 1073741824) (hp3 : b_0.Springs.length ≤ 1073741824) (hp4 : b_0.Weights.length ≤ 1073741824) (hf_impl_ValidBody_1_0 : ((b_0.Weights.length : Int) != (b_0.Mesh.Places.length : Int)) = false) (hf_impl_ValidBody_1_1 : (decide ((b_0.Springs.length : Int) > 200)) = false) (hf_impl_ValidBody_1_2 : (v_impl_ValidMesh b_0.Mesh) = true) : ∀ (k : Nat) (x_l0 : Int) (hv_impl_ValidBody_1_0 : 0 ≤ x_l0) (hk : ((b_0.Springs.length : Int) - x_l0).toNat < k), Lp prog 0 (sub (bodyOf f126) [1, 1, 1, 0, 1, 0, 0]) (hd_impl_ValidBody_1 b_0 x_l0) (ls_impl_ValidBody_1 b_0 (lo_impl_ValidBody_1 b_0 k x_l0)).1 (ls_impl_ValidBody_1 b_0 (lo_impl_ValidBody_1 b_0 k x_l0)).2 := by
 intro k
 induction k with
 | zero => intro x_l0 hv_impl_ValidBody_1_0 hk; exact absurd hk (Nat.not_lt_zero _)
 | succ k ih =>
  intro x_l0 hv_impl_ValidBody_1_0 hk
  cases h_0 : (decide (x_l0 < (b_0.Springs.length : Int))) with
  | true =>
   have gh_0 := of_decide_eq_true h_0
   have y_0 : (0 : Int) ≤ x_l0 := (by first | assumption | omega | (simp_all <;> omega))
   have y_1 : x_l0 < (b_0.Springs.length : Int) := (by first | assumption | omega | (simp_all <;> omega))
   have p {a C} (s : Scr a C) := sB h_0 <| sG GSpring.cells b_0.Springs x_l0 y_0 y_1 <| sW .i64 ((b_0.Mesh.Places.length : Int) - 1) <| sF (t_impl_within ((b_0.Springs.getD x_l0.toNat default).A) 0 (IntKind.wrap .i64 ((b_0.Mesh.Places.length : Int) - 1))) <| s
   cases h_1 : (v_impl_within ((b_0.Springs.getD x_l0.toNat default).A) 0 (IntKind.wrap .i64 ((b_0.Mesh.Places.length : Int) - 1))) with
   | true =>
    have q {a C} (s : Scr a C) := p (sB' h_1 <| sB' h_1 <| sB' h_1 <| sB' h_1 <| sW .i64 ((b_0.Mesh.Places.length : Int) - 1) <| sB' h_1 <| sF (t_impl_within ((b_0.Springs.getD x_l0.toNat default).B) 0 (IntKind.wrap .i64 ((b_0.Mesh.Places.length : Int) - 1))) <| sB' h_1 <| sB' h_1 <| s)
    clear p
    cases h_2 : (v_impl_within ((b_0.Springs.getD x_l0.toNat default).B) 0 (IntKind.wrap .i64 ((b_0.Mesh.Places.length : Int) - 1))) with
    | true =>
     have p {a C} (s : Scr a C) := q (sB' h_2 <| sB' h_2 <| sB' h_2 <| sB' h_2 <| sB' h_2 <| sB' h_2 <| s)
     clear q
     cases h_3 : ((b_0.Springs.getD x_l0.toNat default).A == (b_0.Springs.getD x_l0.toNat default).B) with
     | true =>
      have gh_3 := eq_of_beq h_3
      have e : lo_impl_ValidBody_1 b_0 (k + 1) x_l0 = (.inl ()) := by simp only [lo_impl_ValidBody_1, h_0, h_1, h_2, h_3, cond_true]
      rw [e]
      exact outR (e := .ret) E0Ok hMixed [] mk_impl_ValidBody_1_1 [] (p (sB h_3 <| sB h_3 <| sB h_3 <| sB h_3 <| sB h_3 <| sB (show true = true from rfl) <| sN)) (by kernel_rfl) (by intro h; cases h)
     | false =>
      have gh_3 := ne_of_beq_false h_3
      have q {a C} (s : Scr a C) := p (sB h_3 <| sB h_3 <| sB h_3 <| sB h_3 <| sB h_3 <| s)
      clear p
      cases h_4 : (fcmp .geq .f32 ((b_0.Springs.getD x_l0.toNat default).Long) 0) with
      | true =>
       have y_2 : (-9223372036854775808 : Int) ≤ (x_l0 + 1) := by clear q; exact (by first | assumption | omega | (simp_all <;> omega))
       have y_3 : (x_l0 + 1) ≤ (9223372036854775807 : Int) := by clear q; exact (by first | assumption | omega | (simp_all <;> omega))
       have e : lo_impl_ValidBody_1 b_0 (k + 1) x_l0 = (lo_impl_ValidBody_1 b_0 k (x_l0 + 1)) := by simp only [lo_impl_ValidBody_1, h_0, h_1, h_2, h_3, h_4, cond_true, cond_false]
       rw [e]
       exact nextR E0Ok hMixed [] mk_impl_ValidBody_1_0 [0] (ih (x_l0 + 1) (show 0 ≤ (x_l0 + 1) from (by first | assumption | omega | (simp_all <;> omega))) (by first | assumption | omega | (simp_all <;> omega))) (q (sB' h_4 <| sI (x_l0 + 1) y_2 y_3 <| sN)) (by kernel_rfl)
      | false =>
       have e : lo_impl_ValidBody_1 b_0 (k + 1) x_l0 = (.inl ()) := by simp only [lo_impl_ValidBody_1, h_0, h_1, h_2, h_3, h_4, cond_true, cond_false]
       rw [e]
       exact outR (e := .ret) E0Ok hMixed [] mk_impl_ValidBody_1_1 [] (q (sB' h_4 <| sN)) (by kernel_rfl) (by intro h; cases h)
    | false =>
     have e : lo_impl_ValidBody_1 b_0 (k + 1) x_l0 = (.inl ()) := by simp only [lo_impl_ValidBody_1, h_0, h_1, h_2, cond_true, cond_false]
     rw [e]
     exact outR (e := .ret) E0Ok hMixed [] mk_impl_ValidBody_1_1 [] (q (sB' h_2 <| sB' h_2 <| sB' h_2 <| sB' h_2 <| sB' h_2 <| sB' h_2 <| sB (show true = true from rfl) <| sB (show true = true from rfl) <| sB (show true = true from rfl) <| sB (show true = true from rfl) <| sB (show true = true from rfl) <| sB (show true = true from rfl) <| sN)) (by kernel_rfl) (by intro h; cases h)
   | false =>
    have e : lo_impl_ValidBody_1 b_0 (k + 1) x_l0 = (.inl ()) := by simp only [lo_impl_ValidBody_1, h_0, h_1, cond_true, cond_false]
    rw [e]
    exact outR (e := .ret) E0Ok hMixed [] mk_impl_ValidBody_1_1 [] (p (sB' h_1 <| sB' h_1 <| sB' h_1 <| sB' h_1 <| sB' h_1 <| sB' h_1 <| sB' h_1 <| sB (show true = true from rfl) <| sB (show true = true from rfl) <| sB (show true = true from rfl) <| sB (show true = true from rfl) <| sB (show true = true from rfl) <| sB (show true = true from rfl) <| sB (show true = true from rfl) <| sB (show true = true from rfl) <| sB (show true = true from rfl) <| sB (show true = true from rfl) <| sB (show true = true from rfl) <| sB (show true = true from rfl) <| sN)) (by kernel_rfl) (by intro h; cases h)
  | false =>
   have gh_0 := of_decide_eq_false h_0
   have e : lo_impl_ValidBody_1 b_0 (k + 1) x_l0 = (.inr ()) := by simp only [lo_impl_ValidBody_1, h_0, cond_false]
   rw [e]
   exact outR (e := (.exit 0)) E0Ok hMixed [] mk_impl_ValidBody_1_2 [0] (sB h_0 <| sN) (by kernel_rfl) (by intro h; cases h)

def lr_impl_ValidBody_1_0 (b_0 : GBody) : (Unit) ⊕ (Unit) := (lo_impl_ValidBody_1 b_0 (((b_0.Springs.length : Int) - 0).toNat + 1) 0)

def v_impl_ValidBody (b_0 : GBody) : Bool := (cond (v_impl_ValidMesh b_0.Mesh)
  (cond (decide ((b_0.Springs.length : Int) > 200))
    false
    (cond ((b_0.Weights.length : Int) != (b_0.Mesh.Places.length : Int))
      false
      (match (lr_impl_ValidBody_1_0 b_0) with
        | .inl r4 => false
        | .inr r4 => true)))
  false)

theorem t_impl_ValidBody (b_0 : GBody) (hp0 : b_0.Mesh.Places.length ≤ 1073741824) (hp1 : b_0.Mesh.Triangles.length ≤ 1073741824) (hp2 : ∀ t ∈ b_0.Mesh.Triangles, t.length ≤ 1073741824) (hp3 : b_0.Springs.length ≤ 1073741824) (hp4 : b_0.Weights.length ≤ 1073741824)  : Fn prog 126 [.agg [.sl (b_0.Mesh.Places.map GVector.cells), .sl (b_0.Mesh.Triangles.map (cL (cI .i64))), .sl (b_0.Springs.map GSpring.cells), .f .f32 b_0.Film, .f .f32 b_0.Bend, .sl (b_0.Weights.map (cF .f32)), .f .f32 b_0.Fall.X, .f .f32 b_0.Fall.Y, .f .f32 b_0.Fall.Z]] (.b (v_impl_ValidBody b_0)) [] := by
 have p {a C} (s : Scr a C) := sZ GVector.cells b_0.Mesh.Places <| sF (t_impl_ValidMesh b_0.Mesh hp0 hp1 hp2) <| s
 cases h0 : (v_impl_ValidMesh b_0.Mesh) with
 | true =>
  have q {a C} (s : Scr a C) := p (sB' h0 <| sB' h0 <| sB' h0 <| sZ GSpring.cells b_0.Springs <| sB' h0 <| sB' h0 <| s)
  clear p
  cases h1 : (decide ((b_0.Springs.length : Int) > 200)) with
  | true =>
   have gh1 := of_decide_eq_true h1
   refine fnS E0Ok hMixed (c := bodyOf f126) [] (.b false) [] func126 (q (sB h1 <| sB h1 <| sB h1 <| sB h1 <| sB h1 <| sB h1 <| sB (show true = true from rfl) <| sK [] sN)) rfl (by kernel_rfl) (by kernel_rfl) rfl ?_ ?_
   · simp only [v_impl_ValidBody, h0, h1, cond_true]
   · rfl
  | false =>
   have gh1 := of_decide_eq_false h1
   have p {a C} (s : Scr a C) := q (sB h1 <| sB h1 <| sB h1 <| sZ (cF .f32) b_0.Weights <| sB h1 <| sB h1 <| sB h1 <| s)
   clear q
   cases h2 : ((b_0.Weights.length : Int) != (b_0.Mesh.Places.length : Int)) with
   | true =>
    have gh2 := bne_iff_ne.1 h2
    refine fnS E0Ok hMixed (c := bodyOf f126) [] (.b false) [] func126 (p (sB h2 <| sK [] sN)) rfl (by kernel_rfl) (by kernel_rfl) rfl ?_ ?_
    · simp only [v_impl_ValidBody, h0, h1, h2, cond_true, cond_false]
    · rfl
   | false =>
    have gh2 := bne_eq_false_iff_eq.1 h2
    have q {a C} (s : Scr a C) := p (sB h2 <| sZ GSpring.cells b_0.Springs <| s)
    clear p
    cases h3 : (lr_impl_ValidBody_1_0 b_0) with
    | inl r4 =>
     refine fnS E0Ok hMixed (c := bodyOf f126) [] (.b false) [] func126 (q (sL mk_impl_ValidBody_1_0 1 (lp_val (ls_impl_ValidBody_1 b_0) (x := (lr_impl_ValidBody_1_0 b_0)) (lp_impl_ValidBody_1 b_0 hp0 hp1 hp2 hp3 hp4 h2 h1 h0 (((b_0.Springs.length : Int) - 0).toNat + 1) 0 (show 0 ≤ 0 from (by first | assumption | omega | (simp_all <;> omega))) (Nat.lt_succ_self _)) h3) <| sK [] sN)) rfl (by kernel_rfl) (by kernel_rfl) rfl ?_ ?_
     · simp only [v_impl_ValidBody, h0, h1, h2, h3, cond_true, cond_false]
     · rfl
    | inr r4 =>
     refine fnS E0Ok hMixed (c := bodyOf f126) [] (.b true) [] func126 (q (sL mk_impl_ValidBody_1_0 1 (lp_val (ls_impl_ValidBody_1 b_0) (x := (lr_impl_ValidBody_1_0 b_0)) (lp_impl_ValidBody_1 b_0 hp0 hp1 hp2 hp3 hp4 h2 h1 h0 (((b_0.Springs.length : Int) - 0).toNat + 1) 0 (show 0 ≤ 0 from (by first | assumption | omega | (simp_all <;> omega))) (Nat.lt_succ_self _)) h3) <| sK [] sN)) rfl (by kernel_rfl) (by kernel_rfl) rfl ?_ ?_
     · simp only [v_impl_ValidBody, h0, h1, h2, h3, cond_true, cond_false]
     · rfl
 | false =>
  refine fnS E0Ok hMixed (c := bodyOf f126) [] (.b false) [] func126 (p (sB' h0 <| sB' h0 <| sB' h0 <| sB' h0 <| sB' h0 <| sB (show true = true from rfl) <| sB (show true = true from rfl) <| sB (show true = true from rfl) <| sB (show true = true from rfl) <| sB (show true = true from rfl) <| sB (show true = true from rfl) <| sB (show true = true from rfl) <| sK [] sN)) rfl (by kernel_rfl) (by kernel_rfl) rfl ?_ ?_
  · simp only [v_impl_ValidBody, h0, cond_false]
  · rfl

theorem springB (s : GSpring) (n : Int) : cond (v_impl_within s.A 0 (IntKind.wrap .i64 (n - 1))) (cond (v_impl_within s.B 0 (IntKind.wrap .i64 (n - 1))) (cond (s.A == s.B) false (fcmp .geq .f32 s.Long 0)) false) false = v_spec_l03Spring s n := by
  unfold v_spec_l03Spring
  rw [show v_impl_within = v_spec_l00In from rfl, show (s.A != s.B) = !(s.A == s.B) from rfl]
  cases (s.A == s.B) <;> rfl
theorem lo_ValidBody (b : GBody) (k : Nat) (i : Int) : lo_impl_ValidBody_1 b (k + 1) i = cond (decide (i < (b.Springs.length : Int))) (cond (v_spec_l03Spring (b.Springs.getD i.toNat default) (b.Mesh.Places.length : Int)) (lo_impl_ValidBody_1 b k (i + 1)) (.inl ())) (.inr ()) := by
  rw [lo_impl_ValidBody_1, ← springB]
  generalize b.Springs.getD i.toNat default = s
  cases v_impl_within s.A 0 (IntKind.wrap .i64 ((b.Mesh.Places.length : Int) - 1)) <;> cases v_impl_within s.B 0 (IntKind.wrap .i64 ((b.Mesh.Places.length : Int) - 1)) <;> cases (s.A == s.B) <;> cases fcmp .geq .f32 s.Long 0 <;> rfl
theorem eq_ValidBody (b : GBody) : v_impl_ValidBody b = v_spec_l03Is b := by
  unfold v_impl_ValidBody v_spec_l03Is lr_impl_ValidBody_1_0 lr_spec_l03Is_1_0
  rw [eq_ValidMesh, all_from (a := b.Springs) (p := fun s => v_spec_l03Spring s (b.Mesh.Places.length : Int)) (lo := lo_impl_ValidBody_1 b) (x := ()) (y := ()) (lo_ValidBody b),
    all_from (a := b.Springs) (p := fun s => v_spec_l03Spring s (b.Mesh.Places.length : Int)) (lo := lo_spec_l03Is_1 b) (x := ()) (y := ()) (fun k i => rfl)]
  rfl
theorem okMesh_is (b : GBody) (h : v_spec_l03Is b = true) : v_spec_l02Is b.Mesh = true := by
  cases hm : v_spec_l02Is b.Mesh with
  | true => rfl
  | false => simp [v_spec_l03Is, hm] at h
theorem places_le (m : GMesh) (h : v_spec_l02Is m = true) : m.Places.length ≤ 64 ∧ m.Triangles.length ≤ 128 := by
  rw [l02Is_eq] at h
  cases h1 : decide ((m.Places.length : Int) > 64) <;> rw [h1] at h <;> (try (cases h; done))
  cases h2 : decide ((m.Triangles.length : Int) > 128) <;> rw [h2] at h <;> (try (cases h; done))
  simp only [decide_eq_false_iff_not] at h1 h2
  omega

def lo_impl_copyMesh_1 (m_0 : GMesh) : Nat → Int → (List (List Int)) → (List (List Int))
  | 0, _, _ => default
  | k + 1, x_l0, r4_l1 => (cond (decide (x_l0 < (m_0.Triangles.length : Int)))
    (lo_impl_copyMesh_1 m_0 k (x_l0 + 1) (r4_l1 ++ [(([] : List Int) ++ (m_0.Triangles.getD x_l0.toNat default))]))
    r4_l1)

def ls_impl_copyMesh_1 (m_0 : GMesh) (r : (List (List Int))) : Ex × St := ((.exit 0), ⟨[.agg [.sl (m_0.Places.map GVector.cells), .sl (m_0.Triangles.map (cL (cI .i64)))], .ptr 0 0 0, .ptr 1 0 0, .ptr 2 0 0, .any, .any, .any, .ptr 0 0 0, .sl (m_0.Places.map GVector.cells), .own 3, .agg [.own 3, .nils], .ptr 0 0 1, .sl (m_0.Triangles.map (cL (cI .i64))), .any, .any, .any, .any, .any, .any, .any, .any, .any, .any, .any, .any, .any, .any, .any], [.box 42 [.sl (m_0.Places.map GVector.cells), .sl (m_0.Triangles.map (cL (cI .i64)))], .box 42 [.nils, .nils], .box 42 [.own 3, .own 4], .vec 44 3 (([] : List (List AV)) ++ (m_0.Places.map GVector.cells)) false, .nest 52 (r.map fun l => l.map (cI .i64)) false]⟩)

def hd_impl_copyMesh_1 (m_0 : GMesh) (x_l0 : Int) (r4_l1 : (List (List Int))) : St := ⟨[.agg [.sl (m_0.Places.map GVector.cells), .sl (m_0.Triangles.map (cL (cI .i64)))], .ptr 0 0 0, .ptr 1 0 0, .ptr 3 0 0, .any, .any, .any, .ptr 0 0 0, .sl (m_0.Places.map GVector.cells), .own 2, .agg [.own 2, .nils], .ptr 0 0 1, .sl (m_0.Triangles.map (cL (cI .i64))), .i .i64 (m_0.Triangles.length : Int), .i .i64 x_l0, .any, .any, .any, .any, .any, .any, .any, .any, .any, .any, .any, .any, .any], [.box 42 [.sl (m_0.Places.map GVector.cells), .sl (m_0.Triangles.map (cL (cI .i64)))], .box 42 [.nils, .nils], .vec 44 3 (([] : List (List AV)) ++ (m_0.Places.map GVector.cells)) false, .box 42 [.own 2, .own 4], .nest 52 (r4_l1.map fun l => l.map (cI .i64)) false]⟩

def mk_impl_copyMesh_1_0 : List Bool := [true, true, true, true, false, false, false, true, true, true, true, true, true, true, true, false, false, false, false, false, false, false, false, false, false, false, false, false]

def mk_impl_copyMesh_1_1 : List Bool := [true, true, true, true, false, false, false, true, true, true, true, true, true, false, false, false, false, false, false, false, false, false, false, false, false, false, false, false]

theorem lp_impl_copyMesh_1 (m_0 : GMesh) (hp0 : m_0.Places.length ≤ 1073741824) (hp1 : m_0.Triangles.length ≤ 1073741824) (hp2 : ∀ t ∈ m_0.Triangles, t.length ≤ 1073741824) (hp3 : OkTris m_0.Places.length m_0.Triangles) : ∀ (k : Nat) (x_l0 : Int) (r4_l1 : (List (List Int))) (hv_impl_copyMesh_1_0 : 0 ≤ x_l0) (hv_impl_copyMesh_1_1 : (r4_l1.length : Int) = x_l0) (hk : ((m_0.Triangles.length : Int) - x_l0).toNat < k), Lp prog 0 (sub (bodyOf f100) [1, 1, 0, 1, 0, 0]) (hd_impl_copyMesh_1 m_0 x_l0 r4_l1) (ls_impl_copyMesh_1 m_0 (lo_impl_copyMesh_1 m_0 k x_l0 r4_l1)).1 (ls_impl_copyMesh_1 m_0 (lo_impl_copyMesh_1 m_0 k x_l0 r4_l1)).2 := by
 intro k
 induction k with
 | zero => intro x_l0 r4_l1 hv_impl_copyMesh_1_0 hv_impl_copyMesh_1_1 hk; exact absurd hk (Nat.not_lt_zero _)
 | succ k ih =>
  intro x_l0 r4_l1 hv_impl_copyMesh_1_0 hv_impl_copyMesh_1_1 hk
  cases h_0 : (decide (x_l0 < (m_0.Triangles.length : Int))) with
  | true =>
   have gh_0 := of_decide_eq_true h_0
   have y_0 : (0 : Int) ≤ x_l0 := (by first | assumption | omega | (have q := (OkTris.at hp3 hv_impl_copyMesh_1_0 (of_decide_eq_true (by assumption))).1; omega) | (simp_all <;> omega))
   have y_1 : x_l0 < (m_0.Triangles.length : Int) := (by first | assumption | omega | (have q := (OkTris.at hp3 hv_impl_copyMesh_1_0 (of_decide_eq_true (by assumption))).1; omega) | (simp_all <;> omega))
   have y_2 : ([] : List Int).length + (m_0.Triangles.getD x_l0.toNat default).length ≤ 1073741824 := (by first | assumption | omega | (have q := (OkTris.at hp3 hv_impl_copyMesh_1_0 (of_decide_eq_true (by assumption))).1; omega) | (simp_all <;> omega))
   have y_3 : r4_l1.length + [(([] : List Int) ++ (m_0.Triangles.getD x_l0.toNat default))].length ≤ 1073741824 := (by first | assumption | omega | (have q := (OkTris.at hp3 hv_impl_copyMesh_1_0 (of_decide_eq_true (by assumption))).1; omega) | (simp_all <;> omega))
   have y_4 : (-9223372036854775808 : Int) ≤ (x_l0 + 1) := (by first | assumption | omega | (have q := (OkTris.at hp3 hv_impl_copyMesh_1_0 (of_decide_eq_true (by assumption))).1; omega) | (simp_all <;> omega))
   have y_5 : (x_l0 + 1) ≤ (9223372036854775807 : Int) := (by first | assumption | omega | (have q := (OkTris.at hp3 hv_impl_copyMesh_1_0 (of_decide_eq_true (by assumption))).1; omega) | (simp_all <;> omega))
   have e : lo_impl_copyMesh_1 m_0 (k + 1) x_l0 r4_l1 = (lo_impl_copyMesh_1 m_0 k (x_l0 + 1) (r4_l1 ++ [(([] : List Int) ++ (m_0.Triangles.getD x_l0.toNat default))])) := by simp only [lo_impl_copyMesh_1, h_0, cond_true]
   rw [e]
   exact nextS E0Ok hMixed [] mk_impl_copyMesh_1_0 [0, 1, 2, 3, 4] (⟨[.agg [.sl (m_0.Places.map GVector.cells), .sl (m_0.Triangles.map (cL (cI .i64)))], .ptr 0 0 0, .ptr 1 0 0, .ptr 3 0 0, .any, .any, .any, .ptr 0 0 0, .sl (m_0.Places.map GVector.cells), .own 2, .agg [.own 2, .nils], .ptr 0 0 1, .sl (m_0.Triangles.map (cL (cI .i64))), .i .i64 (m_0.Triangles.length : Int), .i .i64 (x_l0 + 1), .any, .any, .any, .any, .any, .any, .any, .any, .any, .any, .any, .any, .any], [.box 42 [.sl (m_0.Places.map GVector.cells), .sl (m_0.Triangles.map (cL (cI .i64)))], .box 42 [.nils, .nils], .vec 44 3 (([] : List (List AV)) ++ (m_0.Places.map GVector.cells)) false, .box 42 [.own 2, .own 4], .nest 52 ((r4_l1.map fun l => l.map (cI .i64)) ++ [(([] : List (List AV)) ++ ((m_0.Triangles.getD x_l0.toNat default).map (cI .i64)))]) false]⟩) (sB h_0 <| sG (cL (cI .i64)) m_0.Triangles x_l0 y_0 y_1 <| sK [6, 6] <| sC (show ((m_0.Triangles.getD x_l0.toNat default).map (cI .i64)) ≠ [] from (by have q := (OkTris.at hp3 hv_impl_copyMesh_1_0 (of_decide_eq_true (by assumption))).1; have q2 : (m_0.Triangles.getD x_l0.toNat default) ≠ [] := (by intro hq; rw [hq] at q; simp at q); simpa using q2)) <| sC (show ([] : List (List AV)).length + ((m_0.Triangles.getD x_l0.toNat default).map (cI .i64)).length ≤ 1073741824 from (by simpa using y_2)) <| sC (show ((m_0.Triangles.getD x_l0.toNat default).map (cI .i64)).all (fun cs => cs.length == 1 && cs.all isS) = true from (src_ok (fun _ => rfl))) <| sC (show (r4_l1.map fun l => l.map (cI .i64)).length + [(([] : List (List AV)) ++ ((m_0.Triangles.getD x_l0.toNat default).map (cI .i64)))].length ≤ 1073741824 from (by simpa using y_3)) <| sI (x_l0 + 1) y_4 y_5 <| sN) (by kernel_rfl) (show _ = ⟨[.agg [.sl (m_0.Places.map GVector.cells), .sl (m_0.Triangles.map (cL (cI .i64)))], .ptr 0 0 0, .ptr 1 0 0, .ptr 3 0 0, .any, .any, .any, .ptr 0 0 0, .sl (m_0.Places.map GVector.cells), .own 2, .agg [.own 2, .nils], .ptr 0 0 1, .sl (m_0.Triangles.map (cL (cI .i64))), .i .i64 (m_0.Triangles.length : Int), .i .i64 (x_l0 + 1), .any, .any, .any, .any, .any, .any, .any, .any, .any, .any, .any, .any, .any], [.box 42 [.sl (m_0.Places.map GVector.cells), .sl (m_0.Triangles.map (cL (cI .i64)))], .box 42 [.nils, .nils], .vec 44 3 (([] : List (List AV)) ++ (m_0.Places.map GVector.cells)) false, .box 42 [.own 2, .own 4], .nest 52 ((r4_l1 ++ [(([] : List Int) ++ (m_0.Triangles.getD x_l0.toNat default))]).map fun l => l.map (cI .i64)) false]⟩ from (by simp [GVector.cells, cL])) (ih (x_l0 + 1) (r4_l1 ++ [(([] : List Int) ++ (m_0.Triangles.getD x_l0.toNat default))]) (show 0 ≤ (x_l0 + 1) from (by first | assumption | omega | (have q := (OkTris.at hp3 hv_impl_copyMesh_1_0 (of_decide_eq_true (by assumption))).1; omega) | (simp_all <;> omega))) (show ((r4_l1 ++ [(([] : List Int) ++ (m_0.Triangles.getD x_l0.toNat default))]).length : Int) = (x_l0 + 1) from (by first | assumption | omega | (have q := (OkTris.at hp3 hv_impl_copyMesh_1_0 (of_decide_eq_true (by assumption))).1; omega) | (simp_all <;> omega))) (by first | assumption | omega | (have q := (OkTris.at hp3 hv_impl_copyMesh_1_0 (of_decide_eq_true (by assumption))).1; omega) | (simp_all <;> omega)))
  | false =>
   have gh_0 := of_decide_eq_false h_0
   have e : lo_impl_copyMesh_1 m_0 (k + 1) x_l0 r4_l1 = r4_l1 := by simp only [lo_impl_copyMesh_1, h_0, cond_false]
   rw [e]
   exact outR (e := (.exit 0)) E0Ok hMixed [] mk_impl_copyMesh_1_1 [0, 1, 3, 2, 4] (sB h_0 <| sN) (by kernel_rfl) (by intro h; cases h)

def lr_impl_copyMesh_1_0 (m_0 : GMesh) : (List (List Int)) := (lo_impl_copyMesh_1 m_0 (((m_0.Triangles.length : Int) - 0).toNat + 1) 0 ([] : List (List Int)))

def v_impl_copyMesh (m_0 : GMesh) : GMesh := (⟨(([] : List GVector) ++ m_0.Places), (lr_impl_copyMesh_1_0 m_0)⟩ : GMesh)

theorem t_impl_copyMesh (m_0 : GMesh) (hp0 : m_0.Places.length ≤ 1073741824) (hp1 : m_0.Triangles.length ≤ 1073741824) (hp2 : ∀ t ∈ m_0.Triangles, t.length ≤ 1073741824) (hp3 : OkTris m_0.Places.length m_0.Triangles)  : Fn prog 100 [.agg [.sl (m_0.Places.map GVector.cells), .sl (m_0.Triangles.map (cL (cI .i64)))]] (.agg [.own 0, .own 1]) [.vec 44 3 (((v_impl_copyMesh m_0).Places).map GVector.cells) false, .nest 52 (((v_impl_copyMesh m_0).Triangles).map fun l => l.map (cI .i64)) false] := by
 have y0 : ([] : List GVector).length + m_0.Places.length ≤ 1073741824 := (by first | assumption | omega | (have q := (OkTris.at hp3 hv_impl_copyMesh_1_0 (of_decide_eq_true (by assumption))).1; omega) | (simp_all <;> omega))
 refine fnS E0Ok hMixed (c := bodyOf f100) [] (.agg [.own 0, .own 1]) [.vec 44 3 (([] : List (List AV)) ++ (m_0.Places.map GVector.cells)) false, .nest 52 ((lr_impl_copyMesh_1_0 m_0).map fun l => l.map (cI .i64)) false] func100 (sC (show ([] : List (List AV)).length + (m_0.Places.map GVector.cells).length ≤ 1073741824 from (by simpa using y0)) <| sC (show (m_0.Places.map GVector.cells).all (fun cs => cs.length == 3 && cs.all isS) = true from (src_ok (fun _ => rfl))) <| sZ (cL (cI .i64)) m_0.Triangles <| sL mk_impl_copyMesh_1_0 4 (Lp.nil (st := ⟨[.agg [.sl (m_0.Places.map GVector.cells), .sl (m_0.Triangles.map (cL (cI .i64)))], .ptr 0 0 0, .ptr 1 0 0, .ptr 3 0 0, .any, .any, .any, .ptr 0 0 0, .sl (m_0.Places.map GVector.cells), .own 2, .agg [.own 2, .nils], .ptr 0 0 1, .sl (m_0.Triangles.map (cL (cI .i64))), .i .i64 (m_0.Triangles.length : Int), .i .i64 0, .any, .any, .any, .any, .any, .any, .any, .any, .any, .any, .any, .any, .any], [.box 42 [.sl (m_0.Places.map GVector.cells), .sl (m_0.Triangles.map (cL (cI .i64)))], .box 42 [.nils, .nils], .vec 44 3 (([] : List (List AV)) ++ (m_0.Places.map GVector.cells)) false, .box 42 [.own 2, .nils]]⟩) (st2 := ⟨[.agg [.sl (m_0.Places.map GVector.cells), .sl (m_0.Triangles.map (cL (cI .i64)))], .ptr 0 0 0, .ptr 1 0 0, .ptr 3 0 0, .any, .any, .any, .ptr 0 0 0, .sl (m_0.Places.map GVector.cells), .own 2, .agg [.own 2, .nils], .ptr 0 0 1, .sl (m_0.Triangles.map (cL (cI .i64))), .i .i64 (m_0.Triangles.length : Int), .i .i64 0, .any, .any, .any, .any, .any, .any, .any, .any, .any, .any, .any, .any, .any], [.box 42 [.sl (m_0.Places.map GVector.cells), .sl (m_0.Triangles.map (cL (cI .i64)))], .box 42 [.nils, .nils], .vec 44 3 (([] : List (List AV)) ++ (m_0.Places.map GVector.cells)) false, .box 42 [.own 2, .own 4], .nest 52 [] false]⟩) (ps := [(.row 3 1, .nest 52 [] false)]) rfl (lp_cast (st2 := ⟨[.agg [.sl (m_0.Places.map GVector.cells), .sl (m_0.Triangles.map (cL (cI .i64)))], .ptr 0 0 0, .ptr 1 0 0, .ptr 3 0 0, .any, .any, .any, .ptr 0 0 0, .sl (m_0.Places.map GVector.cells), .own 2, .agg [.own 2, .nils], .ptr 0 0 1, .sl (m_0.Triangles.map (cL (cI .i64))), .i .i64 (m_0.Triangles.length : Int), .i .i64 0, .any, .any, .any, .any, .any, .any, .any, .any, .any, .any, .any, .any, .any], [.box 42 [.sl (m_0.Places.map GVector.cells), .sl (m_0.Triangles.map (cL (cI .i64)))], .box 42 [.nils, .nils], .vec 44 3 (([] : List (List AV)) ++ (m_0.Places.map GVector.cells)) false, .box 42 [.own 2, .own 4], .nest 52 [] false]⟩) (lp_val (ls_impl_copyMesh_1 m_0) (x := (lr_impl_copyMesh_1_0 m_0)) (lp_impl_copyMesh_1 m_0 hp0 hp1 hp2 hp3 (((m_0.Triangles.length : Int) - 0).toNat + 1) 0 ([] : List (List Int)) (show 0 ≤ 0 from (by first | assumption | omega | (have q := (OkTris.at hp3 hv_impl_copyMesh_1_0 (of_decide_eq_true (by assumption))).1; omega) | (simp_all <;> omega))) (show (([] : List (List Int)).length : Int) = 0 from (by simp)) (Nat.lt_succ_self _)) rfl) (by simp [hd_impl_copyMesh_1, GVector.cells, cL]))) <| sK [3, 4] sN) rfl (by kernel_rfl) (by kernel_rfl) rfl ?_ ?_
 · rfl
 · simp [v_impl_copyMesh, GVector.cells]

@[simp] theorem eq_copyMesh (m : GMesh) : v_impl_copyMesh m = m := by
  unfold v_impl_copyMesh lr_impl_copyMesh_1_0
  rw [app_loop (f := fun i => (m.Triangles.getD i.toNat default)) (n := (m.Triangles.length : Int)) (lo := lo_impl_copyMesh_1 m) (fun k i r => rfl) _ _ _ (Nat.lt_succ_self _)]
  simp [getD_range2]

theorem i_impl_copyMesh (m_0 : GMesh) (hp0 : m_0.Places.length ≤ 1073741824) (hp1 : m_0.Triangles.length ≤ 1073741824) (hp2 : ∀ t ∈ m_0.Triangles, t.length ≤ 1073741824) (hp3 : OkTris m_0.Places.length m_0.Triangles) : Fn prog 100 [.agg [.sl (m_0.Places.map GVector.cells), .sl (m_0.Triangles.map (cL (cI .i64)))]] (.agg [.own 0, .own 1]) [.vec 44 3 (m_0.Places.map GVector.cells) false, .nest 52 (m_0.Triangles.map fun l => l.map (cI .i64)) false] := by
 simpa only [eq_copyMesh] using t_impl_copyMesh  m_0 hp0 hp1 hp2 hp3

def v_impl_copyBody (b_0 : GBody) : GBody := (⟨b_0.Mesh, (([] : List GSpring) ++ b_0.Springs), b_0.Film, b_0.Bend, (([] : List Nat) ++ b_0.Weights), b_0.Fall⟩ : GBody)

theorem t_impl_copyBody (b_0 : GBody) (hp0 : b_0.Mesh.Places.length ≤ 1073741824) (hp1 : b_0.Mesh.Triangles.length ≤ 1073741824) (hp2 : ∀ t ∈ b_0.Mesh.Triangles, t.length ≤ 1073741824) (hp3 : b_0.Springs.length ≤ 1073741824) (hp4 : b_0.Weights.length ≤ 1073741824) (hp5 : OkTris b_0.Mesh.Places.length b_0.Mesh.Triangles)  : Fn prog 127 [.agg [.sl (b_0.Mesh.Places.map GVector.cells), .sl (b_0.Mesh.Triangles.map (cL (cI .i64))), .sl (b_0.Springs.map GSpring.cells), .f .f32 b_0.Film, .f .f32 b_0.Bend, .sl (b_0.Weights.map (cF .f32)), .f .f32 b_0.Fall.X, .f .f32 b_0.Fall.Y, .f .f32 b_0.Fall.Z]] (.agg [.own 0, .own 1, .own 2, .f .f32 ((v_impl_copyBody b_0).Film), .f .f32 ((v_impl_copyBody b_0).Bend), .own 3, .f .f32 ((v_impl_copyBody b_0).Fall.X), .f .f32 ((v_impl_copyBody b_0).Fall.Y), .f .f32 ((v_impl_copyBody b_0).Fall.Z)]) [.vec 44 3 (((v_impl_copyBody b_0).Mesh.Places).map GVector.cells) false, .nest 52 (((v_impl_copyBody b_0).Mesh.Triangles).map fun l => l.map (cI .i64)) false, .vec 105 4 (((v_impl_copyBody b_0).Springs).map GSpring.cells) false, .vec 22 1 (((v_impl_copyBody b_0).Weights).map (cF .f32)) false] := by
 have y0 : ([] : List GSpring).length + b_0.Springs.length ≤ 1073741824 := (by first | assumption | omega | (simp_all <;> omega))
 have y1 : ([] : List Nat).length + b_0.Weights.length ≤ 1073741824 := (by first | assumption | omega | (simp_all <;> omega))
 refine fnS E0Ok hMixed (c := bodyOf f127) [] (.agg [.own 0, .own 1, .own 2, .f .f32 b_0.Film, .f .f32 b_0.Bend, .own 3, .f .f32 b_0.Fall.X, .f .f32 b_0.Fall.Y, .f .f32 b_0.Fall.Z]) [.vec 44 3 (b_0.Mesh.Places.map GVector.cells) false, .nest 52 (b_0.Mesh.Triangles.map fun l => l.map (cI .i64)) false, .vec 105 4 (([] : List (List AV)) ++ (b_0.Springs.map GSpring.cells)) false, .vec 22 1 (([] : List (List AV)) ++ (b_0.Weights.map (cF .f32))) false] func127 (sF (i_impl_copyMesh b_0.Mesh hp0 hp1 hp2 hp5) <| sC (show ([] : List (List AV)).length + (b_0.Springs.map GSpring.cells).length ≤ 1073741824 from (by simpa using y0)) <| sC (show (b_0.Springs.map GSpring.cells).all (fun cs => cs.length == 4 && cs.all isS) = true from (src_ok (fun _ => rfl))) <| sC (show ([] : List (List AV)).length + (b_0.Weights.map (cF .f32)).length ≤ 1073741824 from (by simpa using y1)) <| sC (show (b_0.Weights.map (cF .f32)).all (fun cs => cs.length == 1 && cs.all isS) = true from (src_ok (fun _ => rfl))) <| sK [2, 3, 4, 5] sN) rfl (by kernel_rfl) (by kernel_rfl) rfl ?_ ?_
 · rfl
 · simp [v_impl_copyBody, GSpring.cells, cF]

@[simp] theorem eq_copyBody (b : GBody) : v_impl_copyBody b = b := by simp [v_impl_copyBody]

theorem i_impl_copyBody (b_0 : GBody) (hp0 : b_0.Mesh.Places.length ≤ 1073741824) (hp1 : b_0.Mesh.Triangles.length ≤ 1073741824) (hp2 : ∀ t ∈ b_0.Mesh.Triangles, t.length ≤ 1073741824) (hp3 : b_0.Springs.length ≤ 1073741824) (hp4 : b_0.Weights.length ≤ 1073741824) (hp5 : OkTris b_0.Mesh.Places.length b_0.Mesh.Triangles) : Fn prog 127 [.agg [.sl (b_0.Mesh.Places.map GVector.cells), .sl (b_0.Mesh.Triangles.map (cL (cI .i64))), .sl (b_0.Springs.map GSpring.cells), .f .f32 b_0.Film, .f .f32 b_0.Bend, .sl (b_0.Weights.map (cF .f32)), .f .f32 b_0.Fall.X, .f .f32 b_0.Fall.Y, .f .f32 b_0.Fall.Z]] (.agg [.own 0, .own 1, .own 2, .f .f32 b_0.Film, .f .f32 b_0.Bend, .own 3, .f .f32 b_0.Fall.X, .f .f32 b_0.Fall.Y, .f .f32 b_0.Fall.Z]) [.vec 44 3 (b_0.Mesh.Places.map GVector.cells) false, .nest 52 (b_0.Mesh.Triangles.map fun l => l.map (cI .i64)) false, .vec 105 4 (b_0.Springs.map GSpring.cells) false, .vec 22 1 (b_0.Weights.map (cF .f32)) false] := by
 simpa only [eq_copyBody] using t_impl_copyBody  b_0 hp0 hp1 hp2 hp3 hp4 hp5

def v_impl_StillMotion (b_0 : GBody) : GMotion × Bool := (cond (v_impl_ValidBody b_0)
  ((⟨b_0, (List.replicate (b_0.Mesh.Places.length : Int).toNat (⟨0, 0, 0⟩ : GVector))⟩ : GMotion), true)
  ((⟨(⟨(⟨([] : List GVector), ([] : List (List Int))⟩ : GMesh), ([] : List GSpring), 0, 0, ([] : List Nat), (⟨0, 0, 0⟩ : GVector)⟩ : GBody), ([] : List GVector)⟩ : GMotion), false))

theorem leP_impl_StillMotion (b : GBody) : (v_impl_StillMotion b).1.Body.Mesh.Places.length ≤ b.Mesh.Places.length := by
  unfold v_impl_StillMotion
  cases v_impl_ValidBody b <;> simp

theorem leT_impl_StillMotion (b : GBody) : (v_impl_StillMotion b).1.Body.Mesh.Triangles.length ≤ b.Mesh.Triangles.length := by
  unfold v_impl_StillMotion
  cases v_impl_ValidBody b <;> simp

theorem leW_impl_StillMotion (b : GBody) : (v_impl_StillMotion b).1.Body.Weights.length ≤ b.Weights.length := by
  unfold v_impl_StillMotion
  cases v_impl_ValidBody b <;> simp

theorem leS_impl_StillMotion (b : GBody) : (v_impl_StillMotion b).1.Body.Springs.length ≤ b.Springs.length := by
  unfold v_impl_StillMotion
  cases v_impl_ValidBody b <;> simp

theorem mem_impl_StillMotion (b : GBody) : ∀ t ∈ (v_impl_StillMotion b).1.Body.Mesh.Triangles, t ∈ b.Mesh.Triangles := by
  unfold v_impl_StillMotion
  cases v_impl_ValidBody b <;> simp

theorem leV_impl_StillMotion (b : GBody) : (v_impl_StillMotion b).1.Speeds.length ≤ b.Mesh.Places.length := by
  unfold v_impl_StillMotion
  cases v_impl_ValidBody b <;> simp

theorem t_impl_StillMotion (b_0 : GBody) (hp0 : b_0.Mesh.Places.length ≤ 1073741824) (hp1 : b_0.Mesh.Triangles.length ≤ 1073741824) (hp2 : ∀ t ∈ b_0.Mesh.Triangles, t.length ≤ 1073741824) (hp3 : b_0.Springs.length ≤ 1073741824) (hp4 : b_0.Weights.length ≤ 1073741824)  : Fn prog 53 [.agg [.sl (b_0.Mesh.Places.map GVector.cells), .sl (b_0.Mesh.Triangles.map (cL (cI .i64))), .sl (b_0.Springs.map GSpring.cells), .f .f32 b_0.Film, .f .f32 b_0.Bend, .sl (b_0.Weights.map (cF .f32)), .f .f32 b_0.Fall.X, .f .f32 b_0.Fall.Y, .f .f32 b_0.Fall.Z]] (.tup [.agg [.own 0, .own 1, .own 2, .f .f32 ((v_impl_StillMotion b_0).1.Body.Film), .f .f32 ((v_impl_StillMotion b_0).1.Body.Bend), .own 3, .f .f32 ((v_impl_StillMotion b_0).1.Body.Fall.X), .f .f32 ((v_impl_StillMotion b_0).1.Body.Fall.Y), .f .f32 ((v_impl_StillMotion b_0).1.Body.Fall.Z), .own 4], .b ((v_impl_StillMotion b_0).2)]) [.vec 44 3 (((v_impl_StillMotion b_0).1.Body.Mesh.Places).map GVector.cells) false, .nest 52 (((v_impl_StillMotion b_0).1.Body.Mesh.Triangles).map fun l => l.map (cI .i64)) false, .vec 105 4 (((v_impl_StillMotion b_0).1.Body.Springs).map GSpring.cells) false, .vec 22 1 (((v_impl_StillMotion b_0).1.Body.Weights).map (cF .f32)) false, .vec 44 3 (((v_impl_StillMotion b_0).1.Speeds).map GVector.cells) false] := by
 have p {a C} (s : Scr a C) := sF (t_impl_ValidBody b_0 hp0 hp1 hp2 hp3 hp4) <| s
 cases h0 : (v_impl_ValidBody b_0) with
 | true =>
  have y0 : OkTris b_0.Mesh.Places.length b_0.Mesh.Triangles := by clear p; exact (by first | assumption | omega | exact okTris_is _ (okMesh_is _ (by rw [← eq_ValidBody]; assumption)))
  have y1 : (0 : Int) ≤ (b_0.Mesh.Places.length : Int) := by clear p; exact (by first | assumption | omega | (simp_all <;> omega))
  have y2 : ((b_0.Mesh.Places.length : Int) : Int) ≤ 2147483648 := by clear p; exact (by first | assumption | omega | (simp_all <;> omega))
  refine fnS E0Ok hMixed (c := bodyOf f53) [] (.tup [.agg [.own 0, .own 1, .own 2, .f .f32 b_0.Film, .f .f32 b_0.Bend, .own 3, .f .f32 b_0.Fall.X, .f .f32 b_0.Fall.Y, .f .f32 b_0.Fall.Z, .own 4], .b true]) [.vec 44 3 (b_0.Mesh.Places.map GVector.cells) false, .nest 52 (b_0.Mesh.Triangles.map fun l => l.map (cI .i64)) false, .vec 105 4 (b_0.Springs.map GSpring.cells) false, .vec 22 1 (b_0.Weights.map (cF .f32)) false, .vec 44 3 (List.replicate (Int.toNat (b_0.Mesh.Places.length : Int)) [.f .f32 0, .f .f32 0, .f .f32 0]) false] func53 (p (sB' h0 <| sK [7, 7] <| sF (i_impl_copyBody b_0 hp0 hp1 hp2 hp3 hp4 y0) <| sZ GVector.cells b_0.Mesh.Places <| sC (show (b_0.Mesh.Places.length : Int) = (b_0.Mesh.Places.length : Int) from rfl) <| sC y1 <| sC y2 <| sK [2, 3, 4, 5, 6] sN)) rfl (by kernel_rfl) (by kernel_rfl) rfl ?_ ?_
  · simp only [v_impl_StillMotion, h0, cond_true]
  · simp [v_impl_StillMotion, h0, GVector.cells]
 | false =>
  refine fnS E0Ok hMixed (c := bodyOf f53) [(.row 1 0, .vec 44 3 [] false), (.row 1 1, .nest 52 [] false), (.row 1 2, .vec 105 4 [] false), (.row 1 5, .vec 22 1 [] false), (.row 1 9, .vec 44 3 [] false)] (.tup [.agg [.own 0, .own 1, .own 2, .f .f32 0, .f .f32 0, .own 3, .f .f32 0, .f .f32 0, .f .f32 0, .own 4], .b false]) [.vec 44 3 [] false, .nest 52 [] false, .vec 105 4 [] false, .vec 22 1 [] false, .vec 44 3 [] false] func53 (p (sB' h0 <| sK [2, 3, 4, 5, 6] sN)) rfl (by kernel_rfl) (by kernel_rfl) rfl ?_ ?_
  · simp only [v_impl_StillMotion, h0, cond_false]
  · simp [v_impl_StillMotion, h0, GVector.cells, cL, GSpring.cells, cF]

def v_laws_sameFloat (a_0 : Nat) (b_1 : Nat) : Bool := (cond (fcmp .neq .f64 a_0 a_0)
  (fcmp .neq .f64 b_1 b_1)
  (cond (fcmp .neq .f64 b_1 b_1)
    false
    (cond (fcmp .eql .f64 a_0 0)
      (cond (fcmp .eql .f64 b_1 0)
        ((fcmp .gtr .f64 (fop .quo .f64 4607182418800017408 a_0) 0) == (fcmp .gtr .f64 (fop .quo .f64 4607182418800017408 b_1) 0))
        (fcmp .eql .f64 a_0 b_1))
      (fcmp .eql .f64 a_0 b_1))))

theorem t_laws_sameFloat (a_0 : Nat) (b_1 : Nat)   : Fn prog 17 [.f .f64 a_0, .f .f64 b_1] (.b (v_laws_sameFloat a_0 b_1)) [] := by
 cases h0 : (fcmp .neq .f64 a_0 a_0) with
 | true =>
  refine fnS E0Ok hMixed (c := bodyOf f17) [] (.b (fcmp .neq .f64 b_1 b_1)) [] func17 (sB h0 <| sB h0 <| sB h0 <| sB h0 <| sB (show true = true from rfl) <| sB h0 <| sB h0 <| sB h0 <| sB h0 <| sK [] sN) rfl (by kernel_rfl) (by kernel_rfl) rfl ?_ ?_
  · simp only [v_laws_sameFloat, h0, cond_true]
  · rfl
 | false =>
  have p {a C} (s : Scr a C) := sB h0 <| sB h0 <| sB h0 <| sB h0 <| s
  cases h1 : (fcmp .neq .f64 b_1 b_1) with
  | true =>
   refine fnS E0Ok hMixed (c := bodyOf f17) [] (.b false) [] func17 (p (sB h1 <| sB h0 <| sB h0 <| sB h0 <| sB h0 <| sK [] sN)) rfl (by kernel_rfl) (by kernel_rfl) rfl ?_ ?_
   · simp only [v_laws_sameFloat, h0, h1, cond_true, cond_false]
   · rfl
  | false =>
   have q {a C} (s : Scr a C) := p (sB h1 <| s)
   clear p
   cases h2 : (fcmp .eql .f64 a_0 0) with
   | true =>
    have p {a C} (s : Scr a C) := q (sB h2 <| sB h2 <| sB h2 <| s)
    clear q
    cases h3 : (fcmp .eql .f64 b_1 0) with
    | true =>
     refine fnS E0Ok hMixed (c := bodyOf f17) [] (.b ((fcmp .gtr .f64 (fop .quo .f64 4607182418800017408 a_0) 0) == (fcmp .gtr .f64 (fop .quo .f64 4607182418800017408 b_1) 0))) [] func17 (p (sB h3 <| sK [] sN)) rfl (by kernel_rfl) (by kernel_rfl) rfl ?_ ?_
     · simp only [v_laws_sameFloat, h0, h1, h2, h3, cond_true, cond_false]
     · rfl
    | false =>
     refine fnS E0Ok hMixed (c := bodyOf f17) [] (.b (fcmp .eql .f64 a_0 b_1)) [] func17 (p (sB h3 <| sK [] sN)) rfl (by kernel_rfl) (by kernel_rfl) rfl ?_ ?_
     · simp only [v_laws_sameFloat, h0, h1, h2, h3, cond_true, cond_false]
     · rfl
   | false =>
    refine fnS E0Ok hMixed (c := bodyOf f17) [] (.b (fcmp .eql .f64 a_0 b_1)) [] func17 (q (sB h2 <| sB h2 <| sB h2 <| sB (show false = false from rfl) <| sK [] sN)) rfl (by kernel_rfl) (by kernel_rfl) rfl ?_ ?_
    · simp only [v_laws_sameFloat, h0, h1, h2, cond_false]
    · rfl

theorem same_self (x : Nat) : v_laws_sameFloat x x = true := by
  unfold v_laws_sameFloat
  cases h : fcmp .neq .f64 x x
  · simp only [cond_false]
    have h2 : fcmp .eql .f64 x x = true := by
      unfold fcmp at h ⊢
      simpa using h
    cases fcmp .eql .f64 x 0 <;> simp [h2]
  · rfl

def v_laws_eqVector (a_0 : GVector) (b_1 : GVector) : Bool := (cond (v_laws_sameFloat (fcv .f32 .f64 a_0.X) (fcv .f32 .f64 b_1.X))
  (cond (v_laws_sameFloat (fcv .f32 .f64 a_0.Y) (fcv .f32 .f64 b_1.Y))
    (cond (v_laws_sameFloat (fcv .f32 .f64 a_0.Z) (fcv .f32 .f64 b_1.Z))
      true
      false)
    false)
  false)

theorem t_laws_eqVector (a_0 : GVector) (b_1 : GVector)   : Fn prog 87 [.agg [.f .f32 a_0.X, .f .f32 a_0.Y, .f .f32 a_0.Z], .agg [.f .f32 b_1.X, .f .f32 b_1.Y, .f .f32 b_1.Z]] (.b (v_laws_eqVector a_0 b_1)) [] := by
 have p {a C} (s : Scr a C) := sC (widenOk a_0.X) <| sC (widenOk b_1.X) <| sF (t_laws_sameFloat (fcv .f32 .f64 a_0.X) (fcv .f32 .f64 b_1.X)) <| s
 cases h0 : (v_laws_sameFloat (fcv .f32 .f64 a_0.X) (fcv .f32 .f64 b_1.X)) with
 | true =>
  have q {a C} (s : Scr a C) := p (sB' h0 <| sC (widenOk a_0.Y) <| sC (widenOk b_1.Y) <| sF (t_laws_sameFloat (fcv .f32 .f64 a_0.Y) (fcv .f32 .f64 b_1.Y)) <| s)
  clear p
  cases h1 : (v_laws_sameFloat (fcv .f32 .f64 a_0.Y) (fcv .f32 .f64 b_1.Y)) with
  | true =>
   have p {a C} (s : Scr a C) := q (sB' h1 <| sC (widenOk a_0.Z) <| sC (widenOk b_1.Z) <| sF (t_laws_sameFloat (fcv .f32 .f64 a_0.Z) (fcv .f32 .f64 b_1.Z)) <| s)
   clear q
   cases h2 : (v_laws_sameFloat (fcv .f32 .f64 a_0.Z) (fcv .f32 .f64 b_1.Z)) with
   | true =>
    refine fnS E0Ok hMixed (c := bodyOf f87) [] (.b true) [] func87 (p (sB' h2 <| sK [] sN)) rfl (by kernel_rfl) (by kernel_rfl) rfl ?_ ?_
    · simp only [v_laws_eqVector, h0, h1, h2, cond_true]
    · rfl
   | false =>
    refine fnS E0Ok hMixed (c := bodyOf f87) [] (.b false) [] func87 (p (sB' h2 <| sK [] sN)) rfl (by kernel_rfl) (by kernel_rfl) rfl ?_ ?_
    · simp only [v_laws_eqVector, h0, h1, h2, cond_true, cond_false]
    · rfl
  | false =>
   refine fnS E0Ok hMixed (c := bodyOf f87) [] (.b false) [] func87 (q (sB' h1 <| sK [] sN)) rfl (by kernel_rfl) (by kernel_rfl) rfl ?_ ?_
   · simp only [v_laws_eqVector, h0, h1, cond_true, cond_false]
   · rfl
 | false =>
  refine fnS E0Ok hMixed (c := bodyOf f87) [] (.b false) [] func87 (p (sB' h0 <| sK [] sN)) rfl (by kernel_rfl) (by kernel_rfl) rfl ?_ ?_
  · simp only [v_laws_eqVector, h0, cond_false]
  · rfl

theorem eqVector_self (a : GVector) : v_laws_eqVector a a = true := by
  simp [v_laws_eqVector, same_self]

def lo_laws_eqVectorS_1 (a_0 : (List GVector)) (b_1 : (List GVector)) : Nat → Int → (Unit) ⊕ (Unit)
  | 0, _ => .inl default
  | k + 1, i_l0 => (cond (decide (i_l0 < (a_0.length : Int)))
    (cond (v_laws_eqVector (a_0.getD i_l0.toNat default) (b_1.getD i_l0.toNat default))
      (lo_laws_eqVectorS_1 a_0 b_1 k (i_l0 + 1))
      (.inl ()))
    (.inr ()))

def ls_laws_eqVectorS_1 (a_0 : (List GVector)) (b_1 : (List GVector)) : (Unit) ⊕ (Unit) → Ex × St
  | .inl r => (.ret, ⟨[.any, .any, .any, .any, .b false, .any, .any, .any, .any, .any, .any, .any, .any, .any, .any, .any, .any, .any, .any, .any, .any, .any, .any, .any, .any, .any, .any], []⟩)
  | .inr r => ((.exit 0), ⟨[.sl (a_0.map GVector.cells), .sl (b_1.map GVector.cells), .any, .any, .any, .any, .sl (a_0.map GVector.cells), .i .i64 (a_0.length : Int), .sl (b_1.map GVector.cells), .i .i64 (b_1.length : Int), .b ((a_0.length : Int) != (b_1.length : Int)), .any, .any, .any, .any, .any, .any, .any, .any, .any, .any, .any, .any, .any, .any, .any, .any], []⟩)

def hd_laws_eqVectorS_1 (a_0 : (List GVector)) (b_1 : (List GVector)) (i_l0 : Int) : St := ⟨[.sl (a_0.map GVector.cells), .sl (b_1.map GVector.cells), .any, .any, .any, .i .i64 i_l0, .sl (a_0.map GVector.cells), .i .i64 (a_0.length : Int), .sl (b_1.map GVector.cells), .i .i64 (b_1.length : Int), .b ((a_0.length : Int) != (b_1.length : Int)), .any, .any, .any, .any, .any, .any, .any, .any, .any, .any, .any, .any, .any, .any, .any, .any], []⟩

def mk_laws_eqVectorS_1_0 : List Bool := [true, true, false, false, false, true, true, true, true, true, true, false, false, false, false, false, false, false, false, false, false, false, false, false, false, false, false]

def mk_laws_eqVectorS_1_1 : List Bool := [false, false, false, false, true, false, false, false, false, false, false, false, false, false, false, false, false, false, false, false, false, false, false, false, false, false, false]

def mk_laws_eqVectorS_1_2 : List Bool := [true, true, false, false, false, false, true, true, true, true, true, false, false, false, false, false, false, false, false, false, false, false, false, false, false, false, false]

theorem lp_laws_eqVectorS_1 (a_0 : (List GVector)) (b_1 : (List GVector)) (hp0 : a_0.length ≤ 1073741824) (hp1 : b_1.length ≤ 1073741824) (hf_laws_eqVectorS_1_0 : ((a_0.length : Int) != (b_1.length : Int)) = false) : ∀ (k : Nat) (i_l0 : Int) (hv_laws_eqVectorS_1_0 : 0 ≤ i_l0) (hk : ((a_0.length : Int) - i_l0).toNat < k), Lp prog 0 (sub (bodyOf f40) [1, 1, 0, 1, 0, 0]) (hd_laws_eqVectorS_1 a_0 b_1 i_l0) (ls_laws_eqVectorS_1 a_0 b_1 (lo_laws_eqVectorS_1 a_0 b_1 k i_l0)).1 (ls_laws_eqVectorS_1 a_0 b_1 (lo_laws_eqVectorS_1 a_0 b_1 k i_l0)).2 := by
 intro k
 induction k with
 | zero => intro i_l0 hv_laws_eqVectorS_1_0 hk; exact absurd hk (Nat.not_lt_zero _)
 | succ k ih =>
  intro i_l0 hv_laws_eqVectorS_1_0 hk
  have p {a C} (s : Scr a C) := sZ GVector.cells a_0 <| s
  cases h_0 : (decide (i_l0 < (a_0.length : Int))) with
  | true =>
   have gh_0 := of_decide_eq_true h_0
   have y_0 : (0 : Int) ≤ i_l0 := by clear p; exact (by first | assumption | omega | (simp_all <;> omega))
   have y_1 : i_l0 < (a_0.length : Int) := by clear p; exact (by first | assumption | omega | (simp_all <;> omega))
   have y_2 : i_l0 < (b_1.length : Int) := by clear p; exact (by first | assumption | omega | (simp_all <;> omega))
   have q {a C} (s : Scr a C) := p (sB h_0 <| sK [8, 8] <| sG GVector.cells a_0 i_l0 y_0 y_1 <| sG GVector.cells b_1 i_l0 y_0 y_2 <| sF (t_laws_eqVector (a_0.getD i_l0.toNat default) (b_1.getD i_l0.toNat default)) <| s)
   clear p
   cases h_1 : (v_laws_eqVector (a_0.getD i_l0.toNat default) (b_1.getD i_l0.toNat default)) with
   | true =>
    have y_3 : (-9223372036854775808 : Int) ≤ (i_l0 + 1) := by clear q; exact (by first | assumption | omega | (simp_all <;> omega))
    have y_4 : (i_l0 + 1) ≤ (9223372036854775807 : Int) := by clear q; exact (by first | assumption | omega | (simp_all <;> omega))
    have e : lo_laws_eqVectorS_1 a_0 b_1 (k + 1) i_l0 = (lo_laws_eqVectorS_1 a_0 b_1 k (i_l0 + 1)) := by simp only [lo_laws_eqVectorS_1, h_0, h_1, cond_true]
    rw [e]
    exact nextR E0Ok hMixed [] mk_laws_eqVectorS_1_0 [] (ih (i_l0 + 1) (show 0 ≤ (i_l0 + 1) from (by first | assumption | omega | (simp_all <;> omega))) (by first | assumption | omega | (simp_all <;> omega))) (q (sB' h_1 <| sI (i_l0 + 1) y_3 y_4 <| sN)) (by kernel_rfl)
   | false =>
    have e : lo_laws_eqVectorS_1 a_0 b_1 (k + 1) i_l0 = (.inl ()) := by simp only [lo_laws_eqVectorS_1, h_0, h_1, cond_true, cond_false]
    rw [e]
    exact outR (e := .ret) E0Ok hMixed [] mk_laws_eqVectorS_1_1 [] (q (sB' h_1 <| sN)) (by kernel_rfl) (by intro h; cases h)
  | false =>
   have gh_0 := of_decide_eq_false h_0
   have e : lo_laws_eqVectorS_1 a_0 b_1 (k + 1) i_l0 = (.inr ()) := by simp only [lo_laws_eqVectorS_1, h_0, cond_false]
   rw [e]
   exact outR (e := (.exit 0)) E0Ok hMixed [] mk_laws_eqVectorS_1_2 [] (p (sB h_0 <| sN)) (by kernel_rfl) (by intro h; cases h)

def lr_laws_eqVectorS_1_0 (a_0 : (List GVector)) (b_1 : (List GVector)) : (Unit) ⊕ (Unit) := (lo_laws_eqVectorS_1 a_0 b_1 (((a_0.length : Int) - 0).toNat + 1) 0)

def v_laws_eqVectorS (a_0 : (List GVector)) (b_1 : (List GVector)) : Bool := (cond ((a_0.length : Int) != (b_1.length : Int))
  false
  (match (lr_laws_eqVectorS_1_0 a_0 b_1) with
    | .inl r2 => false
    | .inr r2 => true))

theorem t_laws_eqVectorS (a_0 : (List GVector)) (b_1 : (List GVector)) (hp0 : a_0.length ≤ 1073741824) (hp1 : b_1.length ≤ 1073741824)  : Fn prog 40 [.sl (a_0.map GVector.cells), .sl (b_1.map GVector.cells)] (.b (v_laws_eqVectorS a_0 b_1)) [] := by
 have p {a C} (s : Scr a C) := sZ GVector.cells a_0 <| sZ GVector.cells b_1 <| s
 cases h0 : ((a_0.length : Int) != (b_1.length : Int)) with
 | true =>
  have gh0 := bne_iff_ne.1 h0
  refine fnS E0Ok hMixed (c := bodyOf f40) [] (.b false) [] func40 (p (sB h0 <| sK [] sN)) rfl (by kernel_rfl) (by kernel_rfl) rfl ?_ ?_
  · simp only [v_laws_eqVectorS, h0, cond_true]
  · rfl
 | false =>
  have gh0 := bne_eq_false_iff_eq.1 h0
  have q {a C} (s : Scr a C) := p (sB h0 <| s)
  clear p
  cases h1 : (lr_laws_eqVectorS_1_0 a_0 b_1) with
  | inl r2 =>
   refine fnS E0Ok hMixed (c := bodyOf f40) [] (.b false) [] func40 (q (sL mk_laws_eqVectorS_1_0 0 (lp_val (ls_laws_eqVectorS_1 a_0 b_1) (x := (lr_laws_eqVectorS_1_0 a_0 b_1)) (lp_laws_eqVectorS_1 a_0 b_1 hp0 hp1 h0 (((a_0.length : Int) - 0).toNat + 1) 0 (show 0 ≤ 0 from (by first | assumption | omega | (simp_all <;> omega))) (Nat.lt_succ_self _)) h1) <| sK [] sN)) rfl (by kernel_rfl) (by kernel_rfl) rfl ?_ ?_
   · simp only [v_laws_eqVectorS, h0, h1, cond_false]
   · rfl
  | inr r2 =>
   refine fnS E0Ok hMixed (c := bodyOf f40) [] (.b true) [] func40 (q (sL mk_laws_eqVectorS_1_0 0 (lp_val (ls_laws_eqVectorS_1 a_0 b_1) (x := (lr_laws_eqVectorS_1_0 a_0 b_1)) (lp_laws_eqVectorS_1 a_0 b_1 hp0 hp1 h0 (((a_0.length : Int) - 0).toNat + 1) 0 (show 0 ≤ 0 from (by first | assumption | omega | (simp_all <;> omega))) (Nat.lt_succ_self _)) h1) <| sK [] sN)) rfl (by kernel_rfl) (by kernel_rfl) rfl ?_ ?_
   · simp only [v_laws_eqVectorS, h0, h1, cond_false]
   · rfl

theorem eqVectorS_self (a : List GVector) : v_laws_eqVectorS a a = true := by
  unfold v_laws_eqVectorS lr_laws_eqVectorS_1_0
  rw [all_loop (a := a) (p := fun v => v_laws_eqVector v v) (lo := lo_laws_eqVectorS_1 a a) (x := ()) (y := ()) (fun k i => rfl) (fun v _ => eqVector_self v) _ _ (Int.le_refl 0) (Nat.lt_succ_self _)]
  simp

def lo_laws_eqInt64S_1 (a_0 : (List Int)) (b_1 : (List Int)) : Nat → Int → (Unit) ⊕ (Unit)
  | 0, _ => .inl default
  | k + 1, i_l0 => (cond (decide (i_l0 < (a_0.length : Int)))
    (cond ((a_0.getD i_l0.toNat default) != (b_1.getD i_l0.toNat default))
      (.inl ())
      (lo_laws_eqInt64S_1 a_0 b_1 k (i_l0 + 1)))
    (.inr ()))

def ls_laws_eqInt64S_1 (a_0 : (List Int)) (b_1 : (List Int)) : (Unit) ⊕ (Unit) → Ex × St
  | .inl r => (.ret, ⟨[.any, .any, .any, .any, .b false, .any, .any, .any, .any, .any, .any, .any, .any, .any, .any, .any, .any, .any, .any, .any, .any, .any, .any, .any, .any, .any], []⟩)
  | .inr r => ((.exit 0), ⟨[.sl (a_0.map (cI .i64)), .sl (b_1.map (cI .i64)), .any, .any, .any, .any, .sl (a_0.map (cI .i64)), .i .i64 (a_0.length : Int), .sl (b_1.map (cI .i64)), .i .i64 (b_1.length : Int), .b ((a_0.length : Int) != (b_1.length : Int)), .any, .any, .any, .any, .any, .any, .any, .any, .any, .any, .any, .any, .any, .any, .any], []⟩)

def hd_laws_eqInt64S_1 (a_0 : (List Int)) (b_1 : (List Int)) (i_l0 : Int) : St := ⟨[.sl (a_0.map (cI .i64)), .sl (b_1.map (cI .i64)), .any, .any, .any, .i .i64 i_l0, .sl (a_0.map (cI .i64)), .i .i64 (a_0.length : Int), .sl (b_1.map (cI .i64)), .i .i64 (b_1.length : Int), .b ((a_0.length : Int) != (b_1.length : Int)), .any, .any, .any, .any, .any, .any, .any, .any, .any, .any, .any, .any, .any, .any, .any], []⟩

def mk_laws_eqInt64S_1_0 : List Bool := [true, true, false, false, false, true, true, true, true, true, true, false, false, false, false, false, false, false, false, false, false, false, false, false, false, false]

def mk_laws_eqInt64S_1_1 : List Bool := [false, false, false, false, true, false, false, false, false, false, false, false, false, false, false, false, false, false, false, false, false, false, false, false, false, false]

def mk_laws_eqInt64S_1_2 : List Bool := [true, true, false, false, false, false, true, true, true, true, true, false, false, false, false, false, false, false, false, false, false, false, false, false, false, false]

theorem lp_laws_eqInt64S_1 (a_0 : (List Int)) (b_1 : (List Int)) (hp0 : a_0.length ≤ 1073741824) (hp1 : b_1.length ≤ 1073741824) (hf_laws_eqInt64S_1_0 : ((a_0.length : Int) != (b_1.length : Int)) = false) : ∀ (k : Nat) (i_l0 : Int) (hv_laws_eqInt64S_1_0 : 0 ≤ i_l0) (hk : ((a_0.length : Int) - i_l0).toNat < k), Lp prog 0 (sub (bodyOf f29) [1, 1, 0, 1, 0, 0]) (hd_laws_eqInt64S_1 a_0 b_1 i_l0) (ls_laws_eqInt64S_1 a_0 b_1 (lo_laws_eqInt64S_1 a_0 b_1 k i_l0)).1 (ls_laws_eqInt64S_1 a_0 b_1 (lo_laws_eqInt64S_1 a_0 b_1 k i_l0)).2 := by
 intro k
 induction k with
 | zero => intro i_l0 hv_laws_eqInt64S_1_0 hk; exact absurd hk (Nat.not_lt_zero _)
 | succ k ih =>
  intro i_l0 hv_laws_eqInt64S_1_0 hk
  have p {a C} (s : Scr a C) := sZ (cI .i64) a_0 <| s
  cases h_0 : (decide (i_l0 < (a_0.length : Int))) with
  | true =>
   have gh_0 := of_decide_eq_true h_0
   have y_0 : (0 : Int) ≤ i_l0 := by clear p; exact (by first | assumption | omega | (simp_all <;> omega))
   have y_1 : i_l0 < (a_0.length : Int) := by clear p; exact (by first | assumption | omega | (simp_all <;> omega))
   have y_2 : i_l0 < (b_1.length : Int) := by clear p; exact (by first | assumption | omega | (simp_all <;> omega))
   have q {a C} (s : Scr a C) := p (sB h_0 <| sK [8, 8] <| sG (cI .i64) a_0 i_l0 y_0 y_1 <| sG (cI .i64) b_1 i_l0 y_0 y_2 <| s)
   clear p
   cases h_1 : ((a_0.getD i_l0.toNat default) != (b_1.getD i_l0.toNat default)) with
   | true =>
    have gh_1 := bne_iff_ne.1 h_1
    have e : lo_laws_eqInt64S_1 a_0 b_1 (k + 1) i_l0 = (.inl ()) := by simp only [lo_laws_eqInt64S_1, h_0, h_1, cond_true]
    rw [e]
    exact outR (e := .ret) E0Ok hMixed [] mk_laws_eqInt64S_1_1 [] (q (sB h_1 <| sN)) (by kernel_rfl) (by intro h; cases h)
   | false =>
    have gh_1 := bne_eq_false_iff_eq.1 h_1
    have y_3 : (-9223372036854775808 : Int) ≤ (i_l0 + 1) := by clear q; exact (by first | assumption | omega | (simp_all <;> omega))
    have y_4 : (i_l0 + 1) ≤ (9223372036854775807 : Int) := by clear q; exact (by first | assumption | omega | (simp_all <;> omega))
    have e : lo_laws_eqInt64S_1 a_0 b_1 (k + 1) i_l0 = (lo_laws_eqInt64S_1 a_0 b_1 k (i_l0 + 1)) := by simp only [lo_laws_eqInt64S_1, h_0, h_1, cond_true, cond_false]
    rw [e]
    exact nextR E0Ok hMixed [] mk_laws_eqInt64S_1_0 [] (ih (i_l0 + 1) (show 0 ≤ (i_l0 + 1) from (by first | assumption | omega | (simp_all <;> omega))) (by first | assumption | omega | (simp_all <;> omega))) (q (sB h_1 <| sI (i_l0 + 1) y_3 y_4 <| sN)) (by kernel_rfl)
  | false =>
   have gh_0 := of_decide_eq_false h_0
   have e : lo_laws_eqInt64S_1 a_0 b_1 (k + 1) i_l0 = (.inr ()) := by simp only [lo_laws_eqInt64S_1, h_0, cond_false]
   rw [e]
   exact outR (e := (.exit 0)) E0Ok hMixed [] mk_laws_eqInt64S_1_2 [] (p (sB h_0 <| sN)) (by kernel_rfl) (by intro h; cases h)

def lr_laws_eqInt64S_1_0 (a_0 : (List Int)) (b_1 : (List Int)) : (Unit) ⊕ (Unit) := (lo_laws_eqInt64S_1 a_0 b_1 (((a_0.length : Int) - 0).toNat + 1) 0)

def v_laws_eqInt64S (a_0 : (List Int)) (b_1 : (List Int)) : Bool := (cond ((a_0.length : Int) != (b_1.length : Int))
  false
  (match (lr_laws_eqInt64S_1_0 a_0 b_1) with
    | .inl r2 => false
    | .inr r2 => true))

theorem t_laws_eqInt64S (a_0 : (List Int)) (b_1 : (List Int)) (hp0 : a_0.length ≤ 1073741824) (hp1 : b_1.length ≤ 1073741824)  : Fn prog 29 [.sl (a_0.map (cI .i64)), .sl (b_1.map (cI .i64))] (.b (v_laws_eqInt64S a_0 b_1)) [] := by
 have p {a C} (s : Scr a C) := sZ (cI .i64) a_0 <| sZ (cI .i64) b_1 <| s
 cases h0 : ((a_0.length : Int) != (b_1.length : Int)) with
 | true =>
  have gh0 := bne_iff_ne.1 h0
  refine fnS E0Ok hMixed (c := bodyOf f29) [] (.b false) [] func29 (p (sB h0 <| sK [] sN)) rfl (by kernel_rfl) (by kernel_rfl) rfl ?_ ?_
  · simp only [v_laws_eqInt64S, h0, cond_true]
  · rfl
 | false =>
  have gh0 := bne_eq_false_iff_eq.1 h0
  have q {a C} (s : Scr a C) := p (sB h0 <| s)
  clear p
  cases h1 : (lr_laws_eqInt64S_1_0 a_0 b_1) with
  | inl r2 =>
   refine fnS E0Ok hMixed (c := bodyOf f29) [] (.b false) [] func29 (q (sL mk_laws_eqInt64S_1_0 0 (lp_val (ls_laws_eqInt64S_1 a_0 b_1) (x := (lr_laws_eqInt64S_1_0 a_0 b_1)) (lp_laws_eqInt64S_1 a_0 b_1 hp0 hp1 h0 (((a_0.length : Int) - 0).toNat + 1) 0 (show 0 ≤ 0 from (by first | assumption | omega | (simp_all <;> omega))) (Nat.lt_succ_self _)) h1) <| sK [] sN)) rfl (by kernel_rfl) (by kernel_rfl) rfl ?_ ?_
   · simp only [v_laws_eqInt64S, h0, h1, cond_false]
   · rfl
  | inr r2 =>
   refine fnS E0Ok hMixed (c := bodyOf f29) [] (.b true) [] func29 (q (sL mk_laws_eqInt64S_1_0 0 (lp_val (ls_laws_eqInt64S_1 a_0 b_1) (x := (lr_laws_eqInt64S_1_0 a_0 b_1)) (lp_laws_eqInt64S_1 a_0 b_1 hp0 hp1 h0 (((a_0.length : Int) - 0).toNat + 1) 0 (show 0 ≤ 0 from (by first | assumption | omega | (simp_all <;> omega))) (Nat.lt_succ_self _)) h1) <| sK [] sN)) rfl (by kernel_rfl) (by kernel_rfl) rfl ?_ ?_
   · simp only [v_laws_eqInt64S, h0, h1, cond_false]
   · rfl

theorem eqInt64S_self (a : List Int) : v_laws_eqInt64S a a = true := by
  unfold v_laws_eqInt64S lr_laws_eqInt64S_1_0
  rw [all_from (a := a) (p := fun v => !(v != v)) (lo := lo_laws_eqInt64S_1 a a) (x := ()) (y := ()) (fun k i => by rw [lo_laws_eqInt64S_1]; cases (a.getD i.toNat default != a.getD i.toNat default) <;> rfl)]
  rw [show (a.all fun v => !(v != v)) = true from by rw [List.all_eq_true]; intro v _; simp]
  simp

def lo_laws_eqInt64SS_1 (a_0 : (List (List Int))) (b_1 : (List (List Int))) : Nat → Int → (Unit) ⊕ (Unit)
  | 0, _ => .inl default
  | k + 1, i_l0 => (cond (decide (i_l0 < (a_0.length : Int)))
    (cond (v_laws_eqInt64S (a_0.getD i_l0.toNat default) (b_1.getD i_l0.toNat default))
      (lo_laws_eqInt64SS_1 a_0 b_1 k (i_l0 + 1))
      (.inl ()))
    (.inr ()))

def ls_laws_eqInt64SS_1 (a_0 : (List (List Int))) (b_1 : (List (List Int))) : (Unit) ⊕ (Unit) → Ex × St
  | .inl r => (.ret, ⟨[.any, .any, .any, .any, .b false, .any, .any, .any, .any, .any, .any, .any, .any, .any, .any, .any, .any, .any, .any, .any, .any, .any, .any, .any, .any, .any, .any], []⟩)
  | .inr r => ((.exit 0), ⟨[.sl (a_0.map (cL (cI .i64))), .sl (b_1.map (cL (cI .i64))), .any, .any, .any, .any, .sl (a_0.map (cL (cI .i64))), .i .i64 (a_0.length : Int), .sl (b_1.map (cL (cI .i64))), .i .i64 (b_1.length : Int), .b ((a_0.length : Int) != (b_1.length : Int)), .any, .any, .any, .any, .any, .any, .any, .any, .any, .any, .any, .any, .any, .any, .any, .any], []⟩)

def hd_laws_eqInt64SS_1 (a_0 : (List (List Int))) (b_1 : (List (List Int))) (i_l0 : Int) : St := ⟨[.sl (a_0.map (cL (cI .i64))), .sl (b_1.map (cL (cI .i64))), .any, .any, .any, .i .i64 i_l0, .sl (a_0.map (cL (cI .i64))), .i .i64 (a_0.length : Int), .sl (b_1.map (cL (cI .i64))), .i .i64 (b_1.length : Int), .b ((a_0.length : Int) != (b_1.length : Int)), .any, .any, .any, .any, .any, .any, .any, .any, .any, .any, .any, .any, .any, .any, .any, .any], []⟩

def mk_laws_eqInt64SS_1_0 : List Bool := [true, true, false, false, false, true, true, true, true, true, true, false, false, false, false, false, false, false, false, false, false, false, false, false, false, false, false]

def mk_laws_eqInt64SS_1_1 : List Bool := [false, false, false, false, true, false, false, false, false, false, false, false, false, false, false, false, false, false, false, false, false, false, false, false, false, false, false]

def mk_laws_eqInt64SS_1_2 : List Bool := [true, true, false, false, false, false, true, true, true, true, true, false, false, false, false, false, false, false, false, false, false, false, false, false, false, false, false]

theorem lp_laws_eqInt64SS_1 (a_0 : (List (List Int))) (b_1 : (List (List Int))) (hp0 : a_0.length ≤ 1073741824) (hp1 : ∀ t ∈ a_0, t.length ≤ 1073741824) (hp2 : b_1.length ≤ 1073741824) (hp3 : ∀ t ∈ b_1, t.length ≤ 1073741824) (hf_laws_eqInt64SS_1_0 : ((a_0.length : Int) != (b_1.length : Int)) = false) : ∀ (k : Nat) (i_l0 : Int) (hv_laws_eqInt64SS_1_0 : 0 ≤ i_l0) (hk : ((a_0.length : Int) - i_l0).toNat < k), Lp prog 0 (sub (bodyOf f61) [1, 1, 0, 1, 0, 0]) (hd_laws_eqInt64SS_1 a_0 b_1 i_l0) (ls_laws_eqInt64SS_1 a_0 b_1 (lo_laws_eqInt64SS_1 a_0 b_1 k i_l0)).1 (ls_laws_eqInt64SS_1 a_0 b_1 (lo_laws_eqInt64SS_1 a_0 b_1 k i_l0)).2 := by
 intro k
 induction k with
 | zero => intro i_l0 hv_laws_eqInt64SS_1_0 hk; exact absurd hk (Nat.not_lt_zero _)
 | succ k ih =>
  intro i_l0 hv_laws_eqInt64SS_1_0 hk
  have p {a C} (s : Scr a C) := sZ (cL (cI .i64)) a_0 <| s
  cases h_0 : (decide (i_l0 < (a_0.length : Int))) with
  | true =>
   have gh_0 := of_decide_eq_true h_0
   have y_0 : (0 : Int) ≤ i_l0 := by clear p; exact (by first | assumption | omega | (simp_all <;> omega))
   have y_1 : i_l0 < (a_0.length : Int) := by clear p; exact (by first | assumption | omega | (simp_all <;> omega))
   have y_2 : i_l0 < (b_1.length : Int) := by clear p; exact (by first | assumption | omega | (simp_all <;> omega))
   have y_3 : (a_0.getD i_l0.toNat default).length ≤ 1073741824 := by clear p; exact (by first | assumption | omega | (simp_all <;> omega))
   have y_4 : (b_1.getD i_l0.toNat default).length ≤ 1073741824 := by clear p; exact (by first | assumption | omega | (simp_all <;> omega))
   have q {a C} (s : Scr a C) := p (sB h_0 <| sK [8, 8] <| sG (cL (cI .i64)) a_0 i_l0 y_0 y_1 <| sG (cL (cI .i64)) b_1 i_l0 y_0 y_2 <| sF (t_laws_eqInt64S (a_0.getD i_l0.toNat default) (b_1.getD i_l0.toNat default) y_3 y_4) <| s)
   clear p
   cases h_1 : (v_laws_eqInt64S (a_0.getD i_l0.toNat default) (b_1.getD i_l0.toNat default)) with
   | true =>
    have y_5 : (-9223372036854775808 : Int) ≤ (i_l0 + 1) := by clear q; exact (by first | assumption | omega | (simp_all <;> omega))
    have y_6 : (i_l0 + 1) ≤ (9223372036854775807 : Int) := by clear q; exact (by first | assumption | omega | (simp_all <;> omega))
    have e : lo_laws_eqInt64SS_1 a_0 b_1 (k + 1) i_l0 = (lo_laws_eqInt64SS_1 a_0 b_1 k (i_l0 + 1)) := by simp only [lo_laws_eqInt64SS_1, h_0, h_1, cond_true]
    rw [e]
    exact nextR E0Ok hMixed [] mk_laws_eqInt64SS_1_0 [] (ih (i_l0 + 1) (show 0 ≤ (i_l0 + 1) from (by first | assumption | omega | (simp_all <;> omega))) (by first | assumption | omega | (simp_all <;> omega))) (q (sB' h_1 <| sI (i_l0 + 1) y_5 y_6 <| sN)) (by kernel_rfl)
   | false =>
    have e : lo_laws_eqInt64SS_1 a_0 b_1 (k + 1) i_l0 = (.inl ()) := by simp only [lo_laws_eqInt64SS_1, h_0, h_1, cond_true, cond_false]
    rw [e]
    exact outR (e := .ret) E0Ok hMixed [] mk_laws_eqInt64SS_1_1 [] (q (sB' h_1 <| sN)) (by kernel_rfl) (by intro h; cases h)
  | false =>
   have gh_0 := of_decide_eq_false h_0
   have e : lo_laws_eqInt64SS_1 a_0 b_1 (k + 1) i_l0 = (.inr ()) := by simp only [lo_laws_eqInt64SS_1, h_0, cond_false]
   rw [e]
   exact outR (e := (.exit 0)) E0Ok hMixed [] mk_laws_eqInt64SS_1_2 [] (p (sB h_0 <| sN)) (by kernel_rfl) (by intro h; cases h)

def lr_laws_eqInt64SS_1_0 (a_0 : (List (List Int))) (b_1 : (List (List Int))) : (Unit) ⊕ (Unit) := (lo_laws_eqInt64SS_1 a_0 b_1 (((a_0.length : Int) - 0).toNat + 1) 0)

def v_laws_eqInt64SS (a_0 : (List (List Int))) (b_1 : (List (List Int))) : Bool := (cond ((a_0.length : Int) != (b_1.length : Int))
  false
  (match (lr_laws_eqInt64SS_1_0 a_0 b_1) with
    | .inl r2 => false
    | .inr r2 => true))

theorem t_laws_eqInt64SS (a_0 : (List (List Int))) (b_1 : (List (List Int))) (hp0 : a_0.length ≤ 1073741824) (hp1 : ∀ t ∈ a_0, t.length ≤ 1073741824) (hp2 : b_1.length ≤ 1073741824) (hp3 : ∀ t ∈ b_1, t.length ≤ 1073741824)  : Fn prog 61 [.sl (a_0.map (cL (cI .i64))), .sl (b_1.map (cL (cI .i64)))] (.b (v_laws_eqInt64SS a_0 b_1)) [] := by
 have p {a C} (s : Scr a C) := sZ (cL (cI .i64)) a_0 <| sZ (cL (cI .i64)) b_1 <| s
 cases h0 : ((a_0.length : Int) != (b_1.length : Int)) with
 | true =>
  have gh0 := bne_iff_ne.1 h0
  refine fnS E0Ok hMixed (c := bodyOf f61) [] (.b false) [] func61 (p (sB h0 <| sK [] sN)) rfl (by kernel_rfl) (by kernel_rfl) rfl ?_ ?_
  · simp only [v_laws_eqInt64SS, h0, cond_true]
  · rfl
 | false =>
  have gh0 := bne_eq_false_iff_eq.1 h0
  have q {a C} (s : Scr a C) := p (sB h0 <| s)
  clear p
  cases h1 : (lr_laws_eqInt64SS_1_0 a_0 b_1) with
  | inl r2 =>
   refine fnS E0Ok hMixed (c := bodyOf f61) [] (.b false) [] func61 (q (sL mk_laws_eqInt64SS_1_0 0 (lp_val (ls_laws_eqInt64SS_1 a_0 b_1) (x := (lr_laws_eqInt64SS_1_0 a_0 b_1)) (lp_laws_eqInt64SS_1 a_0 b_1 hp0 hp1 hp2 hp3 h0 (((a_0.length : Int) - 0).toNat + 1) 0 (show 0 ≤ 0 from (by first | assumption | omega | (simp_all <;> omega))) (Nat.lt_succ_self _)) h1) <| sK [] sN)) rfl (by kernel_rfl) (by kernel_rfl) rfl ?_ ?_
   · simp only [v_laws_eqInt64SS, h0, h1, cond_false]
   · rfl
  | inr r2 =>
   refine fnS E0Ok hMixed (c := bodyOf f61) [] (.b true) [] func61 (q (sL mk_laws_eqInt64SS_1_0 0 (lp_val (ls_laws_eqInt64SS_1 a_0 b_1) (x := (lr_laws_eqInt64SS_1_0 a_0 b_1)) (lp_laws_eqInt64SS_1 a_0 b_1 hp0 hp1 hp2 hp3 h0 (((a_0.length : Int) - 0).toNat + 1) 0 (show 0 ≤ 0 from (by first | assumption | omega | (simp_all <;> omega))) (Nat.lt_succ_self _)) h1) <| sK [] sN)) rfl (by kernel_rfl) (by kernel_rfl) rfl ?_ ?_
   · simp only [v_laws_eqInt64SS, h0, h1, cond_false]
   · rfl

end Go.Ab
