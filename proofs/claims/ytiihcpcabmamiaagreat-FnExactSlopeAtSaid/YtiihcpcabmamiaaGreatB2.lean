/- The functions of this seat as plain Lean, and that the program's are these. Printed by a program of the prover's own. -/
import Derived.Test.YtiihcpcabmamiaaGreatB1
set_option linter.unusedVariables false
set_option linter.unusedSimpArgs false
set_option maxRecDepth 100000
namespace Go.Ab
open Go.RowKit Go.Proofs.Tryz

theorem l03Is_eq (b : GBody) (h : v_spec_l03Is b = true) : v_spec_l02Is b.Mesh = true ∧ (b.Weights.length : Int) = (b.Mesh.Places.length : Int) ∧ (b.Springs.all fun s => v_spec_l03Spring s (b.Mesh.Places.length : Int)) = true := by
  unfold v_spec_l03Is lr_spec_l03Is_1_0 at h
  rw [all_from (a := b.Springs) (p := fun s => v_spec_l03Spring s (b.Mesh.Places.length : Int)) (lo := lo_spec_l03Is_1 b) (x := ()) (y := ()) (fun k i => rfl)] at h
  cases h1 : v_spec_l02Is b.Mesh <;> rw [h1] at h <;> (try (cases h; done))
  cases h2 : decide ((b.Springs.length : Int) > 200) <;> rw [h2] at h <;> (try (cases h; done))
  cases h3 : ((b.Weights.length : Int) != (b.Mesh.Places.length : Int)) <;> rw [h3] at h <;> (try (cases h; done))
  cases h4 : (b.Springs.all fun s => v_spec_l03Spring s (b.Mesh.Places.length : Int)) <;> rw [h4] at h <;> (try (cases h; done))
  simp only [bne_eq_false_iff_eq] at h3
  exact ⟨rfl, h3, rfl⟩
theorem spr_ok (s : GSpring) {n : Nat} (hn : n ≤ 9223372036854775807) (h : v_spec_l03Spring s (n : Int) = true) : (0 ≤ s.A ∧ s.A < (n : Int)) ∧ (0 ≤ s.B ∧ s.B < (n : Int)) := by
  unfold v_spec_l03Spring at h
  cases h1 : v_spec_l00In s.A 0 (IntKind.wrap .i64 ((n : Int) - 1)) <;> rw [h1] at h <;> (try (cases h; done))
  cases h2 : v_spec_l00In s.B 0 (IntKind.wrap .i64 ((n : Int) - 1)) <;> rw [h2] at h <;> (try (cases h; done))
  exact ⟨in_ok hn h1, in_ok hn h2⟩
theorem okA_is (b : GBody) (h : v_spec_l03Is b = true) : OkIx b.Mesh.Places.length GSpring.A b.Springs := by
  obtain ⟨h1, _, h3⟩ := l03Is_eq b h
  have hn : b.Mesh.Places.length ≤ 64 := by
    rw [l02Is_eq] at h1
    cases h2 : decide ((b.Mesh.Places.length : Int) > 64) <;> rw [h2] at h1 <;> (try (cases h1; done))
    simp only [decide_eq_false_iff_not] at h2
    omega
  rw [List.all_eq_true] at h3
  exact fun s hs => (spr_ok s (by omega) (h3 s hs)).1
theorem okB_is (b : GBody) (h : v_spec_l03Is b = true) : OkIx b.Mesh.Places.length GSpring.B b.Springs := by
  obtain ⟨h1, _, h3⟩ := l03Is_eq b h
  have hn : b.Mesh.Places.length ≤ 64 := by
    rw [l02Is_eq] at h1
    cases h2 : decide ((b.Mesh.Places.length : Int) > 64) <;> rw [h2] at h1 <;> (try (cases h1; done))
    simp only [decide_eq_false_iff_not] at h2
    omega
  rw [List.all_eq_true] at h3
  exact fun s hs => (spr_ok s (by omega) (h3 s hs)).2
structure OkBd (b : GBody) : Prop where
  e : OkE b.Mesh.Places.length b.Mesh.Triangles
  w : b.Weights.length = b.Mesh.Places.length
  a : OkIx b.Mesh.Places.length GSpring.A b.Springs
  b : OkIx b.Mesh.Places.length GSpring.B b.Springs
theorem okBd_is (b : GBody) (h : v_spec_l03Is b = true) : OkBd b := by
  obtain ⟨h1, h2, h3⟩ := l03Is_eq b h
  exact ⟨okE_is _ h1, by omega, okA_is b h, okB_is b h⟩
theorem okBd_spr {b : GBody} (h : OkBd b) {i : Int} (h0 : 0 ≤ i) (hi : decide (i < (b.Springs.length : Int)) = true) : (0 ≤ (b.Springs.getD i.toNat default).A ∧ (b.Springs.getD i.toNat default).A < (b.Mesh.Places.length : Int)) ∧ (0 ≤ (b.Springs.getD i.toNat default).B ∧ (b.Springs.getD i.toNat default).B < (b.Mesh.Places.length : Int)) :=
  ⟨OkIx.at h.a h0 (of_decide_eq_true hi), OkIx.at h.b h0 (of_decide_eq_true hi)⟩
theorem is_ne {b : GBody} (h : v_spec_l03Is b = true) {i : Int} (h0 : 0 ≤ i) (hi : i < (b.Springs.length : Int)) : (b.Springs.getD i.toNat default).A ≠ (b.Springs.getD i.toNat default).B := by
  obtain ⟨h1, h2, h3⟩ := l03Is_eq b h
  rw [List.all_eq_true] at h3
  have hm : b.Springs.getD i.toNat default ∈ b.Springs := by rw [List.getD_eq_getElem?_getD, List.getElem?_eq_getElem (by omega)]; exact List.getElem_mem _
  have h4 := h3 _ hm
  intro hc
  unfold v_spec_l03Spring at h4
  rw [hc] at h4
  cases e1 : v_spec_l00In (b.Springs.getD i.toNat default).B 0 (IntKind.wrap .i64 ((b.Mesh.Places.length : Int) - 1)) <;> rw [e1] at h4 <;> simp at h4

def v_spec_l01Finite (x_0 : Nat) : Bool := (fcmp .eql .f32 (fop .sub .f32 x_0 x_0) 0)

theorem t_spec_l01Finite (x_0 : Nat)   : Fn prog 61 [.f .f32 x_0] (.b (v_spec_l01Finite x_0)) [] := by
 refine fnS E0Ok hMixed (c := bodyOf f61) [] (.b (fcmp .eql .f32 (fop .sub .f32 x_0 x_0) 0)) [] func61 (sK [] sN) rfl (by kernel_rfl) (by kernel_rfl) rfl ?_ ?_
 · rfl
 · rfl

def v_spec_l03Positive (x_0 : Nat) : Bool := (cond (v_spec_l01Finite x_0)
  (fcmp .gtr .f32 x_0 0)
  false)

theorem t_spec_l03Positive (x_0 : Nat)   : Fn prog 31 [.f .f32 x_0] (.b (v_spec_l03Positive x_0)) [] := by
 have p {a C} (s : Scr a C) := sF (t_spec_l01Finite x_0) <| s
 cases h0 : (v_spec_l01Finite x_0) with
 | true =>
  refine fnS E0Ok hMixed (c := bodyOf f31) [] (.b (fcmp .gtr .f32 x_0 0)) [] func31 (p (sB h0 <| sB h0 <| sB h0 <| sK [] sN)) rfl (by kernel_rfl) (by kernel_rfl) rfl ?_ ?_
  · simp only [v_spec_l03Positive, h0, cond_true]
  · rfl
 | false =>
  refine fnS E0Ok hMixed (c := bodyOf f31) [] (.b false) [] func31 (p (sB h0 <| sB h0 <| sB h0 <| sK [] sN)) rfl (by kernel_rfl) (by kernel_rfl) rfl ?_ ?_
  · simp only [v_spec_l03Positive, h0, cond_false]
  · rfl

def v_spec_l00Own (list_0 : (List Int)) : (List Int) := (([] : List Int) ++ list_0)

theorem t_spec_l00Own (list_0 : (List Int)) (hp0 : list_0.length ≤ 1073741824)  : Fn prog 109 [.sl (list_0.map (cI .i64))] (.own 0) [.vec 2 1 ((v_spec_l00Own list_0).map (cI .i64)) false] := by
 have y0 : ([] : List Int).length + list_0.length ≤ 1073741824 := (by first | assumption | omega | (simp_all <;> omega))
 refine fnS E0Ok hMixed (c := bodyOf f109) [] (.own 0) [.vec 2 1 (([] : List (List AV)) ++ (list_0.map (cI .i64))) false] func109 (sC (show ([] : List (List AV)).length + (list_0.map (cI .i64)).length ≤ 1073741824 from (by simpa using y0)) <| sC (show (list_0.map (cI .i64)).all (fun cs => cs.length == 1 && cs.all isS) = true from (src_ok (fun _ => rfl))) <| sK [0] sN) rfl (by kernel_rfl) (by kernel_rfl) rfl ?_ ?_
 · rfl
 · simp [v_spec_l00Own, cI]

@[simp] theorem eq_l00Own (l : List Int) : v_spec_l00Own l = l := by simp [v_spec_l00Own]

theorem i_spec_l00Own (list_0 : (List Int)) (hp0 : list_0.length ≤ 1073741824) : Fn prog 109 [.sl (list_0.map (cI .i64))] (.own 0) [.vec 2 1 (list_0.map (cI .i64)) false] := by
 simpa only [eq_l00Own] using t_spec_l00Own  list_0 hp0

def lo_spec_l02Own_1 (m_0 : GMesh) : Nat → Int → (List (List Int)) → (List (List Int))
  | 0, _, _ => default
  | k + 1, i_l0, r2_l1 => (cond (decide (i_l0 < (m_0.Triangles.length : Int)))
    (lo_spec_l02Own_1 m_0 k (i_l0 + 1) (r2_l1 ++ [(m_0.Triangles.getD i_l0.toNat default)]))
    r2_l1)

def ls_spec_l02Own_1 (m_0 : GMesh) (r : (List (List Int))) : Ex × St := ((.exit 0), ⟨[.ref (GMesh.cells m_0) 0, .any, .ptr 0 0 0, .ptr 1 0 0, .any, .any, .ref (GMesh.cells m_0) 0, .ref (GMesh.cells m_0) 0, .ref (GMesh.cells m_0) 0, .sl (m_0.Places.map GVector.cells), .own 2, .any, .any, .any, .any, .any, .any, .any, .any, .any, .any, .any, .any, .any, .any, .any, .any, .any, .any, .any, .any, .any, .any, .any, .any, .any], [.box 38 [.nils, .nils], .box 38 [.own 2, .own 3], .vec 40 3 (([] : List (List AV)) ++ (m_0.Places.map GVector.cells)) false, .nest 54 (r.map fun l => l.map (cI .i64)) false]⟩)

def hd_spec_l02Own_1 (m_0 : GMesh) (i_l0 : Int) (r2_l1 : (List (List Int))) : St := ⟨[.ref (GMesh.cells m_0) 0, .any, .ptr 0 0 0, .ptr 3 0 0, .i .i64 i_l0, .any, .ref (GMesh.cells m_0) 0, .ref (GMesh.cells m_0) 0, .ref (GMesh.cells m_0) 0, .sl (m_0.Places.map GVector.cells), .own 1, .any, .any, .any, .any, .any, .any, .any, .any, .any, .any, .any, .any, .any, .any, .any, .any, .any, .any, .any, .any, .any, .any, .any, .any, .any], [.box 38 [.nils, .nils], .vec 40 3 (([] : List (List AV)) ++ (m_0.Places.map GVector.cells)) false, .nest 54 (r2_l1.map fun l => l.map (cI .i64)) false, .box 38 [.own 1, .own 2]]⟩

def mk_spec_l02Own_1_0 : List Bool := [true, false, true, true, true, false, true, true, true, true, true, false, false, false, false, false, false, false, false, false, false, false, false, false, false, false, false, false, false, false, false, false, false, false, false, false]

def mk_spec_l02Own_1_1 : List Bool := [true, false, true, true, false, false, true, true, true, true, true, false, false, false, false, false, false, false, false, false, false, false, false, false, false, false, false, false, false, false, false, false, false, false, false, false]

theorem lp_spec_l02Own_1 (m_0 : GMesh) (hp0 : m_0.Places.length ≤ 1073741824) (hp1 : m_0.Triangles.length ≤ 1073741824) (hp2 : ∀ t ∈ m_0.Triangles, t.length ≤ 1073741824) : ∀ (k : Nat) (i_l0 : Int) (r2_l1 : (List (List Int))) (hv_spec_l02Own_1_0 : 0 ≤ i_l0) (hv_spec_l02Own_1_1 : (r2_l1.length : Int) = i_l0) (hk : ((m_0.Triangles.length : Int) - i_l0).toNat < k), Lp prog 0 (sub (bodyOf f98) [1, 1, 0, 1, 0, 0]) (hd_spec_l02Own_1 m_0 i_l0 r2_l1) (ls_spec_l02Own_1 m_0 (lo_spec_l02Own_1 m_0 k i_l0 r2_l1)).1 (ls_spec_l02Own_1 m_0 (lo_spec_l02Own_1 m_0 k i_l0 r2_l1)).2 := by
 intro k
 induction k with
 | zero => intro i_l0 r2_l1 hv_spec_l02Own_1_0 hv_spec_l02Own_1_1 hk; exact absurd hk (Nat.not_lt_zero _)
 | succ k ih =>
  intro i_l0 r2_l1 hv_spec_l02Own_1_0 hv_spec_l02Own_1_1 hk
  have p {a C} (s : Scr a C) := sZ (cL (cI .i64)) m_0.Triangles <| s
  cases h_0 : (decide (i_l0 < (m_0.Triangles.length : Int))) with
  | true =>
   have gh_0 := of_decide_eq_true h_0
   have y_0 : (0 : Int) ≤ i_l0 := by clear p; exact (by first | assumption | omega)
   have y_1 : i_l0 < (m_0.Triangles.length : Int) := by clear p; exact (by first | assumption | omega)
   have y_2 : (m_0.Triangles.getD i_l0.toNat default).length ≤ 1073741824 := by clear p; exact (by first | assumption | omega | (simp_all <;> omega))
   have y_3 : r2_l1.length + [(m_0.Triangles.getD i_l0.toNat default)].length ≤ 1073741824 := by clear p; exact (by first | assumption | omega | (simp_all <;> omega))
   have y_4 : (-9223372036854775808 : Int) ≤ (i_l0 + 1) := by clear p; exact (by first | assumption | omega)
   have y_5 : (i_l0 + 1) ≤ (9223372036854775807 : Int) := by clear p; exact (by first | assumption | omega)
   have e : lo_spec_l02Own_1 m_0 (k + 1) i_l0 r2_l1 = (lo_spec_l02Own_1 m_0 k (i_l0 + 1) (r2_l1 ++ [(m_0.Triangles.getD i_l0.toNat default)])) := by simp only [lo_spec_l02Own_1, h_0, cond_true]
   rw [e]
   exact nextS E0Ok hMixed [] mk_spec_l02Own_1_0 [0, 1, 2, 3] (⟨[.ref (GMesh.cells m_0) 0, .any, .ptr 0 0 0, .ptr 3 0 0, .i .i64 (i_l0 + 1), .any, .ref (GMesh.cells m_0) 0, .ref (GMesh.cells m_0) 0, .ref (GMesh.cells m_0) 0, .sl (m_0.Places.map GVector.cells), .own 1, .any, .any, .any, .any, .any, .any, .any, .any, .any, .any, .any, .any, .any, .any, .any, .any, .any, .any, .any, .any, .any, .any, .any, .any, .any], [.box 38 [.nils, .nils], .vec 40 3 (([] : List (List AV)) ++ (m_0.Places.map GVector.cells)) false, .nest 54 ((r2_l1.map fun l => l.map (cI .i64)) ++ [((m_0.Triangles.getD i_l0.toNat default).map (cI .i64))]) false, .box 38 [.own 1, .own 2]]⟩) (p (sB h_0 <| sK [11, 11] <| sG (cL (cI .i64)) m_0.Triangles i_l0 y_0 y_1 <| sF (i_spec_l00Own (m_0.Triangles.getD i_l0.toNat default) y_2) <| sC (show (r2_l1.map fun l => l.map (cI .i64)).length + [((m_0.Triangles.getD i_l0.toNat default).map (cI .i64))].length ≤ 1073741824 from (by simpa using y_3)) <| sI (i_l0 + 1) y_4 y_5 <| sN)) (by kernel_rfl) (show _ = ⟨[.ref (GMesh.cells m_0) 0, .any, .ptr 0 0 0, .ptr 3 0 0, .i .i64 (i_l0 + 1), .any, .ref (GMesh.cells m_0) 0, .ref (GMesh.cells m_0) 0, .ref (GMesh.cells m_0) 0, .sl (m_0.Places.map GVector.cells), .own 1, .any, .any, .any, .any, .any, .any, .any, .any, .any, .any, .any, .any, .any, .any, .any, .any, .any, .any, .any, .any, .any, .any, .any, .any, .any], [.box 38 [.nils, .nils], .vec 40 3 (([] : List (List AV)) ++ (m_0.Places.map GVector.cells)) false, .nest 54 ((r2_l1 ++ [(m_0.Triangles.getD i_l0.toNat default)]).map fun l => l.map (cI .i64)) false, .box 38 [.own 1, .own 2]]⟩ from (by simp [GVector.cells, cL, cI])) (ih (i_l0 + 1) (r2_l1 ++ [(m_0.Triangles.getD i_l0.toNat default)]) (show 0 ≤ (i_l0 + 1) from (by first | assumption | omega)) (show ((r2_l1 ++ [(m_0.Triangles.getD i_l0.toNat default)]).length : Int) = (i_l0 + 1) from (by first | assumption | omega | (simp_all <;> omega))) (by first | assumption | omega))
  | false =>
   have gh_0 := of_decide_eq_false h_0
   have e : lo_spec_l02Own_1 m_0 (k + 1) i_l0 r2_l1 = r2_l1 := by simp only [lo_spec_l02Own_1, h_0, cond_false]
   rw [e]
   exact outR (e := (.exit 0)) E0Ok hMixed [] mk_spec_l02Own_1_1 [0, 3, 1, 2] (p (sB h_0 <| sN)) (by kernel_rfl) (by intro h; cases h)

def lr_spec_l02Own_1_0 (m_0 : GMesh) : (List (List Int)) := (lo_spec_l02Own_1 m_0 (((m_0.Triangles.length : Int) - 0).toNat + 1) 0 ([] : List (List Int)))

def v_spec_l02Own (m_0 : GMesh) : GMesh := (⟨(([] : List GVector) ++ m_0.Places), (lr_spec_l02Own_1_0 m_0)⟩ : GMesh)

theorem t_spec_l02Own (m_0 : GMesh) (hp0 : m_0.Places.length ≤ 1073741824) (hp1 : m_0.Triangles.length ≤ 1073741824) (hp2 : ∀ t ∈ m_0.Triangles, t.length ≤ 1073741824)  : Fn prog 98 [.ref (GMesh.cells m_0) 0] (.agg [.own 0, .own 1]) [.vec 40 3 (((v_spec_l02Own m_0).Places).map GVector.cells) false, .nest 54 (((v_spec_l02Own m_0).Triangles).map fun l => l.map (cI .i64)) false] := by
 have y0 : ([] : List GVector).length + m_0.Places.length ≤ 1073741824 := (by first | assumption | omega | (simp_all <;> omega))
 refine fnS E0Ok hMixed (c := bodyOf f98) [] (.agg [.own 0, .own 1]) [.vec 40 3 (([] : List (List AV)) ++ (m_0.Places.map GVector.cells)) false, .nest 54 ((lr_spec_l02Own_1_0 m_0).map fun l => l.map (cI .i64)) false] func98 (sC (show ([] : List (List AV)).length + (m_0.Places.map GVector.cells).length ≤ 1073741824 from (by simpa using y0)) <| sC (show (m_0.Places.map GVector.cells).all (fun cs => cs.length == 3 && cs.all isS) = true from (src_ok (fun _ => rfl))) <| sL mk_spec_l02Own_1_0 4 (lp_cast (st2 := ⟨[.ref (GMesh.cells m_0) 0, .any, .ptr 0 0 0, .ptr 3 0 0, .i .i64 0, .any, .ref (GMesh.cells m_0) 0, .ref (GMesh.cells m_0) 0, .ref (GMesh.cells m_0) 0, .sl (m_0.Places.map GVector.cells), .own 1, .any, .any, .any, .any, .any, .any, .any, .any, .any, .any, .any, .any, .any, .any, .any, .any, .any, .any, .any, .any, .any, .any, .any, .any, .any], [.box 38 [.nils, .nils], .vec 40 3 (([] : List (List AV)) ++ (m_0.Places.map GVector.cells)) false, .nest 54 [] false, .box 38 [.own 1, .own 2]]⟩) (lp_val (ls_spec_l02Own_1 m_0) (x := (lr_spec_l02Own_1_0 m_0)) (lp_spec_l02Own_1 m_0 hp0 hp1 hp2 (((m_0.Triangles.length : Int) - 0).toNat + 1) 0 ([] : List (List Int)) (show 0 ≤ 0 from (by first | assumption | omega)) (show (([] : List (List Int)).length : Int) = 0 from (by simp)) (Nat.lt_succ_self _)) rfl) (by simp [hd_spec_l02Own_1, GVector.cells, cL, cI])) <| sK [2, 3] sN) rfl (by kernel_rfl) (by kernel_rfl) rfl ?_ ?_
 · rfl
 · simp [v_spec_l02Own, GVector.cells]

@[simp] theorem eq_l02Own (m : GMesh) : v_spec_l02Own m = m := by
  unfold v_spec_l02Own lr_spec_l02Own_1_0
  rw [app_loop (f := fun i => (m.Triangles.getD i.toNat default)) (n := (m.Triangles.length : Int)) (lo := lo_spec_l02Own_1 m) (fun k i r => rfl) _ _ _ (Nat.lt_succ_self _)]
  simp [getD_range2]

theorem i_spec_l02Own (m_0 : GMesh) (hp0 : m_0.Places.length ≤ 1073741824) (hp1 : m_0.Triangles.length ≤ 1073741824) (hp2 : ∀ t ∈ m_0.Triangles, t.length ≤ 1073741824) : Fn prog 98 [.ref (GMesh.cells m_0) 0] (.agg [.own 0, .own 1]) [.vec 40 3 (m_0.Places.map GVector.cells) false, .nest 54 (m_0.Triangles.map fun l => l.map (cI .i64)) false] := by
 simpa only [eq_l02Own] using t_spec_l02Own  m_0 hp0 hp1 hp2

def v_spec_l03Own (b_0 : GBody) : GBody := (⟨b_0.Mesh, (([] : List GSpring) ++ b_0.Springs), b_0.Film, b_0.Bend, (([] : List Nat) ++ b_0.Weights), b_0.Fall⟩ : GBody)

theorem t_spec_l03Own (b_0 : GBody) (hp0 : b_0.Mesh.Places.length ≤ 1073741824) (hp1 : b_0.Mesh.Triangles.length ≤ 1073741824) (hp2 : ∀ t ∈ b_0.Mesh.Triangles, t.length ≤ 1073741824) (hp3 : b_0.Springs.length ≤ 1073741824) (hp4 : b_0.Weights.length ≤ 1073741824)  : Fn prog 62 [.ref (GBody.cells b_0) 0] (.agg [.own 0, .own 1, .own 2, .f .f32 ((v_spec_l03Own b_0).Film), .f .f32 ((v_spec_l03Own b_0).Bend), .own 3, .f .f32 ((v_spec_l03Own b_0).Fall.X), .f .f32 ((v_spec_l03Own b_0).Fall.Y), .f .f32 ((v_spec_l03Own b_0).Fall.Z)]) [.vec 40 3 (((v_spec_l03Own b_0).Mesh.Places).map GVector.cells) false, .nest 54 (((v_spec_l03Own b_0).Mesh.Triangles).map fun l => l.map (cI .i64)) false, .vec 97 4 (((v_spec_l03Own b_0).Springs).map GSpring.cells) false, .vec 27 1 (((v_spec_l03Own b_0).Weights).map (cF .f32)) false] := by
 have y0 : ([] : List GSpring).length + b_0.Springs.length ≤ 1073741824 := (by first | assumption | omega | (simp_all <;> omega))
 have y1 : ([] : List Nat).length + b_0.Weights.length ≤ 1073741824 := (by first | assumption | omega | (simp_all <;> omega))
 refine fnS E0Ok hMixed (c := bodyOf f62) [] (.agg [.own 0, .own 1, .own 2, .f .f32 b_0.Film, .f .f32 b_0.Bend, .own 3, .f .f32 b_0.Fall.X, .f .f32 b_0.Fall.Y, .f .f32 b_0.Fall.Z]) [.vec 40 3 (b_0.Mesh.Places.map GVector.cells) false, .nest 54 (b_0.Mesh.Triangles.map fun l => l.map (cI .i64)) false, .vec 97 4 (([] : List (List AV)) ++ (b_0.Springs.map GSpring.cells)) false, .vec 27 1 (([] : List (List AV)) ++ (b_0.Weights.map (cF .f32))) false] func62 (sF (Fn.sub (args := [.ref (GBody.cells b_0) 0]) (r := .agg [.own 0, .own 1]) (new := [.vec 40 3 (b_0.Mesh.Places.map GVector.cells) false, .nest 54 (b_0.Mesh.Triangles.map fun l => l.map (cI .i64)) false]) [some 2] (i_spec_l02Own b_0.Mesh hp0 hp1 hp2)) <| sC (show ([] : List (List AV)).length + (b_0.Springs.map GSpring.cells).length ≤ 1073741824 from (by simpa using y0)) <| sC (show (b_0.Springs.map GSpring.cells).all (fun cs => cs.length == 4 && cs.all isS) = true from (src_ok (fun _ => rfl))) <| sC (show ([] : List (List AV)).length + (b_0.Weights.map (cF .f32)).length ≤ 1073741824 from (by simpa using y1)) <| sC (show (b_0.Weights.map (cF .f32)).all (fun cs => cs.length == 1 && cs.all isS) = true from (src_ok (fun _ => rfl))) <| sK [2, 3, 4, 5] sN) rfl (by kernel_rfl) (by kernel_rfl) rfl ?_ ?_
 · rfl
 · simp [v_spec_l03Own, GSpring.cells, cF]

@[simp] theorem eq_l03Own (b : GBody) : v_spec_l03Own b = b := by simp [v_spec_l03Own]

theorem i_spec_l03Own (b_0 : GBody) (hp0 : b_0.Mesh.Places.length ≤ 1073741824) (hp1 : b_0.Mesh.Triangles.length ≤ 1073741824) (hp2 : ∀ t ∈ b_0.Mesh.Triangles, t.length ≤ 1073741824) (hp3 : b_0.Springs.length ≤ 1073741824) (hp4 : b_0.Weights.length ≤ 1073741824) : Fn prog 62 [.ref (GBody.cells b_0) 0] (.agg [.own 0, .own 1, .own 2, .f .f32 b_0.Film, .f .f32 b_0.Bend, .own 3, .f .f32 b_0.Fall.X, .f .f32 b_0.Fall.Y, .f .f32 b_0.Fall.Z]) [.vec 40 3 (b_0.Mesh.Places.map GVector.cells) false, .nest 54 (b_0.Mesh.Triangles.map fun l => l.map (cI .i64)) false, .vec 97 4 (b_0.Springs.map GSpring.cells) false, .vec 27 1 (b_0.Weights.map (cF .f32)) false] := by
 simpa only [eq_l03Own] using t_spec_l03Own  b_0 hp0 hp1 hp2 hp3 hp4

def v_spec_l03Bumped (b_0 : GBody) (place_1 : Int) (axis_2 : Int) (x_3 : Nat) : GBody := (cond (axis_2 == 0)
  (⟨(⟨(b_0.Mesh.Places.set place_1.toNat (⟨(fop .add .f32 ((b_0.Mesh.Places.getD place_1.toNat default).X) x_3), (b_0.Mesh.Places.getD place_1.toNat default).Y, (b_0.Mesh.Places.getD place_1.toNat default).Z⟩ : GVector)), b_0.Mesh.Triangles⟩ : GMesh), b_0.Springs, b_0.Film, b_0.Bend, b_0.Weights, b_0.Fall⟩ : GBody)
  (cond (axis_2 == 1)
    (⟨(⟨(b_0.Mesh.Places.set place_1.toNat (⟨(b_0.Mesh.Places.getD place_1.toNat default).X, (fop .add .f32 ((b_0.Mesh.Places.getD place_1.toNat default).Y) x_3), (b_0.Mesh.Places.getD place_1.toNat default).Z⟩ : GVector)), b_0.Mesh.Triangles⟩ : GMesh), b_0.Springs, b_0.Film, b_0.Bend, b_0.Weights, b_0.Fall⟩ : GBody)
    (⟨(⟨(b_0.Mesh.Places.set place_1.toNat (⟨(b_0.Mesh.Places.getD place_1.toNat default).X, (b_0.Mesh.Places.getD place_1.toNat default).Y, (fop .add .f32 ((b_0.Mesh.Places.getD place_1.toNat default).Z) x_3)⟩ : GVector)), b_0.Mesh.Triangles⟩ : GMesh), b_0.Springs, b_0.Film, b_0.Bend, b_0.Weights, b_0.Fall⟩ : GBody)))

theorem okBd_set {b : GBody} (h : OkBd b) (i : Nat) (v : GVector) (f d : Nat) (g : GVector) : OkBd ⟨⟨b.Mesh.Places.set i v, b.Mesh.Triangles⟩, b.Springs, f, d, b.Weights, g⟩ :=
  ⟨by rw [List.length_set]; exact h.e, by rw [List.length_set]; exact h.w, by rw [List.length_set]; exact h.a, by rw [List.length_set]; exact h.b⟩
theorem okBd_bump {b : GBody} (h : OkBd b) (p a : Int) (x : Nat) : OkBd (v_spec_l03Bumped b p a x) := by
  unfold v_spec_l03Bumped
  cases (a == 0) <;> cases (a == 1) <;> exact okBd_set h _ _ _ _ _
theorem leB_P (b : GBody) (p a : Int) (x : Nat) : (v_spec_l03Bumped b p a x).Mesh.Places.length ≤ b.Mesh.Places.length := by
  unfold v_spec_l03Bumped
  cases (a == 0) <;> cases (a == 1) <;> simp
theorem leB_T (b : GBody) (p a : Int) (x : Nat) : (v_spec_l03Bumped b p a x).Mesh.Triangles.length ≤ b.Mesh.Triangles.length := by
  unfold v_spec_l03Bumped
  cases (a == 0) <;> cases (a == 1) <;> simp
theorem leB_W (b : GBody) (p a : Int) (x : Nat) : (v_spec_l03Bumped b p a x).Weights.length ≤ b.Weights.length := by
  unfold v_spec_l03Bumped
  cases (a == 0) <;> cases (a == 1) <;> simp
theorem leB_S (b : GBody) (p a : Int) (x : Nat) : (v_spec_l03Bumped b p a x).Springs.length ≤ b.Springs.length := by
  unfold v_spec_l03Bumped
  cases (a == 0) <;> cases (a == 1) <;> simp
theorem leB_M (b : GBody) (p a : Int) (x : Nat) : ∀ t ∈ (v_spec_l03Bumped b p a x).Mesh.Triangles, t ∈ b.Mesh.Triangles := by
  unfold v_spec_l03Bumped
  cases (a == 0) <;> cases (a == 1) <;> exact fun t ht => ht
theorem leB_all (b : GBody) (p a : Int) (x : Nat) (h : ∀ t ∈ b.Mesh.Triangles, t.length ≤ 1073741824) : ∀ t ∈ (v_spec_l03Bumped b p a x).Mesh.Triangles, t.length ≤ 1073741824 := fun t ht => h t (leB_M b p a x t ht)

theorem t_spec_l03Bumped (b_0 : GBody) (place_1 : Int) (axis_2 : Int) (x_3 : Nat) (hp0 : b_0.Mesh.Places.length ≤ 1073741824) (hp1 : b_0.Mesh.Triangles.length ≤ 1073741824) (hp2 : ∀ t ∈ b_0.Mesh.Triangles, t.length ≤ 1073741824) (hp3 : b_0.Springs.length ≤ 1073741824) (hp4 : b_0.Weights.length ≤ 1073741824) (hp5 : OkBd b_0) (hp6 : 0 ≤ place_1) (hp7 : place_1 < (b_0.Mesh.Places.length : Int))  : Fn prog 32 [.ref (GBody.cells b_0) 0, .i .i64 place_1, .i .i64 axis_2, .f .f32 x_3] (.agg [.own 0, .own 1, .own 2, .f .f32 ((v_spec_l03Bumped b_0 place_1 axis_2 x_3).Film), .f .f32 ((v_spec_l03Bumped b_0 place_1 axis_2 x_3).Bend), .own 3, .f .f32 ((v_spec_l03Bumped b_0 place_1 axis_2 x_3).Fall.X), .f .f32 ((v_spec_l03Bumped b_0 place_1 axis_2 x_3).Fall.Y), .f .f32 ((v_spec_l03Bumped b_0 place_1 axis_2 x_3).Fall.Z)]) [.vec 40 3 (((v_spec_l03Bumped b_0 place_1 axis_2 x_3).Mesh.Places).map GVector.cells) false, .nest 54 (((v_spec_l03Bumped b_0 place_1 axis_2 x_3).Mesh.Triangles).map fun l => l.map (cI .i64)) false, .vec 97 4 (((v_spec_l03Bumped b_0 place_1 axis_2 x_3).Springs).map GSpring.cells) false, .vec 27 1 (((v_spec_l03Bumped b_0 place_1 axis_2 x_3).Weights).map (cF .f32)) false] := by
 have y0 : (0 : Int) ≤ place_1 := (by first | assumption | omega)
 have p {a C} (s : Scr a C) := sF (i_spec_l03Own b_0 hp0 hp1 hp2 hp3 hp4) <| sX GVector.cells b_0.Mesh.Places place_1 y0 hp7 <| s
 cases h0 : (axis_2 == 0) with
 | true =>
  have gh0 := eq_of_beq h0
  have y1 : place_1.toNat < b_0.Mesh.Places.length := by clear p; exact (by first | assumption | omega)
  refine fnS E0Ok hMixed (c := bodyOf f32) [] (.agg [.own 0, .own 1, .own 2, .f .f32 b_0.Film, .f .f32 b_0.Bend, .own 3, .f .f32 b_0.Fall.X, .f .f32 b_0.Fall.Y, .f .f32 b_0.Fall.Z]) [.vec 40 3 ((b_0.Mesh.Places.map GVector.cells).set place_1.toNat [.f .f32 (fop .add .f32 ((b_0.Mesh.Places.getD place_1.toNat default).X) x_3), .f .f32 ((b_0.Mesh.Places.getD place_1.toNat default).Y), .f .f32 ((b_0.Mesh.Places.getD place_1.toNat default).Z)]) false, .nest 54 (b_0.Mesh.Triangles.map fun l => l.map (cI .i64)) false, .vec 97 4 (b_0.Springs.map GSpring.cells) false, .vec 27 1 (b_0.Weights.map (cF .f32)) false] func32 (p (sB h0 <| sV GVector.cells b_0.Mesh.Places place_1.toNat y1 <| sV GVector.cells b_0.Mesh.Places place_1.toNat y1 <| sK [1, 2, 3, 4] sN)) rfl (by kernel_rfl) (by kernel_rfl) rfl ?_ ?_
  · simp only [v_spec_l03Bumped, h0, cond_true]
  · simp [v_spec_l03Bumped, h0, GVector.cells]
 | false =>
  have gh0 := ne_of_beq_false h0
  have q {a C} (s : Scr a C) := p (sB h0 <| s)
  clear p
  cases h1 : (axis_2 == 1) with
  | true =>
   have gh1 := eq_of_beq h1
   have y1 : place_1.toNat < b_0.Mesh.Places.length := by clear q; exact (by first | assumption | omega)
   refine fnS E0Ok hMixed (c := bodyOf f32) [] (.agg [.own 0, .own 1, .own 2, .f .f32 b_0.Film, .f .f32 b_0.Bend, .own 3, .f .f32 b_0.Fall.X, .f .f32 b_0.Fall.Y, .f .f32 b_0.Fall.Z]) [.vec 40 3 ((b_0.Mesh.Places.map GVector.cells).set place_1.toNat [.f .f32 ((b_0.Mesh.Places.getD place_1.toNat default).X), .f .f32 (fop .add .f32 ((b_0.Mesh.Places.getD place_1.toNat default).Y) x_3), .f .f32 ((b_0.Mesh.Places.getD place_1.toNat default).Z)]) false, .nest 54 (b_0.Mesh.Triangles.map fun l => l.map (cI .i64)) false, .vec 97 4 (b_0.Springs.map GSpring.cells) false, .vec 27 1 (b_0.Weights.map (cF .f32)) false] func32 (q (sB h1 <| sV GVector.cells b_0.Mesh.Places place_1.toNat y1 <| sV GVector.cells b_0.Mesh.Places place_1.toNat y1 <| sK [1, 2, 3, 4] sN)) rfl (by kernel_rfl) (by kernel_rfl) rfl ?_ ?_
   · simp only [v_spec_l03Bumped, h0, h1, cond_true, cond_false]
   · simp [v_spec_l03Bumped, h0, h1, GVector.cells]
  | false =>
   have gh1 := ne_of_beq_false h1
   have y1 : place_1.toNat < b_0.Mesh.Places.length := by clear q; exact (by first | assumption | omega)
   refine fnS E0Ok hMixed (c := bodyOf f32) [] (.agg [.own 0, .own 1, .own 2, .f .f32 b_0.Film, .f .f32 b_0.Bend, .own 3, .f .f32 b_0.Fall.X, .f .f32 b_0.Fall.Y, .f .f32 b_0.Fall.Z]) [.vec 40 3 ((b_0.Mesh.Places.map GVector.cells).set place_1.toNat [.f .f32 ((b_0.Mesh.Places.getD place_1.toNat default).X), .f .f32 ((b_0.Mesh.Places.getD place_1.toNat default).Y), .f .f32 (fop .add .f32 ((b_0.Mesh.Places.getD place_1.toNat default).Z) x_3)]) false, .nest 54 (b_0.Mesh.Triangles.map fun l => l.map (cI .i64)) false, .vec 97 4 (b_0.Springs.map GSpring.cells) false, .vec 27 1 (b_0.Weights.map (cF .f32)) false] func32 (q (sB h1 <| sV GVector.cells b_0.Mesh.Places place_1.toNat y1 <| sV GVector.cells b_0.Mesh.Places place_1.toNat y1 <| sK [1, 2, 3, 4] sN)) rfl (by kernel_rfl) (by kernel_rfl) rfl ?_ ?_
   · simp only [v_spec_l03Bumped, h0, h1, cond_false]
   · simp [v_spec_l03Bumped, h0, h1, GVector.cells]

def v_spec_l01Less (a_0 : GVector) (b_1 : GVector) : GVector := (⟨(fop .sub .f32 a_0.X b_1.X), (fop .sub .f32 a_0.Y b_1.Y), (fop .sub .f32 a_0.Z b_1.Z)⟩ : GVector)

theorem t_spec_l01Less (a_0 : GVector) (b_1 : GVector)   : Fn prog 79 [.agg [.f .f32 a_0.X, .f .f32 a_0.Y, .f .f32 a_0.Z], .agg [.f .f32 b_1.X, .f .f32 b_1.Y, .f .f32 b_1.Z]] (.agg [.f .f32 ((v_spec_l01Less a_0 b_1).X), .f .f32 ((v_spec_l01Less a_0 b_1).Y), .f .f32 ((v_spec_l01Less a_0 b_1).Z)]) [] := by
 refine fnS E0Ok hMixed (c := bodyOf f79) [] (.agg [.f .f32 (fop .sub .f32 a_0.X b_1.X), .f .f32 (fop .sub .f32 a_0.Y b_1.Y), .f .f32 (fop .sub .f32 a_0.Z b_1.Z)]) [] func79 (sK [] sN) rfl (by kernel_rfl) (by kernel_rfl) rfl ?_ ?_
 · rfl
 · rfl

def v_spec_l01Inner (a_0 : GVector) (b_1 : GVector) : Nat := (fop .add .f32 (fop .add .f32 (fop .mul .f32 a_0.X b_1.X) (fop .mul .f32 a_0.Y b_1.Y)) (fop .mul .f32 a_0.Z b_1.Z))

theorem t_spec_l01Inner (a_0 : GVector) (b_1 : GVector)   : Fn prog 99 [.agg [.f .f32 a_0.X, .f .f32 a_0.Y, .f .f32 a_0.Z], .agg [.f .f32 b_1.X, .f .f32 b_1.Y, .f .f32 b_1.Z]] (.f .f32 (v_spec_l01Inner a_0 b_1)) [] := by
 refine fnS E0Ok hMixed (c := bodyOf f99) [] (.f .f32 (fop .add .f32 (fop .add .f32 (fop .mul .f32 a_0.X b_1.X) (fop .mul .f32 a_0.Y b_1.Y)) (fop .mul .f32 a_0.Z b_1.Z))) [] func99 (sK [] sN) rfl (by kernel_rfl) (by kernel_rfl) rfl ?_ ?_
 · rfl
 · rfl

def v_math_Sqrt (x_0 : Nat) : Nat := (fsqrt x_0)

theorem t_math_Sqrt (x_0 : Nat)   : Fn prog 111 [.f .f64 x_0] (.f .f64 (v_math_Sqrt x_0)) [] := by
 refine fnS E0Ok hMixed (c := bodyOf f111) [] (.f .f64 (fsqrt x_0)) [] func111 (sK [] sN) rfl (by kernel_rfl) (by kernel_rfl) rfl ?_ ?_
 · rfl
 · rfl

def v_spec_l01Narrow (x_0 : Nat) : Nat := (fcv .f64 .f32 x_0)

theorem t_spec_l01Narrow (x_0 : Nat) (hp0 : fcvOk .f64 .f32 x_0 = true)  : Fn prog 110 [.f .f64 x_0] (.f .f32 (v_spec_l01Narrow x_0)) [] := by
 refine fnS E0Ok hMixed (c := bodyOf f110) [] (.f .f32 (fcv .f64 .f32 x_0)) [] func110 (sC hp0 <| sK [] sN) rfl (by kernel_rfl) (by kernel_rfl) rfl ?_ ?_
 · rfl
 · rfl

def v_spec_l01Sqrt (x_0 : Nat) : Nat := (v_spec_l01Narrow (v_math_Sqrt (fcv .f32 .f64 x_0)))

theorem t_spec_l01Sqrt (x_0 : Nat)   : Fn prog 102 [.f .f32 x_0] (.f .f32 (v_spec_l01Sqrt x_0)) [] := by
 have y0 : fcvOk .f64 .f32 (v_math_Sqrt (fcv .f32 .f64 x_0)) = true := (narrow_sqrt _)
 refine fnS E0Ok hMixed (c := bodyOf f102) [] (.f .f32 (v_spec_l01Narrow (v_math_Sqrt (fcv .f32 .f64 x_0)))) [] func102 (sC (widenOk x_0) <| sF (t_math_Sqrt (fcv .f32 .f64 x_0)) <| sF (t_spec_l01Narrow (v_math_Sqrt (fcv .f32 .f64 x_0)) y0) <| sK [] sN) rfl (by kernel_rfl) (by kernel_rfl) rfl ?_ ?_
 · rfl
 · rfl

def v_spec_l01Long (v_0 : GVector) : Nat := (v_spec_l01Sqrt (v_spec_l01Inner v_0 v_0))

theorem t_spec_l01Long (v_0 : GVector)   : Fn prog 78 [.agg [.f .f32 v_0.X, .f .f32 v_0.Y, .f .f32 v_0.Z]] (.f .f32 (v_spec_l01Long v_0)) [] := by
 refine fnS E0Ok hMixed (c := bodyOf f78) [] (.f .f32 (v_spec_l01Sqrt (v_spec_l01Inner v_0 v_0))) [] func78 (sF (t_spec_l01Inner v_0 v_0) <| sF (t_spec_l01Sqrt (v_spec_l01Inner v_0 v_0)) <| sK [] sN) rfl (by kernel_rfl) (by kernel_rfl) rfl ?_ ?_
 · rfl
 · rfl

def v_spec_l01Cross (a_0 : GVector) (b_1 : GVector) : GVector := (⟨(fop .sub .f32 (fop .mul .f32 a_0.Y b_1.Z) (fop .mul .f32 a_0.Z b_1.Y)), (fop .sub .f32 (fop .mul .f32 a_0.Z b_1.X) (fop .mul .f32 a_0.X b_1.Z)), (fop .sub .f32 (fop .mul .f32 a_0.X b_1.Y) (fop .mul .f32 a_0.Y b_1.X))⟩ : GVector)

theorem t_spec_l01Cross (a_0 : GVector) (b_1 : GVector)   : Fn prog 80 [.agg [.f .f32 a_0.X, .f .f32 a_0.Y, .f .f32 a_0.Z], .agg [.f .f32 b_1.X, .f .f32 b_1.Y, .f .f32 b_1.Z]] (.agg [.f .f32 ((v_spec_l01Cross a_0 b_1).X), .f .f32 ((v_spec_l01Cross a_0 b_1).Y), .f .f32 ((v_spec_l01Cross a_0 b_1).Z)]) [] := by
 refine fnS E0Ok hMixed (c := bodyOf f80) [] (.agg [.f .f32 (fop .sub .f32 (fop .mul .f32 a_0.Y b_1.Z) (fop .mul .f32 a_0.Z b_1.Y)), .f .f32 (fop .sub .f32 (fop .mul .f32 a_0.Z b_1.X) (fop .mul .f32 a_0.X b_1.Z)), .f .f32 (fop .sub .f32 (fop .mul .f32 a_0.X b_1.Y) (fop .mul .f32 a_0.Y b_1.X))]) [] func80 (sK [] sN) rfl (by kernel_rfl) (by kernel_rfl) rfl ?_ ?_
 · rfl
 · rfl

def nd_spec_l03Normal_0 (m_0 : GMesh) (t_1 : (List Int)) : GVector := (v_spec_l01Cross (v_spec_l01Less (m_0.Places.getD (t_1.getD 1 default).toNat default) (m_0.Places.getD (t_1.getD 0 default).toNat default)) (v_spec_l01Less (m_0.Places.getD (t_1.getD 2 default).toNat default) (m_0.Places.getD (t_1.getD 0 default).toNat default)))

def v_spec_l03Normal (m_0 : GMesh) (t_1 : (List Int)) : GVector := (nd_spec_l03Normal_0 m_0 t_1)

theorem t_spec_l03Normal (m_0 : GMesh) (t_1 : (List Int)) (hp0 : m_0.Places.length ≤ 1073741824) (hp1 : m_0.Triangles.length ≤ 1073741824) (hp2 : ∀ t ∈ m_0.Triangles, t.length ≤ 1073741824) (hp3 : t_1.length ≤ 1073741824) (hp4 : t_1.length = 3 ∧ ∀ x ∈ t_1, 0 ≤ x ∧ x < (m_0.Places.length : Int))  : Fn prog 76 [.ref (GMesh.cells m_0) 0, .sl (t_1.map (cI .i64))] (.agg [.f .f32 ((v_spec_l03Normal m_0 t_1).X), .f .f32 ((v_spec_l03Normal m_0 t_1).Y), .f .f32 ((v_spec_l03Normal m_0 t_1).Z)]) [] := by
 have y0 : (0 : Int) ≤ 0 := (by first | assumption | omega)
 have y1 : 0 < (t_1.length : Int) := (by first | assumption | omega)
 have y2 : (0 : Int) ≤ (t_1.getD 0 default) := (by first | assumption | omega | (have q := Okt.at hp4; omega) | (simp_all <;> omega))
 have y3 : (t_1.getD 0 default) < (m_0.Places.length : Int) := (by first | assumption | omega | (have q := Okt.at hp4; omega) | (simp_all <;> omega))
 have y4 : (0 : Int) ≤ 1 := (by first | assumption | omega)
 have y5 : 1 < (t_1.length : Int) := (by first | assumption | omega)
 have y6 : (0 : Int) ≤ (t_1.getD 1 default) := (by first | assumption | omega | (have q := Okt.at hp4; omega) | (simp_all <;> omega))
 have y7 : (t_1.getD 1 default) < (m_0.Places.length : Int) := (by first | assumption | omega | (have q := Okt.at hp4; omega) | (simp_all <;> omega))
 have y8 : (0 : Int) ≤ 2 := (by first | assumption | omega)
 have y9 : 2 < (t_1.length : Int) := (by first | assumption | omega)
 have y10 : (0 : Int) ≤ (t_1.getD 2 default) := (by first | assumption | omega | (have q := Okt.at hp4; omega) | (simp_all <;> omega))
 have y11 : (t_1.getD 2 default) < (m_0.Places.length : Int) := (by first | assumption | omega | (have q := Okt.at hp4; omega) | (simp_all <;> omega))
 refine fnS E0Ok hMixed (c := bodyOf f76) [] (.agg [.f .f32 ((nd_spec_l03Normal_0 m_0 t_1).X), .f .f32 ((nd_spec_l03Normal_0 m_0 t_1).Y), .f .f32 ((nd_spec_l03Normal_0 m_0 t_1).Z)]) [] func76 (sK [10, 10] <| sG (cI .i64) t_1 0 y0 y1 <| sG GVector.cells m_0.Places (t_1.getD 0 default) y2 y3 <| sK [21, 21] <| sG (cI .i64) t_1 1 y4 y5 <| sG GVector.cells m_0.Places (t_1.getD 1 default) y6 y7 <| sF (t_spec_l01Less (m_0.Places.getD (t_1.getD 1 default).toNat default) (m_0.Places.getD (t_1.getD 0 default).toNat default)) <| sG (cI .i64) t_1 2 y8 y9 <| sG GVector.cells m_0.Places (t_1.getD 2 default) y10 y11 <| sF (t_spec_l01Less (m_0.Places.getD (t_1.getD 2 default).toNat default) (m_0.Places.getD (t_1.getD 0 default).toNat default)) <| sF (t_spec_l01Cross (v_spec_l01Less (m_0.Places.getD (t_1.getD 1 default).toNat default) (m_0.Places.getD (t_1.getD 0 default).toNat default)) (v_spec_l01Less (m_0.Places.getD (t_1.getD 2 default).toNat default) (m_0.Places.getD (t_1.getD 0 default).toNat default))) <| sK [] sN) rfl (by kernel_rfl) (by kernel_rfl) rfl ?_ ?_
 · rfl
 · rfl

def v_spec_l00Min (a_0 : Int) (b_1 : Int) : Int := (cond (decide (a_0 < b_1))
  a_0
  b_1)

theorem t_spec_l00Min (a_0 : Int) (b_1 : Int)   : Fn prog 112 [.i .i64 a_0, .i .i64 b_1] (.i .i64 (v_spec_l00Min a_0 b_1)) [] := by
 cases h0 : (decide (a_0 < b_1)) with
 | true =>
  have gh0 := of_decide_eq_true h0
  refine fnS E0Ok hMixed (c := bodyOf f112) [] (.i .i64 a_0) [] func112 (sB h0 <| sK [] sN) rfl (by kernel_rfl) (by kernel_rfl) rfl ?_ ?_
  · simp only [v_spec_l00Min, h0, cond_true]
  · rfl
 | false =>
  have gh0 := of_decide_eq_false h0
  refine fnS E0Ok hMixed (c := bodyOf f112) [] (.i .i64 b_1) [] func112 (sB h0 <| sK [] sN) rfl (by kernel_rfl) (by kernel_rfl) rfl ?_ ?_
  · simp only [v_spec_l00Min, h0, cond_false]
  · rfl

theorem min_bd {a b n : Int} (h1 : 0 ≤ a ∧ a < n) (h2 : 0 ≤ b ∧ b < n) : 0 ≤ v_spec_l00Min a b ∧ v_spec_l00Min a b < n := by
  unfold v_spec_l00Min; cases decide (a < b) <;> simp only [cond_true, cond_false] <;> omega

def v_spec_l00Max (a_0 : Int) (b_1 : Int) : Int := (cond (decide (a_0 > b_1))
  a_0
  b_1)

theorem t_spec_l00Max (a_0 : Int) (b_1 : Int)   : Fn prog 113 [.i .i64 a_0, .i .i64 b_1] (.i .i64 (v_spec_l00Max a_0 b_1)) [] := by
 cases h0 : (decide (a_0 > b_1)) with
 | true =>
  have gh0 := of_decide_eq_true h0
  refine fnS E0Ok hMixed (c := bodyOf f113) [] (.i .i64 a_0) [] func113 (sB h0 <| sK [] sN) rfl (by kernel_rfl) (by kernel_rfl) rfl ?_ ?_
  · simp only [v_spec_l00Max, h0, cond_true]
  · rfl
 | false =>
  have gh0 := of_decide_eq_false h0
  refine fnS E0Ok hMixed (c := bodyOf f113) [] (.i .i64 b_1) [] func113 (sB h0 <| sK [] sN) rfl (by kernel_rfl) (by kernel_rfl) rfl ?_ ?_
  · simp only [v_spec_l00Max, h0, cond_false]
  · rfl

theorem max_bd {a b n : Int} (h1 : 0 ≤ a ∧ a < n) (h2 : 0 ≤ b ∧ b < n) : 0 ≤ v_spec_l00Max a b ∧ v_spec_l00Max a b < n := by
  unfold v_spec_l00Max; cases decide (a > b) <;> simp only [cond_true, cond_false] <;> omega
theorem mkE_minmax (a b : Int) : (⟨v_spec_l00Min a b, v_spec_l00Max a b⟩ : Gedge) = mkE a b := by
  unfold v_spec_l00Min v_spec_l00Max mkE
  by_cases h : a < b
  · rw [decide_eq_true h, decide_eq_false (by omega), if_pos (by omega)]; rfl
  · rw [decide_eq_false h]
    by_cases h2 : a > b
    · rw [decide_eq_true h2, if_neg (by omega)]; rfl
    · rw [decide_eq_false h2, show a = b from by omega, if_pos (by omega)]; rfl

def nd_spec_l02Edges_0 (m_0 : GMesh) (i_l0 : Int) (k_l0 : Int) : Int := (v_spec_l00Min ((m_0.Triangles.getD i_l0.toNat default).getD k_l0.toNat default) ((m_0.Triangles.getD i_l0.toNat default).getD (Int.tmod (k_l0 + 1) 3).toNat default))

def nd_spec_l02Edges_1 (m_0 : GMesh) (i_l0 : Int) (k_l0 : Int) : Int := (v_spec_l00Max ((m_0.Triangles.getD i_l0.toNat default).getD k_l0.toNat default) ((m_0.Triangles.getD i_l0.toNat default).getD (Int.tmod (k_l0 + 1) 3).toNat default))

def lo_spec_l02Edges_2 (m_0 : GMesh) (i_l0 : Int) (r0_l1 : (List Bool)) : Nat → Int → (List Bool) → (List Bool)
  | 0, _, _ => default
  | k + 1, k_l0, r0_l1_1 => (cond (decide (k_l0 < 3))
    (lo_spec_l02Edges_2 m_0 i_l0 r0_l1 k (k_l0 + 1) (r0_l1_1.set ((IntKind.wrap .i64 ((IntKind.wrap .i64 ((nd_spec_l02Edges_0 m_0 i_l0 k_l0) * (m_0.Places.length : Int))) + (nd_spec_l02Edges_1 m_0 i_l0 k_l0))).toNat) true))
    r0_l1_1)

def ls_spec_l02Edges_2 (m_0 : GMesh) (i_l0 : Int) (r0_l1 : (List Bool)) (r : (List Bool)) : Ex × St := ((.exit 2), ⟨[.ref (GMesh.cells m_0) 0, .any, .nils, .i .i64 (m_0.Places.length : Int), .own 0, .i .i64 i_l0, .any, .any, .any, .any, .any, .any, .any, .ref (GMesh.cells m_0) 0, .ref (GMesh.cells m_0) 0, .ref (GMesh.cells m_0) 0, .sl (m_0.Places.map GVector.cells), .i .i64 (m_0.Places.length : Int), .i .i64 (m_0.Places.length : Int), .i .i64 (m_0.Places.length : Int), .i .i64 (IntKind.wrap .i64 ((m_0.Places.length : Int) * (m_0.Places.length : Int))), .own 0, .i .i64 i_l0, .ref (GMesh.cells m_0) 0, .ref (GMesh.cells m_0) 0, .ref (GMesh.cells m_0) 1, .sl (m_0.Triangles.map (cL (cI .i64))), .i .i64 (m_0.Triangles.length : Int), .b (decide (i_l0 < (m_0.Triangles.length : Int))), .any, .any, .ref (GMesh.cells m_0) 0, .ref (GMesh.cells m_0) 0, .ref (GMesh.cells m_0) 1, .sl (m_0.Triangles.map (cL (cI .i64))), .i .i64 i_l0, .ref [.sl ((m_0.Triangles.getD i_l0.toNat default).map (cI .i64))] 0, .sl ((m_0.Triangles.getD i_l0.toNat default).map (cI .i64)), .any, .any, .any, .any, .any, .any, .any, .any, .any, .any, .any, .any, .any, .any, .any, .any, .any, .any, .any, .any, .any, .any, .any, .any, .any, .any, .any, .any, .any, .any, .any, .any, .any, .any, .any, .any, .any, .any, .any, .any, .any, .any, .any, .any, .any, .any, .any, .any, .any, .any, .any, .any, .any], [.vec 4 1 (r.map cB) false]⟩)

def hd_spec_l02Edges_2 (m_0 : GMesh) (i_l0 : Int) (r0_l1 : (List Bool)) (k_l0 : Int) (r0_l1_1 : (List Bool)) : St := ⟨[.ref (GMesh.cells m_0) 0, .any, .nils, .i .i64 (m_0.Places.length : Int), .own 0, .i .i64 i_l0, .sl ((m_0.Triangles.getD i_l0.toNat default).map (cI .i64)), .i .i64 k_l0, .any, .any, .any, .any, .any, .ref (GMesh.cells m_0) 0, .ref (GMesh.cells m_0) 0, .ref (GMesh.cells m_0) 0, .sl (m_0.Places.map GVector.cells), .i .i64 (m_0.Places.length : Int), .i .i64 (m_0.Places.length : Int), .i .i64 (m_0.Places.length : Int), .i .i64 (IntKind.wrap .i64 ((m_0.Places.length : Int) * (m_0.Places.length : Int))), .own 0, .i .i64 i_l0, .ref (GMesh.cells m_0) 0, .ref (GMesh.cells m_0) 0, .ref (GMesh.cells m_0) 1, .sl (m_0.Triangles.map (cL (cI .i64))), .i .i64 (m_0.Triangles.length : Int), .b (decide (i_l0 < (m_0.Triangles.length : Int))), .any, .any, .ref (GMesh.cells m_0) 0, .ref (GMesh.cells m_0) 0, .ref (GMesh.cells m_0) 1, .sl (m_0.Triangles.map (cL (cI .i64))), .i .i64 i_l0, .ref [.sl ((m_0.Triangles.getD i_l0.toNat default).map (cI .i64))] 0, .sl ((m_0.Triangles.getD i_l0.toNat default).map (cI .i64)), .any, .any, .any, .any, .any, .any, .any, .any, .any, .any, .any, .any, .any, .any, .any, .any, .any, .any, .any, .any, .any, .any, .any, .any, .any, .any, .any, .any, .any, .any, .any, .any, .any, .any, .any, .any, .any, .any, .any, .any, .any, .any, .any, .any, .any, .any, .any, .any, .any, .any, .any, .any, .any], [.vec 4 1 (r0_l1_1.map cB) false]⟩

def mk_spec_l02Edges_2_0 : List Bool := [true, false, true, true, true, true, true, true, false, false, false, false, false, true, true, true, true, true, true, true, true, true, true, true, true, true, true, true, true, false, false, true, true, true, true, true, true, true, false, false, false, false, false, false, false, false, false, false, false, false, false, false, false, false, false, false, false, false, false, false, false, false, false, false, false, false, false, false, false, false, false, false, false, false, false, false, false, false, false, false, false, false, false, false, false, false, false, false, false, false, false]

def mk_spec_l02Edges_2_1 : List Bool := [true, false, true, true, true, true, false, false, false, false, false, false, false, true, true, true, true, true, true, true, true, true, true, true, true, true, true, true, true, false, false, true, true, true, true, true, true, true, false, false, false, false, false, false, false, false, false, false, false, false, false, false, false, false, false, false, false, false, false, false, false, false, false, false, false, false, false, false, false, false, false, false, false, false, false, false, false, false, false, false, false, false, false, false, false, false, false, false, false, false, false]

theorem lp_spec_l02Edges_2 (m_0 : GMesh) (i_l0 : Int) (r0_l1 : (List Bool)) (hp0 : m_0.Places.length ≤ 1073741824) (hp1 : m_0.Triangles.length ≤ 1073741824) (hp2 : ∀ t ∈ m_0.Triangles, t.length ≤ 1073741824) (hp3 : OkE m_0.Places.length m_0.Triangles) (hv_spec_l02Edges_1_0 : 0 ≤ i_l0) (hv_spec_l02Edges_1_1 : r0_l1.length = (IntKind.wrap .i64 ((m_0.Places.length : Int) * (m_0.Places.length : Int))).toNat) (hf_spec_l02Edges_2_0 : (decide (i_l0 < (m_0.Triangles.length : Int))) = true) : ∀ (k : Nat) (k_l0 : Int) (r0_l1_1 : (List Bool)) (hv_spec_l02Edges_2_0 : 0 ≤ k_l0) (hv_spec_l02Edges_2_1 : r0_l1_1.length = r0_l1.length) (hk : ((3 : Int) - k_l0).toNat < k), Lp prog 0 (sub (bodyOf f103) [1, 1, 1, 0, 1, 0, 0, 1, 0, 0, 1, 1, 0, 0]) (hd_spec_l02Edges_2 m_0 i_l0 r0_l1 k_l0 r0_l1_1) (ls_spec_l02Edges_2 m_0 i_l0 r0_l1 (lo_spec_l02Edges_2 m_0 i_l0 r0_l1 k k_l0 r0_l1_1)).1 (ls_spec_l02Edges_2 m_0 i_l0 r0_l1 (lo_spec_l02Edges_2 m_0 i_l0 r0_l1 k k_l0 r0_l1_1)).2 := by
 intro k
 induction k with
 | zero => intro k_l0 r0_l1_1 hv_spec_l02Edges_2_0 hv_spec_l02Edges_2_1 hk; exact absurd hk (Nat.not_lt_zero _)
 | succ k ih =>
  intro k_l0 r0_l1_1 hv_spec_l02Edges_2_0 hv_spec_l02Edges_2_1 hk
  cases h__0 : (decide (k_l0 < 3)) with
  | true =>
   have gh__0 := of_decide_eq_true h__0
   have y__0 : (0 : Int) ≤ k_l0 := (by first | assumption | omega)
   have y__1 : k_l0 < ((m_0.Triangles.getD i_l0.toNat default).length : Int) := (by first | assumption | omega | (first | (have q := OkE.at (by assumption) hv_spec_l02Edges_1_0 (of_decide_eq_true (by assumption)) hv_spec_l02Edges_2_0 (of_decide_eq_true (by assumption)); have q2 := ix2F q.2.2.2.2.2.1 (min_bd q.2.2.2.1 q.2.2.2.2.1).1 (min_bd q.2.2.2.1 q.2.2.2.2.1).2 (max_bd q.2.2.2.1 q.2.2.2.2.1).1 (max_bd q.2.2.2.1 q.2.2.2.2.1).2; unfold nd_spec_l02Edges_0 nd_spec_l02Edges_1; omega) | (have q := OkE.at (by assumption) hv_spec_l02Edges_1_0 (of_decide_eq_true (by assumption)) hv_spec_l02Edges_2_0 (of_decide_eq_true (by assumption)); omega) | (have := hp3.1; have g4 := of_decide_eq_true hf_spec_l02Edges_4_0; first | omega | (have q2 := ix2F (n := (m_0.Places.length : Int)) (a := a_l0) (b := b_l0) (by omega) (by omega) (by omega) (by omega) (by omega); first | omega | (simp only [len_lr_spec_l02Edges_1_1_0, List.length_replicate]; omega)) | (simp only [List.length_append, List.length_cons, List.length_nil]; omega)) | (have := hp3.1; have g4 := of_decide_eq_true h_0; have q := lo4_len m_0 a_l0 r1_l1 (((m_0.Places.length : Int) - (a_l0 + 1)).toNat + 1) (a_l0 + 1) r1_l1; unfold lr_spec_l02Edges_4_2; omega) | (have q2 := ixN hp3.1; omega)) | (simp_all <;> omega))
   have y__2 : (-9223372036854775808 : Int) ≤ (k_l0 + 1) := (by first | assumption | omega)
   have y__3 : (k_l0 + 1) ≤ (9223372036854775807 : Int) := (by first | assumption | omega)
   have y__4 : (0 : Int) ≤ (Int.tmod (k_l0 + 1) 3) := (by first | assumption | omega | (first | (have q := OkE.at (by assumption) hv_spec_l02Edges_1_0 (of_decide_eq_true (by assumption)) hv_spec_l02Edges_2_0 (of_decide_eq_true (by assumption)); have q2 := ix2F q.2.2.2.2.2.1 (min_bd q.2.2.2.1 q.2.2.2.2.1).1 (min_bd q.2.2.2.1 q.2.2.2.2.1).2 (max_bd q.2.2.2.1 q.2.2.2.2.1).1 (max_bd q.2.2.2.1 q.2.2.2.2.1).2; unfold nd_spec_l02Edges_0 nd_spec_l02Edges_1; omega) | (have q := OkE.at (by assumption) hv_spec_l02Edges_1_0 (of_decide_eq_true (by assumption)) hv_spec_l02Edges_2_0 (of_decide_eq_true (by assumption)); omega) | (have := hp3.1; have g4 := of_decide_eq_true hf_spec_l02Edges_4_0; first | omega | (have q2 := ix2F (n := (m_0.Places.length : Int)) (a := a_l0) (b := b_l0) (by omega) (by omega) (by omega) (by omega) (by omega); first | omega | (simp only [len_lr_spec_l02Edges_1_1_0, List.length_replicate]; omega)) | (simp only [List.length_append, List.length_cons, List.length_nil]; omega)) | (have := hp3.1; have g4 := of_decide_eq_true h_0; have q := lo4_len m_0 a_l0 r1_l1 (((m_0.Places.length : Int) - (a_l0 + 1)).toNat + 1) (a_l0 + 1) r1_l1; unfold lr_spec_l02Edges_4_2; omega) | (have q2 := ixN hp3.1; omega)) | (simp_all <;> omega))
   have y__5 : (Int.tmod (k_l0 + 1) 3) < ((m_0.Triangles.getD i_l0.toNat default).length : Int) := (by first | assumption | omega | (first | (have q := OkE.at (by assumption) hv_spec_l02Edges_1_0 (of_decide_eq_true (by assumption)) hv_spec_l02Edges_2_0 (of_decide_eq_true (by assumption)); have q2 := ix2F q.2.2.2.2.2.1 (min_bd q.2.2.2.1 q.2.2.2.2.1).1 (min_bd q.2.2.2.1 q.2.2.2.2.1).2 (max_bd q.2.2.2.1 q.2.2.2.2.1).1 (max_bd q.2.2.2.1 q.2.2.2.2.1).2; unfold nd_spec_l02Edges_0 nd_spec_l02Edges_1; omega) | (have q := OkE.at (by assumption) hv_spec_l02Edges_1_0 (of_decide_eq_true (by assumption)) hv_spec_l02Edges_2_0 (of_decide_eq_true (by assumption)); omega) | (have := hp3.1; have g4 := of_decide_eq_true hf_spec_l02Edges_4_0; first | omega | (have q2 := ix2F (n := (m_0.Places.length : Int)) (a := a_l0) (b := b_l0) (by omega) (by omega) (by omega) (by omega) (by omega); first | omega | (simp only [len_lr_spec_l02Edges_1_1_0, List.length_replicate]; omega)) | (simp only [List.length_append, List.length_cons, List.length_nil]; omega)) | (have := hp3.1; have g4 := of_decide_eq_true h_0; have q := lo4_len m_0 a_l0 r1_l1 (((m_0.Places.length : Int) - (a_l0 + 1)).toNat + 1) (a_l0 + 1) r1_l1; unfold lr_spec_l02Edges_4_2; omega) | (have q2 := ixN hp3.1; omega)) | (simp_all <;> omega))
   have y__6 : (0 : Int) ≤ (IntKind.wrap .i64 ((IntKind.wrap .i64 ((nd_spec_l02Edges_0 m_0 i_l0 k_l0) * (m_0.Places.length : Int))) + (nd_spec_l02Edges_1 m_0 i_l0 k_l0))) := (by first | assumption | omega | (first | (have q := OkE.at (by assumption) hv_spec_l02Edges_1_0 (of_decide_eq_true (by assumption)) hv_spec_l02Edges_2_0 (of_decide_eq_true (by assumption)); have q2 := ix2F q.2.2.2.2.2.1 (min_bd q.2.2.2.1 q.2.2.2.2.1).1 (min_bd q.2.2.2.1 q.2.2.2.2.1).2 (max_bd q.2.2.2.1 q.2.2.2.2.1).1 (max_bd q.2.2.2.1 q.2.2.2.2.1).2; unfold nd_spec_l02Edges_0 nd_spec_l02Edges_1; omega) | (have q := OkE.at (by assumption) hv_spec_l02Edges_1_0 (of_decide_eq_true (by assumption)) hv_spec_l02Edges_2_0 (of_decide_eq_true (by assumption)); omega) | (have := hp3.1; have g4 := of_decide_eq_true hf_spec_l02Edges_4_0; first | omega | (have q2 := ix2F (n := (m_0.Places.length : Int)) (a := a_l0) (b := b_l0) (by omega) (by omega) (by omega) (by omega) (by omega); first | omega | (simp only [len_lr_spec_l02Edges_1_1_0, List.length_replicate]; omega)) | (simp only [List.length_append, List.length_cons, List.length_nil]; omega)) | (have := hp3.1; have g4 := of_decide_eq_true h_0; have q := lo4_len m_0 a_l0 r1_l1 (((m_0.Places.length : Int) - (a_l0 + 1)).toNat + 1) (a_l0 + 1) r1_l1; unfold lr_spec_l02Edges_4_2; omega) | (have q2 := ixN hp3.1; omega)) | (simp_all <;> omega))
   have y__7 : (IntKind.wrap .i64 ((IntKind.wrap .i64 ((nd_spec_l02Edges_0 m_0 i_l0 k_l0) * (m_0.Places.length : Int))) + (nd_spec_l02Edges_1 m_0 i_l0 k_l0))) < (r0_l1_1.length : Int) := (by first | assumption | omega | (first | (have q := OkE.at (by assumption) hv_spec_l02Edges_1_0 (of_decide_eq_true (by assumption)) hv_spec_l02Edges_2_0 (of_decide_eq_true (by assumption)); have q2 := ix2F q.2.2.2.2.2.1 (min_bd q.2.2.2.1 q.2.2.2.2.1).1 (min_bd q.2.2.2.1 q.2.2.2.2.1).2 (max_bd q.2.2.2.1 q.2.2.2.2.1).1 (max_bd q.2.2.2.1 q.2.2.2.2.1).2; unfold nd_spec_l02Edges_0 nd_spec_l02Edges_1; omega) | (have q := OkE.at (by assumption) hv_spec_l02Edges_1_0 (of_decide_eq_true (by assumption)) hv_spec_l02Edges_2_0 (of_decide_eq_true (by assumption)); omega) | (have := hp3.1; have g4 := of_decide_eq_true hf_spec_l02Edges_4_0; first | omega | (have q2 := ix2F (n := (m_0.Places.length : Int)) (a := a_l0) (b := b_l0) (by omega) (by omega) (by omega) (by omega) (by omega); first | omega | (simp only [len_lr_spec_l02Edges_1_1_0, List.length_replicate]; omega)) | (simp only [List.length_append, List.length_cons, List.length_nil]; omega)) | (have := hp3.1; have g4 := of_decide_eq_true h_0; have q := lo4_len m_0 a_l0 r1_l1 (((m_0.Places.length : Int) - (a_l0 + 1)).toNat + 1) (a_l0 + 1) r1_l1; unfold lr_spec_l02Edges_4_2; omega) | (have q2 := ixN hp3.1; omega)) | (simp_all <;> omega))
   have y__8 : (IntKind.wrap .i64 ((IntKind.wrap .i64 ((nd_spec_l02Edges_0 m_0 i_l0 k_l0) * (m_0.Places.length : Int))) + (nd_spec_l02Edges_1 m_0 i_l0 k_l0))).toNat < r0_l1_1.length := (by first | assumption | omega)
   have e : lo_spec_l02Edges_2 m_0 i_l0 r0_l1 (k + 1) k_l0 r0_l1_1 = (lo_spec_l02Edges_2 m_0 i_l0 r0_l1 k (k_l0 + 1) (r0_l1_1.set ((IntKind.wrap .i64 ((IntKind.wrap .i64 ((nd_spec_l02Edges_0 m_0 i_l0 k_l0) * (m_0.Places.length : Int))) + (nd_spec_l02Edges_1 m_0 i_l0 k_l0))).toNat) true)) := by simp only [lo_spec_l02Edges_2, h__0, cond_true]
   rw [e]
   exact nextS E0Ok hMixed [] mk_spec_l02Edges_2_0 [0] (⟨[.ref (GMesh.cells m_0) 0, .any, .nils, .i .i64 (m_0.Places.length : Int), .own 0, .i .i64 i_l0, .sl ((m_0.Triangles.getD i_l0.toNat default).map (cI .i64)), .i .i64 (k_l0 + 1), .any, .any, .any, .any, .any, .ref (GMesh.cells m_0) 0, .ref (GMesh.cells m_0) 0, .ref (GMesh.cells m_0) 0, .sl (m_0.Places.map GVector.cells), .i .i64 (m_0.Places.length : Int), .i .i64 (m_0.Places.length : Int), .i .i64 (m_0.Places.length : Int), .i .i64 (IntKind.wrap .i64 ((m_0.Places.length : Int) * (m_0.Places.length : Int))), .own 0, .i .i64 i_l0, .ref (GMesh.cells m_0) 0, .ref (GMesh.cells m_0) 0, .ref (GMesh.cells m_0) 1, .sl (m_0.Triangles.map (cL (cI .i64))), .i .i64 (m_0.Triangles.length : Int), .b (decide (i_l0 < (m_0.Triangles.length : Int))), .any, .any, .ref (GMesh.cells m_0) 0, .ref (GMesh.cells m_0) 0, .ref (GMesh.cells m_0) 1, .sl (m_0.Triangles.map (cL (cI .i64))), .i .i64 i_l0, .ref [.sl ((m_0.Triangles.getD i_l0.toNat default).map (cI .i64))] 0, .sl ((m_0.Triangles.getD i_l0.toNat default).map (cI .i64)), .any, .any, .any, .any, .any, .any, .any, .any, .any, .any, .any, .any, .any, .any, .any, .any, .any, .any, .any, .any, .any, .any, .any, .any, .any, .any, .any, .any, .any, .any, .any, .any, .any, .any, .any, .any, .any, .any, .any, .any, .any, .any, .any, .any, .any, .any, .any, .any, .any, .any, .any, .any, .any], [.vec 4 1 ((r0_l1_1.map cB).set ((IntKind.wrap .i64 ((IntKind.wrap .i64 ((nd_spec_l02Edges_0 m_0 i_l0 k_l0) * (m_0.Places.length : Int))) + (nd_spec_l02Edges_1 m_0 i_l0 k_l0))).toNat) [.b true]) false]⟩) (sB h__0 <| sG (cI .i64) (m_0.Triangles.getD i_l0.toNat default) k_l0 y__0 y__1 <| sI (k_l0 + 1) y__2 y__3 <| sC (show (3 : Int) ≠ 0 from (by decide)) <| sQ (Int.tmod (k_l0 + 1) 3) <| sG (cI .i64) (m_0.Triangles.getD i_l0.toNat default) (Int.tmod (k_l0 + 1) 3) y__4 y__5 <| sF (t_spec_l00Min ((m_0.Triangles.getD i_l0.toNat default).getD k_l0.toNat default) ((m_0.Triangles.getD i_l0.toNat default).getD (Int.tmod (k_l0 + 1) 3).toNat default)) <| sW .i64 ((nd_spec_l02Edges_0 m_0 i_l0 k_l0) * (m_0.Places.length : Int)) <| sF (t_spec_l00Max ((m_0.Triangles.getD i_l0.toNat default).getD k_l0.toNat default) ((m_0.Triangles.getD i_l0.toNat default).getD (Int.tmod (k_l0 + 1) 3).toNat default)) <| sW .i64 ((IntKind.wrap .i64 ((nd_spec_l02Edges_0 m_0 i_l0 k_l0) * (m_0.Places.length : Int))) + (nd_spec_l02Edges_1 m_0 i_l0 k_l0)) <| sX cB r0_l1_1 (IntKind.wrap .i64 ((IntKind.wrap .i64 ((nd_spec_l02Edges_0 m_0 i_l0 k_l0) * (m_0.Places.length : Int))) + (nd_spec_l02Edges_1 m_0 i_l0 k_l0))) y__6 y__7 <| sC (maplt (c := cB) (l := r0_l1_1) y__8) <| sI (k_l0 + 1) y__2 y__3 <| sN) (by kernel_rfl) (show _ = ⟨[.ref (GMesh.cells m_0) 0, .any, .nils, .i .i64 (m_0.Places.length : Int), .own 0, .i .i64 i_l0, .sl ((m_0.Triangles.getD i_l0.toNat default).map (cI .i64)), .i .i64 (k_l0 + 1), .any, .any, .any, .any, .any, .ref (GMesh.cells m_0) 0, .ref (GMesh.cells m_0) 0, .ref (GMesh.cells m_0) 0, .sl (m_0.Places.map GVector.cells), .i .i64 (m_0.Places.length : Int), .i .i64 (m_0.Places.length : Int), .i .i64 (m_0.Places.length : Int), .i .i64 (IntKind.wrap .i64 ((m_0.Places.length : Int) * (m_0.Places.length : Int))), .own 0, .i .i64 i_l0, .ref (GMesh.cells m_0) 0, .ref (GMesh.cells m_0) 0, .ref (GMesh.cells m_0) 1, .sl (m_0.Triangles.map (cL (cI .i64))), .i .i64 (m_0.Triangles.length : Int), .b (decide (i_l0 < (m_0.Triangles.length : Int))), .any, .any, .ref (GMesh.cells m_0) 0, .ref (GMesh.cells m_0) 0, .ref (GMesh.cells m_0) 1, .sl (m_0.Triangles.map (cL (cI .i64))), .i .i64 i_l0, .ref [.sl ((m_0.Triangles.getD i_l0.toNat default).map (cI .i64))] 0, .sl ((m_0.Triangles.getD i_l0.toNat default).map (cI .i64)), .any, .any, .any, .any, .any, .any, .any, .any, .any, .any, .any, .any, .any, .any, .any, .any, .any, .any, .any, .any, .any, .any, .any, .any, .any, .any, .any, .any, .any, .any, .any, .any, .any, .any, .any, .any, .any, .any, .any, .any, .any, .any, .any, .any, .any, .any, .any, .any, .any, .any, .any, .any, .any], [.vec 4 1 ((r0_l1_1.set ((IntKind.wrap .i64 ((IntKind.wrap .i64 ((nd_spec_l02Edges_0 m_0 i_l0 k_l0) * (m_0.Places.length : Int))) + (nd_spec_l02Edges_1 m_0 i_l0 k_l0))).toNat) true).map cB) false]⟩ from (by simp [cL, cI, cB])) (ih (k_l0 + 1) (r0_l1_1.set ((IntKind.wrap .i64 ((IntKind.wrap .i64 ((nd_spec_l02Edges_0 m_0 i_l0 k_l0) * (m_0.Places.length : Int))) + (nd_spec_l02Edges_1 m_0 i_l0 k_l0))).toNat) true) (show 0 ≤ (k_l0 + 1) from (by first | assumption | omega)) (show (r0_l1_1.set ((IntKind.wrap .i64 ((IntKind.wrap .i64 ((nd_spec_l02Edges_0 m_0 i_l0 k_l0) * (m_0.Places.length : Int))) + (nd_spec_l02Edges_1 m_0 i_l0 k_l0))).toNat) true).length = r0_l1.length from (by first | assumption | omega | (first | (have q := OkE.at (by assumption) hv_spec_l02Edges_1_0 (of_decide_eq_true (by assumption)) hv_spec_l02Edges_2_0 (of_decide_eq_true (by assumption)); have q2 := ix2F q.2.2.2.2.2.1 (min_bd q.2.2.2.1 q.2.2.2.2.1).1 (min_bd q.2.2.2.1 q.2.2.2.2.1).2 (max_bd q.2.2.2.1 q.2.2.2.2.1).1 (max_bd q.2.2.2.1 q.2.2.2.2.1).2; unfold nd_spec_l02Edges_0 nd_spec_l02Edges_1; omega) | (have q := OkE.at (by assumption) hv_spec_l02Edges_1_0 (of_decide_eq_true (by assumption)) hv_spec_l02Edges_2_0 (of_decide_eq_true (by assumption)); omega) | (have := hp3.1; have g4 := of_decide_eq_true hf_spec_l02Edges_4_0; first | omega | (have q2 := ix2F (n := (m_0.Places.length : Int)) (a := a_l0) (b := b_l0) (by omega) (by omega) (by omega) (by omega) (by omega); first | omega | (simp only [len_lr_spec_l02Edges_1_1_0, List.length_replicate]; omega)) | (simp only [List.length_append, List.length_cons, List.length_nil]; omega)) | (have := hp3.1; have g4 := of_decide_eq_true h_0; have q := lo4_len m_0 a_l0 r1_l1 (((m_0.Places.length : Int) - (a_l0 + 1)).toNat + 1) (a_l0 + 1) r1_l1; unfold lr_spec_l02Edges_4_2; omega) | (have q2 := ixN hp3.1; omega)) | (simp_all <;> omega))) (by first | assumption | omega))
  | false =>
   have gh__0 := of_decide_eq_false h__0
   have e : lo_spec_l02Edges_2 m_0 i_l0 r0_l1 (k + 1) k_l0 r0_l1_1 = r0_l1_1 := by simp only [lo_spec_l02Edges_2, h__0, cond_false]
   rw [e]
   exact outR (e := (.exit 2)) E0Ok hMixed [] mk_spec_l02Edges_2_1 [0] (sB h__0 <| sN) (by kernel_rfl) (by intro h; cases h)

theorem ln_spec_l02Edges_2_0 (m_0 : GMesh) (i_l0 : Int) (r0_l1 : (List Bool)) : ∀ (k : Nat) (k_l0 : Int) (r0_l1_1 : (List Bool)) (hk : ((3 : Int) - k_l0).toNat < k), (lo_spec_l02Edges_2 m_0 i_l0 r0_l1 k k_l0 r0_l1_1).length = r0_l1_1.length := by
  intro k
  induction k with
  | zero => intro k_l0 r0_l1_1 hk; exact absurd hk (Nat.not_lt_zero _)
  | succ k ih =>
    intro k_l0 r0_l1_1 hk
    cases h__0 : (decide (k_l0 < 3)) with
    | true =>
      have e : lo_spec_l02Edges_2 m_0 i_l0 r0_l1 (k + 1) k_l0 r0_l1_1 = (lo_spec_l02Edges_2 m_0 i_l0 r0_l1 k (k_l0 + 1) (r0_l1_1.set ((IntKind.wrap .i64 ((IntKind.wrap .i64 ((nd_spec_l02Edges_0 m_0 i_l0 k_l0) * (m_0.Places.length : Int))) + (nd_spec_l02Edges_1 m_0 i_l0 k_l0))).toNat) true)) := by simp only [lo_spec_l02Edges_2, h__0, cond_true]
      rw [e, ih (k_l0 + 1) (r0_l1_1.set ((IntKind.wrap .i64 ((IntKind.wrap .i64 ((nd_spec_l02Edges_0 m_0 i_l0 k_l0) * (m_0.Places.length : Int))) + (nd_spec_l02Edges_1 m_0 i_l0 k_l0))).toNat) true) (by first | assumption | omega | (first | (have q := OkE.at (by assumption) hv_spec_l02Edges_1_0 (of_decide_eq_true (by assumption)) hv_spec_l02Edges_2_0 (of_decide_eq_true (by assumption)); have q2 := ix2F q.2.2.2.2.2.1 (min_bd q.2.2.2.1 q.2.2.2.2.1).1 (min_bd q.2.2.2.1 q.2.2.2.2.1).2 (max_bd q.2.2.2.1 q.2.2.2.2.1).1 (max_bd q.2.2.2.1 q.2.2.2.2.1).2; unfold nd_spec_l02Edges_0 nd_spec_l02Edges_1; omega) | (have q := OkE.at (by assumption) hv_spec_l02Edges_1_0 (of_decide_eq_true (by assumption)) hv_spec_l02Edges_2_0 (of_decide_eq_true (by assumption)); omega) | (have := hp3.1; have g4 := of_decide_eq_true hf_spec_l02Edges_4_0; first | omega | (have q2 := ix2F (n := (m_0.Places.length : Int)) (a := a_l0) (b := b_l0) (by omega) (by omega) (by omega) (by omega) (by omega); first | omega | (simp only [len_lr_spec_l02Edges_1_1_0, List.length_replicate]; omega)) | (simp only [List.length_append, List.length_cons, List.length_nil]; omega)) | (have := hp3.1; have g4 := of_decide_eq_true h_0; have q := lo4_len m_0 a_l0 r1_l1 (((m_0.Places.length : Int) - (a_l0 + 1)).toNat + 1) (a_l0 + 1) r1_l1; unfold lr_spec_l02Edges_4_2; omega) | (have q2 := ixN hp3.1; omega)) | (simp_all <;> omega))]; simp
    | false =>
      have e : lo_spec_l02Edges_2 m_0 i_l0 r0_l1 (k + 1) k_l0 r0_l1_1 = r0_l1_1 := by simp only [lo_spec_l02Edges_2, h__0, cond_false]
      first | (rw [e]; done) | (rw [e]; rfl)

def lr_spec_l02Edges_2_0 (m_0 : GMesh) (i_l0 : Int) (r0_l1 : (List Bool)) : (List Bool) := (lo_spec_l02Edges_2 m_0 i_l0 r0_l1 (((3 : Int) - 0).toNat + 1) 0 r0_l1)

@[simp] theorem len_lr_spec_l02Edges_2_0_0 (m_0 : GMesh) (i_l0 : Int) (r0_l1 : (List Bool)) : (lr_spec_l02Edges_2_0 m_0 i_l0 r0_l1).length = (r0_l1 : (List Bool)).length := ln_spec_l02Edges_2_0 m_0 i_l0 r0_l1 (((3 : Int) - 0).toNat + 1) 0 r0_l1 (by first | exact Nat.lt_succ_self _ | simp)

def lo_spec_l02Edges_1 (m_0 : GMesh) : Nat → Int → (List Bool) → (List Bool)
  | 0, _, _ => default
  | k + 1, i_l0, r0_l1 => (cond (decide (i_l0 < (m_0.Triangles.length : Int)))
    (lo_spec_l02Edges_1 m_0 k (i_l0 + 1) (lr_spec_l02Edges_2_0 m_0 i_l0 r0_l1))
    r0_l1)

def ls_spec_l02Edges_1 (m_0 : GMesh) (r : (List Bool)) : Ex × St := ((.exit 0), ⟨[.ref (GMesh.cells m_0) 0, .any, .nils, .i .i64 (m_0.Places.length : Int), .own 0, .any, .any, .any, .any, .any, .any, .any, .any, .ref (GMesh.cells m_0) 0, .ref (GMesh.cells m_0) 0, .ref (GMesh.cells m_0) 0, .sl (m_0.Places.map GVector.cells), .i .i64 (m_0.Places.length : Int), .i .i64 (m_0.Places.length : Int), .i .i64 (m_0.Places.length : Int), .i .i64 (IntKind.wrap .i64 ((m_0.Places.length : Int) * (m_0.Places.length : Int))), .own 0, .any, .any, .any, .any, .any, .any, .any, .any, .any, .any, .any, .any, .any, .any, .any, .any, .any, .any, .any, .any, .any, .any, .any, .any, .any, .any, .any, .any, .any, .any, .any, .any, .any, .any, .any, .any, .any, .any, .any, .any, .any, .any, .any, .any, .any, .any, .any, .any, .any, .any, .any, .any, .any, .any, .any, .any, .any, .any, .any, .any, .any, .any, .any, .any, .any, .any, .any, .any, .any], [.vec 4 1 (r.map cB) false]⟩)

def hd_spec_l02Edges_1 (m_0 : GMesh) (i_l0 : Int) (r0_l1 : (List Bool)) : St := ⟨[.ref (GMesh.cells m_0) 0, .any, .nils, .i .i64 (m_0.Places.length : Int), .own 0, .i .i64 i_l0, .any, .any, .any, .any, .any, .any, .any, .ref (GMesh.cells m_0) 0, .ref (GMesh.cells m_0) 0, .ref (GMesh.cells m_0) 0, .sl (m_0.Places.map GVector.cells), .i .i64 (m_0.Places.length : Int), .i .i64 (m_0.Places.length : Int), .i .i64 (m_0.Places.length : Int), .i .i64 (IntKind.wrap .i64 ((m_0.Places.length : Int) * (m_0.Places.length : Int))), .own 0, .any, .any, .any, .any, .any, .any, .any, .any, .any, .any, .any, .any, .any, .any, .any, .any, .any, .any, .any, .any, .any, .any, .any, .any, .any, .any, .any, .any, .any, .any, .any, .any, .any, .any, .any, .any, .any, .any, .any, .any, .any, .any, .any, .any, .any, .any, .any, .any, .any, .any, .any, .any, .any, .any, .any, .any, .any, .any, .any, .any, .any, .any, .any, .any, .any, .any, .any, .any, .any], [.vec 4 1 (r0_l1.map cB) false]⟩

def mk_spec_l02Edges_1_0 : List Bool := [true, false, true, true, true, true, false, false, false, false, false, false, false, true, true, true, true, true, true, true, true, true, false, false, false, false, false, false, false, false, false, false, false, false, false, false, false, false, false, false, false, false, false, false, false, false, false, false, false, false, false, false, false, false, false, false, false, false, false, false, false, false, false, false, false, false, false, false, false, false, false, false, false, false, false, false, false, false, false, false, false, false, false, false, false, false, false, false, false, false, false]

def mk_spec_l02Edges_1_1 : List Bool := [true, false, true, true, true, false, false, false, false, false, false, false, false, true, true, true, true, true, true, true, true, true, false, false, false, false, false, false, false, false, false, false, false, false, false, false, false, false, false, false, false, false, false, false, false, false, false, false, false, false, false, false, false, false, false, false, false, false, false, false, false, false, false, false, false, false, false, false, false, false, false, false, false, false, false, false, false, false, false, false, false, false, false, false, false, false, false, false, false, false, false]

theorem lp_spec_l02Edges_1 (m_0 : GMesh) (hp0 : m_0.Places.length ≤ 1073741824) (hp1 : m_0.Triangles.length ≤ 1073741824) (hp2 : ∀ t ∈ m_0.Triangles, t.length ≤ 1073741824) (hp3 : OkE m_0.Places.length m_0.Triangles) : ∀ (k : Nat) (i_l0 : Int) (r0_l1 : (List Bool)) (hv_spec_l02Edges_1_0 : 0 ≤ i_l0) (hv_spec_l02Edges_1_1 : r0_l1.length = (IntKind.wrap .i64 ((m_0.Places.length : Int) * (m_0.Places.length : Int))).toNat) (hk : ((m_0.Triangles.length : Int) - i_l0).toNat < k), Lp prog 0 (sub (bodyOf f103) [1, 1, 1, 0, 1, 0, 0]) (hd_spec_l02Edges_1 m_0 i_l0 r0_l1) (ls_spec_l02Edges_1 m_0 (lo_spec_l02Edges_1 m_0 k i_l0 r0_l1)).1 (ls_spec_l02Edges_1 m_0 (lo_spec_l02Edges_1 m_0 k i_l0 r0_l1)).2 := by
 intro k
 induction k with
 | zero => intro i_l0 r0_l1 hv_spec_l02Edges_1_0 hv_spec_l02Edges_1_1 hk; exact absurd hk (Nat.not_lt_zero _)
 | succ k ih =>
  intro i_l0 r0_l1 hv_spec_l02Edges_1_0 hv_spec_l02Edges_1_1 hk
  have p {a C} (s : Scr a C) := sZ (cL (cI .i64)) m_0.Triangles <| s
  cases h_0 : (decide (i_l0 < (m_0.Triangles.length : Int))) with
  | true =>
   have gh_0 := of_decide_eq_true h_0
   have y_0 : (0 : Int) ≤ i_l0 := by clear p; exact (by first | assumption | omega)
   have y_1 : i_l0 < (m_0.Triangles.length : Int) := by clear p; exact (by first | assumption | omega)
   have y_2 : (-9223372036854775808 : Int) ≤ (i_l0 + 1) := by clear p; exact (by first | assumption | omega)
   have y_3 : (i_l0 + 1) ≤ (9223372036854775807 : Int) := by clear p; exact (by first | assumption | omega)
   have e : lo_spec_l02Edges_1 m_0 (k + 1) i_l0 r0_l1 = (lo_spec_l02Edges_1 m_0 k (i_l0 + 1) (lr_spec_l02Edges_2_0 m_0 i_l0 r0_l1)) := by simp only [lo_spec_l02Edges_1, h_0, cond_true]
   rw [e]
   exact nextR E0Ok hMixed [] mk_spec_l02Edges_1_0 [0] (ih (i_l0 + 1) (lr_spec_l02Edges_2_0 m_0 i_l0 r0_l1) (show 0 ≤ (i_l0 + 1) from (by first | assumption | omega)) (show (lr_spec_l02Edges_2_0 m_0 i_l0 r0_l1).length = (IntKind.wrap .i64 ((m_0.Places.length : Int) * (m_0.Places.length : Int))).toNat from (by first | assumption | omega | (first | (have q := OkE.at (by assumption) hv_spec_l02Edges_1_0 (of_decide_eq_true (by assumption)) hv_spec_l02Edges_2_0 (of_decide_eq_true (by assumption)); have q2 := ix2F q.2.2.2.2.2.1 (min_bd q.2.2.2.1 q.2.2.2.2.1).1 (min_bd q.2.2.2.1 q.2.2.2.2.1).2 (max_bd q.2.2.2.1 q.2.2.2.2.1).1 (max_bd q.2.2.2.1 q.2.2.2.2.1).2; unfold nd_spec_l02Edges_0 nd_spec_l02Edges_1; omega) | (have q := OkE.at (by assumption) hv_spec_l02Edges_1_0 (of_decide_eq_true (by assumption)) hv_spec_l02Edges_2_0 (of_decide_eq_true (by assumption)); omega) | (have := hp3.1; have g4 := of_decide_eq_true hf_spec_l02Edges_4_0; first | omega | (have q2 := ix2F (n := (m_0.Places.length : Int)) (a := a_l0) (b := b_l0) (by omega) (by omega) (by omega) (by omega) (by omega); first | omega | (simp only [len_lr_spec_l02Edges_1_1_0, List.length_replicate]; omega)) | (simp only [List.length_append, List.length_cons, List.length_nil]; omega)) | (have := hp3.1; have g4 := of_decide_eq_true h_0; have q := lo4_len m_0 a_l0 r1_l1 (((m_0.Places.length : Int) - (a_l0 + 1)).toNat + 1) (a_l0 + 1) r1_l1; unfold lr_spec_l02Edges_4_2; omega) | (have q2 := ixN hp3.1; omega)) | (simp_all <;> omega))) (by first | assumption | omega)) (p (sB h_0 <| sG (cL (cI .i64)) m_0.Triangles i_l0 y_0 y_1 <| sL mk_spec_l02Edges_2_0 1 (lp_val (ls_spec_l02Edges_2 m_0 i_l0 r0_l1) (x := (lr_spec_l02Edges_2_0 m_0 i_l0 r0_l1)) (lp_spec_l02Edges_2 m_0 i_l0 r0_l1 hp0 hp1 hp2 hp3 hv_spec_l02Edges_1_0 hv_spec_l02Edges_1_1 h_0 (((3 : Int) - 0).toNat + 1) 0 r0_l1 (show 0 ≤ 0 from (by first | omega | simp)) (show r0_l1.length = r0_l1.length from (by first | omega | simp)) (Nat.lt_succ_self _)) rfl) <| sI (i_l0 + 1) y_2 y_3 <| sN)) (by kernel_rfl)
  | false =>
   have gh_0 := of_decide_eq_false h_0
   have e : lo_spec_l02Edges_1 m_0 (k + 1) i_l0 r0_l1 = r0_l1 := by simp only [lo_spec_l02Edges_1, h_0, cond_false]
   rw [e]
   exact outR (e := (.exit 0)) E0Ok hMixed [] mk_spec_l02Edges_1_1 [0] (p (sB h_0 <| sN)) (by kernel_rfl) (by intro h; cases h)

theorem ln_spec_l02Edges_1_0 (m_0 : GMesh) : ∀ (k : Nat) (i_l0 : Int) (r0_l1 : (List Bool)) (hk : ((m_0.Triangles.length : Int) - i_l0).toNat < k), (lo_spec_l02Edges_1 m_0 k i_l0 r0_l1).length = r0_l1.length := by
  intro k
  induction k with
  | zero => intro i_l0 r0_l1 hk; exact absurd hk (Nat.not_lt_zero _)
  | succ k ih =>
    intro i_l0 r0_l1 hk
    cases h_0 : (decide (i_l0 < (m_0.Triangles.length : Int))) with
    | true =>
      have e : lo_spec_l02Edges_1 m_0 (k + 1) i_l0 r0_l1 = (lo_spec_l02Edges_1 m_0 k (i_l0 + 1) (lr_spec_l02Edges_2_0 m_0 i_l0 r0_l1)) := by simp only [lo_spec_l02Edges_1, h_0, cond_true]
      rw [e, ih (i_l0 + 1) (lr_spec_l02Edges_2_0 m_0 i_l0 r0_l1) (by first | assumption | omega | (first | (have q := OkE.at (by assumption) hv_spec_l02Edges_1_0 (of_decide_eq_true (by assumption)) hv_spec_l02Edges_2_0 (of_decide_eq_true (by assumption)); have q2 := ix2F q.2.2.2.2.2.1 (min_bd q.2.2.2.1 q.2.2.2.2.1).1 (min_bd q.2.2.2.1 q.2.2.2.2.1).2 (max_bd q.2.2.2.1 q.2.2.2.2.1).1 (max_bd q.2.2.2.1 q.2.2.2.2.1).2; unfold nd_spec_l02Edges_0 nd_spec_l02Edges_1; omega) | (have q := OkE.at (by assumption) hv_spec_l02Edges_1_0 (of_decide_eq_true (by assumption)) hv_spec_l02Edges_2_0 (of_decide_eq_true (by assumption)); omega) | (have := hp3.1; have g4 := of_decide_eq_true hf_spec_l02Edges_4_0; first | omega | (have q2 := ix2F (n := (m_0.Places.length : Int)) (a := a_l0) (b := b_l0) (by omega) (by omega) (by omega) (by omega) (by omega); first | omega | (simp only [len_lr_spec_l02Edges_1_1_0, List.length_replicate]; omega)) | (simp only [List.length_append, List.length_cons, List.length_nil]; omega)) | (have := hp3.1; have g4 := of_decide_eq_true h_0; have q := lo4_len m_0 a_l0 r1_l1 (((m_0.Places.length : Int) - (a_l0 + 1)).toNat + 1) (a_l0 + 1) r1_l1; unfold lr_spec_l02Edges_4_2; omega) | (have q2 := ixN hp3.1; omega)) | (simp_all <;> omega))]; simp
    | false =>
      have e : lo_spec_l02Edges_1 m_0 (k + 1) i_l0 r0_l1 = r0_l1 := by simp only [lo_spec_l02Edges_1, h_0, cond_false]
      first | (rw [e]; done) | (rw [e]; rfl)

def lr_spec_l02Edges_1_1 (m_0 : GMesh) : (List Bool) := (lo_spec_l02Edges_1 m_0 (((m_0.Triangles.length : Int) - 0).toNat + 1) 0 (List.replicate (IntKind.wrap .i64 ((m_0.Places.length : Int) * (m_0.Places.length : Int))).toNat false))

@[simp] theorem len_lr_spec_l02Edges_1_1_0 (m_0 : GMesh) : (lr_spec_l02Edges_1_1 m_0).length = ((List.replicate (IntKind.wrap .i64 ((m_0.Places.length : Int) * (m_0.Places.length : Int))).toNat false) : (List Bool)).length := ln_spec_l02Edges_1_0 m_0 (((m_0.Triangles.length : Int) - 0).toNat + 1) 0 (List.replicate (IntKind.wrap .i64 ((m_0.Places.length : Int) * (m_0.Places.length : Int))).toNat false) (by first | exact Nat.lt_succ_self _ | simp)

def lo_spec_l02Edges_4 (m_0 : GMesh) (a_l0 : Int) (r1_l1 : (List (List Int))) : Nat → Int → (List (List Int)) → (List (List Int))
  | 0, _, _ => default
  | k + 1, b_l0, r1_l1_1 => (cond (decide (b_l0 < (m_0.Places.length : Int)))
    (cond ((lr_spec_l02Edges_1_1 m_0).getD ((IntKind.wrap .i64 ((IntKind.wrap .i64 (a_l0 * (m_0.Places.length : Int))) + b_l0)).toNat) default)
      (lo_spec_l02Edges_4 m_0 a_l0 r1_l1 k (b_l0 + 1) (r1_l1_1 ++ [[a_l0, b_l0]]))
      (lo_spec_l02Edges_4 m_0 a_l0 r1_l1 k (b_l0 + 1) r1_l1_1))
    r1_l1_1)

def ls_spec_l02Edges_4 (m_0 : GMesh) (a_l0 : Int) (r1_l1 : (List (List Int))) (r : (List (List Int))) : Ex × St := ((.exit 6), ⟨[.ref (GMesh.cells m_0) 0, .any, .nils, .i .i64 (m_0.Places.length : Int), .own 0, .any, .any, .any, .any, .any, .own 1, .i .i64 a_l0, .any, .ref (GMesh.cells m_0) 0, .ref (GMesh.cells m_0) 0, .ref (GMesh.cells m_0) 0, .sl (m_0.Places.map GVector.cells), .i .i64 (m_0.Places.length : Int), .i .i64 (m_0.Places.length : Int), .i .i64 (m_0.Places.length : Int), .i .i64 (IntKind.wrap .i64 ((m_0.Places.length : Int) * (m_0.Places.length : Int))), .own 0, .any, .any, .any, .any, .any, .any, .any, .any, .any, .any, .any, .any, .any, .any, .any, .any, .any, .any, .any, .any, .any, .any, .any, .any, .any, .any, .any, .any, .any, .any, .any, .any, .any, .any, .any, .any, .any, .any, .any, .any, .any, .any, .i .i64 a_l0, .i .i64 (m_0.Places.length : Int), .b (decide (a_l0 < (m_0.Places.length : Int))), .any, .any, .i .i64 a_l0, .i .i64 (a_l0 + 1), .any, .any, .any, .any, .any, .any, .any, .any, .any, .any, .any, .any, .any, .any, .any, .any, .any, .any, .any, .any], [.vec 4 1 ((lr_spec_l02Edges_1_1 m_0).map cB) false, .nest 54 (r.map fun l => l.map (cI .i64)) false]⟩)

def hd_spec_l02Edges_4 (m_0 : GMesh) (a_l0 : Int) (r1_l1 : (List (List Int))) (b_l0 : Int) (r1_l1_1 : (List (List Int))) : St := ⟨[.ref (GMesh.cells m_0) 0, .any, .nils, .i .i64 (m_0.Places.length : Int), .own 0, .any, .any, .any, .any, .any, .own 1, .i .i64 a_l0, .i .i64 b_l0, .ref (GMesh.cells m_0) 0, .ref (GMesh.cells m_0) 0, .ref (GMesh.cells m_0) 0, .sl (m_0.Places.map GVector.cells), .i .i64 (m_0.Places.length : Int), .i .i64 (m_0.Places.length : Int), .i .i64 (m_0.Places.length : Int), .i .i64 (IntKind.wrap .i64 ((m_0.Places.length : Int) * (m_0.Places.length : Int))), .own 0, .any, .any, .any, .any, .any, .any, .any, .any, .any, .any, .any, .any, .any, .any, .any, .any, .any, .any, .any, .any, .any, .any, .any, .any, .any, .any, .any, .any, .any, .any, .any, .any, .any, .any, .any, .any, .any, .any, .any, .any, .any, .any, .i .i64 a_l0, .i .i64 (m_0.Places.length : Int), .b (decide (a_l0 < (m_0.Places.length : Int))), .any, .any, .i .i64 a_l0, .i .i64 (a_l0 + 1), .any, .any, .any, .any, .any, .any, .any, .any, .any, .any, .any, .any, .any, .any, .any, .any, .any, .any, .any, .any], [.vec 4 1 ((lr_spec_l02Edges_1_1 m_0).map cB) false, .nest 54 (r1_l1_1.map fun l => l.map (cI .i64)) false]⟩

def mk_spec_l02Edges_4_0 : List Bool := [true, false, true, true, true, false, false, false, false, false, true, true, true, true, true, true, true, true, true, true, true, true, false, false, false, false, false, false, false, false, false, false, false, false, false, false, false, false, false, false, false, false, false, false, false, false, false, false, false, false, false, false, false, false, false, false, false, false, false, false, false, false, false, false, true, true, true, false, false, true, true, false, false, false, false, false, false, false, false, false, false, false, false, false, false, false, false, false, false, false, false]

def mk_spec_l02Edges_4_1 : List Bool := [true, false, true, true, true, false, false, false, false, false, true, true, false, true, true, true, true, true, true, true, true, true, false, false, false, false, false, false, false, false, false, false, false, false, false, false, false, false, false, false, false, false, false, false, false, false, false, false, false, false, false, false, false, false, false, false, false, false, false, false, false, false, false, false, true, true, true, false, false, true, true, false, false, false, false, false, false, false, false, false, false, false, false, false, false, false, false, false, false, false, false]

theorem lp_spec_l02Edges_4 (m_0 : GMesh) (a_l0 : Int) (r1_l1 : (List (List Int))) (hp0 : m_0.Places.length ≤ 1073741824) (hp1 : m_0.Triangles.length ≤ 1073741824) (hp2 : ∀ t ∈ m_0.Triangles, t.length ≤ 1073741824) (hp3 : OkE m_0.Places.length m_0.Triangles) (hv_spec_l02Edges_3_0 : 0 ≤ a_l0) (hv_spec_l02Edges_3_1 : (r1_l1.length : Int) ≤ 64 * a_l0) (hf_spec_l02Edges_4_0 : (decide (a_l0 < (m_0.Places.length : Int))) = true) : ∀ (k : Nat) (b_l0 : Int) (r1_l1_1 : (List (List Int))) (hv_spec_l02Edges_4_0 : a_l0 < b_l0) (hv_spec_l02Edges_4_1 : (r1_l1_1.length : Int) ≤ (r1_l1.length : Int) + b_l0) (hk : ((m_0.Places.length : Int) - b_l0).toNat < k), Lp prog 0 (sub (bodyOf f103) [1, 1, 1, 1, 1, 0, 1, 0, 0, 1, 0, 0, 1, 0, 0]) (hd_spec_l02Edges_4 m_0 a_l0 r1_l1 b_l0 r1_l1_1) (ls_spec_l02Edges_4 m_0 a_l0 r1_l1 (lo_spec_l02Edges_4 m_0 a_l0 r1_l1 k b_l0 r1_l1_1)).1 (ls_spec_l02Edges_4 m_0 a_l0 r1_l1 (lo_spec_l02Edges_4 m_0 a_l0 r1_l1 k b_l0 r1_l1_1)).2 := by
 intro k
 induction k with
 | zero => intro b_l0 r1_l1_1 hv_spec_l02Edges_4_0 hv_spec_l02Edges_4_1 hk; exact absurd hk (Nat.not_lt_zero _)
 | succ k ih =>
  intro b_l0 r1_l1_1 hv_spec_l02Edges_4_0 hv_spec_l02Edges_4_1 hk
  cases h__0 : (decide (b_l0 < (m_0.Places.length : Int))) with
  | true =>
   have gh__0 := of_decide_eq_true h__0
   have y__0 : (0 : Int) ≤ (IntKind.wrap .i64 ((IntKind.wrap .i64 (a_l0 * (m_0.Places.length : Int))) + b_l0)) := (by first | assumption | omega | (first | (have q := OkE.at (by assumption) hv_spec_l02Edges_1_0 (of_decide_eq_true (by assumption)) hv_spec_l02Edges_2_0 (of_decide_eq_true (by assumption)); have q2 := ix2F q.2.2.2.2.2.1 (min_bd q.2.2.2.1 q.2.2.2.2.1).1 (min_bd q.2.2.2.1 q.2.2.2.2.1).2 (max_bd q.2.2.2.1 q.2.2.2.2.1).1 (max_bd q.2.2.2.1 q.2.2.2.2.1).2; unfold nd_spec_l02Edges_0 nd_spec_l02Edges_1; omega) | (have q := OkE.at (by assumption) hv_spec_l02Edges_1_0 (of_decide_eq_true (by assumption)) hv_spec_l02Edges_2_0 (of_decide_eq_true (by assumption)); omega) | (have := hp3.1; have g4 := of_decide_eq_true hf_spec_l02Edges_4_0; first | omega | (have q2 := ix2F (n := (m_0.Places.length : Int)) (a := a_l0) (b := b_l0) (by omega) (by omega) (by omega) (by omega) (by omega); first | omega | (simp only [len_lr_spec_l02Edges_1_1_0, List.length_replicate]; omega)) | (simp only [List.length_append, List.length_cons, List.length_nil]; omega)) | (have := hp3.1; have g4 := of_decide_eq_true h_0; have q := lo4_len m_0 a_l0 r1_l1 (((m_0.Places.length : Int) - (a_l0 + 1)).toNat + 1) (a_l0 + 1) r1_l1; unfold lr_spec_l02Edges_4_2; omega) | (have q2 := ixN hp3.1; omega)) | (simp_all <;> omega))
   have y__1 : (IntKind.wrap .i64 ((IntKind.wrap .i64 (a_l0 * (m_0.Places.length : Int))) + b_l0)) < ((lr_spec_l02Edges_1_1 m_0).length : Int) := (by first | assumption | omega | (first | (have q := OkE.at (by assumption) hv_spec_l02Edges_1_0 (of_decide_eq_true (by assumption)) hv_spec_l02Edges_2_0 (of_decide_eq_true (by assumption)); have q2 := ix2F q.2.2.2.2.2.1 (min_bd q.2.2.2.1 q.2.2.2.2.1).1 (min_bd q.2.2.2.1 q.2.2.2.2.1).2 (max_bd q.2.2.2.1 q.2.2.2.2.1).1 (max_bd q.2.2.2.1 q.2.2.2.2.1).2; unfold nd_spec_l02Edges_0 nd_spec_l02Edges_1; omega) | (have q := OkE.at (by assumption) hv_spec_l02Edges_1_0 (of_decide_eq_true (by assumption)) hv_spec_l02Edges_2_0 (of_decide_eq_true (by assumption)); omega) | (have := hp3.1; have g4 := of_decide_eq_true hf_spec_l02Edges_4_0; first | omega | (have q2 := ix2F (n := (m_0.Places.length : Int)) (a := a_l0) (b := b_l0) (by omega) (by omega) (by omega) (by omega) (by omega); first | omega | (simp only [len_lr_spec_l02Edges_1_1_0, List.length_replicate]; omega)) | (simp only [List.length_append, List.length_cons, List.length_nil]; omega)) | (have := hp3.1; have g4 := of_decide_eq_true h_0; have q := lo4_len m_0 a_l0 r1_l1 (((m_0.Places.length : Int) - (a_l0 + 1)).toNat + 1) (a_l0 + 1) r1_l1; unfold lr_spec_l02Edges_4_2; omega) | (have q2 := ixN hp3.1; omega)) | (simp_all <;> omega))
   have y__2 : (IntKind.wrap .i64 ((IntKind.wrap .i64 (a_l0 * (m_0.Places.length : Int))) + b_l0)).toNat < (lr_spec_l02Edges_1_1 m_0).length := (by first | assumption | omega)
   have p {a C} (s : Scr a C) := sB h__0 <| sW .i64 (a_l0 * (m_0.Places.length : Int)) <| sW .i64 ((IntKind.wrap .i64 (a_l0 * (m_0.Places.length : Int))) + b_l0) <| sX cB (lr_spec_l02Edges_1_1 m_0) (IntKind.wrap .i64 ((IntKind.wrap .i64 (a_l0 * (m_0.Places.length : Int))) + b_l0)) y__0 y__1 <| sV cB (lr_spec_l02Edges_1_1 m_0) ((IntKind.wrap .i64 ((IntKind.wrap .i64 (a_l0 * (m_0.Places.length : Int))) + b_l0)).toNat) y__2 <| s
   cases h__1 : ((lr_spec_l02Edges_1_1 m_0).getD ((IntKind.wrap .i64 ((IntKind.wrap .i64 (a_l0 * (m_0.Places.length : Int))) + b_l0)).toNat) default) with
   | true =>
    have y__3 : r1_l1_1.length + [[a_l0, b_l0]].length ≤ 1073741824 := by clear p; exact (by first | assumption | omega | (first | (have q := OkE.at (by assumption) hv_spec_l02Edges_1_0 (of_decide_eq_true (by assumption)) hv_spec_l02Edges_2_0 (of_decide_eq_true (by assumption)); have q2 := ix2F q.2.2.2.2.2.1 (min_bd q.2.2.2.1 q.2.2.2.2.1).1 (min_bd q.2.2.2.1 q.2.2.2.2.1).2 (max_bd q.2.2.2.1 q.2.2.2.2.1).1 (max_bd q.2.2.2.1 q.2.2.2.2.1).2; unfold nd_spec_l02Edges_0 nd_spec_l02Edges_1; omega) | (have q := OkE.at (by assumption) hv_spec_l02Edges_1_0 (of_decide_eq_true (by assumption)) hv_spec_l02Edges_2_0 (of_decide_eq_true (by assumption)); omega) | (have := hp3.1; have g4 := of_decide_eq_true hf_spec_l02Edges_4_0; first | omega | (have q2 := ix2F (n := (m_0.Places.length : Int)) (a := a_l0) (b := b_l0) (by omega) (by omega) (by omega) (by omega) (by omega); first | omega | (simp only [len_lr_spec_l02Edges_1_1_0, List.length_replicate]; omega)) | (simp only [List.length_append, List.length_cons, List.length_nil]; omega)) | (have := hp3.1; have g4 := of_decide_eq_true h_0; have q := lo4_len m_0 a_l0 r1_l1 (((m_0.Places.length : Int) - (a_l0 + 1)).toNat + 1) (a_l0 + 1) r1_l1; unfold lr_spec_l02Edges_4_2; omega) | (have q2 := ixN hp3.1; omega)) | (simp_all <;> omega))
    have y__4 : (-9223372036854775808 : Int) ≤ (b_l0 + 1) := by clear p; exact (by first | assumption | omega)
    have y__5 : (b_l0 + 1) ≤ (9223372036854775807 : Int) := by clear p; exact (by first | assumption | omega)
    have e : lo_spec_l02Edges_4 m_0 a_l0 r1_l1 (k + 1) b_l0 r1_l1_1 = (lo_spec_l02Edges_4 m_0 a_l0 r1_l1 k (b_l0 + 1) (r1_l1_1 ++ [[a_l0, b_l0]])) := by simp only [lo_spec_l02Edges_4, h__0, h__1, cond_true]
    rw [e]
    exact nextS E0Ok hMixed [] mk_spec_l02Edges_4_0 [0, 1] (⟨[.ref (GMesh.cells m_0) 0, .any, .nils, .i .i64 (m_0.Places.length : Int), .own 0, .any, .any, .any, .any, .any, .own 1, .i .i64 a_l0, .i .i64 (b_l0 + 1), .ref (GMesh.cells m_0) 0, .ref (GMesh.cells m_0) 0, .ref (GMesh.cells m_0) 0, .sl (m_0.Places.map GVector.cells), .i .i64 (m_0.Places.length : Int), .i .i64 (m_0.Places.length : Int), .i .i64 (m_0.Places.length : Int), .i .i64 (IntKind.wrap .i64 ((m_0.Places.length : Int) * (m_0.Places.length : Int))), .own 0, .any, .any, .any, .any, .any, .any, .any, .any, .any, .any, .any, .any, .any, .any, .any, .any, .any, .any, .any, .any, .any, .any, .any, .any, .any, .any, .any, .any, .any, .any, .any, .any, .any, .any, .any, .any, .any, .any, .any, .any, .any, .any, .i .i64 a_l0, .i .i64 (m_0.Places.length : Int), .b (decide (a_l0 < (m_0.Places.length : Int))), .any, .any, .i .i64 a_l0, .i .i64 (a_l0 + 1), .any, .any, .any, .any, .any, .any, .any, .any, .any, .any, .any, .any, .any, .any, .any, .any, .any, .any, .any, .any], [.vec 4 1 ((lr_spec_l02Edges_1_1 m_0).map cB) false, .nest 54 ((r1_l1_1.map fun l => l.map (cI .i64)) ++ [([[.i .i64 a_l0], [.i .i64 b_l0]] : List (List AV))]) false]⟩) (p (sB h__1 <| sC (show (r1_l1_1.map fun l => l.map (cI .i64)).length + [([[.i .i64 a_l0], [.i .i64 b_l0]] : List (List AV))].length ≤ 1073741824 from (by simpa using y__3)) <| sI (b_l0 + 1) y__4 y__5 <| sN)) (by kernel_rfl) (show _ = ⟨[.ref (GMesh.cells m_0) 0, .any, .nils, .i .i64 (m_0.Places.length : Int), .own 0, .any, .any, .any, .any, .any, .own 1, .i .i64 a_l0, .i .i64 (b_l0 + 1), .ref (GMesh.cells m_0) 0, .ref (GMesh.cells m_0) 0, .ref (GMesh.cells m_0) 0, .sl (m_0.Places.map GVector.cells), .i .i64 (m_0.Places.length : Int), .i .i64 (m_0.Places.length : Int), .i .i64 (m_0.Places.length : Int), .i .i64 (IntKind.wrap .i64 ((m_0.Places.length : Int) * (m_0.Places.length : Int))), .own 0, .any, .any, .any, .any, .any, .any, .any, .any, .any, .any, .any, .any, .any, .any, .any, .any, .any, .any, .any, .any, .any, .any, .any, .any, .any, .any, .any, .any, .any, .any, .any, .any, .any, .any, .any, .any, .any, .any, .any, .any, .any, .any, .i .i64 a_l0, .i .i64 (m_0.Places.length : Int), .b (decide (a_l0 < (m_0.Places.length : Int))), .any, .any, .i .i64 a_l0, .i .i64 (a_l0 + 1), .any, .any, .any, .any, .any, .any, .any, .any, .any, .any, .any, .any, .any, .any, .any, .any, .any, .any, .any, .any], [.vec 4 1 ((lr_spec_l02Edges_1_1 m_0).map cB) false, .nest 54 ((r1_l1_1 ++ [[a_l0, b_l0]]).map fun l => l.map (cI .i64)) false]⟩ from (by simp [cL, cI, cB])) (ih (b_l0 + 1) (r1_l1_1 ++ [[a_l0, b_l0]]) (show a_l0 < (b_l0 + 1) from (by first | assumption | omega)) (show ((r1_l1_1 ++ [[a_l0, b_l0]]).length : Int) ≤ (r1_l1.length : Int) + (b_l0 + 1) from (by first | assumption | omega | (first | (have q := OkE.at (by assumption) hv_spec_l02Edges_1_0 (of_decide_eq_true (by assumption)) hv_spec_l02Edges_2_0 (of_decide_eq_true (by assumption)); have q2 := ix2F q.2.2.2.2.2.1 (min_bd q.2.2.2.1 q.2.2.2.2.1).1 (min_bd q.2.2.2.1 q.2.2.2.2.1).2 (max_bd q.2.2.2.1 q.2.2.2.2.1).1 (max_bd q.2.2.2.1 q.2.2.2.2.1).2; unfold nd_spec_l02Edges_0 nd_spec_l02Edges_1; omega) | (have q := OkE.at (by assumption) hv_spec_l02Edges_1_0 (of_decide_eq_true (by assumption)) hv_spec_l02Edges_2_0 (of_decide_eq_true (by assumption)); omega) | (have := hp3.1; have g4 := of_decide_eq_true hf_spec_l02Edges_4_0; first | omega | (have q2 := ix2F (n := (m_0.Places.length : Int)) (a := a_l0) (b := b_l0) (by omega) (by omega) (by omega) (by omega) (by omega); first | omega | (simp only [len_lr_spec_l02Edges_1_1_0, List.length_replicate]; omega)) | (simp only [List.length_append, List.length_cons, List.length_nil]; omega)) | (have := hp3.1; have g4 := of_decide_eq_true h_0; have q := lo4_len m_0 a_l0 r1_l1 (((m_0.Places.length : Int) - (a_l0 + 1)).toNat + 1) (a_l0 + 1) r1_l1; unfold lr_spec_l02Edges_4_2; omega) | (have q2 := ixN hp3.1; omega)) | (simp_all <;> omega))) (by first | assumption | omega))
   | false =>
    have y__3 : (-9223372036854775808 : Int) ≤ (b_l0 + 1) := by clear p; exact (by first | assumption | omega)
    have y__4 : (b_l0 + 1) ≤ (9223372036854775807 : Int) := by clear p; exact (by first | assumption | omega)
    have e : lo_spec_l02Edges_4 m_0 a_l0 r1_l1 (k + 1) b_l0 r1_l1_1 = (lo_spec_l02Edges_4 m_0 a_l0 r1_l1 k (b_l0 + 1) r1_l1_1) := by simp only [lo_spec_l02Edges_4, h__0, h__1, cond_true, cond_false]
    rw [e]
    exact nextR E0Ok hMixed [] mk_spec_l02Edges_4_0 [0, 1] (ih (b_l0 + 1) r1_l1_1 (show a_l0 < (b_l0 + 1) from (by first | assumption | omega)) (show (r1_l1_1.length : Int) ≤ (r1_l1.length : Int) + (b_l0 + 1) from (by first | assumption | omega)) (by first | assumption | omega)) (p (sB h__1 <| sI (b_l0 + 1) y__3 y__4 <| sN)) (by kernel_rfl)
  | false =>
   have gh__0 := of_decide_eq_false h__0
   have e : lo_spec_l02Edges_4 m_0 a_l0 r1_l1 (k + 1) b_l0 r1_l1_1 = r1_l1_1 := by simp only [lo_spec_l02Edges_4, h__0, cond_false]
   rw [e]
   exact outR (e := (.exit 6)) E0Ok hMixed [] mk_spec_l02Edges_4_1 [0, 1] (sB h__0 <| sN) (by kernel_rfl) (by intro h; cases h)

end Go.Ab
