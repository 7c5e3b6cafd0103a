/- The functions of this seat as plain Lean, and that the program's are these. Printed by a program of the prover's own. -/
import Derived.Test.YtiihcpcabmamiaaB1
set_option linter.unusedVariables false
set_option linter.unusedSimpArgs false
set_option maxRecDepth 100000
namespace Go.Ab
open Go.RowKit Go.Proofs.Try

theorem l03Is_eq (b : GBody) (h : v_spec_l03Is b = true) : v_spec_l02Is b.Mesh = true ∧ (b.Weights.length : Int) = (b.Mesh.Places.length : Int) ∧ (b.Springs.all fun s => v_spec_l03Spring s (b.Mesh.Places.length : Int)) = true := by
  unfold v_spec_l03Is lr_spec_l03Is_1_0 at h
  rw [all_from (a := b.Springs) (p := fun s => v_spec_l03Spring s (b.Mesh.Places.length : Int)) (lo := lo_spec_l03Is_1 b) (x := ()) (y := ()) (fun k i => rfl)] at h
  cases h1 : v_spec_l02Is b.Mesh <;> rw [h1] at h <;> (try (cases h; done))
  cases h2 : decide ((b.Springs.length : Int) > 200) <;> rw [h2] at h <;> (try (cases h; done))
  cases h3 : ((b.Weights.length : Int) != (b.Mesh.Places.length : Int)) <;> rw [h3] at h <;> (try (cases h; done))
  cases h4 : (b.Springs.all fun s => v_spec_l03Spring s (b.Mesh.Places.length : Int)) <;> rw [h4] at h <;> (try (cases h; done))
  simp only [bne_eq_false_iff_eq] at h3
  exact ⟨rfl, h3, rfl⟩
theorem spr_ok (s : GSpring) {n : Nat} (hn : n ≤ 9223372036854775807) (h : v_spec_l03Spring s (n : Int) = true) : (0 ≤ s.A ∧ s.A < (n : Int)) ∧ (0 ≤ s.B ∧ s.B < (n : Int)) := by
  unfold v_spec_l03Spring at h
  cases h1 : v_spec_l00In s.A 0 (IntKind.wrap .i64 ((n : Int) - 1)) <;> rw [h1] at h <;> (try (cases h; done))
  cases h2 : v_spec_l00In s.B 0 (IntKind.wrap .i64 ((n : Int) - 1)) <;> rw [h2] at h <;> (try (cases h; done))
  exact ⟨in_ok hn h1, in_ok hn h2⟩
theorem okA_is (b : GBody) (h : v_spec_l03Is b = true) : OkIx b.Mesh.Places.length GSpring.A b.Springs := by
  obtain ⟨h1, _, h3⟩ := l03Is_eq b h
  have hn : b.Mesh.Places.length ≤ 64 := by
    rw [l02Is_eq] at h1
    cases h2 : decide ((b.Mesh.Places.length : Int) > 64) <;> rw [h2] at h1 <;> (try (cases h1; done))
    simp only [decide_eq_false_iff_not] at h2
    omega
  rw [List.all_eq_true] at h3
  exact fun s hs => (spr_ok s (by omega) (h3 s hs)).1
theorem okB_is (b : GBody) (h : v_spec_l03Is b = true) : OkIx b.Mesh.Places.length GSpring.B b.Springs := by
  obtain ⟨h1, _, h3⟩ := l03Is_eq b h
  have hn : b.Mesh.Places.length ≤ 64 := by
    rw [l02Is_eq] at h1
    cases h2 : decide ((b.Mesh.Places.length : Int) > 64) <;> rw [h2] at h1 <;> (try (cases h1; done))
    simp only [decide_eq_false_iff_not] at h2
    omega
  rw [List.all_eq_true] at h3
  exact fun s hs => (spr_ok s (by omega) (h3 s hs)).2
structure OkBd (b : GBody) : Prop where
  e : OkE b.Mesh.Places.length b.Mesh.Triangles
  w : b.Weights.length = b.Mesh.Places.length
  a : OkIx b.Mesh.Places.length GSpring.A b.Springs
  b : OkIx b.Mesh.Places.length GSpring.B b.Springs
theorem okBd_is (b : GBody) (h : v_spec_l03Is b = true) : OkBd b := by
  obtain ⟨h1, h2, h3⟩ := l03Is_eq b h
  exact ⟨okE_is _ h1, by omega, okA_is b h, okB_is b h⟩
theorem okBd_spr {b : GBody} (h : OkBd b) {i : Int} (h0 : 0 ≤ i) (hi : decide (i < (b.Springs.length : Int)) = true) : (0 ≤ (b.Springs.getD i.toNat default).A ∧ (b.Springs.getD i.toNat default).A < (b.Mesh.Places.length : Int)) ∧ (0 ≤ (b.Springs.getD i.toNat default).B ∧ (b.Springs.getD i.toNat default).B < (b.Mesh.Places.length : Int)) :=
  ⟨OkIx.at h.a h0 (of_decide_eq_true hi), OkIx.at h.b h0 (of_decide_eq_true hi)⟩
theorem is_ne {b : GBody} (h : v_spec_l03Is b = true) {i : Int} (h0 : 0 ≤ i) (hi : i < (b.Springs.length : Int)) : (b.Springs.getD i.toNat default).A ≠ (b.Springs.getD i.toNat default).B := by
  obtain ⟨h1, h2, h3⟩ := l03Is_eq b h
  rw [List.all_eq_true] at h3
  have hm : b.Springs.getD i.toNat default ∈ b.Springs := by rw [List.getD_eq_getElem?_getD, List.getElem?_eq_getElem (by omega)]; exact List.getElem_mem _
  have h4 := h3 _ hm
  intro hc
  unfold v_spec_l03Spring at h4
  rw [hc] at h4
  cases e1 : v_spec_l00In (b.Springs.getD i.toNat default).B 0 (IntKind.wrap .i64 ((b.Mesh.Places.length : Int) - 1)) <;> rw [e1] at h4 <;> simp at h4

def v_spec_l01Less (a_0 : GVector) (b_1 : GVector) : GVector := (⟨(fop .sub .f32 a_0.X b_1.X), (fop .sub .f32 a_0.Y b_1.Y), (fop .sub .f32 a_0.Z b_1.Z)⟩ : GVector)

theorem t_spec_l01Less (a_0 : GVector) (b_1 : GVector)   : Fn prog 75 [.agg [.f .f32 a_0.X, .f .f32 a_0.Y, .f .f32 a_0.Z], .agg [.f .f32 b_1.X, .f .f32 b_1.Y, .f .f32 b_1.Z]] (.agg [.f .f32 ((v_spec_l01Less a_0 b_1).X), .f .f32 ((v_spec_l01Less a_0 b_1).Y), .f .f32 ((v_spec_l01Less a_0 b_1).Z)]) [] := by
 refine fnS E0Ok hMixed (c := bodyOf f75) [] (.agg [.f .f32 (fop .sub .f32 a_0.X b_1.X), .f .f32 (fop .sub .f32 a_0.Y b_1.Y), .f .f32 (fop .sub .f32 a_0.Z b_1.Z)]) [] func75 (sK [] sN) rfl (by kernel_rfl) (by kernel_rfl) rfl ?_ ?_
 · rfl
 · rfl

def v_spec_l01Inner (a_0 : GVector) (b_1 : GVector) : Nat := (fop .add .f32 (fop .add .f32 (fop .mul .f32 a_0.X b_1.X) (fop .mul .f32 a_0.Y b_1.Y)) (fop .mul .f32 a_0.Z b_1.Z))

theorem t_spec_l01Inner (a_0 : GVector) (b_1 : GVector)   : Fn prog 121 [.agg [.f .f32 a_0.X, .f .f32 a_0.Y, .f .f32 a_0.Z], .agg [.f .f32 b_1.X, .f .f32 b_1.Y, .f .f32 b_1.Z]] (.f .f32 (v_spec_l01Inner a_0 b_1)) [] := by
 refine fnS E0Ok hMixed (c := bodyOf f121) [] (.f .f32 (fop .add .f32 (fop .add .f32 (fop .mul .f32 a_0.X b_1.X) (fop .mul .f32 a_0.Y b_1.Y)) (fop .mul .f32 a_0.Z b_1.Z))) [] func121 (sK [] sN) rfl (by kernel_rfl) (by kernel_rfl) rfl ?_ ?_
 · rfl
 · rfl

def v_math_Sqrt (x_0 : Nat) : Nat := (fsqrt x_0)

theorem t_math_Sqrt (x_0 : Nat)   : Fn prog 142 [.f .f64 x_0] (.f .f64 (v_math_Sqrt x_0)) [] := by
 refine fnS E0Ok hMixed (c := bodyOf f142) [] (.f .f64 (fsqrt x_0)) [] func142 (sK [] sN) rfl (by kernel_rfl) (by kernel_rfl) rfl ?_ ?_
 · rfl
 · rfl

def v_spec_l01Narrow (x_0 : Nat) : Nat := (fcv .f64 .f32 x_0)

theorem t_spec_l01Narrow (x_0 : Nat) (hp0 : fcvOk .f64 .f32 x_0 = true)  : Fn prog 143 [.f .f64 x_0] (.f .f32 (v_spec_l01Narrow x_0)) [] := by
 refine fnS E0Ok hMixed (c := bodyOf f143) [] (.f .f32 (fcv .f64 .f32 x_0)) [] func143 (sC hp0 <| sK [] sN) rfl (by kernel_rfl) (by kernel_rfl) rfl ?_ ?_
 · rfl
 · rfl

def v_spec_l01Sqrt (x_0 : Nat) : Nat := (v_spec_l01Narrow (v_math_Sqrt (fcv .f32 .f64 x_0)))

theorem t_spec_l01Sqrt (x_0 : Nat)   : Fn prog 120 [.f .f32 x_0] (.f .f32 (v_spec_l01Sqrt x_0)) [] := by
 have y0 : fcvOk .f64 .f32 (v_math_Sqrt (fcv .f32 .f64 x_0)) = true := (narrow_sqrt _)
 refine fnS E0Ok hMixed (c := bodyOf f120) [] (.f .f32 (v_spec_l01Narrow (v_math_Sqrt (fcv .f32 .f64 x_0)))) [] func120 (sC (widenOk x_0) <| sF (t_math_Sqrt (fcv .f32 .f64 x_0)) <| sF (t_spec_l01Narrow (v_math_Sqrt (fcv .f32 .f64 x_0)) y0) <| sK [] sN) rfl (by kernel_rfl) (by kernel_rfl) rfl ?_ ?_
 · rfl
 · rfl

def v_spec_l01Long (v_0 : GVector) : Nat := (v_spec_l01Sqrt (v_spec_l01Inner v_0 v_0))

theorem t_spec_l01Long (v_0 : GVector)   : Fn prog 74 [.agg [.f .f32 v_0.X, .f .f32 v_0.Y, .f .f32 v_0.Z]] (.f .f32 (v_spec_l01Long v_0)) [] := by
 refine fnS E0Ok hMixed (c := bodyOf f74) [] (.f .f32 (v_spec_l01Sqrt (v_spec_l01Inner v_0 v_0))) [] func74 (sF (t_spec_l01Inner v_0 v_0) <| sF (t_spec_l01Sqrt (v_spec_l01Inner v_0 v_0)) <| sK [] sN) rfl (by kernel_rfl) (by kernel_rfl) rfl ?_ ?_
 · rfl
 · rfl

def v_spec_l01Cross (a_0 : GVector) (b_1 : GVector) : GVector := (⟨(fop .sub .f32 (fop .mul .f32 a_0.Y b_1.Z) (fop .mul .f32 a_0.Z b_1.Y)), (fop .sub .f32 (fop .mul .f32 a_0.Z b_1.X) (fop .mul .f32 a_0.X b_1.Z)), (fop .sub .f32 (fop .mul .f32 a_0.X b_1.Y) (fop .mul .f32 a_0.Y b_1.X))⟩ : GVector)

theorem t_spec_l01Cross (a_0 : GVector) (b_1 : GVector)   : Fn prog 156 [.agg [.f .f32 a_0.X, .f .f32 a_0.Y, .f .f32 a_0.Z], .agg [.f .f32 b_1.X, .f .f32 b_1.Y, .f .f32 b_1.Z]] (.agg [.f .f32 ((v_spec_l01Cross a_0 b_1).X), .f .f32 ((v_spec_l01Cross a_0 b_1).Y), .f .f32 ((v_spec_l01Cross a_0 b_1).Z)]) [] := by
 refine fnS E0Ok hMixed (c := bodyOf f156) [] (.agg [.f .f32 (fop .sub .f32 (fop .mul .f32 a_0.Y b_1.Z) (fop .mul .f32 a_0.Z b_1.Y)), .f .f32 (fop .sub .f32 (fop .mul .f32 a_0.Z b_1.X) (fop .mul .f32 a_0.X b_1.Z)), .f .f32 (fop .sub .f32 (fop .mul .f32 a_0.X b_1.Y) (fop .mul .f32 a_0.Y b_1.X))]) [] func156 (sK [] sN) rfl (by kernel_rfl) (by kernel_rfl) rfl ?_ ?_
 · rfl
 · rfl

def nd_spec_l03Normal_0 (m_0 : GMesh) (t_1 : (List Int)) : GVector := (v_spec_l01Cross (v_spec_l01Less (m_0.Places.getD (t_1.getD 1 default).toNat default) (m_0.Places.getD (t_1.getD 0 default).toNat default)) (v_spec_l01Less (m_0.Places.getD (t_1.getD 2 default).toNat default) (m_0.Places.getD (t_1.getD 0 default).toNat default)))

def v_spec_l03Normal (m_0 : GMesh) (t_1 : (List Int)) : GVector := (nd_spec_l03Normal_0 m_0 t_1)

theorem t_spec_l03Normal (m_0 : GMesh) (t_1 : (List Int)) (hp0 : m_0.Places.length ≤ 1073741824) (hp1 : m_0.Triangles.length ≤ 1073741824) (hp2 : ∀ t ∈ m_0.Triangles, t.length ≤ 1073741824) (hp3 : t_1.length ≤ 1073741824) (hp4 : t_1.length = 3 ∧ ∀ x ∈ t_1, 0 ≤ x ∧ x < (m_0.Places.length : Int))  : Fn prog 133 [.ref (GMesh.cells m_0) 0, .sl (t_1.map (cI .i64))] (.agg [.f .f32 ((v_spec_l03Normal m_0 t_1).X), .f .f32 ((v_spec_l03Normal m_0 t_1).Y), .f .f32 ((v_spec_l03Normal m_0 t_1).Z)]) [] := by
 have y0 : (0 : Int) ≤ 0 := (by first | assumption | omega)
 have y1 : 0 < (t_1.length : Int) := (by first | assumption | omega)
 have y2 : (0 : Int) ≤ (t_1.getD 0 default) := (by first | assumption | omega | (have q := Okt.at hp4; omega) | (simp_all <;> omega))
 have y3 : (t_1.getD 0 default) < (m_0.Places.length : Int) := (by first | assumption | omega | (have q := Okt.at hp4; omega) | (simp_all <;> omega))
 have y4 : (0 : Int) ≤ 1 := (by first | assumption | omega)
 have y5 : 1 < (t_1.length : Int) := (by first | assumption | omega)
 have y6 : (0 : Int) ≤ (t_1.getD 1 default) := (by first | assumption | omega | (have q := Okt.at hp4; omega) | (simp_all <;> omega))
 have y7 : (t_1.getD 1 default) < (m_0.Places.length : Int) := (by first | assumption | omega | (have q := Okt.at hp4; omega) | (simp_all <;> omega))
 have y8 : (0 : Int) ≤ 2 := (by first | assumption | omega)
 have y9 : 2 < (t_1.length : Int) := (by first | assumption | omega)
 have y10 : (0 : Int) ≤ (t_1.getD 2 default) := (by first | assumption | omega | (have q := Okt.at hp4; omega) | (simp_all <;> omega))
 have y11 : (t_1.getD 2 default) < (m_0.Places.length : Int) := (by first | assumption | omega | (have q := Okt.at hp4; omega) | (simp_all <;> omega))
 refine fnS E0Ok hMixed (c := bodyOf f133) [] (.agg [.f .f32 ((nd_spec_l03Normal_0 m_0 t_1).X), .f .f32 ((nd_spec_l03Normal_0 m_0 t_1).Y), .f .f32 ((nd_spec_l03Normal_0 m_0 t_1).Z)]) [] func133 (sK [10, 10] <| sG (cI .i64) t_1 0 y0 y1 <| sG GVector.cells m_0.Places (t_1.getD 0 default) y2 y3 <| sK [21, 21] <| sG (cI .i64) t_1 1 y4 y5 <| sG GVector.cells m_0.Places (t_1.getD 1 default) y6 y7 <| sF (t_spec_l01Less (m_0.Places.getD (t_1.getD 1 default).toNat default) (m_0.Places.getD (t_1.getD 0 default).toNat default)) <| sG (cI .i64) t_1 2 y8 y9 <| sG GVector.cells m_0.Places (t_1.getD 2 default) y10 y11 <| sF (t_spec_l01Less (m_0.Places.getD (t_1.getD 2 default).toNat default) (m_0.Places.getD (t_1.getD 0 default).toNat default)) <| sF (t_spec_l01Cross (v_spec_l01Less (m_0.Places.getD (t_1.getD 1 default).toNat default) (m_0.Places.getD (t_1.getD 0 default).toNat default)) (v_spec_l01Less (m_0.Places.getD (t_1.getD 2 default).toNat default) (m_0.Places.getD (t_1.getD 0 default).toNat default))) <| sK [] sN) rfl (by kernel_rfl) (by kernel_rfl) rfl ?_ ?_
 · rfl
 · rfl

def v_spec_l00Min (a_0 : Int) (b_1 : Int) : Int := (cond (decide (a_0 < b_1))
  a_0
  b_1)

theorem t_spec_l00Min (a_0 : Int) (b_1 : Int)   : Fn prog 118 [.i .i64 a_0, .i .i64 b_1] (.i .i64 (v_spec_l00Min a_0 b_1)) [] := by
 cases h0 : (decide (a_0 < b_1)) with
 | true =>
  have gh0 := of_decide_eq_true h0
  refine fnS E0Ok hMixed (c := bodyOf f118) [] (.i .i64 a_0) [] func118 (sB h0 <| sK [] sN) rfl (by kernel_rfl) (by kernel_rfl) rfl ?_ ?_
  · simp only [v_spec_l00Min, h0, cond_true]
  · rfl
 | false =>
  have gh0 := of_decide_eq_false h0
  refine fnS E0Ok hMixed (c := bodyOf f118) [] (.i .i64 b_1) [] func118 (sB h0 <| sK [] sN) rfl (by kernel_rfl) (by kernel_rfl) rfl ?_ ?_
  · simp only [v_spec_l00Min, h0, cond_false]
  · rfl

theorem min_bd {a b n : Int} (h1 : 0 ≤ a ∧ a < n) (h2 : 0 ≤ b ∧ b < n) : 0 ≤ v_spec_l00Min a b ∧ v_spec_l00Min a b < n := by
  unfold v_spec_l00Min; cases decide (a < b) <;> simp only [cond_true, cond_false] <;> omega

def v_spec_l00Max (a_0 : Int) (b_1 : Int) : Int := (cond (decide (a_0 > b_1))
  a_0
  b_1)

theorem t_spec_l00Max (a_0 : Int) (b_1 : Int)   : Fn prog 119 [.i .i64 a_0, .i .i64 b_1] (.i .i64 (v_spec_l00Max a_0 b_1)) [] := by
 cases h0 : (decide (a_0 > b_1)) with
 | true =>
  have gh0 := of_decide_eq_true h0
  refine fnS E0Ok hMixed (c := bodyOf f119) [] (.i .i64 a_0) [] func119 (sB h0 <| sK [] sN) rfl (by kernel_rfl) (by kernel_rfl) rfl ?_ ?_
  · simp only [v_spec_l00Max, h0, cond_true]
  · rfl
 | false =>
  have gh0 := of_decide_eq_false h0
  refine fnS E0Ok hMixed (c := bodyOf f119) [] (.i .i64 b_1) [] func119 (sB h0 <| sK [] sN) rfl (by kernel_rfl) (by kernel_rfl) rfl ?_ ?_
  · simp only [v_spec_l00Max, h0, cond_false]
  · rfl

theorem max_bd {a b n : Int} (h1 : 0 ≤ a ∧ a < n) (h2 : 0 ≤ b ∧ b < n) : 0 ≤ v_spec_l00Max a b ∧ v_spec_l00Max a b < n := by
  unfold v_spec_l00Max; cases decide (a > b) <;> simp only [cond_true, cond_false] <;> omega
theorem mkE_minmax (a b : Int) : (⟨v_spec_l00Min a b, v_spec_l00Max a b⟩ : Gedge) = mkE a b := by
  unfold v_spec_l00Min v_spec_l00Max mkE
  by_cases h : a < b
  · rw [decide_eq_true h, decide_eq_false (by omega), if_pos (by omega)]; rfl
  · rw [decide_eq_false h]
    by_cases h2 : a > b
    · rw [decide_eq_true h2, if_neg (by omega)]; rfl
    · rw [decide_eq_false h2, show a = b from by omega, if_pos (by omega)]; rfl

def nd_spec_l02Edges_0 (m_0 : GMesh) (i_l0 : Int) (k_l0 : Int) : Int := (v_spec_l00Min ((m_0.Triangles.getD i_l0.toNat default).getD k_l0.toNat default) ((m_0.Triangles.getD i_l0.toNat default).getD (Int.tmod (k_l0 + 1) 3).toNat default))

def nd_spec_l02Edges_1 (m_0 : GMesh) (i_l0 : Int) (k_l0 : Int) : Int := (v_spec_l00Max ((m_0.Triangles.getD i_l0.toNat default).getD k_l0.toNat default) ((m_0.Triangles.getD i_l0.toNat default).getD (Int.tmod (k_l0 + 1) 3).toNat default))

def lo_spec_l02Edges_2 (m_0 : GMesh) (i_l0 : Int) (r0_l1 : (List Bool)) : Nat → Int → (List Bool) → (List Bool)
  | 0, _, _ => default
  | k + 1, k_l0, r0_l1_1 => (cond (decide (k_l0 < 3))
    (lo_spec_l02Edges_2 m_0 i_l0 r0_l1 k (k_l0 + 1) (r0_l1_1.set ((IntKind.wrap .i64 ((IntKind.wrap .i64 ((nd_spec_l02Edges_0 m_0 i_l0 k_l0) * (m_0.Places.length : Int))) + (nd_spec_l02Edges_1 m_0 i_l0 k_l0))).toNat) true))
    r0_l1_1)

def ls_spec_l02Edges_2 (m_0 : GMesh) (i_l0 : Int) (r0_l1 : (List Bool)) (r : (List Bool)) : Ex × St := ((.exit 2), ⟨[.ref (GMesh.cells m_0) 0, .any, .nils, .i .i64 (m_0.Places.length : Int), .own 0, .i .i64 i_l0, .any, .any, .any, .any, .any, .any, .any, .ref (GMesh.cells m_0) 0, .ref (GMesh.cells m_0) 0, .ref (GMesh.cells m_0) 0, .sl (m_0.Places.map GVector.cells), .i .i64 (m_0.Places.length : Int), .i .i64 (m_0.Places.length : Int), .i .i64 (m_0.Places.length : Int), .i .i64 (IntKind.wrap .i64 ((m_0.Places.length : Int) * (m_0.Places.length : Int))), .own 0, .i .i64 i_l0, .ref (GMesh.cells m_0) 0, .ref (GMesh.cells m_0) 0, .ref (GMesh.cells m_0) 1, .sl (m_0.Triangles.map (cL (cI .i64))), .i .i64 (m_0.Triangles.length : Int), .b (decide (i_l0 < (m_0.Triangles.length : Int))), .any, .any, .ref (GMesh.cells m_0) 0, .ref (GMesh.cells m_0) 0, .ref (GMesh.cells m_0) 1, .sl (m_0.Triangles.map (cL (cI .i64))), .i .i64 i_l0, .ref [.sl ((m_0.Triangles.getD i_l0.toNat default).map (cI .i64))] 0, .sl ((m_0.Triangles.getD i_l0.toNat default).map (cI .i64)), .any, .any, .any, .any, .any, .any, .any, .any, .any, .any, .any, .any, .any, .any, .any, .any, .any, .any, .any, .any, .any, .any, .any, .any, .any, .any, .any, .any, .any, .any, .any, .any, .any, .any, .any, .any, .any, .any, .any, .any, .any, .any, .any, .any, .any, .any, .any, .any, .any, .any, .any, .any, .any], [.vec 4 1 (r.map cB) false]⟩)

def hd_spec_l02Edges_2 (m_0 : GMesh) (i_l0 : Int) (r0_l1 : (List Bool)) (k_l0 : Int) (r0_l1_1 : (List Bool)) : St := ⟨[.ref (GMesh.cells m_0) 0, .any, .nils, .i .i64 (m_0.Places.length : Int), .own 0, .i .i64 i_l0, .sl ((m_0.Triangles.getD i_l0.toNat default).map (cI .i64)), .i .i64 k_l0, .any, .any, .any, .any, .any, .ref (GMesh.cells m_0) 0, .ref (GMesh.cells m_0) 0, .ref (GMesh.cells m_0) 0, .sl (m_0.Places.map GVector.cells), .i .i64 (m_0.Places.length : Int), .i .i64 (m_0.Places.length : Int), .i .i64 (m_0.Places.length : Int), .i .i64 (IntKind.wrap .i64 ((m_0.Places.length : Int) * (m_0.Places.length : Int))), .own 0, .i .i64 i_l0, .ref (GMesh.cells m_0) 0, .ref (GMesh.cells m_0) 0, .ref (GMesh.cells m_0) 1, .sl (m_0.Triangles.map (cL (cI .i64))), .i .i64 (m_0.Triangles.length : Int), .b (decide (i_l0 < (m_0.Triangles.length : Int))), .any, .any, .ref (GMesh.cells m_0) 0, .ref (GMesh.cells m_0) 0, .ref (GMesh.cells m_0) 1, .sl (m_0.Triangles.map (cL (cI .i64))), .i .i64 i_l0, .ref [.sl ((m_0.Triangles.getD i_l0.toNat default).map (cI .i64))] 0, .sl ((m_0.Triangles.getD i_l0.toNat default).map (cI .i64)), .any, .any, .any, .any, .any, .any, .any, .any, .any, .any, .any, .any, .any, .any, .any, .any, .any, .any, .any, .any, .any, .any, .any, .any, .any, .any, .any, .any, .any, .any, .any, .any, .any, .any, .any, .any, .any, .any, .any, .any, .any, .any, .any, .any, .any, .any, .any, .any, .any, .any, .any, .any, .any], [.vec 4 1 (r0_l1_1.map cB) false]⟩

def mk_spec_l02Edges_2_0 : List Bool := [true, false, true, true, true, true, true, true, false, false, false, false, false, true, true, true, true, true, true, true, true, true, true, true, true, true, true, true, true, false, false, true, true, true, true, true, true, true, false, false, false, false, false, false, false, false, false, false, false, false, false, false, false, false, false, false, false, false, false, false, false, false, false, false, false, false, false, false, false, false, false, false, false, false, false, false, false, false, false, false, false, false, false, false, false, false, false, false, false, false, false]

def mk_spec_l02Edges_2_1 : List Bool := [true, false, true, true, true, true, false, false, false, false, false, false, false, true, true, true, true, true, true, true, true, true, true, true, true, true, true, true, true, false, false, true, true, true, true, true, true, true, false, false, false, false, false, false, false, false, false, false, false, false, false, false, false, false, false, false, false, false, false, false, false, false, false, false, false, false, false, false, false, false, false, false, false, false, false, false, false, false, false, false, false, false, false, false, false, false, false, false, false, false, false]

theorem lp_spec_l02Edges_2 (m_0 : GMesh) (i_l0 : Int) (r0_l1 : (List Bool)) (hp0 : m_0.Places.length ≤ 1073741824) (hp1 : m_0.Triangles.length ≤ 1073741824) (hp2 : ∀ t ∈ m_0.Triangles, t.length ≤ 1073741824) (hp3 : OkE m_0.Places.length m_0.Triangles) (hv_spec_l02Edges_1_0 : 0 ≤ i_l0) (hv_spec_l02Edges_1_1 : r0_l1.length = (IntKind.wrap .i64 ((m_0.Places.length : Int) * (m_0.Places.length : Int))).toNat) (hf_spec_l02Edges_2_0 : (decide (i_l0 < (m_0.Triangles.length : Int))) = true) : ∀ (k : Nat) (k_l0 : Int) (r0_l1_1 : (List Bool)) (hv_spec_l02Edges_2_0 : 0 ≤ k_l0) (hv_spec_l02Edges_2_1 : r0_l1_1.length = r0_l1.length) (hk : ((3 : Int) - k_l0).toNat < k), Lp prog 0 (sub (bodyOf f73) [1, 1, 1, 0, 1, 0, 0, 1, 0, 0, 1, 1, 0, 0]) (hd_spec_l02Edges_2 m_0 i_l0 r0_l1 k_l0 r0_l1_1) (ls_spec_l02Edges_2 m_0 i_l0 r0_l1 (lo_spec_l02Edges_2 m_0 i_l0 r0_l1 k k_l0 r0_l1_1)).1 (ls_spec_l02Edges_2 m_0 i_l0 r0_l1 (lo_spec_l02Edges_2 m_0 i_l0 r0_l1 k k_l0 r0_l1_1)).2 := by
 intro k
 induction k with
 | zero => intro k_l0 r0_l1_1 hv_spec_l02Edges_2_0 hv_spec_l02Edges_2_1 hk; exact absurd hk (Nat.not_lt_zero _)
 | succ k ih =>
  intro k_l0 r0_l1_1 hv_spec_l02Edges_2_0 hv_spec_l02Edges_2_1 hk
  cases h__0 : (decide (k_l0 < 3)) with
  | true =>
   have gh__0 := of_decide_eq_true h__0
   have y__0 : (0 : Int) ≤ k_l0 := (by first | assumption | omega)
   have y__1 : k_l0 < ((m_0.Triangles.getD i_l0.toNat default).length : Int) := (by first | assumption | omega | (first | (have q := OkE.at (by assumption) hv_spec_l02Edges_1_0 (of_decide_eq_true (by assumption)) hv_spec_l02Edges_2_0 (of_decide_eq_true (by assumption)); have q2 := ix2F q.2.2.2.2.2.1 (min_bd q.2.2.2.1 q.2.2.2.2.1).1 (min_bd q.2.2.2.1 q.2.2.2.2.1).2 (max_bd q.2.2.2.1 q.2.2.2.2.1).1 (max_bd q.2.2.2.1 q.2.2.2.2.1).2; unfold nd_spec_l02Edges_0 nd_spec_l02Edges_1; omega) | (have q := OkE.at (by assumption) hv_spec_l02Edges_1_0 (of_decide_eq_true (by assumption)) hv_spec_l02Edges_2_0 (of_decide_eq_true (by assumption)); omega) | (have := hp3.1; have g4 := of_decide_eq_true hf_spec_l02Edges_4_0; first | omega | (have q2 := ix2F (n := (m_0.Places.length : Int)) (a := a_l0) (b := b_l0) (by omega) (by omega) (by omega) (by omega) (by omega); first | omega | (simp only [len_lr_spec_l02Edges_1_1_0, List.length_replicate]; omega)) | (simp only [List.length_append, List.length_cons, List.length_nil]; omega)) | (have := hp3.1; have g4 := of_decide_eq_true h_0; have q := lo4_len m_0 a_l0 r1_l1 (((m_0.Places.length : Int) - (a_l0 + 1)).toNat + 1) (a_l0 + 1) r1_l1; unfold lr_spec_l02Edges_4_2; omega) | (have q2 := ixN hp3.1; omega)) | (simp_all <;> omega))
   have y__2 : (-9223372036854775808 : Int) ≤ (k_l0 + 1) := (by first | assumption | omega)
   have y__3 : (k_l0 + 1) ≤ (9223372036854775807 : Int) := (by first | assumption | omega)
   have y__4 : (0 : Int) ≤ (Int.tmod (k_l0 + 1) 3) := (by first | assumption | omega | (first | (have q := OkE.at (by assumption) hv_spec_l02Edges_1_0 (of_decide_eq_true (by assumption)) hv_spec_l02Edges_2_0 (of_decide_eq_true (by assumption)); have q2 := ix2F q.2.2.2.2.2.1 (min_bd q.2.2.2.1 q.2.2.2.2.1).1 (min_bd q.2.2.2.1 q.2.2.2.2.1).2 (max_bd q.2.2.2.1 q.2.2.2.2.1).1 (max_bd q.2.2.2.1 q.2.2.2.2.1).2; unfold nd_spec_l02Edges_0 nd_spec_l02Edges_1; omega) | (have q := OkE.at (by assumption) hv_spec_l02Edges_1_0 (of_decide_eq_true (by assumption)) hv_spec_l02Edges_2_0 (of_decide_eq_true (by assumption)); omega) | (have := hp3.1; have g4 := of_decide_eq_true hf_spec_l02Edges_4_0; first | omega | (have q2 := ix2F (n := (m_0.Places.length : Int)) (a := a_l0) (b := b_l0) (by omega) (by omega) (by omega) (by omega) (by omega); first | omega | (simp only [len_lr_spec_l02Edges_1_1_0, List.length_replicate]; omega)) | (simp only [List.length_append, List.length_cons, List.length_nil]; omega)) | (have := hp3.1; have g4 := of_decide_eq_true h_0; have q := lo4_len m_0 a_l0 r1_l1 (((m_0.Places.length : Int) - (a_l0 + 1)).toNat + 1) (a_l0 + 1) r1_l1; unfold lr_spec_l02Edges_4_2; omega) | (have q2 := ixN hp3.1; omega)) | (simp_all <;> omega))
   have y__5 : (Int.tmod (k_l0 + 1) 3) < ((m_0.Triangles.getD i_l0.toNat default).length : Int) := (by first | assumption | omega | (first | (have q := OkE.at (by assumption) hv_spec_l02Edges_1_0 (of_decide_eq_true (by assumption)) hv_spec_l02Edges_2_0 (of_decide_eq_true (by assumption)); have q2 := ix2F q.2.2.2.2.2.1 (min_bd q.2.2.2.1 q.2.2.2.2.1).1 (min_bd q.2.2.2.1 q.2.2.2.2.1).2 (max_bd q.2.2.2.1 q.2.2.2.2.1).1 (max_bd q.2.2.2.1 q.2.2.2.2.1).2; unfold nd_spec_l02Edges_0 nd_spec_l02Edges_1; omega) | (have q := OkE.at (by assumption) hv_spec_l02Edges_1_0 (of_decide_eq_true (by assumption)) hv_spec_l02Edges_2_0 (of_decide_eq_true (by assumption)); omega) | (have := hp3.1; have g4 := of_decide_eq_true hf_spec_l02Edges_4_0; first | omega | (have q2 := ix2F (n := (m_0.Places.length : Int)) (a := a_l0) (b := b_l0) (by omega) (by omega) (by omega) (by omega) (by omega); first | omega | (simp only [len_lr_spec_l02Edges_1_1_0, List.length_replicate]; omega)) | (simp only [List.length_append, List.length_cons, List.length_nil]; omega)) | (have := hp3.1; have g4 := of_decide_eq_true h_0; have q := lo4_len m_0 a_l0 r1_l1 (((m_0.Places.length : Int) - (a_l0 + 1)).toNat + 1) (a_l0 + 1) r1_l1; unfold lr_spec_l02Edges_4_2; omega) | (have q2 := ixN hp3.1; omega)) | (simp_all <;> omega))
   have y__6 : (0 : Int) ≤ (IntKind.wrap .i64 ((IntKind.wrap .i64 ((nd_spec_l02Edges_0 m_0 i_l0 k_l0) * (m_0.Places.length : Int))) + (nd_spec_l02Edges_1 m_0 i_l0 k_l0))) := (by first | assumption | omega | (first | (have q := OkE.at (by assumption) hv_spec_l02Edges_1_0 (of_decide_eq_true (by assumption)) hv_spec_l02Edges_2_0 (of_decide_eq_true (by assumption)); have q2 := ix2F q.2.2.2.2.2.1 (min_bd q.2.2.2.1 q.2.2.2.2.1).1 (min_bd q.2.2.2.1 q.2.2.2.2.1).2 (max_bd q.2.2.2.1 q.2.2.2.2.1).1 (max_bd q.2.2.2.1 q.2.2.2.2.1).2; unfold nd_spec_l02Edges_0 nd_spec_l02Edges_1; omega) | (have q := OkE.at (by assumption) hv_spec_l02Edges_1_0 (of_decide_eq_true (by assumption)) hv_spec_l02Edges_2_0 (of_decide_eq_true (by assumption)); omega) | (have := hp3.1; have g4 := of_decide_eq_true hf_spec_l02Edges_4_0; first | omega | (have q2 := ix2F (n := (m_0.Places.length : Int)) (a := a_l0) (b := b_l0) (by omega) (by omega) (by omega) (by omega) (by omega); first | omega | (simp only [len_lr_spec_l02Edges_1_1_0, List.length_replicate]; omega)) | (simp only [List.length_append, List.length_cons, List.length_nil]; omega)) | (have := hp3.1; have g4 := of_decide_eq_true h_0; have q := lo4_len m_0 a_l0 r1_l1 (((m_0.Places.length : Int) - (a_l0 + 1)).toNat + 1) (a_l0 + 1) r1_l1; unfold lr_spec_l02Edges_4_2; omega) | (have q2 := ixN hp3.1; omega)) | (simp_all <;> omega))
   have y__7 : (IntKind.wrap .i64 ((IntKind.wrap .i64 ((nd_spec_l02Edges_0 m_0 i_l0 k_l0) * (m_0.Places.length : Int))) + (nd_spec_l02Edges_1 m_0 i_l0 k_l0))) < (r0_l1_1.length : Int) := (by first | assumption | omega | (first | (have q := OkE.at (by assumption) hv_spec_l02Edges_1_0 (of_decide_eq_true (by assumption)) hv_spec_l02Edges_2_0 (of_decide_eq_true (by assumption)); have q2 := ix2F q.2.2.2.2.2.1 (min_bd q.2.2.2.1 q.2.2.2.2.1).1 (min_bd q.2.2.2.1 q.2.2.2.2.1).2 (max_bd q.2.2.2.1 q.2.2.2.2.1).1 (max_bd q.2.2.2.1 q.2.2.2.2.1).2; unfold nd_spec_l02Edges_0 nd_spec_l02Edges_1; omega) | (have q := OkE.at (by assumption) hv_spec_l02Edges_1_0 (of_decide_eq_true (by assumption)) hv_spec_l02Edges_2_0 (of_decide_eq_true (by assumption)); omega) | (have := hp3.1; have g4 := of_decide_eq_true hf_spec_l02Edges_4_0; first | omega | (have q2 := ix2F (n := (m_0.Places.length : Int)) (a := a_l0) (b := b_l0) (by omega) (by omega) (by omega) (by omega) (by omega); first | omega | (simp only [len_lr_spec_l02Edges_1_1_0, List.length_replicate]; omega)) | (simp only [List.length_append, List.length_cons, List.length_nil]; omega)) | (have := hp3.1; have g4 := of_decide_eq_true h_0; have q := lo4_len m_0 a_l0 r1_l1 (((m_0.Places.length : Int) - (a_l0 + 1)).toNat + 1) (a_l0 + 1) r1_l1; unfold lr_spec_l02Edges_4_2; omega) | (have q2 := ixN hp3.1; omega)) | (simp_all <;> omega))
   have y__8 : (IntKind.wrap .i64 ((IntKind.wrap .i64 ((nd_spec_l02Edges_0 m_0 i_l0 k_l0) * (m_0.Places.length : Int))) + (nd_spec_l02Edges_1 m_0 i_l0 k_l0))).toNat < r0_l1_1.length := (by first | assumption | omega)
   have e : lo_spec_l02Edges_2 m_0 i_l0 r0_l1 (k + 1) k_l0 r0_l1_1 = (lo_spec_l02Edges_2 m_0 i_l0 r0_l1 k (k_l0 + 1) (r0_l1_1.set ((IntKind.wrap .i64 ((IntKind.wrap .i64 ((nd_spec_l02Edges_0 m_0 i_l0 k_l0) * (m_0.Places.length : Int))) + (nd_spec_l02Edges_1 m_0 i_l0 k_l0))).toNat) true)) := by simp only [lo_spec_l02Edges_2, h__0, cond_true]
   rw [e]
   exact nextS E0Ok hMixed [] mk_spec_l02Edges_2_0 [0] (⟨[.ref (GMesh.cells m_0) 0, .any, .nils, .i .i64 (m_0.Places.length : Int), .own 0, .i .i64 i_l0, .sl ((m_0.Triangles.getD i_l0.toNat default).map (cI .i64)), .i .i64 (k_l0 + 1), .any, .any, .any, .any, .any, .ref (GMesh.cells m_0) 0, .ref (GMesh.cells m_0) 0, .ref (GMesh.cells m_0) 0, .sl (m_0.Places.map GVector.cells), .i .i64 (m_0.Places.length : Int), .i .i64 (m_0.Places.length : Int), .i .i64 (m_0.Places.length : Int), .i .i64 (IntKind.wrap .i64 ((m_0.Places.length : Int) * (m_0.Places.length : Int))), .own 0, .i .i64 i_l0, .ref (GMesh.cells m_0) 0, .ref (GMesh.cells m_0) 0, .ref (GMesh.cells m_0) 1, .sl (m_0.Triangles.map (cL (cI .i64))), .i .i64 (m_0.Triangles.length : Int), .b (decide (i_l0 < (m_0.Triangles.length : Int))), .any, .any, .ref (GMesh.cells m_0) 0, .ref (GMesh.cells m_0) 0, .ref (GMesh.cells m_0) 1, .sl (m_0.Triangles.map (cL (cI .i64))), .i .i64 i_l0, .ref [.sl ((m_0.Triangles.getD i_l0.toNat default).map (cI .i64))] 0, .sl ((m_0.Triangles.getD i_l0.toNat default).map (cI .i64)), .any, .any, .any, .any, .any, .any, .any, .any, .any, .any, .any, .any, .any, .any, .any, .any, .any, .any, .any, .any, .any, .any, .any, .any, .any, .any, .any, .any, .any, .any, .any, .any, .any, .any, .any, .any, .any, .any, .any, .any, .any, .any, .any, .any, .any, .any, .any, .any, .any, .any, .any, .any, .any], [.vec 4 1 ((r0_l1_1.map cB).set ((IntKind.wrap .i64 ((IntKind.wrap .i64 ((nd_spec_l02Edges_0 m_0 i_l0 k_l0) * (m_0.Places.length : Int))) + (nd_spec_l02Edges_1 m_0 i_l0 k_l0))).toNat) [.b true]) false]⟩) (sB h__0 <| sG (cI .i64) (m_0.Triangles.getD i_l0.toNat default) k_l0 y__0 y__1 <| sI (k_l0 + 1) y__2 y__3 <| sC (show (3 : Int) ≠ 0 from (by decide)) <| sQ (Int.tmod (k_l0 + 1) 3) <| sG (cI .i64) (m_0.Triangles.getD i_l0.toNat default) (Int.tmod (k_l0 + 1) 3) y__4 y__5 <| sF (t_spec_l00Min ((m_0.Triangles.getD i_l0.toNat default).getD k_l0.toNat default) ((m_0.Triangles.getD i_l0.toNat default).getD (Int.tmod (k_l0 + 1) 3).toNat default)) <| sW .i64 ((nd_spec_l02Edges_0 m_0 i_l0 k_l0) * (m_0.Places.length : Int)) <| sF (t_spec_l00Max ((m_0.Triangles.getD i_l0.toNat default).getD k_l0.toNat default) ((m_0.Triangles.getD i_l0.toNat default).getD (Int.tmod (k_l0 + 1) 3).toNat default)) <| sW .i64 ((IntKind.wrap .i64 ((nd_spec_l02Edges_0 m_0 i_l0 k_l0) * (m_0.Places.length : Int))) + (nd_spec_l02Edges_1 m_0 i_l0 k_l0)) <| sX cB r0_l1_1 (IntKind.wrap .i64 ((IntKind.wrap .i64 ((nd_spec_l02Edges_0 m_0 i_l0 k_l0) * (m_0.Places.length : Int))) + (nd_spec_l02Edges_1 m_0 i_l0 k_l0))) y__6 y__7 <| sC (maplt (c := cB) (l := r0_l1_1) y__8) <| sI (k_l0 + 1) y__2 y__3 <| sN) (by kernel_rfl) (show _ = ⟨[.ref (GMesh.cells m_0) 0, .any, .nils, .i .i64 (m_0.Places.length : Int), .own 0, .i .i64 i_l0, .sl ((m_0.Triangles.getD i_l0.toNat default).map (cI .i64)), .i .i64 (k_l0 + 1), .any, .any, .any, .any, .any, .ref (GMesh.cells m_0) 0, .ref (GMesh.cells m_0) 0, .ref (GMesh.cells m_0) 0, .sl (m_0.Places.map GVector.cells), .i .i64 (m_0.Places.length : Int), .i .i64 (m_0.Places.length : Int), .i .i64 (m_0.Places.length : Int), .i .i64 (IntKind.wrap .i64 ((m_0.Places.length : Int) * (m_0.Places.length : Int))), .own 0, .i .i64 i_l0, .ref (GMesh.cells m_0) 0, .ref (GMesh.cells m_0) 0, .ref (GMesh.cells m_0) 1, .sl (m_0.Triangles.map (cL (cI .i64))), .i .i64 (m_0.Triangles.length : Int), .b (decide (i_l0 < (m_0.Triangles.length : Int))), .any, .any, .ref (GMesh.cells m_0) 0, .ref (GMesh.cells m_0) 0, .ref (GMesh.cells m_0) 1, .sl (m_0.Triangles.map (cL (cI .i64))), .i .i64 i_l0, .ref [.sl ((m_0.Triangles.getD i_l0.toNat default).map (cI .i64))] 0, .sl ((m_0.Triangles.getD i_l0.toNat default).map (cI .i64)), .any, .any, .any, .any, .any, .any, .any, .any, .any, .any, .any, .any, .any, .any, .any, .any, .any, .any, .any, .any, .any, .any, .any, .any, .any, .any, .any, .any, .any, .any, .any, .any, .any, .any, .any, .any, .any, .any, .any, .any, .any, .any, .any, .any, .any, .any, .any, .any, .any, .any, .any, .any, .any], [.vec 4 1 ((r0_l1_1.set ((IntKind.wrap .i64 ((IntKind.wrap .i64 ((nd_spec_l02Edges_0 m_0 i_l0 k_l0) * (m_0.Places.length : Int))) + (nd_spec_l02Edges_1 m_0 i_l0 k_l0))).toNat) true).map cB) false]⟩ from (by simp [cL, cI, cB])) (ih (k_l0 + 1) (r0_l1_1.set ((IntKind.wrap .i64 ((IntKind.wrap .i64 ((nd_spec_l02Edges_0 m_0 i_l0 k_l0) * (m_0.Places.length : Int))) + (nd_spec_l02Edges_1 m_0 i_l0 k_l0))).toNat) true) (show 0 ≤ (k_l0 + 1) from (by first | assumption | omega)) (show (r0_l1_1.set ((IntKind.wrap .i64 ((IntKind.wrap .i64 ((nd_spec_l02Edges_0 m_0 i_l0 k_l0) * (m_0.Places.length : Int))) + (nd_spec_l02Edges_1 m_0 i_l0 k_l0))).toNat) true).length = r0_l1.length from (by first | assumption | omega | (first | (have q := OkE.at (by assumption) hv_spec_l02Edges_1_0 (of_decide_eq_true (by assumption)) hv_spec_l02Edges_2_0 (of_decide_eq_true (by assumption)); have q2 := ix2F q.2.2.2.2.2.1 (min_bd q.2.2.2.1 q.2.2.2.2.1).1 (min_bd q.2.2.2.1 q.2.2.2.2.1).2 (max_bd q.2.2.2.1 q.2.2.2.2.1).1 (max_bd q.2.2.2.1 q.2.2.2.2.1).2; unfold nd_spec_l02Edges_0 nd_spec_l02Edges_1; omega) | (have q := OkE.at (by assumption) hv_spec_l02Edges_1_0 (of_decide_eq_true (by assumption)) hv_spec_l02Edges_2_0 (of_decide_eq_true (by assumption)); omega) | (have := hp3.1; have g4 := of_decide_eq_true hf_spec_l02Edges_4_0; first | omega | (have q2 := ix2F (n := (m_0.Places.length : Int)) (a := a_l0) (b := b_l0) (by omega) (by omega) (by omega) (by omega) (by omega); first | omega | (simp only [len_lr_spec_l02Edges_1_1_0, List.length_replicate]; omega)) | (simp only [List.length_append, List.length_cons, List.length_nil]; omega)) | (have := hp3.1; have g4 := of_decide_eq_true h_0; have q := lo4_len m_0 a_l0 r1_l1 (((m_0.Places.length : Int) - (a_l0 + 1)).toNat + 1) (a_l0 + 1) r1_l1; unfold lr_spec_l02Edges_4_2; omega) | (have q2 := ixN hp3.1; omega)) | (simp_all <;> omega))) (by first | assumption | omega))
  | false =>
   have gh__0 := of_decide_eq_false h__0
   have e : lo_spec_l02Edges_2 m_0 i_l0 r0_l1 (k + 1) k_l0 r0_l1_1 = r0_l1_1 := by simp only [lo_spec_l02Edges_2, h__0, cond_false]
   rw [e]
   exact outR (e := (.exit 2)) E0Ok hMixed [] mk_spec_l02Edges_2_1 [0] (sB h__0 <| sN) (by kernel_rfl) (by intro h; cases h)

theorem ln_spec_l02Edges_2_0 (m_0 : GMesh) (i_l0 : Int) (r0_l1 : (List Bool)) : ∀ (k : Nat) (k_l0 : Int) (r0_l1_1 : (List Bool)) (hk : ((3 : Int) - k_l0).toNat < k), (lo_spec_l02Edges_2 m_0 i_l0 r0_l1 k k_l0 r0_l1_1).length = r0_l1_1.length := by
  intro k
  induction k with
  | zero => intro k_l0 r0_l1_1 hk; exact absurd hk (Nat.not_lt_zero _)
  | succ k ih =>
    intro k_l0 r0_l1_1 hk
    cases h__0 : (decide (k_l0 < 3)) with
    | true =>
      have e : lo_spec_l02Edges_2 m_0 i_l0 r0_l1 (k + 1) k_l0 r0_l1_1 = (lo_spec_l02Edges_2 m_0 i_l0 r0_l1 k (k_l0 + 1) (r0_l1_1.set ((IntKind.wrap .i64 ((IntKind.wrap .i64 ((nd_spec_l02Edges_0 m_0 i_l0 k_l0) * (m_0.Places.length : Int))) + (nd_spec_l02Edges_1 m_0 i_l0 k_l0))).toNat) true)) := by simp only [lo_spec_l02Edges_2, h__0, cond_true]
      rw [e, ih (k_l0 + 1) (r0_l1_1.set ((IntKind.wrap .i64 ((IntKind.wrap .i64 ((nd_spec_l02Edges_0 m_0 i_l0 k_l0) * (m_0.Places.length : Int))) + (nd_spec_l02Edges_1 m_0 i_l0 k_l0))).toNat) true) (by first | assumption | omega | (first | (have q := OkE.at (by assumption) hv_spec_l02Edges_1_0 (of_decide_eq_true (by assumption)) hv_spec_l02Edges_2_0 (of_decide_eq_true (by assumption)); have q2 := ix2F q.2.2.2.2.2.1 (min_bd q.2.2.2.1 q.2.2.2.2.1).1 (min_bd q.2.2.2.1 q.2.2.2.2.1).2 (max_bd q.2.2.2.1 q.2.2.2.2.1).1 (max_bd q.2.2.2.1 q.2.2.2.2.1).2; unfold nd_spec_l02Edges_0 nd_spec_l02Edges_1; omega) | (have q := OkE.at (by assumption) hv_spec_l02Edges_1_0 (of_decide_eq_true (by assumption)) hv_spec_l02Edges_2_0 (of_decide_eq_true (by assumption)); omega) | (have := hp3.1; have g4 := of_decide_eq_true hf_spec_l02Edges_4_0; first | omega | (have q2 := ix2F (n := (m_0.Places.length : Int)) (a := a_l0) (b := b_l0) (by omega) (by omega) (by omega) (by omega) (by omega); first | omega | (simp only [len_lr_spec_l02Edges_1_1_0, List.length_replicate]; omega)) | (simp only [List.length_append, List.length_cons, List.length_nil]; omega)) | (have := hp3.1; have g4 := of_decide_eq_true h_0; have q := lo4_len m_0 a_l0 r1_l1 (((m_0.Places.length : Int) - (a_l0 + 1)).toNat + 1) (a_l0 + 1) r1_l1; unfold lr_spec_l02Edges_4_2; omega) | (have q2 := ixN hp3.1; omega)) | (simp_all <;> omega))]; simp
    | false =>
      have e : lo_spec_l02Edges_2 m_0 i_l0 r0_l1 (k + 1) k_l0 r0_l1_1 = r0_l1_1 := by simp only [lo_spec_l02Edges_2, h__0, cond_false]
      first | (rw [e]; done) | (rw [e]; rfl)

def lr_spec_l02Edges_2_0 (m_0 : GMesh) (i_l0 : Int) (r0_l1 : (List Bool)) : (List Bool) := (lo_spec_l02Edges_2 m_0 i_l0 r0_l1 (((3 : Int) - 0).toNat + 1) 0 r0_l1)

@[simp] theorem len_lr_spec_l02Edges_2_0_0 (m_0 : GMesh) (i_l0 : Int) (r0_l1 : (List Bool)) : (lr_spec_l02Edges_2_0 m_0 i_l0 r0_l1).length = (r0_l1 : (List Bool)).length := ln_spec_l02Edges_2_0 m_0 i_l0 r0_l1 (((3 : Int) - 0).toNat + 1) 0 r0_l1 (by first | exact Nat.lt_succ_self _ | simp)

def lo_spec_l02Edges_1 (m_0 : GMesh) : Nat → Int → (List Bool) → (List Bool)
  | 0, _, _ => default
  | k + 1, i_l0, r0_l1 => (cond (decide (i_l0 < (m_0.Triangles.length : Int)))
    (lo_spec_l02Edges_1 m_0 k (i_l0 + 1) (lr_spec_l02Edges_2_0 m_0 i_l0 r0_l1))
    r0_l1)

def ls_spec_l02Edges_1 (m_0 : GMesh) (r : (List Bool)) : Ex × St := ((.exit 0), ⟨[.ref (GMesh.cells m_0) 0, .any, .nils, .i .i64 (m_0.Places.length : Int), .own 0, .any, .any, .any, .any, .any, .any, .any, .any, .ref (GMesh.cells m_0) 0, .ref (GMesh.cells m_0) 0, .ref (GMesh.cells m_0) 0, .sl (m_0.Places.map GVector.cells), .i .i64 (m_0.Places.length : Int), .i .i64 (m_0.Places.length : Int), .i .i64 (m_0.Places.length : Int), .i .i64 (IntKind.wrap .i64 ((m_0.Places.length : Int) * (m_0.Places.length : Int))), .own 0, .any, .any, .any, .any, .any, .any, .any, .any, .any, .any, .any, .any, .any, .any, .any, .any, .any, .any, .any, .any, .any, .any, .any, .any, .any, .any, .any, .any, .any, .any, .any, .any, .any, .any, .any, .any, .any, .any, .any, .any, .any, .any, .any, .any, .any, .any, .any, .any, .any, .any, .any, .any, .any, .any, .any, .any, .any, .any, .any, .any, .any, .any, .any, .any, .any, .any, .any, .any, .any], [.vec 4 1 (r.map cB) false]⟩)

def hd_spec_l02Edges_1 (m_0 : GMesh) (i_l0 : Int) (r0_l1 : (List Bool)) : St := ⟨[.ref (GMesh.cells m_0) 0, .any, .nils, .i .i64 (m_0.Places.length : Int), .own 0, .i .i64 i_l0, .any, .any, .any, .any, .any, .any, .any, .ref (GMesh.cells m_0) 0, .ref (GMesh.cells m_0) 0, .ref (GMesh.cells m_0) 0, .sl (m_0.Places.map GVector.cells), .i .i64 (m_0.Places.length : Int), .i .i64 (m_0.Places.length : Int), .i .i64 (m_0.Places.length : Int), .i .i64 (IntKind.wrap .i64 ((m_0.Places.length : Int) * (m_0.Places.length : Int))), .own 0, .any, .any, .any, .any, .any, .any, .any, .any, .any, .any, .any, .any, .any, .any, .any, .any, .any, .any, .any, .any, .any, .any, .any, .any, .any, .any, .any, .any, .any, .any, .any, .any, .any, .any, .any, .any, .any, .any, .any, .any, .any, .any, .any, .any, .any, .any, .any, .any, .any, .any, .any, .any, .any, .any, .any, .any, .any, .any, .any, .any, .any, .any, .any, .any, .any, .any, .any, .any, .any], [.vec 4 1 (r0_l1.map cB) false]⟩

def mk_spec_l02Edges_1_0 : List Bool := [true, false, true, true, true, true, false, false, false, false, false, false, false, true, true, true, true, true, true, true, true, true, false, false, false, false, false, false, false, false, false, false, false, false, false, false, false, false, false, false, false, false, false, false, false, false, false, false, false, false, false, false, false, false, false, false, false, false, false, false, false, false, false, false, false, false, false, false, false, false, false, false, false, false, false, false, false, false, false, false, false, false, false, false, false, false, false, false, false, false, false]

def mk_spec_l02Edges_1_1 : List Bool := [true, false, true, true, true, false, false, false, false, false, false, false, false, true, true, true, true, true, true, true, true, true, false, false, false, false, false, false, false, false, false, false, false, false, false, false, false, false, false, false, false, false, false, false, false, false, false, false, false, false, false, false, false, false, false, false, false, false, false, false, false, false, false, false, false, false, false, false, false, false, false, false, false, false, false, false, false, false, false, false, false, false, false, false, false, false, false, false, false, false, false]

theorem lp_spec_l02Edges_1 (m_0 : GMesh) (hp0 : m_0.Places.length ≤ 1073741824) (hp1 : m_0.Triangles.length ≤ 1073741824) (hp2 : ∀ t ∈ m_0.Triangles, t.length ≤ 1073741824) (hp3 : OkE m_0.Places.length m_0.Triangles) : ∀ (k : Nat) (i_l0 : Int) (r0_l1 : (List Bool)) (hv_spec_l02Edges_1_0 : 0 ≤ i_l0) (hv_spec_l02Edges_1_1 : r0_l1.length = (IntKind.wrap .i64 ((m_0.Places.length : Int) * (m_0.Places.length : Int))).toNat) (hk : ((m_0.Triangles.length : Int) - i_l0).toNat < k), Lp prog 0 (sub (bodyOf f73) [1, 1, 1, 0, 1, 0, 0]) (hd_spec_l02Edges_1 m_0 i_l0 r0_l1) (ls_spec_l02Edges_1 m_0 (lo_spec_l02Edges_1 m_0 k i_l0 r0_l1)).1 (ls_spec_l02Edges_1 m_0 (lo_spec_l02Edges_1 m_0 k i_l0 r0_l1)).2 := by
 intro k
 induction k with
 | zero => intro i_l0 r0_l1 hv_spec_l02Edges_1_0 hv_spec_l02Edges_1_1 hk; exact absurd hk (Nat.not_lt_zero _)
 | succ k ih =>
  intro i_l0 r0_l1 hv_spec_l02Edges_1_0 hv_spec_l02Edges_1_1 hk
  have p {a C} (s : Scr a C) := sZ (cL (cI .i64)) m_0.Triangles <| s
  cases h_0 : (decide (i_l0 < (m_0.Triangles.length : Int))) with
  | true =>
   have gh_0 := of_decide_eq_true h_0
   have y_0 : (0 : Int) ≤ i_l0 := by clear p; exact (by first | assumption | omega)
   have y_1 : i_l0 < (m_0.Triangles.length : Int) := by clear p; exact (by first | assumption | omega)
   have y_2 : (-9223372036854775808 : Int) ≤ (i_l0 + 1) := by clear p; exact (by first | assumption | omega)
   have y_3 : (i_l0 + 1) ≤ (9223372036854775807 : Int) := by clear p; exact (by first | assumption | omega)
   have e : lo_spec_l02Edges_1 m_0 (k + 1) i_l0 r0_l1 = (lo_spec_l02Edges_1 m_0 k (i_l0 + 1) (lr_spec_l02Edges_2_0 m_0 i_l0 r0_l1)) := by simp only [lo_spec_l02Edges_1, h_0, cond_true]
   rw [e]
   exact nextR E0Ok hMixed [] mk_spec_l02Edges_1_0 [0] (ih (i_l0 + 1) (lr_spec_l02Edges_2_0 m_0 i_l0 r0_l1) (show 0 ≤ (i_l0 + 1) from (by first | assumption | omega)) (show (lr_spec_l02Edges_2_0 m_0 i_l0 r0_l1).length = (IntKind.wrap .i64 ((m_0.Places.length : Int) * (m_0.Places.length : Int))).toNat from (by first | assumption | omega | (first | (have q := OkE.at (by assumption) hv_spec_l02Edges_1_0 (of_decide_eq_true (by assumption)) hv_spec_l02Edges_2_0 (of_decide_eq_true (by assumption)); have q2 := ix2F q.2.2.2.2.2.1 (min_bd q.2.2.2.1 q.2.2.2.2.1).1 (min_bd q.2.2.2.1 q.2.2.2.2.1).2 (max_bd q.2.2.2.1 q.2.2.2.2.1).1 (max_bd q.2.2.2.1 q.2.2.2.2.1).2; unfold nd_spec_l02Edges_0 nd_spec_l02Edges_1; omega) | (have q := OkE.at (by assumption) hv_spec_l02Edges_1_0 (of_decide_eq_true (by assumption)) hv_spec_l02Edges_2_0 (of_decide_eq_true (by assumption)); omega) | (have := hp3.1; have g4 := of_decide_eq_true hf_spec_l02Edges_4_0; first | omega | (have q2 := ix2F (n := (m_0.Places.length : Int)) (a := a_l0) (b := b_l0) (by omega) (by omega) (by omega) (by omega) (by omega); first | omega | (simp only [len_lr_spec_l02Edges_1_1_0, List.length_replicate]; omega)) | (simp only [List.length_append, List.length_cons, List.length_nil]; omega)) | (have := hp3.1; have g4 := of_decide_eq_true h_0; have q := lo4_len m_0 a_l0 r1_l1 (((m_0.Places.length : Int) - (a_l0 + 1)).toNat + 1) (a_l0 + 1) r1_l1; unfold lr_spec_l02Edges_4_2; omega) | (have q2 := ixN hp3.1; omega)) | (simp_all <;> omega))) (by first | assumption | omega)) (p (sB h_0 <| sG (cL (cI .i64)) m_0.Triangles i_l0 y_0 y_1 <| sL mk_spec_l02Edges_2_0 1 (lp_val (ls_spec_l02Edges_2 m_0 i_l0 r0_l1) (x := (lr_spec_l02Edges_2_0 m_0 i_l0 r0_l1)) (lp_spec_l02Edges_2 m_0 i_l0 r0_l1 hp0 hp1 hp2 hp3 hv_spec_l02Edges_1_0 hv_spec_l02Edges_1_1 h_0 (((3 : Int) - 0).toNat + 1) 0 r0_l1 (show 0 ≤ 0 from (by first | omega | simp)) (show r0_l1.length = r0_l1.length from (by first | omega | simp)) (Nat.lt_succ_self _)) rfl) <| sI (i_l0 + 1) y_2 y_3 <| sN)) (by kernel_rfl)
  | false =>
   have gh_0 := of_decide_eq_false h_0
   have e : lo_spec_l02Edges_1 m_0 (k + 1) i_l0 r0_l1 = r0_l1 := by simp only [lo_spec_l02Edges_1, h_0, cond_false]
   rw [e]
   exact outR (e := (.exit 0)) E0Ok hMixed [] mk_spec_l02Edges_1_1 [0] (p (sB h_0 <| sN)) (by kernel_rfl) (by intro h; cases h)

theorem ln_spec_l02Edges_1_0 (m_0 : GMesh) : ∀ (k : Nat) (i_l0 : Int) (r0_l1 : (List Bool)) (hk : ((m_0.Triangles.length : Int) - i_l0).toNat < k), (lo_spec_l02Edges_1 m_0 k i_l0 r0_l1).length = r0_l1.length := by
  intro k
  induction k with
  | zero => intro i_l0 r0_l1 hk; exact absurd hk (Nat.not_lt_zero _)
  | succ k ih =>
    intro i_l0 r0_l1 hk
    cases h_0 : (decide (i_l0 < (m_0.Triangles.length : Int))) with
    | true =>
      have e : lo_spec_l02Edges_1 m_0 (k + 1) i_l0 r0_l1 = (lo_spec_l02Edges_1 m_0 k (i_l0 + 1) (lr_spec_l02Edges_2_0 m_0 i_l0 r0_l1)) := by simp only [lo_spec_l02Edges_1, h_0, cond_true]
      rw [e, ih (i_l0 + 1) (lr_spec_l02Edges_2_0 m_0 i_l0 r0_l1) (by first | assumption | omega | (first | (have q := OkE.at (by assumption) hv_spec_l02Edges_1_0 (of_decide_eq_true (by assumption)) hv_spec_l02Edges_2_0 (of_decide_eq_true (by assumption)); have q2 := ix2F q.2.2.2.2.2.1 (min_bd q.2.2.2.1 q.2.2.2.2.1).1 (min_bd q.2.2.2.1 q.2.2.2.2.1).2 (max_bd q.2.2.2.1 q.2.2.2.2.1).1 (max_bd q.2.2.2.1 q.2.2.2.2.1).2; unfold nd_spec_l02Edges_0 nd_spec_l02Edges_1; omega) | (have q := OkE.at (by assumption) hv_spec_l02Edges_1_0 (of_decide_eq_true (by assumption)) hv_spec_l02Edges_2_0 (of_decide_eq_true (by assumption)); omega) | (have := hp3.1; have g4 := of_decide_eq_true hf_spec_l02Edges_4_0; first | omega | (have q2 := ix2F (n := (m_0.Places.length : Int)) (a := a_l0) (b := b_l0) (by omega) (by omega) (by omega) (by omega) (by omega); first | omega | (simp only [len_lr_spec_l02Edges_1_1_0, List.length_replicate]; omega)) | (simp only [List.length_append, List.length_cons, List.length_nil]; omega)) | (have := hp3.1; have g4 := of_decide_eq_true h_0; have q := lo4_len m_0 a_l0 r1_l1 (((m_0.Places.length : Int) - (a_l0 + 1)).toNat + 1) (a_l0 + 1) r1_l1; unfold lr_spec_l02Edges_4_2; omega) | (have q2 := ixN hp3.1; omega)) | (simp_all <;> omega))]; simp
    | false =>
      have e : lo_spec_l02Edges_1 m_0 (k + 1) i_l0 r0_l1 = r0_l1 := by simp only [lo_spec_l02Edges_1, h_0, cond_false]
      first | (rw [e]; done) | (rw [e]; rfl)

def lr_spec_l02Edges_1_1 (m_0 : GMesh) : (List Bool) := (lo_spec_l02Edges_1 m_0 (((m_0.Triangles.length : Int) - 0).toNat + 1) 0 (List.replicate (IntKind.wrap .i64 ((m_0.Places.length : Int) * (m_0.Places.length : Int))).toNat false))

@[simp] theorem len_lr_spec_l02Edges_1_1_0 (m_0 : GMesh) : (lr_spec_l02Edges_1_1 m_0).length = ((List.replicate (IntKind.wrap .i64 ((m_0.Places.length : Int) * (m_0.Places.length : Int))).toNat false) : (List Bool)).length := ln_spec_l02Edges_1_0 m_0 (((m_0.Triangles.length : Int) - 0).toNat + 1) 0 (List.replicate (IntKind.wrap .i64 ((m_0.Places.length : Int) * (m_0.Places.length : Int))).toNat false) (by first | exact Nat.lt_succ_self _ | simp)

def lo_spec_l02Edges_4 (m_0 : GMesh) (a_l0 : Int) (r1_l1 : (List (List Int))) : Nat → Int → (List (List Int)) → (List (List Int))
  | 0, _, _ => default
  | k + 1, b_l0, r1_l1_1 => (cond (decide (b_l0 < (m_0.Places.length : Int)))
    (cond ((lr_spec_l02Edges_1_1 m_0).getD ((IntKind.wrap .i64 ((IntKind.wrap .i64 (a_l0 * (m_0.Places.length : Int))) + b_l0)).toNat) default)
      (lo_spec_l02Edges_4 m_0 a_l0 r1_l1 k (b_l0 + 1) (r1_l1_1 ++ [[a_l0, b_l0]]))
      (lo_spec_l02Edges_4 m_0 a_l0 r1_l1 k (b_l0 + 1) r1_l1_1))
    r1_l1_1)

def ls_spec_l02Edges_4 (m_0 : GMesh) (a_l0 : Int) (r1_l1 : (List (List Int))) (r : (List (List Int))) : Ex × St := ((.exit 6), ⟨[.ref (GMesh.cells m_0) 0, .any, .nils, .i .i64 (m_0.Places.length : Int), .own 0, .any, .any, .any, .any, .any, .own 1, .i .i64 a_l0, .any, .ref (GMesh.cells m_0) 0, .ref (GMesh.cells m_0) 0, .ref (GMesh.cells m_0) 0, .sl (m_0.Places.map GVector.cells), .i .i64 (m_0.Places.length : Int), .i .i64 (m_0.Places.length : Int), .i .i64 (m_0.Places.length : Int), .i .i64 (IntKind.wrap .i64 ((m_0.Places.length : Int) * (m_0.Places.length : Int))), .own 0, .any, .any, .any, .any, .any, .any, .any, .any, .any, .any, .any, .any, .any, .any, .any, .any, .any, .any, .any, .any, .any, .any, .any, .any, .any, .any, .any, .any, .any, .any, .any, .any, .any, .any, .any, .any, .any, .any, .any, .any, .any, .any, .i .i64 a_l0, .i .i64 (m_0.Places.length : Int), .b (decide (a_l0 < (m_0.Places.length : Int))), .any, .any, .i .i64 a_l0, .i .i64 (a_l0 + 1), .any, .any, .any, .any, .any, .any, .any, .any, .any, .any, .any, .any, .any, .any, .any, .any, .any, .any, .any, .any], [.vec 4 1 ((lr_spec_l02Edges_1_1 m_0).map cB) false, .nest 52 (r.map fun l => l.map (cI .i64)) false]⟩)

def hd_spec_l02Edges_4 (m_0 : GMesh) (a_l0 : Int) (r1_l1 : (List (List Int))) (b_l0 : Int) (r1_l1_1 : (List (List Int))) : St := ⟨[.ref (GMesh.cells m_0) 0, .any, .nils, .i .i64 (m_0.Places.length : Int), .own 0, .any, .any, .any, .any, .any, .own 1, .i .i64 a_l0, .i .i64 b_l0, .ref (GMesh.cells m_0) 0, .ref (GMesh.cells m_0) 0, .ref (GMesh.cells m_0) 0, .sl (m_0.Places.map GVector.cells), .i .i64 (m_0.Places.length : Int), .i .i64 (m_0.Places.length : Int), .i .i64 (m_0.Places.length : Int), .i .i64 (IntKind.wrap .i64 ((m_0.Places.length : Int) * (m_0.Places.length : Int))), .own 0, .any, .any, .any, .any, .any, .any, .any, .any, .any, .any, .any, .any, .any, .any, .any, .any, .any, .any, .any, .any, .any, .any, .any, .any, .any, .any, .any, .any, .any, .any, .any, .any, .any, .any, .any, .any, .any, .any, .any, .any, .any, .any, .i .i64 a_l0, .i .i64 (m_0.Places.length : Int), .b (decide (a_l0 < (m_0.Places.length : Int))), .any, .any, .i .i64 a_l0, .i .i64 (a_l0 + 1), .any, .any, .any, .any, .any, .any, .any, .any, .any, .any, .any, .any, .any, .any, .any, .any, .any, .any, .any, .any], [.vec 4 1 ((lr_spec_l02Edges_1_1 m_0).map cB) false, .nest 52 (r1_l1_1.map fun l => l.map (cI .i64)) false]⟩

def mk_spec_l02Edges_4_0 : List Bool := [true, false, true, true, true, false, false, false, false, false, true, true, true, true, true, true, true, true, true, true, true, true, false, false, false, false, false, false, false, false, false, false, false, false, false, false, false, false, false, false, false, false, false, false, false, false, false, false, false, false, false, false, false, false, false, false, false, false, false, false, false, false, false, false, true, true, true, false, false, true, true, false, false, false, false, false, false, false, false, false, false, false, false, false, false, false, false, false, false, false, false]

def mk_spec_l02Edges_4_1 : List Bool := [true, false, true, true, true, false, false, false, false, false, true, true, false, true, true, true, true, true, true, true, true, true, false, false, false, false, false, false, false, false, false, false, false, false, false, false, false, false, false, false, false, false, false, false, false, false, false, false, false, false, false, false, false, false, false, false, false, false, false, false, false, false, false, false, true, true, true, false, false, true, true, false, false, false, false, false, false, false, false, false, false, false, false, false, false, false, false, false, false, false, false]

theorem lp_spec_l02Edges_4 (m_0 : GMesh) (a_l0 : Int) (r1_l1 : (List (List Int))) (hp0 : m_0.Places.length ≤ 1073741824) (hp1 : m_0.Triangles.length ≤ 1073741824) (hp2 : ∀ t ∈ m_0.Triangles, t.length ≤ 1073741824) (hp3 : OkE m_0.Places.length m_0.Triangles) (hv_spec_l02Edges_3_0 : 0 ≤ a_l0) (hv_spec_l02Edges_3_1 : (r1_l1.length : Int) ≤ 64 * a_l0) (hf_spec_l02Edges_4_0 : (decide (a_l0 < (m_0.Places.length : Int))) = true) : ∀ (k : Nat) (b_l0 : Int) (r1_l1_1 : (List (List Int))) (hv_spec_l02Edges_4_0 : a_l0 < b_l0) (hv_spec_l02Edges_4_1 : (r1_l1_1.length : Int) ≤ (r1_l1.length : Int) + b_l0) (hk : ((m_0.Places.length : Int) - b_l0).toNat < k), Lp prog 0 (sub (bodyOf f73) [1, 1, 1, 1, 1, 0, 1, 0, 0, 1, 0, 0, 1, 0, 0]) (hd_spec_l02Edges_4 m_0 a_l0 r1_l1 b_l0 r1_l1_1) (ls_spec_l02Edges_4 m_0 a_l0 r1_l1 (lo_spec_l02Edges_4 m_0 a_l0 r1_l1 k b_l0 r1_l1_1)).1 (ls_spec_l02Edges_4 m_0 a_l0 r1_l1 (lo_spec_l02Edges_4 m_0 a_l0 r1_l1 k b_l0 r1_l1_1)).2 := by
 intro k
 induction k with
 | zero => intro b_l0 r1_l1_1 hv_spec_l02Edges_4_0 hv_spec_l02Edges_4_1 hk; exact absurd hk (Nat.not_lt_zero _)
 | succ k ih =>
  intro b_l0 r1_l1_1 hv_spec_l02Edges_4_0 hv_spec_l02Edges_4_1 hk
  cases h__0 : (decide (b_l0 < (m_0.Places.length : Int))) with
  | true =>
   have gh__0 := of_decide_eq_true h__0
   have y__0 : (0 : Int) ≤ (IntKind.wrap .i64 ((IntKind.wrap .i64 (a_l0 * (m_0.Places.length : Int))) + b_l0)) := (by first | assumption | omega | (first | (have q := OkE.at (by assumption) hv_spec_l02Edges_1_0 (of_decide_eq_true (by assumption)) hv_spec_l02Edges_2_0 (of_decide_eq_true (by assumption)); have q2 := ix2F q.2.2.2.2.2.1 (min_bd q.2.2.2.1 q.2.2.2.2.1).1 (min_bd q.2.2.2.1 q.2.2.2.2.1).2 (max_bd q.2.2.2.1 q.2.2.2.2.1).1 (max_bd q.2.2.2.1 q.2.2.2.2.1).2; unfold nd_spec_l02Edges_0 nd_spec_l02Edges_1; omega) | (have q := OkE.at (by assumption) hv_spec_l02Edges_1_0 (of_decide_eq_true (by assumption)) hv_spec_l02Edges_2_0 (of_decide_eq_true (by assumption)); omega) | (have := hp3.1; have g4 := of_decide_eq_true hf_spec_l02Edges_4_0; first | omega | (have q2 := ix2F (n := (m_0.Places.length : Int)) (a := a_l0) (b := b_l0) (by omega) (by omega) (by omega) (by omega) (by omega); first | omega | (simp only [len_lr_spec_l02Edges_1_1_0, List.length_replicate]; omega)) | (simp only [List.length_append, List.length_cons, List.length_nil]; omega)) | (have := hp3.1; have g4 := of_decide_eq_true h_0; have q := lo4_len m_0 a_l0 r1_l1 (((m_0.Places.length : Int) - (a_l0 + 1)).toNat + 1) (a_l0 + 1) r1_l1; unfold lr_spec_l02Edges_4_2; omega) | (have q2 := ixN hp3.1; omega)) | (simp_all <;> omega))
   have y__1 : (IntKind.wrap .i64 ((IntKind.wrap .i64 (a_l0 * (m_0.Places.length : Int))) + b_l0)) < ((lr_spec_l02Edges_1_1 m_0).length : Int) := (by first | assumption | omega | (first | (have q := OkE.at (by assumption) hv_spec_l02Edges_1_0 (of_decide_eq_true (by assumption)) hv_spec_l02Edges_2_0 (of_decide_eq_true (by assumption)); have q2 := ix2F q.2.2.2.2.2.1 (min_bd q.2.2.2.1 q.2.2.2.2.1).1 (min_bd q.2.2.2.1 q.2.2.2.2.1).2 (max_bd q.2.2.2.1 q.2.2.2.2.1).1 (max_bd q.2.2.2.1 q.2.2.2.2.1).2; unfold nd_spec_l02Edges_0 nd_spec_l02Edges_1; omega) | (have q := OkE.at (by assumption) hv_spec_l02Edges_1_0 (of_decide_eq_true (by assumption)) hv_spec_l02Edges_2_0 (of_decide_eq_true (by assumption)); omega) | (have := hp3.1; have g4 := of_decide_eq_true hf_spec_l02Edges_4_0; first | omega | (have q2 := ix2F (n := (m_0.Places.length : Int)) (a := a_l0) (b := b_l0) (by omega) (by omega) (by omega) (by omega) (by omega); first | omega | (simp only [len_lr_spec_l02Edges_1_1_0, List.length_replicate]; omega)) | (simp only [List.length_append, List.length_cons, List.length_nil]; omega)) | (have := hp3.1; have g4 := of_decide_eq_true h_0; have q := lo4_len m_0 a_l0 r1_l1 (((m_0.Places.length : Int) - (a_l0 + 1)).toNat + 1) (a_l0 + 1) r1_l1; unfold lr_spec_l02Edges_4_2; omega) | (have q2 := ixN hp3.1; omega)) | (simp_all <;> omega))
   have y__2 : (IntKind.wrap .i64 ((IntKind.wrap .i64 (a_l0 * (m_0.Places.length : Int))) + b_l0)).toNat < (lr_spec_l02Edges_1_1 m_0).length := (by first | assumption | omega)
   have p {a C} (s : Scr a C) := sB h__0 <| sW .i64 (a_l0 * (m_0.Places.length : Int)) <| sW .i64 ((IntKind.wrap .i64 (a_l0 * (m_0.Places.length : Int))) + b_l0) <| sX cB (lr_spec_l02Edges_1_1 m_0) (IntKind.wrap .i64 ((IntKind.wrap .i64 (a_l0 * (m_0.Places.length : Int))) + b_l0)) y__0 y__1 <| sV cB (lr_spec_l02Edges_1_1 m_0) ((IntKind.wrap .i64 ((IntKind.wrap .i64 (a_l0 * (m_0.Places.length : Int))) + b_l0)).toNat) y__2 <| s
   cases h__1 : ((lr_spec_l02Edges_1_1 m_0).getD ((IntKind.wrap .i64 ((IntKind.wrap .i64 (a_l0 * (m_0.Places.length : Int))) + b_l0)).toNat) default) with
   | true =>
    have y__3 : r1_l1_1.length + [[a_l0, b_l0]].length ≤ 1073741824 := by clear p; exact (by first | assumption | omega | (first | (have q := OkE.at (by assumption) hv_spec_l02Edges_1_0 (of_decide_eq_true (by assumption)) hv_spec_l02Edges_2_0 (of_decide_eq_true (by assumption)); have q2 := ix2F q.2.2.2.2.2.1 (min_bd q.2.2.2.1 q.2.2.2.2.1).1 (min_bd q.2.2.2.1 q.2.2.2.2.1).2 (max_bd q.2.2.2.1 q.2.2.2.2.1).1 (max_bd q.2.2.2.1 q.2.2.2.2.1).2; unfold nd_spec_l02Edges_0 nd_spec_l02Edges_1; omega) | (have q := OkE.at (by assumption) hv_spec_l02Edges_1_0 (of_decide_eq_true (by assumption)) hv_spec_l02Edges_2_0 (of_decide_eq_true (by assumption)); omega) | (have := hp3.1; have g4 := of_decide_eq_true hf_spec_l02Edges_4_0; first | omega | (have q2 := ix2F (n := (m_0.Places.length : Int)) (a := a_l0) (b := b_l0) (by omega) (by omega) (by omega) (by omega) (by omega); first | omega | (simp only [len_lr_spec_l02Edges_1_1_0, List.length_replicate]; omega)) | (simp only [List.length_append, List.length_cons, List.length_nil]; omega)) | (have := hp3.1; have g4 := of_decide_eq_true h_0; have q := lo4_len m_0 a_l0 r1_l1 (((m_0.Places.length : Int) - (a_l0 + 1)).toNat + 1) (a_l0 + 1) r1_l1; unfold lr_spec_l02Edges_4_2; omega) | (have q2 := ixN hp3.1; omega)) | (simp_all <;> omega))
    have y__4 : (-9223372036854775808 : Int) ≤ (b_l0 + 1) := by clear p; exact (by first | assumption | omega)
    have y__5 : (b_l0 + 1) ≤ (9223372036854775807 : Int) := by clear p; exact (by first | assumption | omega)
    have e : lo_spec_l02Edges_4 m_0 a_l0 r1_l1 (k + 1) b_l0 r1_l1_1 = (lo_spec_l02Edges_4 m_0 a_l0 r1_l1 k (b_l0 + 1) (r1_l1_1 ++ [[a_l0, b_l0]])) := by simp only [lo_spec_l02Edges_4, h__0, h__1, cond_true]
    rw [e]
    exact nextS E0Ok hMixed [] mk_spec_l02Edges_4_0 [0, 1] (⟨[.ref (GMesh.cells m_0) 0, .any, .nils, .i .i64 (m_0.Places.length : Int), .own 0, .any, .any, .any, .any, .any, .own 1, .i .i64 a_l0, .i .i64 (b_l0 + 1), .ref (GMesh.cells m_0) 0, .ref (GMesh.cells m_0) 0, .ref (GMesh.cells m_0) 0, .sl (m_0.Places.map GVector.cells), .i .i64 (m_0.Places.length : Int), .i .i64 (m_0.Places.length : Int), .i .i64 (m_0.Places.length : Int), .i .i64 (IntKind.wrap .i64 ((m_0.Places.length : Int) * (m_0.Places.length : Int))), .own 0, .any, .any, .any, .any, .any, .any, .any, .any, .any, .any, .any, .any, .any, .any, .any, .any, .any, .any, .any, .any, .any, .any, .any, .any, .any, .any, .any, .any, .any, .any, .any, .any, .any, .any, .any, .any, .any, .any, .any, .any, .any, .any, .i .i64 a_l0, .i .i64 (m_0.Places.length : Int), .b (decide (a_l0 < (m_0.Places.length : Int))), .any, .any, .i .i64 a_l0, .i .i64 (a_l0 + 1), .any, .any, .any, .any, .any, .any, .any, .any, .any, .any, .any, .any, .any, .any, .any, .any, .any, .any, .any, .any], [.vec 4 1 ((lr_spec_l02Edges_1_1 m_0).map cB) false, .nest 52 ((r1_l1_1.map fun l => l.map (cI .i64)) ++ [([[.i .i64 a_l0], [.i .i64 b_l0]] : List (List AV))]) false]⟩) (p (sB h__1 <| sC (show (r1_l1_1.map fun l => l.map (cI .i64)).length + [([[.i .i64 a_l0], [.i .i64 b_l0]] : List (List AV))].length ≤ 1073741824 from (by simpa using y__3)) <| sI (b_l0 + 1) y__4 y__5 <| sN)) (by kernel_rfl) (show _ = ⟨[.ref (GMesh.cells m_0) 0, .any, .nils, .i .i64 (m_0.Places.length : Int), .own 0, .any, .any, .any, .any, .any, .own 1, .i .i64 a_l0, .i .i64 (b_l0 + 1), .ref (GMesh.cells m_0) 0, .ref (GMesh.cells m_0) 0, .ref (GMesh.cells m_0) 0, .sl (m_0.Places.map GVector.cells), .i .i64 (m_0.Places.length : Int), .i .i64 (m_0.Places.length : Int), .i .i64 (m_0.Places.length : Int), .i .i64 (IntKind.wrap .i64 ((m_0.Places.length : Int) * (m_0.Places.length : Int))), .own 0, .any, .any, .any, .any, .any, .any, .any, .any, .any, .any, .any, .any, .any, .any, .any, .any, .any, .any, .any, .any, .any, .any, .any, .any, .any, .any, .any, .any, .any, .any, .any, .any, .any, .any, .any, .any, .any, .any, .any, .any, .any, .any, .i .i64 a_l0, .i .i64 (m_0.Places.length : Int), .b (decide (a_l0 < (m_0.Places.length : Int))), .any, .any, .i .i64 a_l0, .i .i64 (a_l0 + 1), .any, .any, .any, .any, .any, .any, .any, .any, .any, .any, .any, .any, .any, .any, .any, .any, .any, .any, .any, .any], [.vec 4 1 ((lr_spec_l02Edges_1_1 m_0).map cB) false, .nest 52 ((r1_l1_1 ++ [[a_l0, b_l0]]).map fun l => l.map (cI .i64)) false]⟩ from (by simp [cL, cI, cB])) (ih (b_l0 + 1) (r1_l1_1 ++ [[a_l0, b_l0]]) (show a_l0 < (b_l0 + 1) from (by first | assumption | omega)) (show ((r1_l1_1 ++ [[a_l0, b_l0]]).length : Int) ≤ (r1_l1.length : Int) + (b_l0 + 1) from (by first | assumption | omega | (first | (have q := OkE.at (by assumption) hv_spec_l02Edges_1_0 (of_decide_eq_true (by assumption)) hv_spec_l02Edges_2_0 (of_decide_eq_true (by assumption)); have q2 := ix2F q.2.2.2.2.2.1 (min_bd q.2.2.2.1 q.2.2.2.2.1).1 (min_bd q.2.2.2.1 q.2.2.2.2.1).2 (max_bd q.2.2.2.1 q.2.2.2.2.1).1 (max_bd q.2.2.2.1 q.2.2.2.2.1).2; unfold nd_spec_l02Edges_0 nd_spec_l02Edges_1; omega) | (have q := OkE.at (by assumption) hv_spec_l02Edges_1_0 (of_decide_eq_true (by assumption)) hv_spec_l02Edges_2_0 (of_decide_eq_true (by assumption)); omega) | (have := hp3.1; have g4 := of_decide_eq_true hf_spec_l02Edges_4_0; first | omega | (have q2 := ix2F (n := (m_0.Places.length : Int)) (a := a_l0) (b := b_l0) (by omega) (by omega) (by omega) (by omega) (by omega); first | omega | (simp only [len_lr_spec_l02Edges_1_1_0, List.length_replicate]; omega)) | (simp only [List.length_append, List.length_cons, List.length_nil]; omega)) | (have := hp3.1; have g4 := of_decide_eq_true h_0; have q := lo4_len m_0 a_l0 r1_l1 (((m_0.Places.length : Int) - (a_l0 + 1)).toNat + 1) (a_l0 + 1) r1_l1; unfold lr_spec_l02Edges_4_2; omega) | (have q2 := ixN hp3.1; omega)) | (simp_all <;> omega))) (by first | assumption | omega))
   | false =>
    have y__3 : (-9223372036854775808 : Int) ≤ (b_l0 + 1) := by clear p; exact (by first | assumption | omega)
    have y__4 : (b_l0 + 1) ≤ (9223372036854775807 : Int) := by clear p; exact (by first | assumption | omega)
    have e : lo_spec_l02Edges_4 m_0 a_l0 r1_l1 (k + 1) b_l0 r1_l1_1 = (lo_spec_l02Edges_4 m_0 a_l0 r1_l1 k (b_l0 + 1) r1_l1_1) := by simp only [lo_spec_l02Edges_4, h__0, h__1, cond_true, cond_false]
    rw [e]
    exact nextR E0Ok hMixed [] mk_spec_l02Edges_4_0 [0, 1] (ih (b_l0 + 1) r1_l1_1 (show a_l0 < (b_l0 + 1) from (by first | assumption | omega)) (show (r1_l1_1.length : Int) ≤ (r1_l1.length : Int) + (b_l0 + 1) from (by first | assumption | omega)) (by first | assumption | omega)) (p (sB h__1 <| sI (b_l0 + 1) y__3 y__4 <| sN)) (by kernel_rfl)
  | false =>
   have gh__0 := of_decide_eq_false h__0
   have e : lo_spec_l02Edges_4 m_0 a_l0 r1_l1 (k + 1) b_l0 r1_l1_1 = r1_l1_1 := by simp only [lo_spec_l02Edges_4, h__0, cond_false]
   rw [e]
   exact outR (e := (.exit 6)) E0Ok hMixed [] mk_spec_l02Edges_4_1 [0, 1] (sB h__0 <| sN) (by kernel_rfl) (by intro h; cases h)

def lr_spec_l02Edges_4_2 (m_0 : GMesh) (a_l0 : Int) (r1_l1 : (List (List Int))) : (List (List Int)) := (lo_spec_l02Edges_4 m_0 a_l0 r1_l1 (((m_0.Places.length : Int) - (a_l0 + 1)).toNat + 1) (a_l0 + 1) r1_l1)

theorem lo4_len (m : GMesh) (a : Int) (r1 : List (List Int)) : ∀ (k : Nat) (b : Int) (r : List (List Int)), (lo_spec_l02Edges_4 m a r1 k b r).length ≤ r.length + k := by
  intro k
  induction k with
  | zero => intro b r; exact Nat.zero_le _
  | succ k ih =>
    intro b r
    rw [lo_spec_l02Edges_4]
    cases decide (b < (m.Places.length : Int)) with
    | false => rw [cond_false]; omega
    | true =>
      rw [cond_true]
      cases ((lr_spec_l02Edges_1_1 m).getD ((IntKind.wrap .i64 ((IntKind.wrap .i64 (a * (m.Places.length : Int))) + b)).toNat) default) with
      | true => rw [cond_true]; have := ih (b + 1) (r ++ [[a, b]]); simp only [List.length_append, List.length_cons, List.length_nil] at this; omega
      | false => rw [cond_false]; have := ih (b + 1) r; omega

def lo_spec_l02Edges_3 (m_0 : GMesh) : Nat → Int → (List (List Int)) → (List (List Int))
  | 0, _, _ => default
  | k + 1, a_l0, r1_l1 => (cond (decide (a_l0 < (m_0.Places.length : Int)))
    (lo_spec_l02Edges_3 m_0 k (a_l0 + 1) (lr_spec_l02Edges_4_2 m_0 a_l0 r1_l1))
    r1_l1)

def ls_spec_l02Edges_3 (m_0 : GMesh) (r : (List (List Int))) : Ex × St := ((.exit 4), ⟨[.ref (GMesh.cells m_0) 0, .any, .nils, .i .i64 (m_0.Places.length : Int), .own 0, .any, .any, .any, .any, .any, .own 1, .any, .any, .ref (GMesh.cells m_0) 0, .ref (GMesh.cells m_0) 0, .ref (GMesh.cells m_0) 0, .sl (m_0.Places.map GVector.cells), .i .i64 (m_0.Places.length : Int), .i .i64 (m_0.Places.length : Int), .i .i64 (m_0.Places.length : Int), .i .i64 (IntKind.wrap .i64 ((m_0.Places.length : Int) * (m_0.Places.length : Int))), .own 0, .any, .any, .any, .any, .any, .any, .any, .any, .any, .any, .any, .any, .any, .any, .any, .any, .any, .any, .any, .any, .any, .any, .any, .any, .any, .any, .any, .any, .any, .any, .any, .any, .any, .any, .any, .any, .any, .any, .any, .any, .any, .any, .any, .any, .any, .any, .any, .any, .any, .any, .any, .any, .any, .any, .any, .any, .any, .any, .any, .any, .any, .any, .any, .any, .any, .any, .any, .any, .any], [.vec 4 1 ((lr_spec_l02Edges_1_1 m_0).map cB) false, .nest 52 (r.map fun l => l.map (cI .i64)) false]⟩)

def hd_spec_l02Edges_3 (m_0 : GMesh) (a_l0 : Int) (r1_l1 : (List (List Int))) : St := ⟨[.ref (GMesh.cells m_0) 0, .any, .nils, .i .i64 (m_0.Places.length : Int), .own 0, .any, .any, .any, .any, .any, .own 1, .i .i64 a_l0, .any, .ref (GMesh.cells m_0) 0, .ref (GMesh.cells m_0) 0, .ref (GMesh.cells m_0) 0, .sl (m_0.Places.map GVector.cells), .i .i64 (m_0.Places.length : Int), .i .i64 (m_0.Places.length : Int), .i .i64 (m_0.Places.length : Int), .i .i64 (IntKind.wrap .i64 ((m_0.Places.length : Int) * (m_0.Places.length : Int))), .own 0, .any, .any, .any, .any, .any, .any, .any, .any, .any, .any, .any, .any, .any, .any, .any, .any, .any, .any, .any, .any, .any, .any, .any, .any, .any, .any, .any, .any, .any, .any, .any, .any, .any, .any, .any, .any, .any, .any, .any, .any, .any, .any, .any, .any, .any, .any, .any, .any, .any, .any, .any, .any, .any, .any, .any, .any, .any, .any, .any, .any, .any, .any, .any, .any, .any, .any, .any, .any, .any], [.vec 4 1 ((lr_spec_l02Edges_1_1 m_0).map cB) false, .nest 52 (r1_l1.map fun l => l.map (cI .i64)) false]⟩

def mk_spec_l02Edges_3_0 : List Bool := [true, false, true, true, true, false, false, false, false, false, true, true, false, true, true, true, true, true, true, true, true, true, false, false, false, false, false, false, false, false, false, false, false, false, false, false, false, false, false, false, false, false, false, false, false, false, false, false, false, false, false, false, false, false, false, false, false, false, false, false, false, false, false, false, false, false, false, false, false, false, false, false, false, false, false, false, false, false, false, false, false, false, false, false, false, false, false, false, false, false, false]

def mk_spec_l02Edges_3_1 : List Bool := [true, false, true, true, true, false, false, false, false, false, true, false, false, true, true, true, true, true, true, true, true, true, false, false, false, false, false, false, false, false, false, false, false, false, false, false, false, false, false, false, false, false, false, false, false, false, false, false, false, false, false, false, false, false, false, false, false, false, false, false, false, false, false, false, false, false, false, false, false, false, false, false, false, false, false, false, false, false, false, false, false, false, false, false, false, false, false, false, false, false, false]

theorem lp_spec_l02Edges_3 (m_0 : GMesh) (hp0 : m_0.Places.length ≤ 1073741824) (hp1 : m_0.Triangles.length ≤ 1073741824) (hp2 : ∀ t ∈ m_0.Triangles, t.length ≤ 1073741824) (hp3 : OkE m_0.Places.length m_0.Triangles) : ∀ (k : Nat) (a_l0 : Int) (r1_l1 : (List (List Int))) (hv_spec_l02Edges_3_0 : 0 ≤ a_l0) (hv_spec_l02Edges_3_1 : (r1_l1.length : Int) ≤ 64 * a_l0) (hk : ((m_0.Places.length : Int) - a_l0).toNat < k), Lp prog 0 (sub (bodyOf f73) [1, 1, 1, 1, 1, 0, 1, 0, 0]) (hd_spec_l02Edges_3 m_0 a_l0 r1_l1) (ls_spec_l02Edges_3 m_0 (lo_spec_l02Edges_3 m_0 k a_l0 r1_l1)).1 (ls_spec_l02Edges_3 m_0 (lo_spec_l02Edges_3 m_0 k a_l0 r1_l1)).2 := by
 intro k
 induction k with
 | zero => intro a_l0 r1_l1 hv_spec_l02Edges_3_0 hv_spec_l02Edges_3_1 hk; exact absurd hk (Nat.not_lt_zero _)
 | succ k ih =>
  intro a_l0 r1_l1 hv_spec_l02Edges_3_0 hv_spec_l02Edges_3_1 hk
  cases h_0 : (decide (a_l0 < (m_0.Places.length : Int))) with
  | true =>
   have gh_0 := of_decide_eq_true h_0
   have y_0 : (-9223372036854775808 : Int) ≤ (a_l0 + 1) := (by first | assumption | omega)
   have y_1 : (a_l0 + 1) ≤ (9223372036854775807 : Int) := (by first | assumption | omega)
   have e : lo_spec_l02Edges_3 m_0 (k + 1) a_l0 r1_l1 = (lo_spec_l02Edges_3 m_0 k (a_l0 + 1) (lr_spec_l02Edges_4_2 m_0 a_l0 r1_l1)) := by simp only [lo_spec_l02Edges_3, h_0, cond_true]
   rw [e]
   exact nextR E0Ok hMixed [] mk_spec_l02Edges_3_0 [0, 1] (ih (a_l0 + 1) (lr_spec_l02Edges_4_2 m_0 a_l0 r1_l1) (show 0 ≤ (a_l0 + 1) from (by first | assumption | omega)) (show ((lr_spec_l02Edges_4_2 m_0 a_l0 r1_l1).length : Int) ≤ 64 * (a_l0 + 1) from (by first | assumption | omega | (first | (have q := OkE.at (by assumption) hv_spec_l02Edges_1_0 (of_decide_eq_true (by assumption)) hv_spec_l02Edges_2_0 (of_decide_eq_true (by assumption)); have q2 := ix2F q.2.2.2.2.2.1 (min_bd q.2.2.2.1 q.2.2.2.2.1).1 (min_bd q.2.2.2.1 q.2.2.2.2.1).2 (max_bd q.2.2.2.1 q.2.2.2.2.1).1 (max_bd q.2.2.2.1 q.2.2.2.2.1).2; unfold nd_spec_l02Edges_0 nd_spec_l02Edges_1; omega) | (have q := OkE.at (by assumption) hv_spec_l02Edges_1_0 (of_decide_eq_true (by assumption)) hv_spec_l02Edges_2_0 (of_decide_eq_true (by assumption)); omega) | (have := hp3.1; have g4 := of_decide_eq_true hf_spec_l02Edges_4_0; first | omega | (have q2 := ix2F (n := (m_0.Places.length : Int)) (a := a_l0) (b := b_l0) (by omega) (by omega) (by omega) (by omega) (by omega); first | omega | (simp only [len_lr_spec_l02Edges_1_1_0, List.length_replicate]; omega)) | (simp only [List.length_append, List.length_cons, List.length_nil]; omega)) | (have := hp3.1; have g4 := of_decide_eq_true h_0; have q := lo4_len m_0 a_l0 r1_l1 (((m_0.Places.length : Int) - (a_l0 + 1)).toNat + 1) (a_l0 + 1) r1_l1; unfold lr_spec_l02Edges_4_2; omega) | (have q2 := ixN hp3.1; omega)) | (simp_all <;> omega))) (by first | assumption | omega)) (sB h_0 <| sI (a_l0 + 1) y_0 y_1 <| sL mk_spec_l02Edges_4_0 2 (lp_val (ls_spec_l02Edges_4 m_0 a_l0 r1_l1) (x := (lr_spec_l02Edges_4_2 m_0 a_l0 r1_l1)) (lp_spec_l02Edges_4 m_0 a_l0 r1_l1 hp0 hp1 hp2 hp3 hv_spec_l02Edges_3_0 hv_spec_l02Edges_3_1 h_0 (((m_0.Places.length : Int) - (a_l0 + 1)).toNat + 1) (a_l0 + 1) r1_l1 (show a_l0 < (a_l0 + 1) from (by first | omega | simp)) (show (r1_l1.length : Int) ≤ (r1_l1.length : Int) + (a_l0 + 1) from (by first | omega | simp)) (Nat.lt_succ_self _)) rfl) <| sI (a_l0 + 1) y_0 y_1 <| sN) (by kernel_rfl)
  | false =>
   have gh_0 := of_decide_eq_false h_0
   have e : lo_spec_l02Edges_3 m_0 (k + 1) a_l0 r1_l1 = r1_l1 := by simp only [lo_spec_l02Edges_3, h_0, cond_false]
   rw [e]
   exact outR (e := (.exit 4)) E0Ok hMixed [] mk_spec_l02Edges_3_1 [0, 1] (sB h_0 <| sN) (by kernel_rfl) (by intro h; cases h)

def lr_spec_l02Edges_3_3 (m_0 : GMesh) : (List (List Int)) := (lo_spec_l02Edges_3 m_0 (((m_0.Places.length : Int) - 0).toNat + 1) 0 ([] : List (List Int)))

def v_spec_l02Edges (m_0 : GMesh) : (List (List Int)) := (lr_spec_l02Edges_3_3 m_0)

theorem seen2_eq (m : GMesh) (i : Int) (r : List Bool) : lr_spec_l02Edges_2_0 m i r = ((r.set (IntKind.wrap .i64 (IntKind.wrap .i64 (v_spec_l00Min ((m.Triangles.getD i.toNat default).getD 0 default) ((m.Triangles.getD i.toNat default).getD 1 default) * (m.Places.length : Int)) + v_spec_l00Max ((m.Triangles.getD i.toNat default).getD 0 default) ((m.Triangles.getD i.toNat default).getD 1 default))).toNat true).set (IntKind.wrap .i64 (IntKind.wrap .i64 (v_spec_l00Min ((m.Triangles.getD i.toNat default).getD 1 default) ((m.Triangles.getD i.toNat default).getD 2 default) * (m.Places.length : Int)) + v_spec_l00Max ((m.Triangles.getD i.toNat default).getD 1 default) ((m.Triangles.getD i.toNat default).getD 2 default))).toNat true).set (IntKind.wrap .i64 (IntKind.wrap .i64 (v_spec_l00Min ((m.Triangles.getD i.toNat default).getD 2 default) ((m.Triangles.getD i.toNat default).getD 0 default) * (m.Places.length : Int)) + v_spec_l00Max ((m.Triangles.getD i.toNat default).getD 2 default) ((m.Triangles.getD i.toNat default).getD 0 default))).toNat true := by
  have one : ∀ (r0 : List Bool) (k : Nat) (x : Int) (s : List Bool), x < 3 → lo_spec_l02Edges_2 m i r0 (k + 1) x s = lo_spec_l02Edges_2 m i r0 k (x + 1) (s.set (IntKind.wrap .i64 (IntKind.wrap .i64 (nd_spec_l02Edges_0 m i x * (m.Places.length : Int)) + nd_spec_l02Edges_1 m i x)).toNat true) := by
    intro r0 k x s hx
    rw [lo_spec_l02Edges_2, decide_eq_true hx, cond_true]
  unfold lr_spec_l02Edges_2_0
  show lo_spec_l02Edges_2 m i r 4 0 r = _
  rw [one r 3 0 r (by omega), one r 2 (0 + 1) _ (by omega), one r 1 (0 + 1 + 1) _ (by omega), lo_spec_l02Edges_2]
  show cond (decide ((3 : Int) < 3)) _ _ = _
  rw [decide_eq_false (by omega), cond_false]
  rfl
theorem seen1_eq (m : GMesh) (ok : OkE m.Places.length m.Triangles) {a b : Int} (ha : 0 ≤ a) (hab : a < b) (hb : b < (m.Places.length : Int)) : ∀ (k : Nat) (i : Nat) (r : List Bool), i ≤ m.Triangles.length → ((m.Triangles.length : Int) - i).toNat < k → r.length = (IntKind.wrap .i64 ((m.Places.length : Int) * (m.Places.length : Int))).toNat →
    (lo_spec_l02Edges_1 m k i r).getD (IntKind.wrap .i64 (IntKind.wrap .i64 (a * (m.Places.length : Int)) + b)).toNat default = (r.getD (IntKind.wrap .i64 (IntKind.wrap .i64 (a * (m.Places.length : Int)) + b)).toNat default || (m.Triangles.drop i).any fun t => tHas t a b) := by
  intro k
  induction k with
  | zero => intro i r _ hk; exact absurd hk (Nat.not_lt_zero _)
  | succ k ih =>
    intro i r hle hk hr
    rw [lo_spec_l02Edges_1]
    by_cases hi : (i : Int) < (m.Triangles.length : Int)
    · have hn : i < m.Triangles.length := by omega
      rw [decide_eq_true hi, cond_true]
      have := ih (i + 1) (lr_spec_l02Edges_2_0 m i r) (by omega) (by omega) (by rw [len_lr_spec_l02Edges_2_0_0]; exact hr)
      rw [show ((i : Int) + 1) = ((i + 1 : Nat) : Int) from by omega, this, seen2_eq, List.drop_eq_getElem_cons hn, List.any_cons]
      have hg : m.Triangles.getD ((i : Nat) : Int).toNat default = m.Triangles[i] := by rw [show ((i : Nat) : Int).toNat = i from by omega, List.getD_eq_getElem?_getD, List.getElem?_eq_getElem hn]; rfl
      obtain ⟨x, y, z, ht, r1, r2, r3, n1, n2, n3⟩ := ok.2.2 _ (List.getElem_mem hn)
      have h64 : (m.Places.length : Int) ≤ 64 := by have := ok.1; omega
      rw [hg, ht]
      simp only [List.getD_cons_zero, List.getD_cons_succ]
      rw [seen_set h64 (mkE_minmax z x) (min_bd r3 r1) (max_bd r3 r1) ha hab hb (by simpa using hr), seen_set h64 (mkE_minmax y z) (min_bd r2 r3) (max_bd r2 r3) ha hab hb (by simpa using hr), seen_set h64 (mkE_minmax x y) (min_bd r1 r2) (max_bd r1 r2) ha hab hb hr]
      have hT := mem_tE n1 n2 n3 hab
      unfold tE at hT
      simp only [List.getD_cons_zero, List.getD_cons_succ, List.mem_cons, List.not_mem_nil, or_false] at hT
      generalize r.getD (IntKind.wrap .i64 (IntKind.wrap .i64 (a * (m.Places.length : Int)) + b)).toNat default = q
      generalize ((m.Triangles.drop (i + 1)).any fun t => tHas t a b) = q2
      have hB : tHas [x, y, z] a b = (decide ((⟨a, b⟩ : Gedge) = mkE x y) || (decide ((⟨a, b⟩ : Gedge) = mkE y z) || decide ((⟨a, b⟩ : Gedge) = mkE z x))) := by
        rw [Bool.eq_iff_iff, ← hT]; simp only [Bool.or_eq_true, decide_eq_true_eq]
      rw [hB]
      cases decide ((⟨a, b⟩ : Gedge) = mkE x y) <;> cases decide ((⟨a, b⟩ : Gedge) = mkE y z) <;> cases decide ((⟨a, b⟩ : Gedge) = mkE z x) <;> cases q <;> cases q2 <;> rfl
    · rw [decide_eq_false hi, cond_false, List.drop_eq_nil_of_le (by omega)]; simp
theorem seen_eq (m : GMesh) (ok : OkE m.Places.length m.Triangles) {a b : Int} (ha : 0 ≤ a) (hab : a < b) (hb : b < (m.Places.length : Int)) :
    (lr_spec_l02Edges_1_1 m).getD (IntKind.wrap .i64 (IntKind.wrap .i64 (a * (m.Places.length : Int)) + b)).toNat default = m.Triangles.any fun t => tHas t a b := by
  unfold lr_spec_l02Edges_1_1
  have := seen1_eq m ok ha hab hb (((m.Triangles.length : Int) - 0).toNat + 1) 0 (List.replicate (IntKind.wrap .i64 ((m.Places.length : Int) * (m.Places.length : Int))).toNat false) (Nat.zero_le _) (by omega) (by simp)
  rw [List.drop_zero] at this
  refine this.trans ?_
  rw [List.getD_eq_getElem?_getD, List.getElem?_replicate]
  split <;> simp
theorem l02Edges_eq (m : GMesh) (ok : OkE m.Places.length m.Triangles) : v_spec_l02Edges m = (edgL m.Places.length m.Triangles).map e2 := by
  rw [edgL_map]
  unfold v_spec_l02Edges lr_spec_l02Edges_3_3
  refine pair_loop (n := m.Places.length) (p := fun a b => m.Triangles.any fun t => tHas t a b) (g := fun a b => e2 ⟨a, b⟩) (lo := lo_spec_l02Edges_3 m) (li := lr_spec_l02Edges_4_2 m) (fun k a r => rfl) (fun a r ha => ?_) _ 0 (Nat.zero_le _) (by omega)
  unfold lr_spec_l02Edges_4_2
  have hf := filt_loop (n := (m.Places.length : Int)) (f := fun b => !((lr_spec_l02Edges_1_1 m).getD ((IntKind.wrap .i64 ((IntKind.wrap .i64 ((a : Int) * (m.Places.length : Int))) + b)).toNat) default)) (g := fun b => [(a : Int), b]) (lo := lo_spec_l02Edges_4 m a r) (fun k i r' => by
    rw [lo_spec_l02Edges_4]
    cases ((lr_spec_l02Edges_1_1 m).getD ((IntKind.wrap .i64 ((IntKind.wrap .i64 ((a : Int) * (m.Places.length : Int))) + i)).toNat) default) <;> rfl) (((m.Places.length : Int) - ((a : Int) + 1)).toNat + 1) ((a : Int) + 1) r (Nat.lt_succ_self _)
  rw [hf, show ((m.Places.length : Int) - ((a : Int) + 1)).toNat = m.Places.length - (a + 1) from by omega]
  congr 1
  have hfc : ((List.range (m.Places.length - (a + 1))).filter fun (j : Nat) => !(!((lr_spec_l02Edges_1_1 m).getD ((IntKind.wrap .i64 ((IntKind.wrap .i64 ((a : Int) * (m.Places.length : Int))) + ((a : Int) + 1 + (j : Int)))).toNat) default))) = (List.range (m.Places.length - (a + 1))).filter fun (j : Nat) => m.Triangles.any fun t => tHas t a ((a : Int) + 1 + j) := by
    refine List.filter_congr fun j hj => ?_
    rw [List.mem_range] at hj
    rw [Bool.not_not, seen_eq m ok (by omega) (by omega) (by omega)]
  rw [hfc]
  rfl
theorem l02Edges_len (m : GMesh) (ok : OkE m.Places.length m.Triangles) : (v_spec_l02Edges m).length ≤ 4096 := by
  rw [l02Edges_eq m ok, List.length_map]; exact edgL_len ok
theorem l02Edges_at (m : GMesh) (ok : OkE m.Places.length m.Triangles) {i : Int} (h0 : 0 ≤ i) (hi : i < ((v_spec_l02Edges m).length : Int)) :
    ((v_spec_l02Edges m).getD i.toNat default).length = 2 ∧ 0 ≤ ((v_spec_l02Edges m).getD i.toNat default).getD 0 default ∧ ((v_spec_l02Edges m).getD i.toNat default).getD 0 default < ((v_spec_l02Edges m).getD i.toNat default).getD 1 default ∧ ((v_spec_l02Edges m).getD i.toNat default).getD 1 default < (m.Places.length : Int) ∧ (m.Places.length : Int) ≤ 64 ∧ ((v_spec_l02Edges m).length : Int) ≤ 4096 := by
  have hl := l02Edges_len m ok
  have h64 := ok.1
  rw [l02Edges_eq m ok] at hi hl ⊢
  rw [List.length_map] at hi hl
  have hn : i.toNat < (edgL m.Places.length m.Triangles).length := by omega
  have hg : ((edgL m.Places.length m.Triangles).map e2).getD i.toNat default = e2 (edgL m.Places.length m.Triangles)[i.toNat] := by rw [List.getD_eq_getElem?_getD, List.getElem?_map, List.getElem?_eq_getElem hn]; rfl
  have hb := edgL_at (List.getElem_mem hn)
  rw [hg, List.length_map]
  exact ⟨rfl, hb.1, hb.2.1, hb.2.2, by omega, by omega⟩
theorem l02Edges_2 (m : GMesh) (ok : OkE m.Places.length m.Triangles) : ∀ t ∈ v_spec_l02Edges m, t.length ≤ 2 := by
  rw [l02Edges_eq m ok]
  intro t ht
  rw [List.mem_map] at ht
  obtain ⟨e, -, rfl⟩ := ht
  exact Nat.le_refl _

end Go.Ab
