/- The functions of this seat as plain Lean, and that the program's are these. Printed by a program of the prover's own. -/
import Derived.Test.YtpndflbllggeiaaGreatB5
set_option linter.unusedVariables false
set_option linter.unusedSimpArgs false
set_option maxRecDepth 100000
namespace Go.Ab
open Go.RowKit Go.Proofs.Tryz
def Z3D (m_0 : GMesh) : (List (List Int)) := (ZB m_0 (((((Z1 m_0).2).length : Int) - 0).toNat + 1) 0 ([] : List (List Int)))
def Z5 (m_0 : GMesh) : (List (List Int)) := (Z3D m_0)
theorem Z5f (m : GMesh) (ok : OkE m.Places.length m.Triangles) : Z5 m = hgL m.Places.length m.Triangles := by
  unfold Z5 Z3D
  refine (filtm_from (a := (Z1 m).2) (p := fun e => decide ((idxP m.Triangles e.e0 e.e1).length = 2)) (f := fun e => [e.e0, e.e1] ++ (idxP m.Triangles e.e0 e.e1).map fun i => thd (m.Triangles.getD i.toNat default) e.e0 e.e1) (lo := ZB m) (fun k i r h0 hi => ?_) (fun k i r hi => ?_)).trans ?_
  · have q := Z5D m ok h0 hi
    have hm := Z8D m ok h0 hi
    obtain ⟨g1, g2⟩ := ZaI m ok hm
    rw [ZB, decide_eq_true hi, cond_true, g1, cond_true, g2]
    unfold Z2i Z2j
    rw [g2]
    generalize (Z1 m).2.getD i.toNat default = e at *
    by_cases h2 : (idxP m.Triangles e.e0 e.e1).length = 2
    · rw [decide_eq_true h2, show (((idxP m.Triangles e.e0 e.e1).length : Int) == 2) = true from by rw [beq_iff_eq]; omega, cond_true, cond_true]
      have hthd : ∀ k : Nat, k < 2 → Z45 (m.Triangles.getD ((idxP m.Triangles e.e0 e.e1).getD k default).toNat default) e = thd (m.Triangles.getD ((idxP m.Triangles e.e0 e.e1).getD k default).toNat default) e.e0 e.e1 := by
        intro k hk
        obtain ⟨a1, a2, a3⟩ := idxP_at (ts := m.Triangles) (a := e.e0) (b := e.e1) (k := k) (by omega)
        generalize (idxP m.Triangles e.e0 e.e1).getD k default = i' at *
        have q2 := ok.tris.at a1 a2
        generalize m.Triangles.getD i'.toNat default = t at *
        have h64 := ok.1
        unfold Z45 Z41 thd
        rw [wrap_id (n := t.getD 0 default + t.getD 1 default) (by omega) (by omega), wrap_id (n := t.getD 0 default + t.getD 1 default + t.getD 2 default) (by omega) (by omega), wrap_id (n := t.getD 0 default + t.getD 1 default + t.getD 2 default - e.e0) (by omega) (by omega), wrap_id (n := t.getD 0 default + t.getD 1 default + t.getD 2 default - e.e0 - e.e1) (by omega) (by omega)]
      rw [hthd 0 (by omega), hthd 1 (by omega)]
      generalize idxP m.Triangles e.e0 e.e1 = l at *
      match l, h2 with
      | [a, b], _ => rfl
    · rw [decide_eq_false h2, show (((idxP m.Triangles e.e0 e.e1).length : Int) == 2) = false from by rw [beq_eq_false_iff_ne]; omega, cond_false, cond_false]
  · rw [ZB, decide_eq_false (by omega), cond_false]
  · rw [Z75 m ok]; rfl
theorem ZaN (m : GMesh) (ok : OkE m.Places.length m.Triangles) {i : Int} (h0 : 0 ≤ i) (hi : i < ((Z5 m).length : Int)) : ((Z5 m).getD i.toNat default).length = 4 ∧ ∀ x ∈ (Z5 m).getD i.toNat default, 0 ≤ x ∧ x < (m.Places.length : Int) := by
  refine hgL_mem ok ?_
  rw [← Z5f m ok, List.getD_eq_getElem?_getD, List.getElem?_eq_getElem (by omega)]; exact List.getElem_mem _
theorem Z51 {m : GMesh} (ok : OkE m.Places.length m.Triangles) {i : Int} (h0 : 0 ≤ i) (hi : decide (i < ((Z5 m).length : Int)) = true) : ((Z5 m).getD i.toNat default).length = 4 ∧ ∀ x ∈ (Z5 m).getD i.toNat default, 0 ≤ x ∧ x < (m.Places.length : Int) := ZaN m ok h0 (of_decide_eq_true hi)
theorem ZbH {m : GMesh} (ok : OkE m.Places.length m.Triangles) {i : Int} (h0 : 0 ≤ i) (hi : decide (i < ((Z5 m).length : Int)) = true) : ((Z5 m).getD i.toNat default).length ≤ 1073741824 := by have := (Z51 ok h0 hi).1; omega
theorem Z94 (m : GMesh) (ok : OkE m.Places.length m.Triangles) : (Z5 m).length ≤ 4096 := by rw [Z5f m ok]; exact hgL_len ok
theorem Z9R (m_0 : GMesh) (hp0 : m_0.Places.length ≤ 1073741824) (hp1 : m_0.Triangles.length ≤ 1073741824) (hp2 : ∀ t ∈ m_0.Triangles, t.length ≤ 1073741824) (hp3 : OkE m_0.Places.length m_0.Triangles)  : Fn prog 115 [.agg [.sl (m_0.Places.map GVector.cells), .sl (m_0.Triangles.map (cL (cI .i64)))]] (.own 0) [.nest 49 ((Z5 m_0).map fun l => l.map (cI .i64)) false] := by
 refine fnS E0Ok Z4 (c := bodyOf f115) [] (.own 0) [.nest 49 ((Z3D m_0).map fun l => l.map (cI .i64)) false] func115 (sF (Z7k m_0 hp0 hp1 hp2 hp3) <| sZ Gedge.cells ((Z1 m_0).2) <| sL (mR false [0, 6, 5, 1, 1, 5, 37]) 4 (lp_cast (st2 := ⟨.agg [.sl (m_0.Places.map GVector.cells), .sl (m_0.Triangles.map (cL (cI .i64)))] :: .ptr 0 0 0 :: .nils :: .own 1 :: .mp 2 :: .own 3 :: an 5 (.agg [.sl (m_0.Places.map GVector.cells), .sl (m_0.Triangles.map (cL (cI .i64)))] :: .any :: .mp 2 :: .own 3 :: .own 3 :: .i .i64 (((Z1 m_0).2).length : Int) :: .i .i64 0 :: an 37 []), [.box 38 [.sl (m_0.Places.map GVector.cells), .sl (m_0.Triangles.map (cL (cI .i64)))], .nest 49 [] false, .mapN 2 (mapC Gedge.pr (cI .i64) ((Z1 m_0).1)) none, .vec 167 2 (((Z1 m_0).2).map Gedge.cells) false]⟩) (lp_val (Z4T m_0) (x := (Z3D m_0)) (Z8E m_0 hp0 hp1 hp2 hp3 (((((Z1 m_0).2).length : Int) - 0).toNat + 1) 0 ([] : List (List Int)) (show 0 ≤ 0 from (by omega)) (show (([] : List (List Int)).length : Int) ≤ 0 from (by simp)) (Nat.lt_succ_self _)) rfl) (by simp [Z6w, cL, cI])) <| sK [1] sN) rfl (by kernel_rfl) (by kernel_rfl) rfl ?_ ?_
 · rfl
 · simp [Z5]
def Z4m (m_0 : GMesh) (h_1 : (List Int)) : GVector := (Z1n (Z1W (m_0.Places.getD (h_1.getD 2 default).toNat default) (m_0.Places.getD (h_1.getD 3 default).toNat default)) (Z1W (m_0.Places.getD (h_1.getD 0 default).toNat default) (m_0.Places.getD (h_1.getD 1 default).toNat default)))
def Zl (m_0 : GMesh) (h_1 : (List Int)) : GVector := (Z4m m_0 h_1)
theorem Zap (m_0 : GMesh) (h_1 : (List Int)) (hp0 : m_0.Places.length ≤ 1073741824) (hp1 : m_0.Triangles.length ≤ 1073741824) (hp2 : ∀ t ∈ m_0.Triangles, t.length ≤ 1073741824) (hp3 : h_1.length ≤ 1073741824) (hp4 : h_1.length = 4 ∧ ∀ x ∈ h_1, 0 ≤ x ∧ x < (m_0.Places.length : Int))  : Fn prog 116 [.agg [.sl (m_0.Places.map GVector.cells), .sl (m_0.Triangles.map (cL (cI .i64)))], .sl (h_1.map (cI .i64))] (.agg [.f .f32 ((Zl m_0 h_1).X), .f .f32 ((Zl m_0 h_1).Y), .f .f32 ((Zl m_0 h_1).Z)]) [] := by
 have y0 : (0 : Int) ≤ 2 := (by omega)
 have y1 : 2 < (h_1.length : Int) := (by omega)
 have y2 : (0 : Int) ≤ (h_1.getD 2 default) := (by have q := Okh.at hp4; omega)
 have y3 : (h_1.getD 2 default) < (m_0.Places.length : Int) := (by have q := Okh.at hp4; omega)
 have y4 : (0 : Int) ≤ 3 := (by omega)
 have y5 : 3 < (h_1.length : Int) := (by omega)
 have y6 : (0 : Int) ≤ (h_1.getD 3 default) := (by have q := Okh.at hp4; omega)
 have y7 : (h_1.getD 3 default) < (m_0.Places.length : Int) := (by have q := Okh.at hp4; omega)
 have y8 : (0 : Int) ≤ 0 := (by omega)
 have y9 : 0 < (h_1.length : Int) := (by omega)
 have y10 : (0 : Int) ≤ (h_1.getD 0 default) := (by have q := Okh.at hp4; omega)
 have y11 : (h_1.getD 0 default) < (m_0.Places.length : Int) := (by have q := Okh.at hp4; omega)
 have y12 : (0 : Int) ≤ 1 := (by omega)
 have y13 : 1 < (h_1.length : Int) := (by omega)
 have y14 : (0 : Int) ≤ (h_1.getD 1 default) := (by have q := Okh.at hp4; omega)
 have y15 : (h_1.getD 1 default) < (m_0.Places.length : Int) := (by have q := Okh.at hp4; omega)
 refine fnS E0Ok Z4 (c := bodyOf f116) [] (.agg [.f .f32 ((Z4m m_0 h_1).X), .f .f32 ((Z4m m_0 h_1).Y), .f .f32 ((Z4m m_0 h_1).Z)]) [] func116 (sK [25, 25] <| sG (cI .i64) h_1 2 y0 y1 <| sG GVector.cells m_0.Places (h_1.getD 2 default) y2 y3 <| sG (cI .i64) h_1 3 y4 y5 <| sG GVector.cells m_0.Places (h_1.getD 3 default) y6 y7 <| sF (Z55 (m_0.Places.getD (h_1.getD 2 default).toNat default) (m_0.Places.getD (h_1.getD 3 default).toNat default)) <| sG (cI .i64) h_1 0 y8 y9 <| sG GVector.cells m_0.Places (h_1.getD 0 default) y10 y11 <| sG (cI .i64) h_1 1 y12 y13 <| sG GVector.cells m_0.Places (h_1.getD 1 default) y14 y15 <| sF (Z55 (m_0.Places.getD (h_1.getD 0 default).toNat default) (m_0.Places.getD (h_1.getD 1 default).toNat default)) <| sF (Z35 (Z1W (m_0.Places.getD (h_1.getD 2 default).toNat default) (m_0.Places.getD (h_1.getD 3 default).toNat default)) (Z1W (m_0.Places.getD (h_1.getD 0 default).toNat default) (m_0.Places.getD (h_1.getD 1 default).toNat default))) <| sK [] sN) rfl (by kernel_rfl) (by kernel_rfl) rfl ?_ ?_
 · rfl
 · rfl
def Z2z (arr_0 : GBody) (x_l0 : Int) (r1_l1 : (List GVector)) : (List GVector) := (Zk ((arr_0.Springs.getD x_l0.toNat default).A) (Zi arr_0 (arr_0.Springs.getD x_l0.toNat default)) (Z2X (Zi arr_0 (arr_0.Springs.getD x_l0.toNat default)) (arr_0.Springs.getD x_l0.toNat default)) r1_l1)
@[simp] theorem Z59 (arr_0 : GBody) (x_l0 : Int) (r1_l1 : (List GVector)) : (Z2z arr_0 x_l0 r1_l1).length = r1_l1.length := by unfold Z2z; simp
def Z2A (arr_0 : GBody) (x_l0 : Int) (r1_l1 : (List GVector)) : (List GVector) := (Zk ((arr_0.Springs.getD x_l0.toNat default).B) (Zi arr_0 (arr_0.Springs.getD x_l0.toNat default)) (fneg .f32 (Z2X (Zi arr_0 (arr_0.Springs.getD x_l0.toNat default)) (arr_0.Springs.getD x_l0.toNat default))) (Z2z arr_0 x_l0 r1_l1))
@[simp] theorem ZaO (arr_0 : GBody) (x_l0 : Int) (r1_l1 : (List GVector)) : (Z2A arr_0 x_l0 r1_l1).length = (Z2z arr_0 x_l0 r1_l1).length := by unfold Z2A; simp
def ZY (arr_0 : GBody) : Nat → Int → (List GVector) → (List GVector)
  | 0, _, _ => default
  | k + 1, x_l0, r1_l1 => (cond (decide (x_l0 < (arr_0.Springs.length : Int)))
    (ZY arr_0 k (x_l0 + 1) (Z2A arr_0 x_l0 r1_l1))
    r1_l1)
def Z4U (arr_0 : GBody) (r : (List GVector)) : Ex × St := ((.exit 0), ⟨.agg [.sl (arr_0.Mesh.Places.map GVector.cells), .sl (arr_0.Mesh.Triangles.map (cL (cI .i64))), .sl (arr_0.Springs.map GSpring.cells), .f .f32 arr_0.Film, .f .f32 arr_0.Bend, .sl (arr_0.Weights.map (cF .f32)), .f .f32 arr_0.Fall.X, .f .f32 arr_0.Fall.Y, .f .f32 arr_0.Fall.Z] :: .ptr 0 0 0 :: .nils :: .ptr 1 0 0 :: .fn 106 [.ptr 1 0 0] :: an 18 (.ptr 0 0 0 :: .ptr 0 0 0 :: .sl (arr_0.Mesh.Places.map GVector.cells) :: .i .i64 (arr_0.Mesh.Places.length : Int) :: .own 2 :: .fn 106 [.ptr 1 0 0] :: .ptr 0 0 2 :: .sl (arr_0.Springs.map GSpring.cells) :: an 148 []), [.box 42 [.sl (arr_0.Mesh.Places.map GVector.cells), .sl (arr_0.Mesh.Triangles.map (cL (cI .i64))), .sl (arr_0.Springs.map GSpring.cells), .f .f32 arr_0.Film, .f .f32 arr_0.Bend, .sl (arr_0.Weights.map (cF .f32)), .f .f32 arr_0.Fall.X, .f .f32 arr_0.Fall.Y, .f .f32 arr_0.Fall.Z], .box 34 [.own 2], .vec 40 3 (r.map GVector.cells) false]⟩)
def Z6x (arr_0 : GBody) (x_l0 : Int) (r1_l1 : (List GVector)) : St := ⟨.agg [.sl (arr_0.Mesh.Places.map GVector.cells), .sl (arr_0.Mesh.Triangles.map (cL (cI .i64))), .sl (arr_0.Springs.map GSpring.cells), .f .f32 arr_0.Film, .f .f32 arr_0.Bend, .sl (arr_0.Weights.map (cF .f32)), .f .f32 arr_0.Fall.X, .f .f32 arr_0.Fall.Y, .f .f32 arr_0.Fall.Z] :: .ptr 0 0 0 :: .nils :: .ptr 2 0 0 :: .fn 106 [.ptr 2 0 0] :: an 18 (.ptr 0 0 0 :: .ptr 0 0 0 :: .sl (arr_0.Mesh.Places.map GVector.cells) :: .i .i64 (arr_0.Mesh.Places.length : Int) :: .own 1 :: .fn 106 [.ptr 2 0 0] :: .ptr 0 0 2 :: .sl (arr_0.Springs.map GSpring.cells) :: .i .i64 (arr_0.Springs.length : Int) :: .i .i64 x_l0 :: an 146 []), [.box 42 [.sl (arr_0.Mesh.Places.map GVector.cells), .sl (arr_0.Mesh.Triangles.map (cL (cI .i64))), .sl (arr_0.Springs.map GSpring.cells), .f .f32 arr_0.Film, .f .f32 arr_0.Bend, .sl (arr_0.Weights.map (cF .f32)), .f .f32 arr_0.Fall.X, .f .f32 arr_0.Fall.Y, .f .f32 arr_0.Fall.Z], .vec 40 3 (r1_l1.map GVector.cells) false, .box 34 [.own 1]]⟩
theorem Z8F (arr_0 : GBody) (hp0 : arr_0.Mesh.Places.length ≤ 1073741824) (hp1 : arr_0.Mesh.Triangles.length ≤ 1073741824) (hp2 : ∀ t ∈ arr_0.Mesh.Triangles, t.length ≤ 1073741824) (hp3 : arr_0.Springs.length ≤ 1073741824) (hp4 : arr_0.Weights.length ≤ 1073741824) (hp5 : OkBd arr_0) : ∀ (k : Nat) (x_l0 : Int) (r1_l1 : (List GVector)) (Z5S : 0 ≤ x_l0) (Z5T : r1_l1.length = arr_0.Mesh.Places.length) (hk : ((arr_0.Springs.length : Int) - x_l0).toNat < k), Lp prog 0 (sub (bodyOf f57) [1, 1, 1, 0, 1, 0, 0]) (Z6x arr_0 x_l0 r1_l1) (Z4U arr_0 (ZY arr_0 k x_l0 r1_l1)).1 (Z4U arr_0 (ZY arr_0 k x_l0 r1_l1)).2 := by
 intro k
 induction k with
 | zero => intro x_l0 r1_l1 Z5S Z5T hk; exact absurd hk (Nat.not_lt_zero _)
 | succ k ih =>
  intro x_l0 r1_l1 Z5S Z5T hk
  cases h_0 : (decide (x_l0 < (arr_0.Springs.length : Int))) with
  | true =>
   have gh_0 := of_decide_eq_true h_0
   have y_0 : (0 : Int) ≤ x_l0 := (by assumption)
   have y_1 : x_l0 < (arr_0.Springs.length : Int) := (by assumption)
   have y_2 : 0 ≤ (arr_0.Springs.getD x_l0.toNat default).A := (by have q := Z3r hp5 (by assumption) h_0; omega)
   have y_3 : (arr_0.Springs.getD x_l0.toNat default).A < (arr_0.Mesh.Places.length : Int) := (by have q := Z3r hp5 (by assumption) h_0; omega)
   have y_4 : 0 ≤ (arr_0.Springs.getD x_l0.toNat default).B := (by have q := Z3r hp5 (by assumption) h_0; omega)
   have y_5 : (arr_0.Springs.getD x_l0.toNat default).B < (arr_0.Mesh.Places.length : Int) := (by have q := Z3r hp5 (by assumption) h_0; omega)
   have y_6 : r1_l1.length ≤ 1073741824 := (by omega)
   have y_7 : 0 ≤ ((arr_0.Springs.getD x_l0.toNat default).A) := (by assumption)
   have y_8 : ((arr_0.Springs.getD x_l0.toNat default).A) < (r1_l1.length : Int) := (by omega)
   have y_9 : (Z2z arr_0 x_l0 r1_l1).length ≤ 1073741824 := (by have q := Z3r hp5 (by assumption) h_0; (simp only [Z59]; omega))
   have y_10 : 0 ≤ ((arr_0.Springs.getD x_l0.toNat default).B) := (by assumption)
   have y_11 : ((arr_0.Springs.getD x_l0.toNat default).B) < ((Z2z arr_0 x_l0 r1_l1).length : Int) := (by have q := Z3r hp5 (by assumption) h_0; (simp only [Z59]; omega))
   have y_12 : (-9223372036854775808 : Int) ≤ (x_l0 + 1) := (by omega)
   have y_13 : (x_l0 + 1) ≤ (9223372036854775807 : Int) := (by omega)
   have e : ZY arr_0 (k + 1) x_l0 r1_l1 = (ZY arr_0 k (x_l0 + 1) (Z2A arr_0 x_l0 r1_l1)) := by simp only [ZY, h_0, cond_true]
   rw [e]
   exact nextR E0Ok Z4 [] (mR false [0, 5, 18, 10, 146]) [0, 1, 2] (ih (x_l0 + 1) (Z2A arr_0 x_l0 r1_l1) (show 0 ≤ (x_l0 + 1) from (by omega)) (show (Z2A arr_0 x_l0 r1_l1).length = arr_0.Mesh.Places.length from (by simp_all <;> omega)) (by omega)) (sB h_0 <| sG GSpring.cells arr_0.Springs x_l0 y_0 y_1 <| sF (Z8B arr_0 (arr_0.Springs.getD x_l0.toNat default) hp0 hp1 hp2 hp3 hp4 y_2 y_3 y_4 y_5) <| sF (Zan (Zi arr_0 (arr_0.Springs.getD x_l0.toNat default)) (arr_0.Springs.getD x_l0.toNat default)) <| sS (CallSt.frame (Z1p ((arr_0.Springs.getD x_l0.toNat default).A) (Zi arr_0 (arr_0.Springs.getD x_l0.toNat default)) (Z2X (Zi arr_0 (arr_0.Springs.getD x_l0.toNat default)) (arr_0.Springs.getD x_l0.toNat default)) r1_l1 y_6 y_7 y_8) [2, 1] (R := [.box 42 [.sl (arr_0.Mesh.Places.map GVector.cells), .sl (arr_0.Mesh.Triangles.map (cL (cI .i64))), .sl (arr_0.Springs.map GSpring.cells), .f .f32 arr_0.Film, .f .f32 arr_0.Bend, .sl (arr_0.Weights.map (cF .f32)), .f .f32 arr_0.Fall.X, .f .f32 arr_0.Fall.Y, .f .f32 arr_0.Fall.Z], .vec 40 3 (r1_l1.map GVector.cells) false, .box 34 [.own 1], .box 133 [.i .i64 ((arr_0.Springs.getD x_l0.toNat default).A), .i .i64 ((arr_0.Springs.getD x_l0.toNat default).B), .f .f32 ((arr_0.Springs.getD x_l0.toNat default).Long), .f .f32 ((arr_0.Springs.getD x_l0.toNat default).Stiff)], .box 40 [.f .f32 ((Zi arr_0 (arr_0.Springs.getD x_l0.toNat default)).X), .f .f32 ((Zi arr_0 (arr_0.Springs.getD x_l0.toNat default)).Y), .f .f32 ((Zi arr_0 (arr_0.Springs.getD x_l0.toNat default)).Z)]]) (args' := [.i .i64 ((arr_0.Springs.getD x_l0.toNat default).A), .agg [.f .f32 ((Zi arr_0 (arr_0.Springs.getD x_l0.toNat default)).X), .f .f32 ((Zi arr_0 (arr_0.Springs.getD x_l0.toNat default)).Y), .f .f32 ((Zi arr_0 (arr_0.Springs.getD x_l0.toNat default)).Z)], .f .f32 (Z2X (Zi arr_0 (arr_0.Springs.getD x_l0.toNat default)) (arr_0.Springs.getD x_l0.toNat default)), .ptr 2 0 0]) rfl rfl rfl rfl rfl rfl) <| sS (CallSt.frame (Z1p ((arr_0.Springs.getD x_l0.toNat default).B) (Zi arr_0 (arr_0.Springs.getD x_l0.toNat default)) (fneg .f32 (Z2X (Zi arr_0 (arr_0.Springs.getD x_l0.toNat default)) (arr_0.Springs.getD x_l0.toNat default))) (Z2z arr_0 x_l0 r1_l1) y_9 y_10 y_11) [2, 1] (R := [.box 42 [.sl (arr_0.Mesh.Places.map GVector.cells), .sl (arr_0.Mesh.Triangles.map (cL (cI .i64))), .sl (arr_0.Springs.map GSpring.cells), .f .f32 arr_0.Film, .f .f32 arr_0.Bend, .sl (arr_0.Weights.map (cF .f32)), .f .f32 arr_0.Fall.X, .f .f32 arr_0.Fall.Y, .f .f32 arr_0.Fall.Z], .vec 40 3 ((Z2z arr_0 x_l0 r1_l1).map GVector.cells) false, .box 34 [.own 1], .box 133 [.i .i64 ((arr_0.Springs.getD x_l0.toNat default).A), .i .i64 ((arr_0.Springs.getD x_l0.toNat default).B), .f .f32 ((arr_0.Springs.getD x_l0.toNat default).Long), .f .f32 ((arr_0.Springs.getD x_l0.toNat default).Stiff)], .box 40 [.f .f32 ((Zi arr_0 (arr_0.Springs.getD x_l0.toNat default)).X), .f .f32 ((Zi arr_0 (arr_0.Springs.getD x_l0.toNat default)).Y), .f .f32 ((Zi arr_0 (arr_0.Springs.getD x_l0.toNat default)).Z)]]) (args' := [.i .i64 ((arr_0.Springs.getD x_l0.toNat default).B), .agg [.f .f32 ((Zi arr_0 (arr_0.Springs.getD x_l0.toNat default)).X), .f .f32 ((Zi arr_0 (arr_0.Springs.getD x_l0.toNat default)).Y), .f .f32 ((Zi arr_0 (arr_0.Springs.getD x_l0.toNat default)).Z)], .f .f32 (fneg .f32 (Z2X (Zi arr_0 (arr_0.Springs.getD x_l0.toNat default)) (arr_0.Springs.getD x_l0.toNat default))), .ptr 2 0 0]) rfl rfl rfl rfl rfl rfl) <| sI (x_l0 + 1) y_12 y_13 <| sN) (by kernel_rfl)
  | false =>
   have gh_0 := of_decide_eq_false h_0
   have e : ZY arr_0 (k + 1) x_l0 r1_l1 = r1_l1 := by simp only [ZY, h_0, cond_false]
   rw [e]
   exact outR (e := (.exit 0)) E0Ok Z4 [] (mR false [0, 5, 18, 8, 148]) [0, 2, 1] (sB h_0 <| sN) (by kernel_rfl) (by intro h; cases h)
theorem Z7P (arr_0 : GBody) : ∀ (k : Nat) (x_l0 : Int) (r1_l1 : (List GVector)) (hk : ((arr_0.Springs.length : Int) - x_l0).toNat < k), (ZY arr_0 k x_l0 r1_l1).length = r1_l1.length := by
  intro k
  induction k with
  | zero => intro x_l0 r1_l1 hk; exact absurd hk (Nat.not_lt_zero _)
  | succ k ih =>
    intro x_l0 r1_l1 hk
    cases h_0 : (decide (x_l0 < (arr_0.Springs.length : Int))) with
    | true =>
      have e : ZY arr_0 (k + 1) x_l0 r1_l1 = (ZY arr_0 k (x_l0 + 1) (Z2A arr_0 x_l0 r1_l1)) := by simp only [ZY, h_0, cond_true]
      rw [e, ih (x_l0 + 1) (Z2A arr_0 x_l0 r1_l1) (by simp_all <;> omega)]; simp
    | false =>
      have e : ZY arr_0 (k + 1) x_l0 r1_l1 = r1_l1 := by simp only [ZY, h_0, cond_false]
      first | (rw [e]; done) | (rw [e]; rfl)
def Z2k (arr_0 : GBody) : (List GVector) := (ZY arr_0 (((arr_0.Springs.length : Int) - 0).toNat + 1) 0 (List.replicate (arr_0.Mesh.Places.length : Int).toNat (⟨0, 0, 0⟩ : GVector)))
@[simp] theorem Zaq (arr_0 : GBody) : (Z2k arr_0).length = ((List.replicate (arr_0.Mesh.Places.length : Int).toNat (⟨0, 0, 0⟩ : GVector)) : (List GVector)).length := Z7P arr_0 (((arr_0.Springs.length : Int) - 0).toNat + 1) 0 (List.replicate (arr_0.Mesh.Places.length : Int).toNat (⟨0, 0, 0⟩ : GVector)) (by exact Nat.lt_succ_self _)
def Z1A (arr_0 : GBody) (x_l0 : Int) (x_l0_1 : Int) : GVector := (Z1n (arr_0.Mesh.Places.getD ((arr_0.Mesh.Triangles.getD x_l0.toNat default).getD (Int.tmod (x_l0_1 + 2) 3).toNat default).toNat default) (arr_0.Mesh.Places.getD ((arr_0.Mesh.Triangles.getD x_l0.toNat default).getD (Int.tmod (x_l0_1 + 1) 3).toNat default).toNat default))
def Z2B (arr_0 : GBody) (x_l0 : Int) (x_l0_1 : Int) (r2_l1_1 : (List GVector)) : (List GVector) := (Zk ((arr_0.Mesh.Triangles.getD x_l0.toNat default).getD x_l0_1.toNat default) (Z1Q (Z7 arr_0.Mesh (arr_0.Mesh.Triangles.getD x_l0.toNat default)) (Z1A arr_0 x_l0 x_l0_1)) (fop .quo .f32 (fneg .f32 (fop .mul .f32 1056964608 arr_0.Film)) (Zj (Z7 arr_0.Mesh (arr_0.Mesh.Triangles.getD x_l0.toNat default)))) r2_l1_1)
@[simp] theorem ZaP (arr_0 : GBody) (x_l0 : Int) (x_l0_1 : Int) (r2_l1_1 : (List GVector)) : (Z2B arr_0 x_l0 x_l0_1 r2_l1_1).length = r2_l1_1.length := by unfold Z2B; simp
def ZR (arr_0 : GBody) (x_l0 : Int) (r2_l1 : (List GVector)) : Nat → Int → (List GVector) → (List GVector)
  | 0, _, _ => default
  | k + 1, x_l0_1, r2_l1_1 => (cond (decide (x_l0_1 < 3))
    (ZR arr_0 x_l0 r2_l1 k (x_l0_1 + 1) (Z2B arr_0 x_l0 x_l0_1 r2_l1_1))
    r2_l1_1)
def Z4V (arr_0 : GBody) (x_l0 : Int) (r2_l1 : (List GVector)) (r : (List GVector)) : Ex × St := ((.exit 4), ⟨.agg [.sl (arr_0.Mesh.Places.map GVector.cells), .sl (arr_0.Mesh.Triangles.map (cL (cI .i64))), .sl (arr_0.Springs.map GSpring.cells), .f .f32 arr_0.Film, .f .f32 arr_0.Bend, .sl (arr_0.Weights.map (cF .f32)), .f .f32 arr_0.Fall.X, .f .f32 arr_0.Fall.Y, .f .f32 arr_0.Fall.Z] :: .ptr 0 0 0 :: .nils :: .ptr 1 0 0 :: .fn 106 [.ptr 1 0 0] :: an 4 (.sl (arr_0.Mesh.Places.map GVector.cells) :: .any :: .sl ((arr_0.Mesh.Triangles.getD x_l0.toNat default).map (cI .i64)) :: .ptr 2 0 0 :: .f .f32 (fop .quo .f32 (fneg .f32 (fop .mul .f32 1056964608 arr_0.Film)) (Zj (Z7 arr_0.Mesh (arr_0.Mesh.Triangles.getD x_l0.toNat default)))) :: .f .f32 (Zj (Z7 arr_0.Mesh (arr_0.Mesh.Triangles.getD x_l0.toNat default))) :: an 8 (.ptr 0 0 0 :: .ptr 0 0 0 :: .sl (arr_0.Mesh.Places.map GVector.cells) :: .i .i64 (arr_0.Mesh.Places.length : Int) :: .own 3 :: .fn 106 [.ptr 1 0 0] :: .ptr 0 0 2 :: .sl (arr_0.Springs.map GSpring.cells) :: an 25 (.ptr 0 0 0 :: .ptr 0 0 0 :: .sl (arr_0.Mesh.Places.map GVector.cells) :: .ptr 0 0 0 :: .ptr 0 0 1 :: .sl (arr_0.Mesh.Triangles.map (cL (cI .i64))) :: .i .i64 (arr_0.Mesh.Triangles.length : Int) :: .i .i64 x_l0 :: .b (decide (x_l0 < (arr_0.Mesh.Triangles.length : Int))) :: .ref [.sl ((arr_0.Mesh.Triangles.getD x_l0.toNat default).map (cI .i64))] 0 :: .sl ((arr_0.Mesh.Triangles.getD x_l0.toNat default).map (cI .i64)) :: .ptr 0 0 0 :: .agg [.sl (arr_0.Mesh.Places.map GVector.cells), .sl (arr_0.Mesh.Triangles.map (cL (cI .i64)))] :: .sl ((arr_0.Mesh.Triangles.getD x_l0.toNat default).map (cI .i64)) :: .agg [.f .f32 ((Z7 arr_0.Mesh (arr_0.Mesh.Triangles.getD x_l0.toNat default)).X), .f .f32 ((Z7 arr_0.Mesh (arr_0.Mesh.Triangles.getD x_l0.toNat default)).Y), .f .f32 ((Z7 arr_0.Mesh (arr_0.Mesh.Triangles.getD x_l0.toNat default)).Z)] :: .agg [.f .f32 ((Z7 arr_0.Mesh (arr_0.Mesh.Triangles.getD x_l0.toNat default)).X), .f .f32 ((Z7 arr_0.Mesh (arr_0.Mesh.Triangles.getD x_l0.toNat default)).Y), .f .f32 ((Z7 arr_0.Mesh (arr_0.Mesh.Triangles.getD x_l0.toNat default)).Z)] :: .f .f32 (Zj (Z7 arr_0.Mesh (arr_0.Mesh.Triangles.getD x_l0.toNat default))) :: .f .f32 (Zj (Z7 arr_0.Mesh (arr_0.Mesh.Triangles.getD x_l0.toNat default))) :: .b (fcmp .gtr .f32 (Zj (Z7 arr_0.Mesh (arr_0.Mesh.Triangles.getD x_l0.toNat default))) 0) :: .ptr 0 0 3 :: .f .f32 arr_0.Film :: .f .f32 (fop .mul .f32 1056964608 arr_0.Film) :: .f .f32 (fneg .f32 (fop .mul .f32 1056964608 arr_0.Film)) :: .f .f32 (Zj (Z7 arr_0.Mesh (arr_0.Mesh.Triangles.getD x_l0.toNat default))) :: .f .f32 (fop .quo .f32 (fneg .f32 (fop .mul .f32 1056964608 arr_0.Film)) (Zj (Z7 arr_0.Mesh (arr_0.Mesh.Triangles.getD x_l0.toNat default)))) :: an 98 []))), [.box 42 [.sl (arr_0.Mesh.Places.map GVector.cells), .sl (arr_0.Mesh.Triangles.map (cL (cI .i64))), .sl (arr_0.Springs.map GSpring.cells), .f .f32 arr_0.Film, .f .f32 arr_0.Bend, .sl (arr_0.Weights.map (cF .f32)), .f .f32 arr_0.Fall.X, .f .f32 arr_0.Fall.Y, .f .f32 arr_0.Fall.Z], .box 34 [.own 3], .box 40 [.f .f32 ((Z7 arr_0.Mesh (arr_0.Mesh.Triangles.getD x_l0.toNat default)).X), .f .f32 ((Z7 arr_0.Mesh (arr_0.Mesh.Triangles.getD x_l0.toNat default)).Y), .f .f32 ((Z7 arr_0.Mesh (arr_0.Mesh.Triangles.getD x_l0.toNat default)).Z)], .vec 40 3 (r.map GVector.cells) false]⟩)
def Z8G (arr_0 : GBody) (x_l0 : Int) (r2_l1 : (List GVector)) (x_l0_1 : Int) (r2_l1_1 : (List GVector)) : St := ⟨.agg [.sl (arr_0.Mesh.Places.map GVector.cells), .sl (arr_0.Mesh.Triangles.map (cL (cI .i64))), .sl (arr_0.Springs.map GSpring.cells), .f .f32 arr_0.Film, .f .f32 arr_0.Bend, .sl (arr_0.Weights.map (cF .f32)), .f .f32 arr_0.Fall.X, .f .f32 arr_0.Fall.Y, .f .f32 arr_0.Fall.Z] :: .ptr 0 0 0 :: .nils :: .ptr 1 0 0 :: .fn 106 [.ptr 1 0 0] :: an 4 (.sl (arr_0.Mesh.Places.map GVector.cells) :: .any :: .sl ((arr_0.Mesh.Triangles.getD x_l0.toNat default).map (cI .i64)) :: .ptr 3 0 0 :: .f .f32 (fop .quo .f32 (fneg .f32 (fop .mul .f32 1056964608 arr_0.Film)) (Zj (Z7 arr_0.Mesh (arr_0.Mesh.Triangles.getD x_l0.toNat default)))) :: .f .f32 (Zj (Z7 arr_0.Mesh (arr_0.Mesh.Triangles.getD x_l0.toNat default))) :: an 8 (.ptr 0 0 0 :: .ptr 0 0 0 :: .sl (arr_0.Mesh.Places.map GVector.cells) :: .i .i64 (arr_0.Mesh.Places.length : Int) :: .own 2 :: .fn 106 [.ptr 1 0 0] :: .ptr 0 0 2 :: .sl (arr_0.Springs.map GSpring.cells) :: an 25 (.ptr 0 0 0 :: .ptr 0 0 0 :: .sl (arr_0.Mesh.Places.map GVector.cells) :: .ptr 0 0 0 :: .ptr 0 0 1 :: .sl (arr_0.Mesh.Triangles.map (cL (cI .i64))) :: .i .i64 (arr_0.Mesh.Triangles.length : Int) :: .i .i64 x_l0 :: .b (decide (x_l0 < (arr_0.Mesh.Triangles.length : Int))) :: .ref [.sl ((arr_0.Mesh.Triangles.getD x_l0.toNat default).map (cI .i64))] 0 :: .sl ((arr_0.Mesh.Triangles.getD x_l0.toNat default).map (cI .i64)) :: .ptr 0 0 0 :: .agg [.sl (arr_0.Mesh.Places.map GVector.cells), .sl (arr_0.Mesh.Triangles.map (cL (cI .i64)))] :: .sl ((arr_0.Mesh.Triangles.getD x_l0.toNat default).map (cI .i64)) :: .agg [.f .f32 ((Z7 arr_0.Mesh (arr_0.Mesh.Triangles.getD x_l0.toNat default)).X), .f .f32 ((Z7 arr_0.Mesh (arr_0.Mesh.Triangles.getD x_l0.toNat default)).Y), .f .f32 ((Z7 arr_0.Mesh (arr_0.Mesh.Triangles.getD x_l0.toNat default)).Z)] :: .agg [.f .f32 ((Z7 arr_0.Mesh (arr_0.Mesh.Triangles.getD x_l0.toNat default)).X), .f .f32 ((Z7 arr_0.Mesh (arr_0.Mesh.Triangles.getD x_l0.toNat default)).Y), .f .f32 ((Z7 arr_0.Mesh (arr_0.Mesh.Triangles.getD x_l0.toNat default)).Z)] :: .f .f32 (Zj (Z7 arr_0.Mesh (arr_0.Mesh.Triangles.getD x_l0.toNat default))) :: .f .f32 (Zj (Z7 arr_0.Mesh (arr_0.Mesh.Triangles.getD x_l0.toNat default))) :: .b (fcmp .gtr .f32 (Zj (Z7 arr_0.Mesh (arr_0.Mesh.Triangles.getD x_l0.toNat default))) 0) :: .ptr 0 0 3 :: .f .f32 arr_0.Film :: .f .f32 (fop .mul .f32 1056964608 arr_0.Film) :: .f .f32 (fneg .f32 (fop .mul .f32 1056964608 arr_0.Film)) :: .f .f32 (Zj (Z7 arr_0.Mesh (arr_0.Mesh.Triangles.getD x_l0.toNat default))) :: .f .f32 (fop .quo .f32 (fneg .f32 (fop .mul .f32 1056964608 arr_0.Film)) (Zj (Z7 arr_0.Mesh (arr_0.Mesh.Triangles.getD x_l0.toNat default)))) :: .i .i64 x_l0_1 :: an 97 []))), [.box 42 [.sl (arr_0.Mesh.Places.map GVector.cells), .sl (arr_0.Mesh.Triangles.map (cL (cI .i64))), .sl (arr_0.Springs.map GSpring.cells), .f .f32 arr_0.Film, .f .f32 arr_0.Bend, .sl (arr_0.Weights.map (cF .f32)), .f .f32 arr_0.Fall.X, .f .f32 arr_0.Fall.Y, .f .f32 arr_0.Fall.Z], .box 34 [.own 2], .vec 40 3 (r2_l1_1.map GVector.cells) false, .box 40 [.f .f32 ((Z7 arr_0.Mesh (arr_0.Mesh.Triangles.getD x_l0.toNat default)).X), .f .f32 ((Z7 arr_0.Mesh (arr_0.Mesh.Triangles.getD x_l0.toNat default)).Y), .f .f32 ((Z7 arr_0.Mesh (arr_0.Mesh.Triangles.getD x_l0.toNat default)).Z)]]⟩
def Z5U : List Bool := (mR false [0, 5, 4, 1, 1, 4, 8, 8, 25, 26, 97])
def Z7Q : List Bool := (mR false [0, 5, 4, 1, 1, 4, 8, 8, 25, 25, 98])
theorem Z8H (arr_0 : GBody) (x_l0 : Int) (r2_l1 : (List GVector)) (hp0 : arr_0.Mesh.Places.length ≤ 1073741824) (hp1 : arr_0.Mesh.Triangles.length ≤ 1073741824) (hp2 : ∀ t ∈ arr_0.Mesh.Triangles, t.length ≤ 1073741824) (hp3 : arr_0.Springs.length ≤ 1073741824) (hp4 : arr_0.Weights.length ≤ 1073741824) (hp5 : OkBd arr_0) (Z2Q : 0 ≤ x_l0) (Z2R : r2_l1.length = arr_0.Mesh.Places.length) (Z1y : (decide (x_l0 < (arr_0.Mesh.Triangles.length : Int))) = true) : ∀ (k : Nat) (x_l0_1 : Int) (r2_l1_1 : (List GVector)) (Z5V : 0 ≤ x_l0_1) (Z5W : r2_l1_1.length = r2_l1.length) (hk : ((3 : Int) - x_l0_1).toNat < k), Lp prog 0 (sub (bodyOf f57) [1, 1, 1, 1, 1, 0, 1, 0, 0, 1, 1, 0, 0, 1, 1, 1, 1, 1, 0, 0]) (Z8G arr_0 x_l0 r2_l1 x_l0_1 r2_l1_1) (Z4V arr_0 x_l0 r2_l1 (ZR arr_0 x_l0 r2_l1 k x_l0_1 r2_l1_1)).1 (Z4V arr_0 x_l0 r2_l1 (ZR arr_0 x_l0 r2_l1 k x_l0_1 r2_l1_1)).2 := by
 intro k
 induction k with
 | zero => intro x_l0_1 r2_l1_1 Z5V Z5W hk; exact absurd hk (Nat.not_lt_zero _)
 | succ k ih =>
  intro x_l0_1 r2_l1_1 Z5V Z5W hk
  cases h__0 : (decide (x_l0_1 < 3)) with
  | true =>
   have gh__0 := of_decide_eq_true h__0
   have y__0 : (-9223372036854775808 : Int) ≤ (x_l0_1 + 1) := (by omega)
   have y__1 : (x_l0_1 + 1) ≤ (9223372036854775807 : Int) := (by omega)
   have y__2 : (0 : Int) ≤ (Int.tmod (x_l0_1 + 1) 3) := (by have q := Z1N hp5.e (by assumption) (of_decide_eq_true Z1y) (by assumption) gh__0; omega)
   have y__3 : (Int.tmod (x_l0_1 + 1) 3) < ((arr_0.Mesh.Triangles.getD x_l0.toNat default).length : Int) := (by have q := Z1N hp5.e (by assumption) (of_decide_eq_true Z1y) (by assumption) gh__0; omega)
   have y__4 : (-9223372036854775808 : Int) ≤ (x_l0_1 + 2) := (by omega)
   have y__5 : (x_l0_1 + 2) ≤ (9223372036854775807 : Int) := (by omega)
   have y__6 : (0 : Int) ≤ (Int.tmod (x_l0_1 + 2) 3) := (by have q := Z1N hp5.e (by assumption) (of_decide_eq_true Z1y) (by assumption) gh__0; omega)
   have y__7 : (Int.tmod (x_l0_1 + 2) 3) < ((arr_0.Mesh.Triangles.getD x_l0.toNat default).length : Int) := (by have q := Z1N hp5.e (by assumption) (of_decide_eq_true Z1y) (by assumption) gh__0; omega)
   have y__8 : (0 : Int) ≤ x_l0_1 := (by assumption)
   have y__9 : x_l0_1 < ((arr_0.Mesh.Triangles.getD x_l0.toNat default).length : Int) := (by have q := Z1N hp5.e (by assumption) (of_decide_eq_true Z1y) (by assumption) gh__0; omega)
   have y__10 : (0 : Int) ≤ ((arr_0.Mesh.Triangles.getD x_l0.toNat default).getD (Int.tmod (x_l0_1 + 2) 3).toNat default) := (by have q := Z1N hp5.e (by assumption) (of_decide_eq_true Z1y) (by assumption) gh__0; omega)
   have y__11 : ((arr_0.Mesh.Triangles.getD x_l0.toNat default).getD (Int.tmod (x_l0_1 + 2) 3).toNat default) < (arr_0.Mesh.Places.length : Int) := (by have q := Z1N hp5.e (by assumption) (of_decide_eq_true Z1y) (by assumption) gh__0; omega)
   have y__12 : (0 : Int) ≤ ((arr_0.Mesh.Triangles.getD x_l0.toNat default).getD (Int.tmod (x_l0_1 + 1) 3).toNat default) := (by have q := Z1N hp5.e (by assumption) (of_decide_eq_true Z1y) (by assumption) gh__0; omega)
   have y__13 : ((arr_0.Mesh.Triangles.getD x_l0.toNat default).getD (Int.tmod (x_l0_1 + 1) 3).toNat default) < (arr_0.Mesh.Places.length : Int) := (by have q := Z1N hp5.e (by assumption) (of_decide_eq_true Z1y) (by assumption) gh__0; omega)
   have y__14 : r2_l1_1.length ≤ 1073741824 := (by omega)
   have y__15 : 0 ≤ ((arr_0.Mesh.Triangles.getD x_l0.toNat default).getD x_l0_1.toNat default) := (by have q := Z1N hp5.e (by assumption) (of_decide_eq_true Z1y) (by assumption) gh__0; omega)
   have y__16 : ((arr_0.Mesh.Triangles.getD x_l0.toNat default).getD x_l0_1.toNat default) < (r2_l1_1.length : Int) := (by have q := Z1N hp5.e (by assumption) (of_decide_eq_true Z1y) (by assumption) gh__0; omega)
   have e : ZR arr_0 x_l0 r2_l1 (k + 1) x_l0_1 r2_l1_1 = (ZR arr_0 x_l0 r2_l1 k (x_l0_1 + 1) (Z2B arr_0 x_l0 x_l0_1 r2_l1_1)) := by simp only [ZR, h__0, cond_true]
   rw [e]
   exact nextR E0Ok Z4 [] Z5U [0, 1, 2, 3] (ih (x_l0_1 + 1) (Z2B arr_0 x_l0 x_l0_1 r2_l1_1) (show 0 ≤ (x_l0_1 + 1) from (by omega)) (show (Z2B arr_0 x_l0 x_l0_1 r2_l1_1).length = r2_l1.length from (by simp_all <;> omega)) (by omega)) (sB h__0 <| sK [13, 13] <| sI (x_l0_1 + 1) y__0 y__1 <| sC (show (3 : Int) ≠ 0 from (by decide)) <| sQ (Int.tmod (x_l0_1 + 1) 3) <| sG (cI .i64) (arr_0.Mesh.Triangles.getD x_l0.toNat default) (Int.tmod (x_l0_1 + 1) 3) y__2 y__3 <| sI (x_l0_1 + 2) y__4 y__5 <| sC (show (3 : Int) ≠ 0 from (by decide)) <| sQ (Int.tmod (x_l0_1 + 2) 3) <| sG (cI .i64) (arr_0.Mesh.Triangles.getD x_l0.toNat default) (Int.tmod (x_l0_1 + 2) 3) y__6 y__7 <| sK [17, 17] <| sG (cI .i64) (arr_0.Mesh.Triangles.getD x_l0.toNat default) x_l0_1 y__8 y__9 <| sG GVector.cells arr_0.Mesh.Places ((arr_0.Mesh.Triangles.getD x_l0.toNat default).getD (Int.tmod (x_l0_1 + 2) 3).toNat default) y__10 y__11 <| sG GVector.cells arr_0.Mesh.Places ((arr_0.Mesh.Triangles.getD x_l0.toNat default).getD (Int.tmod (x_l0_1 + 1) 3).toNat default) y__12 y__13 <| sF (Z35 (arr_0.Mesh.Places.getD ((arr_0.Mesh.Triangles.getD x_l0.toNat default).getD (Int.tmod (x_l0_1 + 2) 3).toNat default).toNat default) (arr_0.Mesh.Places.getD ((arr_0.Mesh.Triangles.getD x_l0.toNat default).getD (Int.tmod (x_l0_1 + 1) 3).toNat default).toNat default)) <| sF (Z6p (Z7 arr_0.Mesh (arr_0.Mesh.Triangles.getD x_l0.toNat default)) (Z1A arr_0 x_l0 x_l0_1)) <| sS (CallSt.frame (Z1p ((arr_0.Mesh.Triangles.getD x_l0.toNat default).getD x_l0_1.toNat default) (Z1Q (Z7 arr_0.Mesh (arr_0.Mesh.Triangles.getD x_l0.toNat default)) (Z1A arr_0 x_l0 x_l0_1)) (fop .quo .f32 (fneg .f32 (fop .mul .f32 1056964608 arr_0.Film)) (Zj (Z7 arr_0.Mesh (arr_0.Mesh.Triangles.getD x_l0.toNat default)))) r2_l1_1 y__14 y__15 y__16) [1, 2] (R := [.box 42 [.sl (arr_0.Mesh.Places.map GVector.cells), .sl (arr_0.Mesh.Triangles.map (cL (cI .i64))), .sl (arr_0.Springs.map GSpring.cells), .f .f32 arr_0.Film, .f .f32 arr_0.Bend, .sl (arr_0.Weights.map (cF .f32)), .f .f32 arr_0.Fall.X, .f .f32 arr_0.Fall.Y, .f .f32 arr_0.Fall.Z], .box 34 [.own 2], .vec 40 3 (r2_l1_1.map GVector.cells) false, .box 40 [.f .f32 ((Z7 arr_0.Mesh (arr_0.Mesh.Triangles.getD x_l0.toNat default)).X), .f .f32 ((Z7 arr_0.Mesh (arr_0.Mesh.Triangles.getD x_l0.toNat default)).Y), .f .f32 ((Z7 arr_0.Mesh (arr_0.Mesh.Triangles.getD x_l0.toNat default)).Z)]]) (args' := [.i .i64 ((arr_0.Mesh.Triangles.getD x_l0.toNat default).getD x_l0_1.toNat default), .agg [.f .f32 ((Z1Q (Z7 arr_0.Mesh (arr_0.Mesh.Triangles.getD x_l0.toNat default)) (Z1A arr_0 x_l0 x_l0_1)).X), .f .f32 ((Z1Q (Z7 arr_0.Mesh (arr_0.Mesh.Triangles.getD x_l0.toNat default)) (Z1A arr_0 x_l0 x_l0_1)).Y), .f .f32 ((Z1Q (Z7 arr_0.Mesh (arr_0.Mesh.Triangles.getD x_l0.toNat default)) (Z1A arr_0 x_l0 x_l0_1)).Z)], .f .f32 (fop .quo .f32 (fneg .f32 (fop .mul .f32 1056964608 arr_0.Film)) (Zj (Z7 arr_0.Mesh (arr_0.Mesh.Triangles.getD x_l0.toNat default)))), .ptr 1 0 0]) rfl rfl rfl rfl rfl rfl) <| sI (x_l0_1 + 1) y__0 y__1 <| sN) (by kernel_rfl)
  | false =>
   have gh__0 := of_decide_eq_false h__0
   have e : ZR arr_0 x_l0 r2_l1 (k + 1) x_l0_1 r2_l1_1 = r2_l1_1 := by simp only [ZR, h__0, cond_false]
   rw [e]
   exact outR (e := (.exit 4)) E0Ok Z4 [] Z7Q [0, 1, 3, 2] (sB h__0 <| sN) (by kernel_rfl) (by intro h; cases h)
theorem Z7R (arr_0 : GBody) (x_l0 : Int) (r2_l1 : (List GVector)) : ∀ (k : Nat) (x_l0_1 : Int) (r2_l1_1 : (List GVector)) (hk : ((3 : Int) - x_l0_1).toNat < k), (ZR arr_0 x_l0 r2_l1 k x_l0_1 r2_l1_1).length = r2_l1_1.length := by
  intro k
  induction k with
  | zero => intro x_l0_1 r2_l1_1 hk; exact absurd hk (Nat.not_lt_zero _)
  | succ k ih =>
    intro x_l0_1 r2_l1_1 hk
    cases h__0 : (decide (x_l0_1 < 3)) with
    | true =>
      have e : ZR arr_0 x_l0 r2_l1 (k + 1) x_l0_1 r2_l1_1 = (ZR arr_0 x_l0 r2_l1 k (x_l0_1 + 1) (Z2B arr_0 x_l0 x_l0_1 r2_l1_1)) := by simp only [ZR, h__0, cond_true]
      rw [e, ih (x_l0_1 + 1) (Z2B arr_0 x_l0 x_l0_1 r2_l1_1) (by simp_all <;> omega)]; simp
    | false =>
      have e : ZR arr_0 x_l0 r2_l1 (k + 1) x_l0_1 r2_l1_1 = r2_l1_1 := by simp only [ZR, h__0, cond_false]
      first | (rw [e]; done) | (rw [e]; rfl)
def Z1Y (arr_0 : GBody) (x_l0 : Int) (r2_l1 : (List GVector)) : (List GVector) := (ZR arr_0 x_l0 r2_l1 (((3 : Int) - 0).toNat + 1) 0 r2_l1)
@[simp] theorem Zar (arr_0 : GBody) (x_l0 : Int) (r2_l1 : (List GVector)) : (Z1Y arr_0 x_l0 r2_l1).length = (r2_l1 : (List GVector)).length := Z7R arr_0 x_l0 r2_l1 (((3 : Int) - 0).toNat + 1) 0 r2_l1 (by exact Nat.lt_succ_self _)
def Z2C (arr_0 : GBody) (x_l0 : Int) (x_l0_1 : Int) (r2_l1_1 : (List GVector)) : (List GVector) := (Zk ((arr_0.Mesh.Triangles.getD x_l0.toNat default).getD x_l0_1.toNat default) (Z1Q (Z7 arr_0.Mesh (arr_0.Mesh.Triangles.getD x_l0.toNat default)) (Z1A arr_0 x_l0 x_l0_1)) 0 r2_l1_1)
@[simp] theorem ZaQ (arr_0 : GBody) (x_l0 : Int) (x_l0_1 : Int) (r2_l1_1 : (List GVector)) : (Z2C arr_0 x_l0 x_l0_1 r2_l1_1).length = r2_l1_1.length := by unfold Z2C; simp
def ZS (arr_0 : GBody) (x_l0 : Int) (r2_l1 : (List GVector)) : Nat → Int → (List GVector) → (List GVector)
  | 0, _, _ => default
  | k + 1, x_l0_1, r2_l1_1 => (cond (decide (x_l0_1 < 3))
    (ZS arr_0 x_l0 r2_l1 k (x_l0_1 + 1) (Z2C arr_0 x_l0 x_l0_1 r2_l1_1))
    r2_l1_1)
def Z4W (arr_0 : GBody) (x_l0 : Int) (r2_l1 : (List GVector)) (r : (List GVector)) : Ex × St := ((.exit 4), ⟨.agg [.sl (arr_0.Mesh.Places.map GVector.cells), .sl (arr_0.Mesh.Triangles.map (cL (cI .i64))), .sl (arr_0.Springs.map GSpring.cells), .f .f32 arr_0.Film, .f .f32 arr_0.Bend, .sl (arr_0.Weights.map (cF .f32)), .f .f32 arr_0.Fall.X, .f .f32 arr_0.Fall.Y, .f .f32 arr_0.Fall.Z] :: .ptr 0 0 0 :: .nils :: .ptr 1 0 0 :: .fn 106 [.ptr 1 0 0] :: an 4 (.sl (arr_0.Mesh.Places.map GVector.cells) :: .any :: .sl ((arr_0.Mesh.Triangles.getD x_l0.toNat default).map (cI .i64)) :: .ptr 2 0 0 :: .f .f32 0 :: .f .f32 (Zj (Z7 arr_0.Mesh (arr_0.Mesh.Triangles.getD x_l0.toNat default))) :: an 8 (.ptr 0 0 0 :: .ptr 0 0 0 :: .sl (arr_0.Mesh.Places.map GVector.cells) :: .i .i64 (arr_0.Mesh.Places.length : Int) :: .own 3 :: .fn 106 [.ptr 1 0 0] :: .ptr 0 0 2 :: .sl (arr_0.Springs.map GSpring.cells) :: an 25 (.ptr 0 0 0 :: .ptr 0 0 0 :: .sl (arr_0.Mesh.Places.map GVector.cells) :: .ptr 0 0 0 :: .ptr 0 0 1 :: .sl (arr_0.Mesh.Triangles.map (cL (cI .i64))) :: .i .i64 (arr_0.Mesh.Triangles.length : Int) :: .i .i64 x_l0 :: .b (decide (x_l0 < (arr_0.Mesh.Triangles.length : Int))) :: .ref [.sl ((arr_0.Mesh.Triangles.getD x_l0.toNat default).map (cI .i64))] 0 :: .sl ((arr_0.Mesh.Triangles.getD x_l0.toNat default).map (cI .i64)) :: .ptr 0 0 0 :: .agg [.sl (arr_0.Mesh.Places.map GVector.cells), .sl (arr_0.Mesh.Triangles.map (cL (cI .i64)))] :: .sl ((arr_0.Mesh.Triangles.getD x_l0.toNat default).map (cI .i64)) :: .agg [.f .f32 ((Z7 arr_0.Mesh (arr_0.Mesh.Triangles.getD x_l0.toNat default)).X), .f .f32 ((Z7 arr_0.Mesh (arr_0.Mesh.Triangles.getD x_l0.toNat default)).Y), .f .f32 ((Z7 arr_0.Mesh (arr_0.Mesh.Triangles.getD x_l0.toNat default)).Z)] :: .agg [.f .f32 ((Z7 arr_0.Mesh (arr_0.Mesh.Triangles.getD x_l0.toNat default)).X), .f .f32 ((Z7 arr_0.Mesh (arr_0.Mesh.Triangles.getD x_l0.toNat default)).Y), .f .f32 ((Z7 arr_0.Mesh (arr_0.Mesh.Triangles.getD x_l0.toNat default)).Z)] :: .f .f32 (Zj (Z7 arr_0.Mesh (arr_0.Mesh.Triangles.getD x_l0.toNat default))) :: .f .f32 (Zj (Z7 arr_0.Mesh (arr_0.Mesh.Triangles.getD x_l0.toNat default))) :: .b (fcmp .gtr .f32 (Zj (Z7 arr_0.Mesh (arr_0.Mesh.Triangles.getD x_l0.toNat default))) 0) :: an 104 []))), [.box 42 [.sl (arr_0.Mesh.Places.map GVector.cells), .sl (arr_0.Mesh.Triangles.map (cL (cI .i64))), .sl (arr_0.Springs.map GSpring.cells), .f .f32 arr_0.Film, .f .f32 arr_0.Bend, .sl (arr_0.Weights.map (cF .f32)), .f .f32 arr_0.Fall.X, .f .f32 arr_0.Fall.Y, .f .f32 arr_0.Fall.Z], .box 34 [.own 3], .box 40 [.f .f32 ((Z7 arr_0.Mesh (arr_0.Mesh.Triangles.getD x_l0.toNat default)).X), .f .f32 ((Z7 arr_0.Mesh (arr_0.Mesh.Triangles.getD x_l0.toNat default)).Y), .f .f32 ((Z7 arr_0.Mesh (arr_0.Mesh.Triangles.getD x_l0.toNat default)).Z)], .vec 40 3 (r.map GVector.cells) false]⟩)
def Z8I (arr_0 : GBody) (x_l0 : Int) (r2_l1 : (List GVector)) (x_l0_1 : Int) (r2_l1_1 : (List GVector)) : St := ⟨.agg [.sl (arr_0.Mesh.Places.map GVector.cells), .sl (arr_0.Mesh.Triangles.map (cL (cI .i64))), .sl (arr_0.Springs.map GSpring.cells), .f .f32 arr_0.Film, .f .f32 arr_0.Bend, .sl (arr_0.Weights.map (cF .f32)), .f .f32 arr_0.Fall.X, .f .f32 arr_0.Fall.Y, .f .f32 arr_0.Fall.Z] :: .ptr 0 0 0 :: .nils :: .ptr 1 0 0 :: .fn 106 [.ptr 1 0 0] :: an 4 (.sl (arr_0.Mesh.Places.map GVector.cells) :: .any :: .sl ((arr_0.Mesh.Triangles.getD x_l0.toNat default).map (cI .i64)) :: .ptr 3 0 0 :: .f .f32 0 :: .f .f32 (Zj (Z7 arr_0.Mesh (arr_0.Mesh.Triangles.getD x_l0.toNat default))) :: an 8 (.ptr 0 0 0 :: .ptr 0 0 0 :: .sl (arr_0.Mesh.Places.map GVector.cells) :: .i .i64 (arr_0.Mesh.Places.length : Int) :: .own 2 :: .fn 106 [.ptr 1 0 0] :: .ptr 0 0 2 :: .sl (arr_0.Springs.map GSpring.cells) :: an 25 (.ptr 0 0 0 :: .ptr 0 0 0 :: .sl (arr_0.Mesh.Places.map GVector.cells) :: .ptr 0 0 0 :: .ptr 0 0 1 :: .sl (arr_0.Mesh.Triangles.map (cL (cI .i64))) :: .i .i64 (arr_0.Mesh.Triangles.length : Int) :: .i .i64 x_l0 :: .b (decide (x_l0 < (arr_0.Mesh.Triangles.length : Int))) :: .ref [.sl ((arr_0.Mesh.Triangles.getD x_l0.toNat default).map (cI .i64))] 0 :: .sl ((arr_0.Mesh.Triangles.getD x_l0.toNat default).map (cI .i64)) :: .ptr 0 0 0 :: .agg [.sl (arr_0.Mesh.Places.map GVector.cells), .sl (arr_0.Mesh.Triangles.map (cL (cI .i64)))] :: .sl ((arr_0.Mesh.Triangles.getD x_l0.toNat default).map (cI .i64)) :: .agg [.f .f32 ((Z7 arr_0.Mesh (arr_0.Mesh.Triangles.getD x_l0.toNat default)).X), .f .f32 ((Z7 arr_0.Mesh (arr_0.Mesh.Triangles.getD x_l0.toNat default)).Y), .f .f32 ((Z7 arr_0.Mesh (arr_0.Mesh.Triangles.getD x_l0.toNat default)).Z)] :: .agg [.f .f32 ((Z7 arr_0.Mesh (arr_0.Mesh.Triangles.getD x_l0.toNat default)).X), .f .f32 ((Z7 arr_0.Mesh (arr_0.Mesh.Triangles.getD x_l0.toNat default)).Y), .f .f32 ((Z7 arr_0.Mesh (arr_0.Mesh.Triangles.getD x_l0.toNat default)).Z)] :: .f .f32 (Zj (Z7 arr_0.Mesh (arr_0.Mesh.Triangles.getD x_l0.toNat default))) :: .f .f32 (Zj (Z7 arr_0.Mesh (arr_0.Mesh.Triangles.getD x_l0.toNat default))) :: .b (fcmp .gtr .f32 (Zj (Z7 arr_0.Mesh (arr_0.Mesh.Triangles.getD x_l0.toNat default))) 0) :: an 6 (.i .i64 x_l0_1 :: an 97 [])))), [.box 42 [.sl (arr_0.Mesh.Places.map GVector.cells), .sl (arr_0.Mesh.Triangles.map (cL (cI .i64))), .sl (arr_0.Springs.map GSpring.cells), .f .f32 arr_0.Film, .f .f32 arr_0.Bend, .sl (arr_0.Weights.map (cF .f32)), .f .f32 arr_0.Fall.X, .f .f32 arr_0.Fall.Y, .f .f32 arr_0.Fall.Z], .box 34 [.own 2], .vec 40 3 (r2_l1_1.map GVector.cells) false, .box 40 [.f .f32 ((Z7 arr_0.Mesh (arr_0.Mesh.Triangles.getD x_l0.toNat default)).X), .f .f32 ((Z7 arr_0.Mesh (arr_0.Mesh.Triangles.getD x_l0.toNat default)).Y), .f .f32 ((Z7 arr_0.Mesh (arr_0.Mesh.Triangles.getD x_l0.toNat default)).Z)]]⟩
def Z5X : List Bool := (mR false [0, 5, 4, 1, 1, 4, 8, 8, 25, 19, 6, 1, 97])
def Z7S : List Bool := (mR false [0, 5, 4, 1, 1, 4, 8, 8, 25, 19, 104])
theorem Z8J (arr_0 : GBody) (x_l0 : Int) (r2_l1 : (List GVector)) (hp0 : arr_0.Mesh.Places.length ≤ 1073741824) (hp1 : arr_0.Mesh.Triangles.length ≤ 1073741824) (hp2 : ∀ t ∈ arr_0.Mesh.Triangles, t.length ≤ 1073741824) (hp3 : arr_0.Springs.length ≤ 1073741824) (hp4 : arr_0.Weights.length ≤ 1073741824) (hp5 : OkBd arr_0) (Z2Q : 0 ≤ x_l0) (Z2R : r2_l1.length = arr_0.Mesh.Places.length) (Z1z : (decide (x_l0 < (arr_0.Mesh.Triangles.length : Int))) = true) : ∀ (k : Nat) (x_l0_1 : Int) (r2_l1_1 : (List GVector)) (Z5Y : 0 ≤ x_l0_1) (Z5Z : r2_l1_1.length = r2_l1.length) (hk : ((3 : Int) - x_l0_1).toNat < k), Lp prog 0 (sub (bodyOf f57) [1, 1, 1, 1, 1, 0, 1, 0, 0, 1, 1, 0, 0, 1, 1, 1, 1, 1, 0, 0]) (Z8I arr_0 x_l0 r2_l1 x_l0_1 r2_l1_1) (Z4W arr_0 x_l0 r2_l1 (ZS arr_0 x_l0 r2_l1 k x_l0_1 r2_l1_1)).1 (Z4W arr_0 x_l0 r2_l1 (ZS arr_0 x_l0 r2_l1 k x_l0_1 r2_l1_1)).2 := by
 intro k
 induction k with
 | zero => intro x_l0_1 r2_l1_1 Z5Y Z5Z hk; exact absurd hk (Nat.not_lt_zero _)
 | succ k ih =>
  intro x_l0_1 r2_l1_1 Z5Y Z5Z hk
  cases h__0 : (decide (x_l0_1 < 3)) with
  | true =>
   have gh__0 := of_decide_eq_true h__0
   have y__0 : (-9223372036854775808 : Int) ≤ (x_l0_1 + 1) := (by omega)
   have y__1 : (x_l0_1 + 1) ≤ (9223372036854775807 : Int) := (by omega)
   have y__2 : (0 : Int) ≤ (Int.tmod (x_l0_1 + 1) 3) := (by have q := Z1N hp5.e (by assumption) (of_decide_eq_true Z1z) (by assumption) gh__0; omega)
   have y__3 : (Int.tmod (x_l0_1 + 1) 3) < ((arr_0.Mesh.Triangles.getD x_l0.toNat default).length : Int) := (by have q := Z1N hp5.e (by assumption) (of_decide_eq_true Z1z) (by assumption) gh__0; omega)
   have y__4 : (-9223372036854775808 : Int) ≤ (x_l0_1 + 2) := (by omega)
   have y__5 : (x_l0_1 + 2) ≤ (9223372036854775807 : Int) := (by omega)
   have y__6 : (0 : Int) ≤ (Int.tmod (x_l0_1 + 2) 3) := (by have q := Z1N hp5.e (by assumption) (of_decide_eq_true Z1z) (by assumption) gh__0; omega)
   have y__7 : (Int.tmod (x_l0_1 + 2) 3) < ((arr_0.Mesh.Triangles.getD x_l0.toNat default).length : Int) := (by have q := Z1N hp5.e (by assumption) (of_decide_eq_true Z1z) (by assumption) gh__0; omega)
   have y__8 : (0 : Int) ≤ x_l0_1 := (by assumption)
   have y__9 : x_l0_1 < ((arr_0.Mesh.Triangles.getD x_l0.toNat default).length : Int) := (by have q := Z1N hp5.e (by assumption) (of_decide_eq_true Z1z) (by assumption) gh__0; omega)
   have y__10 : (0 : Int) ≤ ((arr_0.Mesh.Triangles.getD x_l0.toNat default).getD (Int.tmod (x_l0_1 + 2) 3).toNat default) := (by have q := Z1N hp5.e (by assumption) (of_decide_eq_true Z1z) (by assumption) gh__0; omega)
   have y__11 : ((arr_0.Mesh.Triangles.getD x_l0.toNat default).getD (Int.tmod (x_l0_1 + 2) 3).toNat default) < (arr_0.Mesh.Places.length : Int) := (by have q := Z1N hp5.e (by assumption) (of_decide_eq_true Z1z) (by assumption) gh__0; omega)
   have y__12 : (0 : Int) ≤ ((arr_0.Mesh.Triangles.getD x_l0.toNat default).getD (Int.tmod (x_l0_1 + 1) 3).toNat default) := (by have q := Z1N hp5.e (by assumption) (of_decide_eq_true Z1z) (by assumption) gh__0; omega)
   have y__13 : ((arr_0.Mesh.Triangles.getD x_l0.toNat default).getD (Int.tmod (x_l0_1 + 1) 3).toNat default) < (arr_0.Mesh.Places.length : Int) := (by have q := Z1N hp5.e (by assumption) (of_decide_eq_true Z1z) (by assumption) gh__0; omega)
   have y__14 : r2_l1_1.length ≤ 1073741824 := (by omega)
   have y__15 : 0 ≤ ((arr_0.Mesh.Triangles.getD x_l0.toNat default).getD x_l0_1.toNat default) := (by have q := Z1N hp5.e (by assumption) (of_decide_eq_true Z1z) (by assumption) gh__0; omega)
   have y__16 : ((arr_0.Mesh.Triangles.getD x_l0.toNat default).getD x_l0_1.toNat default) < (r2_l1_1.length : Int) := (by have q := Z1N hp5.e (by assumption) (of_decide_eq_true Z1z) (by assumption) gh__0; omega)
   have e : ZS arr_0 x_l0 r2_l1 (k + 1) x_l0_1 r2_l1_1 = (ZS arr_0 x_l0 r2_l1 k (x_l0_1 + 1) (Z2C arr_0 x_l0 x_l0_1 r2_l1_1)) := by simp only [ZS, h__0, cond_true]
   rw [e]
   exact nextR E0Ok Z4 [] Z5X [0, 1, 2, 3] (ih (x_l0_1 + 1) (Z2C arr_0 x_l0 x_l0_1 r2_l1_1) (show 0 ≤ (x_l0_1 + 1) from (by omega)) (show (Z2C arr_0 x_l0 x_l0_1 r2_l1_1).length = r2_l1.length from (by simp_all <;> omega)) (by omega)) (sB h__0 <| sK [13, 13] <| sI (x_l0_1 + 1) y__0 y__1 <| sC (show (3 : Int) ≠ 0 from (by decide)) <| sQ (Int.tmod (x_l0_1 + 1) 3) <| sG (cI .i64) (arr_0.Mesh.Triangles.getD x_l0.toNat default) (Int.tmod (x_l0_1 + 1) 3) y__2 y__3 <| sI (x_l0_1 + 2) y__4 y__5 <| sC (show (3 : Int) ≠ 0 from (by decide)) <| sQ (Int.tmod (x_l0_1 + 2) 3) <| sG (cI .i64) (arr_0.Mesh.Triangles.getD x_l0.toNat default) (Int.tmod (x_l0_1 + 2) 3) y__6 y__7 <| sK [17, 17] <| sG (cI .i64) (arr_0.Mesh.Triangles.getD x_l0.toNat default) x_l0_1 y__8 y__9 <| sG GVector.cells arr_0.Mesh.Places ((arr_0.Mesh.Triangles.getD x_l0.toNat default).getD (Int.tmod (x_l0_1 + 2) 3).toNat default) y__10 y__11 <| sG GVector.cells arr_0.Mesh.Places ((arr_0.Mesh.Triangles.getD x_l0.toNat default).getD (Int.tmod (x_l0_1 + 1) 3).toNat default) y__12 y__13 <| sF (Z35 (arr_0.Mesh.Places.getD ((arr_0.Mesh.Triangles.getD x_l0.toNat default).getD (Int.tmod (x_l0_1 + 2) 3).toNat default).toNat default) (arr_0.Mesh.Places.getD ((arr_0.Mesh.Triangles.getD x_l0.toNat default).getD (Int.tmod (x_l0_1 + 1) 3).toNat default).toNat default)) <| sF (Z6p (Z7 arr_0.Mesh (arr_0.Mesh.Triangles.getD x_l0.toNat default)) (Z1A arr_0 x_l0 x_l0_1)) <| sS (CallSt.frame (Z1p ((arr_0.Mesh.Triangles.getD x_l0.toNat default).getD x_l0_1.toNat default) (Z1Q (Z7 arr_0.Mesh (arr_0.Mesh.Triangles.getD x_l0.toNat default)) (Z1A arr_0 x_l0 x_l0_1)) 0 r2_l1_1 y__14 y__15 y__16) [1, 2] (R := [.box 42 [.sl (arr_0.Mesh.Places.map GVector.cells), .sl (arr_0.Mesh.Triangles.map (cL (cI .i64))), .sl (arr_0.Springs.map GSpring.cells), .f .f32 arr_0.Film, .f .f32 arr_0.Bend, .sl (arr_0.Weights.map (cF .f32)), .f .f32 arr_0.Fall.X, .f .f32 arr_0.Fall.Y, .f .f32 arr_0.Fall.Z], .box 34 [.own 2], .vec 40 3 (r2_l1_1.map GVector.cells) false, .box 40 [.f .f32 ((Z7 arr_0.Mesh (arr_0.Mesh.Triangles.getD x_l0.toNat default)).X), .f .f32 ((Z7 arr_0.Mesh (arr_0.Mesh.Triangles.getD x_l0.toNat default)).Y), .f .f32 ((Z7 arr_0.Mesh (arr_0.Mesh.Triangles.getD x_l0.toNat default)).Z)]]) (args' := [.i .i64 ((arr_0.Mesh.Triangles.getD x_l0.toNat default).getD x_l0_1.toNat default), .agg [.f .f32 ((Z1Q (Z7 arr_0.Mesh (arr_0.Mesh.Triangles.getD x_l0.toNat default)) (Z1A arr_0 x_l0 x_l0_1)).X), .f .f32 ((Z1Q (Z7 arr_0.Mesh (arr_0.Mesh.Triangles.getD x_l0.toNat default)) (Z1A arr_0 x_l0 x_l0_1)).Y), .f .f32 ((Z1Q (Z7 arr_0.Mesh (arr_0.Mesh.Triangles.getD x_l0.toNat default)) (Z1A arr_0 x_l0 x_l0_1)).Z)], .f .f32 0, .ptr 1 0 0]) rfl rfl rfl rfl rfl rfl) <| sI (x_l0_1 + 1) y__0 y__1 <| sN) (by kernel_rfl)
  | false =>
   have gh__0 := of_decide_eq_false h__0
   have e : ZS arr_0 x_l0 r2_l1 (k + 1) x_l0_1 r2_l1_1 = r2_l1_1 := by simp only [ZS, h__0, cond_false]
   rw [e]
   exact outR (e := (.exit 4)) E0Ok Z4 [] Z7S [0, 1, 3, 2] (sB h__0 <| sN) (by kernel_rfl) (by intro h; cases h)
theorem Z7T (arr_0 : GBody) (x_l0 : Int) (r2_l1 : (List GVector)) : ∀ (k : Nat) (x_l0_1 : Int) (r2_l1_1 : (List GVector)) (hk : ((3 : Int) - x_l0_1).toNat < k), (ZS arr_0 x_l0 r2_l1 k x_l0_1 r2_l1_1).length = r2_l1_1.length := by
  intro k
  induction k with
  | zero => intro x_l0_1 r2_l1_1 hk; exact absurd hk (Nat.not_lt_zero _)
  | succ k ih =>
    intro x_l0_1 r2_l1_1 hk
    cases h__0 : (decide (x_l0_1 < 3)) with
    | true =>
      have e : ZS arr_0 x_l0 r2_l1 (k + 1) x_l0_1 r2_l1_1 = (ZS arr_0 x_l0 r2_l1 k (x_l0_1 + 1) (Z2C arr_0 x_l0 x_l0_1 r2_l1_1)) := by simp only [ZS, h__0, cond_true]
      rw [e, ih (x_l0_1 + 1) (Z2C arr_0 x_l0 x_l0_1 r2_l1_1) (by simp_all <;> omega)]; simp
    | false =>
      have e : ZS arr_0 x_l0 r2_l1 (k + 1) x_l0_1 r2_l1_1 = r2_l1_1 := by simp only [ZS, h__0, cond_false]
      first | (rw [e]; done) | (rw [e]; rfl)
def Z1Z (arr_0 : GBody) (x_l0 : Int) (r2_l1 : (List GVector)) : (List GVector) := (ZS arr_0 x_l0 r2_l1 (((3 : Int) - 0).toNat + 1) 0 r2_l1)
@[simp] theorem Zas (arr_0 : GBody) (x_l0 : Int) (r2_l1 : (List GVector)) : (Z1Z arr_0 x_l0 r2_l1).length = (r2_l1 : (List GVector)).length := Z7T arr_0 x_l0 r2_l1 (((3 : Int) - 0).toNat + 1) 0 r2_l1 (by exact Nat.lt_succ_self _)
def Zm (arr_0 : GBody) : Nat → Int → (List GVector) → (List GVector)
  | 0, _, _ => default
  | k + 1, x_l0, r2_l1 => (cond (decide (x_l0 < (arr_0.Mesh.Triangles.length : Int)))
    (cond (fcmp .gtr .f32 (Zj (Z7 arr_0.Mesh (arr_0.Mesh.Triangles.getD x_l0.toNat default))) 0)
      (Zm arr_0 k (x_l0 + 1) (Z1Y arr_0 x_l0 r2_l1))
      (Zm arr_0 k (x_l0 + 1) (Z1Z arr_0 x_l0 r2_l1)))
    r2_l1)
def Z4X (arr_0 : GBody) (r : (List GVector)) : Ex × St := ((.exit 2), ⟨.agg [.sl (arr_0.Mesh.Places.map GVector.cells), .sl (arr_0.Mesh.Triangles.map (cL (cI .i64))), .sl (arr_0.Springs.map GSpring.cells), .f .f32 arr_0.Film, .f .f32 arr_0.Bend, .sl (arr_0.Weights.map (cF .f32)), .f .f32 arr_0.Fall.X, .f .f32 arr_0.Fall.Y, .f .f32 arr_0.Fall.Z] :: .ptr 0 0 0 :: .nils :: .ptr 1 0 0 :: .fn 106 [.ptr 1 0 0] :: an 18 (.ptr 0 0 0 :: .ptr 0 0 0 :: .sl (arr_0.Mesh.Places.map GVector.cells) :: .i .i64 (arr_0.Mesh.Places.length : Int) :: .own 2 :: .fn 106 [.ptr 1 0 0] :: .ptr 0 0 2 :: .sl (arr_0.Springs.map GSpring.cells) :: an 25 (.ptr 0 0 0 :: .ptr 0 0 0 :: .sl (arr_0.Mesh.Places.map GVector.cells) :: .ptr 0 0 0 :: .ptr 0 0 1 :: .sl (arr_0.Mesh.Triangles.map (cL (cI .i64))) :: an 117 [])), [.box 42 [.sl (arr_0.Mesh.Places.map GVector.cells), .sl (arr_0.Mesh.Triangles.map (cL (cI .i64))), .sl (arr_0.Springs.map GSpring.cells), .f .f32 arr_0.Film, .f .f32 arr_0.Bend, .sl (arr_0.Weights.map (cF .f32)), .f .f32 arr_0.Fall.X, .f .f32 arr_0.Fall.Y, .f .f32 arr_0.Fall.Z], .box 34 [.own 2], .vec 40 3 (r.map GVector.cells) false]⟩)
def Z8K (arr_0 : GBody) (x_l0 : Int) (r2_l1 : (List GVector)) : St := ⟨.agg [.sl (arr_0.Mesh.Places.map GVector.cells), .sl (arr_0.Mesh.Triangles.map (cL (cI .i64))), .sl (arr_0.Springs.map GSpring.cells), .f .f32 arr_0.Film, .f .f32 arr_0.Bend, .sl (arr_0.Weights.map (cF .f32)), .f .f32 arr_0.Fall.X, .f .f32 arr_0.Fall.Y, .f .f32 arr_0.Fall.Z] :: .ptr 0 0 0 :: .nils :: .ptr 1 0 0 :: .fn 106 [.ptr 1 0 0] :: an 4 (.sl (arr_0.Mesh.Places.map GVector.cells) :: an 13 (.ptr 0 0 0 :: .ptr 0 0 0 :: .sl (arr_0.Mesh.Places.map GVector.cells) :: .i .i64 (arr_0.Mesh.Places.length : Int) :: .own 2 :: .fn 106 [.ptr 1 0 0] :: .ptr 0 0 2 :: .sl (arr_0.Springs.map GSpring.cells) :: an 25 (.ptr 0 0 0 :: .ptr 0 0 0 :: .sl (arr_0.Mesh.Places.map GVector.cells) :: .ptr 0 0 0 :: .ptr 0 0 1 :: .sl (arr_0.Mesh.Triangles.map (cL (cI .i64))) :: .i .i64 (arr_0.Mesh.Triangles.length : Int) :: .i .i64 x_l0 :: an 115 []))), [.box 42 [.sl (arr_0.Mesh.Places.map GVector.cells), .sl (arr_0.Mesh.Triangles.map (cL (cI .i64))), .sl (arr_0.Springs.map GSpring.cells), .f .f32 arr_0.Film, .f .f32 arr_0.Bend, .sl (arr_0.Weights.map (cF .f32)), .f .f32 arr_0.Fall.X, .f .f32 arr_0.Fall.Y, .f .f32 arr_0.Fall.Z], .box 34 [.own 2], .vec 40 3 (r2_l1.map GVector.cells) false]⟩
def Z4n : List Bool := (mR false [0, 5, 4, 1, 13, 8, 25, 8, 115])
theorem Z8L (arr_0 : GBody) (hp0 : arr_0.Mesh.Places.length ≤ 1073741824) (hp1 : arr_0.Mesh.Triangles.length ≤ 1073741824) (hp2 : ∀ t ∈ arr_0.Mesh.Triangles, t.length ≤ 1073741824) (hp3 : arr_0.Springs.length ≤ 1073741824) (hp4 : arr_0.Weights.length ≤ 1073741824) (hp5 : OkBd arr_0) : ∀ (k : Nat) (x_l0 : Int) (r2_l1 : (List GVector)) (Z2Q : 0 ≤ x_l0) (Z2R : r2_l1.length = arr_0.Mesh.Places.length) (hk : ((arr_0.Mesh.Triangles.length : Int) - x_l0).toNat < k), Lp prog 0 (sub (bodyOf f57) [1, 1, 1, 1, 1, 0, 1, 0, 0]) (Z8K arr_0 x_l0 r2_l1) (Z4X arr_0 (Zm arr_0 k x_l0 r2_l1)).1 (Z4X arr_0 (Zm arr_0 k x_l0 r2_l1)).2 := by
 intro k
 induction k with
 | zero => intro x_l0 r2_l1 Z2Q Z2R hk; exact absurd hk (Nat.not_lt_zero _)
 | succ k ih =>
  intro x_l0 r2_l1 Z2Q Z2R hk
  cases h_0 : (decide (x_l0 < (arr_0.Mesh.Triangles.length : Int))) with
  | true =>
   have gh_0 := of_decide_eq_true h_0
   have y_0 : (0 : Int) ≤ x_l0 := (by assumption)
   have y_1 : x_l0 < (arr_0.Mesh.Triangles.length : Int) := (by assumption)
   have y_2 : (arr_0.Mesh.Triangles.getD x_l0.toNat default).length ≤ 1073741824 := (by exact tri3L hp5.e (by assumption) h_0)
   have y_3 : (arr_0.Mesh.Triangles.getD x_l0.toNat default).length = 3 ∧ ∀ x ∈ (arr_0.Mesh.Triangles.getD x_l0.toNat default), 0 ≤ x ∧ x < (arr_0.Mesh.Places.length : Int) := (by exact tri3 hp5.e (by assumption) h_0)
   have p {a C} (s : Scr a C) := sB h_0 <| sG (cL (cI .i64)) arr_0.Mesh.Triangles x_l0 y_0 y_1 <| sF (Z9Q arr_0.Mesh (arr_0.Mesh.Triangles.getD x_l0.toNat default) hp0 hp1 hp2 y_2 y_3) <| sF (Z82 (Z7 arr_0.Mesh (arr_0.Mesh.Triangles.getD x_l0.toNat default))) <| s
   cases h_1 : (fcmp .gtr .f32 (Zj (Z7 arr_0.Mesh (arr_0.Mesh.Triangles.getD x_l0.toNat default))) 0) with
   | true =>
    have y_4 : (-9223372036854775808 : Int) ≤ (x_l0 + 1) := by clear p; exact (by omega)
    have y_5 : (x_l0 + 1) ≤ (9223372036854775807 : Int) := by clear p; exact (by omega)
    have e : Zm arr_0 (k + 1) x_l0 r2_l1 = (Zm arr_0 k (x_l0 + 1) (Z1Y arr_0 x_l0 r2_l1)) := by simp only [Zm, h_0, h_1, cond_true]
    rw [e]
    exact nextR E0Ok Z4 [] Z4n [0, 1, 3] (ih (x_l0 + 1) (Z1Y arr_0 x_l0 r2_l1) (show 0 ≤ (x_l0 + 1) from (by omega)) (show (Z1Y arr_0 x_l0 r2_l1).length = arr_0.Mesh.Places.length from (by simp_all <;> omega)) (by omega)) (p (sB h_1 <| sL Z5U 4 (lp_val (Z4V arr_0 x_l0 r2_l1) (x := (Z1Y arr_0 x_l0 r2_l1)) (Z8H arr_0 x_l0 r2_l1 hp0 hp1 hp2 hp3 hp4 hp5 Z2Q Z2R h_0 (((3 : Int) - 0).toNat + 1) 0 r2_l1 (show 0 ≤ 0 from (by omega)) (show r2_l1.length = r2_l1.length from (by omega)) (Nat.lt_succ_self _)) rfl) <| sI (x_l0 + 1) y_4 y_5 <| sN)) (by kernel_rfl)
   | false =>
    have y_4 : (-9223372036854775808 : Int) ≤ (x_l0 + 1) := by clear p; exact (by omega)
    have y_5 : (x_l0 + 1) ≤ (9223372036854775807 : Int) := by clear p; exact (by omega)
    have e : Zm arr_0 (k + 1) x_l0 r2_l1 = (Zm arr_0 k (x_l0 + 1) (Z1Z arr_0 x_l0 r2_l1)) := by simp only [Zm, h_0, h_1, cond_true, cond_false]
    rw [e]
    exact nextR E0Ok Z4 [] Z4n [0, 1, 3] (ih (x_l0 + 1) (Z1Z arr_0 x_l0 r2_l1) (show 0 ≤ (x_l0 + 1) from (by omega)) (show (Z1Z arr_0 x_l0 r2_l1).length = arr_0.Mesh.Places.length from (by simp_all <;> omega)) (by omega)) (p (sB h_1 <| sL Z5X 4 (lp_val (Z4W arr_0 x_l0 r2_l1) (x := (Z1Z arr_0 x_l0 r2_l1)) (Z8J arr_0 x_l0 r2_l1 hp0 hp1 hp2 hp3 hp4 hp5 Z2Q Z2R h_0 (((3 : Int) - 0).toNat + 1) 0 r2_l1 (show 0 ≤ 0 from (by omega)) (show r2_l1.length = r2_l1.length from (by omega)) (Nat.lt_succ_self _)) rfl) <| sI (x_l0 + 1) y_4 y_5 <| sN)) (by kernel_rfl)
  | false =>
   have gh_0 := of_decide_eq_false h_0
   have e : Zm arr_0 (k + 1) x_l0 r2_l1 = r2_l1 := by simp only [Zm, h_0, cond_false]
   rw [e]
   exact outR (e := (.exit 2)) E0Ok Z4 [] (mR false [0, 5, 18, 8, 25, 6, 117]) [0, 1, 2] (sB h_0 <| sN) (by kernel_rfl) (by intro h; cases h)
theorem Z7U (arr_0 : GBody) : ∀ (k : Nat) (x_l0 : Int) (r2_l1 : (List GVector)) (hk : ((arr_0.Mesh.Triangles.length : Int) - x_l0).toNat < k), (Zm arr_0 k x_l0 r2_l1).length = r2_l1.length := by
  intro k
  induction k with
  | zero => intro x_l0 r2_l1 hk; exact absurd hk (Nat.not_lt_zero _)
  | succ k ih =>
    intro x_l0 r2_l1 hk
    cases h_0 : (decide (x_l0 < (arr_0.Mesh.Triangles.length : Int))) with
    | true =>
      cases h_1 : (fcmp .gtr .f32 (Zj (Z7 arr_0.Mesh (arr_0.Mesh.Triangles.getD x_l0.toNat default))) 0) with
      | true =>
        have e : Zm arr_0 (k + 1) x_l0 r2_l1 = (Zm arr_0 k (x_l0 + 1) (Z1Y arr_0 x_l0 r2_l1)) := by simp only [Zm, h_0, h_1, cond_true]
        rw [e, ih (x_l0 + 1) (Z1Y arr_0 x_l0 r2_l1) (by simp_all <;> omega)]; simp
      | false =>
        have e : Zm arr_0 (k + 1) x_l0 r2_l1 = (Zm arr_0 k (x_l0 + 1) (Z1Z arr_0 x_l0 r2_l1)) := by simp only [Zm, h_0, h_1, cond_true, cond_false]
        rw [e, ih (x_l0 + 1) (Z1Z arr_0 x_l0 r2_l1) (by simp_all <;> omega)]; simp
    | false =>
      have e : Zm arr_0 (k + 1) x_l0 r2_l1 = r2_l1 := by simp only [Zm, h_0, cond_false]
      first | (rw [e]; done) | (rw [e]; rfl)
def Z2l (arr_0 : GBody) : (List GVector) := (Zm arr_0 (((arr_0.Mesh.Triangles.length : Int) - 0).toNat + 1) 0 (Z2k arr_0))
@[simp] theorem Zat (arr_0 : GBody) : (Z2l arr_0).length = ((Z2k arr_0) : (List GVector)).length := Z7U arr_0 (((arr_0.Mesh.Triangles.length : Int) - 0).toNat + 1) 0 (Z2k arr_0) (by exact Nat.lt_succ_self _)
def Z2m (arr_0 : GBody) (x_l0 : Int) (r2_l1 : (List GVector)) : (List GVector) := (Zk (((Z5 arr_0.Mesh).getD x_l0.toNat default).getD 0 default) (Zl arr_0.Mesh ((Z5 arr_0.Mesh).getD x_l0.toNat default)) arr_0.Bend r2_l1)
@[simp] theorem Z2H (arr_0 : GBody) (x_l0 : Int) (r2_l1 : (List GVector)) : (Z2m arr_0 x_l0 r2_l1).length = r2_l1.length := by unfold Z2m; simp
def Z29 (arr_0 : GBody) (x_l0 : Int) (r2_l1 : (List GVector)) : (List GVector) := (Zk (((Z5 arr_0.Mesh).getD x_l0.toNat default).getD 1 default) (Zl arr_0.Mesh ((Z5 arr_0.Mesh).getD x_l0.toNat default)) arr_0.Bend (Z2m arr_0 x_l0 r2_l1))
@[simp] theorem Z2E (arr_0 : GBody) (x_l0 : Int) (r2_l1 : (List GVector)) : (Z29 arr_0 x_l0 r2_l1).length = (Z2m arr_0 x_l0 r2_l1).length := by unfold Z29; simp
def Z2a (arr_0 : GBody) (x_l0 : Int) (r2_l1 : (List GVector)) : (List GVector) := (Zk (((Z5 arr_0.Mesh).getD x_l0.toNat default).getD 2 default) (Zl arr_0.Mesh ((Z5 arr_0.Mesh).getD x_l0.toNat default)) (fneg .f32 arr_0.Bend) (Z29 arr_0 x_l0 r2_l1))
@[simp] theorem Z2F (arr_0 : GBody) (x_l0 : Int) (r2_l1 : (List GVector)) : (Z2a arr_0 x_l0 r2_l1).length = (Z29 arr_0 x_l0 r2_l1).length := by unfold Z2a; simp
def Z2b (arr_0 : GBody) (x_l0 : Int) (r2_l1 : (List GVector)) : (List GVector) := (Zk (((Z5 arr_0.Mesh).getD x_l0.toNat default).getD 3 default) (Zl arr_0.Mesh ((Z5 arr_0.Mesh).getD x_l0.toNat default)) (fneg .f32 arr_0.Bend) (Z2a arr_0 x_l0 r2_l1))
@[simp] theorem ZaK (arr_0 : GBody) (x_l0 : Int) (r2_l1 : (List GVector)) : (Z2b arr_0 x_l0 r2_l1).length = (Z2a arr_0 x_l0 r2_l1).length := by unfold Z2b; simp
def ZJ (arr_0 : GBody) : Nat → Int → (List GVector) → (List GVector)
  | 0, _, _ => default
  | k + 1, x_l0, r2_l1 => (cond (decide (x_l0 < ((Z5 arr_0.Mesh).length : Int)))
    (ZJ arr_0 k (x_l0 + 1) (Z2b arr_0 x_l0 r2_l1))
    r2_l1)
def Z4Y (arr_0 : GBody) (r : (List GVector)) : Ex × St := ((.exit 6), ⟨.agg [.sl (arr_0.Mesh.Places.map GVector.cells), .sl (arr_0.Mesh.Triangles.map (cL (cI .i64))), .sl (arr_0.Springs.map GSpring.cells), .f .f32 arr_0.Film, .f .f32 arr_0.Bend, .sl (arr_0.Weights.map (cF .f32)), .f .f32 arr_0.Fall.X, .f .f32 arr_0.Fall.Y, .f .f32 arr_0.Fall.Z] :: .ptr 0 0 0 :: .nils :: .ptr 1 0 0 :: .fn 106 [.ptr 1 0 0] :: an 18 (.ptr 0 0 0 :: .ptr 0 0 0 :: .sl (arr_0.Mesh.Places.map GVector.cells) :: .i .i64 (arr_0.Mesh.Places.length : Int) :: .own 2 :: .fn 106 [.ptr 1 0 0] :: .ptr 0 0 2 :: .sl (arr_0.Springs.map GSpring.cells) :: an 25 (.ptr 0 0 0 :: .ptr 0 0 0 :: .sl (arr_0.Mesh.Places.map GVector.cells) :: .ptr 0 0 0 :: .ptr 0 0 1 :: .sl (arr_0.Mesh.Triangles.map (cL (cI .i64))) :: an 54 (.ptr 0 0 0 :: .agg [.sl (arr_0.Mesh.Places.map GVector.cells), .sl (arr_0.Mesh.Triangles.map (cL (cI .i64)))] :: .own 3 :: an 60 []))), [.box 42 [.sl (arr_0.Mesh.Places.map GVector.cells), .sl (arr_0.Mesh.Triangles.map (cL (cI .i64))), .sl (arr_0.Springs.map GSpring.cells), .f .f32 arr_0.Film, .f .f32 arr_0.Bend, .sl (arr_0.Weights.map (cF .f32)), .f .f32 arr_0.Fall.X, .f .f32 arr_0.Fall.Y, .f .f32 arr_0.Fall.Z], .box 34 [.own 2], .vec 40 3 (r.map GVector.cells) false, .nest 49 ((Z5 arr_0.Mesh).map fun l => l.map (cI .i64)) false]⟩)
def Z8M (arr_0 : GBody) (x_l0 : Int) (r2_l1 : (List GVector)) : St := ⟨.agg [.sl (arr_0.Mesh.Places.map GVector.cells), .sl (arr_0.Mesh.Triangles.map (cL (cI .i64))), .sl (arr_0.Springs.map GSpring.cells), .f .f32 arr_0.Film, .f .f32 arr_0.Bend, .sl (arr_0.Weights.map (cF .f32)), .f .f32 arr_0.Fall.X, .f .f32 arr_0.Fall.Y, .f .f32 arr_0.Fall.Z] :: .ptr 0 0 0 :: .nils :: .ptr 1 0 0 :: .fn 106 [.ptr 1 0 0] :: an 18 (.ptr 0 0 0 :: .ptr 0 0 0 :: .sl (arr_0.Mesh.Places.map GVector.cells) :: .i .i64 (arr_0.Mesh.Places.length : Int) :: .own 2 :: .fn 106 [.ptr 1 0 0] :: .ptr 0 0 2 :: .sl (arr_0.Springs.map GSpring.cells) :: an 25 (.ptr 0 0 0 :: .ptr 0 0 0 :: .sl (arr_0.Mesh.Places.map GVector.cells) :: .ptr 0 0 0 :: .ptr 0 0 1 :: .sl (arr_0.Mesh.Triangles.map (cL (cI .i64))) :: an 54 (.ptr 0 0 0 :: .agg [.sl (arr_0.Mesh.Places.map GVector.cells), .sl (arr_0.Mesh.Triangles.map (cL (cI .i64)))] :: .own 3 :: .i .i64 ((Z5 arr_0.Mesh).length : Int) :: .i .i64 x_l0 :: an 58 []))), [.box 42 [.sl (arr_0.Mesh.Places.map GVector.cells), .sl (arr_0.Mesh.Triangles.map (cL (cI .i64))), .sl (arr_0.Springs.map GSpring.cells), .f .f32 arr_0.Film, .f .f32 arr_0.Bend, .sl (arr_0.Weights.map (cF .f32)), .f .f32 arr_0.Fall.X, .f .f32 arr_0.Fall.Y, .f .f32 arr_0.Fall.Z], .box 34 [.own 2], .vec 40 3 (r2_l1.map GVector.cells) false, .nest 49 ((Z5 arr_0.Mesh).map fun l => l.map (cI .i64)) false]⟩
def Z60 : List Bool := (mR false [0, 5, 18, 8, 25, 6, 54, 5, 58])
def Z7V : List Bool := (mR false [0, 5, 18, 8, 25, 6, 54, 3, 60])
set_option maxHeartbeats 1000000 in
theorem Z8N (arr_0 : GBody) (hp0 : arr_0.Mesh.Places.length ≤ 1073741824) (hp1 : arr_0.Mesh.Triangles.length ≤ 1073741824) (hp2 : ∀ t ∈ arr_0.Mesh.Triangles, t.length ≤ 1073741824) (hp3 : arr_0.Springs.length ≤ 1073741824) (hp4 : arr_0.Weights.length ≤ 1073741824) (hp5 : OkBd arr_0) : ∀ (k : Nat) (x_l0 : Int) (r2_l1 : (List GVector)) (Z61 : 0 ≤ x_l0) (Z62 : r2_l1.length = arr_0.Mesh.Places.length) (hk : (((Z5 arr_0.Mesh).length : Int) - x_l0).toNat < k), Lp prog 0 (sub (bodyOf f57) [1, 1, 1, 1, 1, 1, 0, 1, 0, 0]) (Z8M arr_0 x_l0 r2_l1) (Z4Y arr_0 (ZJ arr_0 k x_l0 r2_l1)).1 (Z4Y arr_0 (ZJ arr_0 k x_l0 r2_l1)).2 := by
 intro k
 induction k with
 | zero => intro x_l0 r2_l1 Z61 Z62 hk; exact absurd hk (Nat.not_lt_zero _)
 | succ k ih =>
  intro x_l0 r2_l1 Z61 Z62 hk
  cases h_0 : (decide (x_l0 < ((Z5 arr_0.Mesh).length : Int))) with
  | true =>
   have gh_0 := of_decide_eq_true h_0
   have y_0 : (0 : Int) ≤ x_l0 := (by assumption)
   have y_1 : Int.toNat x_l0 < (Z5 arr_0.Mesh).length := (by omega)
   have y_2 : x_l0.toNat < (Z5 arr_0.Mesh).length := (by assumption)
   have y_3 : ((Z5 arr_0.Mesh).getD x_l0.toNat default).length ≤ 1073741824 := (by exact ZbH hp5.e (by assumption) h_0)
   have y_4 : ((Z5 arr_0.Mesh).getD x_l0.toNat default).length = 4 ∧ ∀ x ∈ ((Z5 arr_0.Mesh).getD x_l0.toNat default), 0 ≤ x ∧ x < (arr_0.Mesh.Places.length : Int) := (by exact Z51 hp5.e (by assumption) h_0)
   have y_5 : (0 : Int) ≤ 0 := (by omega)
   have y_6 : 0 < (((Z5 arr_0.Mesh).getD x_l0.toNat default).length : Int) := (by omega)
   have y_7 : 0 < ((Z5 arr_0.Mesh).getD x_l0.toNat default).length := (by omega)
   have y_8 : r2_l1.length ≤ 1073741824 := (by omega)
   have y_9 : 0 ≤ (((Z5 arr_0.Mesh).getD x_l0.toNat default).getD 0 default) := (by (have q := Okh.at (Z51 hp5.e (by assumption) h_0); omega))
   have y_10 : (((Z5 arr_0.Mesh).getD x_l0.toNat default).getD 0 default) < (r2_l1.length : Int) := (by (have q := Okh.at (Z51 hp5.e (by assumption) h_0); omega))
   have y_11 : (0 : Int) ≤ 1 := (by omega)
   have y_12 : 1 < (((Z5 arr_0.Mesh).getD x_l0.toNat default).length : Int) := (by omega)
   have y_13 : 1 < ((Z5 arr_0.Mesh).getD x_l0.toNat default).length := (by omega)
   have y_14 : (Z2m arr_0 x_l0 r2_l1).length ≤ 1073741824 := (by (have q := Okh.at (Z51 hp5.e (by assumption) h_0); (simp only [Z2H, Z2E, Z2F]; omega)))
   have y_15 : 0 ≤ (((Z5 arr_0.Mesh).getD x_l0.toNat default).getD 1 default) := (by (have q := Okh.at (Z51 hp5.e (by assumption) h_0); omega))
   have y_16 : (((Z5 arr_0.Mesh).getD x_l0.toNat default).getD 1 default) < ((Z2m arr_0 x_l0 r2_l1).length : Int) := (by (have q := Okh.at (Z51 hp5.e (by assumption) h_0); (simp only [Z2H, Z2E, Z2F]; omega)))
   have y_17 : (0 : Int) ≤ 2 := (by omega)
   have y_18 : 2 < (((Z5 arr_0.Mesh).getD x_l0.toNat default).length : Int) := (by omega)
   have y_19 : 2 < ((Z5 arr_0.Mesh).getD x_l0.toNat default).length := (by omega)
   have y_20 : (Z29 arr_0 x_l0 r2_l1).length ≤ 1073741824 := (by (have q := Okh.at (Z51 hp5.e (by assumption) h_0); (simp only [Z2H, Z2E, Z2F]; omega)))
   have y_21 : 0 ≤ (((Z5 arr_0.Mesh).getD x_l0.toNat default).getD 2 default) := (by (have q := Okh.at (Z51 hp5.e (by assumption) h_0); omega))
   have y_22 : (((Z5 arr_0.Mesh).getD x_l0.toNat default).getD 2 default) < ((Z29 arr_0 x_l0 r2_l1).length : Int) := (by (have q := Okh.at (Z51 hp5.e (by assumption) h_0); (simp only [Z2H, Z2E, Z2F]; omega)))
   have y_23 : (0 : Int) ≤ 3 := (by omega)
   have y_24 : 3 < (((Z5 arr_0.Mesh).getD x_l0.toNat default).length : Int) := (by omega)
   have y_25 : 3 < ((Z5 arr_0.Mesh).getD x_l0.toNat default).length := (by omega)
   have y_26 : (Z2a arr_0 x_l0 r2_l1).length ≤ 1073741824 := (by (have q := Okh.at (Z51 hp5.e (by assumption) h_0); (simp only [Z2H, Z2E, Z2F]; omega)))
   have y_27 : 0 ≤ (((Z5 arr_0.Mesh).getD x_l0.toNat default).getD 3 default) := (by (have q := Okh.at (Z51 hp5.e (by assumption) h_0); omega))
   have y_28 : (((Z5 arr_0.Mesh).getD x_l0.toNat default).getD 3 default) < ((Z2a arr_0 x_l0 r2_l1).length : Int) := (by (have q := Okh.at (Z51 hp5.e (by assumption) h_0); (simp only [Z2H, Z2E, Z2F]; omega)))
   have y_29 : (-9223372036854775808 : Int) ≤ (x_l0 + 1) := (by omega)
   have y_30 : (x_l0 + 1) ≤ (9223372036854775807 : Int) := (by have q := Z94 _ hp5.e; omega)
   have e : ZJ arr_0 (k + 1) x_l0 r2_l1 = (ZJ arr_0 k (x_l0 + 1) (Z2b arr_0 x_l0 r2_l1)) := by simp only [ZJ, h_0, cond_true]
   rw [e]
   exact nextR E0Ok Z4 [] Z60 [0, 1, 2, 3] (ih (x_l0 + 1) (Z2b arr_0 x_l0 r2_l1) (show 0 ≤ (x_l0 + 1) from (by omega)) (show (Z2b arr_0 x_l0 r2_l1).length = arr_0.Mesh.Places.length from (by simp_all <;> omega)) (by omega)) (sB h_0 <| sC (nestix (c := (cI .i64)) (l := (Z5 arr_0.Mesh)) (i := x_l0) y_0 y_1) <| sC (nestlt (c := (cI .i64)) (l := (Z5 arr_0.Mesh)) y_2) <| sF (Fn.castA (args' := [.agg [.sl (arr_0.Mesh.Places.map GVector.cells), .sl (arr_0.Mesh.Triangles.map (cL (cI .i64)))], .sl (((Z5 arr_0.Mesh).map fun l => l.map (cI .i64)).getD x_l0.toNat [])]) (Zap arr_0.Mesh ((Z5 arr_0.Mesh).getD x_l0.toNat default) hp0 hp1 hp2 y_3 y_4) (by simp [cI]; done)) <| sK [7, 7] <| sC (iidx_ok (c := (cI .i64)) (l := (Z5 arr_0.Mesh)) (j := x_l0.toNat) (i := 0) y_5 y_6) <| sE (iget_ok (c := (cI .i64)) (l := (Z5 arr_0.Mesh)) (j := x_l0.toNat) (k := 0) y_7) <| sS (CallSt.frame (Z1p (((Z5 arr_0.Mesh).getD x_l0.toNat default).getD 0 default) (Zl arr_0.Mesh ((Z5 arr_0.Mesh).getD x_l0.toNat default)) arr_0.Bend r2_l1 y_8 y_9 y_10) [1, 2] (R := [.box 42 [.sl (arr_0.Mesh.Places.map GVector.cells), .sl (arr_0.Mesh.Triangles.map (cL (cI .i64))), .sl (arr_0.Springs.map GSpring.cells), .f .f32 arr_0.Film, .f .f32 arr_0.Bend, .sl (arr_0.Weights.map (cF .f32)), .f .f32 arr_0.Fall.X, .f .f32 arr_0.Fall.Y, .f .f32 arr_0.Fall.Z], .box 34 [.own 2], .vec 40 3 (r2_l1.map GVector.cells) false, .nest 49 ((Z5 arr_0.Mesh).map fun l => l.map (cI .i64)) false, .box 40 [.f .f32 ((Zl arr_0.Mesh ((Z5 arr_0.Mesh).getD x_l0.toNat default)).X), .f .f32 ((Zl arr_0.Mesh ((Z5 arr_0.Mesh).getD x_l0.toNat default)).Y), .f .f32 ((Zl arr_0.Mesh ((Z5 arr_0.Mesh).getD x_l0.toNat default)).Z)]]) (args' := [.i .i64 (((Z5 arr_0.Mesh).getD x_l0.toNat default).getD 0 default), .agg [.f .f32 ((Zl arr_0.Mesh ((Z5 arr_0.Mesh).getD x_l0.toNat default)).X), .f .f32 ((Zl arr_0.Mesh ((Z5 arr_0.Mesh).getD x_l0.toNat default)).Y), .f .f32 ((Zl arr_0.Mesh ((Z5 arr_0.Mesh).getD x_l0.toNat default)).Z)], .f .f32 arr_0.Bend, .ptr 1 0 0]) rfl rfl rfl rfl rfl rfl) <| sK [7, 7] <| sC (iidx_ok (c := (cI .i64)) (l := (Z5 arr_0.Mesh)) (j := x_l0.toNat) (i := 1) y_11 y_12) <| sE (iget_ok (c := (cI .i64)) (l := (Z5 arr_0.Mesh)) (j := x_l0.toNat) (k := 1) y_13) <| sS (CallSt.frame (Z1p (((Z5 arr_0.Mesh).getD x_l0.toNat default).getD 1 default) (Zl arr_0.Mesh ((Z5 arr_0.Mesh).getD x_l0.toNat default)) arr_0.Bend (Z2m arr_0 x_l0 r2_l1) y_14 y_15 y_16) [1, 2] (R := [.box 42 [.sl (arr_0.Mesh.Places.map GVector.cells), .sl (arr_0.Mesh.Triangles.map (cL (cI .i64))), .sl (arr_0.Springs.map GSpring.cells), .f .f32 arr_0.Film, .f .f32 arr_0.Bend, .sl (arr_0.Weights.map (cF .f32)), .f .f32 arr_0.Fall.X, .f .f32 arr_0.Fall.Y, .f .f32 arr_0.Fall.Z], .box 34 [.own 2], .vec 40 3 ((Z2m arr_0 x_l0 r2_l1).map GVector.cells) false, .nest 49 ((Z5 arr_0.Mesh).map fun l => l.map (cI .i64)) false, .box 40 [.f .f32 ((Zl arr_0.Mesh ((Z5 arr_0.Mesh).getD x_l0.toNat default)).X), .f .f32 ((Zl arr_0.Mesh ((Z5 arr_0.Mesh).getD x_l0.toNat default)).Y), .f .f32 ((Zl arr_0.Mesh ((Z5 arr_0.Mesh).getD x_l0.toNat default)).Z)]]) (args' := [.i .i64 (((Z5 arr_0.Mesh).getD x_l0.toNat default).getD 1 default), .agg [.f .f32 ((Zl arr_0.Mesh ((Z5 arr_0.Mesh).getD x_l0.toNat default)).X), .f .f32 ((Zl arr_0.Mesh ((Z5 arr_0.Mesh).getD x_l0.toNat default)).Y), .f .f32 ((Zl arr_0.Mesh ((Z5 arr_0.Mesh).getD x_l0.toNat default)).Z)], .f .f32 arr_0.Bend, .ptr 1 0 0]) rfl rfl rfl rfl rfl rfl) <| sK [8, 8] <| sC (iidx_ok (c := (cI .i64)) (l := (Z5 arr_0.Mesh)) (j := x_l0.toNat) (i := 2) y_17 y_18) <| sE (iget_ok (c := (cI .i64)) (l := (Z5 arr_0.Mesh)) (j := x_l0.toNat) (k := 2) y_19) <| sS (CallSt.frame (Z1p (((Z5 arr_0.Mesh).getD x_l0.toNat default).getD 2 default) (Zl arr_0.Mesh ((Z5 arr_0.Mesh).getD x_l0.toNat default)) (fneg .f32 arr_0.Bend) (Z29 arr_0 x_l0 r2_l1) y_20 y_21 y_22) [1, 2] (R := [.box 42 [.sl (arr_0.Mesh.Places.map GVector.cells), .sl (arr_0.Mesh.Triangles.map (cL (cI .i64))), .sl (arr_0.Springs.map GSpring.cells), .f .f32 arr_0.Film, .f .f32 arr_0.Bend, .sl (arr_0.Weights.map (cF .f32)), .f .f32 arr_0.Fall.X, .f .f32 arr_0.Fall.Y, .f .f32 arr_0.Fall.Z], .box 34 [.own 2], .vec 40 3 ((Z29 arr_0 x_l0 r2_l1).map GVector.cells) false, .nest 49 ((Z5 arr_0.Mesh).map fun l => l.map (cI .i64)) false, .box 40 [.f .f32 ((Zl arr_0.Mesh ((Z5 arr_0.Mesh).getD x_l0.toNat default)).X), .f .f32 ((Zl arr_0.Mesh ((Z5 arr_0.Mesh).getD x_l0.toNat default)).Y), .f .f32 ((Zl arr_0.Mesh ((Z5 arr_0.Mesh).getD x_l0.toNat default)).Z)]]) (args' := [.i .i64 (((Z5 arr_0.Mesh).getD x_l0.toNat default).getD 2 default), .agg [.f .f32 ((Zl arr_0.Mesh ((Z5 arr_0.Mesh).getD x_l0.toNat default)).X), .f .f32 ((Zl arr_0.Mesh ((Z5 arr_0.Mesh).getD x_l0.toNat default)).Y), .f .f32 ((Zl arr_0.Mesh ((Z5 arr_0.Mesh).getD x_l0.toNat default)).Z)], .f .f32 (fneg .f32 arr_0.Bend), .ptr 1 0 0]) rfl rfl rfl rfl rfl rfl) <| sK [8, 8] <| sC (iidx_ok (c := (cI .i64)) (l := (Z5 arr_0.Mesh)) (j := x_l0.toNat) (i := 3) y_23 y_24) <| sE (iget_ok (c := (cI .i64)) (l := (Z5 arr_0.Mesh)) (j := x_l0.toNat) (k := 3) y_25) <| sS (CallSt.frame (Z1p (((Z5 arr_0.Mesh).getD x_l0.toNat default).getD 3 default) (Zl arr_0.Mesh ((Z5 arr_0.Mesh).getD x_l0.toNat default)) (fneg .f32 arr_0.Bend) (Z2a arr_0 x_l0 r2_l1) y_26 y_27 y_28) [1, 2] (R := [.box 42 [.sl (arr_0.Mesh.Places.map GVector.cells), .sl (arr_0.Mesh.Triangles.map (cL (cI .i64))), .sl (arr_0.Springs.map GSpring.cells), .f .f32 arr_0.Film, .f .f32 arr_0.Bend, .sl (arr_0.Weights.map (cF .f32)), .f .f32 arr_0.Fall.X, .f .f32 arr_0.Fall.Y, .f .f32 arr_0.Fall.Z], .box 34 [.own 2], .vec 40 3 ((Z2a arr_0 x_l0 r2_l1).map GVector.cells) false, .nest 49 ((Z5 arr_0.Mesh).map fun l => l.map (cI .i64)) false, .box 40 [.f .f32 ((Zl arr_0.Mesh ((Z5 arr_0.Mesh).getD x_l0.toNat default)).X), .f .f32 ((Zl arr_0.Mesh ((Z5 arr_0.Mesh).getD x_l0.toNat default)).Y), .f .f32 ((Zl arr_0.Mesh ((Z5 arr_0.Mesh).getD x_l0.toNat default)).Z)]]) (args' := [.i .i64 (((Z5 arr_0.Mesh).getD x_l0.toNat default).getD 3 default), .agg [.f .f32 ((Zl arr_0.Mesh ((Z5 arr_0.Mesh).getD x_l0.toNat default)).X), .f .f32 ((Zl arr_0.Mesh ((Z5 arr_0.Mesh).getD x_l0.toNat default)).Y), .f .f32 ((Zl arr_0.Mesh ((Z5 arr_0.Mesh).getD x_l0.toNat default)).Z)], .f .f32 (fneg .f32 arr_0.Bend), .ptr 1 0 0]) rfl rfl rfl rfl rfl rfl) <| sI (x_l0 + 1) y_29 y_30 <| sN) (by kernel_rfl)
  | false =>
   have gh_0 := of_decide_eq_false h_0
   have e : ZJ arr_0 (k + 1) x_l0 r2_l1 = r2_l1 := by simp only [ZJ, h_0, cond_false]
   rw [e]
   exact outR (e := (.exit 6)) E0Ok Z4 [] Z7V [0, 1, 2, 3] (sB h_0 <| sN) (by kernel_rfl) (by intro h; cases h)
theorem Z7W (arr_0 : GBody) : ∀ (k : Nat) (x_l0 : Int) (r2_l1 : (List GVector)) (hk : (((Z5 arr_0.Mesh).length : Int) - x_l0).toNat < k), (ZJ arr_0 k x_l0 r2_l1).length = r2_l1.length := by
  intro k
  induction k with
  | zero => intro x_l0 r2_l1 hk; exact absurd hk (Nat.not_lt_zero _)
  | succ k ih =>
    intro x_l0 r2_l1 hk
    cases h_0 : (decide (x_l0 < ((Z5 arr_0.Mesh).length : Int))) with
    | true =>
      have e : ZJ arr_0 (k + 1) x_l0 r2_l1 = (ZJ arr_0 k (x_l0 + 1) (Z2b arr_0 x_l0 r2_l1)) := by simp only [ZJ, h_0, cond_true]
      rw [e, ih (x_l0 + 1) (Z2b arr_0 x_l0 r2_l1) (by simp_all <;> omega)]; simp
    | false =>
      have e : ZJ arr_0 (k + 1) x_l0 r2_l1 = r2_l1 := by simp only [ZJ, h_0, cond_false]
      first | (rw [e]; done) | (rw [e]; rfl)
def Z2n (arr_0 : GBody) : (List GVector) := (ZJ arr_0 ((((Z5 arr_0.Mesh).length : Int) - 0).toNat + 1) 0 (Z2l arr_0))
@[simp] theorem Zau (arr_0 : GBody) : (Z2n arr_0).length = ((Z2l arr_0) : (List GVector)).length := Z7W arr_0 ((((Z5 arr_0.Mesh).length : Int) - 0).toNat + 1) 0 (Z2l arr_0) (by exact Nat.lt_succ_self _)
def ZK (arr_0 : GBody) : Nat → Int → (List GVector) → (List GVector)
  | 0, _, _ => default
  | k + 1, x_l0, r2_l1 => (cond (decide (x_l0 < (arr_0.Weights.length : Int)))
    (ZK arr_0 k (x_l0 + 1) (Zk x_l0 arr_0.Fall (arr_0.Weights.getD x_l0.toNat default) r2_l1))
    r2_l1)
def Z4Z (arr_0 : GBody) (r : (List GVector)) : Ex × St := ((.exit 8), ⟨.agg [.sl (arr_0.Mesh.Places.map GVector.cells), .sl (arr_0.Mesh.Triangles.map (cL (cI .i64))), .sl (arr_0.Springs.map GSpring.cells), .f .f32 arr_0.Film, .f .f32 arr_0.Bend, .sl (arr_0.Weights.map (cF .f32)), .f .f32 arr_0.Fall.X, .f .f32 arr_0.Fall.Y, .f .f32 arr_0.Fall.Z] :: .ptr 0 0 0 :: .nils :: .ptr 1 0 0 :: .fn 106 [.ptr 1 0 0] :: an 18 (.ptr 0 0 0 :: .ptr 0 0 0 :: .sl (arr_0.Mesh.Places.map GVector.cells) :: .i .i64 (arr_0.Mesh.Places.length : Int) :: .own 2 :: .fn 106 [.ptr 1 0 0] :: .ptr 0 0 2 :: .sl (arr_0.Springs.map GSpring.cells) :: an 25 (.ptr 0 0 0 :: .ptr 0 0 0 :: .sl (arr_0.Mesh.Places.map GVector.cells) :: .ptr 0 0 0 :: .ptr 0 0 1 :: .sl (arr_0.Mesh.Triangles.map (cL (cI .i64))) :: an 54 (.ptr 0 0 0 :: .agg [.sl (arr_0.Mesh.Places.map GVector.cells), .sl (arr_0.Mesh.Triangles.map (cL (cI .i64)))] :: .own 3 :: an 44 (.ptr 0 0 5 :: .sl (arr_0.Weights.map (cF .f32)) :: an 14 [])))), [.box 42 [.sl (arr_0.Mesh.Places.map GVector.cells), .sl (arr_0.Mesh.Triangles.map (cL (cI .i64))), .sl (arr_0.Springs.map GSpring.cells), .f .f32 arr_0.Film, .f .f32 arr_0.Bend, .sl (arr_0.Weights.map (cF .f32)), .f .f32 arr_0.Fall.X, .f .f32 arr_0.Fall.Y, .f .f32 arr_0.Fall.Z], .box 34 [.own 2], .vec 40 3 (r.map GVector.cells) false, .nest 49 ((Z5 arr_0.Mesh).map fun l => l.map (cI .i64)) false]⟩)
def Z8O (arr_0 : GBody) (x_l0 : Int) (r2_l1 : (List GVector)) : St := ⟨.agg [.sl (arr_0.Mesh.Places.map GVector.cells), .sl (arr_0.Mesh.Triangles.map (cL (cI .i64))), .sl (arr_0.Springs.map GSpring.cells), .f .f32 arr_0.Film, .f .f32 arr_0.Bend, .sl (arr_0.Weights.map (cF .f32)), .f .f32 arr_0.Fall.X, .f .f32 arr_0.Fall.Y, .f .f32 arr_0.Fall.Z] :: .ptr 0 0 0 :: .nils :: .ptr 1 0 0 :: .fn 106 [.ptr 1 0 0] :: an 18 (.ptr 0 0 0 :: .ptr 0 0 0 :: .sl (arr_0.Mesh.Places.map GVector.cells) :: .i .i64 (arr_0.Mesh.Places.length : Int) :: .own 2 :: .fn 106 [.ptr 1 0 0] :: .ptr 0 0 2 :: .sl (arr_0.Springs.map GSpring.cells) :: an 25 (.ptr 0 0 0 :: .ptr 0 0 0 :: .sl (arr_0.Mesh.Places.map GVector.cells) :: .ptr 0 0 0 :: .ptr 0 0 1 :: .sl (arr_0.Mesh.Triangles.map (cL (cI .i64))) :: an 54 (.ptr 0 0 0 :: .agg [.sl (arr_0.Mesh.Places.map GVector.cells), .sl (arr_0.Mesh.Triangles.map (cL (cI .i64)))] :: .own 3 :: an 44 (.ptr 0 0 5 :: .sl (arr_0.Weights.map (cF .f32)) :: .i .i64 (arr_0.Weights.length : Int) :: .i .i64 x_l0 :: an 12 [])))), [.box 42 [.sl (arr_0.Mesh.Places.map GVector.cells), .sl (arr_0.Mesh.Triangles.map (cL (cI .i64))), .sl (arr_0.Springs.map GSpring.cells), .f .f32 arr_0.Film, .f .f32 arr_0.Bend, .sl (arr_0.Weights.map (cF .f32)), .f .f32 arr_0.Fall.X, .f .f32 arr_0.Fall.Y, .f .f32 arr_0.Fall.Z], .box 34 [.own 2], .vec 40 3 (r2_l1.map GVector.cells) false, .nest 49 ((Z5 arr_0.Mesh).map fun l => l.map (cI .i64)) false]⟩
def Z63 : List Bool := (mR false [0, 5, 18, 8, 25, 6, 54, 3, 44, 4, 12])
def Z7X : List Bool := (mR false [0, 5, 18, 8, 25, 6, 54, 3, 44, 2, 14])
theorem Z8P (arr_0 : GBody) (hp0 : arr_0.Mesh.Places.length ≤ 1073741824) (hp1 : arr_0.Mesh.Triangles.length ≤ 1073741824) (hp2 : ∀ t ∈ arr_0.Mesh.Triangles, t.length ≤ 1073741824) (hp3 : arr_0.Springs.length ≤ 1073741824) (hp4 : arr_0.Weights.length ≤ 1073741824) (hp5 : OkBd arr_0) : ∀ (k : Nat) (x_l0 : Int) (r2_l1 : (List GVector)) (Z4o : 0 ≤ x_l0) (Z64 : r2_l1.length = arr_0.Mesh.Places.length) (hk : ((arr_0.Weights.length : Int) - x_l0).toNat < k), Lp prog 0 (sub (bodyOf f57) [1, 1, 1, 1, 1, 1, 1, 0, 1, 0, 0]) (Z8O arr_0 x_l0 r2_l1) (Z4Z arr_0 (ZK arr_0 k x_l0 r2_l1)).1 (Z4Z arr_0 (ZK arr_0 k x_l0 r2_l1)).2 := by
 intro k
 induction k with
 | zero => intro x_l0 r2_l1 Z4o Z64 hk; exact absurd hk (Nat.not_lt_zero _)
 | succ k ih =>
  intro x_l0 r2_l1 Z4o Z64 hk
  cases h_0 : (decide (x_l0 < (arr_0.Weights.length : Int))) with
  | true =>
   have gh_0 := of_decide_eq_true h_0
   have y_0 : (0 : Int) ≤ x_l0 := (by assumption)
   have y_1 : x_l0 < (arr_0.Weights.length : Int) := (by assumption)
   have y_2 : r2_l1.length ≤ 1073741824 := (by omega)
   have y_3 : x_l0 < (r2_l1.length : Int) := (by have q := hp5.w; omega)
   have y_4 : (-9223372036854775808 : Int) ≤ (x_l0 + 1) := (by omega)
   have y_5 : (x_l0 + 1) ≤ (9223372036854775807 : Int) := (by omega)
   have e : ZK arr_0 (k + 1) x_l0 r2_l1 = (ZK arr_0 k (x_l0 + 1) (Zk x_l0 arr_0.Fall (arr_0.Weights.getD x_l0.toNat default) r2_l1)) := by simp only [ZK, h_0, cond_true]
   rw [e]
   exact nextR E0Ok Z4 [] Z63 [0, 1, 2, 3] (ih (x_l0 + 1) (Zk x_l0 arr_0.Fall (arr_0.Weights.getD x_l0.toNat default) r2_l1) (show 0 ≤ (x_l0 + 1) from (by omega)) (show (Zk x_l0 arr_0.Fall (arr_0.Weights.getD x_l0.toNat default) r2_l1).length = arr_0.Mesh.Places.length from (by simp_all <;> omega)) (by omega)) (sB h_0 <| sG (cF .f32) arr_0.Weights x_l0 y_0 y_1 <| sS (CallSt.frame (Z1p x_l0 arr_0.Fall (arr_0.Weights.getD x_l0.toNat default) r2_l1 y_2 Z4o y_3) [1, 2] (R := [.box 42 [.sl (arr_0.Mesh.Places.map GVector.cells), .sl (arr_0.Mesh.Triangles.map (cL (cI .i64))), .sl (arr_0.Springs.map GSpring.cells), .f .f32 arr_0.Film, .f .f32 arr_0.Bend, .sl (arr_0.Weights.map (cF .f32)), .f .f32 arr_0.Fall.X, .f .f32 arr_0.Fall.Y, .f .f32 arr_0.Fall.Z], .box 34 [.own 2], .vec 40 3 (r2_l1.map GVector.cells) false, .nest 49 ((Z5 arr_0.Mesh).map fun l => l.map (cI .i64)) false]) (args' := [.i .i64 x_l0, .agg [.f .f32 arr_0.Fall.X, .f .f32 arr_0.Fall.Y, .f .f32 arr_0.Fall.Z], .f .f32 (arr_0.Weights.getD x_l0.toNat default), .ptr 1 0 0]) rfl rfl rfl rfl rfl rfl) <| sI (x_l0 + 1) y_4 y_5 <| sN) (by kernel_rfl)
  | false =>
   have gh_0 := of_decide_eq_false h_0
   have e : ZK arr_0 (k + 1) x_l0 r2_l1 = r2_l1 := by simp only [ZK, h_0, cond_false]
   rw [e]
   exact outR (e := (.exit 8)) E0Ok Z4 [] Z7X [0, 1, 2, 3] (sB h_0 <| sN) (by kernel_rfl) (by intro h; cases h)
end Go.Ab
