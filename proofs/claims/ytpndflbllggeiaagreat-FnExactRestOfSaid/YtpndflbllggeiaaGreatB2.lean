/- The functions of this seat as plain Lean, and that the program's are these. Printed by a program of the prover's own. -/
import Derived.Test.YtpndflbllggeiaaGreatB1
set_option linter.unusedVariables false
set_option linter.unusedSimpArgs false
set_option maxRecDepth 100000
namespace Go.Ab
open Go.RowKit Go.Proofs.Tryz
def Z2I (list_0 : (List Int)) (low_1 : Int) (high_2 : Int) : (Unit) ⊕ (Unit) := (Zo list_0 low_1 high_2 (((list_0.length : Int) - 0).toNat + 1) 0)
def Z35 (list_0 : (List Int)) (low_1 : Int) (high_2 : Int) : Bool := (match (Z2I list_0 low_1 high_2) with
  | .inl r1 => false
  | .inr r1 => true)
theorem Z9h (list_0 : (List Int)) (low_1 : Int) (high_2 : Int) (hp0 : list_0.length ≤ 1073741824)  : Fn prog 120 [.sl (list_0.map (cI .i64)), .i .i64 low_1, .i .i64 high_2] (.b (Z35 list_0 low_1 high_2)) [] := by
 cases h0 : (Z2I list_0 low_1 high_2) with
 | inl r1 =>
  refine fnS E0Ok Z3 (c := bodyOf f120) [] (.b false) [] func120 (sL (mR false [0, 3, 4, 1, 30]) 0 (lp_val (Z3Q list_0 low_1 high_2) (x := (Z2I list_0 low_1 high_2)) (Z6k list_0 low_1 high_2 hp0 (((list_0.length : Int) - 0).toNat + 1) 0 (show 0 ≤ 0 from (by omega)) (Nat.lt_succ_self _)) h0) <| sK [] sN) rfl (by kernel_rfl) (by kernel_rfl) rfl ?_ ?_
  · simp only [Z35, h0]
  · rfl
 | inr r1 =>
  refine fnS E0Ok Z3 (c := bodyOf f120) [] (.b true) [] func120 (sL (mR false [0, 3, 4, 1, 30]) 0 (lp_val (Z3Q list_0 low_1 high_2) (x := (Z2I list_0 low_1 high_2)) (Z6k list_0 low_1 high_2 hp0 (((list_0.length : Int) - 0).toNat + 1) 0 (show 0 ≤ 0 from (by omega)) (Nat.lt_succ_self _)) h0) <| sK [] sN) rfl (by kernel_rfl) (by kernel_rfl) rfl ?_ ?_
  · simp only [Z35, h0]
  · rfl
def Z2J (b_0 : GBody) (held_1 : (List Int)) : Bool := (Z35 held_1 0 (IntKind.wrap .i64 ((b_0.Mesh.Places.length : Int) - 1)))
theorem Z9v (b_0 : GBody) (held_1 : (List Int)) (hp0 : b_0.Mesh.Places.length ≤ 1073741824) (hp1 : b_0.Mesh.Triangles.length ≤ 1073741824) (hp2 : ∀ t ∈ b_0.Mesh.Triangles, t.length ≤ 1073741824) (hp3 : b_0.Springs.length ≤ 1073741824) (hp4 : b_0.Weights.length ≤ 1073741824) (hp5 : held_1.length ≤ 1073741824)  : Fn prog 63 [.ref (GBody.cells b_0) 0, .sl (held_1.map (cI .i64))] (.b (Z2J b_0 held_1)) [] := by
 refine fnS E0Ok Z3 (c := bodyOf f63) [] (.b (Z35 held_1 0 (IntKind.wrap .i64 ((b_0.Mesh.Places.length : Int) - 1)))) [] func63 (sZ GVector.cells b_0.Mesh.Places <| sW .i64 ((b_0.Mesh.Places.length : Int) - 1) <| sF (Z9h held_1 0 (IntKind.wrap .i64 ((b_0.Mesh.Places.length : Int) - 1)) hp5) <| sK [] sN) rfl (by kernel_rfl) (by kernel_rfl) rfl ?_ ?_
 · rfl
 · rfl
theorem Zbe (l : List Int) (h : Int) : ∀ (k : Nat) (i : Int), 0 ≤ i → Zo l 0 h k i = .inr () → ∀ j : Nat, i.toNat ≤ j → j < l.length → Zr (l.getD j default) 0 h = true := by
  intro k
  induction k with
  | zero => intro i _ e; cases e
  | succ k ih =>
    intro i h0 e j hj hl
    rw [Zo, decide_eq_true (show i < (l.length : Int) from by omega), cond_true] at e
    cases hc : Zr (l.getD i.toNat default) 0 h with
    | false => rw [hc] at e; cases e
    | true =>
      have e2 : Zo l 0 h k (i + 1) = .inr () := by
        rw [hc, cond_true] at e
        cases h1 : decide (i > 0) with
        | false => rw [h1, cond_false] at e; exact e
        | true =>
          rw [h1, cond_true] at e
          cases h2 : decide ((l.getD (i - 1).toNat default) ≥ (l.getD i.toNat default)) with
          | true => rw [h2] at e; cases e
          | false => rw [h2, cond_false] at e; exact e
      by_cases hij : i.toNat = j
      · rw [← hij]; exact hc
      · exact ih (i + 1) (by omega) e2 j (by omega) hl
theorem ZaC (b : GBody) (l : List Int) (hn : b.Mesh.Places.length ≤ 1073741824) (h : Z2J b l = true) : OkIx b.Mesh.Places.length (fun x => x) l := by
  intro x hx
  obtain ⟨j, hj, rfl⟩ := List.getElem_of_mem hx
  unfold Z2J Z35 Z2I at h
  cases e : Zo l 0 (IntKind.wrap .i64 ((b.Mesh.Places.length : Int) - 1)) (((l.length : Int) - 0).toNat + 1) 0 with
  | inl r => rw [e] at h; cases h
  | inr r =>
    have := Zbe l _ _ 0 (Int.le_refl 0) e j (by omega) hj
    rw [List.getD_eq_getElem?_getD, List.getElem?_eq_getElem hj, Option.getD_some] at this
    exact ZaR (by omega) this
def Z1e (a_0 : GVector) (b_1 : GVector) : GVector := (⟨(fop .sub .f32 a_0.X b_1.X), (fop .sub .f32 a_0.Y b_1.Y), (fop .sub .f32 a_0.Z b_1.Z)⟩ : GVector)
theorem Z3Z (a_0 : GVector) (b_1 : GVector)   : Fn prog 99 [.agg [.f .f32 a_0.X, .f .f32 a_0.Y, .f .f32 a_0.Z], .agg [.f .f32 b_1.X, .f .f32 b_1.Y, .f .f32 b_1.Z]] (.agg [.f .f32 ((Z1e a_0 b_1).X), .f .f32 ((Z1e a_0 b_1).Y), .f .f32 ((Z1e a_0 b_1).Z)]) [] := by
 refine fnS E0Ok Z3 (c := bodyOf f99) [] (.agg [.f .f32 (fop .sub .f32 a_0.X b_1.X), .f .f32 (fop .sub .f32 a_0.Y b_1.Y), .f .f32 (fop .sub .f32 a_0.Z b_1.Z)]) [] func99 (sK [] sN) rfl (by kernel_rfl) (by kernel_rfl) rfl ?_ ?_
 · rfl
 · rfl
theorem Z1F {n : Nat} {ts : List (List Int)} {i k : Int} (h : OkE n ts) (h0 : 0 ≤ i) (hi : i < (ts.length : Int)) (k0 : 0 ≤ k) (k3 : k < 3) :
    (ts.getD i.toNat default).length = 3 ∧ 0 ≤ Int.tmod (k + 1) 3 ∧ Int.tmod (k + 1) 3 < 3 ∧ 0 ≤ Int.tmod (k + 2) 3 ∧ Int.tmod (k + 2) 3 < 3 ∧
    (0 ≤ (ts.getD i.toNat default).getD k.toNat default ∧ (ts.getD i.toNat default).getD k.toNat default < (n : Int)) ∧
    (0 ≤ (ts.getD i.toNat default).getD (Int.tmod (k + 1) 3).toNat default ∧ (ts.getD i.toNat default).getD (Int.tmod (k + 1) 3).toNat default < (n : Int)) ∧
    (0 ≤ (ts.getD i.toNat default).getD (Int.tmod (k + 2) 3).toNat default ∧ (ts.getD i.toNat default).getD (Int.tmod (k + 2) 3).toNat default < (n : Int)) := by
  have q1 := h.tris.at2 h0 hi k0 (.inl k3)
  have q2 := tmod3 (x := k + 1) (by omega)
  have q3 := h.tris.at2 h0 hi q2.1 (.inl q2.2)
  have q4 := tmod3 (x := k + 2) (by omega)
  have q5 := h.tris.at2 h0 hi q4.1 (.inl q4.2)
  exact ⟨q1.1, q2.1, q2.2, q4.1, q4.2, q1.2, q3.2, q5.2⟩
def Z4z (a_0 : GVector) (b_1 : GVector) : Nat := (fop .add .f32 (fop .add .f32 (fop .mul .f32 a_0.X b_1.X) (fop .mul .f32 a_0.Y b_1.Y)) (fop .mul .f32 a_0.Z b_1.Z))
theorem Z9i (a_0 : GVector) (b_1 : GVector)   : Fn prog 131 [.agg [.f .f32 a_0.X, .f .f32 a_0.Y, .f .f32 a_0.Z], .agg [.f .f32 b_1.X, .f .f32 b_1.Y, .f .f32 b_1.Z]] (.f .f32 (Z4z a_0 b_1)) [] := by
 refine fnS E0Ok Z3 (c := bodyOf f131) [] (.f .f32 (fop .add .f32 (fop .add .f32 (fop .mul .f32 a_0.X b_1.X) (fop .mul .f32 a_0.Y b_1.Y)) (fop .mul .f32 a_0.Z b_1.Z))) [] func131 (sK [] sN) rfl (by kernel_rfl) (by kernel_rfl) rfl ?_ ?_
 · rfl
 · rfl
def Z3D (x_0 : Nat) : Nat := (fsqrt x_0)
theorem Z8H (x_0 : Nat)   : Fn prog 146 [.f .f64 x_0] (.f .f64 (Z3D x_0)) [] := by
 refine fnS E0Ok Z3 (c := bodyOf f146) [] (.f .f64 (fsqrt x_0)) [] func146 (sK [] sN) rfl (by kernel_rfl) (by kernel_rfl) rfl ?_ ?_
 · rfl
 · rfl
def Z51 (x_0 : Nat) : Nat := (fcv .f64 .f32 x_0)
theorem Z8X (x_0 : Nat) (hp0 : fcvOk .f64 .f32 x_0 = true)  : Fn prog 145 [.f .f64 x_0] (.f .f32 (Z51 x_0)) [] := by
 refine fnS E0Ok Z3 (c := bodyOf f145) [] (.f .f32 (fcv .f64 .f32 x_0)) [] func145 (sC hp0 <| sK [] sN) rfl (by kernel_rfl) (by kernel_rfl) rfl ?_ ?_
 · rfl
 · rfl
def Z6g (x_0 : Nat) : Nat := (Z51 (Z3D (fcv .f32 .f64 x_0)))
theorem Z9w (x_0 : Nat)   : Fn prog 136 [.f .f32 x_0] (.f .f32 (Z6g x_0)) [] := by
 have y0 : fcvOk .f64 .f32 (Z3D (fcv .f32 .f64 x_0)) = true := (narrow_sqrt _)
 refine fnS E0Ok Z3 (c := bodyOf f136) [] (.f .f32 (Z51 (Z3D (fcv .f32 .f64 x_0)))) [] func136 (sC (widenOk x_0) <| sF (Z8H (fcv .f32 .f64 x_0)) <| sF (Z8X (Z3D (fcv .f32 .f64 x_0)) y0) <| sK [] sN) rfl (by kernel_rfl) (by kernel_rfl) rfl ?_ ?_
 · rfl
 · rfl
def Zg (v_0 : GVector) : Nat := (Z6g (Z4z v_0 v_0))
theorem Z6h (v_0 : GVector)   : Fn prog 98 [.agg [.f .f32 v_0.X, .f .f32 v_0.Y, .f .f32 v_0.Z]] (.f .f32 (Zg v_0)) [] := by
 refine fnS E0Ok Z3 (c := bodyOf f98) [] (.f .f32 (Z6g (Z4z v_0 v_0))) [] func98 (sF (Z9i v_0 v_0) <| sF (Z9w (Z4z v_0 v_0)) <| sK [] sN) rfl (by kernel_rfl) (by kernel_rfl) rfl ?_ ?_
 · rfl
 · rfl
def Z3c (x_0 : Nat) (long_1 : Nat) : Nat := (cond (fcmp .gtr .f32 long_1 0)
  (fop .quo .f32 x_0 long_1)
  0)
theorem Z6Z (x_0 : Nat) (long_1 : Nat)   : Fn prog 87 [.f .f32 x_0, .f .f32 long_1] (.f .f32 (Z3c x_0 long_1)) [] := by
 cases h0 : (fcmp .gtr .f32 long_1 0) with
 | true =>
  refine fnS E0Ok Z3 (c := bodyOf f87) [] (.f .f32 (fop .quo .f32 x_0 long_1)) [] func87 (sB h0 <| sK [] sN) rfl (by kernel_rfl) (by kernel_rfl) rfl ?_ ?_
  · simp only [Z3c, h0, cond_true]
  · rfl
 | false =>
  refine fnS E0Ok Z3 (c := bodyOf f87) [] (.f .f32 0) [] func87 (sB h0 <| sK [] sN) rfl (by kernel_rfl) (by kernel_rfl) rfl ?_ ?_
  · simp only [Z3c, h0, cond_false]
  · rfl
def Z6E (b_0 : GBody) (x_1 : GSpring) : Nat := (fop .mul .f32 x_1.Stiff (fop .sub .f32 (Zg (Z1e (b_0.Mesh.Places.getD x_1.B.toNat default) (b_0.Mesh.Places.getD x_1.A.toNat default))) x_1.Long))
def Z6F (b_0 : GBody) (x_1 : GSpring) : Nat := (Z3c (Z6E b_0 x_1) (Zg (Z1e (b_0.Mesh.Places.getD x_1.B.toNat default) (b_0.Mesh.Places.getD x_1.A.toNat default))))
def Z1U (b_0 : GBody) (x_1 : GSpring) : GVector × Nat := ((Z1e (b_0.Mesh.Places.getD x_1.B.toNat default) (b_0.Mesh.Places.getD x_1.A.toNat default)), (Z6F b_0 x_1))
theorem Z9T (b_0 : GBody) (x_1 : GSpring) (hp0 : b_0.Mesh.Places.length ≤ 1073741824) (hp1 : b_0.Mesh.Triangles.length ≤ 1073741824) (hp2 : ∀ t ∈ b_0.Mesh.Triangles, t.length ≤ 1073741824) (hp3 : b_0.Springs.length ≤ 1073741824) (hp4 : b_0.Weights.length ≤ 1073741824) (hp5 : 0 ≤ x_1.A) (hp6 : x_1.A < (b_0.Mesh.Places.length : Int)) (hp7 : 0 ≤ x_1.B) (hp8 : x_1.B < (b_0.Mesh.Places.length : Int))  : Fn prog 96 [.ref (GBody.cells b_0) 0, .ref (GSpring.cells x_1) 0] (.tup [.agg [.f .f32 ((Z1U b_0 x_1).1.X), .f .f32 ((Z1U b_0 x_1).1.Y), .f .f32 ((Z1U b_0 x_1).1.Z)], .f .f32 ((Z1U b_0 x_1).2)]) [] := by
 have y0 : (0 : Int) ≤ x_1.B := (by assumption)
 have y1 : (0 : Int) ≤ x_1.A := (by assumption)
 refine fnS E0Ok Z3 (c := bodyOf f96) [] (.tup [.agg [.f .f32 ((Z1e (b_0.Mesh.Places.getD x_1.B.toNat default) (b_0.Mesh.Places.getD x_1.A.toNat default)).X), .f .f32 ((Z1e (b_0.Mesh.Places.getD x_1.B.toNat default) (b_0.Mesh.Places.getD x_1.A.toNat default)).Y), .f .f32 ((Z1e (b_0.Mesh.Places.getD x_1.B.toNat default) (b_0.Mesh.Places.getD x_1.A.toNat default)).Z)], .f .f32 (Z6F b_0 x_1)]) [] func96 (sK [24, 24] <| sG GVector.cells b_0.Mesh.Places x_1.B y0 hp8 <| sG GVector.cells b_0.Mesh.Places x_1.A y1 hp6 <| sF (Z3Z (b_0.Mesh.Places.getD x_1.B.toNat default) (b_0.Mesh.Places.getD x_1.A.toNat default)) <| sF (Z6h (Z1e (b_0.Mesh.Places.getD x_1.B.toNat default) (b_0.Mesh.Places.getD x_1.A.toNat default))) <| sK [14, 14] <| sF (Z6Z (Z6E b_0 x_1) (Zg (Z1e (b_0.Mesh.Places.getD x_1.B.toNat default) (b_0.Mesh.Places.getD x_1.A.toNat default)))) <| sK [] sN) rfl (by kernel_rfl) (by kernel_rfl) rfl ?_ ?_
 · rfl
 · rfl
def Zq (v_0 : GVector) (by_1 : Nat) : GVector := (⟨(fop .mul .f32 v_0.X by_1), (fop .mul .f32 v_0.Y by_1), (fop .mul .f32 v_0.Z by_1)⟩ : GVector)
theorem Z2N (v_0 : GVector) (by_1 : Nat)   : Fn prog 90 [.agg [.f .f32 v_0.X, .f .f32 v_0.Y, .f .f32 v_0.Z], .f .f32 by_1] (.agg [.f .f32 ((Zq v_0 by_1).X), .f .f32 ((Zq v_0 by_1).Y), .f .f32 ((Zq v_0 by_1).Z)]) [] := by
 refine fnS E0Ok Z3 (c := bodyOf f90) [] (.agg [.f .f32 (fop .mul .f32 v_0.X by_1), .f .f32 (fop .mul .f32 v_0.Y by_1), .f .f32 (fop .mul .f32 v_0.Z by_1)]) [] func90 (sK [] sN) rfl (by kernel_rfl) (by kernel_rfl) rfl ?_ ?_
 · rfl
 · rfl
def ZG (a_0 : GVector) (b_1 : GVector) : GVector := (⟨(fop .add .f32 a_0.X b_1.X), (fop .add .f32 a_0.Y b_1.Y), (fop .add .f32 a_0.Z b_1.Z)⟩ : GVector)
theorem Z2F (a_0 : GVector) (b_1 : GVector)   : Fn prog 89 [.agg [.f .f32 a_0.X, .f .f32 a_0.Y, .f .f32 a_0.Z], .agg [.f .f32 b_1.X, .f .f32 b_1.Y, .f .f32 b_1.Z]] (.agg [.f .f32 ((ZG a_0 b_1).X), .f .f32 ((ZG a_0 b_1).Y), .f .f32 ((ZG a_0 b_1).Z)]) [] := by
 refine fnS E0Ok Z3 (c := bodyOf f89) [] (.agg [.f .f32 (fop .add .f32 a_0.X b_1.X), .f .f32 (fop .add .f32 a_0.Y b_1.Y), .f .f32 (fop .add .f32 a_0.Z b_1.Z)]) [] func89 (sK [] sN) rfl (by kernel_rfl) (by kernel_rfl) rfl ?_ ?_
 · rfl
 · rfl
def Z3k (a_0 : GVector) (b_1 : GVector) : GVector := (⟨(fop .sub .f32 (fop .mul .f32 a_0.Y b_1.Z) (fop .mul .f32 a_0.Z b_1.Y)), (fop .sub .f32 (fop .mul .f32 a_0.Z b_1.X) (fop .mul .f32 a_0.X b_1.Z)), (fop .sub .f32 (fop .mul .f32 a_0.X b_1.Y) (fop .mul .f32 a_0.Y b_1.X))⟩ : GVector)
theorem Z6R (a_0 : GVector) (b_1 : GVector)   : Fn prog 100 [.agg [.f .f32 a_0.X, .f .f32 a_0.Y, .f .f32 a_0.Z], .agg [.f .f32 b_1.X, .f .f32 b_1.Y, .f .f32 b_1.Z]] (.agg [.f .f32 ((Z3k a_0 b_1).X), .f .f32 ((Z3k a_0 b_1).Y), .f .f32 ((Z3k a_0 b_1).Z)]) [] := by
 refine fnS E0Ok Z3 (c := bodyOf f100) [] (.agg [.f .f32 (fop .sub .f32 (fop .mul .f32 a_0.Y b_1.Z) (fop .mul .f32 a_0.Z b_1.Y)), .f .f32 (fop .sub .f32 (fop .mul .f32 a_0.Z b_1.X) (fop .mul .f32 a_0.X b_1.Z)), .f .f32 (fop .sub .f32 (fop .mul .f32 a_0.X b_1.Y) (fop .mul .f32 a_0.Y b_1.X))]) [] func100 (sK [] sN) rfl (by kernel_rfl) (by kernel_rfl) rfl ?_ ?_
 · rfl
 · rfl
def Z3G (m_0 : GMesh) (t_1 : (List Int)) : GVector := (Z3k (Z1e (m_0.Places.getD (t_1.getD 1 default).toNat default) (m_0.Places.getD (t_1.getD 0 default).toNat default)) (Z1e (m_0.Places.getD (t_1.getD 2 default).toNat default) (m_0.Places.getD (t_1.getD 0 default).toNat default)))
def Z9 (m_0 : GMesh) (t_1 : (List Int)) : GVector := (Z3G m_0 t_1)
theorem Z8Y (m_0 : GMesh) (t_1 : (List Int)) (hp0 : m_0.Places.length ≤ 1073741824) (hp1 : m_0.Triangles.length ≤ 1073741824) (hp2 : ∀ t ∈ m_0.Triangles, t.length ≤ 1073741824) (hp3 : t_1.length ≤ 1073741824) (hp4 : t_1.length = 3 ∧ ∀ x ∈ t_1, 0 ≤ x ∧ x < (m_0.Places.length : Int))  : Fn prog 97 [.ref (GMesh.cells m_0) 0, .sl (t_1.map (cI .i64))] (.agg [.f .f32 ((Z9 m_0 t_1).X), .f .f32 ((Z9 m_0 t_1).Y), .f .f32 ((Z9 m_0 t_1).Z)]) [] := by
 have y0 : (0 : Int) ≤ 0 := (by omega)
 have y1 : 0 < (t_1.length : Int) := (by omega)
 have y2 : (0 : Int) ≤ (t_1.getD 0 default) := (by have q := Okt.at hp4; omega)
 have y3 : (t_1.getD 0 default) < (m_0.Places.length : Int) := (by have q := Okt.at hp4; omega)
 have y4 : (0 : Int) ≤ 1 := (by omega)
 have y5 : 1 < (t_1.length : Int) := (by omega)
 have y6 : (0 : Int) ≤ (t_1.getD 1 default) := (by have q := Okt.at hp4; omega)
 have y7 : (t_1.getD 1 default) < (m_0.Places.length : Int) := (by have q := Okt.at hp4; omega)
 have y8 : (0 : Int) ≤ 2 := (by omega)
 have y9 : 2 < (t_1.length : Int) := (by omega)
 have y10 : (0 : Int) ≤ (t_1.getD 2 default) := (by have q := Okt.at hp4; omega)
 have y11 : (t_1.getD 2 default) < (m_0.Places.length : Int) := (by have q := Okt.at hp4; omega)
 refine fnS E0Ok Z3 (c := bodyOf f97) [] (.agg [.f .f32 ((Z3G m_0 t_1).X), .f .f32 ((Z3G m_0 t_1).Y), .f .f32 ((Z3G m_0 t_1).Z)]) [] func97 (sK [10, 10] <| sG (cI .i64) t_1 0 y0 y1 <| sG GVector.cells m_0.Places (t_1.getD 0 default) y2 y3 <| sK [21, 21] <| sG (cI .i64) t_1 1 y4 y5 <| sG GVector.cells m_0.Places (t_1.getD 1 default) y6 y7 <| sF (Z3Z (m_0.Places.getD (t_1.getD 1 default).toNat default) (m_0.Places.getD (t_1.getD 0 default).toNat default)) <| sG (cI .i64) t_1 2 y8 y9 <| sG GVector.cells m_0.Places (t_1.getD 2 default) y10 y11 <| sF (Z3Z (m_0.Places.getD (t_1.getD 2 default).toNat default) (m_0.Places.getD (t_1.getD 0 default).toNat default)) <| sF (Z6R (Z1e (m_0.Places.getD (t_1.getD 1 default).toNat default) (m_0.Places.getD (t_1.getD 0 default).toNat default)) (Z1e (m_0.Places.getD (t_1.getD 2 default).toNat default) (m_0.Places.getD (t_1.getD 0 default).toNat default))) <| sK [] sN) rfl (by kernel_rfl) (by kernel_rfl) rfl ?_ ?_
 · rfl
 · rfl
def Z2h (a_0 : Int) (b_1 : Int) : Int := (cond (decide (a_0 < b_1))
  a_0
  b_1)
theorem Z9U (a_0 : Int) (b_1 : Int)   : Fn prog 147 [.i .i64 a_0, .i .i64 b_1] (.i .i64 (Z2h a_0 b_1)) [] := by
 cases h0 : (decide (a_0 < b_1)) with
 | true =>
  have gh0 := of_decide_eq_true h0
  refine fnS E0Ok Z3 (c := bodyOf f147) [] (.i .i64 a_0) [] func147 (sB h0 <| sK [] sN) rfl (by kernel_rfl) (by kernel_rfl) rfl ?_ ?_
  · simp only [Z2h, h0, cond_true]
  · rfl
 | false =>
  have gh0 := of_decide_eq_false h0
  refine fnS E0Ok Z3 (c := bodyOf f147) [] (.i .i64 b_1) [] func147 (sB h0 <| sK [] sN) rfl (by kernel_rfl) (by kernel_rfl) rfl ?_ ?_
  · simp only [Z2h, h0, cond_false]
  · rfl
theorem Z6G {a b n : Int} (h1 : 0 ≤ a ∧ a < n) (h2 : 0 ≤ b ∧ b < n) : 0 ≤ Z2h a b ∧ Z2h a b < n := by
  unfold Z2h; cases decide (a < b) <;> simp only [cond_true, cond_false] <;> omega
def Z2i (a_0 : Int) (b_1 : Int) : Int := (cond (decide (a_0 > b_1))
  a_0
  b_1)
theorem Z9V (a_0 : Int) (b_1 : Int)   : Fn prog 148 [.i .i64 a_0, .i .i64 b_1] (.i .i64 (Z2i a_0 b_1)) [] := by
 cases h0 : (decide (a_0 > b_1)) with
 | true =>
  have gh0 := of_decide_eq_true h0
  refine fnS E0Ok Z3 (c := bodyOf f148) [] (.i .i64 a_0) [] func148 (sB h0 <| sK [] sN) rfl (by kernel_rfl) (by kernel_rfl) rfl ?_ ?_
  · simp only [Z2i, h0, cond_true]
  · rfl
 | false =>
  have gh0 := of_decide_eq_false h0
  refine fnS E0Ok Z3 (c := bodyOf f148) [] (.i .i64 b_1) [] func148 (sB h0 <| sK [] sN) rfl (by kernel_rfl) (by kernel_rfl) rfl ?_ ?_
  · simp only [Z2i, h0, cond_false]
  · rfl
theorem Z6H {a b n : Int} (h1 : 0 ≤ a ∧ a < n) (h2 : 0 ≤ b ∧ b < n) : 0 ≤ Z2i a b ∧ Z2i a b < n := by
  unfold Z2i; cases decide (a > b) <;> simp only [cond_true, cond_false] <;> omega
theorem Z7d (a b : Int) : (⟨Z2h a b, Z2i a b⟩ : Gedge) = mkE a b := by
  unfold Z2h Z2i mkE
  by_cases h : a < b
  · rw [decide_eq_true h, decide_eq_false (by omega), if_pos (by omega)]; rfl
  · rw [decide_eq_false h]
    by_cases h2 : a > b
    · rw [decide_eq_true h2, if_neg (by omega)]; rfl
    · rw [decide_eq_false h2, show a = b from by omega, if_pos (by omega)]; rfl
def ZI (m_0 : GMesh) (i_l0 : Int) (k_l0 : Int) : Int := (Z2h ((m_0.Triangles.getD i_l0.toNat default).getD k_l0.toNat default) ((m_0.Triangles.getD i_l0.toNat default).getD (Int.tmod (k_l0 + 1) 3).toNat default))
def ZV (m_0 : GMesh) (i_l0 : Int) (k_l0 : Int) : Int := (Z2i ((m_0.Triangles.getD i_l0.toNat default).getD k_l0.toNat default) ((m_0.Triangles.getD i_l0.toNat default).getD (Int.tmod (k_l0 + 1) 3).toNat default))
def Zu (m_0 : GMesh) (i_l0 : Int) (r0_l1 : (List Bool)) : Nat → Int → (List Bool) → (List Bool)
  | 0, _, _ => default
  | k + 1, k_l0, r0_l1_1 => (cond (decide (k_l0 < 3))
    (Zu m_0 i_l0 r0_l1 k (k_l0 + 1) (r0_l1_1.set ((IntKind.wrap .i64 ((IntKind.wrap .i64 ((ZI m_0 i_l0 k_l0) * (m_0.Places.length : Int))) + (ZV m_0 i_l0 k_l0))).toNat) true))
    r0_l1_1)
def Z4C (m_0 : GMesh) (i_l0 : Int) (r0_l1 : (List Bool)) (r : (List Bool)) : Ex × St := ((.exit 2), ⟨.ref (GMesh.cells m_0) 0 :: .any :: .nils :: .i .i64 (m_0.Places.length : Int) :: .own 0 :: .i .i64 i_l0 :: .sl ((m_0.Triangles.getD i_l0.toNat default).map (cI .i64)) :: an 6 (.ref (GMesh.cells m_0) 0 :: .ref (GMesh.cells m_0) 0 :: .ref (GMesh.cells m_0) 0 :: .sl (m_0.Places.map GVector.cells) :: .i .i64 (m_0.Places.length : Int) :: .i .i64 (m_0.Places.length : Int) :: .i .i64 (m_0.Places.length : Int) :: .i .i64 (IntKind.wrap .i64 ((m_0.Places.length : Int) * (m_0.Places.length : Int))) :: .own 0 :: .i .i64 i_l0 :: .ref (GMesh.cells m_0) 0 :: .ref (GMesh.cells m_0) 0 :: .ref (GMesh.cells m_0) 1 :: .sl (m_0.Triangles.map (cL (cI .i64))) :: .i .i64 (m_0.Triangles.length : Int) :: .b (decide (i_l0 < (m_0.Triangles.length : Int))) :: .any :: .any :: .ref (GMesh.cells m_0) 0 :: .ref (GMesh.cells m_0) 0 :: .ref (GMesh.cells m_0) 1 :: .sl (m_0.Triangles.map (cL (cI .i64))) :: .i .i64 i_l0 :: .ref [.sl ((m_0.Triangles.getD i_l0.toNat default).map (cI .i64))] 0 :: .sl ((m_0.Triangles.getD i_l0.toNat default).map (cI .i64)) :: an 53 []), [.vec 4 1 (r.map cB) false]⟩)
def Z83 (m_0 : GMesh) (i_l0 : Int) (r0_l1 : (List Bool)) (k_l0 : Int) (r0_l1_1 : (List Bool)) : St := ⟨.ref (GMesh.cells m_0) 0 :: .any :: .nils :: .i .i64 (m_0.Places.length : Int) :: .own 0 :: .i .i64 i_l0 :: .sl ((m_0.Triangles.getD i_l0.toNat default).map (cI .i64)) :: .i .i64 k_l0 :: an 5 (.ref (GMesh.cells m_0) 0 :: .ref (GMesh.cells m_0) 0 :: .ref (GMesh.cells m_0) 0 :: .sl (m_0.Places.map GVector.cells) :: .i .i64 (m_0.Places.length : Int) :: .i .i64 (m_0.Places.length : Int) :: .i .i64 (m_0.Places.length : Int) :: .i .i64 (IntKind.wrap .i64 ((m_0.Places.length : Int) * (m_0.Places.length : Int))) :: .own 0 :: .i .i64 i_l0 :: .ref (GMesh.cells m_0) 0 :: .ref (GMesh.cells m_0) 0 :: .ref (GMesh.cells m_0) 1 :: .sl (m_0.Triangles.map (cL (cI .i64))) :: .i .i64 (m_0.Triangles.length : Int) :: .b (decide (i_l0 < (m_0.Triangles.length : Int))) :: .any :: .any :: .ref (GMesh.cells m_0) 0 :: .ref (GMesh.cells m_0) 0 :: .ref (GMesh.cells m_0) 1 :: .sl (m_0.Triangles.map (cL (cI .i64))) :: .i .i64 i_l0 :: .ref [.sl ((m_0.Triangles.getD i_l0.toNat default).map (cI .i64))] 0 :: .sl ((m_0.Triangles.getD i_l0.toNat default).map (cI .i64)) :: an 53 []), [.vec 4 1 (r0_l1_1.map cB) false]⟩
def Z5A : List Bool := (mR false [0, 1, 1, 6, 5, 16, 2, 7, 53])
def Z7e : List Bool := (mR false [0, 1, 1, 5, 6, 16, 2, 7, 53])
set_option maxHeartbeats 1000000 in
theorem Z84 (m_0 : GMesh) (i_l0 : Int) (r0_l1 : (List Bool)) (hp0 : m_0.Places.length ≤ 1073741824) (hp1 : m_0.Triangles.length ≤ 1073741824) (hp2 : ∀ t ∈ m_0.Triangles, t.length ≤ 1073741824) (hp3 : OkE m_0.Places.length m_0.Triangles) (Z1O : 0 ≤ i_l0) (Z3t : r0_l1.length = (IntKind.wrap .i64 ((m_0.Places.length : Int) * (m_0.Places.length : Int))).toNat) (ZaS : (decide (i_l0 < (m_0.Triangles.length : Int))) = true) : ∀ (k : Nat) (k_l0 : Int) (r0_l1_1 : (List Bool)) (Z2v : 0 ≤ k_l0) (Z5B : r0_l1_1.length = r0_l1.length) (hk : ((3 : Int) - k_l0).toNat < k), Lp prog 0 (sub (bodyOf f137) [1, 1, 1, 0, 1, 0, 0, 1, 0, 0, 1, 1, 0, 0]) (Z83 m_0 i_l0 r0_l1 k_l0 r0_l1_1) (Z4C m_0 i_l0 r0_l1 (Zu m_0 i_l0 r0_l1 k k_l0 r0_l1_1)).1 (Z4C m_0 i_l0 r0_l1 (Zu m_0 i_l0 r0_l1 k k_l0 r0_l1_1)).2 := by
 intro k
 induction k with
 | zero => intro k_l0 r0_l1_1 Z2v Z5B hk; exact absurd hk (Nat.not_lt_zero _)
 | succ k ih =>
  intro k_l0 r0_l1_1 Z2v Z5B hk
  cases h__0 : (decide (k_l0 < 3)) with
  | true =>
   have gh__0 := of_decide_eq_true h__0
   have y__0 : (0 : Int) ≤ k_l0 := (by assumption)
   have y__1 : k_l0 < ((m_0.Triangles.getD i_l0.toNat default).length : Int) := (by ((have q := OkE.at (by assumption) Z1O (of_decide_eq_true (by assumption)) Z2v (of_decide_eq_true (by assumption)); omega)))
   have y__2 : (-9223372036854775808 : Int) ≤ (k_l0 + 1) := (by omega)
   have y__3 : (k_l0 + 1) ≤ (9223372036854775807 : Int) := (by omega)
   have y__4 : (0 : Int) ≤ (Int.tmod (k_l0 + 1) 3) := (by ((have q := OkE.at (by assumption) Z1O (of_decide_eq_true (by assumption)) Z2v (of_decide_eq_true (by assumption)); omega)))
   have y__5 : (Int.tmod (k_l0 + 1) 3) < ((m_0.Triangles.getD i_l0.toNat default).length : Int) := (by ((have q := OkE.at (by assumption) Z1O (of_decide_eq_true (by assumption)) Z2v (of_decide_eq_true (by assumption)); omega)))
   have y__6 : (0 : Int) ≤ (IntKind.wrap .i64 ((IntKind.wrap .i64 ((ZI m_0 i_l0 k_l0) * (m_0.Places.length : Int))) + (ZV m_0 i_l0 k_l0))) := (by ((have q := OkE.at (by assumption) Z1O (of_decide_eq_true (by assumption)) Z2v (of_decide_eq_true (by assumption)); have q2 := ix2F q.2.2.2.2.2.1 (Z6G q.2.2.2.1 q.2.2.2.2.1).1 (Z6G q.2.2.2.1 q.2.2.2.2.1).2 (Z6H q.2.2.2.1 q.2.2.2.2.1).1 (Z6H q.2.2.2.1 q.2.2.2.2.1).2; unfold ZI ZV; omega)))
   have y__7 : (IntKind.wrap .i64 ((IntKind.wrap .i64 ((ZI m_0 i_l0 k_l0) * (m_0.Places.length : Int))) + (ZV m_0 i_l0 k_l0))) < (r0_l1_1.length : Int) := (by ((have q := OkE.at (by assumption) Z1O (of_decide_eq_true (by assumption)) Z2v (of_decide_eq_true (by assumption)); have q2 := ix2F q.2.2.2.2.2.1 (Z6G q.2.2.2.1 q.2.2.2.2.1).1 (Z6G q.2.2.2.1 q.2.2.2.2.1).2 (Z6H q.2.2.2.1 q.2.2.2.2.1).1 (Z6H q.2.2.2.1 q.2.2.2.2.1).2; unfold ZI ZV; omega)))
   have y__8 : (IntKind.wrap .i64 ((IntKind.wrap .i64 ((ZI m_0 i_l0 k_l0) * (m_0.Places.length : Int))) + (ZV m_0 i_l0 k_l0))).toNat < r0_l1_1.length := (by omega)
   have e : Zu m_0 i_l0 r0_l1 (k + 1) k_l0 r0_l1_1 = (Zu m_0 i_l0 r0_l1 k (k_l0 + 1) (r0_l1_1.set ((IntKind.wrap .i64 ((IntKind.wrap .i64 ((ZI m_0 i_l0 k_l0) * (m_0.Places.length : Int))) + (ZV m_0 i_l0 k_l0))).toNat) true)) := by simp only [Zu, h__0, cond_true]
   rw [e]
   exact nextS E0Ok Z3 [] Z5A [0] (⟨.ref (GMesh.cells m_0) 0 :: .any :: .nils :: .i .i64 (m_0.Places.length : Int) :: .own 0 :: .i .i64 i_l0 :: .sl ((m_0.Triangles.getD i_l0.toNat default).map (cI .i64)) :: .i .i64 (k_l0 + 1) :: an 5 (.ref (GMesh.cells m_0) 0 :: .ref (GMesh.cells m_0) 0 :: .ref (GMesh.cells m_0) 0 :: .sl (m_0.Places.map GVector.cells) :: .i .i64 (m_0.Places.length : Int) :: .i .i64 (m_0.Places.length : Int) :: .i .i64 (m_0.Places.length : Int) :: .i .i64 (IntKind.wrap .i64 ((m_0.Places.length : Int) * (m_0.Places.length : Int))) :: .own 0 :: .i .i64 i_l0 :: .ref (GMesh.cells m_0) 0 :: .ref (GMesh.cells m_0) 0 :: .ref (GMesh.cells m_0) 1 :: .sl (m_0.Triangles.map (cL (cI .i64))) :: .i .i64 (m_0.Triangles.length : Int) :: .b (decide (i_l0 < (m_0.Triangles.length : Int))) :: .any :: .any :: .ref (GMesh.cells m_0) 0 :: .ref (GMesh.cells m_0) 0 :: .ref (GMesh.cells m_0) 1 :: .sl (m_0.Triangles.map (cL (cI .i64))) :: .i .i64 i_l0 :: .ref [.sl ((m_0.Triangles.getD i_l0.toNat default).map (cI .i64))] 0 :: .sl ((m_0.Triangles.getD i_l0.toNat default).map (cI .i64)) :: an 53 []), [.vec 4 1 ((r0_l1_1.map cB).set ((IntKind.wrap .i64 ((IntKind.wrap .i64 ((ZI m_0 i_l0 k_l0) * (m_0.Places.length : Int))) + (ZV m_0 i_l0 k_l0))).toNat) [.b true]) false]⟩) (sB h__0 <| sG (cI .i64) (m_0.Triangles.getD i_l0.toNat default) k_l0 y__0 y__1 <| sI (k_l0 + 1) y__2 y__3 <| sC (show (3 : Int) ≠ 0 from (by decide)) <| sQ (Int.tmod (k_l0 + 1) 3) <| sG (cI .i64) (m_0.Triangles.getD i_l0.toNat default) (Int.tmod (k_l0 + 1) 3) y__4 y__5 <| sF (Z9U ((m_0.Triangles.getD i_l0.toNat default).getD k_l0.toNat default) ((m_0.Triangles.getD i_l0.toNat default).getD (Int.tmod (k_l0 + 1) 3).toNat default)) <| sW .i64 ((ZI m_0 i_l0 k_l0) * (m_0.Places.length : Int)) <| sF (Z9V ((m_0.Triangles.getD i_l0.toNat default).getD k_l0.toNat default) ((m_0.Triangles.getD i_l0.toNat default).getD (Int.tmod (k_l0 + 1) 3).toNat default)) <| sW .i64 ((IntKind.wrap .i64 ((ZI m_0 i_l0 k_l0) * (m_0.Places.length : Int))) + (ZV m_0 i_l0 k_l0)) <| sX cB r0_l1_1 (IntKind.wrap .i64 ((IntKind.wrap .i64 ((ZI m_0 i_l0 k_l0) * (m_0.Places.length : Int))) + (ZV m_0 i_l0 k_l0))) y__6 y__7 <| sC (maplt (c := cB) (l := r0_l1_1) y__8) <| sI (k_l0 + 1) y__2 y__3 <| sN) (by kernel_rfl) (show _ = ⟨.ref (GMesh.cells m_0) 0 :: .any :: .nils :: .i .i64 (m_0.Places.length : Int) :: .own 0 :: .i .i64 i_l0 :: .sl ((m_0.Triangles.getD i_l0.toNat default).map (cI .i64)) :: .i .i64 (k_l0 + 1) :: an 5 (.ref (GMesh.cells m_0) 0 :: .ref (GMesh.cells m_0) 0 :: .ref (GMesh.cells m_0) 0 :: .sl (m_0.Places.map GVector.cells) :: .i .i64 (m_0.Places.length : Int) :: .i .i64 (m_0.Places.length : Int) :: .i .i64 (m_0.Places.length : Int) :: .i .i64 (IntKind.wrap .i64 ((m_0.Places.length : Int) * (m_0.Places.length : Int))) :: .own 0 :: .i .i64 i_l0 :: .ref (GMesh.cells m_0) 0 :: .ref (GMesh.cells m_0) 0 :: .ref (GMesh.cells m_0) 1 :: .sl (m_0.Triangles.map (cL (cI .i64))) :: .i .i64 (m_0.Triangles.length : Int) :: .b (decide (i_l0 < (m_0.Triangles.length : Int))) :: .any :: .any :: .ref (GMesh.cells m_0) 0 :: .ref (GMesh.cells m_0) 0 :: .ref (GMesh.cells m_0) 1 :: .sl (m_0.Triangles.map (cL (cI .i64))) :: .i .i64 i_l0 :: .ref [.sl ((m_0.Triangles.getD i_l0.toNat default).map (cI .i64))] 0 :: .sl ((m_0.Triangles.getD i_l0.toNat default).map (cI .i64)) :: an 53 []), [.vec 4 1 ((r0_l1_1.set ((IntKind.wrap .i64 ((IntKind.wrap .i64 ((ZI m_0 i_l0 k_l0) * (m_0.Places.length : Int))) + (ZV m_0 i_l0 k_l0))).toNat) true).map cB) false]⟩ from (by simp [cL, cI, cB])) (ih (k_l0 + 1) (r0_l1_1.set ((IntKind.wrap .i64 ((IntKind.wrap .i64 ((ZI m_0 i_l0 k_l0) * (m_0.Places.length : Int))) + (ZV m_0 i_l0 k_l0))).toNat) true) (show 0 ≤ (k_l0 + 1) from (by omega)) (show (r0_l1_1.set ((IntKind.wrap .i64 ((IntKind.wrap .i64 ((ZI m_0 i_l0 k_l0) * (m_0.Places.length : Int))) + (ZV m_0 i_l0 k_l0))).toNat) true).length = r0_l1.length from (by simp_all <;> omega)) (by omega))
  | false =>
   have gh__0 := of_decide_eq_false h__0
   have e : Zu m_0 i_l0 r0_l1 (k + 1) k_l0 r0_l1_1 = r0_l1_1 := by simp only [Zu, h__0, cond_false]
   rw [e]
   exact outR (e := (.exit 2)) E0Ok Z3 [] Z7e [0] (sB h__0 <| sN) (by kernel_rfl) (by intro h; cases h)
theorem Z7f (m_0 : GMesh) (i_l0 : Int) (r0_l1 : (List Bool)) : ∀ (k : Nat) (k_l0 : Int) (r0_l1_1 : (List Bool)) (hk : ((3 : Int) - k_l0).toNat < k), (Zu m_0 i_l0 r0_l1 k k_l0 r0_l1_1).length = r0_l1_1.length := by
  intro k
  induction k with
  | zero => intro k_l0 r0_l1_1 hk; exact absurd hk (Nat.not_lt_zero _)
  | succ k ih =>
    intro k_l0 r0_l1_1 hk
    cases h__0 : (decide (k_l0 < 3)) with
    | true =>
      have e : Zu m_0 i_l0 r0_l1 (k + 1) k_l0 r0_l1_1 = (Zu m_0 i_l0 r0_l1 k (k_l0 + 1) (r0_l1_1.set ((IntKind.wrap .i64 ((IntKind.wrap .i64 ((ZI m_0 i_l0 k_l0) * (m_0.Places.length : Int))) + (ZV m_0 i_l0 k_l0))).toNat) true)) := by simp only [Zu, h__0, cond_true]
      rw [e, ih (k_l0 + 1) (r0_l1_1.set ((IntKind.wrap .i64 ((IntKind.wrap .i64 ((ZI m_0 i_l0 k_l0) * (m_0.Places.length : Int))) + (ZV m_0 i_l0 k_l0))).toNat) true) (by simp_all <;> omega)]; simp
    | false =>
      have e : Zu m_0 i_l0 r0_l1 (k + 1) k_l0 r0_l1_1 = r0_l1_1 := by simp only [Zu, h__0, cond_false]
      first | (rw [e]; done) | (rw [e]; rfl)
def Z1q (m_0 : GMesh) (i_l0 : Int) (r0_l1 : (List Bool)) : (List Bool) := (Zu m_0 i_l0 r0_l1 (((3 : Int) - 0).toNat + 1) 0 r0_l1)
@[simp] theorem Z6w (m_0 : GMesh) (i_l0 : Int) (r0_l1 : (List Bool)) : (Z1q m_0 i_l0 r0_l1).length = (r0_l1 : (List Bool)).length := Z7f m_0 i_l0 r0_l1 (((3 : Int) - 0).toNat + 1) 0 r0_l1 (by exact Nat.lt_succ_self _)
def ZJ (m_0 : GMesh) : Nat → Int → (List Bool) → (List Bool)
  | 0, _, _ => default
  | k + 1, i_l0, r0_l1 => (cond (decide (i_l0 < (m_0.Triangles.length : Int)))
    (ZJ m_0 k (i_l0 + 1) (Z1q m_0 i_l0 r0_l1))
    r0_l1)
def Z4D (m_0 : GMesh) (r : (List Bool)) : Ex × St := ((.exit 0), ⟨.ref (GMesh.cells m_0) 0 :: .any :: .nils :: .i .i64 (m_0.Places.length : Int) :: .own 0 :: an 8 (.ref (GMesh.cells m_0) 0 :: .ref (GMesh.cells m_0) 0 :: .ref (GMesh.cells m_0) 0 :: .sl (m_0.Places.map GVector.cells) :: .i .i64 (m_0.Places.length : Int) :: .i .i64 (m_0.Places.length : Int) :: .i .i64 (m_0.Places.length : Int) :: .i .i64 (IntKind.wrap .i64 ((m_0.Places.length : Int) * (m_0.Places.length : Int))) :: .own 0 :: an 69 []), [.vec 4 1 (r.map cB) false]⟩)
def Z6l (m_0 : GMesh) (i_l0 : Int) (r0_l1 : (List Bool)) : St := ⟨.ref (GMesh.cells m_0) 0 :: .any :: .nils :: .i .i64 (m_0.Places.length : Int) :: .own 0 :: .i .i64 i_l0 :: an 7 (.ref (GMesh.cells m_0) 0 :: .ref (GMesh.cells m_0) 0 :: .ref (GMesh.cells m_0) 0 :: .sl (m_0.Places.map GVector.cells) :: .i .i64 (m_0.Places.length : Int) :: .i .i64 (m_0.Places.length : Int) :: .i .i64 (m_0.Places.length : Int) :: .i .i64 (IntKind.wrap .i64 ((m_0.Places.length : Int) * (m_0.Places.length : Int))) :: .own 0 :: an 69 []), [.vec 4 1 (r0_l1.map cB) false]⟩
theorem Z85 (m_0 : GMesh) (hp0 : m_0.Places.length ≤ 1073741824) (hp1 : m_0.Triangles.length ≤ 1073741824) (hp2 : ∀ t ∈ m_0.Triangles, t.length ≤ 1073741824) (hp3 : OkE m_0.Places.length m_0.Triangles) : ∀ (k : Nat) (i_l0 : Int) (r0_l1 : (List Bool)) (Z1O : 0 ≤ i_l0) (Z3t : r0_l1.length = (IntKind.wrap .i64 ((m_0.Places.length : Int) * (m_0.Places.length : Int))).toNat) (hk : ((m_0.Triangles.length : Int) - i_l0).toNat < k), Lp prog 0 (sub (bodyOf f137) [1, 1, 1, 0, 1, 0, 0]) (Z6l m_0 i_l0 r0_l1) (Z4D m_0 (ZJ m_0 k i_l0 r0_l1)).1 (Z4D m_0 (ZJ m_0 k i_l0 r0_l1)).2 := by
 intro k
 induction k with
 | zero => intro i_l0 r0_l1 Z1O Z3t hk; exact absurd hk (Nat.not_lt_zero _)
 | succ k ih =>
  intro i_l0 r0_l1 Z1O Z3t hk
  have p {a C} (s : Scr a C) := sZ (cL (cI .i64)) m_0.Triangles <| s
  cases h_0 : (decide (i_l0 < (m_0.Triangles.length : Int))) with
  | true =>
   have gh_0 := of_decide_eq_true h_0
   have y_0 : (0 : Int) ≤ i_l0 := by clear p; exact (by assumption)
   have y_1 : i_l0 < (m_0.Triangles.length : Int) := by clear p; exact (by assumption)
   have y_2 : (-9223372036854775808 : Int) ≤ (i_l0 + 1) := by clear p; exact (by omega)
   have y_3 : (i_l0 + 1) ≤ (9223372036854775807 : Int) := by clear p; exact (by omega)
   have e : ZJ m_0 (k + 1) i_l0 r0_l1 = (ZJ m_0 k (i_l0 + 1) (Z1q m_0 i_l0 r0_l1)) := by simp only [ZJ, h_0, cond_true]
   rw [e]
   exact nextR E0Ok Z3 [] (mR false [0, 1, 1, 4, 7, 9, 69]) [0] (ih (i_l0 + 1) (Z1q m_0 i_l0 r0_l1) (show 0 ≤ (i_l0 + 1) from (by omega)) (show (Z1q m_0 i_l0 r0_l1).length = (IntKind.wrap .i64 ((m_0.Places.length : Int) * (m_0.Places.length : Int))).toNat from (by simp_all <;> omega)) (by omega)) (p (sB h_0 <| sG (cL (cI .i64)) m_0.Triangles i_l0 y_0 y_1 <| sL Z5A 1 (lp_val (Z4C m_0 i_l0 r0_l1) (x := (Z1q m_0 i_l0 r0_l1)) (Z84 m_0 i_l0 r0_l1 hp0 hp1 hp2 hp3 Z1O Z3t h_0 (((3 : Int) - 0).toNat + 1) 0 r0_l1 (show 0 ≤ 0 from (by omega)) (show r0_l1.length = r0_l1.length from (by omega)) (Nat.lt_succ_self _)) rfl) <| sI (i_l0 + 1) y_2 y_3 <| sN)) (by kernel_rfl)
  | false =>
   have gh_0 := of_decide_eq_false h_0
   have e : ZJ m_0 (k + 1) i_l0 r0_l1 = r0_l1 := by simp only [ZJ, h_0, cond_false]
   rw [e]
   exact outR (e := (.exit 0)) E0Ok Z3 [] (mR false [0, 1, 1, 3, 8, 9, 69]) [0] (p (sB h_0 <| sN)) (by kernel_rfl) (by intro h; cases h)
theorem Z7g (m_0 : GMesh) : ∀ (k : Nat) (i_l0 : Int) (r0_l1 : (List Bool)) (hk : ((m_0.Triangles.length : Int) - i_l0).toNat < k), (ZJ m_0 k i_l0 r0_l1).length = r0_l1.length := by
  intro k
  induction k with
  | zero => intro i_l0 r0_l1 hk; exact absurd hk (Nat.not_lt_zero _)
  | succ k ih =>
    intro i_l0 r0_l1 hk
    cases h_0 : (decide (i_l0 < (m_0.Triangles.length : Int))) with
    | true =>
      have e : ZJ m_0 (k + 1) i_l0 r0_l1 = (ZJ m_0 k (i_l0 + 1) (Z1q m_0 i_l0 r0_l1)) := by simp only [ZJ, h_0, cond_true]
      rw [e, ih (i_l0 + 1) (Z1q m_0 i_l0 r0_l1) (by simp_all <;> omega)]; simp
    | false =>
      have e : ZJ m_0 (k + 1) i_l0 r0_l1 = r0_l1 := by simp only [ZJ, h_0, cond_false]
      first | (rw [e]; done) | (rw [e]; rfl)
def Zm (m_0 : GMesh) : (List Bool) := (ZJ m_0 (((m_0.Triangles.length : Int) - 0).toNat + 1) 0 (List.replicate (IntKind.wrap .i64 ((m_0.Places.length : Int) * (m_0.Places.length : Int))).toNat false))
@[simp] theorem Z6x (m_0 : GMesh) : (Zm m_0).length = ((List.replicate (IntKind.wrap .i64 ((m_0.Places.length : Int) * (m_0.Places.length : Int))).toNat false) : (List Bool)).length := Z7g m_0 (((m_0.Triangles.length : Int) - 0).toNat + 1) 0 (List.replicate (IntKind.wrap .i64 ((m_0.Places.length : Int) * (m_0.Places.length : Int))).toNat false) (by exact Nat.lt_succ_self _)
def ZK (m_0 : GMesh) (a_l0 : Int) (r1_l1 : (List (List Int))) : Nat → Int → (List (List Int)) → (List (List Int))
  | 0, _, _ => default
  | k + 1, b_l0, r1_l1_1 => (cond (decide (b_l0 < (m_0.Places.length : Int)))
    (cond ((Zm m_0).getD ((IntKind.wrap .i64 ((IntKind.wrap .i64 (a_l0 * (m_0.Places.length : Int))) + b_l0)).toNat) default)
      (ZK m_0 a_l0 r1_l1 k (b_l0 + 1) (r1_l1_1 ++ [[a_l0, b_l0]]))
      (ZK m_0 a_l0 r1_l1 k (b_l0 + 1) r1_l1_1))
    r1_l1_1)
def Z4E (m_0 : GMesh) (a_l0 : Int) (r1_l1 : (List (List Int))) (r : (List (List Int))) : Ex × St := ((.exit 6), ⟨.ref (GMesh.cells m_0) 0 :: .any :: .nils :: .i .i64 (m_0.Places.length : Int) :: .own 0 :: an 5 (.own 1 :: .i .i64 a_l0 :: .any :: .ref (GMesh.cells m_0) 0 :: .ref (GMesh.cells m_0) 0 :: .ref (GMesh.cells m_0) 0 :: .sl (m_0.Places.map GVector.cells) :: .i .i64 (m_0.Places.length : Int) :: .i .i64 (m_0.Places.length : Int) :: .i .i64 (m_0.Places.length : Int) :: .i .i64 (IntKind.wrap .i64 ((m_0.Places.length : Int) * (m_0.Places.length : Int))) :: .own 0 :: an 42 (.i .i64 a_l0 :: .i .i64 (m_0.Places.length : Int) :: .b (decide (a_l0 < (m_0.Places.length : Int))) :: .any :: .any :: .i .i64 a_l0 :: .i .i64 (a_l0 + 1) :: an 20 [])), [.vec 4 1 ((Zm m_0).map cB) false, .nest 49 (r.map fun l => l.map (cI .i64)) false]⟩)
def Z86 (m_0 : GMesh) (a_l0 : Int) (r1_l1 : (List (List Int))) (b_l0 : Int) (r1_l1_1 : (List (List Int))) : St := ⟨.ref (GMesh.cells m_0) 0 :: .any :: .nils :: .i .i64 (m_0.Places.length : Int) :: .own 0 :: an 5 (.own 1 :: .i .i64 a_l0 :: .i .i64 b_l0 :: .ref (GMesh.cells m_0) 0 :: .ref (GMesh.cells m_0) 0 :: .ref (GMesh.cells m_0) 0 :: .sl (m_0.Places.map GVector.cells) :: .i .i64 (m_0.Places.length : Int) :: .i .i64 (m_0.Places.length : Int) :: .i .i64 (m_0.Places.length : Int) :: .i .i64 (IntKind.wrap .i64 ((m_0.Places.length : Int) * (m_0.Places.length : Int))) :: .own 0 :: an 42 (.i .i64 a_l0 :: .i .i64 (m_0.Places.length : Int) :: .b (decide (a_l0 < (m_0.Places.length : Int))) :: .any :: .any :: .i .i64 a_l0 :: .i .i64 (a_l0 + 1) :: an 20 [])), [.vec 4 1 ((Zm m_0).map cB) false, .nest 49 (r1_l1_1.map fun l => l.map (cI .i64)) false]⟩
def Z49 : List Bool := (mR false [0, 1, 1, 3, 5, 12, 42, 3, 2, 2, 20])
def Z7h : List Bool := (mR false [0, 1, 1, 3, 5, 2, 1, 9, 42, 3, 2, 2, 20])
set_option maxHeartbeats 1000000 in
theorem Z87 (m_0 : GMesh) (a_l0 : Int) (r1_l1 : (List (List Int))) (hp0 : m_0.Places.length ≤ 1073741824) (hp1 : m_0.Triangles.length ≤ 1073741824) (hp2 : ∀ t ∈ m_0.Triangles, t.length ≤ 1073741824) (hp3 : OkE m_0.Places.length m_0.Triangles) (Z3u : 0 ≤ a_l0) (Z3v : (r1_l1.length : Int) ≤ 64 * a_l0) (Z3w : (decide (a_l0 < (m_0.Places.length : Int))) = true) : ∀ (k : Nat) (b_l0 : Int) (r1_l1_1 : (List (List Int))) (Z5C : a_l0 < b_l0) (Z5D : (r1_l1_1.length : Int) ≤ (r1_l1.length : Int) + b_l0) (hk : ((m_0.Places.length : Int) - b_l0).toNat < k), Lp prog 0 (sub (bodyOf f137) [1, 1, 1, 1, 1, 0, 1, 0, 0, 1, 0, 0, 1, 0, 0]) (Z86 m_0 a_l0 r1_l1 b_l0 r1_l1_1) (Z4E m_0 a_l0 r1_l1 (ZK m_0 a_l0 r1_l1 k b_l0 r1_l1_1)).1 (Z4E m_0 a_l0 r1_l1 (ZK m_0 a_l0 r1_l1 k b_l0 r1_l1_1)).2 := by
 intro k
 induction k with
 | zero => intro b_l0 r1_l1_1 Z5C Z5D hk; exact absurd hk (Nat.not_lt_zero _)
 | succ k ih =>
  intro b_l0 r1_l1_1 Z5C Z5D hk
  cases h__0 : (decide (b_l0 < (m_0.Places.length : Int))) with
  | true =>
   have gh__0 := of_decide_eq_true h__0
   have y__0 : (0 : Int) ≤ (IntKind.wrap .i64 ((IntKind.wrap .i64 (a_l0 * (m_0.Places.length : Int))) + b_l0)) := (by ((have := hp3.1; have g4 := of_decide_eq_true Z3w; (have q2 := ix2F (n := (m_0.Places.length : Int)) (a := a_l0) (b := b_l0) (by omega) (by omega) (by omega) (by omega) (by omega); omega))))
   have y__1 : (IntKind.wrap .i64 ((IntKind.wrap .i64 (a_l0 * (m_0.Places.length : Int))) + b_l0)) < ((Zm m_0).length : Int) := (by ((have := hp3.1; have g4 := of_decide_eq_true Z3w; (have q2 := ix2F (n := (m_0.Places.length : Int)) (a := a_l0) (b := b_l0) (by omega) (by omega) (by omega) (by omega) (by omega); (simp only [Z6x, List.length_replicate]; omega)))))
   have y__2 : (IntKind.wrap .i64 ((IntKind.wrap .i64 (a_l0 * (m_0.Places.length : Int))) + b_l0)).toNat < (Zm m_0).length := (by omega)
   have p {a C} (s : Scr a C) := sB h__0 <| sW .i64 (a_l0 * (m_0.Places.length : Int)) <| sW .i64 ((IntKind.wrap .i64 (a_l0 * (m_0.Places.length : Int))) + b_l0) <| sX cB (Zm m_0) (IntKind.wrap .i64 ((IntKind.wrap .i64 (a_l0 * (m_0.Places.length : Int))) + b_l0)) y__0 y__1 <| sV cB (Zm m_0) ((IntKind.wrap .i64 ((IntKind.wrap .i64 (a_l0 * (m_0.Places.length : Int))) + b_l0)).toNat) y__2 <| s
   cases h__1 : ((Zm m_0).getD ((IntKind.wrap .i64 ((IntKind.wrap .i64 (a_l0 * (m_0.Places.length : Int))) + b_l0)).toNat) default) with
   | true =>
    have y__3 : r1_l1_1.length + [[a_l0, b_l0]].length ≤ 1073741824 := by clear p; exact (by ((have := hp3.1; have g4 := of_decide_eq_true Z3w; (simp only [List.length_append, List.length_cons, List.length_nil]; omega))))
    have y__4 : (-9223372036854775808 : Int) ≤ (b_l0 + 1) := by clear p; exact (by omega)
    have y__5 : (b_l0 + 1) ≤ (9223372036854775807 : Int) := by clear p; exact (by omega)
    have e : ZK m_0 a_l0 r1_l1 (k + 1) b_l0 r1_l1_1 = (ZK m_0 a_l0 r1_l1 k (b_l0 + 1) (r1_l1_1 ++ [[a_l0, b_l0]])) := by simp only [ZK, h__0, h__1, cond_true]
    rw [e]
    exact nextS E0Ok Z3 [] Z49 [0, 1] (⟨.ref (GMesh.cells m_0) 0 :: .any :: .nils :: .i .i64 (m_0.Places.length : Int) :: .own 0 :: an 5 (.own 1 :: .i .i64 a_l0 :: .i .i64 (b_l0 + 1) :: .ref (GMesh.cells m_0) 0 :: .ref (GMesh.cells m_0) 0 :: .ref (GMesh.cells m_0) 0 :: .sl (m_0.Places.map GVector.cells) :: .i .i64 (m_0.Places.length : Int) :: .i .i64 (m_0.Places.length : Int) :: .i .i64 (m_0.Places.length : Int) :: .i .i64 (IntKind.wrap .i64 ((m_0.Places.length : Int) * (m_0.Places.length : Int))) :: .own 0 :: an 42 (.i .i64 a_l0 :: .i .i64 (m_0.Places.length : Int) :: .b (decide (a_l0 < (m_0.Places.length : Int))) :: .any :: .any :: .i .i64 a_l0 :: .i .i64 (a_l0 + 1) :: an 20 [])), [.vec 4 1 ((Zm m_0).map cB) false, .nest 49 ((r1_l1_1.map fun l => l.map (cI .i64)) ++ [([[.i .i64 a_l0], [.i .i64 b_l0]] : List (List AV))]) false]⟩) (p (sB h__1 <| sC (show (r1_l1_1.map fun l => l.map (cI .i64)).length + [([[.i .i64 a_l0], [.i .i64 b_l0]] : List (List AV))].length ≤ 1073741824 from (by simpa using y__3)) <| sI (b_l0 + 1) y__4 y__5 <| sN)) (by kernel_rfl) (show _ = ⟨.ref (GMesh.cells m_0) 0 :: .any :: .nils :: .i .i64 (m_0.Places.length : Int) :: .own 0 :: an 5 (.own 1 :: .i .i64 a_l0 :: .i .i64 (b_l0 + 1) :: .ref (GMesh.cells m_0) 0 :: .ref (GMesh.cells m_0) 0 :: .ref (GMesh.cells m_0) 0 :: .sl (m_0.Places.map GVector.cells) :: .i .i64 (m_0.Places.length : Int) :: .i .i64 (m_0.Places.length : Int) :: .i .i64 (m_0.Places.length : Int) :: .i .i64 (IntKind.wrap .i64 ((m_0.Places.length : Int) * (m_0.Places.length : Int))) :: .own 0 :: an 42 (.i .i64 a_l0 :: .i .i64 (m_0.Places.length : Int) :: .b (decide (a_l0 < (m_0.Places.length : Int))) :: .any :: .any :: .i .i64 a_l0 :: .i .i64 (a_l0 + 1) :: an 20 [])), [.vec 4 1 ((Zm m_0).map cB) false, .nest 49 ((r1_l1_1 ++ [[a_l0, b_l0]]).map fun l => l.map (cI .i64)) false]⟩ from (by simp [cL, cI, cB])) (ih (b_l0 + 1) (r1_l1_1 ++ [[a_l0, b_l0]]) (show a_l0 < (b_l0 + 1) from (by omega)) (show ((r1_l1_1 ++ [[a_l0, b_l0]]).length : Int) ≤ (r1_l1.length : Int) + (b_l0 + 1) from (by ((have := hp3.1; have g4 := of_decide_eq_true Z3w; (simp only [List.length_append, List.length_cons, List.length_nil]; omega))))) (by omega))
   | false =>
    have y__3 : (-9223372036854775808 : Int) ≤ (b_l0 + 1) := by clear p; exact (by omega)
    have y__4 : (b_l0 + 1) ≤ (9223372036854775807 : Int) := by clear p; exact (by omega)
    have e : ZK m_0 a_l0 r1_l1 (k + 1) b_l0 r1_l1_1 = (ZK m_0 a_l0 r1_l1 k (b_l0 + 1) r1_l1_1) := by simp only [ZK, h__0, h__1, cond_true, cond_false]
    rw [e]
    exact nextR E0Ok Z3 [] Z49 [0, 1] (ih (b_l0 + 1) r1_l1_1 (show a_l0 < (b_l0 + 1) from (by omega)) (show (r1_l1_1.length : Int) ≤ (r1_l1.length : Int) + (b_l0 + 1) from (by omega)) (by omega)) (p (sB h__1 <| sI (b_l0 + 1) y__3 y__4 <| sN)) (by kernel_rfl)
  | false =>
   have gh__0 := of_decide_eq_false h__0
   have e : ZK m_0 a_l0 r1_l1 (k + 1) b_l0 r1_l1_1 = r1_l1_1 := by simp only [ZK, h__0, cond_false]
   rw [e]
   exact outR (e := (.exit 6)) E0Ok Z3 [] Z7h [0, 1] (sB h__0 <| sN) (by kernel_rfl) (by intro h; cases h)
def Z27 (m_0 : GMesh) (a_l0 : Int) (r1_l1 : (List (List Int))) : (List (List Int)) := (ZK m_0 a_l0 r1_l1 (((m_0.Places.length : Int) - (a_l0 + 1)).toNat + 1) (a_l0 + 1) r1_l1)
theorem Zbj (m : GMesh) (a : Int) (r1 : List (List Int)) : ∀ (k : Nat) (b : Int) (r : List (List Int)), (ZK m a r1 k b r).length ≤ r.length + k := by
  intro k
  induction k with
  | zero => intro b r; exact Nat.zero_le _
  | succ k ih =>
    intro b r
    rw [ZK]
    cases decide (b < (m.Places.length : Int)) with
    | false => rw [cond_false]; omega
    | true =>
      rw [cond_true]
      cases ((Zm m).getD ((IntKind.wrap .i64 ((IntKind.wrap .i64 (a * (m.Places.length : Int))) + b)).toNat) default) with
      | true => rw [cond_true]; have := ih (b + 1) (r ++ [[a, b]]); simp only [List.length_append, List.length_cons, List.length_nil] at this; omega
      | false => rw [cond_false]; have := ih (b + 1) r; omega
def Z1S (m_0 : GMesh) : Nat → Int → (List (List Int)) → (List (List Int))
  | 0, _, _ => default
  | k + 1, a_l0, r1_l1 => (cond (decide (a_l0 < (m_0.Places.length : Int)))
    (Z1S m_0 k (a_l0 + 1) (Z27 m_0 a_l0 r1_l1))
    r1_l1)
def Z4F (m_0 : GMesh) (r : (List (List Int))) : Ex × St := ((.exit 4), ⟨.ref (GMesh.cells m_0) 0 :: .any :: .nils :: .i .i64 (m_0.Places.length : Int) :: .own 0 :: an 5 (.own 1 :: .any :: .any :: .ref (GMesh.cells m_0) 0 :: .ref (GMesh.cells m_0) 0 :: .ref (GMesh.cells m_0) 0 :: .sl (m_0.Places.map GVector.cells) :: .i .i64 (m_0.Places.length : Int) :: .i .i64 (m_0.Places.length : Int) :: .i .i64 (m_0.Places.length : Int) :: .i .i64 (IntKind.wrap .i64 ((m_0.Places.length : Int) * (m_0.Places.length : Int))) :: .own 0 :: an 69 []), [.vec 4 1 ((Zm m_0).map cB) false, .nest 49 (r.map fun l => l.map (cI .i64)) false]⟩)
def Z6m (m_0 : GMesh) (a_l0 : Int) (r1_l1 : (List (List Int))) : St := ⟨.ref (GMesh.cells m_0) 0 :: .any :: .nils :: .i .i64 (m_0.Places.length : Int) :: .own 0 :: an 5 (.own 1 :: .i .i64 a_l0 :: .any :: .ref (GMesh.cells m_0) 0 :: .ref (GMesh.cells m_0) 0 :: .ref (GMesh.cells m_0) 0 :: .sl (m_0.Places.map GVector.cells) :: .i .i64 (m_0.Places.length : Int) :: .i .i64 (m_0.Places.length : Int) :: .i .i64 (m_0.Places.length : Int) :: .i .i64 (IntKind.wrap .i64 ((m_0.Places.length : Int) * (m_0.Places.length : Int))) :: .own 0 :: an 69 []), [.vec 4 1 ((Zm m_0).map cB) false, .nest 49 (r1_l1.map fun l => l.map (cI .i64)) false]⟩
theorem Z88 (m_0 : GMesh) (hp0 : m_0.Places.length ≤ 1073741824) (hp1 : m_0.Triangles.length ≤ 1073741824) (hp2 : ∀ t ∈ m_0.Triangles, t.length ≤ 1073741824) (hp3 : OkE m_0.Places.length m_0.Triangles) : ∀ (k : Nat) (a_l0 : Int) (r1_l1 : (List (List Int))) (Z3u : 0 ≤ a_l0) (Z3v : (r1_l1.length : Int) ≤ 64 * a_l0) (hk : ((m_0.Places.length : Int) - a_l0).toNat < k), Lp prog 0 (sub (bodyOf f137) [1, 1, 1, 1, 1, 0, 1, 0, 0]) (Z6m m_0 a_l0 r1_l1) (Z4F m_0 (Z1S m_0 k a_l0 r1_l1)).1 (Z4F m_0 (Z1S m_0 k a_l0 r1_l1)).2 := by
 intro k
 induction k with
 | zero => intro a_l0 r1_l1 Z3u Z3v hk; exact absurd hk (Nat.not_lt_zero _)
 | succ k ih =>
  intro a_l0 r1_l1 Z3u Z3v hk
  cases h_0 : (decide (a_l0 < (m_0.Places.length : Int))) with
  | true =>
   have gh_0 := of_decide_eq_true h_0
   have y_0 : (-9223372036854775808 : Int) ≤ (a_l0 + 1) := (by omega)
   have y_1 : (a_l0 + 1) ≤ (9223372036854775807 : Int) := (by omega)
   have e : Z1S m_0 (k + 1) a_l0 r1_l1 = (Z1S m_0 k (a_l0 + 1) (Z27 m_0 a_l0 r1_l1)) := by simp only [Z1S, h_0, cond_true]
   rw [e]
   exact nextR E0Ok Z3 [] (mR false [0, 1, 1, 3, 5, 2, 1, 9, 69]) [0, 1] (ih (a_l0 + 1) (Z27 m_0 a_l0 r1_l1) (show 0 ≤ (a_l0 + 1) from (by omega)) (show ((Z27 m_0 a_l0 r1_l1).length : Int) ≤ 64 * (a_l0 + 1) from (by ((have := hp3.1; have g4 := of_decide_eq_true h_0; have q := Zbj m_0 a_l0 r1_l1 (((m_0.Places.length : Int) - (a_l0 + 1)).toNat + 1) (a_l0 + 1) r1_l1; unfold Z27; omega)))) (by omega)) (sB h_0 <| sI (a_l0 + 1) y_0 y_1 <| sL Z49 2 (lp_val (Z4E m_0 a_l0 r1_l1) (x := (Z27 m_0 a_l0 r1_l1)) (Z87 m_0 a_l0 r1_l1 hp0 hp1 hp2 hp3 Z3u Z3v h_0 (((m_0.Places.length : Int) - (a_l0 + 1)).toNat + 1) (a_l0 + 1) r1_l1 (show a_l0 < (a_l0 + 1) from (by omega)) (show (r1_l1.length : Int) ≤ (r1_l1.length : Int) + (a_l0 + 1) from (by omega)) (Nat.lt_succ_self _)) rfl) <| sI (a_l0 + 1) y_0 y_1 <| sN) (by kernel_rfl)
  | false =>
   have gh_0 := of_decide_eq_false h_0
   have e : Z1S m_0 (k + 1) a_l0 r1_l1 = r1_l1 := by simp only [Z1S, h_0, cond_false]
   rw [e]
   exact outR (e := (.exit 4)) E0Ok Z3 [] (mR false [0, 1, 1, 3, 5, 1, 2, 9, 69]) [0, 1] (sB h_0 <| sN) (by kernel_rfl) (by intro h; cases h)
def Z3x (m_0 : GMesh) : (List (List Int)) := (Z1S m_0 (((m_0.Places.length : Int) - 0).toNat + 1) 0 ([] : List (List Int)))
def Z4 (m_0 : GMesh) : (List (List Int)) := (Z3x m_0)
theorem Zbf (m : GMesh) (i : Int) (r : List Bool) : Z1q m i r = ((r.set (IntKind.wrap .i64 (IntKind.wrap .i64 (Z2h ((m.Triangles.getD i.toNat default).getD 0 default) ((m.Triangles.getD i.toNat default).getD 1 default) * (m.Places.length : Int)) + Z2i ((m.Triangles.getD i.toNat default).getD 0 default) ((m.Triangles.getD i.toNat default).getD 1 default))).toNat true).set (IntKind.wrap .i64 (IntKind.wrap .i64 (Z2h ((m.Triangles.getD i.toNat default).getD 1 default) ((m.Triangles.getD i.toNat default).getD 2 default) * (m.Places.length : Int)) + Z2i ((m.Triangles.getD i.toNat default).getD 1 default) ((m.Triangles.getD i.toNat default).getD 2 default))).toNat true).set (IntKind.wrap .i64 (IntKind.wrap .i64 (Z2h ((m.Triangles.getD i.toNat default).getD 2 default) ((m.Triangles.getD i.toNat default).getD 0 default) * (m.Places.length : Int)) + Z2i ((m.Triangles.getD i.toNat default).getD 2 default) ((m.Triangles.getD i.toNat default).getD 0 default))).toNat true := by
  have one : ∀ (r0 : List Bool) (k : Nat) (x : Int) (s : List Bool), x < 3 → Zu m i r0 (k + 1) x s = Zu m i r0 k (x + 1) (s.set (IntKind.wrap .i64 (IntKind.wrap .i64 (ZI m i x * (m.Places.length : Int)) + ZV m i x)).toNat true) := by
    intro r0 k x s hx
    rw [Zu, decide_eq_true hx, cond_true]
  unfold Z1q
  show Zu m i r 4 0 r = _
  rw [one r 3 0 r (by omega), one r 2 (0 + 1) _ (by omega), one r 1 (0 + 1 + 1) _ (by omega), Zu]
  show cond (decide ((3 : Int) < 3)) _ _ = _
  rw [decide_eq_false (by omega), cond_false]
  rfl
theorem Zbg (m : GMesh) (ok : OkE m.Places.length m.Triangles) {a b : Int} (ha : 0 ≤ a) (hab : a < b) (hb : b < (m.Places.length : Int)) : ∀ (k : Nat) (i : Nat) (r : List Bool), i ≤ m.Triangles.length → ((m.Triangles.length : Int) - i).toNat < k → r.length = (IntKind.wrap .i64 ((m.Places.length : Int) * (m.Places.length : Int))).toNat →
    (ZJ m k i r).getD (IntKind.wrap .i64 (IntKind.wrap .i64 (a * (m.Places.length : Int)) + b)).toNat default = (r.getD (IntKind.wrap .i64 (IntKind.wrap .i64 (a * (m.Places.length : Int)) + b)).toNat default || (m.Triangles.drop i).any fun t => tHas t a b) := by
  intro k
  induction k with
  | zero => intro i r _ hk; exact absurd hk (Nat.not_lt_zero _)
  | succ k ih =>
    intro i r hle hk hr
    rw [ZJ]
    by_cases hi : (i : Int) < (m.Triangles.length : Int)
    · have hn : i < m.Triangles.length := by omega
      rw [decide_eq_true hi, cond_true]
      have := ih (i + 1) (Z1q m i r) (by omega) (by omega) (by rw [Z6w]; exact hr)
      rw [show ((i : Int) + 1) = ((i + 1 : Nat) : Int) from by omega, this, Zbf, List.drop_eq_getElem_cons hn, List.any_cons]
      have hg : m.Triangles.getD ((i : Nat) : Int).toNat default = m.Triangles[i] := by rw [show ((i : Nat) : Int).toNat = i from by omega, List.getD_eq_getElem?_getD, List.getElem?_eq_getElem hn]; rfl
      obtain ⟨x, y, z, ht, r1, r2, r3, n1, n2, n3⟩ := ok.2.2 _ (List.getElem_mem hn)
      have h64 : (m.Places.length : Int) ≤ 64 := by have := ok.1; omega
      rw [hg, ht]
      simp only [List.getD_cons_zero, List.getD_cons_succ]
      rw [seen_set h64 (Z7d z x) (Z6G r3 r1) (Z6H r3 r1) ha hab hb (by simpa using hr), seen_set h64 (Z7d y z) (Z6G r2 r3) (Z6H r2 r3) ha hab hb (by simpa using hr), seen_set h64 (Z7d x y) (Z6G r1 r2) (Z6H r1 r2) ha hab hb hr]
      have hT := mem_tE n1 n2 n3 hab
      unfold tE at hT
      simp only [List.getD_cons_zero, List.getD_cons_succ, List.mem_cons, List.not_mem_nil, or_false] at hT
      generalize r.getD (IntKind.wrap .i64 (IntKind.wrap .i64 (a * (m.Places.length : Int)) + b)).toNat default = q
      generalize ((m.Triangles.drop (i + 1)).any fun t => tHas t a b) = q2
      have hB : tHas [x, y, z] a b = (decide ((⟨a, b⟩ : Gedge) = mkE x y) || (decide ((⟨a, b⟩ : Gedge) = mkE y z) || decide ((⟨a, b⟩ : Gedge) = mkE z x))) := by
        rw [Bool.eq_iff_iff, ← hT]; simp only [Bool.or_eq_true, decide_eq_true_eq]
      rw [hB]
      cases decide ((⟨a, b⟩ : Gedge) = mkE x y) <;> cases decide ((⟨a, b⟩ : Gedge) = mkE y z) <;> cases decide ((⟨a, b⟩ : Gedge) = mkE z x) <;> cases q <;> cases q2 <;> rfl
    · rw [decide_eq_false hi, cond_false, List.drop_eq_nil_of_le (by omega)]; simp
theorem Zbk (m : GMesh) (ok : OkE m.Places.length m.Triangles) {a b : Int} (ha : 0 ≤ a) (hab : a < b) (hb : b < (m.Places.length : Int)) :
    (Zm m).getD (IntKind.wrap .i64 (IntKind.wrap .i64 (a * (m.Places.length : Int)) + b)).toNat default = m.Triangles.any fun t => tHas t a b := by
  unfold Zm
  have := Zbg m ok ha hab hb (((m.Triangles.length : Int) - 0).toNat + 1) 0 (List.replicate (IntKind.wrap .i64 ((m.Places.length : Int) * (m.Places.length : Int))).toNat false) (Nat.zero_le _) (by omega) (by simp)
  rw [List.drop_zero] at this
  refine this.trans ?_
  rw [List.getD_eq_getElem?_getD, List.getElem?_replicate]
  split <;> simp
theorem Z6V (m : GMesh) (ok : OkE m.Places.length m.Triangles) : Z4 m = (edgL m.Places.length m.Triangles).map e2 := by
  rw [edgL_map]
  unfold Z4 Z3x
  refine pair_loop (n := m.Places.length) (p := fun a b => m.Triangles.any fun t => tHas t a b) (g := fun a b => e2 ⟨a, b⟩) (lo := Z1S m) (li := Z27 m) (fun k a r => rfl) (fun a r ha => ?_) _ 0 (Nat.zero_le _) (by omega)
  unfold Z27
  have hf := filt_loop (n := (m.Places.length : Int)) (f := fun b => !((Zm m).getD ((IntKind.wrap .i64 ((IntKind.wrap .i64 ((a : Int) * (m.Places.length : Int))) + b)).toNat) default)) (g := fun b => [(a : Int), b]) (lo := ZK m a r) (fun k i r' => by
    rw [ZK]
    cases ((Zm m).getD ((IntKind.wrap .i64 ((IntKind.wrap .i64 ((a : Int) * (m.Places.length : Int))) + i)).toNat) default) <;> rfl) (((m.Places.length : Int) - ((a : Int) + 1)).toNat + 1) ((a : Int) + 1) r (Nat.lt_succ_self _)
  rw [hf, show ((m.Places.length : Int) - ((a : Int) + 1)).toNat = m.Places.length - (a + 1) from by omega]
  congr 1
  have hfc : ((List.range (m.Places.length - (a + 1))).filter fun (j : Nat) => !(!((Zm m).getD ((IntKind.wrap .i64 ((IntKind.wrap .i64 ((a : Int) * (m.Places.length : Int))) + ((a : Int) + 1 + (j : Int)))).toNat) default))) = (List.range (m.Places.length - (a + 1))).filter fun (j : Nat) => m.Triangles.any fun t => tHas t a ((a : Int) + 1 + j) := by
    refine List.filter_congr fun j hj => ?_
    rw [List.mem_range] at hj
    rw [Bool.not_not, Zbk m ok (by omega) (by omega) (by omega)]
  rw [hfc]
  rfl
theorem Zag (m : GMesh) (ok : OkE m.Places.length m.Triangles) : (Z4 m).length ≤ 4096 := by
  rw [Z6V m ok, List.length_map]; exact edgL_len ok
theorem Z3E (m : GMesh) (ok : OkE m.Places.length m.Triangles) {i : Int} (h0 : 0 ≤ i) (hi : i < ((Z4 m).length : Int)) :
    ((Z4 m).getD i.toNat default).length = 2 ∧ 0 ≤ ((Z4 m).getD i.toNat default).getD 0 default ∧ ((Z4 m).getD i.toNat default).getD 0 default < ((Z4 m).getD i.toNat default).getD 1 default ∧ ((Z4 m).getD i.toNat default).getD 1 default < (m.Places.length : Int) ∧ (m.Places.length : Int) ≤ 64 ∧ ((Z4 m).length : Int) ≤ 4096 := by
  have hl := Zag m ok
  have h64 := ok.1
  rw [Z6V m ok] at hi hl ⊢
  rw [List.length_map] at hi hl
  have hn : i.toNat < (edgL m.Places.length m.Triangles).length := by omega
  have hg : ((edgL m.Places.length m.Triangles).map e2).getD i.toNat default = e2 (edgL m.Places.length m.Triangles)[i.toNat] := by rw [List.getD_eq_getElem?_getD, List.getElem?_map, List.getElem?_eq_getElem hn]; rfl
  have hb := edgL_at (List.getElem_mem hn)
  rw [hg, List.length_map]
  exact ⟨rfl, hb.1, hb.2.1, hb.2.2, by omega, by omega⟩
theorem Z9j (m_0 : GMesh) (hp0 : m_0.Places.length ≤ 1073741824) (hp1 : m_0.Triangles.length ≤ 1073741824) (hp2 : ∀ t ∈ m_0.Triangles, t.length ≤ 1073741824) (hp3 : OkE m_0.Places.length m_0.Triangles)  : Fn prog 137 [.ref (GMesh.cells m_0) 0] (.own 0) [.nest 49 ((Z4 m_0).map fun l => l.map (cI .i64)) false] := by
 have y0 : (0 : Int) ≤ (IntKind.wrap .i64 ((m_0.Places.length : Int) * (m_0.Places.length : Int))) := (by (have q2 := ixN hp3.1; omega))
 have y1 : ((IntKind.wrap .i64 ((m_0.Places.length : Int) * (m_0.Places.length : Int))) : Int) ≤ 2147483648 := (by (have q2 := ixN hp3.1; omega))
 refine fnS E0Ok Z3 (c := bodyOf f137) [] (.own 0) [.nest 49 ((Z3x m_0).map fun l => l.map (cI .i64)) false] func137 (sZ GVector.cells m_0.Places <| sW .i64 ((m_0.Places.length : Int) * (m_0.Places.length : Int)) <| sC (show (IntKind.wrap .i64 ((m_0.Places.length : Int) * (m_0.Places.length : Int))) = (IntKind.wrap .i64 ((m_0.Places.length : Int) * (m_0.Places.length : Int))) from rfl) <| sC y0 <| sC y1 <| sL (mR false [0, 1, 1, 4, 7, 9, 69]) 1 (lp_cast (st2 := ⟨.ref (GMesh.cells m_0) 0 :: .any :: .nils :: .i .i64 (m_0.Places.length : Int) :: .own 0 :: .i .i64 0 :: an 7 (.ref (GMesh.cells m_0) 0 :: .ref (GMesh.cells m_0) 0 :: .ref (GMesh.cells m_0) 0 :: .sl (m_0.Places.map GVector.cells) :: .i .i64 (m_0.Places.length : Int) :: .i .i64 (m_0.Places.length : Int) :: .i .i64 (m_0.Places.length : Int) :: .i .i64 (IntKind.wrap .i64 ((m_0.Places.length : Int) * (m_0.Places.length : Int))) :: .own 0 :: an 69 []), [.vec 4 1 (List.replicate (Int.toNat (IntKind.wrap .i64 ((m_0.Places.length : Int) * (m_0.Places.length : Int)))) [.b false]) false]⟩) (lp_val (Z4D m_0) (x := (Zm m_0)) (Z85 m_0 hp0 hp1 hp2 hp3 (((m_0.Triangles.length : Int) - 0).toNat + 1) 0 (List.replicate (IntKind.wrap .i64 ((m_0.Places.length : Int) * (m_0.Places.length : Int))).toNat false) (show 0 ≤ 0 from (by omega)) (show (List.replicate (IntKind.wrap .i64 ((m_0.Places.length : Int) * (m_0.Places.length : Int))).toNat false).length = (IntKind.wrap .i64 ((m_0.Places.length : Int) * (m_0.Places.length : Int))).toNat from (by simp)) (Nat.lt_succ_self _)) rfl) (by simp [Z6l, cB])) <| sL (mR false [0, 1, 1, 3, 5, 2, 1, 9, 69]) 2 (lp_cast (st2 := ⟨.ref (GMesh.cells m_0) 0 :: .any :: .nils :: .i .i64 (m_0.Places.length : Int) :: .own 0 :: an 5 (.own 1 :: .i .i64 0 :: .any :: .ref (GMesh.cells m_0) 0 :: .ref (GMesh.cells m_0) 0 :: .ref (GMesh.cells m_0) 0 :: .sl (m_0.Places.map GVector.cells) :: .i .i64 (m_0.Places.length : Int) :: .i .i64 (m_0.Places.length : Int) :: .i .i64 (m_0.Places.length : Int) :: .i .i64 (IntKind.wrap .i64 ((m_0.Places.length : Int) * (m_0.Places.length : Int))) :: .own 0 :: an 69 []), [.vec 4 1 ((Zm m_0).map cB) false, .nest 49 [] false]⟩) (lp_val (Z4F m_0) (x := (Z3x m_0)) (Z88 m_0 hp0 hp1 hp2 hp3 (((m_0.Places.length : Int) - 0).toNat + 1) 0 ([] : List (List Int)) (show 0 ≤ 0 from (by omega)) (show (([] : List (List Int)).length : Int) ≤ 64 * 0 from (by simp)) (Nat.lt_succ_self _)) rfl) (by simp [Z6m, cL, cI])) <| sK [1] sN) rfl (by kernel_rfl) (by kernel_rfl) rfl ?_ ?_
 · rfl
 · simp [Z4]
end Go.Ab
