/- The functions of this seat as plain Lean, and that the program's are these. Printed by a program of the prover's own. -/
import Derived.Test.YtpndflbllggeiaaGreatB1
set_option linter.unusedVariables false
set_option linter.unusedSimpArgs false
set_option maxRecDepth 100000
namespace Go.Ab
open Go.RowKit Go.Proofs.Tryz
def Z3R (Ym : (List Int)) (YF : Int) (Yw : Int) : (Unit) ⊕ (Unit) := (ZA Ym YF Yw (((Ym.length : Int) - 0).toNat + 1) 0)
def Z4i (Ym : (List Int)) (YF : Int) (Yw : Int) : Bool := (match (Z3R Ym YF Yw) with
  | .inl r1 => false
  | .inr r1 => true)
theorem ZeF (Ym : (List Int)) (YF : Int) (Yw : Int) (hp0 : Ym.length ≤ 1073741824)  : Fn prog 120 [.sl (Ym.map (cI .i64)), .i .i64 YF, .i .i64 Yw] (.b (Z4i Ym YF Yw)) [] := by
 cases h0 : (Z3R Ym YF Yw) with
 | inl r1 =>
  refine fnS E0Ok Z4 (c := bodyOf f120) [] (.b false) [] func120 (sL (mR false [0, 3, 4, 1, 30]) 0 (lp_val (Z5q Ym YF Yw) (x := (Z3R Ym YF Yw)) (Z9m Ym YF Yw hp0 (((Ym.length : Int) - 0).toNat + 1) 0 (show 0 ≤ 0 from (by omega)) (Nat.lt_succ_self _)) h0) <| sK [] sN) rfl (by kernel_rfl) (by kernel_rfl) rfl ?_ ?_
  · simp only [Z4i, h0]
  · rfl
 | inr r1 =>
  refine fnS E0Ok Z4 (c := bodyOf f120) [] (.b true) [] func120 (sL (mR false [0, 3, 4, 1, 30]) 0 (lp_val (Z5q Ym YF Yw) (x := (Z3R Ym YF Yw)) (Z9m Ym YF Yw hp0 (((Ym.length : Int) - 0).toNat + 1) 0 (show 0 ≤ 0 from (by omega)) (Nat.lt_succ_self _)) h0) <| sK [] sN) rfl (by kernel_rfl) (by kernel_rfl) rfl ?_ ?_
  · simp only [Z4i, h0]
  · rfl
def Z3S (Y3 : GBody) (Ya : (List Int)) : Bool := (Z4i Ya 0 (IntKind.wrap .i64 ((Y3.Mesh.Places.length : Int) - 1)))
theorem Zf2 (Y3 : GBody) (Ya : (List Int)) (hp0 : Y3.Mesh.Places.length ≤ 1073741824) (hp1 : Y3.Mesh.Triangles.length ≤ 1073741824) (hp2 : ∀ t ∈ Y3.Mesh.Triangles, t.length ≤ 1073741824) (hp3 : Y3.Springs.length ≤ 1073741824) (hp4 : Y3.Weights.length ≤ 1073741824) (hp5 : Ya.length ≤ 1073741824)  : Fn prog 63 [.ref (GBody.cells Y3) 0, .sl (Ya.map (cI .i64))] (.b (Z3S Y3 Ya)) [] := by
 refine fnS E0Ok Z4 (c := bodyOf f63) [] (.b (Z4i Ya 0 (IntKind.wrap .i64 ((Y3.Mesh.Places.length : Int) - 1)))) [] func63 (sZ GVector.cells Y3.Mesh.Places <| sW .i64 ((Y3.Mesh.Places.length : Int) - 1) <| sF (ZeF Ya 0 (IntKind.wrap .i64 ((Y3.Mesh.Places.length : Int) - 1)) hp5) <| sK [] sN) rfl (by kernel_rfl) (by kernel_rfl) rfl ?_ ?_
 · rfl
 · rfl
theorem Zhe (l : List Int) (h : Int) : ∀ (k : Nat) (i : Int), 0 ≤ i → ZA l 0 h k i = .inr () → ∀ j : Nat, i.toNat ≤ j → j < l.length → ZK (l.getD j default) 0 h = true := by
  intro k
  induction k with
  | zero => intro i _ e; cases e
  | succ k ih =>
    intro i h0 e j hj hl
    rw [ZA, decide_eq_true (show i < (l.length : Int) from by omega), cond_true] at e
    cases hc : ZK (l.getD i.toNat default) 0 h with
    | false => rw [hc] at e; cases e
    | true =>
      have e2 : ZA l 0 h k (i + 1) = .inr () := by
        rw [hc, cond_true] at e
        cases h1 : decide (i > 0) with
        | false => rw [h1, cond_false] at e; exact e
        | true =>
          rw [h1, cond_true] at e
          cases h2 : decide ((l.getD (i - 1).toNat default) ≥ (l.getD i.toNat default)) with
          | true => rw [h2] at e; cases e
          | false => rw [h2, cond_false] at e; exact e
      by_cases hij : i.toNat = j
      · rw [← hij]; exact hc
      · exact ih (i + 1) (by omega) e2 j (by omega) hl
theorem Zgs (b : GBody) (l : List Int) (hn : b.Mesh.Places.length ≤ 1073741824) (h : Z3S b l = true) : OkIx b.Mesh.Places.length (fun x => x) l := by
  intro x hx
  obtain ⟨j, hj, rfl⟩ := List.getElem_of_mem hx
  unfold Z3S Z4i Z3R at h
  cases e : ZA l 0 (IntKind.wrap .i64 ((b.Mesh.Places.length : Int) - 1)) (((l.length : Int) - 0).toNat + 1) 0 with
  | inl r => rw [e] at h; cases h
  | inr r =>
    have := Zhe l _ _ 0 (Int.le_refl 0) e j (by omega) hj
    rw [List.getD_eq_getElem?_getD, List.getElem?_eq_getElem hj, Option.getD_some] at this
    exact ZgG (by omega) this
def Z7r (YI : Nat) : Bool := (fcmp .eql .f32 (fop .sub .f32 YI YI) 0)
theorem Zec (YI : Nat)   : Fn prog 121 [.f .f32 YI] (.b (Z7r YI)) [] := by
 refine fnS E0Ok Z4 (c := bodyOf f121) [] (.b (fcmp .eql .f32 (fop .sub .f32 YI YI) 0)) [] func121 (sK [] sN) rfl (by kernel_rfl) (by kernel_rfl) rfl ?_ ?_
 · rfl
 · rfl
def Z3L (YI : Nat) : Bool := (cond (Z7r YI)
  (fcmp .gtr .f32 YI 0)
  false)
theorem ZcK (YI : Nat)   : Fn prog 69 [.f .f32 YI] (.b (Z3L YI)) [] := by
 have p {a C} (s : Scr a C) := sF (Zec YI) <| s
 cases h0 : (Z7r YI) with
 | true =>
  refine fnS E0Ok Z4 (c := bodyOf f69) [] (.b (fcmp .gtr .f32 YI 0)) [] func69 (p (sB h0 <| sB h0 <| sB h0 <| sK [] sN)) rfl (by kernel_rfl) (by kernel_rfl) rfl ?_ ?_
  · simp only [Z3L, h0, cond_true]
  · rfl
 | false =>
  refine fnS E0Ok Z4 (c := bodyOf f69) [] (.b false) [] func69 (p (sB h0 <| sB h0 <| sB h0 <| sK [] sN)) rfl (by kernel_rfl) (by kernel_rfl) rfl ?_ ?_
  · simp only [Z3L, h0, cond_false]
  · rfl
def Z1P (Y5 : GVector) (Yk : GVector) : GVector := (⟨(fop .sub .f32 Y5.X Yk.X), (fop .sub .f32 Y5.Y Yk.Y), (fop .sub .f32 Y5.Z Yk.Z)⟩ : GVector)
theorem Z59 (Y5 : GVector) (Yk : GVector)   : Fn prog 99 [.agg [.f .f32 Y5.X, .f .f32 Y5.Y, .f .f32 Y5.Z], .agg [.f .f32 Yk.X, .f .f32 Yk.Y, .f .f32 Yk.Z]] (.agg [.f .f32 ((Z1P Y5 Yk).X), .f .f32 ((Z1P Y5 Yk).Y), .f .f32 ((Z1P Y5 Yk).Z)]) [] := by
 refine fnS E0Ok Z4 (c := bodyOf f99) [] (.agg [.f .f32 (fop .sub .f32 Y5.X Yk.X), .f .f32 (fop .sub .f32 Y5.Y Yk.Y), .f .f32 (fop .sub .f32 Y5.Z Yk.Z)]) [] func99 (sK [] sN) rfl (by kernel_rfl) (by kernel_rfl) rfl ?_ ?_
 · rfl
 · rfl
theorem Z2y {n : Nat} {ts : List (List Int)} {i k : Int} (h : OkE n ts) (h0 : 0 ≤ i) (hi : i < (ts.length : Int)) (k0 : 0 ≤ k) (k3 : k < 3) :
    (ts.getD i.toNat default).length = 3 ∧ 0 ≤ Int.tmod (k + 1) 3 ∧ Int.tmod (k + 1) 3 < 3 ∧ 0 ≤ Int.tmod (k + 2) 3 ∧ Int.tmod (k + 2) 3 < 3 ∧
    (0 ≤ (ts.getD i.toNat default).getD k.toNat default ∧ (ts.getD i.toNat default).getD k.toNat default < (n : Int)) ∧
    (0 ≤ (ts.getD i.toNat default).getD (Int.tmod (k + 1) 3).toNat default ∧ (ts.getD i.toNat default).getD (Int.tmod (k + 1) 3).toNat default < (n : Int)) ∧
    (0 ≤ (ts.getD i.toNat default).getD (Int.tmod (k + 2) 3).toNat default ∧ (ts.getD i.toNat default).getD (Int.tmod (k + 2) 3).toNat default < (n : Int)) := by
  have q1 := h.tris.at2 h0 hi k0 (.inl k3)
  have q2 := tmod3 (x := k + 1) (by omega)
  have q3 := h.tris.at2 h0 hi q2.1 (.inl q2.2)
  have q4 := tmod3 (x := k + 2) (by omega)
  have q5 := h.tris.at2 h0 hi q4.1 (.inl q4.2)
  exact ⟨q1.1, q2.1, q2.2, q4.1, q4.2, q1.2, q3.2, q5.2⟩
def Z4F (Y5 : GVector) (Yk : GVector) : Nat := (fop .add .f32 (fop .add .f32 (fop .mul .f32 Y5.X Yk.X) (fop .mul .f32 Y5.Y Yk.Y)) (fop .mul .f32 Y5.Z Yk.Z))
theorem Z84 (Y5 : GVector) (Yk : GVector)   : Fn prog 131 [.agg [.f .f32 Y5.X, .f .f32 Y5.Y, .f .f32 Y5.Z], .agg [.f .f32 Yk.X, .f .f32 Yk.Y, .f .f32 Yk.Z]] (.f .f32 (Z4F Y5 Yk)) [] := by
 refine fnS E0Ok Z4 (c := bodyOf f131) [] (.f .f32 (fop .add .f32 (fop .add .f32 (fop .mul .f32 Y5.X Yk.X) (fop .mul .f32 Y5.Y Yk.Y)) (fop .mul .f32 Y5.Z Yk.Z))) [] func131 (sK [] sN) rfl (by kernel_rfl) (by kernel_rfl) rfl ?_ ?_
 · rfl
 · rfl
def Z57 (YI : Nat) : Nat := (fsqrt YI)
theorem ZdS (YI : Nat)   : Fn prog 146 [.f .f64 YI] (.f .f64 (Z57 YI)) [] := by
 refine fnS E0Ok Z4 (c := bodyOf f146) [] (.f .f64 (fsqrt YI)) [] func146 (sK [] sN) rfl (by kernel_rfl) (by kernel_rfl) rfl ?_ ?_
 · rfl
 · rfl
def Z7s (YI : Nat) : Nat := (fcv .f64 .f32 YI)
theorem Zed (YI : Nat) (hp0 : fcvOk .f64 .f32 YI = true)  : Fn prog 145 [.f .f64 YI] (.f .f32 (Z7s YI)) [] := by
 refine fnS E0Ok Z4 (c := bodyOf f145) [] (.f .f32 (fcv .f64 .f32 YI)) [] func145 (sC hp0 <| sK [] sN) rfl (by kernel_rfl) (by kernel_rfl) rfl ?_ ?_
 · rfl
 · rfl
def Z9g (YI : Nat) : Nat := (Z7s (Z57 (fcv .f32 .f64 YI)))
theorem Zf3 (YI : Nat)   : Fn prog 136 [.f .f32 YI] (.f .f32 (Z9g YI)) [] := by
 have y0 : fcvOk .f64 .f32 (Z57 (fcv .f32 .f64 YI)) = true := (narrow_sqrt _)
 refine fnS E0Ok Z4 (c := bodyOf f136) [] (.f .f32 (Z7s (Z57 (fcv .f32 .f64 YI)))) [] func136 (sC (widenOk YI) <| sF (ZdS (fcv .f32 .f64 YI)) <| sF (Zed (Z57 (fcv .f32 .f64 YI)) y0) <| sK [] sN) rfl (by kernel_rfl) (by kernel_rfl) rfl ?_ ?_
 · rfl
 · rfl
def Z1U (YY : GVector) : Nat := (Z9g (Z4F YY YY))
theorem Z6X (YY : GVector)   : Fn prog 98 [.agg [.f .f32 YY.X, .f .f32 YY.Y, .f .f32 YY.Z]] (.f .f32 (Z1U YY)) [] := by
 refine fnS E0Ok Z4 (c := bodyOf f98) [] (.f .f32 (Z9g (Z4F YY YY))) [] func98 (sF (Z84 YY YY) <| sF (Zf3 (Z4F YY YY)) <| sK [] sN) rfl (by kernel_rfl) (by kernel_rfl) rfl ?_ ?_
 · rfl
 · rfl
def Z4w (YI : Nat) (Y18 : Nat) : Nat := (cond (fcmp .gtr .f32 Y18 0)
  (fop .quo .f32 YI Y18)
  0)
theorem Zbh (YI : Nat) (Y18 : Nat)   : Fn prog 87 [.f .f32 YI, .f .f32 Y18] (.f .f32 (Z4w YI Y18)) [] := by
 cases h0 : (fcmp .gtr .f32 Y18 0) with
 | true =>
  refine fnS E0Ok Z4 (c := bodyOf f87) [] (.f .f32 (fop .quo .f32 YI Y18)) [] func87 (sB h0 <| sK [] sN) rfl (by kernel_rfl) (by kernel_rfl) rfl ?_ ?_
  · simp only [Z4w, h0, cond_true]
  · rfl
 | false =>
  refine fnS E0Ok Z4 (c := bodyOf f87) [] (.f .f32 0) [] func87 (sB h0 <| sK [] sN) rfl (by kernel_rfl) (by kernel_rfl) rfl ?_ ?_
  · simp only [Z4w, h0, cond_false]
  · rfl
def Zam (Y3 : GBody) (x_1 : GSpring) : Nat := (fop .mul .f32 x_1.Stiff (fop .sub .f32 (Z1U (Z1P (Y3.Mesh.Places.getD x_1.B.toNat default) (Y3.Mesh.Places.getD x_1.A.toNat default))) x_1.Long))
def Zan (Y3 : GBody) (x_1 : GSpring) : Nat := (Z4w (Zam Y3 x_1) (Z1U (Z1P (Y3.Mesh.Places.getD x_1.B.toNat default) (Y3.Mesh.Places.getD x_1.A.toNat default))))
def Z2Q (Y3 : GBody) (x_1 : GSpring) : GVector × Nat := ((Z1P (Y3.Mesh.Places.getD x_1.B.toNat default) (Y3.Mesh.Places.getD x_1.A.toNat default)), (Zan Y3 x_1))
theorem Zfy (Y3 : GBody) (x_1 : GSpring) (hp0 : Y3.Mesh.Places.length ≤ 1073741824) (hp1 : Y3.Mesh.Triangles.length ≤ 1073741824) (hp2 : ∀ t ∈ Y3.Mesh.Triangles, t.length ≤ 1073741824) (hp3 : Y3.Springs.length ≤ 1073741824) (hp4 : Y3.Weights.length ≤ 1073741824) (hp5 : 0 ≤ x_1.A) (hp6 : x_1.A < (Y3.Mesh.Places.length : Int)) (hp7 : 0 ≤ x_1.B) (hp8 : x_1.B < (Y3.Mesh.Places.length : Int))  : Fn prog 96 [.ref (GBody.cells Y3) 0, .ref (GSpring.cells x_1) 0] (.tup [.agg [.f .f32 ((Z2Q Y3 x_1).1.X), .f .f32 ((Z2Q Y3 x_1).1.Y), .f .f32 ((Z2Q Y3 x_1).1.Z)], .f .f32 ((Z2Q Y3 x_1).2)]) [] := by
 have y0 : (0 : Int) ≤ x_1.B := (by assumption)
 have y1 : (0 : Int) ≤ x_1.A := (by assumption)
 refine fnS E0Ok Z4 (c := bodyOf f96) [] (.tup [.agg [.f .f32 ((Z1P (Y3.Mesh.Places.getD x_1.B.toNat default) (Y3.Mesh.Places.getD x_1.A.toNat default)).X), .f .f32 ((Z1P (Y3.Mesh.Places.getD x_1.B.toNat default) (Y3.Mesh.Places.getD x_1.A.toNat default)).Y), .f .f32 ((Z1P (Y3.Mesh.Places.getD x_1.B.toNat default) (Y3.Mesh.Places.getD x_1.A.toNat default)).Z)], .f .f32 (Zan Y3 x_1)]) [] func96 (sK [24, 24] <| sG GVector.cells Y3.Mesh.Places x_1.B y0 hp8 <| sG GVector.cells Y3.Mesh.Places x_1.A y1 hp6 <| sF (Z59 (Y3.Mesh.Places.getD x_1.B.toNat default) (Y3.Mesh.Places.getD x_1.A.toNat default)) <| sF (Z6X (Z1P (Y3.Mesh.Places.getD x_1.B.toNat default) (Y3.Mesh.Places.getD x_1.A.toNat default))) <| sK [14, 14] <| sF (Zbh (Zam Y3 x_1) (Z1U (Z1P (Y3.Mesh.Places.getD x_1.B.toNat default) (Y3.Mesh.Places.getD x_1.A.toNat default)))) <| sK [] sN) rfl (by kernel_rfl) (by kernel_rfl) rfl ?_ ?_
 · rfl
 · rfl
def Zl (YY : GVector) (Yj : Nat) : GVector := (⟨(fop .mul .f32 YY.X Yj), (fop .mul .f32 YY.Y Yj), (fop .mul .f32 YY.Z Yj)⟩ : GVector)
theorem Z3H (YY : GVector) (Yj : Nat)   : Fn prog 90 [.agg [.f .f32 YY.X, .f .f32 YY.Y, .f .f32 YY.Z], .f .f32 Yj] (.agg [.f .f32 ((Zl YY Yj).X), .f .f32 ((Zl YY Yj).Y), .f .f32 ((Zl YY Yj).Z)]) [] := by
 refine fnS E0Ok Z4 (c := bodyOf f90) [] (.agg [.f .f32 (fop .mul .f32 YY.X Yj), .f .f32 (fop .mul .f32 YY.Y Yj), .f .f32 (fop .mul .f32 YY.Z Yj)]) [] func90 (sK [] sN) rfl (by kernel_rfl) (by kernel_rfl) rfl ?_ ?_
 · rfl
 · rfl
def Zx (Y5 : GVector) (Yk : GVector) : GVector := (⟨(fop .add .f32 Y5.X Yk.X), (fop .add .f32 Y5.Y Yk.Y), (fop .add .f32 Y5.Z Yk.Z)⟩ : GVector)
theorem Z3A (Y5 : GVector) (Yk : GVector)   : Fn prog 89 [.agg [.f .f32 Y5.X, .f .f32 Y5.Y, .f .f32 Y5.Z], .agg [.f .f32 Yk.X, .f .f32 Yk.Y, .f .f32 Yk.Z]] (.agg [.f .f32 ((Zx Y5 Yk).X), .f .f32 ((Zx Y5 Yk).Y), .f .f32 ((Zx Y5 Yk).Z)]) [] := by
 refine fnS E0Ok Z4 (c := bodyOf f89) [] (.agg [.f .f32 (fop .add .f32 Y5.X Yk.X), .f .f32 (fop .add .f32 Y5.Y Yk.Y), .f .f32 (fop .add .f32 Y5.Z Yk.Z)]) [] func89 (sK [] sN) rfl (by kernel_rfl) (by kernel_rfl) rfl ?_ ?_
 · rfl
 · rfl
def Z4G (Y5 : GVector) (Yk : GVector) : GVector := (⟨(fop .sub .f32 (fop .mul .f32 Y5.Y Yk.Z) (fop .mul .f32 Y5.Z Yk.Y)), (fop .sub .f32 (fop .mul .f32 Y5.Z Yk.X) (fop .mul .f32 Y5.X Yk.Z)), (fop .sub .f32 (fop .mul .f32 Y5.X Yk.Y) (fop .mul .f32 Y5.Y Yk.X))⟩ : GVector)
theorem ZaO (Y5 : GVector) (Yk : GVector)   : Fn prog 100 [.agg [.f .f32 Y5.X, .f .f32 Y5.Y, .f .f32 Y5.Z], .agg [.f .f32 Yk.X, .f .f32 Yk.Y, .f .f32 Yk.Z]] (.agg [.f .f32 ((Z4G Y5 Yk).X), .f .f32 ((Z4G Y5 Yk).Y), .f .f32 ((Z4G Y5 Yk).Z)]) [] := by
 refine fnS E0Ok Z4 (c := bodyOf f100) [] (.agg [.f .f32 (fop .sub .f32 (fop .mul .f32 Y5.Y Yk.Z) (fop .mul .f32 Y5.Z Yk.Y)), .f .f32 (fop .sub .f32 (fop .mul .f32 Y5.Z Yk.X) (fop .mul .f32 Y5.X Yk.Z)), .f .f32 (fop .sub .f32 (fop .mul .f32 Y5.X Yk.Y) (fop .mul .f32 Y5.Y Yk.X))]) [] func100 (sK [] sN) rfl (by kernel_rfl) (by kernel_rfl) rfl ?_ ?_
 · rfl
 · rfl
def Z5e (Y4 : GMesh) (YP : (List Int)) : GVector := (Z4G (Z1P (Y4.Places.getD (YP.getD 1 default).toNat default) (Y4.Places.getD (YP.getD 0 default).toNat default)) (Z1P (Y4.Places.getD (YP.getD 2 default).toNat default) (Y4.Places.getD (YP.getD 0 default).toNat default)))
def Zc (Y4 : GMesh) (YP : (List Int)) : GVector := (Z5e Y4 YP)
theorem Zao (Y4 : GMesh) (YP : (List Int)) (hp0 : Y4.Places.length ≤ 1073741824) (hp1 : Y4.Triangles.length ≤ 1073741824) (hp2 : ∀ t ∈ Y4.Triangles, t.length ≤ 1073741824) (hp3 : YP.length ≤ 1073741824) (hp4 : YP.length = 3 ∧ ∀ x ∈ YP, 0 ≤ x ∧ x < (Y4.Places.length : Int))  : Fn prog 97 [.ref (GMesh.cells Y4) 0, .sl (YP.map (cI .i64))] (.agg [.f .f32 ((Zc Y4 YP).X), .f .f32 ((Zc Y4 YP).Y), .f .f32 ((Zc Y4 YP).Z)]) [] := by
 have y0 : (0 : Int) ≤ 0 := (by omega)
 have y1 : 0 < (YP.length : Int) := (by omega)
 have y2 : (0 : Int) ≤ (YP.getD 0 default) := (by have q := Okt.at hp4; omega)
 have y3 : (YP.getD 0 default) < (Y4.Places.length : Int) := (by have q := Okt.at hp4; omega)
 have y4 : (0 : Int) ≤ 1 := (by omega)
 have y5 : 1 < (YP.length : Int) := (by omega)
 have y6 : (0 : Int) ≤ (YP.getD 1 default) := (by have q := Okt.at hp4; omega)
 have y7 : (YP.getD 1 default) < (Y4.Places.length : Int) := (by have q := Okt.at hp4; omega)
 have y8 : (0 : Int) ≤ 2 := (by omega)
 have y9 : 2 < (YP.length : Int) := (by omega)
 have y10 : (0 : Int) ≤ (YP.getD 2 default) := (by have q := Okt.at hp4; omega)
 have y11 : (YP.getD 2 default) < (Y4.Places.length : Int) := (by have q := Okt.at hp4; omega)
 refine fnS E0Ok Z4 (c := bodyOf f97) [] (.agg [.f .f32 ((Z5e Y4 YP).X), .f .f32 ((Z5e Y4 YP).Y), .f .f32 ((Z5e Y4 YP).Z)]) [] func97 (sK [10, 10] <| sG (cI .i64) YP 0 y0 y1 <| sG GVector.cells Y4.Places (YP.getD 0 default) y2 y3 <| sK [21, 21] <| sG (cI .i64) YP 1 y4 y5 <| sG GVector.cells Y4.Places (YP.getD 1 default) y6 y7 <| sF (Z59 (Y4.Places.getD (YP.getD 1 default).toNat default) (Y4.Places.getD (YP.getD 0 default).toNat default)) <| sG (cI .i64) YP 2 y8 y9 <| sG GVector.cells Y4.Places (YP.getD 2 default) y10 y11 <| sF (Z59 (Y4.Places.getD (YP.getD 2 default).toNat default) (Y4.Places.getD (YP.getD 0 default).toNat default)) <| sF (ZaO (Z1P (Y4.Places.getD (YP.getD 1 default).toNat default) (Y4.Places.getD (YP.getD 0 default).toNat default)) (Z1P (Y4.Places.getD (YP.getD 2 default).toNat default) (Y4.Places.getD (YP.getD 0 default).toNat default))) <| sK [] sN) rfl (by kernel_rfl) (by kernel_rfl) rfl ?_ ?_
 · rfl
 · rfl
def Z3i (Y5 : Int) (Yk : Int) : Int := (cond (decide (Y5 < Yk))
  Y5
  Yk)
theorem Zfz (Y5 : Int) (Yk : Int)   : Fn prog 147 [.i .i64 Y5, .i .i64 Yk] (.i .i64 (Z3i Y5 Yk)) [] := by
 cases h0 : (decide (Y5 < Yk)) with
 | true =>
  have gh0 := of_decide_eq_true h0
  refine fnS E0Ok Z4 (c := bodyOf f147) [] (.i .i64 Y5) [] func147 (sB h0 <| sK [] sN) rfl (by kernel_rfl) (by kernel_rfl) rfl ?_ ?_
  · simp only [Z3i, h0, cond_true]
  · rfl
 | false =>
  have gh0 := of_decide_eq_false h0
  refine fnS E0Ok Z4 (c := bodyOf f147) [] (.i .i64 Yk) [] func147 (sB h0 <| sK [] sN) rfl (by kernel_rfl) (by kernel_rfl) rfl ?_ ?_
  · simp only [Z3i, h0, cond_false]
  · rfl
theorem Zap {a b n : Int} (h1 : 0 ≤ a ∧ a < n) (h2 : 0 ≤ b ∧ b < n) : 0 ≤ Z3i a b ∧ Z3i a b < n := by
  unfold Z3i; cases decide (a < b) <;> simp only [cond_true, cond_false] <;> omega
def Z3j (Y5 : Int) (Yk : Int) : Int := (cond (decide (Y5 > Yk))
  Y5
  Yk)
theorem ZfA (Y5 : Int) (Yk : Int)   : Fn prog 148 [.i .i64 Y5, .i .i64 Yk] (.i .i64 (Z3j Y5 Yk)) [] := by
 cases h0 : (decide (Y5 > Yk)) with
 | true =>
  have gh0 := of_decide_eq_true h0
  refine fnS E0Ok Z4 (c := bodyOf f148) [] (.i .i64 Y5) [] func148 (sB h0 <| sK [] sN) rfl (by kernel_rfl) (by kernel_rfl) rfl ?_ ?_
  · simp only [Z3j, h0, cond_true]
  · rfl
 | false =>
  have gh0 := of_decide_eq_false h0
  refine fnS E0Ok Z4 (c := bodyOf f148) [] (.i .i64 Yk) [] func148 (sB h0 <| sK [] sN) rfl (by kernel_rfl) (by kernel_rfl) rfl ?_ ?_
  · simp only [Z3j, h0, cond_false]
  · rfl
theorem Zaq {a b n : Int} (h1 : 0 ≤ a ∧ a < n) (h2 : 0 ≤ b ∧ b < n) : 0 ≤ Z3j a b ∧ Z3j a b < n := by
  unfold Z3j; cases decide (a > b) <;> simp only [cond_true, cond_false] <;> omega
theorem ZbC (a b : Int) : (⟨Z3i a b, Z3j a b⟩ : Gedge) = mkE a b := by
  unfold Z3i Z3j mkE
  by_cases h : a < b
  · rw [decide_eq_true h, decide_eq_false (by omega), if_pos (by omega)]; rfl
  · rw [decide_eq_false h]
    by_cases h2 : a > b
    · rw [decide_eq_true h2, if_neg (by omega)]; rfl
    · rw [decide_eq_false h2, show a = b from by omega, if_pos (by omega)]; rfl
def Z18 (Y4 : GMesh) (Y7 : Int) (Yb : Int) : Int := (Z3i ((Y4.Triangles.getD Y7.toNat default).getD Yb.toNat default) ((Y4.Triangles.getD Y7.toNat default).getD (Int.tmod (Yb + 1) 3).toNat default))
def Z1p (Y4 : GMesh) (Y7 : Int) (Yb : Int) : Int := (Z3j ((Y4.Triangles.getD Y7.toNat default).getD Yb.toNat default) ((Y4.Triangles.getD Y7.toNat default).getD (Int.tmod (Yb + 1) 3).toNat default))
def ZN (Y4 : GMesh) (Y7 : Int) (Y2 : (List Bool)) : Nat → Int → (List Bool) → (List Bool)
  | 0, _, _ => default
  | k + 1, Yb, Yo => (cond (decide (Yb < 3))
    (ZN Y4 Y7 Y2 k (Yb + 1) (Yo.set ((IntKind.wrap .i64 ((IntKind.wrap .i64 ((Z18 Y4 Y7 Yb) * (Y4.Places.length : Int))) + (Z1p Y4 Y7 Yb))).toNat) true))
    Yo)
def Z6C (Y4 : GMesh) (Y7 : Int) (Y2 : (List Bool)) (r : (List Bool)) : Ex × St := ((.exit 2), ⟨.ref (GMesh.cells Y4) 0 :: .any :: .nils :: .i .i64 (Y4.Places.length : Int) :: .own 0 :: .i .i64 Y7 :: .sl ((Y4.Triangles.getD Y7.toNat default).map (cI .i64)) :: an 6 (.ref (GMesh.cells Y4) 0 :: .ref (GMesh.cells Y4) 0 :: .ref (GMesh.cells Y4) 0 :: .sl (Y4.Places.map GVector.cells) :: .i .i64 (Y4.Places.length : Int) :: .i .i64 (Y4.Places.length : Int) :: .i .i64 (Y4.Places.length : Int) :: .i .i64 (IntKind.wrap .i64 ((Y4.Places.length : Int) * (Y4.Places.length : Int))) :: .own 0 :: .i .i64 Y7 :: .ref (GMesh.cells Y4) 0 :: .ref (GMesh.cells Y4) 0 :: .ref (GMesh.cells Y4) 1 :: .sl (Y4.Triangles.map (cL (cI .i64))) :: .i .i64 (Y4.Triangles.length : Int) :: .b (decide (Y7 < (Y4.Triangles.length : Int))) :: .any :: .any :: .ref (GMesh.cells Y4) 0 :: .ref (GMesh.cells Y4) 0 :: .ref (GMesh.cells Y4) 1 :: .sl (Y4.Triangles.map (cL (cI .i64))) :: .i .i64 Y7 :: .ref [.sl ((Y4.Triangles.getD Y7.toNat default).map (cI .i64))] 0 :: .sl ((Y4.Triangles.getD Y7.toNat default).map (cI .i64)) :: an 53 []), [.vec 4 1 (r.map cB) false]⟩)
def ZcL (Y4 : GMesh) (Y7 : Int) (Y2 : (List Bool)) (Yb : Int) (Yo : (List Bool)) : St := ⟨.ref (GMesh.cells Y4) 0 :: .any :: .nils :: .i .i64 (Y4.Places.length : Int) :: .own 0 :: .i .i64 Y7 :: .sl ((Y4.Triangles.getD Y7.toNat default).map (cI .i64)) :: .i .i64 Yb :: an 5 (.ref (GMesh.cells Y4) 0 :: .ref (GMesh.cells Y4) 0 :: .ref (GMesh.cells Y4) 0 :: .sl (Y4.Places.map GVector.cells) :: .i .i64 (Y4.Places.length : Int) :: .i .i64 (Y4.Places.length : Int) :: .i .i64 (Y4.Places.length : Int) :: .i .i64 (IntKind.wrap .i64 ((Y4.Places.length : Int) * (Y4.Places.length : Int))) :: .own 0 :: .i .i64 Y7 :: .ref (GMesh.cells Y4) 0 :: .ref (GMesh.cells Y4) 0 :: .ref (GMesh.cells Y4) 1 :: .sl (Y4.Triangles.map (cL (cI .i64))) :: .i .i64 (Y4.Triangles.length : Int) :: .b (decide (Y7 < (Y4.Triangles.length : Int))) :: .any :: .any :: .ref (GMesh.cells Y4) 0 :: .ref (GMesh.cells Y4) 0 :: .ref (GMesh.cells Y4) 1 :: .sl (Y4.Triangles.map (cL (cI .i64))) :: .i .i64 Y7 :: .ref [.sl ((Y4.Triangles.getD Y7.toNat default).map (cI .i64))] 0 :: .sl ((Y4.Triangles.getD Y7.toNat default).map (cI .i64)) :: an 53 []), [.vec 4 1 (Yo.map cB) false]⟩
def Z85 : List Bool := (mR false [0, 1, 1, 6, 5, 16, 2, 7, 53])
def ZbD : List Bool := (mR false [0, 1, 1, 5, 6, 16, 2, 7, 53])
set_option maxHeartbeats 1000000 in
theorem ZcM (Y4 : GMesh) (Y7 : Int) (Y2 : (List Bool)) (hp0 : Y4.Places.length ≤ 1073741824) (hp1 : Y4.Triangles.length ≤ 1073741824) (hp2 : ∀ t ∈ Y4.Triangles, t.length ≤ 1073741824) (hp3 : OkE Y4.Places.length Y4.Triangles) (Z2I : 0 ≤ Y7) (Z4T : Y2.length = (IntKind.wrap .i64 ((Y4.Places.length : Int) * (Y4.Places.length : Int))).toNat) (ZgH : (decide (Y7 < (Y4.Triangles.length : Int))) = true) : ∀ (k : Nat) (Yb : Int) (Yo : (List Bool)) (Z3z : 0 ≤ Yb) (Z86 : Yo.length = Y2.length) (hk : ((3 : Int) - Yb).toNat < k), Lp prog 0 (sub (bodyOf f137) [1, 1, 1, 0, 1, 0, 0, 1, 0, 0, 1, 1, 0, 0]) (ZcL Y4 Y7 Y2 Yb Yo) (Z6C Y4 Y7 Y2 (ZN Y4 Y7 Y2 k Yb Yo)).1 (Z6C Y4 Y7 Y2 (ZN Y4 Y7 Y2 k Yb Yo)).2 := by
 intro k
 induction k with
 | zero => intro Yb Yo Z3z Z86 hk; exact absurd hk (Nat.not_lt_zero _)
 | succ k ih =>
  intro Yb Yo Z3z Z86 hk
  cases YD : (decide (Yb < 3)) with
  | true =>
   have YB := of_decide_eq_true YD
   have Y15 : (0 : Int) ≤ Yb := (by assumption)
   have Y16 : Yb < ((Y4.Triangles.getD Y7.toNat default).length : Int) := (by ((have q := OkE.at (by assumption) Z2I (of_decide_eq_true (by assumption)) Z3z (of_decide_eq_true (by assumption)); omega)))
   have Y12 : (-9223372036854775808 : Int) ≤ (Yb + 1) := (by omega)
   have Y10 : (Yb + 1) ≤ (9223372036854775807 : Int) := (by omega)
   have Y17 : (0 : Int) ≤ (Int.tmod (Yb + 1) 3) := (by ((have q := OkE.at (by assumption) Z2I (of_decide_eq_true (by assumption)) Z3z (of_decide_eq_true (by assumption)); omega)))
   have Y1a : (Int.tmod (Yb + 1) 3) < ((Y4.Triangles.getD Y7.toNat default).length : Int) := (by ((have q := OkE.at (by assumption) Z2I (of_decide_eq_true (by assumption)) Z3z (of_decide_eq_true (by assumption)); omega)))
   have Y19 : (0 : Int) ≤ (IntKind.wrap .i64 ((IntKind.wrap .i64 ((Z18 Y4 Y7 Yb) * (Y4.Places.length : Int))) + (Z1p Y4 Y7 Yb))) := (by ((have q := OkE.at (by assumption) Z2I (of_decide_eq_true (by assumption)) Z3z (of_decide_eq_true (by assumption)); have q2 := ix2F q.2.2.2.2.2.1 (Zap q.2.2.2.1 q.2.2.2.2.1).1 (Zap q.2.2.2.1 q.2.2.2.2.1).2 (Zaq q.2.2.2.1 q.2.2.2.2.1).1 (Zaq q.2.2.2.1 q.2.2.2.2.1).2; unfold Z18 Z1p; omega)))
   have Y1b : (IntKind.wrap .i64 ((IntKind.wrap .i64 ((Z18 Y4 Y7 Yb) * (Y4.Places.length : Int))) + (Z1p Y4 Y7 Yb))) < (Yo.length : Int) := (by ((have q := OkE.at (by assumption) Z2I (of_decide_eq_true (by assumption)) Z3z (of_decide_eq_true (by assumption)); have q2 := ix2F q.2.2.2.2.2.1 (Zap q.2.2.2.1 q.2.2.2.2.1).1 (Zap q.2.2.2.1 q.2.2.2.2.1).2 (Zaq q.2.2.2.1 q.2.2.2.2.1).1 (Zaq q.2.2.2.1 q.2.2.2.2.1).2; unfold Z18 Z1p; omega)))
   have Y1n : (IntKind.wrap .i64 ((IntKind.wrap .i64 ((Z18 Y4 Y7 Yb) * (Y4.Places.length : Int))) + (Z1p Y4 Y7 Yb))).toNat < Yo.length := (by omega)
   have e : ZN Y4 Y7 Y2 (k + 1) Yb Yo = (ZN Y4 Y7 Y2 k (Yb + 1) (Yo.set ((IntKind.wrap .i64 ((IntKind.wrap .i64 ((Z18 Y4 Y7 Yb) * (Y4.Places.length : Int))) + (Z1p Y4 Y7 Yb))).toNat) true)) := by simp only [ZN, YD, cond_true]
   rw [e]
   exact nextS E0Ok Z4 [] Z85 [0] (⟨.ref (GMesh.cells Y4) 0 :: .any :: .nils :: .i .i64 (Y4.Places.length : Int) :: .own 0 :: .i .i64 Y7 :: .sl ((Y4.Triangles.getD Y7.toNat default).map (cI .i64)) :: .i .i64 (Yb + 1) :: an 5 (.ref (GMesh.cells Y4) 0 :: .ref (GMesh.cells Y4) 0 :: .ref (GMesh.cells Y4) 0 :: .sl (Y4.Places.map GVector.cells) :: .i .i64 (Y4.Places.length : Int) :: .i .i64 (Y4.Places.length : Int) :: .i .i64 (Y4.Places.length : Int) :: .i .i64 (IntKind.wrap .i64 ((Y4.Places.length : Int) * (Y4.Places.length : Int))) :: .own 0 :: .i .i64 Y7 :: .ref (GMesh.cells Y4) 0 :: .ref (GMesh.cells Y4) 0 :: .ref (GMesh.cells Y4) 1 :: .sl (Y4.Triangles.map (cL (cI .i64))) :: .i .i64 (Y4.Triangles.length : Int) :: .b (decide (Y7 < (Y4.Triangles.length : Int))) :: .any :: .any :: .ref (GMesh.cells Y4) 0 :: .ref (GMesh.cells Y4) 0 :: .ref (GMesh.cells Y4) 1 :: .sl (Y4.Triangles.map (cL (cI .i64))) :: .i .i64 Y7 :: .ref [.sl ((Y4.Triangles.getD Y7.toNat default).map (cI .i64))] 0 :: .sl ((Y4.Triangles.getD Y7.toNat default).map (cI .i64)) :: an 53 []), [.vec 4 1 ((Yo.map cB).set ((IntKind.wrap .i64 ((IntKind.wrap .i64 ((Z18 Y4 Y7 Yb) * (Y4.Places.length : Int))) + (Z1p Y4 Y7 Yb))).toNat) [.b true]) false]⟩) (sB YD <| sG (cI .i64) (Y4.Triangles.getD Y7.toNat default) Yb Y15 Y16 <| sI (Yb + 1) Y12 Y10 <| sC (show (3 : Int) ≠ 0 from (by decide)) <| sQ (Int.tmod (Yb + 1) 3) <| sG (cI .i64) (Y4.Triangles.getD Y7.toNat default) (Int.tmod (Yb + 1) 3) Y17 Y1a <| sF (Zfz ((Y4.Triangles.getD Y7.toNat default).getD Yb.toNat default) ((Y4.Triangles.getD Y7.toNat default).getD (Int.tmod (Yb + 1) 3).toNat default)) <| sW .i64 ((Z18 Y4 Y7 Yb) * (Y4.Places.length : Int)) <| sF (ZfA ((Y4.Triangles.getD Y7.toNat default).getD Yb.toNat default) ((Y4.Triangles.getD Y7.toNat default).getD (Int.tmod (Yb + 1) 3).toNat default)) <| sW .i64 ((IntKind.wrap .i64 ((Z18 Y4 Y7 Yb) * (Y4.Places.length : Int))) + (Z1p Y4 Y7 Yb)) <| sX cB Yo (IntKind.wrap .i64 ((IntKind.wrap .i64 ((Z18 Y4 Y7 Yb) * (Y4.Places.length : Int))) + (Z1p Y4 Y7 Yb))) Y19 Y1b <| sC (maplt (c := cB) (l := Yo) Y1n) <| sI (Yb + 1) Y12 Y10 <| sN) (by kernel_rfl) (show _ = ⟨.ref (GMesh.cells Y4) 0 :: .any :: .nils :: .i .i64 (Y4.Places.length : Int) :: .own 0 :: .i .i64 Y7 :: .sl ((Y4.Triangles.getD Y7.toNat default).map (cI .i64)) :: .i .i64 (Yb + 1) :: an 5 (.ref (GMesh.cells Y4) 0 :: .ref (GMesh.cells Y4) 0 :: .ref (GMesh.cells Y4) 0 :: .sl (Y4.Places.map GVector.cells) :: .i .i64 (Y4.Places.length : Int) :: .i .i64 (Y4.Places.length : Int) :: .i .i64 (Y4.Places.length : Int) :: .i .i64 (IntKind.wrap .i64 ((Y4.Places.length : Int) * (Y4.Places.length : Int))) :: .own 0 :: .i .i64 Y7 :: .ref (GMesh.cells Y4) 0 :: .ref (GMesh.cells Y4) 0 :: .ref (GMesh.cells Y4) 1 :: .sl (Y4.Triangles.map (cL (cI .i64))) :: .i .i64 (Y4.Triangles.length : Int) :: .b (decide (Y7 < (Y4.Triangles.length : Int))) :: .any :: .any :: .ref (GMesh.cells Y4) 0 :: .ref (GMesh.cells Y4) 0 :: .ref (GMesh.cells Y4) 1 :: .sl (Y4.Triangles.map (cL (cI .i64))) :: .i .i64 Y7 :: .ref [.sl ((Y4.Triangles.getD Y7.toNat default).map (cI .i64))] 0 :: .sl ((Y4.Triangles.getD Y7.toNat default).map (cI .i64)) :: an 53 []), [.vec 4 1 ((Yo.set ((IntKind.wrap .i64 ((IntKind.wrap .i64 ((Z18 Y4 Y7 Yb) * (Y4.Places.length : Int))) + (Z1p Y4 Y7 Yb))).toNat) true).map cB) false]⟩ from (by simp [cL, cI, cB])) (ih (Yb + 1) (Yo.set ((IntKind.wrap .i64 ((IntKind.wrap .i64 ((Z18 Y4 Y7 Yb) * (Y4.Places.length : Int))) + (Z1p Y4 Y7 Yb))).toNat) true) (show 0 ≤ (Yb + 1) from (by omega)) (show (Yo.set ((IntKind.wrap .i64 ((IntKind.wrap .i64 ((Z18 Y4 Y7 Yb) * (Y4.Places.length : Int))) + (Z1p Y4 Y7 Yb))).toNat) true).length = Y2.length from (by simp_all <;> omega)) (by omega))
  | false =>
   have YB := of_decide_eq_false YD
   have e : ZN Y4 Y7 Y2 (k + 1) Yb Yo = Yo := by simp only [ZN, YD, cond_false]
   rw [e]
   exact outR (e := (.exit 2)) E0Ok Z4 [] ZbD [0] (sB YD <| sN) (by kernel_rfl) (by intro h; cases h)
theorem ZbE (Y4 : GMesh) (Y7 : Int) (Y2 : (List Bool)) : ∀ (k : Nat) (Yb : Int) (Yo : (List Bool)) (hk : ((3 : Int) - Yb).toNat < k), (ZN Y4 Y7 Y2 k Yb Yo).length = Yo.length := by
  intro k
  induction k with
  | zero => intro Yb Yo hk; exact absurd hk (Nat.not_lt_zero _)
  | succ k ih =>
    intro Yb Yo hk
    cases YD : (decide (Yb < 3)) with
    | true =>
      have e : ZN Y4 Y7 Y2 (k + 1) Yb Yo = (ZN Y4 Y7 Y2 k (Yb + 1) (Yo.set ((IntKind.wrap .i64 ((IntKind.wrap .i64 ((Z18 Y4 Y7 Yb) * (Y4.Places.length : Int))) + (Z1p Y4 Y7 Yb))).toNat) true)) := by simp only [ZN, YD, cond_true]
      rw [e, ih (Yb + 1) (Yo.set ((IntKind.wrap .i64 ((IntKind.wrap .i64 ((Z18 Y4 Y7 Yb) * (Y4.Places.length : Int))) + (Z1p Y4 Y7 Yb))).toNat) true) (by simp_all <;> omega)]; simp
    | false =>
      have e : ZN Y4 Y7 Y2 (k + 1) Yb Yo = Yo := by simp only [ZN, YD, cond_false]
      first | (rw [e]; done) | (rw [e]; rfl)
def Z28 (Y4 : GMesh) (Y7 : Int) (Y2 : (List Bool)) : (List Bool) := (ZN Y4 Y7 Y2 (((3 : Int) - 0).toNat + 1) 0 Y2)
@[simp] theorem Z9M (Y4 : GMesh) (Y7 : Int) (Y2 : (List Bool)) : (Z28 Y4 Y7 Y2).length = (Y2 : (List Bool)).length := ZbE Y4 Y7 Y2 (((3 : Int) - 0).toNat + 1) 0 Y2 (by exact Nat.lt_succ_self _)
def Z19 (Y4 : GMesh) : Nat → Int → (List Bool) → (List Bool)
  | 0, _, _ => default
  | k + 1, Y7, Y2 => (cond (decide (Y7 < (Y4.Triangles.length : Int)))
    (Z19 Y4 k (Y7 + 1) (Z28 Y4 Y7 Y2))
    Y2)
def Z6D (Y4 : GMesh) (r : (List Bool)) : Ex × St := ((.exit 0), ⟨.ref (GMesh.cells Y4) 0 :: .any :: .nils :: .i .i64 (Y4.Places.length : Int) :: .own 0 :: an 8 (.ref (GMesh.cells Y4) 0 :: .ref (GMesh.cells Y4) 0 :: .ref (GMesh.cells Y4) 0 :: .sl (Y4.Places.map GVector.cells) :: .i .i64 (Y4.Places.length : Int) :: .i .i64 (Y4.Places.length : Int) :: .i .i64 (Y4.Places.length : Int) :: .i .i64 (IntKind.wrap .i64 ((Y4.Places.length : Int) * (Y4.Places.length : Int))) :: .own 0 :: an 69 []), [.vec 4 1 (r.map cB) false]⟩)
def Z9n (Y4 : GMesh) (Y7 : Int) (Y2 : (List Bool)) : St := ⟨.ref (GMesh.cells Y4) 0 :: .any :: .nils :: .i .i64 (Y4.Places.length : Int) :: .own 0 :: .i .i64 Y7 :: an 7 (.ref (GMesh.cells Y4) 0 :: .ref (GMesh.cells Y4) 0 :: .ref (GMesh.cells Y4) 0 :: .sl (Y4.Places.map GVector.cells) :: .i .i64 (Y4.Places.length : Int) :: .i .i64 (Y4.Places.length : Int) :: .i .i64 (Y4.Places.length : Int) :: .i .i64 (IntKind.wrap .i64 ((Y4.Places.length : Int) * (Y4.Places.length : Int))) :: .own 0 :: an 69 []), [.vec 4 1 (Y2.map cB) false]⟩
theorem ZcN (Y4 : GMesh) (hp0 : Y4.Places.length ≤ 1073741824) (hp1 : Y4.Triangles.length ≤ 1073741824) (hp2 : ∀ t ∈ Y4.Triangles, t.length ≤ 1073741824) (hp3 : OkE Y4.Places.length Y4.Triangles) : ∀ (k : Nat) (Y7 : Int) (Y2 : (List Bool)) (Z2I : 0 ≤ Y7) (Z4T : Y2.length = (IntKind.wrap .i64 ((Y4.Places.length : Int) * (Y4.Places.length : Int))).toNat) (hk : ((Y4.Triangles.length : Int) - Y7).toNat < k), Lp prog 0 (sub (bodyOf f137) [1, 1, 1, 0, 1, 0, 0]) (Z9n Y4 Y7 Y2) (Z6D Y4 (Z19 Y4 k Y7 Y2)).1 (Z6D Y4 (Z19 Y4 k Y7 Y2)).2 := by
 intro k
 induction k with
 | zero => intro Y7 Y2 Z2I Z4T hk; exact absurd hk (Nat.not_lt_zero _)
 | succ k ih =>
  intro Y7 Y2 Z2I Z4T hk
  have p {a C} (s : Scr a C) := sZ (cL (cI .i64)) Y4.Triangles <| s
  cases Yg : (decide (Y7 < (Y4.Triangles.length : Int))) with
  | true =>
   have Yt := of_decide_eq_true Yg
   have YA : (0 : Int) ≤ Y7 := by clear p; exact (by assumption)
   have YE : Y7 < (Y4.Triangles.length : Int) := by clear p; exact (by assumption)
   have YG : (-9223372036854775808 : Int) ≤ (Y7 + 1) := by clear p; exact (by omega)
   have YH : (Y7 + 1) ≤ (9223372036854775807 : Int) := by clear p; exact (by omega)
   have e : Z19 Y4 (k + 1) Y7 Y2 = (Z19 Y4 k (Y7 + 1) (Z28 Y4 Y7 Y2)) := by simp only [Z19, Yg, cond_true]
   rw [e]
   exact nextR E0Ok Z4 [] (mR false [0, 1, 1, 4, 7, 9, 69]) [0] (ih (Y7 + 1) (Z28 Y4 Y7 Y2) (show 0 ≤ (Y7 + 1) from (by omega)) (show (Z28 Y4 Y7 Y2).length = (IntKind.wrap .i64 ((Y4.Places.length : Int) * (Y4.Places.length : Int))).toNat from (by simp_all <;> omega)) (by omega)) (p (sB Yg <| sG (cL (cI .i64)) Y4.Triangles Y7 YA YE <| sL Z85 1 (lp_val (Z6C Y4 Y7 Y2) (x := (Z28 Y4 Y7 Y2)) (ZcM Y4 Y7 Y2 hp0 hp1 hp2 hp3 Z2I Z4T Yg (((3 : Int) - 0).toNat + 1) 0 Y2 (show 0 ≤ 0 from (by omega)) (show Y2.length = Y2.length from (by omega)) (Nat.lt_succ_self _)) rfl) <| sI (Y7 + 1) YG YH <| sN)) (by kernel_rfl)
  | false =>
   have Yt := of_decide_eq_false Yg
   have e : Z19 Y4 (k + 1) Y7 Y2 = Y2 := by simp only [Z19, Yg, cond_false]
   rw [e]
   exact outR (e := (.exit 0)) E0Ok Z4 [] (mR false [0, 1, 1, 3, 8, 9, 69]) [0] (p (sB Yg <| sN)) (by kernel_rfl) (by intro h; cases h)
theorem ZbF (Y4 : GMesh) : ∀ (k : Nat) (Y7 : Int) (Y2 : (List Bool)) (hk : ((Y4.Triangles.length : Int) - Y7).toNat < k), (Z19 Y4 k Y7 Y2).length = Y2.length := by
  intro k
  induction k with
  | zero => intro Y7 Y2 hk; exact absurd hk (Nat.not_lt_zero _)
  | succ k ih =>
    intro Y7 Y2 hk
    cases Yg : (decide (Y7 < (Y4.Triangles.length : Int))) with
    | true =>
      have e : Z19 Y4 (k + 1) Y7 Y2 = (Z19 Y4 k (Y7 + 1) (Z28 Y4 Y7 Y2)) := by simp only [Z19, Yg, cond_true]
      rw [e, ih (Y7 + 1) (Z28 Y4 Y7 Y2) (by simp_all <;> omega)]; simp
    | false =>
      have e : Z19 Y4 (k + 1) Y7 Y2 = Y2 := by simp only [Z19, Yg, cond_false]
      first | (rw [e]; done) | (rw [e]; rfl)
def Zz (Y4 : GMesh) : (List Bool) := (Z19 Y4 (((Y4.Triangles.length : Int) - 0).toNat + 1) 0 (List.replicate (IntKind.wrap .i64 ((Y4.Places.length : Int) * (Y4.Places.length : Int))).toNat false))
@[simp] theorem Z9N (Y4 : GMesh) : (Zz Y4).length = ((List.replicate (IntKind.wrap .i64 ((Y4.Places.length : Int) * (Y4.Places.length : Int))).toNat false) : (List Bool)).length := ZbF Y4 (((Y4.Triangles.length : Int) - 0).toNat + 1) 0 (List.replicate (IntKind.wrap .i64 ((Y4.Places.length : Int) * (Y4.Places.length : Int))).toNat false) (by exact Nat.lt_succ_self _)
def Z1a (Y4 : GMesh) (Yv : Int) (Y8 : (List (List Int))) : Nat → Int → (List (List Int)) → (List (List Int))
  | 0, _, _ => default
  | k + 1, YJ, Ye => (cond (decide (YJ < (Y4.Places.length : Int)))
    (cond ((Zz Y4).getD ((IntKind.wrap .i64 ((IntKind.wrap .i64 (Yv * (Y4.Places.length : Int))) + YJ)).toNat) default)
      (Z1a Y4 Yv Y8 k (YJ + 1) (Ye ++ [[Yv, YJ]]))
      (Z1a Y4 Yv Y8 k (YJ + 1) Ye))
    Ye)
def Z6E (Y4 : GMesh) (Yv : Int) (Y8 : (List (List Int))) (r : (List (List Int))) : Ex × St := ((.exit 6), ⟨.ref (GMesh.cells Y4) 0 :: .any :: .nils :: .i .i64 (Y4.Places.length : Int) :: .own 0 :: an 5 (.own 1 :: .i .i64 Yv :: .any :: .ref (GMesh.cells Y4) 0 :: .ref (GMesh.cells Y4) 0 :: .ref (GMesh.cells Y4) 0 :: .sl (Y4.Places.map GVector.cells) :: .i .i64 (Y4.Places.length : Int) :: .i .i64 (Y4.Places.length : Int) :: .i .i64 (Y4.Places.length : Int) :: .i .i64 (IntKind.wrap .i64 ((Y4.Places.length : Int) * (Y4.Places.length : Int))) :: .own 0 :: an 42 (.i .i64 Yv :: .i .i64 (Y4.Places.length : Int) :: .b (decide (Yv < (Y4.Places.length : Int))) :: .any :: .any :: .i .i64 Yv :: .i .i64 (Yv + 1) :: an 20 [])), [.vec 4 1 ((Zz Y4).map cB) false, .nest 49 (r.map fun l => l.map (cI .i64)) false]⟩)
def ZcO (Y4 : GMesh) (Yv : Int) (Y8 : (List (List Int))) (YJ : Int) (Ye : (List (List Int))) : St := ⟨.ref (GMesh.cells Y4) 0 :: .any :: .nils :: .i .i64 (Y4.Places.length : Int) :: .own 0 :: an 5 (.own 1 :: .i .i64 Yv :: .i .i64 YJ :: .ref (GMesh.cells Y4) 0 :: .ref (GMesh.cells Y4) 0 :: .ref (GMesh.cells Y4) 0 :: .sl (Y4.Places.map GVector.cells) :: .i .i64 (Y4.Places.length : Int) :: .i .i64 (Y4.Places.length : Int) :: .i .i64 (Y4.Places.length : Int) :: .i .i64 (IntKind.wrap .i64 ((Y4.Places.length : Int) * (Y4.Places.length : Int))) :: .own 0 :: an 42 (.i .i64 Yv :: .i .i64 (Y4.Places.length : Int) :: .b (decide (Yv < (Y4.Places.length : Int))) :: .any :: .any :: .i .i64 Yv :: .i .i64 (Yv + 1) :: an 20 [])), [.vec 4 1 ((Zz Y4).map cB) false, .nest 49 (Ye.map fun l => l.map (cI .i64)) false]⟩
def Z5W : List Bool := (mR false [0, 1, 1, 3, 5, 12, 42, 3, 2, 2, 20])
def ZbG : List Bool := (mR false [0, 1, 1, 3, 5, 2, 1, 9, 42, 3, 2, 2, 20])
set_option maxHeartbeats 1000000 in
theorem ZcP (Y4 : GMesh) (Yv : Int) (Y8 : (List (List Int))) (hp0 : Y4.Places.length ≤ 1073741824) (hp1 : Y4.Triangles.length ≤ 1073741824) (hp2 : ∀ t ∈ Y4.Triangles, t.length ≤ 1073741824) (hp3 : OkE Y4.Places.length Y4.Triangles) (Z4U : 0 ≤ Yv) (Z4V : (Y8.length : Int) ≤ 64 * Yv) (Z4W : (decide (Yv < (Y4.Places.length : Int))) = true) : ∀ (k : Nat) (YJ : Int) (Ye : (List (List Int))) (Z87 : Yv < YJ) (Z88 : (Ye.length : Int) ≤ (Y8.length : Int) + YJ) (hk : ((Y4.Places.length : Int) - YJ).toNat < k), Lp prog 0 (sub (bodyOf f137) [1, 1, 1, 1, 1, 0, 1, 0, 0, 1, 0, 0, 1, 0, 0]) (ZcO Y4 Yv Y8 YJ Ye) (Z6E Y4 Yv Y8 (Z1a Y4 Yv Y8 k YJ Ye)).1 (Z6E Y4 Yv Y8 (Z1a Y4 Yv Y8 k YJ Ye)).2 := by
 intro k
 induction k with
 | zero => intro YJ Ye Z87 Z88 hk; exact absurd hk (Nat.not_lt_zero _)
 | succ k ih =>
  intro YJ Ye Z87 Z88 hk
  cases YD : (decide (YJ < (Y4.Places.length : Int))) with
  | true =>
   have YB := of_decide_eq_true YD
   have Y15 : (0 : Int) ≤ (IntKind.wrap .i64 ((IntKind.wrap .i64 (Yv * (Y4.Places.length : Int))) + YJ)) := (by ((have := hp3.1; have g4 := of_decide_eq_true Z4W; (have q2 := ix2F (n := (Y4.Places.length : Int)) (a := Yv) (b := YJ) (by omega) (by omega) (by omega) (by omega) (by omega); omega))))
   have Y16 : (IntKind.wrap .i64 ((IntKind.wrap .i64 (Yv * (Y4.Places.length : Int))) + YJ)) < ((Zz Y4).length : Int) := (by ((have := hp3.1; have g4 := of_decide_eq_true Z4W; (have q2 := ix2F (n := (Y4.Places.length : Int)) (a := Yv) (b := YJ) (by omega) (by omega) (by omega) (by omega) (by omega); (simp only [Z9N, List.length_replicate]; omega)))))
   have Y12 : (IntKind.wrap .i64 ((IntKind.wrap .i64 (Yv * (Y4.Places.length : Int))) + YJ)).toNat < (Zz Y4).length := (by omega)
   have p {a C} (s : Scr a C) := sB YD <| sW .i64 (Yv * (Y4.Places.length : Int)) <| sW .i64 ((IntKind.wrap .i64 (Yv * (Y4.Places.length : Int))) + YJ) <| sX cB (Zz Y4) (IntKind.wrap .i64 ((IntKind.wrap .i64 (Yv * (Y4.Places.length : Int))) + YJ)) Y15 Y16 <| sV cB (Zz Y4) ((IntKind.wrap .i64 ((IntKind.wrap .i64 (Yv * (Y4.Places.length : Int))) + YJ)).toNat) Y12 <| s
   cases YV : ((Zz Y4).getD ((IntKind.wrap .i64 ((IntKind.wrap .i64 (Yv * (Y4.Places.length : Int))) + YJ)).toNat) default) with
   | true =>
    have Y10 : Ye.length + [[Yv, YJ]].length ≤ 1073741824 := by clear p; exact (by ((have := hp3.1; have g4 := of_decide_eq_true Z4W; (simp only [List.length_append, List.length_cons, List.length_nil]; omega))))
    have Y17 : (-9223372036854775808 : Int) ≤ (YJ + 1) := by clear p; exact (by omega)
    have Y1a : (YJ + 1) ≤ (9223372036854775807 : Int) := by clear p; exact (by omega)
    have e : Z1a Y4 Yv Y8 (k + 1) YJ Ye = (Z1a Y4 Yv Y8 k (YJ + 1) (Ye ++ [[Yv, YJ]])) := by simp only [Z1a, YD, YV, cond_true]
    rw [e]
    exact nextS E0Ok Z4 [] Z5W [0, 1] (⟨.ref (GMesh.cells Y4) 0 :: .any :: .nils :: .i .i64 (Y4.Places.length : Int) :: .own 0 :: an 5 (.own 1 :: .i .i64 Yv :: .i .i64 (YJ + 1) :: .ref (GMesh.cells Y4) 0 :: .ref (GMesh.cells Y4) 0 :: .ref (GMesh.cells Y4) 0 :: .sl (Y4.Places.map GVector.cells) :: .i .i64 (Y4.Places.length : Int) :: .i .i64 (Y4.Places.length : Int) :: .i .i64 (Y4.Places.length : Int) :: .i .i64 (IntKind.wrap .i64 ((Y4.Places.length : Int) * (Y4.Places.length : Int))) :: .own 0 :: an 42 (.i .i64 Yv :: .i .i64 (Y4.Places.length : Int) :: .b (decide (Yv < (Y4.Places.length : Int))) :: .any :: .any :: .i .i64 Yv :: .i .i64 (Yv + 1) :: an 20 [])), [.vec 4 1 ((Zz Y4).map cB) false, .nest 49 ((Ye.map fun l => l.map (cI .i64)) ++ [([[.i .i64 Yv], [.i .i64 YJ]] : List (List AV))]) false]⟩) (p (sB YV <| sC (show (Ye.map fun l => l.map (cI .i64)).length + [([[.i .i64 Yv], [.i .i64 YJ]] : List (List AV))].length ≤ 1073741824 from (by simpa using Y10)) <| sI (YJ + 1) Y17 Y1a <| sN)) (by kernel_rfl) (show _ = ⟨.ref (GMesh.cells Y4) 0 :: .any :: .nils :: .i .i64 (Y4.Places.length : Int) :: .own 0 :: an 5 (.own 1 :: .i .i64 Yv :: .i .i64 (YJ + 1) :: .ref (GMesh.cells Y4) 0 :: .ref (GMesh.cells Y4) 0 :: .ref (GMesh.cells Y4) 0 :: .sl (Y4.Places.map GVector.cells) :: .i .i64 (Y4.Places.length : Int) :: .i .i64 (Y4.Places.length : Int) :: .i .i64 (Y4.Places.length : Int) :: .i .i64 (IntKind.wrap .i64 ((Y4.Places.length : Int) * (Y4.Places.length : Int))) :: .own 0 :: an 42 (.i .i64 Yv :: .i .i64 (Y4.Places.length : Int) :: .b (decide (Yv < (Y4.Places.length : Int))) :: .any :: .any :: .i .i64 Yv :: .i .i64 (Yv + 1) :: an 20 [])), [.vec 4 1 ((Zz Y4).map cB) false, .nest 49 ((Ye ++ [[Yv, YJ]]).map fun l => l.map (cI .i64)) false]⟩ from (by simp [cL, cI, cB])) (ih (YJ + 1) (Ye ++ [[Yv, YJ]]) (show Yv < (YJ + 1) from (by omega)) (show ((Ye ++ [[Yv, YJ]]).length : Int) ≤ (Y8.length : Int) + (YJ + 1) from (by ((have := hp3.1; have g4 := of_decide_eq_true Z4W; (simp only [List.length_append, List.length_cons, List.length_nil]; omega))))) (by omega))
   | false =>
    have Y10 : (-9223372036854775808 : Int) ≤ (YJ + 1) := by clear p; exact (by omega)
    have Y17 : (YJ + 1) ≤ (9223372036854775807 : Int) := by clear p; exact (by omega)
    have e : Z1a Y4 Yv Y8 (k + 1) YJ Ye = (Z1a Y4 Yv Y8 k (YJ + 1) Ye) := by simp only [Z1a, YD, YV, cond_true, cond_false]
    rw [e]
    exact nextR E0Ok Z4 [] Z5W [0, 1] (ih (YJ + 1) Ye (show Yv < (YJ + 1) from (by omega)) (show (Ye.length : Int) ≤ (Y8.length : Int) + (YJ + 1) from (by omega)) (by omega)) (p (sB YV <| sI (YJ + 1) Y10 Y17 <| sN)) (by kernel_rfl)
  | false =>
   have YB := of_decide_eq_false YD
   have e : Z1a Y4 Yv Y8 (k + 1) YJ Ye = Ye := by simp only [Z1a, YD, cond_false]
   rw [e]
   exact outR (e := (.exit 6)) E0Ok Z4 [] ZbG [0, 1] (sB YD <| sN) (by kernel_rfl) (by intro h; cases h)
def Z35 (Y4 : GMesh) (Yv : Int) (Y8 : (List (List Int))) : (List (List Int)) := (Z1a Y4 Yv Y8 (((Y4.Places.length : Int) - (Yv + 1)).toNat + 1) (Yv + 1) Y8)
theorem Zhl (m : GMesh) (a : Int) (r1 : List (List Int)) : ∀ (k : Nat) (b : Int) (r : List (List Int)), (Z1a m a r1 k b r).length ≤ r.length + k := by
  intro k
  induction k with
  | zero => intro b r; exact Nat.zero_le _
  | succ k ih =>
    intro b r
    rw [Z1a]
    cases decide (b < (m.Places.length : Int)) with
    | false => rw [cond_false]; omega
    | true =>
      rw [cond_true]
      cases ((Zz m).getD ((IntKind.wrap .i64 ((IntKind.wrap .i64 (a * (m.Places.length : Int))) + b)).toNat) default) with
      | true => rw [cond_true]; have := ih (b + 1) (r ++ [[a, b]]); simp only [List.length_append, List.length_cons, List.length_nil] at this; omega
      | false => rw [cond_false]; have := ih (b + 1) r; omega
def Z2M (Y4 : GMesh) : Nat → Int → (List (List Int)) → (List (List Int))
  | 0, _, _ => default
  | k + 1, Yv, Y8 => (cond (decide (Yv < (Y4.Places.length : Int)))
    (Z2M Y4 k (Yv + 1) (Z35 Y4 Yv Y8))
    Y8)
def Z6F (Y4 : GMesh) (r : (List (List Int))) : Ex × St := ((.exit 4), ⟨.ref (GMesh.cells Y4) 0 :: .any :: .nils :: .i .i64 (Y4.Places.length : Int) :: .own 0 :: an 5 (.own 1 :: .any :: .any :: .ref (GMesh.cells Y4) 0 :: .ref (GMesh.cells Y4) 0 :: .ref (GMesh.cells Y4) 0 :: .sl (Y4.Places.map GVector.cells) :: .i .i64 (Y4.Places.length : Int) :: .i .i64 (Y4.Places.length : Int) :: .i .i64 (Y4.Places.length : Int) :: .i .i64 (IntKind.wrap .i64 ((Y4.Places.length : Int) * (Y4.Places.length : Int))) :: .own 0 :: an 69 []), [.vec 4 1 ((Zz Y4).map cB) false, .nest 49 (r.map fun l => l.map (cI .i64)) false]⟩)
def Z9o (Y4 : GMesh) (Yv : Int) (Y8 : (List (List Int))) : St := ⟨.ref (GMesh.cells Y4) 0 :: .any :: .nils :: .i .i64 (Y4.Places.length : Int) :: .own 0 :: an 5 (.own 1 :: .i .i64 Yv :: .any :: .ref (GMesh.cells Y4) 0 :: .ref (GMesh.cells Y4) 0 :: .ref (GMesh.cells Y4) 0 :: .sl (Y4.Places.map GVector.cells) :: .i .i64 (Y4.Places.length : Int) :: .i .i64 (Y4.Places.length : Int) :: .i .i64 (Y4.Places.length : Int) :: .i .i64 (IntKind.wrap .i64 ((Y4.Places.length : Int) * (Y4.Places.length : Int))) :: .own 0 :: an 69 []), [.vec 4 1 ((Zz Y4).map cB) false, .nest 49 (Y8.map fun l => l.map (cI .i64)) false]⟩
theorem ZcQ (Y4 : GMesh) (hp0 : Y4.Places.length ≤ 1073741824) (hp1 : Y4.Triangles.length ≤ 1073741824) (hp2 : ∀ t ∈ Y4.Triangles, t.length ≤ 1073741824) (hp3 : OkE Y4.Places.length Y4.Triangles) : ∀ (k : Nat) (Yv : Int) (Y8 : (List (List Int))) (Z4U : 0 ≤ Yv) (Z4V : (Y8.length : Int) ≤ 64 * Yv) (hk : ((Y4.Places.length : Int) - Yv).toNat < k), Lp prog 0 (sub (bodyOf f137) [1, 1, 1, 1, 1, 0, 1, 0, 0]) (Z9o Y4 Yv Y8) (Z6F Y4 (Z2M Y4 k Yv Y8)).1 (Z6F Y4 (Z2M Y4 k Yv Y8)).2 := by
 intro k
 induction k with
 | zero => intro Yv Y8 Z4U Z4V hk; exact absurd hk (Nat.not_lt_zero _)
 | succ k ih =>
  intro Yv Y8 Z4U Z4V hk
  cases Yg : (decide (Yv < (Y4.Places.length : Int))) with
  | true =>
   have Yt := of_decide_eq_true Yg
   have YA : (-9223372036854775808 : Int) ≤ (Yv + 1) := (by omega)
   have YE : (Yv + 1) ≤ (9223372036854775807 : Int) := (by omega)
   have e : Z2M Y4 (k + 1) Yv Y8 = (Z2M Y4 k (Yv + 1) (Z35 Y4 Yv Y8)) := by simp only [Z2M, Yg, cond_true]
   rw [e]
   exact nextR E0Ok Z4 [] (mR false [0, 1, 1, 3, 5, 2, 1, 9, 69]) [0, 1] (ih (Yv + 1) (Z35 Y4 Yv Y8) (show 0 ≤ (Yv + 1) from (by omega)) (show ((Z35 Y4 Yv Y8).length : Int) ≤ 64 * (Yv + 1) from (by ((have := hp3.1; have g4 := of_decide_eq_true Yg; have q := Zhl Y4 Yv Y8 (((Y4.Places.length : Int) - (Yv + 1)).toNat + 1) (Yv + 1) Y8; unfold Z35; omega)))) (by omega)) (sB Yg <| sI (Yv + 1) YA YE <| sL Z5W 2 (lp_val (Z6E Y4 Yv Y8) (x := (Z35 Y4 Yv Y8)) (ZcP Y4 Yv Y8 hp0 hp1 hp2 hp3 Z4U Z4V Yg (((Y4.Places.length : Int) - (Yv + 1)).toNat + 1) (Yv + 1) Y8 (show Yv < (Yv + 1) from (by omega)) (show (Y8.length : Int) ≤ (Y8.length : Int) + (Yv + 1) from (by omega)) (Nat.lt_succ_self _)) rfl) <| sI (Yv + 1) YA YE <| sN) (by kernel_rfl)
  | false =>
   have Yt := of_decide_eq_false Yg
   have e : Z2M Y4 (k + 1) Yv Y8 = Y8 := by simp only [Z2M, Yg, cond_false]
   rw [e]
   exact outR (e := (.exit 4)) E0Ok Z4 [] (mR false [0, 1, 1, 3, 5, 1, 2, 9, 69]) [0, 1] (sB Yg <| sN) (by kernel_rfl) (by intro h; cases h)
def Z4X (Y4 : GMesh) : (List (List Int)) := (Z2M Y4 (((Y4.Places.length : Int) - 0).toNat + 1) 0 ([] : List (List Int)))
def Z7 (Y4 : GMesh) : (List (List Int)) := (Z4X Y4)
theorem Zhf (m : GMesh) (i : Int) (r : List Bool) : Z28 m i r = ((r.set (IntKind.wrap .i64 (IntKind.wrap .i64 (Z3i ((m.Triangles.getD i.toNat default).getD 0 default) ((m.Triangles.getD i.toNat default).getD 1 default) * (m.Places.length : Int)) + Z3j ((m.Triangles.getD i.toNat default).getD 0 default) ((m.Triangles.getD i.toNat default).getD 1 default))).toNat true).set (IntKind.wrap .i64 (IntKind.wrap .i64 (Z3i ((m.Triangles.getD i.toNat default).getD 1 default) ((m.Triangles.getD i.toNat default).getD 2 default) * (m.Places.length : Int)) + Z3j ((m.Triangles.getD i.toNat default).getD 1 default) ((m.Triangles.getD i.toNat default).getD 2 default))).toNat true).set (IntKind.wrap .i64 (IntKind.wrap .i64 (Z3i ((m.Triangles.getD i.toNat default).getD 2 default) ((m.Triangles.getD i.toNat default).getD 0 default) * (m.Places.length : Int)) + Z3j ((m.Triangles.getD i.toNat default).getD 2 default) ((m.Triangles.getD i.toNat default).getD 0 default))).toNat true := by
  have one : ∀ (r0 : List Bool) (k : Nat) (x : Int) (s : List Bool), x < 3 → ZN m i r0 (k + 1) x s = ZN m i r0 k (x + 1) (s.set (IntKind.wrap .i64 (IntKind.wrap .i64 (Z18 m i x * (m.Places.length : Int)) + Z1p m i x)).toNat true) := by
    intro r0 k x s hx
    rw [ZN, decide_eq_true hx, cond_true]
  unfold Z28
  show ZN m i r 4 0 r = _
  rw [one r 3 0 r (by omega), one r 2 (0 + 1) _ (by omega), one r 1 (0 + 1 + 1) _ (by omega), ZN]
  show cond (decide ((3 : Int) < 3)) _ _ = _
  rw [decide_eq_false (by omega), cond_false]
  rfl
theorem Zhg (m : GMesh) (ok : OkE m.Places.length m.Triangles) {a b : Int} (ha : 0 ≤ a) (hab : a < b) (hb : b < (m.Places.length : Int)) : ∀ (k : Nat) (i : Nat) (r : List Bool), i ≤ m.Triangles.length → ((m.Triangles.length : Int) - i).toNat < k → r.length = (IntKind.wrap .i64 ((m.Places.length : Int) * (m.Places.length : Int))).toNat →
    (Z19 m k i r).getD (IntKind.wrap .i64 (IntKind.wrap .i64 (a * (m.Places.length : Int)) + b)).toNat default = (r.getD (IntKind.wrap .i64 (IntKind.wrap .i64 (a * (m.Places.length : Int)) + b)).toNat default || (m.Triangles.drop i).any fun t => tHas t a b) := by
  intro k
  induction k with
  | zero => intro i r _ hk; exact absurd hk (Nat.not_lt_zero _)
  | succ k ih =>
    intro i r hle hk hr
    rw [Z19]
    by_cases hi : (i : Int) < (m.Triangles.length : Int)
    · have hn : i < m.Triangles.length := by omega
      rw [decide_eq_true hi, cond_true]
      have := ih (i + 1) (Z28 m i r) (by omega) (by omega) (by rw [Z9M]; exact hr)
      rw [show ((i : Int) + 1) = ((i + 1 : Nat) : Int) from by omega, this, Zhf, List.drop_eq_getElem_cons hn, List.any_cons]
      have hg : m.Triangles.getD ((i : Nat) : Int).toNat default = m.Triangles[i] := by rw [show ((i : Nat) : Int).toNat = i from by omega, List.getD_eq_getElem?_getD, List.getElem?_eq_getElem hn]; rfl
      obtain ⟨x, y, z, ht, r1, r2, r3, n1, n2, n3⟩ := ok.2.2 _ (List.getElem_mem hn)
      have h64 : (m.Places.length : Int) ≤ 64 := by have := ok.1; omega
      rw [hg, ht]
      simp only [List.getD_cons_zero, List.getD_cons_succ]
      rw [seen_set h64 (ZbC z x) (Zap r3 r1) (Zaq r3 r1) ha hab hb (by simpa using hr), seen_set h64 (ZbC y z) (Zap r2 r3) (Zaq r2 r3) ha hab hb (by simpa using hr), seen_set h64 (ZbC x y) (Zap r1 r2) (Zaq r1 r2) ha hab hb hr]
      have hT := mem_tE n1 n2 n3 hab
      unfold tE at hT
      simp only [List.getD_cons_zero, List.getD_cons_succ, List.mem_cons, List.not_mem_nil, or_false] at hT
      generalize r.getD (IntKind.wrap .i64 (IntKind.wrap .i64 (a * (m.Places.length : Int)) + b)).toNat default = q
      generalize ((m.Triangles.drop (i + 1)).any fun t => tHas t a b) = q2
      have hB : tHas [x, y, z] a b = (decide ((⟨a, b⟩ : Gedge) = mkE x y) || (decide ((⟨a, b⟩ : Gedge) = mkE y z) || decide ((⟨a, b⟩ : Gedge) = mkE z x))) := by
        rw [Bool.eq_iff_iff, ← hT]; simp only [Bool.or_eq_true, decide_eq_true_eq]
      rw [hB]
      cases decide ((⟨a, b⟩ : Gedge) = mkE x y) <;> cases decide ((⟨a, b⟩ : Gedge) = mkE y z) <;> cases decide ((⟨a, b⟩ : Gedge) = mkE z x) <;> cases q <;> cases q2 <;> rfl
    · rw [decide_eq_false hi, cond_false, List.drop_eq_nil_of_le (by omega)]; simp
theorem Zhm (m : GMesh) (ok : OkE m.Places.length m.Triangles) {a b : Int} (ha : 0 ≤ a) (hab : a < b) (hb : b < (m.Places.length : Int)) :
    (Zz m).getD (IntKind.wrap .i64 (IntKind.wrap .i64 (a * (m.Places.length : Int)) + b)).toNat default = m.Triangles.any fun t => tHas t a b := by
  unfold Zz
  have := Zhg m ok ha hab hb (((m.Triangles.length : Int) - 0).toNat + 1) 0 (List.replicate (IntKind.wrap .i64 ((m.Places.length : Int) * (m.Places.length : Int))).toNat false) (Nat.zero_le _) (by omega) (by simp)
  rw [List.drop_zero] at this
  refine this.trans ?_
  rw [List.getD_eq_getElem?_getD, List.getElem?_replicate]
  split <;> simp
theorem Zb7 (m : GMesh) (ok : OkE m.Places.length m.Triangles) : Z7 m = (edgL m.Places.length m.Triangles).map e2 := by
  rw [edgL_map]
  unfold Z7 Z4X
  refine pair_loop (n := m.Places.length) (p := fun a b => m.Triangles.any fun t => tHas t a b) (g := fun a b => e2 ⟨a, b⟩) (lo := Z2M m) (li := Z35 m) (fun k a r => rfl) (fun a r ha => ?_) _ 0 (Nat.zero_le _) (by omega)
  unfold Z35
  have hf := filt_loop (n := (m.Places.length : Int)) (f := fun b => !((Zz m).getD ((IntKind.wrap .i64 ((IntKind.wrap .i64 ((a : Int) * (m.Places.length : Int))) + b)).toNat) default)) (g := fun b => [(a : Int), b]) (lo := Z1a m a r) (fun k i r' => by
    rw [Z1a]
    cases ((Zz m).getD ((IntKind.wrap .i64 ((IntKind.wrap .i64 ((a : Int) * (m.Places.length : Int))) + i)).toNat) default) <;> rfl) (((m.Places.length : Int) - ((a : Int) + 1)).toNat + 1) ((a : Int) + 1) r (Nat.lt_succ_self _)
  rw [hf, show ((m.Places.length : Int) - ((a : Int) + 1)).toNat = m.Places.length - (a + 1) from by omega]
  congr 1
  have hfc : ((List.range (m.Places.length - (a + 1))).filter fun (j : Nat) => !(!((Zz m).getD ((IntKind.wrap .i64 ((IntKind.wrap .i64 ((a : Int) * (m.Places.length : Int))) + ((a : Int) + 1 + (j : Int)))).toNat) default))) = (List.range (m.Places.length - (a + 1))).filter fun (j : Nat) => m.Triangles.any fun t => tHas t a ((a : Int) + 1 + j) := by
    refine List.filter_congr fun j hj => ?_
    rw [List.mem_range] at hj
    rw [Bool.not_not, Zhm m ok (by omega) (by omega) (by omega)]
  rw [hfc]
  rfl
theorem ZfZ (m : GMesh) (ok : OkE m.Places.length m.Triangles) : (Z7 m).length ≤ 4096 := by
  rw [Zb7 m ok, List.length_map]; exact edgL_len ok
theorem Z58 (m : GMesh) (ok : OkE m.Places.length m.Triangles) {i : Int} (h0 : 0 ≤ i) (hi : i < ((Z7 m).length : Int)) :
    ((Z7 m).getD i.toNat default).length = 2 ∧ 0 ≤ ((Z7 m).getD i.toNat default).getD 0 default ∧ ((Z7 m).getD i.toNat default).getD 0 default < ((Z7 m).getD i.toNat default).getD 1 default ∧ ((Z7 m).getD i.toNat default).getD 1 default < (m.Places.length : Int) ∧ (m.Places.length : Int) ≤ 64 ∧ ((Z7 m).length : Int) ≤ 4096 := by
  have hl := ZfZ m ok
  have h64 := ok.1
  rw [Zb7 m ok] at hi hl ⊢
  rw [List.length_map] at hi hl
  have hn : i.toNat < (edgL m.Places.length m.Triangles).length := by omega
  have hg : ((edgL m.Places.length m.Triangles).map e2).getD i.toNat default = e2 (edgL m.Places.length m.Triangles)[i.toNat] := by rw [List.getD_eq_getElem?_getD, List.getElem?_map, List.getElem?_eq_getElem hn]; rfl
  have hb := edgL_at (List.getElem_mem hn)
  rw [hg, List.length_map]
  exact ⟨rfl, hb.1, hb.2.1, hb.2.2, by omega, by omega⟩
theorem ZeG (Y4 : GMesh) (hp0 : Y4.Places.length ≤ 1073741824) (hp1 : Y4.Triangles.length ≤ 1073741824) (hp2 : ∀ t ∈ Y4.Triangles, t.length ≤ 1073741824) (hp3 : OkE Y4.Places.length Y4.Triangles)  : Fn prog 137 [.ref (GMesh.cells Y4) 0] (.own 0) [.nest 49 ((Z7 Y4).map fun l => l.map (cI .i64)) false] := by
 have y0 : (0 : Int) ≤ (IntKind.wrap .i64 ((Y4.Places.length : Int) * (Y4.Places.length : Int))) := (by (have q2 := ixN hp3.1; omega))
 have y1 : ((IntKind.wrap .i64 ((Y4.Places.length : Int) * (Y4.Places.length : Int))) : Int) ≤ 2147483648 := (by (have q2 := ixN hp3.1; omega))
 refine fnS E0Ok Z4 (c := bodyOf f137) [] (.own 0) [.nest 49 ((Z4X Y4).map fun l => l.map (cI .i64)) false] func137 (sZ GVector.cells Y4.Places <| sW .i64 ((Y4.Places.length : Int) * (Y4.Places.length : Int)) <| sC (show (IntKind.wrap .i64 ((Y4.Places.length : Int) * (Y4.Places.length : Int))) = (IntKind.wrap .i64 ((Y4.Places.length : Int) * (Y4.Places.length : Int))) from rfl) <| sC y0 <| sC y1 <| sL (mR false [0, 1, 1, 4, 7, 9, 69]) 1 (lp_cast (st2 := ⟨.ref (GMesh.cells Y4) 0 :: .any :: .nils :: .i .i64 (Y4.Places.length : Int) :: .own 0 :: .i .i64 0 :: an 7 (.ref (GMesh.cells Y4) 0 :: .ref (GMesh.cells Y4) 0 :: .ref (GMesh.cells Y4) 0 :: .sl (Y4.Places.map GVector.cells) :: .i .i64 (Y4.Places.length : Int) :: .i .i64 (Y4.Places.length : Int) :: .i .i64 (Y4.Places.length : Int) :: .i .i64 (IntKind.wrap .i64 ((Y4.Places.length : Int) * (Y4.Places.length : Int))) :: .own 0 :: an 69 []), [.vec 4 1 (List.replicate (Int.toNat (IntKind.wrap .i64 ((Y4.Places.length : Int) * (Y4.Places.length : Int)))) [.b false]) false]⟩) (lp_val (Z6D Y4) (x := (Zz Y4)) (ZcN Y4 hp0 hp1 hp2 hp3 (((Y4.Triangles.length : Int) - 0).toNat + 1) 0 (List.replicate (IntKind.wrap .i64 ((Y4.Places.length : Int) * (Y4.Places.length : Int))).toNat false) (show 0 ≤ 0 from (by omega)) (show (List.replicate (IntKind.wrap .i64 ((Y4.Places.length : Int) * (Y4.Places.length : Int))).toNat false).length = (IntKind.wrap .i64 ((Y4.Places.length : Int) * (Y4.Places.length : Int))).toNat from (by simp)) (Nat.lt_succ_self _)) rfl) (by simp [Z9n, cB])) <| sL (mR false [0, 1, 1, 3, 5, 2, 1, 9, 69]) 2 (lp_cast (st2 := ⟨.ref (GMesh.cells Y4) 0 :: .any :: .nils :: .i .i64 (Y4.Places.length : Int) :: .own 0 :: an 5 (.own 1 :: .i .i64 0 :: .any :: .ref (GMesh.cells Y4) 0 :: .ref (GMesh.cells Y4) 0 :: .ref (GMesh.cells Y4) 0 :: .sl (Y4.Places.map GVector.cells) :: .i .i64 (Y4.Places.length : Int) :: .i .i64 (Y4.Places.length : Int) :: .i .i64 (Y4.Places.length : Int) :: .i .i64 (IntKind.wrap .i64 ((Y4.Places.length : Int) * (Y4.Places.length : Int))) :: .own 0 :: an 69 []), [.vec 4 1 ((Zz Y4).map cB) false, .nest 49 [] false]⟩) (lp_val (Z6F Y4) (x := (Z4X Y4)) (ZcQ Y4 hp0 hp1 hp2 hp3 (((Y4.Places.length : Int) - 0).toNat + 1) 0 ([] : List (List Int)) (show 0 ≤ 0 from (by omega)) (show (([] : List (List Int)).length : Int) ≤ 64 * 0 from (by simp)) (Nat.lt_succ_self _)) rfl) (by simp [Z9o, cL, cI])) <| sK [1] sN) rfl (by kernel_rfl) (by kernel_rfl) rfl ?_ ?_
 · rfl
 · simp [Z7]
end Go.Ab
