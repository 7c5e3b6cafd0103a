/- The functions of this seat as plain Lean, and that the program's are these. Printed by a program of the prover's own. -/
import Derived.Test.YtpndflbllggeiaaGreatB8
set_option linter.unusedVariables false
set_option linter.unusedSimpArgs false
set_option maxRecDepth 100000
namespace Go.Ab
open Go.RowKit Go.Proofs.Tryz
theorem ZeS (Y3 : GBody) (Yj : (List GVector)) (Yi : Nat) (hp0 : Y3.Mesh.Places.length ≤ 1073741824) (hp1 : Y3.Mesh.Triangles.length ≤ 1073741824) (hp2 : ∀ t ∈ Y3.Mesh.Triangles, t.length ≤ 1073741824) (hp3 : Y3.Springs.length ≤ 1073741824) (hp4 : Y3.Weights.length ≤ 1073741824) (hp5 : Yj.length ≤ 1073741824) (hp6 : OkTris Y3.Mesh.Places.length Y3.Mesh.Triangles) (hp7 : Yj.length ≤ Y3.Mesh.Places.length) : ∀ (k : Nat) (Y1 : Int) (Yd : (List GVector)) (Z9Z : 0 ≤ Y1) (Za0 : Yd.length = Y3.Mesh.Places.length) (hk : ((Yj.length : Int) - Y1).toNat < k), Lp prog 0 (sub (bodyOf f124) [1, 1, 0, 1, 0, 0]) (ZeR Y3 Yj Yi Y1 Yd) (Z8H Y3 Yj Yi (Z1O Y3 Yj Yi k Y1 Yd)).1 (Z8H Y3 Yj Yi (Z1O Y3 Yj Yi k Y1 Yd)).2 := by
 intro k
 induction k with
 | zero => intro Y1 Yd Z9Z Za0 hk; exact absurd hk (Nat.not_lt_zero _)
 | succ k ih =>
  intro Y1 Yd Z9Z Za0 hk
  cases Yg : (decide (Y1 < (Yj.length : Int))) with
  | true =>
   have Yt := of_decide_eq_true Yg
   have YA : (0 : Int) ≤ Y1 := (by assumption)
   have YE : Y1 < (Yj.length : Int) := (by assumption)
   have YG : Y1 < (Yd.length : Int) := (by omega)
   have YH : Y1.toNat < Yd.length := (by omega)
   have YL : (-9223372036854775808 : Int) ≤ (Y1 + 1) := (by omega)
   have YQ : (Y1 + 1) ≤ (9223372036854775807 : Int) := (by omega)
   have e : Z1O Y3 Yj Yi (k + 1) Y1 Yd = (Z1O Y3 Yj Yi k (Y1 + 1) (Yd.set Y1.toNat (ZV (Yd.getD Y1.toNat default) (Z11 (Yj.getD Y1.toNat default) Yi)))) := by simp only [Z1O, Yg, cond_true]
   rw [e]
   exact nextS E0Ok Z4 [] (mR false [0, 4, 2, 2, 2, 5, 21]) [0, 1, 2, 3, 4, 5, 6] (⟨.agg [.sl (Y3.Mesh.Places.map GVector.cells), .sl (Y3.Mesh.Triangles.map (cL (cI .i64))), .sl (Y3.Springs.map GSpring.cells), .f .f32 Y3.Film, .f .f32 Y3.Bend, .sl (Y3.Weights.map (cF .f32)), .f .f32 Y3.Fall.X, .f .f32 Y3.Fall.Y, .f .f32 Y3.Fall.Z] :: .sl (Yj.map GVector.cells) :: .f .f32 Yi :: .ptr 0 0 0 :: .any :: .any :: .ptr 1 0 0 :: .ptr 6 0 0 :: .any :: .any :: .agg [.sl (Y3.Mesh.Places.map GVector.cells), .sl (Y3.Mesh.Triangles.map (cL (cI .i64))), .sl (Y3.Springs.map GSpring.cells), .f .f32 Y3.Film, .f .f32 Y3.Bend, .sl (Y3.Weights.map (cF .f32)), .f .f32 Y3.Fall.X, .f .f32 Y3.Fall.Y, .f .f32 Y3.Fall.Z] :: .agg [.own 2, .own 3, .own 4, .f .f32 Y3.Film, .f .f32 Y3.Bend, .own 5, .f .f32 Y3.Fall.X, .f .f32 Y3.Fall.Y, .f .f32 Y3.Fall.Z] :: .sl (Yj.map GVector.cells) :: .i .i64 (Yj.length : Int) :: .i .i64 (Y1 + 1) :: an 21 [], [.box 42 [.sl (Y3.Mesh.Places.map GVector.cells), .sl (Y3.Mesh.Triangles.map (cL (cI .i64))), .sl (Y3.Springs.map GSpring.cells), .f .f32 Y3.Film, .f .f32 Y3.Bend, .sl (Y3.Weights.map (cF .f32)), .f .f32 Y3.Fall.X, .f .f32 Y3.Fall.Y, .f .f32 Y3.Fall.Z], .box 42 [.nils, .nils, .nils, .f .f32 0, .f .f32 0, .nils, .f .f32 0, .f .f32 0, .f .f32 0], .vec 40 3 ((Yd.map GVector.cells).set Y1.toNat [.f .f32 ((ZV (Yd.getD Y1.toNat default) (Z11 (Yj.getD Y1.toNat default) Yi)).X), .f .f32 ((ZV (Yd.getD Y1.toNat default) (Z11 (Yj.getD Y1.toNat default) Yi)).Y), .f .f32 ((ZV (Yd.getD Y1.toNat default) (Z11 (Yj.getD Y1.toNat default) Yi)).Z)]) false, .nest 49 (Y3.Mesh.Triangles.map fun l => l.map (cI .i64)) false, .vec 133 4 (Y3.Springs.map GSpring.cells) false, .vec 27 1 (Y3.Weights.map (cF .f32)) false, .box 42 [.own 2, .own 3, .own 4, .f .f32 Y3.Film, .f .f32 Y3.Bend, .own 5, .f .f32 Y3.Fall.X, .f .f32 Y3.Fall.Y, .f .f32 Y3.Fall.Z]]⟩) (sB Yg <| sG GVector.cells Yj Y1 YA YE <| sK [14, 14] <| sX GVector.cells Yd Y1 YA YG <| sV GVector.cells Yd Y1.toNat YH <| sF (Z9x (Yj.getD Y1.toNat default) Yi) <| sF (Z5A (Yd.getD Y1.toNat default) (Z11 (Yj.getD Y1.toNat default) Yi)) <| sX GVector.cells Yd Y1 YA YG <| sC (maplt (c := GVector.cells) (l := Yd) YH) <| sI (Y1 + 1) YL YQ <| sN) (by kernel_rfl) (show _ = ⟨.agg [.sl (Y3.Mesh.Places.map GVector.cells), .sl (Y3.Mesh.Triangles.map (cL (cI .i64))), .sl (Y3.Springs.map GSpring.cells), .f .f32 Y3.Film, .f .f32 Y3.Bend, .sl (Y3.Weights.map (cF .f32)), .f .f32 Y3.Fall.X, .f .f32 Y3.Fall.Y, .f .f32 Y3.Fall.Z] :: .sl (Yj.map GVector.cells) :: .f .f32 Yi :: .ptr 0 0 0 :: .any :: .any :: .ptr 1 0 0 :: .ptr 6 0 0 :: .any :: .any :: .agg [.sl (Y3.Mesh.Places.map GVector.cells), .sl (Y3.Mesh.Triangles.map (cL (cI .i64))), .sl (Y3.Springs.map GSpring.cells), .f .f32 Y3.Film, .f .f32 Y3.Bend, .sl (Y3.Weights.map (cF .f32)), .f .f32 Y3.Fall.X, .f .f32 Y3.Fall.Y, .f .f32 Y3.Fall.Z] :: .agg [.own 2, .own 3, .own 4, .f .f32 Y3.Film, .f .f32 Y3.Bend, .own 5, .f .f32 Y3.Fall.X, .f .f32 Y3.Fall.Y, .f .f32 Y3.Fall.Z] :: .sl (Yj.map GVector.cells) :: .i .i64 (Yj.length : Int) :: .i .i64 (Y1 + 1) :: an 21 [], [.box 42 [.sl (Y3.Mesh.Places.map GVector.cells), .sl (Y3.Mesh.Triangles.map (cL (cI .i64))), .sl (Y3.Springs.map GSpring.cells), .f .f32 Y3.Film, .f .f32 Y3.Bend, .sl (Y3.Weights.map (cF .f32)), .f .f32 Y3.Fall.X, .f .f32 Y3.Fall.Y, .f .f32 Y3.Fall.Z], .box 42 [.nils, .nils, .nils, .f .f32 0, .f .f32 0, .nils, .f .f32 0, .f .f32 0, .f .f32 0], .vec 40 3 ((Yd.set Y1.toNat (ZV (Yd.getD Y1.toNat default) (Z11 (Yj.getD Y1.toNat default) Yi))).map GVector.cells) false, .nest 49 (Y3.Mesh.Triangles.map fun l => l.map (cI .i64)) false, .vec 133 4 (Y3.Springs.map GSpring.cells) false, .vec 27 1 (Y3.Weights.map (cF .f32)) false, .box 42 [.own 2, .own 3, .own 4, .f .f32 Y3.Film, .f .f32 Y3.Bend, .own 5, .f .f32 Y3.Fall.X, .f .f32 Y3.Fall.Y, .f .f32 Y3.Fall.Z]]⟩ from (by simp [List.map_set, GVector.cells])) (ih (Y1 + 1) (Yd.set Y1.toNat (ZV (Yd.getD Y1.toNat default) (Z11 (Yj.getD Y1.toNat default) Yi))) (show 0 ≤ (Y1 + 1) from (by omega)) (show (Yd.set Y1.toNat (ZV (Yd.getD Y1.toNat default) (Z11 (Yj.getD Y1.toNat default) Yi))).length = Y3.Mesh.Places.length from (by simp_all <;> omega)) (by omega))
  | false =>
   have Yt := of_decide_eq_false Yg
   have e : Z1O Y3 Yj Yi (k + 1) Y1 Yd = Yd := by simp only [Z1O, Yg, cond_false]
   rw [e]
   exact outR (e := (.exit 0)) E0Ok Z4 [] (mR false [0, 2, 1, 1, 2, 2, 2, 3, 23]) [0, 1, 6, 2, 3, 4, 5] (sB Yg <| sN) (by kernel_rfl) (by intro h; cases h)
theorem ZdO (Y3 : GBody) (Yj : (List GVector)) (Yi : Nat) : ∀ (k : Nat) (Y1 : Int) (Yd : (List GVector)) (hk : ((Yj.length : Int) - Y1).toNat < k), (Z1O Y3 Yj Yi k Y1 Yd).length = Yd.length := by
  intro k
  induction k with
  | zero => intro Y1 Yd hk; exact absurd hk (Nat.not_lt_zero _)
  | succ k ih =>
    intro Y1 Yd hk
    cases Yg : (decide (Y1 < (Yj.length : Int))) with
    | true =>
      have e : Z1O Y3 Yj Yi (k + 1) Y1 Yd = (Z1O Y3 Yj Yi k (Y1 + 1) (Yd.set Y1.toNat (ZV (Yd.getD Y1.toNat default) (Z11 (Yj.getD Y1.toNat default) Yi)))) := by simp only [Z1O, Yg, cond_true]
      rw [e, ih (Y1 + 1) (Yd.set Y1.toNat (ZV (Yd.getD Y1.toNat default) (Z11 (Yj.getD Y1.toNat default) Yi))) (by simp_all <;> omega)]; simp
    | false =>
      have e : Z1O Y3 Yj Yi (k + 1) Y1 Yd = Yd := by simp only [Z1O, Yg, cond_false]
      first | (rw [e]; done) | (rw [e]; rfl)
def Z4R (Y3 : GBody) (Yj : (List GVector)) (Yi : Nat) : (List GVector) := (Z1O Y3 Yj Yi (((Yj.length : Int) - 0).toNat + 1) 0 Y3.Mesh.Places)
@[simp] theorem Zgc (Y3 : GBody) (Yj : (List GVector)) (Yi : Nat) : (Z4R Y3 Yj Yi).length = (Y3.Mesh.Places : (List GVector)).length := ZdO Y3 Yj Yi (((Yj.length : Int) - 0).toNat + 1) 0 Y3.Mesh.Places (by exact Nat.lt_succ_self _)
def Zg (Y3 : GBody) (Yj : (List GVector)) (Yi : Nat) : GBody := (⟨(⟨(Z4R Y3 Yj Yi), Y3.Mesh.Triangles⟩ : GMesh), Y3.Springs, Y3.Film, Y3.Bend, Y3.Weights, Y3.Fall⟩ : GBody)
theorem Zf8 (b : GBody) (v : List GVector) (s : Nat) : (Zg b v s).Mesh.Places.length ≤ b.Mesh.Places.length := by
  unfold Zg
  simp
theorem Zf9 (b : GBody) (v : List GVector) (s : Nat) : (Zg b v s).Mesh.Triangles.length ≤ b.Mesh.Triangles.length := by
  unfold Zg
  simp
theorem Zfa (b : GBody) (v : List GVector) (s : Nat) : (Zg b v s).Weights.length ≤ b.Weights.length := by
  unfold Zg
  simp
theorem Zfb (b : GBody) (v : List GVector) (s : Nat) : (Zg b v s).Springs.length ≤ b.Springs.length := by
  unfold Zg
  simp
theorem Zg7 (Y3 : GBody) (Yj : (List GVector)) (Yi : Nat) (hp0 : Y3.Mesh.Places.length ≤ 1073741824) (hp1 : Y3.Mesh.Triangles.length ≤ 1073741824) (hp2 : ∀ t ∈ Y3.Mesh.Triangles, t.length ≤ 1073741824) (hp3 : Y3.Springs.length ≤ 1073741824) (hp4 : Y3.Weights.length ≤ 1073741824) (hp5 : Yj.length ≤ 1073741824) (hp6 : OkTris Y3.Mesh.Places.length Y3.Mesh.Triangles) (hp7 : Yj.length ≤ Y3.Mesh.Places.length)  : Fn prog 124 [.agg [.sl (Y3.Mesh.Places.map GVector.cells), .sl (Y3.Mesh.Triangles.map (cL (cI .i64))), .sl (Y3.Springs.map GSpring.cells), .f .f32 Y3.Film, .f .f32 Y3.Bend, .sl (Y3.Weights.map (cF .f32)), .f .f32 Y3.Fall.X, .f .f32 Y3.Fall.Y, .f .f32 Y3.Fall.Z], .sl (Yj.map GVector.cells), .f .f32 Yi] (.agg [.own 0, .own 1, .own 2, .f .f32 ((Zg Y3 Yj Yi).Film), .f .f32 ((Zg Y3 Yj Yi).Bend), .own 3, .f .f32 ((Zg Y3 Yj Yi).Fall.X), .f .f32 ((Zg Y3 Yj Yi).Fall.Y), .f .f32 ((Zg Y3 Yj Yi).Fall.Z)]) [.vec 40 3 (((Zg Y3 Yj Yi).Mesh.Places).map GVector.cells) false, .nest 49 (((Zg Y3 Yj Yi).Mesh.Triangles).map fun l => l.map (cI .i64)) false, .vec 133 4 (((Zg Y3 Yj Yi).Springs).map GSpring.cells) false, .vec 27 1 (((Zg Y3 Yj Yi).Weights).map (cF .f32)) false] := by
 refine fnS E0Ok Z4 (c := bodyOf f124) [] (.agg [.own 0, .own 1, .own 2, .f .f32 Y3.Film, .f .f32 Y3.Bend, .own 3, .f .f32 Y3.Fall.X, .f .f32 Y3.Fall.Y, .f .f32 Y3.Fall.Z]) [.vec 40 3 ((Z4R Y3 Yj Yi).map GVector.cells) false, .nest 49 (Y3.Mesh.Triangles.map fun l => l.map (cI .i64)) false, .vec 133 4 (Y3.Springs.map GSpring.cells) false, .vec 27 1 (Y3.Weights.map (cF .f32)) false] func124 (sF (ZaX Y3 hp0 hp1 hp2 hp3 hp4 hp6) <| sZ GVector.cells Yj <| sL (mR false [0, 4, 2, 2, 2, 5, 21]) 7 (lp_val (Z8H Y3 Yj Yi) (x := (Z4R Y3 Yj Yi)) (ZeS Y3 Yj Yi hp0 hp1 hp2 hp3 hp4 hp5 hp6 hp7 (((Yj.length : Int) - 0).toNat + 1) 0 Y3.Mesh.Places (show 0 ≤ 0 from (by omega)) (show Y3.Mesh.Places.length = Y3.Mesh.Places.length from (by simp)) (Nat.lt_succ_self _)) rfl) <| sK [3, 4, 5, 6] sN) rfl (by kernel_rfl) (by kernel_rfl) rfl ?_ ?_
 · rfl
 · simp [Zg]
theorem Zhj (b : GBody) (v : List GVector) (s : Nat) : ∀ (k : Nat) (i : Int) (r : List GVector), 0 ≤ i → (∀ j, i.toNat ≤ j → r.getD j default = b.Mesh.Places.getD j default) → Z1O b v s k i r = Z1d b v s k i r := by
  intro k
  induction k with
  | zero => intros; rfl
  | succ k ih =>
    intro i r h0 hr
    rw [Z1O, Z1d, hr _ (Nat.le_refl _)]
    cases decide (i < (v.length : Int)) with
    | false => rfl
    | true =>
      rw [cond_true, cond_true]
      rw [ih (i + 1) _ (by omega) (fun j hj => by rw [List.getD_eq_getElem?_getD, List.getElem?_set_ne (by omega), ← List.getD_eq_getElem?_getD]; exact hr j (by omega))]
      rfl
theorem Zel (b : GBody) (v : List GVector) (s : Nat) : Zg b v s = Zd b v s := by
  unfold Zg Zd Z4R Z3T
  rw [Zhj b v s _ _ _ (Int.le_refl 0) (fun _ _ => rfl)]
def Z1i (Y3 : GBody) (Ys : (List GVector)) (Yf : Nat) : Nat → Nat → Int → (Int × Nat × Nat × Nat × Nat × Nat × (List GVector) × (List (List Int)) × (List GSpring) × (List Nat)) ⊕ (Unit)
  | 0, _, _ => .inl default
  | k + 1, Yh, Yy => (cond (decide (Yy ≤ 20))
    (cond (fcmp .lss .f32 (Z2R (Zg Y3 Ys Yh)) (Z2R Y3))
      (.inl (Yy, (Zg Y3 Ys Yh).Film, (Zg Y3 Ys Yh).Bend, (Zg Y3 Ys Yh).Fall.X, (Zg Y3 Ys Yh).Fall.Y, (Zg Y3 Ys Yh).Fall.Z, (Zg Y3 Ys Yh).Mesh.Places, (Zg Y3 Ys Yh).Mesh.Triangles, (Zg Y3 Ys Yh).Springs, (Zg Y3 Ys Yh).Weights))
      (Z1i Y3 Ys Yf k (fop .quo .f32 Yh 1073741824) (Yy + 1)))
    (.inr ()))
def Z5j (Y3 : GBody) (Ys : (List GVector)) (Yf : Nat) : (Int × Nat × Nat × Nat × Nat × Nat × (List GVector) × (List (List Int)) × (List GSpring) × (List Nat)) ⊕ (Unit) → Ex × St
  | .inl r => (.ret, ⟨an 6 (.ptr 0 0 0 :: .i .i64 r.1 :: .b true :: an 23 []), [.box 42 [.own 1, .own 2, .own 3, .f .f32 r.2.1, .f .f32 r.2.2.1, .own 4, .f .f32 r.2.2.2.1, .f .f32 r.2.2.2.2.1, .f .f32 r.2.2.2.2.2.1], .vec 40 3 (r.2.2.2.2.2.2.1.map GVector.cells) false, .nest 49 (r.2.2.2.2.2.2.2.1.map fun l => l.map (cI .i64)) false, .vec 133 4 (r.2.2.2.2.2.2.2.2.1.map GSpring.cells) false, .vec 27 1 (r.2.2.2.2.2.2.2.2.2.map (cF .f32)) false]⟩)
  | .inr r => ((.exit 0), ⟨.agg [.sl (Y3.Mesh.Places.map GVector.cells), .sl (Y3.Mesh.Triangles.map (cL (cI .i64))), .sl (Y3.Springs.map GSpring.cells), .f .f32 Y3.Film, .f .f32 Y3.Bend, .sl (Y3.Weights.map (cF .f32)), .f .f32 Y3.Fall.X, .f .f32 Y3.Fall.Y, .f .f32 Y3.Fall.Z] :: .any :: .any :: .ptr 0 0 0 :: .any :: .any :: .ptr 1 0 0 :: an 5 (.agg [.sl (Y3.Mesh.Places.map GVector.cells), .sl (Y3.Mesh.Triangles.map (cL (cI .i64))), .sl (Y3.Springs.map GSpring.cells), .f .f32 Y3.Film, .f .f32 Y3.Bend, .sl (Y3.Weights.map (cF .f32)), .f .f32 Y3.Fall.X, .f .f32 Y3.Fall.Y, .f .f32 Y3.Fall.Z] :: .f .f32 (Z2R Y3) :: an 18 []), [.box 42 [.sl (Y3.Mesh.Places.map GVector.cells), .sl (Y3.Mesh.Triangles.map (cL (cI .i64))), .sl (Y3.Springs.map GSpring.cells), .f .f32 Y3.Film, .f .f32 Y3.Bend, .sl (Y3.Weights.map (cF .f32)), .f .f32 Y3.Fall.X, .f .f32 Y3.Fall.Y, .f .f32 Y3.Fall.Z], .box 42 [.nils, .nils, .nils, .f .f32 0, .f .f32 0, .nils, .f .f32 0, .f .f32 0, .f .f32 0]]⟩)
def ZcA (Y3 : GBody) (Ys : (List GVector)) (Yf : Nat) (Yh : Nat) (Yy : Int) : St := ⟨.agg [.sl (Y3.Mesh.Places.map GVector.cells), .sl (Y3.Mesh.Triangles.map (cL (cI .i64))), .sl (Y3.Springs.map GSpring.cells), .f .f32 Y3.Film, .f .f32 Y3.Bend, .sl (Y3.Weights.map (cF .f32)), .f .f32 Y3.Fall.X, .f .f32 Y3.Fall.Y, .f .f32 Y3.Fall.Z] :: .sl (Ys.map GVector.cells) :: .f .f32 Yh :: .ptr 0 0 0 :: .any :: .any :: .ptr 1 0 0 :: .any :: .any :: .f .f32 (Z2R Y3) :: .i .i64 Yy :: .any :: .agg [.sl (Y3.Mesh.Places.map GVector.cells), .sl (Y3.Mesh.Triangles.map (cL (cI .i64))), .sl (Y3.Springs.map GSpring.cells), .f .f32 Y3.Film, .f .f32 Y3.Bend, .sl (Y3.Weights.map (cF .f32)), .f .f32 Y3.Fall.X, .f .f32 Y3.Fall.Y, .f .f32 Y3.Fall.Z] :: .f .f32 (Z2R Y3) :: an 18 [], [.box 42 [.sl (Y3.Mesh.Places.map GVector.cells), .sl (Y3.Mesh.Triangles.map (cL (cI .i64))), .sl (Y3.Springs.map GSpring.cells), .f .f32 Y3.Film, .f .f32 Y3.Bend, .sl (Y3.Weights.map (cF .f32)), .f .f32 Y3.Fall.X, .f .f32 Y3.Fall.Y, .f .f32 Y3.Fall.Z], .box 42 [.nils, .nils, .nils, .f .f32 0, .f .f32 0, .nils, .f .f32 0, .f .f32 0, .f .f32 0]]⟩
theorem Z9b (Y3 : GBody) (Ys : (List GVector)) (Yf : Nat) (hp0 : Y3.Mesh.Places.length ≤ 1073741824) (hp1 : Y3.Mesh.Triangles.length ≤ 1073741824) (hp2 : ∀ t ∈ Y3.Mesh.Triangles, t.length ≤ 1073741824) (hp3 : Y3.Springs.length ≤ 1073741824) (hp4 : Y3.Weights.length ≤ 1073741824) (hp5 : Ys.length ≤ 1073741824) (hp6 : OkBd Y3) (hp7 : Ys.length ≤ Y3.Mesh.Places.length) : ∀ (k : Nat) (Yh : Nat) (Yy : Int) (Z7S : 0 ≤ Yy) (hk : (21 + (Ys.length : Int) - Yy).toNat < k), Lp prog 0 (sub (bodyOf f72) [1, 1, 0, 1, 0, 0]) (ZcA Y3 Ys Yf Yh Yy) (Z5j Y3 Ys Yf (Z1i Y3 Ys Yf k Yh Yy)).1 (Z5j Y3 Ys Yf (Z1i Y3 Ys Yf k Yh Yy)).2 := by
 intro k
 induction k with
 | zero => intro Yh Yy Z7S hk; exact absurd hk (Nat.not_lt_zero _)
 | succ k ih =>
  intro Yh Yy Z7S hk
  cases Yg : (decide (Yy ≤ 20)) with
  | true =>
   have Yt := of_decide_eq_true Yg
   have YA : OkTris Y3.Mesh.Places.length Y3.Mesh.Triangles := (by exact hp6.e.tris)
   have l_1 := (Zf8 Y3 Ys Yh)
   have l_2 := (Zf9 Y3 Ys Yh)
   have l_3 := (Zfa Y3 Ys Yh)
   have l_4 := (Zfb Y3 Ys Yh)
   have YE : (Zg Y3 Ys Yh).Mesh.Places.length ≤ 1073741824 := (by omega)
   have YG : (Zg Y3 Ys Yh).Mesh.Triangles.length ≤ 1073741824 := (by assumption)
   have YH : ∀ t ∈ (Zg Y3 Ys Yh).Mesh.Triangles, t.length ≤ 1073741824 := (by assumption)
   have YL : (Zg Y3 Ys Yh).Springs.length ≤ 1073741824 := (by assumption)
   have YQ : (Zg Y3 Ys Yh).Weights.length ≤ 1073741824 := (by assumption)
   have YW : OkBd (Zg Y3 Ys Yh) := (by rw [Zel]; exact ZbP hp6 _ _)
   have p {a C} (s : Scr a C) := sB Yg <| sF (Zg7 Y3 Ys Yh hp0 hp1 hp2 hp3 hp4 hp5 YA hp7) <| sF (Fn.castA (args' := [.agg [.sl (((Zg Y3 Ys Yh).Mesh.Places).map GVector.cells), .sl ((((Zg Y3 Ys Yh).Mesh.Triangles).map fun l => l.map (cI .i64)).map fun l => [.sl l]), .sl (((Zg Y3 Ys Yh).Springs).map GSpring.cells), .f .f32 ((Zg Y3 Ys Yh).Film), .f .f32 ((Zg Y3 Ys Yh).Bend), .sl (((Zg Y3 Ys Yh).Weights).map (cF .f32)), .f .f32 ((Zg Y3 Ys Yh).Fall.X), .f .f32 ((Zg Y3 Ys Yh).Fall.Y), .f .f32 ((Zg Y3 Ys Yh).Fall.Z)]]) (ZaW (Zg Y3 Ys Yh) YE YG YH YL YQ YW) (by simp [cL, Function.comp_def]; done)) <| s
   cases Yq : (fcmp .lss .f32 (Z2R (Zg Y3 Ys Yh)) (Z2R Y3)) with
   | true =>
    have e : Z1i Y3 Ys Yf (k + 1) Yh Yy = (.inl (Yy, (Zg Y3 Ys Yh).Film, (Zg Y3 Ys Yh).Bend, (Zg Y3 Ys Yh).Fall.X, (Zg Y3 Ys Yh).Fall.Y, (Zg Y3 Ys Yh).Fall.Z, (Zg Y3 Ys Yh).Mesh.Places, (Zg Y3 Ys Yh).Mesh.Triangles, (Zg Y3 Ys Yh).Springs, (Zg Y3 Ys Yh).Weights)) := by simp only [Z1i, Yg, Yq, cond_true]
    rw [e]
    exact outR (e := .ret) E0Ok Z4 [] (mR false [6, 3, 23]) [1, 2, 3, 4, 5] (p (sB Yq <| sN)) (by kernel_rfl) (by intro h; cases h)
   | false =>
    have y_7 : (-9223372036854775808 : Int) ≤ (Yy + 1) := by clear p; exact (by omega)
    have y_8 : (Yy + 1) ≤ (9223372036854775807 : Int) := by clear p; exact (by omega)
    have e : Z1i Y3 Ys Yf (k + 1) Yh Yy = (Z1i Y3 Ys Yf k (fop .quo .f32 Yh 1073741824) (Yy + 1)) := by simp only [Z1i, Yg, Yq, cond_true, cond_false]
    rw [e]
    exact nextR E0Ok Z4 [] (mR false [0, 4, 2, 1, 2, 2, 1, 2, 18]) [0, 1] (ih (fop .quo .f32 Yh 1073741824) (Yy + 1) (show 0 ≤ (Yy + 1) from (by omega)) (by omega)) (p (sB Yq <| sI (Yy + 1) y_7 y_8 <| sN)) (by kernel_rfl)
  | false =>
   have Yt := of_decide_eq_false Yg
   have e : Z1i Y3 Ys Yf (k + 1) Yh Yy = (.inr ()) := by simp only [Z1i, Yg, cond_false]
   rw [e]
   exact outR (e := (.exit 0)) E0Ok Z4 [] (mR false [0, 1, 2, 1, 2, 1, 5, 2, 18]) [0, 1] (sB Yg <| sN) (by kernel_rfl) (by intro h; cases h)
def Z3K (Y3 : GBody) (Ys : (List GVector)) (Yf : Nat) : (Int × Nat × Nat × Nat × Nat × Nat × (List GVector) × (List (List Int)) × (List GSpring) × (List Nat)) ⊕ (Unit) := (Z1i Y3 Ys Yf ((21 + (Ys.length : Int) - 0).toNat + 1) Yf 0)
def Zk (Y3 : GBody) (Ys : (List GVector)) (Yf : Nat) : GBody × Int × Bool := (match (Z3K Y3 Ys Yf) with
  | .inl r1 => ((⟨(⟨r1.2.2.2.2.2.2.1, r1.2.2.2.2.2.2.2.1⟩ : GMesh), r1.2.2.2.2.2.2.2.2.1, r1.2.1, r1.2.2.1, r1.2.2.2.2.2.2.2.2.2, (⟨r1.2.2.2.1, r1.2.2.2.2.1, r1.2.2.2.2.2.1⟩ : GVector)⟩ : GBody), r1.1, true)
  | .inr r1 => (Y3, 20, false))
theorem Zg8 (b : GBody) (v : List GVector) (s : Nat) (ok : OkBd b) : Zk b v s = Zo b v s := by
  have h : ∀ (k x : Nat) (n : Int), Z1i b v s k x n = Z1F b v s k x n := by
    intro k
    induction k with
    | zero => intros; rfl
    | succ k ih =>
      intro x n
      rw [Z1i, Z1F, ih, Zel, ZdT b ok, ZdT _ (ZbP ok v x)]
  unfold Zk Zo Z3K Z48
  rw [h]
  generalize Z1F b v s _ s 0 = r
  cases r <;> rfl
theorem Zhp (b : GBody) (v : List GVector) (s : Nat) : ∀ (k x : Nat) (n : Int), (21 + (v.length : Int) - n).toNat < k → ∀ r, Z1i b v s k x n = .inl r → ∃ y, (⟨(⟨r.2.2.2.2.2.2.1, r.2.2.2.2.2.2.2.1⟩ : GMesh), r.2.2.2.2.2.2.2.2.1, r.2.1, r.2.2.1, r.2.2.2.2.2.2.2.2.2, (⟨r.2.2.2.1, r.2.2.2.2.1, r.2.2.2.2.2.1⟩ : GVector)⟩ : GBody) = Zd b v y := by
  intro k
  induction k with
  | zero => intro x n hk; exact absurd hk (Nat.not_lt_zero _)
  | succ k ih =>
    intro x n hk r e
    rw [Z1i] at e
    cases h : decide (n ≤ 20) with
    | false => rw [h] at e; cases e
    | true =>
      have hn := of_decide_eq_true h
      rw [h, cond_true] at e
      cases h2 : fcmp .lss .f32 (Z2R (Zg b v x)) (Z2R b) with
      | true => rw [h2, cond_true] at e; cases e; exact ⟨x, Zel b v x⟩
      | false => rw [h2, cond_false] at e; exact ih _ _ (by omega) r e
theorem ZaY (b : GBody) (v : List GVector) (s : Nat) : (Zk b v s).1 = b ∨ ∃ y, (Zk b v s).1 = Zd b v y := by
  unfold Zk Z3K
  cases h : Z1i b v s ((21 + (v.length : Int) - 0).toNat + 1) s 0 with
  | inl r => exact .inr (Zhp b v s _ s 0 (Nat.lt_succ_self _) r h)
  | inr r => exact .inl rfl
theorem Zdg (b : GBody) (v : List GVector) (s : Nat) : (Zk b v s).1.Mesh.Places.length ≤ b.Mesh.Places.length := by
  rcases ZaY b v s with h | ⟨y, h⟩ <;> rw [h]
  · exact Nat.le_refl _
  · exact Z73 b v y
theorem Zdh (b : GBody) (v : List GVector) (s : Nat) : (Zk b v s).1.Mesh.Triangles.length ≤ b.Mesh.Triangles.length := by
  rcases ZaY b v s with h | ⟨y, h⟩ <;> rw [h]
  · exact Nat.le_refl _
  · exact Z74 b v y
theorem Zdi (b : GBody) (v : List GVector) (s : Nat) : (Zk b v s).1.Weights.length ≤ b.Weights.length := by
  rcases ZaY b v s with h | ⟨y, h⟩ <;> rw [h]
  · exact Nat.le_refl _
  · exact Z75 b v y
theorem Zdj (b : GBody) (v : List GVector) (s : Nat) : (Zk b v s).1.Springs.length ≤ b.Springs.length := by
  rcases ZaY b v s with h | ⟨y, h⟩ <;> rw [h]
  · exact Nat.le_refl _
  · exact Z76 b v y
theorem Zem (Y3 : GBody) (Ys : (List GVector)) (Yf : Nat) (hp0 : Y3.Mesh.Places.length ≤ 1073741824) (hp1 : Y3.Mesh.Triangles.length ≤ 1073741824) (hp2 : ∀ t ∈ Y3.Mesh.Triangles, t.length ≤ 1073741824) (hp3 : Y3.Springs.length ≤ 1073741824) (hp4 : Y3.Weights.length ≤ 1073741824) (hp5 : Ys.length ≤ 1073741824) (hp6 : OkBd Y3) (hp7 : Ys.length ≤ Y3.Mesh.Places.length)  : Fn prog 72 [.agg [.sl (Y3.Mesh.Places.map GVector.cells), .sl (Y3.Mesh.Triangles.map (cL (cI .i64))), .sl (Y3.Springs.map GSpring.cells), .f .f32 Y3.Film, .f .f32 Y3.Bend, .sl (Y3.Weights.map (cF .f32)), .f .f32 Y3.Fall.X, .f .f32 Y3.Fall.Y, .f .f32 Y3.Fall.Z], .sl (Ys.map GVector.cells), .f .f32 Yf] (.tup [.agg [.own 0, .own 1, .own 2, .f .f32 ((Zk Y3 Ys Yf).1.Film), .f .f32 ((Zk Y3 Ys Yf).1.Bend), .own 3, .f .f32 ((Zk Y3 Ys Yf).1.Fall.X), .f .f32 ((Zk Y3 Ys Yf).1.Fall.Y), .f .f32 ((Zk Y3 Ys Yf).1.Fall.Z)], .i .i64 ((Zk Y3 Ys Yf).2.1), .b ((Zk Y3 Ys Yf).2.2)]) [.vec 40 3 (((Zk Y3 Ys Yf).1.Mesh.Places).map GVector.cells) false, .nest 49 (((Zk Y3 Ys Yf).1.Mesh.Triangles).map fun l => l.map (cI .i64)) false, .vec 133 4 (((Zk Y3 Ys Yf).1.Springs).map GSpring.cells) false, .vec 27 1 (((Zk Y3 Ys Yf).1.Weights).map (cF .f32)) false] := by
 have p {a C} (s : Scr a C) := sF (ZaW Y3 hp0 hp1 hp2 hp3 hp4 hp6) <| s
 cases h0 : (Z3K Y3 Ys Yf) with
 | inl r1 =>
  have hv : Zk Y3 Ys Yf = ((⟨(⟨r1.2.2.2.2.2.2.1, r1.2.2.2.2.2.2.2.1⟩ : GMesh), r1.2.2.2.2.2.2.2.2.1, r1.2.1, r1.2.2.1, r1.2.2.2.2.2.2.2.2.2, (⟨r1.2.2.2.1, r1.2.2.2.2.1, r1.2.2.2.2.2.1⟩ : GVector)⟩ : GBody), r1.1, true) := by unfold Zk; rw [h0]
  refine fnS E0Ok Z4 (c := bodyOf f72) [] (.tup [.agg [.own 0, .own 1, .own 2, .f .f32 r1.2.1, .f .f32 r1.2.2.1, .own 3, .f .f32 r1.2.2.2.1, .f .f32 r1.2.2.2.2.1, .f .f32 r1.2.2.2.2.2.1], .i .i64 r1.1, .b true]) [.vec 40 3 (r1.2.2.2.2.2.2.1.map GVector.cells) false, .nest 49 (r1.2.2.2.2.2.2.2.1.map fun l => l.map (cI .i64)) false, .vec 133 4 (r1.2.2.2.2.2.2.2.2.1.map GSpring.cells) false, .vec 27 1 (r1.2.2.2.2.2.2.2.2.2.map (cF .f32)) false] func72 (p (sL (mR false [0, 4, 2, 1, 2, 2, 1, 2, 18]) 2 (lp_val (Z5j Y3 Ys Yf) (x := (Z3K Y3 Ys Yf)) (Z9b Y3 Ys Yf hp0 hp1 hp2 hp3 hp4 hp5 hp6 hp7 ((21 + (Ys.length : Int) - 0).toNat + 1) Yf 0 (show 0 ≤ 0 from (by omega)) (Nat.lt_succ_self _)) h0) <| sK [1, 2, 3, 4] sN)) rfl (by kernel_rfl) (by kernel_rfl) rfl ?_ ?_
  · rw [hv]
  · rw [hv]
 | inr r1 =>
  have y0 : OkTris Y3.Mesh.Places.length Y3.Mesh.Triangles := by clear p; exact (by exact hp6.e.tris)
  have hv : Zk Y3 Ys Yf = (Y3, 20, false) := by unfold Zk; rw [h0]
  refine fnS E0Ok Z4 (c := bodyOf f72) [] (.tup [.agg [.own 0, .own 1, .own 2, .f .f32 Y3.Film, .f .f32 Y3.Bend, .own 3, .f .f32 Y3.Fall.X, .f .f32 Y3.Fall.Y, .f .f32 Y3.Fall.Z], .i .i64 20, .b false]) [.vec 40 3 (Y3.Mesh.Places.map GVector.cells) false, .nest 49 (Y3.Mesh.Triangles.map fun l => l.map (cI .i64)) false, .vec 133 4 (Y3.Springs.map GSpring.cells) false, .vec 27 1 (Y3.Weights.map (cF .f32)) false] func72 (p (sL (mR false [0, 4, 2, 1, 2, 2, 1, 2, 18]) 2 (lp_val (Z5j Y3 Ys Yf) (x := (Z3K Y3 Ys Yf)) (Z9b Y3 Ys Yf hp0 hp1 hp2 hp3 hp4 hp5 hp6 hp7 ((21 + (Ys.length : Int) - 0).toNat + 1) Yf 0 (show 0 ≤ 0 from (by omega)) (Nat.lt_succ_self _)) h0) <| sF (ZaX Y3 hp0 hp1 hp2 hp3 hp4 y0) <| sK [2, 3, 4, 5] sN)) rfl (by kernel_rfl) (by kernel_rfl) rfl ?_ ?_
  · rw [hv]
  · rw [hv]
def Z2 (Y3 : GBody) (Ya : (List Int)) (Yf : Nat) : GBody × Int × Bool × Bool := (cond (Z44 Y3 Ya)
  (cond (Z5n Yf)
    ((Zk Y3 (Zt Y3 Ya) Yf).1, (Zk Y3 (Zt Y3 Ya) Yf).2.1, (Zk Y3 (Zt Y3 Ya) Yf).2.2, true)
    ((⟨(⟨([] : List GVector), ([] : List (List Int))⟩ : GMesh), ([] : List GSpring), 0, 0, ([] : List Nat), (⟨0, 0, 0⟩ : GVector)⟩ : GBody), 0, false, false))
  ((⟨(⟨([] : List GVector), ([] : List (List Int))⟩ : GMesh), ([] : List GSpring), 0, 0, ([] : List Nat), (⟨0, 0, 0⟩ : GVector)⟩ : GBody), 0, false, false))
theorem Z6g (b : GBody) (l : List Int) (s : Nat) : Z2 b l s = Z9 b l s := by
  unfold Z2 Z9
  rw [Zfr, show Z5n s = Z3L s from rfl]
  cases h : Z1E b with
  | false => rfl
  | true =>
    rw [cond_true, cond_true, ZfS b l (Zdo b h), Zg8 b _ s (Zdo b h)]
theorem Za1 (b : GBody) (l : List Int) (s : Nat) : (Z2 b l s).1.Mesh.Places.length ≤ b.Mesh.Places.length := by
  rw [Z6g]
  first | exact Z4o b l s | exact Z4p b l s | exact Z4q b l s | exact Z4r b l s | exact Z4s b l s
theorem Za2 (b : GBody) (l : List Int) (s : Nat) : (Z2 b l s).1.Mesh.Triangles.length ≤ b.Mesh.Triangles.length := by
  rw [Z6g]
  first | exact Z4o b l s | exact Z4p b l s | exact Z4q b l s | exact Z4r b l s | exact Z4s b l s
theorem Za3 (b : GBody) (l : List Int) (s : Nat) : (Z2 b l s).1.Weights.length ≤ b.Weights.length := by
  rw [Z6g]
  first | exact Z4o b l s | exact Z4p b l s | exact Z4q b l s | exact Z4r b l s | exact Z4s b l s
theorem Za4 (b : GBody) (l : List Int) (s : Nat) : (Z2 b l s).1.Springs.length ≤ b.Springs.length := by
  rw [Z6g]
  first | exact Z4o b l s | exact Z4p b l s | exact Z4q b l s | exact Z4r b l s | exact Z4s b l s
theorem Z7d (b : GBody) (l : List Int) (s : Nat) : ∀ t ∈ (Z2 b l s).1.Mesh.Triangles, t ∈ b.Mesh.Triangles := by
  rw [Z6g]
  first | exact Z4o b l s | exact Z4p b l s | exact Z4q b l s | exact Z4r b l s | exact Z4s b l s
theorem ZaZ (Y3 : GBody) (Ya : (List Int)) (Yf : Nat) (hp0 : Y3.Mesh.Places.length ≤ 1073741824) (hp1 : Y3.Mesh.Triangles.length ≤ 1073741824) (hp2 : ∀ t ∈ Y3.Mesh.Triangles, t.length ≤ 1073741824) (hp3 : Y3.Springs.length ≤ 1073741824) (hp4 : Y3.Weights.length ≤ 1073741824) (hp5 : Ya.length ≤ 1073741824)  : Fn prog 29 [.agg [.sl (Y3.Mesh.Places.map GVector.cells), .sl (Y3.Mesh.Triangles.map (cL (cI .i64))), .sl (Y3.Springs.map GSpring.cells), .f .f32 Y3.Film, .f .f32 Y3.Bend, .sl (Y3.Weights.map (cF .f32)), .f .f32 Y3.Fall.X, .f .f32 Y3.Fall.Y, .f .f32 Y3.Fall.Z], .sl (Ya.map (cI .i64)), .f .f32 Yf] (.tup [.agg [.own 0, .own 1, .own 2, .f .f32 ((Z2 Y3 Ya Yf).1.Film), .f .f32 ((Z2 Y3 Ya Yf).1.Bend), .own 3, .f .f32 ((Z2 Y3 Ya Yf).1.Fall.X), .f .f32 ((Z2 Y3 Ya Yf).1.Fall.Y), .f .f32 ((Z2 Y3 Ya Yf).1.Fall.Z)], .i .i64 ((Z2 Y3 Ya Yf).2.1), .b ((Z2 Y3 Ya Yf).2.2.1), .b ((Z2 Y3 Ya Yf).2.2.2)]) [.vec 40 3 (((Z2 Y3 Ya Yf).1.Mesh.Places).map GVector.cells) false, .nest 49 (((Z2 Y3 Ya Yf).1.Mesh.Triangles).map fun l => l.map (cI .i64)) false, .vec 133 4 (((Z2 Y3 Ya Yf).1.Springs).map GSpring.cells) false, .vec 27 1 (((Z2 Y3 Ya Yf).1.Weights).map (cF .f32)) false] := by
 have p {a C} (s : Scr a C) := sF (ZfI Y3 Ya hp0 hp1 hp2 hp3 hp4 hp5) <| s
 cases h0 : (Z44 Y3 Ya) with
 | true =>
  have q {a C} (s : Scr a C) := p (sB' h0 <| sB' h0 <| sF (ZfJ Yf) <| sB' h0 <| sB' h0 <| s)
  clear p
  cases h1 : (Z5n Yf) with
  | true =>
   have y0 : OkBd Y3 := by clear q; exact (by exact Zdo _ (Zfs _ _ (by assumption)).1)
   have y1 : OkIx Y3.Mesh.Places.length (fun x => x) Ya := by clear q; exact (by exact Zgs _ _ (by assumption) (Zfs _ _ (by assumption)).2)
   have y2 : (Zt Y3 Ya).length ≤ 1073741824 := by clear q; exact (by simp only [Z6Y]; omega)
   have y3 : (Zt Y3 Ya).length ≤ Y3.Mesh.Places.length := by clear q; exact (by simp only [Z6Y]; omega)
   have l1 := (Zdg Y3 (Zt Y3 Ya) Yf)
   have l2 := (Zdh Y3 (Zt Y3 Ya) Yf)
   have l3 := (Zdi Y3 (Zt Y3 Ya) Yf)
   have l4 := (Zdj Y3 (Zt Y3 Ya) Yf)
   refine fnS E0Ok Z4 (c := bodyOf f29) [] (.tup [.agg [.own 0, .own 1, .own 2, .f .f32 ((Zk Y3 (Zt Y3 Ya) Yf).1.Film), .f .f32 ((Zk Y3 (Zt Y3 Ya) Yf).1.Bend), .own 3, .f .f32 ((Zk Y3 (Zt Y3 Ya) Yf).1.Fall.X), .f .f32 ((Zk Y3 (Zt Y3 Ya) Yf).1.Fall.Y), .f .f32 ((Zk Y3 (Zt Y3 Ya) Yf).1.Fall.Z)], .i .i64 ((Zk Y3 (Zt Y3 Ya) Yf).2.1), .b ((Zk Y3 (Zt Y3 Ya) Yf).2.2), .b true]) [.vec 40 3 (((Zk Y3 (Zt Y3 Ya) Yf).1.Mesh.Places).map GVector.cells) false, .nest 49 (((Zk Y3 (Zt Y3 Ya) Yf).1.Mesh.Triangles).map fun l => l.map (cI .i64)) false, .vec 133 4 (((Zk Y3 (Zt Y3 Ya) Yf).1.Springs).map GSpring.cells) false, .vec 27 1 (((Zk Y3 (Zt Y3 Ya) Yf).1.Weights).map (cF .f32)) false] func29 (q (sB' h1 <| sK [11, 13, 8, 9] <| sF (ZdG Y3 Ya hp0 hp1 hp2 hp3 hp4 hp5 y0 y1) <| sF (Zem Y3 (Zt Y3 Ya) Yf hp0 hp1 hp2 hp3 hp4 y2 y0 y3) <| sK [3, 4, 5, 6] sN)) rfl (by kernel_rfl) (by kernel_rfl) rfl ?_ ?_
   · simp only [Z2, h0, h1, cond_true]
   · simp [Z2, h0, h1]
  | false =>
   refine fnS E0Ok Z4 (c := bodyOf f29) [(.row 1 0, .vec 40 3 [] false), (.row 1 1, .nest 49 [] false), (.row 1 2, .vec 133 4 [] false), (.row 1 5, .vec 27 1 [] false)] (.tup [.agg [.own 0, .own 1, .own 2, .f .f32 0, .f .f32 0, .own 3, .f .f32 0, .f .f32 0, .f .f32 0], .i .i64 0, .b false, .b false]) [.vec 40 3 [] false, .nest 49 [] false, .vec 133 4 [] false, .vec 27 1 [] false] func29 (q (sB' h1 <| sK [2, 3, 4, 5] sN)) rfl (by kernel_rfl) (by kernel_rfl) rfl ?_ ?_
   · simp only [Z2, h0, h1, cond_true, cond_false]
   · simp [Z2, h0, h1, GVector.cells, cL, cI, GSpring.cells, cF]
 | false =>
  refine fnS E0Ok Z4 (c := bodyOf f29) [(.row 1 0, .vec 40 3 [] false), (.row 1 1, .nest 49 [] false), (.row 1 2, .vec 133 4 [] false), (.row 1 5, .vec 27 1 [] false)] (.tup [.agg [.own 0, .own 1, .own 2, .f .f32 0, .f .f32 0, .own 3, .f .f32 0, .f .f32 0, .f .f32 0], .i .i64 0, .b false, .b false]) [.vec 40 3 [] false, .nest 49 [] false, .vec 133 4 [] false, .vec 27 1 [] false] func29 (p (sB' h0 <| sB' h0 <| sB' h0 <| sB' h0 <| sB (show true = true from rfl) <| sK [2, 3, 4, 5] sN)) rfl (by kernel_rfl) (by kernel_rfl) rfl ?_ ?_
  · simp only [Z2, h0, cond_false]
  · simp [Z2, h0, GVector.cells, cL, cI, GSpring.cells, cF]
def ZB (Y5 : Nat) (Yk : Nat) : Bool := (cond (fcmp .neq .f64 Y5 Y5)
  (fcmp .neq .f64 Yk Yk)
  (cond (fcmp .neq .f64 Yk Yk)
    false
    (cond (fcmp .eql .f64 Y5 0)
      (cond (fcmp .eql .f64 Yk 0)
        ((fcmp .gtr .f64 (fop .quo .f64 4607182418800017408 Y5) 0) == (fcmp .gtr .f64 (fop .quo .f64 4607182418800017408 Yk) 0))
        (fcmp .eql .f64 Y5 Yk))
      (fcmp .eql .f64 Y5 Yk))))
theorem Z3M (Y5 : Nat) (Yk : Nat)   : Fn prog 23 [.f .f64 Y5, .f .f64 Yk] (.b (ZB Y5 Yk)) [] := by
 cases h0 : (fcmp .neq .f64 Y5 Y5) with
 | true =>
  refine fnS E0Ok Z4 (c := bodyOf f23) [] (.b (fcmp .neq .f64 Yk Yk)) [] func23 (sB h0 <| sB h0 <| sB h0 <| sB h0 <| sB (show true = true from rfl) <| sB h0 <| sB h0 <| sB h0 <| sB h0 <| sK [] sN) rfl (by kernel_rfl) (by kernel_rfl) rfl ?_ ?_
  · simp only [ZB, h0, cond_true]
  · rfl
 | false =>
  have p {a C} (s : Scr a C) := sB h0 <| sB h0 <| sB h0 <| sB h0 <| s
  cases h1 : (fcmp .neq .f64 Yk Yk) with
  | true =>
   refine fnS E0Ok Z4 (c := bodyOf f23) [] (.b false) [] func23 (p (sB h1 <| sB h0 <| sB h0 <| sB h0 <| sB h0 <| sK [] sN)) rfl (by kernel_rfl) (by kernel_rfl) rfl ?_ ?_
   · simp only [ZB, h0, h1, cond_true, cond_false]
   · rfl
  | false =>
   have q {a C} (s : Scr a C) := p (sB h1 <| s)
   clear p
   cases h2 : (fcmp .eql .f64 Y5 0) with
   | true =>
    have p {a C} (s : Scr a C) := q (sB h2 <| sB h2 <| sB h2 <| s)
    clear q
    cases h3 : (fcmp .eql .f64 Yk 0) with
    | true =>
     refine fnS E0Ok Z4 (c := bodyOf f23) [] (.b ((fcmp .gtr .f64 (fop .quo .f64 4607182418800017408 Y5) 0) == (fcmp .gtr .f64 (fop .quo .f64 4607182418800017408 Yk) 0))) [] func23 (p (sB h3 <| sK [] sN)) rfl (by kernel_rfl) (by kernel_rfl) rfl ?_ ?_
     · simp only [ZB, h0, h1, h2, h3, cond_true, cond_false]
     · rfl
    | false =>
     refine fnS E0Ok Z4 (c := bodyOf f23) [] (.b (fcmp .eql .f64 Y5 Yk)) [] func23 (p (sB h3 <| sK [] sN)) rfl (by kernel_rfl) (by kernel_rfl) rfl ?_ ?_
     · simp only [ZB, h0, h1, h2, h3, cond_true, cond_false]
     · rfl
   | false =>
    refine fnS E0Ok Z4 (c := bodyOf f23) [] (.b (fcmp .eql .f64 Y5 Yk)) [] func23 (q (sB h2 <| sB h2 <| sB h2 <| sB (show false = false from rfl) <| sK [] sN)) rfl (by kernel_rfl) (by kernel_rfl) rfl ?_ ?_
    · simp only [ZB, h0, h1, h2, cond_false]
    · rfl
theorem Z9C (x : Nat) : ZB x x = true := by
  unfold ZB
  cases h : fcmp .neq .f64 x x
  · simp only [cond_false]
    have h2 : fcmp .eql .f64 x x = true := by
      unfold fcmp at h ⊢
      simpa using h
    cases fcmp .eql .f64 x 0 <;> simp [h2]
  · rfl
def Z2T (Y5 : GVector) (Yk : GVector) : Bool := (cond (ZB (fcv .f32 .f64 Y5.X) (fcv .f32 .f64 Yk.X))
  (cond (ZB (fcv .f32 .f64 Y5.Y) (fcv .f32 .f64 Yk.Y))
    (cond (ZB (fcv .f32 .f64 Y5.Z) (fcv .f32 .f64 Yk.Z))
      true
      false)
    false)
  false)
theorem Zb0 (Y5 : GVector) (Yk : GVector)   : Fn prog 58 [.agg [.f .f32 Y5.X, .f .f32 Y5.Y, .f .f32 Y5.Z], .agg [.f .f32 Yk.X, .f .f32 Yk.Y, .f .f32 Yk.Z]] (.b (Z2T Y5 Yk)) [] := by
 have p {a C} (s : Scr a C) := sC (widenOk Y5.X) <| sC (widenOk Yk.X) <| sF (Z3M (fcv .f32 .f64 Y5.X) (fcv .f32 .f64 Yk.X)) <| s
 cases h0 : (ZB (fcv .f32 .f64 Y5.X) (fcv .f32 .f64 Yk.X)) with
 | true =>
  have q {a C} (s : Scr a C) := p (sB' h0 <| sC (widenOk Y5.Y) <| sC (widenOk Yk.Y) <| sF (Z3M (fcv .f32 .f64 Y5.Y) (fcv .f32 .f64 Yk.Y)) <| s)
  clear p
  cases h1 : (ZB (fcv .f32 .f64 Y5.Y) (fcv .f32 .f64 Yk.Y)) with
  | true =>
   have p {a C} (s : Scr a C) := q (sB' h1 <| sC (widenOk Y5.Z) <| sC (widenOk Yk.Z) <| sF (Z3M (fcv .f32 .f64 Y5.Z) (fcv .f32 .f64 Yk.Z)) <| s)
   clear q
   cases h2 : (ZB (fcv .f32 .f64 Y5.Z) (fcv .f32 .f64 Yk.Z)) with
   | true =>
    refine fnS E0Ok Z4 (c := bodyOf f58) [] (.b true) [] func58 (p (sB' h2 <| sK [] sN)) rfl (by kernel_rfl) (by kernel_rfl) rfl ?_ ?_
    · simp only [Z2T, h0, h1, h2, cond_true]
    · rfl
   | false =>
    refine fnS E0Ok Z4 (c := bodyOf f58) [] (.b false) [] func58 (p (sB' h2 <| sK [] sN)) rfl (by kernel_rfl) (by kernel_rfl) rfl ?_ ?_
    · simp only [Z2T, h0, h1, h2, cond_true, cond_false]
    · rfl
  | false =>
   refine fnS E0Ok Z4 (c := bodyOf f58) [] (.b false) [] func58 (q (sB' h1 <| sK [] sN)) rfl (by kernel_rfl) (by kernel_rfl) rfl ?_ ?_
   · simp only [Z2T, h0, h1, cond_true, cond_false]
   · rfl
 | false =>
  refine fnS E0Ok Z4 (c := bodyOf f58) [] (.b false) [] func58 (p (sB' h0 <| sK [] sN)) rfl (by kernel_rfl) (by kernel_rfl) rfl ?_ ?_
  · simp only [Z2T, h0, cond_false]
  · rfl
theorem Zc9 (a : GVector) : Z2T a a = true := by
  simp [Z2T, Z9C]
def Z25 (Y5 : (List GVector)) (Yk : (List GVector)) : Nat → Int → (Unit) ⊕ (Unit)
  | 0, _ => .inl default
  | k + 1, Y7 => (cond (decide (Y7 < (Y5.length : Int)))
    (cond (Z2T (Y5.getD Y7.toNat default) (Yk.getD Y7.toNat default))
      (Z25 Y5 Yk k (Y7 + 1))
      (.inl ()))
    (.inr ()))
def Z5k (Y5 : (List GVector)) (Yk : (List GVector)) : (Unit) ⊕ (Unit) → Ex × St
  | .inl r => (.ret, ⟨an 4 (.b false :: an 22 []), []⟩)
  | .inr r => ((.exit 0), ⟨.sl (Y5.map GVector.cells) :: .sl (Yk.map GVector.cells) :: an 4 (.sl (Y5.map GVector.cells) :: .i .i64 (Y5.length : Int) :: .sl (Yk.map GVector.cells) :: .i .i64 (Yk.length : Int) :: .b ((Y5.length : Int) != (Yk.length : Int)) :: an 16 []), []⟩)
def ZcB (Y5 : (List GVector)) (Yk : (List GVector)) (Y7 : Int) : St := ⟨.sl (Y5.map GVector.cells) :: .sl (Yk.map GVector.cells) :: .any :: .any :: .any :: .i .i64 Y7 :: .sl (Y5.map GVector.cells) :: .i .i64 (Y5.length : Int) :: .sl (Yk.map GVector.cells) :: .i .i64 (Yk.length : Int) :: .b ((Y5.length : Int) != (Yk.length : Int)) :: an 16 [], []⟩
theorem Z9c (Y5 : (List GVector)) (Yk : (List GVector)) (hp0 : Y5.length ≤ 1073741824) (hp1 : Yk.length ≤ 1073741824) (ZgD : ((Y5.length : Int) != (Yk.length : Int)) = false) : ∀ (k : Nat) (Y7 : Int) (Z7T : 0 ≤ Y7) (hk : ((Y5.length : Int) - Y7).toNat < k), Lp prog 0 (sub (bodyOf f15) [1, 1, 0, 1, 0, 0]) (ZcB Y5 Yk Y7) (Z5k Y5 Yk (Z25 Y5 Yk k Y7)).1 (Z5k Y5 Yk (Z25 Y5 Yk k Y7)).2 := by
 intro k
 induction k with
 | zero => intro Y7 Z7T hk; exact absurd hk (Nat.not_lt_zero _)
 | succ k ih =>
  intro Y7 Z7T hk
  have p {a C} (s : Scr a C) := sZ GVector.cells Y5 <| s
  cases Yg : (decide (Y7 < (Y5.length : Int))) with
  | true =>
   have Yt := of_decide_eq_true Yg
   have YA : (0 : Int) ≤ Y7 := by clear p; exact (by assumption)
   have YE : Y7 < (Y5.length : Int) := by clear p; exact (by assumption)
   have YG : Y7 < (Yk.length : Int) := by clear p; exact (by simp_all <;> omega)
   have q {a C} (s : Scr a C) := p (sB Yg <| sK [8, 8] <| sG GVector.cells Y5 Y7 YA YE <| sG GVector.cells Yk Y7 YA YG <| sF (Zb0 (Y5.getD Y7.toNat default) (Yk.getD Y7.toNat default)) <| s)
   clear p
   cases Yq : (Z2T (Y5.getD Y7.toNat default) (Yk.getD Y7.toNat default)) with
   | true =>
    have YH : (-9223372036854775808 : Int) ≤ (Y7 + 1) := by clear q; exact (by omega)
    have YL : (Y7 + 1) ≤ (9223372036854775807 : Int) := by clear q; exact (by omega)
    have e : Z25 Y5 Yk (k + 1) Y7 = (Z25 Y5 Yk k (Y7 + 1)) := by simp only [Z25, Yg, Yq, cond_true]
    rw [e]
    exact nextR E0Ok Z4 [] (mR false [0, 2, 3, 6, 16]) [] (ih (Y7 + 1) (show 0 ≤ (Y7 + 1) from (by omega)) (by omega)) (q (sB' Yq <| sI (Y7 + 1) YH YL <| sN)) (by kernel_rfl)
   | false =>
    have e : Z25 Y5 Yk (k + 1) Y7 = (.inl ()) := by simp only [Z25, Yg, Yq, cond_true, cond_false]
    rw [e]
    exact outR (e := .ret) E0Ok Z4 [] (mR false [4, 1, 22]) [] (q (sB' Yq <| sN)) (by kernel_rfl) (by intro h; cases h)
  | false =>
   have Yt := of_decide_eq_false Yg
   have e : Z25 Y5 Yk (k + 1) Y7 = (.inr ()) := by simp only [Z25, Yg, cond_false]
   rw [e]
   exact outR (e := (.exit 0)) E0Ok Z4 [] (mR false [0, 2, 4, 5, 16]) [] (p (sB Yg <| sN)) (by kernel_rfl) (by intro h; cases h)
def Z4f (Y5 : (List GVector)) (Yk : (List GVector)) : (Unit) ⊕ (Unit) := (Z25 Y5 Yk (((Y5.length : Int) - 0).toNat + 1) 0)
def Z3N (Y5 : (List GVector)) (Yk : (List GVector)) : Bool := (cond ((Y5.length : Int) != (Yk.length : Int))
  false
  (match (Z4f Y5 Yk) with
    | .inl r2 => false
    | .inr r2 => true))
theorem Zen (Y5 : (List GVector)) (Yk : (List GVector)) (hp0 : Y5.length ≤ 1073741824) (hp1 : Yk.length ≤ 1073741824)  : Fn prog 15 [.sl (Y5.map GVector.cells), .sl (Yk.map GVector.cells)] (.b (Z3N Y5 Yk)) [] := by
 have p {a C} (s : Scr a C) := sZ GVector.cells Y5 <| sZ GVector.cells Yk <| s
 cases h0 : ((Y5.length : Int) != (Yk.length : Int)) with
 | true =>
  have gh0 := bne_iff_ne.1 h0
  refine fnS E0Ok Z4 (c := bodyOf f15) [] (.b false) [] func15 (p (sB h0 <| sK [] sN)) rfl (by kernel_rfl) (by kernel_rfl) rfl ?_ ?_
  · simp only [Z3N, h0, cond_true]
  · rfl
 | false =>
  have gh0 := bne_eq_false_iff_eq.1 h0
  have q {a C} (s : Scr a C) := p (sB h0 <| s)
  clear p
  cases h1 : (Z4f Y5 Yk) with
  | inl r2 =>
   refine fnS E0Ok Z4 (c := bodyOf f15) [] (.b false) [] func15 (q (sL (mR false [0, 2, 3, 6, 16]) 0 (lp_val (Z5k Y5 Yk) (x := (Z4f Y5 Yk)) (Z9c Y5 Yk hp0 hp1 h0 (((Y5.length : Int) - 0).toNat + 1) 0 (show 0 ≤ 0 from (by omega)) (Nat.lt_succ_self _)) h1) <| sK [] sN)) rfl (by kernel_rfl) (by kernel_rfl) rfl ?_ ?_
   · simp only [Z3N, h0, h1, cond_false]
   · rfl
  | inr r2 =>
   refine fnS E0Ok Z4 (c := bodyOf f15) [] (.b true) [] func15 (q (sL (mR false [0, 2, 3, 6, 16]) 0 (lp_val (Z5k Y5 Yk) (x := (Z4f Y5 Yk)) (Z9c Y5 Yk hp0 hp1 h0 (((Y5.length : Int) - 0).toNat + 1) 0 (show 0 ≤ 0 from (by omega)) (Nat.lt_succ_self _)) h1) <| sK [] sN)) rfl (by kernel_rfl) (by kernel_rfl) rfl ?_ ?_
   · simp only [Z3N, h0, h1, cond_false]
   · rfl
theorem Zfc (a : List GVector) : Z3N a a = true := by
  unfold Z3N Z4f
  rw [all_loop (a := a) (p := fun v => Z2T v v) (lo := Z25 a a) (x := ()) (y := ()) (fun k i => rfl) (fun v _ => Zc9 v) _ _ (Int.le_refl 0) (Nat.lt_succ_self _)]
  simp
def Z1X (Y5 : (List Int)) (Yk : (List Int)) : Nat → Int → (Unit) ⊕ (Unit)
  | 0, _ => .inl default
  | k + 1, Y7 => (cond (decide (Y7 < (Y5.length : Int)))
    (cond ((Y5.getD Y7.toNat default) != (Yk.getD Y7.toNat default))
      (.inl ())
      (Z1X Y5 Yk k (Y7 + 1)))
    (.inr ()))
def Z5v (Y5 : (List Int)) (Yk : (List Int)) : (Unit) ⊕ (Unit) → Ex × St
  | .inl r => (.ret, ⟨an 4 (.b false :: an 21 []), []⟩)
  | .inr r => ((.exit 0), ⟨.sl (Y5.map (cI .i64)) :: .sl (Yk.map (cI .i64)) :: an 4 (.sl (Y5.map (cI .i64)) :: .i .i64 (Y5.length : Int) :: .sl (Yk.map (cI .i64)) :: .i .i64 (Yk.length : Int) :: .b ((Y5.length : Int) != (Yk.length : Int)) :: an 15 []), []⟩)
def Zdk (Y5 : (List Int)) (Yk : (List Int)) (Y7 : Int) : St := ⟨.sl (Y5.map (cI .i64)) :: .sl (Yk.map (cI .i64)) :: .any :: .any :: .any :: .i .i64 Y7 :: .sl (Y5.map (cI .i64)) :: .i .i64 (Y5.length : Int) :: .sl (Yk.map (cI .i64)) :: .i .i64 (Yk.length : Int) :: .b ((Y5.length : Int) != (Yk.length : Int)) :: an 15 [], []⟩
theorem Z9D (Y5 : (List Int)) (Yk : (List Int)) (hp0 : Y5.length ≤ 1073741824) (hp1 : Yk.length ≤ 1073741824) (ZgP : ((Y5.length : Int) != (Yk.length : Int)) = false) : ∀ (k : Nat) (Y7 : Int) (Z8I : 0 ≤ Y7) (hk : ((Y5.length : Int) - Y7).toNat < k), Lp prog 0 (sub (bodyOf f24) [1, 1, 0, 1, 0, 0]) (Zdk Y5 Yk Y7) (Z5v Y5 Yk (Z1X Y5 Yk k Y7)).1 (Z5v Y5 Yk (Z1X Y5 Yk k Y7)).2 := by
 intro k
 induction k with
 | zero => intro Y7 Z8I hk; exact absurd hk (Nat.not_lt_zero _)
 | succ k ih =>
  intro Y7 Z8I hk
  have p {a C} (s : Scr a C) := sZ (cI .i64) Y5 <| s
  cases Yg : (decide (Y7 < (Y5.length : Int))) with
  | true =>
   have Yt := of_decide_eq_true Yg
   have YA : (0 : Int) ≤ Y7 := by clear p; exact (by assumption)
   have YE : Y7 < (Y5.length : Int) := by clear p; exact (by assumption)
   have YG : Y7 < (Yk.length : Int) := by clear p; exact (by simp_all <;> omega)
   have q {a C} (s : Scr a C) := p (sB Yg <| sK [8, 8] <| sG (cI .i64) Y5 Y7 YA YE <| sG (cI .i64) Yk Y7 YA YG <| s)
   clear p
   cases Yq : ((Y5.getD Y7.toNat default) != (Yk.getD Y7.toNat default)) with
   | true =>
    have Y11 := bne_iff_ne.1 Yq
    have e : Z1X Y5 Yk (k + 1) Y7 = (.inl ()) := by simp only [Z1X, Yg, Yq, cond_true]
    rw [e]
    exact outR (e := .ret) E0Ok Z4 [] (mR false [4, 1, 21]) [] (q (sB Yq <| sN)) (by kernel_rfl) (by intro h; cases h)
   | false =>
    have Y11 := bne_eq_false_iff_eq.1 Yq
    have YH : (-9223372036854775808 : Int) ≤ (Y7 + 1) := by clear q; exact (by omega)
    have YL : (Y7 + 1) ≤ (9223372036854775807 : Int) := by clear q; exact (by omega)
    have e : Z1X Y5 Yk (k + 1) Y7 = (Z1X Y5 Yk k (Y7 + 1)) := by simp only [Z1X, Yg, Yq, cond_true, cond_false]
    rw [e]
    exact nextR E0Ok Z4 [] (mR false [0, 2, 3, 6, 15]) [] (ih (Y7 + 1) (show 0 ≤ (Y7 + 1) from (by omega)) (by omega)) (q (sB Yq <| sI (Y7 + 1) YH YL <| sN)) (by kernel_rfl)
  | false =>
   have Yt := of_decide_eq_false Yg
   have e : Z1X Y5 Yk (k + 1) Y7 = (.inr ()) := by simp only [Z1X, Yg, cond_false]
   rw [e]
   exact outR (e := (.exit 0)) E0Ok Z4 [] (mR false [0, 2, 4, 5, 15]) [] (p (sB Yg <| sN)) (by kernel_rfl) (by intro h; cases h)
def Z4m (Y5 : (List Int)) (Yk : (List Int)) : (Unit) ⊕ (Unit) := (Z1X Y5 Yk (((Y5.length : Int) - 0).toNat + 1) 0)
def Z2U (Y5 : (List Int)) (Yk : (List Int)) : Bool := (cond ((Y5.length : Int) != (Yk.length : Int))
  false
  (match (Z4m Y5 Yk) with
    | .inl r2 => false
    | .inr r2 => true))
theorem Zb1 (Y5 : (List Int)) (Yk : (List Int)) (hp0 : Y5.length ≤ 1073741824) (hp1 : Yk.length ≤ 1073741824)  : Fn prog 24 [.sl (Y5.map (cI .i64)), .sl (Yk.map (cI .i64))] (.b (Z2U Y5 Yk)) [] := by
 have p {a C} (s : Scr a C) := sZ (cI .i64) Y5 <| sZ (cI .i64) Yk <| s
 cases h0 : ((Y5.length : Int) != (Yk.length : Int)) with
 | true =>
  have gh0 := bne_iff_ne.1 h0
  refine fnS E0Ok Z4 (c := bodyOf f24) [] (.b false) [] func24 (p (sB h0 <| sK [] sN)) rfl (by kernel_rfl) (by kernel_rfl) rfl ?_ ?_
  · simp only [Z2U, h0, cond_true]
  · rfl
 | false =>
  have gh0 := bne_eq_false_iff_eq.1 h0
  have q {a C} (s : Scr a C) := p (sB h0 <| s)
  clear p
  cases h1 : (Z4m Y5 Yk) with
  | inl r2 =>
   refine fnS E0Ok Z4 (c := bodyOf f24) [] (.b false) [] func24 (q (sL (mR false [0, 2, 3, 6, 15]) 0 (lp_val (Z5v Y5 Yk) (x := (Z4m Y5 Yk)) (Z9D Y5 Yk hp0 hp1 h0 (((Y5.length : Int) - 0).toNat + 1) 0 (show 0 ≤ 0 from (by omega)) (Nat.lt_succ_self _)) h1) <| sK [] sN)) rfl (by kernel_rfl) (by kernel_rfl) rfl ?_ ?_
   · simp only [Z2U, h0, h1, cond_false]
   · rfl
  | inr r2 =>
   refine fnS E0Ok Z4 (c := bodyOf f24) [] (.b true) [] func24 (q (sL (mR false [0, 2, 3, 6, 15]) 0 (lp_val (Z5v Y5 Yk) (x := (Z4m Y5 Yk)) (Z9D Y5 Yk hp0 hp1 h0 (((Y5.length : Int) - 0).toNat + 1) 0 (show 0 ≤ 0 from (by omega)) (Nat.lt_succ_self _)) h1) <| sK [] sN)) rfl (by kernel_rfl) (by kernel_rfl) rfl ?_ ?_
   · simp only [Z2U, h0, h1, cond_false]
   · rfl
theorem Zca (a : List Int) : Z2U a a = true := by
  unfold Z2U Z4m
  rw [all_from (a := a) (p := fun v => !(v != v)) (lo := Z1X a a) (x := ()) (y := ()) (fun k i => by rw [Z1X]; cases (a.getD i.toNat default != a.getD i.toNat default) <;> rfl)]
  rw [show (a.all fun v => !(v != v)) = true from by rw [List.all_eq_true]; intro v _; simp]
  simp
def Z26 (Y5 : (List (List Int))) (Yk : (List (List Int))) : Nat → Int → (Unit) ⊕ (Unit)
  | 0, _ => .inl default
  | k + 1, Y7 => (cond (decide (Y7 < (Y5.length : Int)))
    (cond (Z2U (Y5.getD Y7.toNat default) (Yk.getD Y7.toNat default))
      (Z26 Y5 Yk k (Y7 + 1))
      (.inl ()))
    (.inr ()))
def Z5l (Y5 : (List (List Int))) (Yk : (List (List Int))) : (Unit) ⊕ (Unit) → Ex × St
  | .inl r => (.ret, ⟨an 4 (.b false :: an 22 []), []⟩)
  | .inr r => ((.exit 0), ⟨.sl (Y5.map (cL (cI .i64))) :: .sl (Yk.map (cL (cI .i64))) :: an 4 (.sl (Y5.map (cL (cI .i64))) :: .i .i64 (Y5.length : Int) :: .sl (Yk.map (cL (cI .i64))) :: .i .i64 (Yk.length : Int) :: .b ((Y5.length : Int) != (Yk.length : Int)) :: an 16 []), []⟩)
def ZcC (Y5 : (List (List Int))) (Yk : (List (List Int))) (Y7 : Int) : St := ⟨.sl (Y5.map (cL (cI .i64))) :: .sl (Yk.map (cL (cI .i64))) :: .any :: .any :: .any :: .i .i64 Y7 :: .sl (Y5.map (cL (cI .i64))) :: .i .i64 (Y5.length : Int) :: .sl (Yk.map (cL (cI .i64))) :: .i .i64 (Yk.length : Int) :: .b ((Y5.length : Int) != (Yk.length : Int)) :: an 16 [], []⟩
theorem Z9d (Y5 : (List (List Int))) (Yk : (List (List Int))) (hp0 : Y5.length ≤ 1073741824) (hp1 : ∀ t ∈ Y5, t.length ≤ 1073741824) (hp2 : Yk.length ≤ 1073741824) (hp3 : ∀ t ∈ Yk, t.length ≤ 1073741824) (ZgE : ((Y5.length : Int) != (Yk.length : Int)) = false) : ∀ (k : Nat) (Y7 : Int) (Z7U : 0 ≤ Y7) (hk : ((Y5.length : Int) - Y7).toNat < k), Lp prog 0 (sub (bodyOf f117) [1, 1, 0, 1, 0, 0]) (ZcC Y5 Yk Y7) (Z5l Y5 Yk (Z26 Y5 Yk k Y7)).1 (Z5l Y5 Yk (Z26 Y5 Yk k Y7)).2 := by
 intro k
 induction k with
 | zero => intro Y7 Z7U hk; exact absurd hk (Nat.not_lt_zero _)
 | succ k ih =>
  intro Y7 Z7U hk
  have p {a C} (s : Scr a C) := sZ (cL (cI .i64)) Y5 <| s
  cases Yg : (decide (Y7 < (Y5.length : Int))) with
  | true =>
   have Yt := of_decide_eq_true Yg
   have YA : (0 : Int) ≤ Y7 := by clear p; exact (by assumption)
   have YE : Y7 < (Y5.length : Int) := by clear p; exact (by assumption)
   have YG : Y7 < (Yk.length : Int) := by clear p; exact (by simp_all <;> omega)
   have YH : (Y5.getD Y7.toNat default).length ≤ 1073741824 := by clear p; exact (by simp_all <;> omega)
   have YL : (Yk.getD Y7.toNat default).length ≤ 1073741824 := by clear p; exact (by simp_all <;> omega)
   have q {a C} (s : Scr a C) := p (sB Yg <| sK [8, 8] <| sG (cL (cI .i64)) Y5 Y7 YA YE <| sG (cL (cI .i64)) Yk Y7 YA YG <| sF (Zb1 (Y5.getD Y7.toNat default) (Yk.getD Y7.toNat default) YH YL) <| s)
   clear p
   cases Yq : (Z2U (Y5.getD Y7.toNat default) (Yk.getD Y7.toNat default)) with
   | true =>
    have YQ : (-9223372036854775808 : Int) ≤ (Y7 + 1) := by clear q; exact (by omega)
    have YW : (Y7 + 1) ≤ (9223372036854775807 : Int) := by clear q; exact (by omega)
    have e : Z26 Y5 Yk (k + 1) Y7 = (Z26 Y5 Yk k (Y7 + 1)) := by simp only [Z26, Yg, Yq, cond_true]
    rw [e]
    exact nextR E0Ok Z4 [] (mR false [0, 2, 3, 6, 16]) [] (ih (Y7 + 1) (show 0 ≤ (Y7 + 1) from (by omega)) (by omega)) (q (sB' Yq <| sI (Y7 + 1) YQ YW <| sN)) (by kernel_rfl)
   | false =>
    have e : Z26 Y5 Yk (k + 1) Y7 = (.inl ()) := by simp only [Z26, Yg, Yq, cond_true, cond_false]
    rw [e]
    exact outR (e := .ret) E0Ok Z4 [] (mR false [4, 1, 22]) [] (q (sB' Yq <| sN)) (by kernel_rfl) (by intro h; cases h)
  | false =>
   have Yt := of_decide_eq_false Yg
   have e : Z26 Y5 Yk (k + 1) Y7 = (.inr ()) := by simp only [Z26, Yg, cond_false]
   rw [e]
   exact outR (e := (.exit 0)) E0Ok Z4 [] (mR false [0, 2, 4, 5, 16]) [] (p (sB Yg <| sN)) (by kernel_rfl) (by intro h; cases h)
def Z4g (Y5 : (List (List Int))) (Yk : (List (List Int))) : (Unit) ⊕ (Unit) := (Z26 Y5 Yk (((Y5.length : Int) - 0).toNat + 1) 0)
def Z3O (Y5 : (List (List Int))) (Yk : (List (List Int))) : Bool := (cond ((Y5.length : Int) != (Yk.length : Int))
  false
  (match (Z4g Y5 Yk) with
    | .inl r2 => false
    | .inr r2 => true))
theorem Zeo (Y5 : (List (List Int))) (Yk : (List (List Int))) (hp0 : Y5.length ≤ 1073741824) (hp1 : ∀ t ∈ Y5, t.length ≤ 1073741824) (hp2 : Yk.length ≤ 1073741824) (hp3 : ∀ t ∈ Yk, t.length ≤ 1073741824)  : Fn prog 117 [.sl (Y5.map (cL (cI .i64))), .sl (Yk.map (cL (cI .i64)))] (.b (Z3O Y5 Yk)) [] := by
 have p {a C} (s : Scr a C) := sZ (cL (cI .i64)) Y5 <| sZ (cL (cI .i64)) Yk <| s
 cases h0 : ((Y5.length : Int) != (Yk.length : Int)) with
 | true =>
  have gh0 := bne_iff_ne.1 h0
  refine fnS E0Ok Z4 (c := bodyOf f117) [] (.b false) [] func117 (p (sB h0 <| sK [] sN)) rfl (by kernel_rfl) (by kernel_rfl) rfl ?_ ?_
  · simp only [Z3O, h0, cond_true]
  · rfl
 | false =>
  have gh0 := bne_eq_false_iff_eq.1 h0
  have q {a C} (s : Scr a C) := p (sB h0 <| s)
  clear p
  cases h1 : (Z4g Y5 Yk) with
  | inl r2 =>
   refine fnS E0Ok Z4 (c := bodyOf f117) [] (.b false) [] func117 (q (sL (mR false [0, 2, 3, 6, 16]) 0 (lp_val (Z5l Y5 Yk) (x := (Z4g Y5 Yk)) (Z9d Y5 Yk hp0 hp1 hp2 hp3 h0 (((Y5.length : Int) - 0).toNat + 1) 0 (show 0 ≤ 0 from (by omega)) (Nat.lt_succ_self _)) h1) <| sK [] sN)) rfl (by kernel_rfl) (by kernel_rfl) rfl ?_ ?_
   · simp only [Z3O, h0, h1, cond_false]
   · rfl
  | inr r2 =>
   refine fnS E0Ok Z4 (c := bodyOf f117) [] (.b true) [] func117 (q (sL (mR false [0, 2, 3, 6, 16]) 0 (lp_val (Z5l Y5 Yk) (x := (Z4g Y5 Yk)) (Z9d Y5 Yk hp0 hp1 hp2 hp3 h0 (((Y5.length : Int) - 0).toNat + 1) 0 (show 0 ≤ 0 from (by omega)) (Nat.lt_succ_self _)) h1) <| sK [] sN)) rfl (by kernel_rfl) (by kernel_rfl) rfl ?_ ?_
   · simp only [Z3O, h0, h1, cond_false]
   · rfl
theorem Zfd (a : List (List Int)) : Z3O a a = true := by
  unfold Z3O Z4g
  rw [all_from (a := a) (p := fun v => Z2U v v) (lo := Z26 a a) (x := ()) (y := ()) (fun k i => rfl)]
  rw [show (a.all fun v => Z2U v v) = true from by rw [List.all_eq_true]; intro v _; exact Zca v]
  simp
def Z4t (Y5 : GMesh) (Yk : GMesh) : Bool := (cond (Z3N Y5.Places Yk.Places)
  (cond (Z3O Y5.Triangles Yk.Triangles)
    true
    false)
  false)
theorem ZfT (Y5 : GMesh) (Yk : GMesh) (hp0 : Y5.Places.length ≤ 1073741824) (hp1 : Y5.Triangles.length ≤ 1073741824) (hp2 : ∀ t ∈ Y5.Triangles, t.length ≤ 1073741824) (hp3 : Yk.Places.length ≤ 1073741824) (hp4 : Yk.Triangles.length ≤ 1073741824) (hp5 : ∀ t ∈ Yk.Triangles, t.length ≤ 1073741824)  : Fn prog 59 [.agg [.sl (Y5.Places.map GVector.cells), .sl (Y5.Triangles.map (cL (cI .i64)))], .agg [.sl (Yk.Places.map GVector.cells), .sl (Yk.Triangles.map (cL (cI .i64)))]] (.b (Z4t Y5 Yk)) [] := by
 have p {a C} (s : Scr a C) := sF (Zen Y5.Places Yk.Places hp0 hp3) <| s
 cases h0 : (Z3N Y5.Places Yk.Places) with
 | true =>
  have q {a C} (s : Scr a C) := p (sB' h0 <| sF (Zeo Y5.Triangles Yk.Triangles hp1 hp2 hp4 hp5) <| s)
  clear p
  cases h1 : (Z3O Y5.Triangles Yk.Triangles) with
  | true =>
   refine fnS E0Ok Z4 (c := bodyOf f59) [] (.b true) [] func59 (q (sB' h1 <| sK [] sN)) rfl (by kernel_rfl) (by kernel_rfl) rfl ?_ ?_
   · simp only [Z4t, h0, h1, cond_true]
   · rfl
  | false =>
   refine fnS E0Ok Z4 (c := bodyOf f59) [] (.b false) [] func59 (q (sB' h1 <| sK [] sN)) rfl (by kernel_rfl) (by kernel_rfl) rfl ?_ ?_
   · simp only [Z4t, h0, h1, cond_true, cond_false]
   · rfl
 | false =>
  refine fnS E0Ok Z4 (c := bodyOf f59) [] (.b false) [] func59 (p (sB' h0 <| sK [] sN)) rfl (by kernel_rfl) (by kernel_rfl) rfl ?_ ?_
  · simp only [Z4t, h0, cond_false]
  · rfl
theorem Zgm (a : GMesh) : Z4t a a = true := by
  simp [Z4t, Zfc, Zfd]
def Z2V (Y5 : GSpring) (Yk : GSpring) : Bool := (cond (Y5.A != Yk.A)
  false
  (cond (Y5.B != Yk.B)
    false
    (cond (ZB (fcv .f32 .f64 Y5.Long) (fcv .f32 .f64 Yk.Long))
      (cond (ZB (fcv .f32 .f64 Y5.Stiff) (fcv .f32 .f64 Yk.Stiff))
        true
        false)
      false)))
theorem ZeT (Y5 : GSpring) (Yk : GSpring)   : Fn prog 118 [.agg [.i .i64 Y5.A, .i .i64 Y5.B, .f .f32 Y5.Long, .f .f32 Y5.Stiff], .agg [.i .i64 Yk.A, .i .i64 Yk.B, .f .f32 Yk.Long, .f .f32 Yk.Stiff]] (.b (Z2V Y5 Yk)) [] := by
 cases h0 : (Y5.A != Yk.A) with
 | true =>
  have gh0 := bne_iff_ne.1 h0
  refine fnS E0Ok Z4 (c := bodyOf f118) [] (.b false) [] func118 (sB h0 <| sK [] sN) rfl (by kernel_rfl) (by kernel_rfl) rfl ?_ ?_
  · simp only [Z2V, h0, cond_true]
  · rfl
 | false =>
  have gh0 := bne_eq_false_iff_eq.1 h0
  have p {a C} (s : Scr a C) := sB h0 <| s
  cases h1 : (Y5.B != Yk.B) with
  | true =>
   have gh1 := bne_iff_ne.1 h1
   refine fnS E0Ok Z4 (c := bodyOf f118) [] (.b false) [] func118 (p (sB h1 <| sK [] sN)) rfl (by kernel_rfl) (by kernel_rfl) rfl ?_ ?_
   · simp only [Z2V, h0, h1, cond_true, cond_false]
   · rfl
  | false =>
   have gh1 := bne_eq_false_iff_eq.1 h1
   have q {a C} (s : Scr a C) := p (sB h1 <| sC (widenOk Y5.Long) <| sC (widenOk Yk.Long) <| sF (Z3M (fcv .f32 .f64 Y5.Long) (fcv .f32 .f64 Yk.Long)) <| s)
   clear p
   cases h2 : (ZB (fcv .f32 .f64 Y5.Long) (fcv .f32 .f64 Yk.Long)) with
   | true =>
    have p {a C} (s : Scr a C) := q (sB' h2 <| sC (widenOk Y5.Stiff) <| sC (widenOk Yk.Stiff) <| sF (Z3M (fcv .f32 .f64 Y5.Stiff) (fcv .f32 .f64 Yk.Stiff)) <| s)
    clear q
    cases h3 : (ZB (fcv .f32 .f64 Y5.Stiff) (fcv .f32 .f64 Yk.Stiff)) with
    | true =>
     refine fnS E0Ok Z4 (c := bodyOf f118) [] (.b true) [] func118 (p (sB' h3 <| sK [] sN)) rfl (by kernel_rfl) (by kernel_rfl) rfl ?_ ?_
     · simp only [Z2V, h0, h1, h2, h3, cond_true, cond_false]
     · rfl
    | false =>
     refine fnS E0Ok Z4 (c := bodyOf f118) [] (.b false) [] func118 (p (sB' h3 <| sK [] sN)) rfl (by kernel_rfl) (by kernel_rfl) rfl ?_ ?_
     · simp only [Z2V, h0, h1, h2, h3, cond_true, cond_false]
     · rfl
   | false =>
    refine fnS E0Ok Z4 (c := bodyOf f118) [] (.b false) [] func118 (q (sB' h2 <| sK [] sN)) rfl (by kernel_rfl) (by kernel_rfl) rfl ?_ ?_
    · simp only [Z2V, h0, h1, h2, cond_false]
    · rfl
theorem ZfU (a : GSpring) : Z2V a a = true := by
  simp [Z2V, Z9C]
def Z27 (Y5 : (List GSpring)) (Yk : (List GSpring)) : Nat → Int → (Unit) ⊕ (Unit)
  | 0, _ => .inl default
  | k + 1, Y7 => (cond (decide (Y7 < (Y5.length : Int)))
    (cond (Z2V (Y5.getD Y7.toNat default) (Yk.getD Y7.toNat default))
      (Z27 Y5 Yk k (Y7 + 1))
      (.inl ()))
    (.inr ()))
def Z5m (Y5 : (List GSpring)) (Yk : (List GSpring)) : (Unit) ⊕ (Unit) → Ex × St
  | .inl r => (.ret, ⟨an 4 (.b false :: an 22 []), []⟩)
  | .inr r => ((.exit 0), ⟨.sl (Y5.map GSpring.cells) :: .sl (Yk.map GSpring.cells) :: an 4 (.sl (Y5.map GSpring.cells) :: .i .i64 (Y5.length : Int) :: .sl (Yk.map GSpring.cells) :: .i .i64 (Yk.length : Int) :: .b ((Y5.length : Int) != (Yk.length : Int)) :: an 16 []), []⟩)
def ZcD (Y5 : (List GSpring)) (Yk : (List GSpring)) (Y7 : Int) : St := ⟨.sl (Y5.map GSpring.cells) :: .sl (Yk.map GSpring.cells) :: .any :: .any :: .any :: .i .i64 Y7 :: .sl (Y5.map GSpring.cells) :: .i .i64 (Y5.length : Int) :: .sl (Yk.map GSpring.cells) :: .i .i64 (Yk.length : Int) :: .b ((Y5.length : Int) != (Yk.length : Int)) :: an 16 [], []⟩
theorem Z9e (Y5 : (List GSpring)) (Yk : (List GSpring)) (hp0 : Y5.length ≤ 1073741824) (hp1 : Yk.length ≤ 1073741824) (ZgF : ((Y5.length : Int) != (Yk.length : Int)) = false) : ∀ (k : Nat) (Y7 : Int) (Z7V : 0 ≤ Y7) (hk : ((Y5.length : Int) - Y7).toNat < k), Lp prog 0 (sub (bodyOf f60) [1, 1, 0, 1, 0, 0]) (ZcD Y5 Yk Y7) (Z5m Y5 Yk (Z27 Y5 Yk k Y7)).1 (Z5m Y5 Yk (Z27 Y5 Yk k Y7)).2 := by
 intro k
 induction k with
 | zero => intro Y7 Z7V hk; exact absurd hk (Nat.not_lt_zero _)
 | succ k ih =>
  intro Y7 Z7V hk
  have p {a C} (s : Scr a C) := sZ GSpring.cells Y5 <| s
  cases Yg : (decide (Y7 < (Y5.length : Int))) with
  | true =>
   have Yt := of_decide_eq_true Yg
   have YA : (0 : Int) ≤ Y7 := by clear p; exact (by assumption)
   have YE : Y7 < (Y5.length : Int) := by clear p; exact (by assumption)
   have YG : Y7 < (Yk.length : Int) := by clear p; exact (by simp_all <;> omega)
   have q {a C} (s : Scr a C) := p (sB Yg <| sK [8, 8] <| sG GSpring.cells Y5 Y7 YA YE <| sG GSpring.cells Yk Y7 YA YG <| sF (ZeT (Y5.getD Y7.toNat default) (Yk.getD Y7.toNat default)) <| s)
   clear p
   cases Yq : (Z2V (Y5.getD Y7.toNat default) (Yk.getD Y7.toNat default)) with
   | true =>
    have YH : (-9223372036854775808 : Int) ≤ (Y7 + 1) := by clear q; exact (by omega)
    have YL : (Y7 + 1) ≤ (9223372036854775807 : Int) := by clear q; exact (by omega)
    have e : Z27 Y5 Yk (k + 1) Y7 = (Z27 Y5 Yk k (Y7 + 1)) := by simp only [Z27, Yg, Yq, cond_true]
    rw [e]
    exact nextR E0Ok Z4 [] (mR false [0, 2, 3, 6, 16]) [] (ih (Y7 + 1) (show 0 ≤ (Y7 + 1) from (by omega)) (by omega)) (q (sB' Yq <| sI (Y7 + 1) YH YL <| sN)) (by kernel_rfl)
   | false =>
    have e : Z27 Y5 Yk (k + 1) Y7 = (.inl ()) := by simp only [Z27, Yg, Yq, cond_true, cond_false]
    rw [e]
    exact outR (e := .ret) E0Ok Z4 [] (mR false [4, 1, 22]) [] (q (sB' Yq <| sN)) (by kernel_rfl) (by intro h; cases h)
  | false =>
   have Yt := of_decide_eq_false Yg
   have e : Z27 Y5 Yk (k + 1) Y7 = (.inr ()) := by simp only [Z27, Yg, cond_false]
   rw [e]
   exact outR (e := (.exit 0)) E0Ok Z4 [] (mR false [0, 2, 4, 5, 16]) [] (p (sB Yg <| sN)) (by kernel_rfl) (by intro h; cases h)
def Z4h (Y5 : (List GSpring)) (Yk : (List GSpring)) : (Unit) ⊕ (Unit) := (Z27 Y5 Yk (((Y5.length : Int) - 0).toNat + 1) 0)
def Z3P (Y5 : (List GSpring)) (Yk : (List GSpring)) : Bool := (cond ((Y5.length : Int) != (Yk.length : Int))
  false
  (match (Z4h Y5 Yk) with
    | .inl r2 => false
    | .inr r2 => true))
theorem Zep (Y5 : (List GSpring)) (Yk : (List GSpring)) (hp0 : Y5.length ≤ 1073741824) (hp1 : Yk.length ≤ 1073741824)  : Fn prog 60 [.sl (Y5.map GSpring.cells), .sl (Yk.map GSpring.cells)] (.b (Z3P Y5 Yk)) [] := by
 have p {a C} (s : Scr a C) := sZ GSpring.cells Y5 <| sZ GSpring.cells Yk <| s
 cases h0 : ((Y5.length : Int) != (Yk.length : Int)) with
 | true =>
  have gh0 := bne_iff_ne.1 h0
  refine fnS E0Ok Z4 (c := bodyOf f60) [] (.b false) [] func60 (p (sB h0 <| sK [] sN)) rfl (by kernel_rfl) (by kernel_rfl) rfl ?_ ?_
  · simp only [Z3P, h0, cond_true]
  · rfl
 | false =>
  have gh0 := bne_eq_false_iff_eq.1 h0
  have q {a C} (s : Scr a C) := p (sB h0 <| s)
  clear p
  cases h1 : (Z4h Y5 Yk) with
  | inl r2 =>
   refine fnS E0Ok Z4 (c := bodyOf f60) [] (.b false) [] func60 (q (sL (mR false [0, 2, 3, 6, 16]) 0 (lp_val (Z5m Y5 Yk) (x := (Z4h Y5 Yk)) (Z9e Y5 Yk hp0 hp1 h0 (((Y5.length : Int) - 0).toNat + 1) 0 (show 0 ≤ 0 from (by omega)) (Nat.lt_succ_self _)) h1) <| sK [] sN)) rfl (by kernel_rfl) (by kernel_rfl) rfl ?_ ?_
   · simp only [Z3P, h0, h1, cond_false]
   · rfl
  | inr r2 =>
   refine fnS E0Ok Z4 (c := bodyOf f60) [] (.b true) [] func60 (q (sL (mR false [0, 2, 3, 6, 16]) 0 (lp_val (Z5m Y5 Yk) (x := (Z4h Y5 Yk)) (Z9e Y5 Yk hp0 hp1 h0 (((Y5.length : Int) - 0).toNat + 1) 0 (show 0 ≤ 0 from (by omega)) (Nat.lt_succ_self _)) h1) <| sK [] sN)) rfl (by kernel_rfl) (by kernel_rfl) rfl ?_ ?_
   · simp only [Z3P, h0, h1, cond_false]
   · rfl
theorem Zfe (a : List GSpring) : Z3P a a = true := by
  unfold Z3P Z4h
  rw [all_from (a := a) (p := fun v => Z2V v v) (lo := Z27 a a) (x := ()) (y := ()) (fun k i => rfl)]
  rw [show (a.all fun v => Z2V v v) = true from by rw [List.all_eq_true]; intro v _; exact ZfU v]
  simp
def Z1R (Y5 : (List Nat)) (Yk : (List Nat)) : Nat → Int → (Unit) ⊕ (Unit)
  | 0, _ => .inl default
  | k + 1, Y7 => (cond (decide (Y7 < (Y5.length : Int)))
    (cond (ZB (fcv .f32 .f64 (Y5.getD Y7.toNat default)) (fcv .f32 .f64 (Yk.getD Y7.toNat default)))
      (Z1R Y5 Yk k (Y7 + 1))
      (.inl ()))
    (.inr ()))
def Z52 (Y5 : (List Nat)) (Yk : (List Nat)) : (Unit) ⊕ (Unit) → Ex × St
  | .inl r => (.ret, ⟨an 4 (.b false :: an 24 []), []⟩)
  | .inr r => ((.exit 0), ⟨.sl (Y5.map (cF .f32)) :: .sl (Yk.map (cF .f32)) :: an 4 (.sl (Y5.map (cF .f32)) :: .i .i64 (Y5.length : Int) :: .sl (Yk.map (cF .f32)) :: .i .i64 (Yk.length : Int) :: .b ((Y5.length : Int) != (Yk.length : Int)) :: an 18 []), []⟩)
def Zc3 (Y5 : (List Nat)) (Yk : (List Nat)) (Y7 : Int) : St := ⟨.sl (Y5.map (cF .f32)) :: .sl (Yk.map (cF .f32)) :: .any :: .any :: .any :: .i .i64 Y7 :: .sl (Y5.map (cF .f32)) :: .i .i64 (Y5.length : Int) :: .sl (Yk.map (cF .f32)) :: .i .i64 (Yk.length : Int) :: .b ((Y5.length : Int) != (Yk.length : Int)) :: an 18 [], []⟩
theorem Z8J (Y5 : (List Nat)) (Yk : (List Nat)) (hp0 : Y5.length ≤ 1073741824) (hp1 : Yk.length ≤ 1073741824) (Zgn : ((Y5.length : Int) != (Yk.length : Int)) = false) : ∀ (k : Nat) (Y7 : Int) (Z7j : 0 ≤ Y7) (hk : ((Y5.length : Int) - Y7).toNat < k), Lp prog 0 (sub (bodyOf f40) [1, 1, 0, 1, 0, 0]) (Zc3 Y5 Yk Y7) (Z52 Y5 Yk (Z1R Y5 Yk k Y7)).1 (Z52 Y5 Yk (Z1R Y5 Yk k Y7)).2 := by
 intro k
 induction k with
 | zero => intro Y7 Z7j hk; exact absurd hk (Nat.not_lt_zero _)
 | succ k ih =>
  intro Y7 Z7j hk
  have p {a C} (s : Scr a C) := sZ (cF .f32) Y5 <| s
  cases Yg : (decide (Y7 < (Y5.length : Int))) with
  | true =>
   have Yt := of_decide_eq_true Yg
   have YA : (0 : Int) ≤ Y7 := by clear p; exact (by assumption)
   have YE : Y7 < (Y5.length : Int) := by clear p; exact (by assumption)
   have YG : Y7 < (Yk.length : Int) := by clear p; exact (by simp_all <;> omega)
   have q {a C} (s : Scr a C) := p (sB Yg <| sK [10, 10] <| sG (cF .f32) Y5 Y7 YA YE <| sC (widenOk (Y5.getD Y7.toNat default)) <| sG (cF .f32) Yk Y7 YA YG <| sC (widenOk (Yk.getD Y7.toNat default)) <| sF (Z3M (fcv .f32 .f64 (Y5.getD Y7.toNat default)) (fcv .f32 .f64 (Yk.getD Y7.toNat default))) <| s)
   clear p
   cases Yq : (ZB (fcv .f32 .f64 (Y5.getD Y7.toNat default)) (fcv .f32 .f64 (Yk.getD Y7.toNat default))) with
   | true =>
    have YH : (-9223372036854775808 : Int) ≤ (Y7 + 1) := by clear q; exact (by omega)
    have YL : (Y7 + 1) ≤ (9223372036854775807 : Int) := by clear q; exact (by omega)
    have e : Z1R Y5 Yk (k + 1) Y7 = (Z1R Y5 Yk k (Y7 + 1)) := by simp only [Z1R, Yg, Yq, cond_true]
    rw [e]
    exact nextR E0Ok Z4 [] (mR false [0, 2, 3, 6, 18]) [] (ih (Y7 + 1) (show 0 ≤ (Y7 + 1) from (by omega)) (by omega)) (q (sB' Yq <| sI (Y7 + 1) YH YL <| sN)) (by kernel_rfl)
   | false =>
    have e : Z1R Y5 Yk (k + 1) Y7 = (.inl ()) := by simp only [Z1R, Yg, Yq, cond_true, cond_false]
    rw [e]
    exact outR (e := .ret) E0Ok Z4 [] (mR false [4, 1, 24]) [] (q (sB' Yq <| sN)) (by kernel_rfl) (by intro h; cases h)
  | false =>
   have Yt := of_decide_eq_false Yg
   have e : Z1R Y5 Yk (k + 1) Y7 = (.inr ()) := by simp only [Z1R, Yg, cond_false]
   rw [e]
   exact outR (e := (.exit 0)) E0Ok Z4 [] (mR false [0, 2, 4, 5, 18]) [] (p (sB Yg <| sN)) (by kernel_rfl) (by intro h; cases h)
def Z42 (Y5 : (List Nat)) (Yk : (List Nat)) : (Unit) ⊕ (Unit) := (Z1R Y5 Yk (((Y5.length : Int) - 0).toNat + 1) 0)
def Z3G (Y5 : (List Nat)) (Yk : (List Nat)) : Bool := (cond ((Y5.length : Int) != (Yk.length : Int))
  false
  (match (Z42 Y5 Yk) with
    | .inl r2 => false
    | .inr r2 => true))
theorem ZdP (Y5 : (List Nat)) (Yk : (List Nat)) (hp0 : Y5.length ≤ 1073741824) (hp1 : Yk.length ≤ 1073741824)  : Fn prog 40 [.sl (Y5.map (cF .f32)), .sl (Yk.map (cF .f32))] (.b (Z3G Y5 Yk)) [] := by
 have p {a C} (s : Scr a C) := sZ (cF .f32) Y5 <| sZ (cF .f32) Yk <| s
 cases h0 : ((Y5.length : Int) != (Yk.length : Int)) with
 | true =>
  have gh0 := bne_iff_ne.1 h0
  refine fnS E0Ok Z4 (c := bodyOf f40) [] (.b false) [] func40 (p (sB h0 <| sK [] sN)) rfl (by kernel_rfl) (by kernel_rfl) rfl ?_ ?_
  · simp only [Z3G, h0, cond_true]
  · rfl
 | false =>
  have gh0 := bne_eq_false_iff_eq.1 h0
  have q {a C} (s : Scr a C) := p (sB h0 <| s)
  clear p
  cases h1 : (Z42 Y5 Yk) with
  | inl r2 =>
   refine fnS E0Ok Z4 (c := bodyOf f40) [] (.b false) [] func40 (q (sL (mR false [0, 2, 3, 6, 18]) 0 (lp_val (Z52 Y5 Yk) (x := (Z42 Y5 Yk)) (Z8J Y5 Yk hp0 hp1 h0 (((Y5.length : Int) - 0).toNat + 1) 0 (show 0 ≤ 0 from (by omega)) (Nat.lt_succ_self _)) h1) <| sK [] sN)) rfl (by kernel_rfl) (by kernel_rfl) rfl ?_ ?_
   · simp only [Z3G, h0, h1, cond_false]
   · rfl
  | inr r2 =>
   refine fnS E0Ok Z4 (c := bodyOf f40) [] (.b true) [] func40 (q (sL (mR false [0, 2, 3, 6, 18]) 0 (lp_val (Z52 Y5 Yk) (x := (Z42 Y5 Yk)) (Z8J Y5 Yk hp0 hp1 h0 (((Y5.length : Int) - 0).toNat + 1) 0 (show 0 ≤ 0 from (by omega)) (Nat.lt_succ_self _)) h1) <| sK [] sN)) rfl (by kernel_rfl) (by kernel_rfl) rfl ?_ ?_
   · simp only [Z3G, h0, h1, cond_false]
   · rfl
theorem ZeU (a : List Nat) : Z3G a a = true := by
  unfold Z3G Z42
  rw [all_from (a := a) (p := fun v => ZB (fcv .f32 .f64 v) (fcv .f32 .f64 v)) (lo := Z1R a a) (x := ()) (y := ()) (fun k i => rfl)]
  rw [show (a.all fun v => ZB (fcv .f32 .f64 v) (fcv .f32 .f64 v)) = true from by rw [List.all_eq_true]; intro v _; exact Z9C _]
  simp
def Z2W (Y5 : GBody) (Yk : GBody) : Bool := (cond (Z4t Y5.Mesh Yk.Mesh)
  (cond (Z3P Y5.Springs Yk.Springs)
    (cond (ZB (fcv .f32 .f64 Y5.Film) (fcv .f32 .f64 Yk.Film))
      (cond (ZB (fcv .f32 .f64 Y5.Bend) (fcv .f32 .f64 Yk.Bend))
        (cond (Z3G Y5.Weights Yk.Weights)
          (cond (Z2T Y5.Fall Yk.Fall)
            true
            false)
          false)
        false)
      false)
    false)
  false)
theorem Z7q (Y5 : GBody) (Yk : GBody) (hp0 : Y5.Mesh.Places.length ≤ 1073741824) (hp1 : Y5.Mesh.Triangles.length ≤ 1073741824) (hp2 : ∀ t ∈ Y5.Mesh.Triangles, t.length ≤ 1073741824) (hp3 : Y5.Springs.length ≤ 1073741824) (hp4 : Y5.Weights.length ≤ 1073741824) (hp5 : Yk.Mesh.Places.length ≤ 1073741824) (hp6 : Yk.Mesh.Triangles.length ≤ 1073741824) (hp7 : ∀ t ∈ Yk.Mesh.Triangles, t.length ≤ 1073741824) (hp8 : Yk.Springs.length ≤ 1073741824) (hp9 : Yk.Weights.length ≤ 1073741824)  : Fn prog 16 [.agg [.sl (Y5.Mesh.Places.map GVector.cells), .sl (Y5.Mesh.Triangles.map (cL (cI .i64))), .sl (Y5.Springs.map GSpring.cells), .f .f32 Y5.Film, .f .f32 Y5.Bend, .sl (Y5.Weights.map (cF .f32)), .f .f32 Y5.Fall.X, .f .f32 Y5.Fall.Y, .f .f32 Y5.Fall.Z], .agg [.sl (Yk.Mesh.Places.map GVector.cells), .sl (Yk.Mesh.Triangles.map (cL (cI .i64))), .sl (Yk.Springs.map GSpring.cells), .f .f32 Yk.Film, .f .f32 Yk.Bend, .sl (Yk.Weights.map (cF .f32)), .f .f32 Yk.Fall.X, .f .f32 Yk.Fall.Y, .f .f32 Yk.Fall.Z]] (.b (Z2W Y5 Yk)) [] := by
 have p {a C} (s : Scr a C) := sF (ZfT Y5.Mesh Yk.Mesh hp0 hp1 hp2 hp5 hp6 hp7) <| s
 cases h0 : (Z4t Y5.Mesh Yk.Mesh) with
 | true =>
  have q {a C} (s : Scr a C) := p (sB' h0 <| sF (Zep Y5.Springs Yk.Springs hp3 hp8) <| s)
  clear p
  cases h1 : (Z3P Y5.Springs Yk.Springs) with
  | true =>
   have p {a C} (s : Scr a C) := q (sB' h1 <| sC (widenOk Y5.Film) <| sC (widenOk Yk.Film) <| sF (Z3M (fcv .f32 .f64 Y5.Film) (fcv .f32 .f64 Yk.Film)) <| s)
   clear q
   cases h2 : (ZB (fcv .f32 .f64 Y5.Film) (fcv .f32 .f64 Yk.Film)) with
   | true =>
    have q {a C} (s : Scr a C) := p (sB' h2 <| sC (widenOk Y5.Bend) <| sC (widenOk Yk.Bend) <| sF (Z3M (fcv .f32 .f64 Y5.Bend) (fcv .f32 .f64 Yk.Bend)) <| s)
    clear p
    cases h3 : (ZB (fcv .f32 .f64 Y5.Bend) (fcv .f32 .f64 Yk.Bend)) with
    | true =>
     have p {a C} (s : Scr a C) := q (sB' h3 <| sF (ZdP Y5.Weights Yk.Weights hp4 hp9) <| s)
     clear q
     cases h4 : (Z3G Y5.Weights Yk.Weights) with
     | true =>
      have q {a C} (s : Scr a C) := p (sB' h4 <| sF (Zb0 Y5.Fall Yk.Fall) <| s)
      clear p
      cases h5 : (Z2T Y5.Fall Yk.Fall) with
      | true =>
       refine fnS E0Ok Z4 (c := bodyOf f16) [] (.b true) [] func16 (q (sB' h5 <| sK [] sN)) rfl (by kernel_rfl) (by kernel_rfl) rfl ?_ ?_
       · simp only [Z2W, h0, h1, h2, h3, h4, h5, cond_true]
       · rfl
      | false =>
       refine fnS E0Ok Z4 (c := bodyOf f16) [] (.b false) [] func16 (q (sB' h5 <| sK [] sN)) rfl (by kernel_rfl) (by kernel_rfl) rfl ?_ ?_
       · simp only [Z2W, h0, h1, h2, h3, h4, h5, cond_true, cond_false]
       · rfl
     | false =>
      refine fnS E0Ok Z4 (c := bodyOf f16) [] (.b false) [] func16 (p (sB' h4 <| sK [] sN)) rfl (by kernel_rfl) (by kernel_rfl) rfl ?_ ?_
      · simp only [Z2W, h0, h1, h2, h3, h4, cond_true, cond_false]
      · rfl
    | false =>
     refine fnS E0Ok Z4 (c := bodyOf f16) [] (.b false) [] func16 (q (sB' h3 <| sK [] sN)) rfl (by kernel_rfl) (by kernel_rfl) rfl ?_ ?_
     · simp only [Z2W, h0, h1, h2, h3, cond_true, cond_false]
     · rfl
   | false =>
    refine fnS E0Ok Z4 (c := bodyOf f16) [] (.b false) [] func16 (p (sB' h2 <| sK [] sN)) rfl (by kernel_rfl) (by kernel_rfl) rfl ?_ ?_
    · simp only [Z2W, h0, h1, h2, cond_true, cond_false]
    · rfl
  | false =>
   refine fnS E0Ok Z4 (c := bodyOf f16) [] (.b false) [] func16 (q (sB' h1 <| sK [] sN)) rfl (by kernel_rfl) (by kernel_rfl) rfl ?_ ?_
   · simp only [Z2W, h0, h1, cond_true, cond_false]
   · rfl
 | false =>
  refine fnS E0Ok Z4 (c := bodyOf f16) [] (.b false) [] func16 (p (sB' h0 <| sK [] sN)) rfl (by kernel_rfl) (by kernel_rfl) rfl ?_ ?_
  · simp only [Z2W, h0, cond_false]
  · rfl
theorem Zgo (a : GBody) : Z2W a a = true := by
  simp [Z2W, Z9C, Zc9, Zgm, Zfe, ZeU]
def ZC (Y5 : (List GVector)) (Yl : Int) : Nat → Int → Int → (List GVector) → Int × (List GVector)
  | 0, _, _, _ => default
  | k + 1, Yb, Y9, Yc => (cond (decide (Y9 < (Yc.length : Int)))
    (ZC Y5 Yl k (IntKind.wrap .i64 ((IntKind.wrap .i64 ((IntKind.wrap .i64 (Yb + 1)) + 1)) + 1)) (Y9 + 1) (Yc.set Y9.toNat (⟨(ofInt .f32 Yb), (ofInt .f32 (IntKind.wrap .i64 (Yb + 1))), (ofInt .f32 (IntKind.wrap .i64 ((IntKind.wrap .i64 (Yb + 1)) + 1)))⟩ : GVector)))
    (Yb, Yc))
def Z53 (Y5 : (List GVector)) (Yl : Int) (r : Int × (List GVector)) : Ex × St := ((.exit 0), ⟨.any :: .i .i64 r.1 :: .any :: .any :: .i .i64 0 :: an 32 [], [.vec 40 3 (r.2.map GVector.cells) false]⟩)
def Zae (Y5 : (List GVector)) (Yl : Int) (Yb : Int) (Y9 : Int) (Yc : (List GVector)) : St := ⟨.own 0 :: .i .i64 Yb :: .any :: .any :: .i .i64 0 :: .i .i64 Y9 :: an 31 [], [.vec 40 3 (Yc.map GVector.cells) false]⟩
theorem Zaf (Y5 : (List GVector)) (Yl : Int) (hp0 : Y5.length ≤ 1073741824) : ∀ (k : Nat) (Yb : Int) (Y9 : Int) (Yc : (List GVector)) (Z5L : 0 ≤ Y9) (Z5M : Yc.length = Y5.length) (hk : ((Y5.length : Int) - Y9).toNat < k), Lp prog 1 (sub (bodyOf f18) [1, 0, 1, 0, 0]) (Zae Y5 Yl Yb Y9 Yc) (Z53 Y5 Yl (ZC Y5 Yl k Yb Y9 Yc)).1 (Z53 Y5 Yl (ZC Y5 Yl k Yb Y9 Yc)).2 := by
 intro k
 induction k with
 | zero => intro Yb Y9 Yc Z5L Z5M hk; exact absurd hk (Nat.not_lt_zero _)
 | succ k ih =>
  intro Yb Y9 Yc Z5L Z5M hk
  have p {a C} (s : Scr a C) := sZ GVector.cells Yc <| s
  cases Yg : (decide (Y9 < (Yc.length : Int))) with
  | true =>
   have Yt := of_decide_eq_true Yg
   have YA : (0 : Int) ≤ Y9 := by clear p; exact (by assumption)
   have YE : Y9 < (Yc.length : Int) := by clear p; exact (by assumption)
   have YG : Y9.toNat < Yc.length := by clear p; exact (by omega)
   have YH : Y9 < ((Yc.set Y9.toNat (⟨(ofInt .f32 Yb), (Yc.getD Y9.toNat default).Y, (Yc.getD Y9.toNat default).Z⟩ : GVector)).length : Int) := by clear p; exact (by simp_all <;> omega)
   have YL : Y9 < ((Yc.set Y9.toNat (⟨(ofInt .f32 Yb), (ofInt .f32 (IntKind.wrap .i64 (Yb + 1))), (Yc.getD Y9.toNat default).Z⟩ : GVector)).length : Int) := by clear p; exact (by simp_all <;> omega)
   have YQ : (-9223372036854775808 : Int) ≤ (Y9 + 1) := by clear p; exact (by omega)
   have YW : (Y9 + 1) ≤ (9223372036854775807 : Int) := by clear p; exact (by omega)
   have e : ZC Y5 Yl (k + 1) Yb Y9 Yc = (ZC Y5 Yl k (IntKind.wrap .i64 ((IntKind.wrap .i64 ((IntKind.wrap .i64 (Yb + 1)) + 1)) + 1)) (Y9 + 1) (Yc.set Y9.toNat (⟨(ofInt .f32 Yb), (ofInt .f32 (IntKind.wrap .i64 (Yb + 1))), (ofInt .f32 (IntKind.wrap .i64 ((IntKind.wrap .i64 (Yb + 1)) + 1)))⟩ : GVector))) := by simp only [ZC, Yg, cond_true]
   rw [e]
   exact nextS (EpOk 1) Z4 [] (mR false [0, 2, 2, 2, 31]) [] (⟨.own 0 :: .i .i64 (IntKind.wrap .i64 ((IntKind.wrap .i64 ((IntKind.wrap .i64 (Yb + 1)) + 1)) + 1)) :: .any :: .any :: .i .i64 0 :: .i .i64 (Y9 + 1) :: an 31 [], [.vec 40 3 ((((Yc.map GVector.cells).set Y9.toNat [.f .f32 (ofInt .f32 Yb), .f .f32 ((Yc.getD Y9.toNat default).Y), .f .f32 ((Yc.getD Y9.toNat default).Z)]).set Y9.toNat [.f .f32 (ofInt .f32 Yb), .f .f32 (ofInt .f32 (IntKind.wrap .i64 (Yb + 1))), .f .f32 ((Yc.getD Y9.toNat default).Z)]).set Y9.toNat [.f .f32 (ofInt .f32 Yb), .f .f32 (ofInt .f32 (IntKind.wrap .i64 (Yb + 1))), .f .f32 (ofInt .f32 (IntKind.wrap .i64 ((IntKind.wrap .i64 (Yb + 1)) + 1)))]) false]⟩) (p (sB Yg <| sX GVector.cells Yc Y9 YA YE <| sV GVector.cells Yc Y9.toNat YG <| sW .i64 (Yb + 1) <| sC (show 0 ≤ Y9 ∧ Int.toNat Y9 < ((Yc.map GVector.cells).set Y9.toNat [.f .f32 (ofInt .f32 Yb), .f .f32 ((Yc.getD Y9.toNat default).Y), .f .f32 ((Yc.getD Y9.toNat default).Z)]).length from (by simpa using idx_ok (c := GVector.cells) (l := (Yc.set Y9.toNat (⟨(ofInt .f32 Yb), (Yc.getD Y9.toNat default).Y, (Yc.getD Y9.toNat default).Z⟩ : GVector))) (i := Y9) YA YH)) <| sE (show ((Yc.map GVector.cells).set Y9.toNat [.f .f32 (ofInt .f32 Yb), .f .f32 ((Yc.getD Y9.toNat default).Y), .f .f32 ((Yc.getD Y9.toNat default).Z)])[Y9.toNat]? = some [.f .f32 (ofInt .f32 Yb), .f .f32 ((Yc.getD Y9.toNat default).Y), .f .f32 ((Yc.getD Y9.toNat default).Z)] from List.getElem?_set_self (by simpa using YG)) <| sW .i64 ((IntKind.wrap .i64 (Yb + 1)) + 1) <| sC (show 0 ≤ Y9 ∧ Int.toNat Y9 < (((Yc.map GVector.cells).set Y9.toNat [.f .f32 (ofInt .f32 Yb), .f .f32 ((Yc.getD Y9.toNat default).Y), .f .f32 ((Yc.getD Y9.toNat default).Z)]).set Y9.toNat [.f .f32 (ofInt .f32 Yb), .f .f32 (ofInt .f32 (IntKind.wrap .i64 (Yb + 1))), .f .f32 ((Yc.getD Y9.toNat default).Z)]).length from (by simpa using idx_ok (c := GVector.cells) (l := (Yc.set Y9.toNat (⟨(ofInt .f32 Yb), (ofInt .f32 (IntKind.wrap .i64 (Yb + 1))), (Yc.getD Y9.toNat default).Z⟩ : GVector))) (i := Y9) YA YL)) <| sE (show (((Yc.map GVector.cells).set Y9.toNat [.f .f32 (ofInt .f32 Yb), .f .f32 ((Yc.getD Y9.toNat default).Y), .f .f32 ((Yc.getD Y9.toNat default).Z)]).set Y9.toNat [.f .f32 (ofInt .f32 Yb), .f .f32 (ofInt .f32 (IntKind.wrap .i64 (Yb + 1))), .f .f32 ((Yc.getD Y9.toNat default).Z)])[Y9.toNat]? = some [.f .f32 (ofInt .f32 Yb), .f .f32 (ofInt .f32 (IntKind.wrap .i64 (Yb + 1))), .f .f32 ((Yc.getD Y9.toNat default).Z)] from List.getElem?_set_self (by simpa using YG)) <| sW .i64 ((IntKind.wrap .i64 ((IntKind.wrap .i64 (Yb + 1)) + 1)) + 1) <| sI (Y9 + 1) YQ YW <| sN)) (by kernel_rfl) (show _ = ⟨.own 0 :: .i .i64 (IntKind.wrap .i64 ((IntKind.wrap .i64 ((IntKind.wrap .i64 (Yb + 1)) + 1)) + 1)) :: .any :: .any :: .i .i64 0 :: .i .i64 (Y9 + 1) :: an 31 [], [.vec 40 3 ((Yc.set Y9.toNat (⟨(ofInt .f32 Yb), (ofInt .f32 (IntKind.wrap .i64 (Yb + 1))), (ofInt .f32 (IntKind.wrap .i64 ((IntKind.wrap .i64 (Yb + 1)) + 1)))⟩ : GVector)).map GVector.cells) false]⟩ from (by simp [List.map_set, GVector.cells])) (ih (IntKind.wrap .i64 ((IntKind.wrap .i64 ((IntKind.wrap .i64 (Yb + 1)) + 1)) + 1)) (Y9 + 1) (Yc.set Y9.toNat (⟨(ofInt .f32 Yb), (ofInt .f32 (IntKind.wrap .i64 (Yb + 1))), (ofInt .f32 (IntKind.wrap .i64 ((IntKind.wrap .i64 (Yb + 1)) + 1)))⟩ : GVector)) (show 0 ≤ (Y9 + 1) from (by omega)) (show (Yc.set Y9.toNat (⟨(ofInt .f32 Yb), (ofInt .f32 (IntKind.wrap .i64 (Yb + 1))), (ofInt .f32 (IntKind.wrap .i64 ((IntKind.wrap .i64 (Yb + 1)) + 1)))⟩ : GVector)).length = Y5.length from (by simp_all <;> omega)) (by omega))
  | false =>
   have Yt := of_decide_eq_false Yg
   have e : ZC Y5 Yl (k + 1) Yb Y9 Yc = (Yb, Yc) := by simp only [ZC, Yg, cond_false]
   rw [e]
   exact outR (e := (.exit 0)) (EpOk 1) Z4 [] (mR false [1, 1, 2, 1, 32]) [] (p (sB Yg <| sN)) (by kernel_rfl) (by intro h; cases h)
theorem Z9E (Y5 : (List GVector)) (Yl : Int) : ∀ (k : Nat) (Yb : Int) (Y9 : Int) (Yc : (List GVector)) (hk : ((Yc.length : Int) - Y9).toNat < k), (ZC Y5 Yl k Yb Y9 Yc).2.length = Yc.length := by
  intro k
  induction k with
  | zero => intro Yb Y9 Yc hk; exact absurd hk (Nat.not_lt_zero _)
  | succ k ih =>
    intro Yb Y9 Yc hk
    cases Yg : (decide (Y9 < (Yc.length : Int))) with
    | true =>
      have e : ZC Y5 Yl (k + 1) Yb Y9 Yc = (ZC Y5 Yl k (IntKind.wrap .i64 ((IntKind.wrap .i64 ((IntKind.wrap .i64 (Yb + 1)) + 1)) + 1)) (Y9 + 1) (Yc.set Y9.toNat (⟨(ofInt .f32 Yb), (ofInt .f32 (IntKind.wrap .i64 (Yb + 1))), (ofInt .f32 (IntKind.wrap .i64 ((IntKind.wrap .i64 (Yb + 1)) + 1)))⟩ : GVector))) := by simp only [ZC, Yg, cond_true]
      rw [e, ih (IntKind.wrap .i64 ((IntKind.wrap .i64 ((IntKind.wrap .i64 (Yb + 1)) + 1)) + 1)) (Y9 + 1) (Yc.set Y9.toNat (⟨(ofInt .f32 Yb), (ofInt .f32 (IntKind.wrap .i64 (Yb + 1))), (ofInt .f32 (IntKind.wrap .i64 ((IntKind.wrap .i64 (Yb + 1)) + 1)))⟩ : GVector)) (by simp_all <;> omega)]; simp
    | false =>
      have e : ZC Y5 Yl (k + 1) Yb Y9 Yc = (Yb, Yc) := by simp only [ZC, Yg, cond_false]
      first | (rw [e]; done) | (rw [e]; rfl)
def Z2u (Y5 : (List GVector)) (Yl : Int) : Int × (List GVector) := (ZC Y5 Yl (((Y5.length : Int) - 0).toNat + 1) Yl 0 Y5)
@[simp] theorem ZdU (Y5 : (List GVector)) (Yl : Int) : (Z2u Y5 Yl).2.length = (Y5 : (List GVector)).length := Z9E Y5 Yl (((Y5.length : Int) - 0).toNat + 1) Yl 0 Y5 (by exact Nat.lt_succ_self _)
def Zq (Y5 : (List GVector)) (Yl : Int) : Int × (List GVector) := ((Z2u Y5 Yl).1, (Z2u Y5 Yl).2)
@[simp] theorem Zff (Y5 : (List GVector)) (Yl : Int) : (Zq Y5 Yl).2.length = Y5.length := by
  first | (simp [Zq]; done)
theorem Zba (Y5 : (List GVector)) (Yl : Int) (hp0 : Y5.length ≤ 1073741824)  : CallSt prog 18 [.vec 40 3 (Y5.map GVector.cells) false] [.own 0, .i .i64 Yl] (.i .i64 ((Zq Y5 Yl).1)) [.vec 40 3 (((Zq Y5 Yl).2).map GVector.cells) false] := by
 refine callS (EpOk 1) Z4 (c := bodyOf f18) [.vec 40 3 (Y5.map GVector.cells) false] [] (.i .i64 ((Z2u Y5 Yl).1)) [.vec 40 3 (((Z2u Y5 Yl).2).map GVector.cells) false] func18 (sL (mR false [0, 2, 2, 2, 31]) 1 (lp_val (Z53 Y5 Yl) (x := (Z2u Y5 Yl)) (Zaf Y5 Yl hp0 (((Y5.length : Int) - 0).toNat + 1) Yl 0 Y5 (show 0 ≤ 0 from (by omega)) (show Y5.length = Y5.length from (by simp)) (Nat.lt_succ_self _)) rfl) <| sK [] sN) rfl (by kernel_rfl) (by kernel_rfl) ?_ ?_
 · rfl
 · simp [Zq]
def Z6a (_ : GVector) (c : Int) : Int × GVector := ((IntKind.wrap .i64 ((IntKind.wrap .i64 ((IntKind.wrap .i64 (c + 1)) + 1)) + 1)), ⟨ofInt .f32 c, ofInt .f32 (IntKind.wrap .i64 (c + 1)), ofInt .f32 (IntKind.wrap .i64 ((IntKind.wrap .i64 (c + 1)) + 1))⟩)
theorem Zb2 (a : List GVector) (c : Int) : Zq a c = mkL Z6a a c := by
  unfold Zq Z2u
  rw [mark_loop (f := Z6a) (lo := ZC a c) (fun k c i r => rfl) _ _ _ _ (Int.le_refl 0) (Nat.lt_succ_self _)]
  simp
theorem Za5 (a : List GVector) (c : Int) (g0 : a.length ≤ 1073741824) (h0 : 0 ≤ c) (h1 : c ≤ 4611686018427387904) : c ≤ (Zq a c).1 ∧ (Zq a c).1 ≤ c + 3221225472 := by
  rw [Zb2]
  have q := mkL_ge (f := Z6a) (W := 3) a c (fun x _ c k0 k1 => by simp only [Z6a]; rw [wrap_id (n := c + 1) (by omega) (by omega), show c + 1 + 1 = c + 2 from by omega, wrap_id (n := c + 2) (by omega) (by omega), show c + 2 + 1 = c + 3 from by omega, wrap_id (n := c + 3) (by omega) (by omega)]; omega) h0 (by omega)
  omega
def ZH (Y5 : (List Int)) (Yl : Int) : Nat → Int → Int → (List Int) → Int × (List Int)
  | 0, _, _, _ => default
  | k + 1, Yb, Y9, Yc => (cond (decide (Y9 < (Yc.length : Int)))
    (ZH Y5 Yl k (IntKind.wrap .i64 (Yb + 1)) (Y9 + 1) (Yc.set Y9.toNat Yb))
    (Yb, Yc))
def Z5b (ty : Nat) (Y5 : (List Int)) (Yl : Int) (r : Int × (List Int)) : Ex × St := ((.exit 0), ⟨.any :: .i .i64 r.1 :: .any :: .any :: .i .i64 0 :: an 14 [], [.vec ty 1 (r.2.map (cI .i64)) false]⟩)
def ZaA (ty : Nat) (Y5 : (List Int)) (Yl : Int) (Yb : Int) (Y9 : Int) (Yc : (List Int)) : St := ⟨.own 0 :: .i .i64 Yb :: .any :: .any :: .i .i64 0 :: .i .i64 Y9 :: an 13 [], [.vec ty 1 (Yc.map (cI .i64)) false]⟩
theorem ZaB (ty : Nat) (Y5 : (List Int)) (Yl : Int) (hp0 : Y5.length ≤ 1073741824) : ∀ (k : Nat) (Yb : Int) (Y9 : Int) (Yc : (List Int)) (Z6b : 0 ≤ Y9) (Z6c : Yc.length = Y5.length) (hk : ((Y5.length : Int) - Y9).toNat < k), Lp prog 1 (sub (bodyOf f27) [1, 0, 1, 0, 0]) (ZaA ty Y5 Yl Yb Y9 Yc) (Z5b ty Y5 Yl (ZH Y5 Yl k Yb Y9 Yc)).1 (Z5b ty Y5 Yl (ZH Y5 Yl k Yb Y9 Yc)).2 := by
 intro k
 induction k with
 | zero => intro Yb Y9 Yc Z6b Z6c hk; exact absurd hk (Nat.not_lt_zero _)
 | succ k ih =>
  intro Yb Y9 Yc Z6b Z6c hk
  have p {a C} (s : Scr a C) := sZ (cI .i64) Yc <| s
  cases Yg : (decide (Y9 < (Yc.length : Int))) with
  | true =>
   have Yt := of_decide_eq_true Yg
   have YA : (0 : Int) ≤ Y9 := by clear p; exact (by assumption)
   have YE : Y9 < (Yc.length : Int) := by clear p; exact (by assumption)
   have YG : Y9.toNat < Yc.length := by clear p; exact (by omega)
   have YH : (-9223372036854775808 : Int) ≤ (Y9 + 1) := by clear p; exact (by omega)
   have YL : (Y9 + 1) ≤ (9223372036854775807 : Int) := by clear p; exact (by omega)
   have e : ZH Y5 Yl (k + 1) Yb Y9 Yc = (ZH Y5 Yl k (IntKind.wrap .i64 (Yb + 1)) (Y9 + 1) (Yc.set Y9.toNat Yb)) := by simp only [ZH, Yg, cond_true]
   rw [e]
   exact nextS (EpOk 1) Z4 [] (mR false [0, 2, 2, 2, 13]) [] (⟨.own 0 :: .i .i64 (IntKind.wrap .i64 (Yb + 1)) :: .any :: .any :: .i .i64 0 :: .i .i64 (Y9 + 1) :: an 13 [], [.vec ty 1 ((Yc.map (cI .i64)).set Y9.toNat [.i .i64 Yb]) false]⟩) (p (sB Yg <| sX (cI .i64) Yc Y9 YA YE <| sC (maplt (c := (cI .i64)) (l := Yc) YG) <| sW .i64 (Yb + 1) <| sI (Y9 + 1) YH YL <| sN)) (by kernel_rfl) (show _ = ⟨.own 0 :: .i .i64 (IntKind.wrap .i64 (Yb + 1)) :: .any :: .any :: .i .i64 0 :: .i .i64 (Y9 + 1) :: an 13 [], [.vec ty 1 ((Yc.set Y9.toNat Yb).map (cI .i64)) false]⟩ from (by simp [List.map_set, cI])) (ih (IntKind.wrap .i64 (Yb + 1)) (Y9 + 1) (Yc.set Y9.toNat Yb) (show 0 ≤ (Y9 + 1) from (by omega)) (show (Yc.set Y9.toNat Yb).length = Y5.length from (by simp_all <;> omega)) (by omega))
  | false =>
   have Yt := of_decide_eq_false Yg
   have e : ZH Y5 Yl (k + 1) Yb Y9 Yc = (Yb, Yc) := by simp only [ZH, Yg, cond_false]
   rw [e]
   exact outR (e := (.exit 0)) (EpOk 1) Z4 [] (mR false [1, 1, 2, 1, 14]) [] (p (sB Yg <| sN)) (by kernel_rfl) (by intro h; cases h)
theorem Z9S (Y5 : (List Int)) (Yl : Int) : ∀ (k : Nat) (Yb : Int) (Y9 : Int) (Yc : (List Int)) (hk : ((Yc.length : Int) - Y9).toNat < k), (ZH Y5 Yl k Yb Y9 Yc).2.length = Yc.length := by
  intro k
  induction k with
  | zero => intro Yb Y9 Yc hk; exact absurd hk (Nat.not_lt_zero _)
  | succ k ih =>
    intro Yb Y9 Yc hk
    cases Yg : (decide (Y9 < (Yc.length : Int))) with
    | true =>
      have e : ZH Y5 Yl (k + 1) Yb Y9 Yc = (ZH Y5 Yl k (IntKind.wrap .i64 (Yb + 1)) (Y9 + 1) (Yc.set Y9.toNat Yb)) := by simp only [ZH, Yg, cond_true]
      rw [e, ih (IntKind.wrap .i64 (Yb + 1)) (Y9 + 1) (Yc.set Y9.toNat Yb) (by simp_all <;> omega)]; simp
    | false =>
      have e : ZH Y5 Yl (k + 1) Yb Y9 Yc = (Yb, Yc) := by simp only [ZH, Yg, cond_false]
      first | (rw [e]; done) | (rw [e]; rfl)
def Z2H (Y5 : (List Int)) (Yl : Int) : Int × (List Int) := (ZH Y5 Yl (((Y5.length : Int) - 0).toNat + 1) Yl 0 Y5)
@[simp] theorem Zeq (Y5 : (List Int)) (Yl : Int) : (Z2H Y5 Yl).2.length = (Y5 : (List Int)).length := Z9S Y5 Yl (((Y5.length : Int) - 0).toNat + 1) Yl 0 Y5 (by exact Nat.lt_succ_self _)
def Zi (Y5 : (List Int)) (Yl : Int) : Int × (List Int) := ((Z2H Y5 Yl).1, (Z2H Y5 Yl).2)
@[simp] theorem Z5N (Y5 : (List Int)) (Yl : Int) : (Zi Y5 Yl).2.length = Y5.length := by
  first | (simp [Zi]; done)
theorem Zbv (ty : Nat) (Y5 : (List Int)) (Yl : Int) (hp0 : Y5.length ≤ 1073741824)  : CallSt prog 27 [.vec ty 1 (Y5.map (cI .i64)) false] [.own 0, .i .i64 Yl] (.i .i64 ((Zi Y5 Yl).1)) [.vec ty 1 (((Zi Y5 Yl).2).map (cI .i64)) false] := by
 refine callS (EpOk 1) Z4 (c := bodyOf f27) [.vec ty 1 (Y5.map (cI .i64)) false] [] (.i .i64 ((Z2H Y5 Yl).1)) [.vec ty 1 (((Z2H Y5 Yl).2).map (cI .i64)) false] func27 (sL (mR false [0, 2, 2, 2, 13]) 1 (lp_val (Z5b ty Y5 Yl) (x := (Z2H Y5 Yl)) (ZaB ty Y5 Yl hp0 (((Y5.length : Int) - 0).toNat + 1) Yl 0 Y5 (show 0 ≤ 0 from (by omega)) (show Y5.length = Y5.length from (by simp)) (Nat.lt_succ_self _)) rfl) <| sK [] sN) rfl (by kernel_rfl) (by kernel_rfl) ?_ ?_
 · rfl
 · simp [Zi]
def Z6V (_ : Int) (c : Int) : Int × Int := ((IntKind.wrap .i64 (c + 1)), c)
theorem Zbw (a : List Int) (c : Int) : Zi a c = mkL Z6V a c := by
  unfold Zi Z2H
  rw [mark_loop (f := Z6V) (lo := ZH a c) (fun k c i r => rfl) _ _ _ _ (Int.le_refl 0) (Nat.lt_succ_self _)]
  simp
theorem ZaC (a : List Int) (c : Int) (g0 : a.length ≤ 1073741824) (h0 : 0 ≤ c) (h1 : c ≤ 4611686018427387904) : c ≤ (Zi a c).1 ∧ (Zi a c).1 ≤ c + 1073741824 := by
  rw [Zbw]
  have q := mkL_ge (f := Z6V) (W := 1) a c (fun x _ c k0 k1 => by simp only [Z6V]; rw [wrap_id (n := c + 1) (by omega) (by omega)]; omega) h0 (by omega)
  omega
def ZD (Y5 : (List (List Int))) (Yl : Int) : Nat → Int → Int → (List (List Int)) → Int × (List (List Int))
  | 0, _, _, _ => default
  | k + 1, Yb, Y9, Yc => (cond (decide (Y9 < (Yc.length : Int)))
    (ZD Y5 Yl k ((Zi (Yc.getD Y9.toNat default) Yb).1) (Y9 + 1) (Yc.set Y9.toNat ((Zi (Yc.getD Y9.toNat default) Yb).2)))
    (Yb, Yc))
def Z54 (Y5 : (List (List Int))) (Yl : Int) (r : Int × (List (List Int))) : Ex × St := ((.exit 0), ⟨.any :: .i .i64 r.1 :: .any :: .any :: .i .i64 0 :: an 14 [], [.nest 49 (r.2.map fun l => l.map (cI .i64)) false]⟩)
def Zag (Y5 : (List (List Int))) (Yl : Int) (Yb : Int) (Y9 : Int) (Yc : (List (List Int))) : St := ⟨.own 0 :: .i .i64 Yb :: .any :: .any :: .i .i64 0 :: .i .i64 Y9 :: an 13 [], [.nest 49 (Yc.map fun l => l.map (cI .i64)) false]⟩
theorem Zah (Y5 : (List (List Int))) (Yl : Int) (hp0 : Y5.length ≤ 1073741824) (hp1 : ∀ t ∈ Y5, t.length ≤ 1073741824) : ∀ (k : Nat) (Yb : Int) (Y9 : Int) (Yc : (List (List Int))) (Z5O : 0 ≤ Y9) (Z5P : Yc.length = Y5.length) (Z3w : ∀ t ∈ Yc, t.length ≤ 1073741824) (hk : ((Y5.length : Int) - Y9).toNat < k), Lp prog 1 (sub (bodyOf f119) [1, 0, 1, 0, 0]) (Zag Y5 Yl Yb Y9 Yc) (Z54 Y5 Yl (ZD Y5 Yl k Yb Y9 Yc)).1 (Z54 Y5 Yl (ZD Y5 Yl k Yb Y9 Yc)).2 := by
 intro k
 induction k with
 | zero => intro Yb Y9 Yc Z5O Z5P Z3w hk; exact absurd hk (Nat.not_lt_zero _)
 | succ k ih =>
  intro Yb Y9 Yc Z5O Z5P Z3w hk
  have p {a C} (s : Scr a C) := sM (nlen_ok (l := Yc) (f := fun l => l.map (cI .i64))) <| s
  cases Yg : (decide (Y9 < (Yc.length : Int))) with
  | true =>
   have Yt := of_decide_eq_true Yg
   have YA : (0 : Int) ≤ Y9 := by clear p; exact (by assumption)
   have YE : Int.toNat Y9 < Yc.length := by clear p; exact (by omega)
   have YG : Y9.toNat < Yc.length := by clear p; exact (by assumption)
   have YH : (Yc.getD Y9.toNat default).length ≤ 1073741824 := by clear p; exact (by exact mem_le Z3w)
   have YL : (-9223372036854775808 : Int) ≤ (Y9 + 1) := by clear p; exact (by omega)
   have YQ : (Y9 + 1) ≤ (9223372036854775807 : Int) := by clear p; exact (by omega)
   have e : ZD Y5 Yl (k + 1) Yb Y9 Yc = (ZD Y5 Yl k ((Zi (Yc.getD Y9.toNat default) Yb).1) (Y9 + 1) (Yc.set Y9.toNat ((Zi (Yc.getD Y9.toNat default) Yb).2))) := by simp only [ZD, Yg, cond_true]
   rw [e]
   exact nextS (EpOk 1) Z4 [] (mR false [0, 2, 2, 2, 13]) [] (⟨.own 0 :: .i .i64 ((Zi (Yc.getD Y9.toNat default) Yb).1) :: .any :: .any :: .i .i64 0 :: .i .i64 (Y9 + 1) :: an 13 [], [.nest 49 ((Yc.map fun l => l.map (cI .i64)).set Y9.toNat (((Zi (Yc.getD Y9.toNat default) Yb).2).map (cI .i64))) false]⟩) (p (sB Yg <| sC (nestix (c := (cI .i64)) (l := Yc) (i := Y9) YA YE) <| sC (nestlt (c := (cI .i64)) (l := Yc) YG) <| sS (CallSt.frameInn (R := [.nest 49 (Yc.map fun l => l.map (cI .i64)) false]) (q := 0) (j := Y9.toNat) (args := [.i .i64 Yb]) (fun ty => Zbv ty (Yc.getD Y9.toNat default) Yb YH) rfl rfl (by simp) rfl (nestget_ok YG)) <| sI (Y9 + 1) YL YQ <| sN)) (by kernel_rfl) (show _ = ⟨.own 0 :: .i .i64 ((Zi (Yc.getD Y9.toNat default) Yb).1) :: .any :: .any :: .i .i64 0 :: .i .i64 (Y9 + 1) :: an 13 [], [.nest 49 ((Yc.set Y9.toNat ((Zi (Yc.getD Y9.toNat default) Yb).2)).map fun l => l.map (cI .i64)) false]⟩ from (by simp [List.map_set, cL, cI])) (ih ((Zi (Yc.getD Y9.toNat default) Yb).1) (Y9 + 1) (Yc.set Y9.toNat ((Zi (Yc.getD Y9.toNat default) Yb).2)) (show 0 ≤ (Y9 + 1) from (by omega)) (show (Yc.set Y9.toNat ((Zi (Yc.getD Y9.toNat default) Yb).2)).length = Y5.length from (by simp; assumption)) (show ∀ t ∈ (Yc.set Y9.toNat ((Zi (Yc.getD Y9.toNat default) Yb).2)), t.length ≤ 1073741824 from (by intro t ht; rcases List.mem_or_eq_of_mem_set ht with h | h; (exact Z3w t h); (rw [h]; simp only [Z5N]; exact mem_le Z3w))) (by omega))
  | false =>
   have Yt := of_decide_eq_false Yg
   have e : ZD Y5 Yl (k + 1) Yb Y9 Yc = (Yb, Yc) := by simp only [ZD, Yg, cond_false]
   rw [e]
   exact outR (e := (.exit 0)) (EpOk 1) Z4 [] (mR false [1, 1, 2, 1, 14]) [] (p (sB Yg <| sN)) (by kernel_rfl) (by intro h; cases h)
end Go.Ab
