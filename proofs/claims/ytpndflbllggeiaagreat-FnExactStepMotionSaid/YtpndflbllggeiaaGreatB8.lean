/- The functions of this seat as plain Lean, and that the program's are these. Printed by a program of the prover's own. -/
import Derived.Test.YtpndflbllggeiaaGreatB7
set_option linter.unusedVariables false
set_option linter.unusedSimpArgs false
set_option maxRecDepth 100000
namespace Go.Ab
open Go.RowKit Go.Proofs.Tryz
def Z1C (Y2 : GMotion) (Y3 : (List Int)) (Yc : Nat) (Yd : Nat) (Y8 : Nat) : (List GVector) := (Z2i Y2 Y3 Yc Yd Y8 ((((Zr Y2.Body Y3).length : Int) - 0).toNat + 1) 0 ([] : List GVector))
theorem Zgn (m : GMotion) (h : List Int) (a d t : Nat) : Z1C m h a d t = (List.range m.Body.Mesh.Places.length).map fun (j : Nat) => Zj (Z17 m h a t (j : Int)) d := by
  unfold Z1C
  rw [app_loop (f := fun i => Zj (Z17 m h a t i) d) (n := ((Zr m.Body h).length : Int)) (lo := Z2i m h a d t) (fun k i r => rfl) _ _ _ (Nat.lt_succ_self _), List.nil_append, Z6T]
  rw [show ((m.Body.Mesh.Places.length : Int) - 0).toNat = m.Body.Mesh.Places.length from by omega]
  simp only [Int.zero_add]
theorem ZaV (m : GMotion) (h : List Int) (a d t : Nat) : (Z1C m h a d t).length = m.Body.Mesh.Places.length := by rw [Zgn]; simp
def Z18 (Y2 : GMotion) (Y3 : (List Int)) (Yc : Nat) (Yd : Nat) (Y8 : Nat) : Nat → Int → (List GVector) → (List GVector)
  | 0, _, _ => default
  | k + 1, Y1, Yb => (cond (decide (Y1 < (Y3.length : Int)))
    (Z18 Y2 Y3 Yc Yd Y8 k (Y1 + 1) (Yb.set ((Y3.getD Y1.toNat default).toNat) (⟨0, 0, 0⟩ : GVector)))
    Yb)
def Z5Q (Y2 : GMotion) (Y3 : (List Int)) (Yc : Nat) (Yd : Nat) (Y8 : Nat) (r : (List GVector)) : Ex × St := ((.exit 2), ⟨.agg [.sl (Y2.Body.Mesh.Places.map GVector.cells), .sl (Y2.Body.Mesh.Triangles.map (cL (cI .i64))), .sl (Y2.Body.Springs.map GSpring.cells), .f .f32 Y2.Body.Film, .f .f32 Y2.Body.Bend, .sl (Y2.Body.Weights.map (cF .f32)), .f .f32 Y2.Body.Fall.X, .f .f32 Y2.Body.Fall.Y, .f .f32 Y2.Body.Fall.Z, .sl (Y2.Speeds.map GVector.cells)] :: .sl (Y3.map (cI .i64)) :: .any :: .any :: .f .f32 Y8 :: .ptr 0 0 0 :: an 4 (.ptr 1 0 0 :: .own 2 :: an 5 (.ptr 0 0 0 :: .agg [.sl (Y2.Body.Mesh.Places.map GVector.cells), .sl (Y2.Body.Mesh.Triangles.map (cL (cI .i64))), .sl (Y2.Body.Springs.map GSpring.cells), .f .f32 Y2.Body.Film, .f .f32 Y2.Body.Bend, .sl (Y2.Body.Weights.map (cF .f32)), .f .f32 Y2.Body.Fall.X, .f .f32 Y2.Body.Fall.Y, .f .f32 Y2.Body.Fall.Z] :: .sl (Y3.map (cI .i64)) :: .own 3 :: an 23 (.sl (Y3.map (cI .i64)) :: an 17 []))), [.box 66 [.sl (Y2.Body.Mesh.Places.map GVector.cells), .sl (Y2.Body.Mesh.Triangles.map (cL (cI .i64))), .sl (Y2.Body.Springs.map GSpring.cells), .f .f32 Y2.Body.Film, .f .f32 Y2.Body.Bend, .sl (Y2.Body.Weights.map (cF .f32)), .f .f32 Y2.Body.Fall.X, .f .f32 Y2.Body.Fall.Y, .f .f32 Y2.Body.Fall.Z, .sl (Y2.Speeds.map GVector.cells)], .box 66 [.nils, .nils, .nils, .f .f32 0, .f .f32 0, .nils, .f .f32 0, .f .f32 0, .f .f32 0, .nils], .vec 40 3 (r.map GVector.cells) false, .vec 40 3 ((Zr Y2.Body Y3).map GVector.cells) false]⟩)
def Z8k (Y2 : GMotion) (Y3 : (List Int)) (Yc : Nat) (Yd : Nat) (Y8 : Nat) (Y1 : Int) (Yb : (List GVector)) : St := ⟨.agg [.sl (Y2.Body.Mesh.Places.map GVector.cells), .sl (Y2.Body.Mesh.Triangles.map (cL (cI .i64))), .sl (Y2.Body.Springs.map GSpring.cells), .f .f32 Y2.Body.Film, .f .f32 Y2.Body.Bend, .sl (Y2.Body.Weights.map (cF .f32)), .f .f32 Y2.Body.Fall.X, .f .f32 Y2.Body.Fall.Y, .f .f32 Y2.Body.Fall.Z, .sl (Y2.Speeds.map GVector.cells)] :: .sl (Y3.map (cI .i64)) :: .any :: .any :: .f .f32 Y8 :: .ptr 0 0 0 :: an 4 (.ptr 1 0 0 :: .own 2 :: an 5 (.ptr 0 0 0 :: .agg [.sl (Y2.Body.Mesh.Places.map GVector.cells), .sl (Y2.Body.Mesh.Triangles.map (cL (cI .i64))), .sl (Y2.Body.Springs.map GSpring.cells), .f .f32 Y2.Body.Film, .f .f32 Y2.Body.Bend, .sl (Y2.Body.Weights.map (cF .f32)), .f .f32 Y2.Body.Fall.X, .f .f32 Y2.Body.Fall.Y, .f .f32 Y2.Body.Fall.Z] :: .sl (Y3.map (cI .i64)) :: .own 3 :: an 23 (.sl (Y3.map (cI .i64)) :: .i .i64 (Y3.length : Int) :: .i .i64 Y1 :: an 15 []))), [.box 66 [.sl (Y2.Body.Mesh.Places.map GVector.cells), .sl (Y2.Body.Mesh.Triangles.map (cL (cI .i64))), .sl (Y2.Body.Springs.map GSpring.cells), .f .f32 Y2.Body.Film, .f .f32 Y2.Body.Bend, .sl (Y2.Body.Weights.map (cF .f32)), .f .f32 Y2.Body.Fall.X, .f .f32 Y2.Body.Fall.Y, .f .f32 Y2.Body.Fall.Z, .sl (Y2.Speeds.map GVector.cells)], .box 66 [.nils, .nils, .nils, .f .f32 0, .f .f32 0, .nils, .f .f32 0, .f .f32 0, .f .f32 0, .nils], .vec 40 3 (Yb.map GVector.cells) false, .vec 40 3 ((Zr Y2.Body Y3).map GVector.cells) false]⟩
def Z78 : List Bool := (mR false [0, 2, 2, 2, 4, 2, 5, 4, 23, 3, 15])
def Zaw : List Bool := (mR false [0, 2, 2, 2, 4, 2, 5, 4, 23, 1, 17])
theorem Zbo (Y2 : GMotion) (Y3 : (List Int)) (Yc : Nat) (Yd : Nat) (Y8 : Nat) (hp0 : Y2.Body.Mesh.Places.length ≤ 1073741824) (hp1 : Y2.Body.Mesh.Triangles.length ≤ 1073741824) (hp2 : ∀ t ∈ Y2.Body.Mesh.Triangles, t.length ≤ 1073741824) (hp3 : Y2.Body.Springs.length ≤ 1073741824) (hp4 : Y2.Body.Weights.length ≤ 1073741824) (hp5 : Y2.Speeds.length ≤ 1073741824) (hp6 : Y3.length ≤ 1073741824) (hp7 : OkBd Y2.Body) (hp8 : Y2.Speeds.length = Y2.Body.Mesh.Places.length) (hp9 : OkIx Y2.Body.Mesh.Places.length (fun x => x) Y3) : ∀ (k : Nat) (Y1 : Int) (Yb : (List GVector)) (Z79 : 0 ≤ Y1) (Z7a : Yb.length = (Z1C Y2 Y3 Yc Yd Y8).length) (hk : ((Y3.length : Int) - Y1).toNat < k), Lp prog 0 (sub (bodyOf f80) [1, 1, 1, 0, 1, 0, 0]) (Z8k Y2 Y3 Yc Yd Y8 Y1 Yb) (Z5Q Y2 Y3 Yc Yd Y8 (Z18 Y2 Y3 Yc Yd Y8 k Y1 Yb)).1 (Z5Q Y2 Y3 Yc Yd Y8 (Z18 Y2 Y3 Yc Yd Y8 k Y1 Yb)).2 := by
 intro k
 induction k with
 | zero => intro Y1 Yb Z79 Z7a hk; exact absurd hk (Nat.not_lt_zero _)
 | succ k ih =>
  intro Y1 Yb Z79 Z7a hk
  cases Yl : (decide (Y1 < (Y3.length : Int))) with
  | true =>
   have Yw := of_decide_eq_true Yl
   have YF : (0 : Int) ≤ Y1 := (by assumption)
   have YG : Y1 < (Y3.length : Int) := (by assumption)
   have YH : (0 : Int) ≤ (Y3.getD Y1.toNat default) := (by have q := OkIx.at hp9 (by assumption) Yw; have q2 := ZaV Y2 Y3 Yc Yd Y8; omega)
   have YI : (Y3.getD Y1.toNat default) < (Yb.length : Int) := (by have q := OkIx.at hp9 (by assumption) Yw; have q2 := ZaV Y2 Y3 Yc Yd Y8; omega)
   have YP : (Y3.getD Y1.toNat default).toNat < Yb.length := (by omega)
   have YS : (-9223372036854775808 : Int) ≤ (Y1 + 1) := (by omega)
   have y_6 : (Y1 + 1) ≤ (9223372036854775807 : Int) := (by omega)
   have e : Z18 Y2 Y3 Yc Yd Y8 (k + 1) Y1 Yb = (Z18 Y2 Y3 Yc Yd Y8 k (Y1 + 1) (Yb.set ((Y3.getD Y1.toNat default).toNat) (⟨0, 0, 0⟩ : GVector))) := by simp only [Z18, Yl, cond_true]
   rw [e]
   exact nextS E0Ok Z5 [] Z78 [0, 1, 2, 3] (⟨.agg [.sl (Y2.Body.Mesh.Places.map GVector.cells), .sl (Y2.Body.Mesh.Triangles.map (cL (cI .i64))), .sl (Y2.Body.Springs.map GSpring.cells), .f .f32 Y2.Body.Film, .f .f32 Y2.Body.Bend, .sl (Y2.Body.Weights.map (cF .f32)), .f .f32 Y2.Body.Fall.X, .f .f32 Y2.Body.Fall.Y, .f .f32 Y2.Body.Fall.Z, .sl (Y2.Speeds.map GVector.cells)] :: .sl (Y3.map (cI .i64)) :: .any :: .any :: .f .f32 Y8 :: .ptr 0 0 0 :: an 4 (.ptr 1 0 0 :: .own 2 :: an 5 (.ptr 0 0 0 :: .agg [.sl (Y2.Body.Mesh.Places.map GVector.cells), .sl (Y2.Body.Mesh.Triangles.map (cL (cI .i64))), .sl (Y2.Body.Springs.map GSpring.cells), .f .f32 Y2.Body.Film, .f .f32 Y2.Body.Bend, .sl (Y2.Body.Weights.map (cF .f32)), .f .f32 Y2.Body.Fall.X, .f .f32 Y2.Body.Fall.Y, .f .f32 Y2.Body.Fall.Z] :: .sl (Y3.map (cI .i64)) :: .own 3 :: an 23 (.sl (Y3.map (cI .i64)) :: .i .i64 (Y3.length : Int) :: .i .i64 (Y1 + 1) :: an 15 []))), [.box 66 [.sl (Y2.Body.Mesh.Places.map GVector.cells), .sl (Y2.Body.Mesh.Triangles.map (cL (cI .i64))), .sl (Y2.Body.Springs.map GSpring.cells), .f .f32 Y2.Body.Film, .f .f32 Y2.Body.Bend, .sl (Y2.Body.Weights.map (cF .f32)), .f .f32 Y2.Body.Fall.X, .f .f32 Y2.Body.Fall.Y, .f .f32 Y2.Body.Fall.Z, .sl (Y2.Speeds.map GVector.cells)], .box 66 [.nils, .nils, .nils, .f .f32 0, .f .f32 0, .nils, .f .f32 0, .f .f32 0, .f .f32 0, .nils], .vec 40 3 ((Yb.map GVector.cells).set ((Y3.getD Y1.toNat default).toNat) [.f .f32 0, .f .f32 0, .f .f32 0]) false, .vec 40 3 ((Zr Y2.Body Y3).map GVector.cells) false]⟩) (sB Yl <| sG (cI .i64) Y3 Y1 YF YG <| sX GVector.cells Yb (Y3.getD Y1.toNat default) YH YI <| sC (maplt (c := GVector.cells) (l := Yb) YP) <| sI (Y1 + 1) YS y_6 <| sN) (by kernel_rfl) (by simp [Z8k, List.map_set, GVector.cells]) (ih (Y1 + 1) (Yb.set ((Y3.getD Y1.toNat default).toNat) (⟨0, 0, 0⟩ : GVector)) (show 0 ≤ (Y1 + 1) from (by omega)) (show (Yb.set ((Y3.getD Y1.toNat default).toNat) (⟨0, 0, 0⟩ : GVector)).length = (Z1C Y2 Y3 Yc Yd Y8).length from (by have q := OkIx.at hp9 (by assumption) Yw; have q2 := ZaV Y2 Y3 Yc Yd Y8; (simp only [List.length_set]; omega))) (by omega))
  | false =>
   have Yw := of_decide_eq_false Yl
   have e : Z18 Y2 Y3 Yc Yd Y8 (k + 1) Y1 Yb = Yb := by simp only [Z18, Yl, cond_false]
   rw [e]
   exact outR (e := (.exit 2)) E0Ok Z5 [] Zaw [0, 1, 2, 3] (sB Yl <| sN) (by kernel_rfl) (by intro h; cases h)
theorem Zax (Y2 : GMotion) (Y3 : (List Int)) (Yc : Nat) (Yd : Nat) (Y8 : Nat) : ∀ (k : Nat) (Y1 : Int) (Yb : (List GVector)) (hk : ((Y3.length : Int) - Y1).toNat < k), (Z18 Y2 Y3 Yc Yd Y8 k Y1 Yb).length = Yb.length := by
  intro k
  induction k with
  | zero => intro Y1 Yb hk; exact absurd hk (Nat.not_lt_zero _)
  | succ k ih =>
    intro Y1 Yb hk
    cases Yl : (decide (Y1 < (Y3.length : Int))) with
    | true =>
      have e : Z18 Y2 Y3 Yc Yd Y8 (k + 1) Y1 Yb = (Z18 Y2 Y3 Yc Yd Y8 k (Y1 + 1) (Yb.set ((Y3.getD Y1.toNat default).toNat) (⟨0, 0, 0⟩ : GVector))) := by simp only [Z18, Yl, cond_true]
      rw [e, ih (Y1 + 1) (Yb.set ((Y3.getD Y1.toNat default).toNat) (⟨0, 0, 0⟩ : GVector)) (by simp_all <;> omega)]; simp
    | false =>
      have e : Z18 Y2 Y3 Yc Yd Y8 (k + 1) Y1 Yb = Yb := by simp only [Z18, Yl, cond_false]
      first | (rw [e]; done) | (rw [e]; rfl)
def Zp (Y2 : GMotion) (Y3 : (List Int)) (Yc : Nat) (Yd : Nat) (Y8 : Nat) : (List GVector) := (Z18 Y2 Y3 Yc Yd Y8 (((Y3.length : Int) - 0).toNat + 1) 0 (Z1C Y2 Y3 Yc Yd Y8))
@[simp] theorem Z4e (Y2 : GMotion) (Y3 : (List Int)) (Yc : Nat) (Yd : Nat) (Y8 : Nat) : (Zp Y2 Y3 Yc Yd Y8).length = ((Z1C Y2 Y3 Yc Yd Y8) : (List GVector)).length := Zax Y2 Y3 Yc Yd Y8 (((Y3.length : Int) - 0).toNat + 1) 0 (Z1C Y2 Y3 Yc Yd Y8) (by exact Nat.lt_succ_self _)
def Zs (Y2 : GMotion) (Y3 : (List Int)) (Yc : Nat) (Yd : Nat) (Y8 : Nat) : GMotion := (⟨(ZX Y2.Body (Zp Y2 Y3 Yc Yd Y8) Y8), (Zp Y2 Y3 Yc Yd Y8)⟩ : GMotion)
theorem Zgm {β : Type} {z : β} {hs : List Int} {lo : Nat → Int → List β → List β} (h : ∀ k i r, lo (k + 1) i r = cond (decide (i < (hs.length : Int))) (lo k (i + 1) (r.set (hs.getD i.toNat default).toNat z)) r) :
    ∀ (k : Nat) (i : Int) (r : List β), 0 ≤ i → ((hs.length : Int) - i).toNat < k → lo k i r = (hs.drop i.toNat).foldl (fun r v => r.set v.toNat z) r := by
  intro k
  induction k with
  | zero => intro i r _ hk; exact absurd hk (Nat.not_lt_zero _)
  | succ k ih =>
    intro i r h0 hk
    rw [h]
    by_cases hi : i < (hs.length : Int)
    · have hn : i.toNat < hs.length := by omega
      rw [decide_eq_true hi, cond_true, ih _ _ (by omega) (by omega), List.drop_eq_getElem_cons hn, show (i + 1).toNat = i.toNat + 1 from by omega, List.foldl_cons, List.getD_eq_getElem?_getD, List.getElem?_eq_getElem hn]; rfl
    · rw [decide_eq_false hi, cond_false, List.drop_eq_nil_of_le (by omega)]; rfl
theorem Zg8 {β : Type} {z : β} (j : Nat) : ∀ (l : List Int) (r : List β), (l.foldl (fun r v => r.set v.toNat z) r)[j]? = cond (l.any fun v => v.toNat == j) (r[j]?.map fun _ => z) r[j]? := by
  intro l
  induction l with
  | nil => intro r; rfl
  | cons x l ih =>
    intro r
    rw [List.foldl_cons, ih, List.any_cons]
    by_cases hx : x.toNat = j
    · subst hx
      rw [List.getElem?_set_self', beq_self_eq_true, Bool.true_or, cond_true]
      cases l.any fun v => v.toNat == x.toNat <;> cases r[x.toNat]? <;> rfl
    · rw [List.getElem?_set_ne hx, show (x.toNat == j) = false from beq_eq_false_iff_ne.2 hx, Bool.false_or]
theorem Zg9 (m : GMotion) (h : List Int) (a d t : Nat) (ok : OkBd m.Body) (hs : m.Speeds.length = m.Body.Mesh.Places.length) (hh : OkIx m.Body.Mesh.Places.length (fun x => x) h) : Zp m h a d t = Zg m h a d t := by
  unfold Zp
  rw [Zgm (z := (⟨0, 0, 0⟩ : GVector)) (hs := h) (lo := Z18 m h a d t) (fun k i r => rfl) _ _ _ (Int.le_refl 0) (Nat.lt_succ_self _), Zgn, ZfA, hs, Int.toNat_zero, List.drop_zero]
  simp only [ZfZ]
  apply List.ext_getElem?
  intro j
  rw [Zg8, List.getElem?_map, List.getElem?_map]
  by_cases hj : j < m.Body.Mesh.Places.length
  · rw [List.getElem?_range hj, Option.map_some, Option.map_some, Option.map_some]
    have e1 : (h.any fun v => v.toNat == j) = (h.any fun v => v == (j : Int)) := by
      rw [Bool.eq_iff_iff, List.any_eq_true, List.any_eq_true]
      constructor
      · rintro ⟨x, hx, e⟩
        rw [beq_iff_eq] at e
        exact ⟨x, hx, by rw [beq_iff_eq]; have := (hh x hx).1; simp only at this; omega⟩
      · rintro ⟨x, hx, e⟩
        rw [beq_iff_eq] at e
        exact ⟨x, hx, by rw [beq_iff_eq]; omega⟩
    have e2 : Zj (Z17 m h a t (j : Int)) d = Z1H m h a d t (j : Int) := by
      unfold Z17 Z1H
      rw [ZeX _ _ ok]
      kernel_rfl
    rw [e1, e2]
    cases h.any fun v => v == (j : Int) <;> rfl
  · rw [List.getElem?_eq_none (by simpa using hj)]
    cases h.any fun v => v.toNat == j <;> rfl
theorem ZeY (m : GMotion) (h : List Int) (a d t : Nat) (ok : OkBd m.Body) (hs : m.Speeds.length = m.Body.Mesh.Places.length) (hh : OkIx m.Body.Mesh.Places.length (fun x => x) h) : Zs m h a d t = ZA m h a d t := by
  unfold Zs ZA
  rw [Zgl, Zg9 m h a d t ok hs hh]
theorem ZbM (m : GMotion) (h : List Int) (a d t : Nat) : (Zs m h a d t).Body.Mesh.Places.length ≤ m.Body.Mesh.Places.length := ZaR m.Body _ t
theorem ZbN (m : GMotion) (h : List Int) (a d t : Nat) : (Zs m h a d t).Body.Mesh.Triangles.length ≤ m.Body.Mesh.Triangles.length := ZaS m.Body _ t
theorem ZbO (m : GMotion) (h : List Int) (a d t : Nat) : (Zs m h a d t).Body.Weights.length ≤ m.Body.Weights.length := ZaT m.Body _ t
theorem ZbP (m : GMotion) (h : List Int) (a d t : Nat) : (Zs m h a d t).Body.Springs.length ≤ m.Body.Springs.length := ZaU m.Body _ t
theorem ZbQ (m : GMotion) (h : List Int) (a d t : Nat) : (Zs m h a d t).Speeds.length ≤ m.Body.Mesh.Places.length := by
  unfold Zs; simp only [Z4e, ZaV]; exact Nat.le_refl _
theorem ZcQ (Y2 : GMotion) (Y3 : (List Int)) (Yc : Nat) (Yd : Nat) (Y8 : Nat) (hp0 : Y2.Body.Mesh.Places.length ≤ 1073741824) (hp1 : Y2.Body.Mesh.Triangles.length ≤ 1073741824) (hp2 : ∀ t ∈ Y2.Body.Mesh.Triangles, t.length ≤ 1073741824) (hp3 : Y2.Body.Springs.length ≤ 1073741824) (hp4 : Y2.Body.Weights.length ≤ 1073741824) (hp5 : Y2.Speeds.length ≤ 1073741824) (hp6 : Y3.length ≤ 1073741824) (hp7 : OkBd Y2.Body) (hp8 : Y2.Speeds.length = Y2.Body.Mesh.Places.length) (hp9 : OkIx Y2.Body.Mesh.Places.length (fun x => x) Y3)  : Fn prog 80 [.agg [.sl (Y2.Body.Mesh.Places.map GVector.cells), .sl (Y2.Body.Mesh.Triangles.map (cL (cI .i64))), .sl (Y2.Body.Springs.map GSpring.cells), .f .f32 Y2.Body.Film, .f .f32 Y2.Body.Bend, .sl (Y2.Body.Weights.map (cF .f32)), .f .f32 Y2.Body.Fall.X, .f .f32 Y2.Body.Fall.Y, .f .f32 Y2.Body.Fall.Z, .sl (Y2.Speeds.map GVector.cells)], .sl (Y3.map (cI .i64)), .f .f32 Yc, .f .f32 Yd, .f .f32 Y8] (.agg [.own 0, .own 1, .own 2, .f .f32 ((Zs Y2 Y3 Yc Yd Y8).Body.Film), .f .f32 ((Zs Y2 Y3 Yc Yd Y8).Body.Bend), .own 3, .f .f32 ((Zs Y2 Y3 Yc Yd Y8).Body.Fall.X), .f .f32 ((Zs Y2 Y3 Yc Yd Y8).Body.Fall.Y), .f .f32 ((Zs Y2 Y3 Yc Yd Y8).Body.Fall.Z), .own 4]) [.vec 40 3 (((Zs Y2 Y3 Yc Yd Y8).Body.Mesh.Places).map GVector.cells) false, .nest 49 (((Zs Y2 Y3 Yc Yd Y8).Body.Mesh.Triangles).map fun l => l.map (cI .i64)) false, .vec 133 4 (((Zs Y2 Y3 Yc Yd Y8).Body.Springs).map GSpring.cells) false, .vec 27 1 (((Zs Y2 Y3 Yc Yd Y8).Body.Weights).map (cF .f32)) false, .vec 40 3 (((Zs Y2 Y3 Yc Yd Y8).Speeds).map GVector.cells) false] := by
 have y0 : (Zp Y2 Y3 Yc Yd Y8).length ≤ 1073741824 := (by have q := ZaV Y2 Y3 Yc Yd Y8; simp only [Z4e]; omega)
 have y1 : OkTris Y2.Body.Mesh.Places.length Y2.Body.Mesh.Triangles := (by exact hp7.e.tris)
 have y2 : (Zp Y2 Y3 Yc Yd Y8).length ≤ Y2.Body.Mesh.Places.length := (by have q := ZaV Y2 Y3 Yc Yd Y8; simp only [Z4e]; omega)
 have l1 := (ZaR Y2.Body (Zp Y2 Y3 Yc Yd Y8) Y8)
 have l2 := (ZaS Y2.Body (Zp Y2 Y3 Yc Yd Y8) Y8)
 have l3 := (ZaT Y2.Body (Zp Y2 Y3 Yc Yd Y8) Y8)
 have l4 := (ZaU Y2.Body (Zp Y2 Y3 Yc Yd Y8) Y8)
 refine fnS E0Ok Z5 (c := bodyOf f80) [] (.agg [.own 0, .own 1, .own 2, .f .f32 ((ZX Y2.Body (Zp Y2 Y3 Yc Yd Y8) Y8).Film), .f .f32 ((ZX Y2.Body (Zp Y2 Y3 Yc Yd Y8) Y8).Bend), .own 3, .f .f32 ((ZX Y2.Body (Zp Y2 Y3 Yc Yd Y8) Y8).Fall.X), .f .f32 ((ZX Y2.Body (Zp Y2 Y3 Yc Yd Y8) Y8).Fall.Y), .f .f32 ((ZX Y2.Body (Zp Y2 Y3 Yc Yd Y8) Y8).Fall.Z), .own 4]) [.vec 40 3 (((ZX Y2.Body (Zp Y2 Y3 Yc Yd Y8) Y8).Mesh.Places).map GVector.cells) false, .nest 49 (((ZX Y2.Body (Zp Y2 Y3 Yc Yd Y8) Y8).Mesh.Triangles).map fun l => l.map (cI .i64)) false, .vec 133 4 (((ZX Y2.Body (Zp Y2 Y3 Yc Yd Y8) Y8).Springs).map GSpring.cells) false, .vec 27 1 (((ZX Y2.Body (Zp Y2 Y3 Yc Yd Y8) Y8).Weights).map (cF .f32)) false, .vec 40 3 ((Zp Y2 Y3 Yc Yd Y8).map GVector.cells) false] func80 (sF (ZcO Y2.Body Y3 hp0 hp1 hp2 hp3 hp4 hp6 hp7 hp9) <| sZ GVector.cells (Zr Y2.Body Y3) <| sL (mR false [0, 6, 4, 2, 5, 6, 39]) 4 (lp_cast (st2 := ⟨.agg [.sl (Y2.Body.Mesh.Places.map GVector.cells), .sl (Y2.Body.Mesh.Triangles.map (cL (cI .i64))), .sl (Y2.Body.Springs.map GSpring.cells), .f .f32 Y2.Body.Film, .f .f32 Y2.Body.Bend, .sl (Y2.Body.Weights.map (cF .f32)), .f .f32 Y2.Body.Fall.X, .f .f32 Y2.Body.Fall.Y, .f .f32 Y2.Body.Fall.Z, .sl (Y2.Speeds.map GVector.cells)] :: .sl (Y3.map (cI .i64)) :: .f .f32 Yc :: .f .f32 Yd :: .f .f32 Y8 :: .ptr 0 0 0 :: an 4 (.ptr 1 0 0 :: .own 2 :: an 5 (.ptr 0 0 0 :: .agg [.sl (Y2.Body.Mesh.Places.map GVector.cells), .sl (Y2.Body.Mesh.Triangles.map (cL (cI .i64))), .sl (Y2.Body.Springs.map GSpring.cells), .f .f32 Y2.Body.Film, .f .f32 Y2.Body.Bend, .sl (Y2.Body.Weights.map (cF .f32)), .f .f32 Y2.Body.Fall.X, .f .f32 Y2.Body.Fall.Y, .f .f32 Y2.Body.Fall.Z] :: .sl (Y3.map (cI .i64)) :: .own 3 :: .i .i64 ((Zr Y2.Body Y3).length : Int) :: .i .i64 0 :: an 39 [])), [.box 66 [.sl (Y2.Body.Mesh.Places.map GVector.cells), .sl (Y2.Body.Mesh.Triangles.map (cL (cI .i64))), .sl (Y2.Body.Springs.map GSpring.cells), .f .f32 Y2.Body.Film, .f .f32 Y2.Body.Bend, .sl (Y2.Body.Weights.map (cF .f32)), .f .f32 Y2.Body.Fall.X, .f .f32 Y2.Body.Fall.Y, .f .f32 Y2.Body.Fall.Z, .sl (Y2.Speeds.map GVector.cells)], .box 66 [.nils, .nils, .nils, .f .f32 0, .f .f32 0, .nils, .f .f32 0, .f .f32 0, .f .f32 0, .nils], .vec 40 3 ([] : List (List AV)) false, .vec 40 3 ((Zr Y2.Body Y3).map GVector.cells) false]⟩) (lp_val (Z5O Y2 Y3 Yc Yd Y8) (x := (Z1C Y2 Y3 Yc Yd Y8)) (Zbn Y2 Y3 Yc Yd Y8 hp0 hp1 hp2 hp3 hp4 hp5 hp6 hp7 hp8 hp9 ((((Zr Y2.Body Y3).length : Int) - 0).toNat + 1) 0 ([] : List GVector) (show 0 ≤ 0 from (by omega)) (show (([] : List GVector).length : Int) = 0 from (by simp)) (Nat.lt_succ_self _)) rfl) (by simp [Z5P, GVector.cells])) <| sZ (cI .i64) Y3 <| sL Z78 4 (lp_val (Z5Q Y2 Y3 Yc Yd Y8) (x := (Zp Y2 Y3 Yc Yd Y8)) (Zbo Y2 Y3 Yc Yd Y8 hp0 hp1 hp2 hp3 hp4 hp5 hp6 hp7 hp8 hp9 (((Y3.length : Int) - 0).toNat + 1) 0 (Z1C Y2 Y3 Yc Yd Y8) (show 0 ≤ 0 from (by omega)) (show (Z1C Y2 Y3 Yc Yd Y8).length = (Z1C Y2 Y3 Yc Yd Y8).length from (by simp)) (Nat.lt_succ_self _)) rfl) <| sF (Zff Y2.Body (Zp Y2 Y3 Yc Yd Y8) Y8 hp0 hp1 hp2 hp3 hp4 y0 y1 y2) <| sK [4, 5, 6, 7, 2] sN) rfl (by kernel_rfl) (by kernel_rfl) rfl ?_ ?_
 · rfl
 · simp [Zs]
theorem ZgB (m : GMotion) (e : Z2j m = true) : m.Speeds.length = m.Body.Mesh.Places.length := by
  unfold Z2j at e
  cases h1 : Z1u m.Body <;> rw [h1] at e <;> (try (cases e; done))
  rw [cond_true, beq_iff_eq] at e
  omega
def Z2 (Y2 : GMotion) (Y3 : (List Int)) (Yc : Nat) (Yd : Nat) (Y8 : Nat) : GMotion × Bool := (cond (Z2j Y2)
  (cond (Z3w Y2.Body Y3)
    (cond (Z2Y Yc)
      (cond (Z2Y Y8)
        ((Zs Y2 Y3 Yc Yd Y8), true)
        ((⟨(⟨(⟨([] : List GVector), ([] : List (List Int))⟩ : GMesh), ([] : List GSpring), 0, 0, ([] : List Nat), (⟨0, 0, 0⟩ : GVector)⟩ : GBody), ([] : List GVector)⟩ : GMotion), false))
      ((⟨(⟨(⟨([] : List GVector), ([] : List (List Int))⟩ : GMesh), ([] : List GSpring), 0, 0, ([] : List Nat), (⟨0, 0, 0⟩ : GVector)⟩ : GBody), ([] : List GVector)⟩ : GMotion), false))
    ((⟨(⟨(⟨([] : List GVector), ([] : List (List Int))⟩ : GMesh), ([] : List GSpring), 0, 0, ([] : List Nat), (⟨0, 0, 0⟩ : GVector)⟩ : GBody), ([] : List GVector)⟩ : GMotion), false))
  ((⟨(⟨(⟨([] : List GVector), ([] : List (List Int))⟩ : GMesh), ([] : List GSpring), 0, 0, ([] : List Nat), (⟨0, 0, 0⟩ : GVector)⟩ : GBody), ([] : List GVector)⟩ : GMotion), false))
theorem Z4v (m : GMotion) (h : List Int) (a d t : Nat) : Z2 m h a d t = Z6 m h a d t := by
  unfold Z2 Z6
  have e0 : Z2X m h a t = cond (Z2j m) (cond (Z3w m.Body h) (cond (Z2Y a) (Z2Y t) false) false) false := by
    unfold Z2X
    rw [ZaP, Zcd, show Z2Y = Z27 from rfl]
    unfold Z3A
    cases Z1o m.Body <;> rfl
  cases e : Z2X m h a t with
  | true =>
    obtain ⟨h1, h2, h3, h4, h5⟩ := ZdH m h a t e
    have hb := Ze5 _ h1
    have hl := (Zeu _ (Zet _ h1)).1
    rw [ZaP, Zcd, h1, h3, show Z2Y = Z27 from rfl, h4, h5, cond_true, cond_true, ZeY m h a d t hb h2 (Ze7 _ _ (by omega) h3)]
    have : Z3A m = true := by unfold Z3A; rw [h1, cond_true, beq_iff_eq]; omega
    rw [this]
    rfl
  | false =>
    rw [e] at e0
    cases h1 : Z2j m with
    | false => rfl
    | true =>
      cases h2 : Z3w m.Body h with
      | false => rfl
      | true =>
        cases h3 : Z2Y a with
        | false => rfl
        | true =>
          cases h4 : Z2Y t with
          | false => rfl
          | true => rw [h1, h2, h3, h4] at e0; cases e0
theorem Z8K (m : GMotion) (h : List Int) (a d t : Nat) : (Z2 m h a d t).1.Body.Mesh.Places.length ≤ m.Body.Mesh.Places.length := by rw [Z4v]; exact Z8A m h a d t
theorem Z8L (m : GMotion) (h : List Int) (a d t : Nat) : (Z2 m h a d t).1.Body.Mesh.Triangles.length ≤ m.Body.Mesh.Triangles.length := by rw [Z4v]; exact Z8B m h a d t
theorem Z8M (m : GMotion) (h : List Int) (a d t : Nat) : (Z2 m h a d t).1.Body.Weights.length ≤ m.Body.Weights.length := by rw [Z4v]; exact Z8C m h a d t
theorem Z8N (m : GMotion) (h : List Int) (a d t : Nat) : (Z2 m h a d t).1.Body.Springs.length ≤ m.Body.Springs.length := by rw [Z4v]; exact Z8D m h a d t
theorem Z8O (m : GMotion) (h : List Int) (a d t : Nat) : (Z2 m h a d t).1.Speeds.length ≤ m.Speeds.length := by rw [Z4v]; exact Z8E m h a d t
theorem Z6j (m : GMotion) (h : List Int) (a d t : Nat) : ∀ u ∈ (Z2 m h a d t).1.Body.Mesh.Triangles, u ∈ m.Body.Mesh.Triangles := by rw [Z4v]; exact Z8F m h a d t
theorem Z9D (Y2 : GMotion) (Y3 : (List Int)) (Yc : Nat) (Yd : Nat) (Y8 : Nat) (hp0 : Y2.Body.Mesh.Places.length ≤ 1073741824) (hp1 : Y2.Body.Mesh.Triangles.length ≤ 1073741824) (hp2 : ∀ t ∈ Y2.Body.Mesh.Triangles, t.length ≤ 1073741824) (hp3 : Y2.Body.Springs.length ≤ 1073741824) (hp4 : Y2.Body.Weights.length ≤ 1073741824) (hp5 : Y2.Speeds.length ≤ 1073741824) (hp6 : Y3.length ≤ 1073741824)  : Fn prog 34 [.agg [.sl (Y2.Body.Mesh.Places.map GVector.cells), .sl (Y2.Body.Mesh.Triangles.map (cL (cI .i64))), .sl (Y2.Body.Springs.map GSpring.cells), .f .f32 Y2.Body.Film, .f .f32 Y2.Body.Bend, .sl (Y2.Body.Weights.map (cF .f32)), .f .f32 Y2.Body.Fall.X, .f .f32 Y2.Body.Fall.Y, .f .f32 Y2.Body.Fall.Z, .sl (Y2.Speeds.map GVector.cells)], .sl (Y3.map (cI .i64)), .f .f32 Yc, .f .f32 Yd, .f .f32 Y8] (.tup [.agg [.own 0, .own 1, .own 2, .f .f32 ((Z2 Y2 Y3 Yc Yd Y8).1.Body.Film), .f .f32 ((Z2 Y2 Y3 Yc Yd Y8).1.Body.Bend), .own 3, .f .f32 ((Z2 Y2 Y3 Yc Yd Y8).1.Body.Fall.X), .f .f32 ((Z2 Y2 Y3 Yc Yd Y8).1.Body.Fall.Y), .f .f32 ((Z2 Y2 Y3 Yc Yd Y8).1.Body.Fall.Z), .own 4], .b ((Z2 Y2 Y3 Yc Yd Y8).2)]) [.vec 40 3 (((Z2 Y2 Y3 Yc Yd Y8).1.Body.Mesh.Places).map GVector.cells) false, .nest 49 (((Z2 Y2 Y3 Yc Yd Y8).1.Body.Mesh.Triangles).map fun l => l.map (cI .i64)) false, .vec 133 4 (((Z2 Y2 Y3 Yc Yd Y8).1.Body.Springs).map GSpring.cells) false, .vec 27 1 (((Z2 Y2 Y3 Yc Yd Y8).1.Body.Weights).map (cF .f32)) false, .vec 40 3 (((Z2 Y2 Y3 Yc Yd Y8).1.Speeds).map GVector.cells) false] := by
 have p {a C} (s : Scr a C) := sF (Zcc Y2 hp0 hp1 hp2 hp3 hp4 hp5) <| s
 cases h0 : (Z2j Y2) with
 | true =>
  have q {a C} (s : Scr a C) := p (sB' h0 <| sB' h0 <| sB' h0 <| sB' h0 <| sF (ZeN Y2.Body Y3 hp0 hp1 hp2 hp3 hp4 hp6) <| sB' h0 <| sB' h0 <| s)
  clear p
  cases h1 : (Z3w Y2.Body Y3) with
  | true =>
   have p {a C} (s : Scr a C) := q (sB' h1 <| sB' h1 <| sF (Zbs Yc) <| sB' h1 <| sB' h1 <| s)
   clear q
   cases h2 : (Z2Y Yc) with
   | true =>
    have q {a C} (s : Scr a C) := p (sB' h2 <| sB' h2 <| sF (Zbs Y8) <| sB' h2 <| sB' h2 <| s)
    clear p
    cases h3 : (Z2Y Y8) with
    | true =>
     have y0 : OkBd Y2.Body := by clear q; exact (by exact Ze5 _ (Zev _ _ (by assumption)).1)
     have y1 : Y2.Speeds.length = Y2.Body.Mesh.Places.length := by clear q; exact (by exact ZgB _ (by assumption))
     have y2 : OkIx Y2.Body.Mesh.Places.length (fun x => x) Y3 := by clear q; exact (by exact Ze7 _ _ (by assumption) (Zev _ _ (by assumption)).2)
     have l1 := (ZbM Y2 Y3 Yc Yd Y8)
     have l2 := (ZbN Y2 Y3 Yc Yd Y8)
     have l3 := (ZbO Y2 Y3 Yc Yd Y8)
     have l4 := (ZbP Y2 Y3 Yc Yd Y8)
     have l5 := (ZbQ Y2 Y3 Yc Yd Y8)
     refine fnS E0Ok Z5 (c := bodyOf f34) [] (.tup [.agg [.own 0, .own 1, .own 2, .f .f32 ((Zs Y2 Y3 Yc Yd Y8).Body.Film), .f .f32 ((Zs Y2 Y3 Yc Yd Y8).Body.Bend), .own 3, .f .f32 ((Zs Y2 Y3 Yc Yd Y8).Body.Fall.X), .f .f32 ((Zs Y2 Y3 Yc Yd Y8).Body.Fall.Y), .f .f32 ((Zs Y2 Y3 Yc Yd Y8).Body.Fall.Z), .own 4], .b true]) [.vec 40 3 (((Zs Y2 Y3 Yc Yd Y8).Body.Mesh.Places).map GVector.cells) false, .nest 49 (((Zs Y2 Y3 Yc Yd Y8).Body.Mesh.Triangles).map fun l => l.map (cI .i64)) false, .vec 133 4 (((Zs Y2 Y3 Yc Yd Y8).Body.Springs).map GSpring.cells) false, .vec 27 1 (((Zs Y2 Y3 Yc Yd Y8).Body.Weights).map (cF .f32)) false, .vec 40 3 (((Zs Y2 Y3 Yc Yd Y8).Speeds).map GVector.cells) false] func34 (q (sB' h3 <| sF (ZcQ Y2 Y3 Yc Yd Y8 hp0 hp1 hp2 hp3 hp4 hp5 hp6 y0 y1 y2) <| sK [2, 3, 4, 5, 6] sN)) rfl (by kernel_rfl) (by kernel_rfl) rfl ?_ ?_
     · simp only [Z2, h0, h1, h2, h3, cond_true]
     · simp [Z2, h0, h1, h2, h3]
    | false =>
     refine fnS E0Ok Z5 (c := bodyOf f34) [(.row 1 0, .vec 40 3 [] false), (.row 1 1, .nest 49 [] false), (.row 1 2, .vec 133 4 [] false), (.row 1 5, .vec 27 1 [] false), (.row 1 9, .vec 40 3 [] false)] (.tup [.agg [.own 0, .own 1, .own 2, .f .f32 0, .f .f32 0, .own 3, .f .f32 0, .f .f32 0, .f .f32 0, .own 4], .b false]) [.vec 40 3 [] false, .nest 49 [] false, .vec 133 4 [] false, .vec 27 1 [] false, .vec 40 3 [] false] func34 (q (sB' h3 <| sK [2, 3, 4, 5, 6] sN)) rfl (by kernel_rfl) (by kernel_rfl) rfl ?_ ?_
     · simp only [Z2, h0, h1, h2, h3, cond_true, cond_false]
     · simp [Z2, h0, h1, h2, h3, GVector.cells, cL, cI, GSpring.cells, cF]
   | false =>
    refine fnS E0Ok Z5 (c := bodyOf f34) [(.row 1 0, .vec 40 3 [] false), (.row 1 1, .nest 49 [] false), (.row 1 2, .vec 133 4 [] false), (.row 1 5, .vec 27 1 [] false), (.row 1 9, .vec 40 3 [] false)] (.tup [.agg [.own 0, .own 1, .own 2, .f .f32 0, .f .f32 0, .own 3, .f .f32 0, .f .f32 0, .f .f32 0, .own 4], .b false]) [.vec 40 3 [] false, .nest 49 [] false, .vec 133 4 [] false, .vec 27 1 [] false, .vec 40 3 [] false] func34 (p (sB' h2 <| sB' h2 <| sB' h2 <| sB' h2 <| sB (show true = true from rfl) <| sK [2, 3, 4, 5, 6] sN)) rfl (by kernel_rfl) (by kernel_rfl) rfl ?_ ?_
    · simp only [Z2, h0, h1, h2, cond_true, cond_false]
    · simp [Z2, h0, h1, h2, GVector.cells, cL, cI, GSpring.cells, cF]
  | false =>
   refine fnS E0Ok Z5 (c := bodyOf f34) [(.row 1 0, .vec 40 3 [] false), (.row 1 1, .nest 49 [] false), (.row 1 2, .vec 133 4 [] false), (.row 1 5, .vec 27 1 [] false), (.row 1 9, .vec 40 3 [] false)] (.tup [.agg [.own 0, .own 1, .own 2, .f .f32 0, .f .f32 0, .own 3, .f .f32 0, .f .f32 0, .f .f32 0, .own 4], .b false]) [.vec 40 3 [] false, .nest 49 [] false, .vec 133 4 [] false, .vec 27 1 [] false, .vec 40 3 [] false] func34 (q (sB' h1 <| sB' h1 <| sB' h1 <| sB' h1 <| sB (show true = true from rfl) <| sB (show true = true from rfl) <| sB (show true = true from rfl) <| sB (show true = true from rfl) <| sB (show true = true from rfl) <| sK [2, 3, 4, 5, 6] sN)) rfl (by kernel_rfl) (by kernel_rfl) rfl ?_ ?_
   · simp only [Z2, h0, h1, cond_true, cond_false]
   · simp [Z2, h0, h1, GVector.cells, cL, cI, GSpring.cells, cF]
 | false =>
  refine fnS E0Ok Z5 (c := bodyOf f34) [(.row 1 0, .vec 40 3 [] false), (.row 1 1, .nest 49 [] false), (.row 1 2, .vec 133 4 [] false), (.row 1 5, .vec 27 1 [] false), (.row 1 9, .vec 40 3 [] false)] (.tup [.agg [.own 0, .own 1, .own 2, .f .f32 0, .f .f32 0, .own 3, .f .f32 0, .f .f32 0, .f .f32 0, .own 4], .b false]) [.vec 40 3 [] false, .nest 49 [] false, .vec 133 4 [] false, .vec 27 1 [] false, .vec 40 3 [] false] func34 (p (sB' h0 <| sB' h0 <| sB' h0 <| sB' h0 <| sB' h0 <| sB' h0 <| sB (show true = true from rfl) <| sB (show true = true from rfl) <| sB (show true = true from rfl) <| sB (show true = true from rfl) <| sB (show true = true from rfl) <| sB (show true = true from rfl) <| sB (show true = true from rfl) <| sB (show true = true from rfl) <| sB (show true = true from rfl) <| sK [2, 3, 4, 5, 6] sN)) rfl (by kernel_rfl) (by kernel_rfl) rfl ?_ ?_
  · simp only [Z2, h0, cond_false]
  · simp [Z2, h0, GVector.cells, cL, cI, GSpring.cells, cF]
def ZD (Y4 : Nat) (Yi : Nat) : Bool := (cond (fcmp .neq .f64 Y4 Y4)
  (fcmp .neq .f64 Yi Yi)
  (cond (fcmp .neq .f64 Yi Yi)
    false
    (cond (fcmp .eql .f64 Y4 0)
      (cond (fcmp .eql .f64 Yi 0)
        ((fcmp .gtr .f64 (fop .quo .f64 4607182418800017408 Y4) 0) == (fcmp .gtr .f64 (fop .quo .f64 4607182418800017408 Yi) 0))
        (fcmp .eql .f64 Y4 Yi))
      (fcmp .eql .f64 Y4 Yi))))
theorem Z3B (Y4 : Nat) (Yi : Nat)   : Fn prog 23 [.f .f64 Y4, .f .f64 Yi] (.b (ZD Y4 Yi)) [] := by
 cases h0 : (fcmp .neq .f64 Y4 Y4) with
 | true =>
  refine fnS E0Ok Z5 (c := bodyOf f23) [] (.b (fcmp .neq .f64 Yi Yi)) [] func23 (sB h0 <| sB h0 <| sB h0 <| sB h0 <| sB (show true = true from rfl) <| sB h0 <| sB h0 <| sB h0 <| sB h0 <| sK [] sN) rfl (by kernel_rfl) (by kernel_rfl) rfl ?_ ?_
  · simp only [ZD, h0, cond_true]
  · rfl
 | false =>
  have p {a C} (s : Scr a C) := sB h0 <| sB h0 <| sB h0 <| sB h0 <| s
  cases h1 : (fcmp .neq .f64 Yi Yi) with
  | true =>
   refine fnS E0Ok Z5 (c := bodyOf f23) [] (.b false) [] func23 (p (sB h1 <| sB h0 <| sB h0 <| sB h0 <| sB h0 <| sK [] sN)) rfl (by kernel_rfl) (by kernel_rfl) rfl ?_ ?_
   · simp only [ZD, h0, h1, cond_true, cond_false]
   · rfl
  | false =>
   have q {a C} (s : Scr a C) := p (sB h1 <| s)
   clear p
   cases h2 : (fcmp .eql .f64 Y4 0) with
   | true =>
    have p {a C} (s : Scr a C) := q (sB h2 <| sB h2 <| sB h2 <| s)
    clear q
    cases h3 : (fcmp .eql .f64 Yi 0) with
    | true =>
     refine fnS E0Ok Z5 (c := bodyOf f23) [] (.b ((fcmp .gtr .f64 (fop .quo .f64 4607182418800017408 Y4) 0) == (fcmp .gtr .f64 (fop .quo .f64 4607182418800017408 Yi) 0))) [] func23 (p (sB h3 <| sK [] sN)) rfl (by kernel_rfl) (by kernel_rfl) rfl ?_ ?_
     · simp only [ZD, h0, h1, h2, h3, cond_true, cond_false]
     · rfl
    | false =>
     refine fnS E0Ok Z5 (c := bodyOf f23) [] (.b (fcmp .eql .f64 Y4 Yi)) [] func23 (p (sB h3 <| sK [] sN)) rfl (by kernel_rfl) (by kernel_rfl) rfl ?_ ?_
     · simp only [ZD, h0, h1, h2, h3, cond_true, cond_false]
     · rfl
   | false =>
    refine fnS E0Ok Z5 (c := bodyOf f23) [] (.b (fcmp .eql .f64 Y4 Yi)) [] func23 (q (sB h2 <| sB h2 <| sB h2 <| sB (show false = false from rfl) <| sK [] sN)) rfl (by kernel_rfl) (by kernel_rfl) rfl ?_ ?_
    · simp only [ZD, h0, h1, h2, cond_false]
    · rfl
theorem Z7K (x : Nat) : ZD x x = true := by
  unfold ZD
  cases h : fcmp .neq .f64 x x
  · simp only [cond_false]
    have h2 : fcmp .eql .f64 x x = true := by
      unfold fcmp at h ⊢
      simpa using h
    cases fcmp .eql .f64 x 0 <;> simp [h2]
  · rfl
def Z2M (Y4 : GVector) (Yi : GVector) : Bool := (cond (ZD (fcv .f32 .f64 Y4.X) (fcv .f32 .f64 Yi.X))
  (cond (ZD (fcv .f32 .f64 Y4.Y) (fcv .f32 .f64 Yi.Y))
    (cond (ZD (fcv .f32 .f64 Y4.Z) (fcv .f32 .f64 Yi.Z))
      true
      false)
    false)
  false)
theorem Zam (Y4 : GVector) (Yi : GVector)   : Fn prog 58 [.agg [.f .f32 Y4.X, .f .f32 Y4.Y, .f .f32 Y4.Z], .agg [.f .f32 Yi.X, .f .f32 Yi.Y, .f .f32 Yi.Z]] (.b (Z2M Y4 Yi)) [] := by
 have p {a C} (s : Scr a C) := sC (widenOk Y4.X) <| sC (widenOk Yi.X) <| sF (Z3B (fcv .f32 .f64 Y4.X) (fcv .f32 .f64 Yi.X)) <| s
 cases h0 : (ZD (fcv .f32 .f64 Y4.X) (fcv .f32 .f64 Yi.X)) with
 | true =>
  have q {a C} (s : Scr a C) := p (sB' h0 <| sC (widenOk Y4.Y) <| sC (widenOk Yi.Y) <| sF (Z3B (fcv .f32 .f64 Y4.Y) (fcv .f32 .f64 Yi.Y)) <| s)
  clear p
  cases h1 : (ZD (fcv .f32 .f64 Y4.Y) (fcv .f32 .f64 Yi.Y)) with
  | true =>
   have p {a C} (s : Scr a C) := q (sB' h1 <| sC (widenOk Y4.Z) <| sC (widenOk Yi.Z) <| sF (Z3B (fcv .f32 .f64 Y4.Z) (fcv .f32 .f64 Yi.Z)) <| s)
   clear q
   cases h2 : (ZD (fcv .f32 .f64 Y4.Z) (fcv .f32 .f64 Yi.Z)) with
   | true =>
    refine fnS E0Ok Z5 (c := bodyOf f58) [] (.b true) [] func58 (p (sB' h2 <| sK [] sN)) rfl (by kernel_rfl) (by kernel_rfl) rfl ?_ ?_
    · simp only [Z2M, h0, h1, h2, cond_true]
    · rfl
   | false =>
    refine fnS E0Ok Z5 (c := bodyOf f58) [] (.b false) [] func58 (p (sB' h2 <| sK [] sN)) rfl (by kernel_rfl) (by kernel_rfl) rfl ?_ ?_
    · simp only [Z2M, h0, h1, h2, cond_true, cond_false]
    · rfl
  | false =>
   refine fnS E0Ok Z5 (c := bodyOf f58) [] (.b false) [] func58 (q (sB' h1 <| sK [] sN)) rfl (by kernel_rfl) (by kernel_rfl) rfl ?_ ?_
   · simp only [Z2M, h0, h1, cond_true, cond_false]
   · rfl
 | false =>
  refine fnS E0Ok Z5 (c := bodyOf f58) [] (.b false) [] func58 (p (sB' h0 <| sK [] sN)) rfl (by kernel_rfl) (by kernel_rfl) rfl ?_ ?_
  · simp only [Z2M, h0, cond_false]
  · rfl
theorem Z9o (a : GVector) : Z2M a a = true := by
  simp [Z2M, Z7K]
def Z20 (Y4 : (List GVector)) (Yi : (List GVector)) : Nat → Int → (Unit) ⊕ (Unit)
  | 0, _ => .inl default
  | k + 1, Y7 => (cond (decide (Y7 < (Y4.length : Int)))
    (cond (Z2M (Y4.getD Y7.toNat default) (Yi.getD Y7.toNat default))
      (Z20 Y4 Yi k (Y7 + 1))
      (.inl ()))
    (.inr ()))
def Z51 (Y4 : (List GVector)) (Yi : (List GVector)) : (Unit) ⊕ (Unit) → Ex × St
  | .inl r => (.ret, ⟨an 4 (.b false :: an 22 []), []⟩)
  | .inr r => ((.exit 0), ⟨.sl (Y4.map GVector.cells) :: .sl (Yi.map GVector.cells) :: an 4 (.sl (Y4.map GVector.cells) :: .i .i64 (Y4.length : Int) :: .sl (Yi.map GVector.cells) :: .i .i64 (Yi.length : Int) :: .b ((Y4.length : Int) != (Yi.length : Int)) :: an 16 []), []⟩)
def ZbR (Y4 : (List GVector)) (Yi : (List GVector)) (Y7 : Int) : St := ⟨.sl (Y4.map GVector.cells) :: .sl (Yi.map GVector.cells) :: .any :: .any :: .any :: .i .i64 Y7 :: .sl (Y4.map GVector.cells) :: .i .i64 (Y4.length : Int) :: .sl (Yi.map GVector.cells) :: .i .i64 (Yi.length : Int) :: .b ((Y4.length : Int) != (Yi.length : Int)) :: an 16 [], []⟩
theorem Z8P (Y4 : (List GVector)) (Yi : (List GVector)) (hp0 : Y4.length ≤ 1073741824) (hp1 : Yi.length ≤ 1073741824) (ZfK : ((Y4.length : Int) != (Yi.length : Int)) = false) : ∀ (k : Nat) (Y7 : Int) (Z7L : 0 ≤ Y7) (hk : ((Y4.length : Int) - Y7).toNat < k), Lp prog 0 (sub (bodyOf f15) [1, 1, 0, 1, 0, 0]) (ZbR Y4 Yi Y7) (Z51 Y4 Yi (Z20 Y4 Yi k Y7)).1 (Z51 Y4 Yi (Z20 Y4 Yi k Y7)).2 := by
 intro k
 induction k with
 | zero => intro Y7 Z7L hk; exact absurd hk (Nat.not_lt_zero _)
 | succ k ih =>
  intro Y7 Z7L hk
  have p {a C} (s : Scr a C) := sZ GVector.cells Y4 <| s
  cases Yl : (decide (Y7 < (Y4.length : Int))) with
  | true =>
   have Yw := of_decide_eq_true Yl
   have YF : (0 : Int) ≤ Y7 := by clear p; exact (by assumption)
   have YG : Y7 < (Y4.length : Int) := by clear p; exact (by assumption)
   have YH : Y7 < (Yi.length : Int) := by clear p; exact (by simp_all <;> omega)
   have q {a C} (s : Scr a C) := p (sB Yl <| sK [8, 8] <| sG GVector.cells Y4 Y7 YF YG <| sG GVector.cells Yi Y7 YF YH <| sF (Zam (Y4.getD Y7.toNat default) (Yi.getD Y7.toNat default)) <| s)
   clear p
   cases Yr : (Z2M (Y4.getD Y7.toNat default) (Yi.getD Y7.toNat default)) with
   | true =>
    have YI : (-9223372036854775808 : Int) ≤ (Y7 + 1) := by clear q; exact (by omega)
    have YP : (Y7 + 1) ≤ (9223372036854775807 : Int) := by clear q; exact (by omega)
    have e : Z20 Y4 Yi (k + 1) Y7 = (Z20 Y4 Yi k (Y7 + 1)) := by simp only [Z20, Yl, Yr, cond_true]
    rw [e]
    exact nextR E0Ok Z5 [] (mR false [0, 2, 3, 6, 16]) [] (ih (Y7 + 1) (show 0 ≤ (Y7 + 1) from (by omega)) (by omega)) (q (sB' Yr <| sI (Y7 + 1) YI YP <| sN)) (by kernel_rfl)
   | false =>
    have e : Z20 Y4 Yi (k + 1) Y7 = (.inl ()) := by simp only [Z20, Yl, Yr, cond_true, cond_false]
    rw [e]
    exact outR (e := .ret) E0Ok Z5 [] (mR false [4, 1, 22]) [] (q (sB' Yr <| sN)) (by kernel_rfl) (by intro h; cases h)
  | false =>
   have Yw := of_decide_eq_false Yl
   have e : Z20 Y4 Yi (k + 1) Y7 = (.inr ()) := by simp only [Z20, Yl, cond_false]
   rw [e]
   exact outR (e := (.exit 0)) E0Ok Z5 [] (mR false [0, 2, 4, 5, 16]) [] (p (sB Yl <| sN)) (by kernel_rfl) (by intro h; cases h)
def Z42 (Y4 : (List GVector)) (Yi : (List GVector)) : (Unit) ⊕ (Unit) := (Z20 Y4 Yi (((Y4.length : Int) - 0).toNat + 1) 0)
def Z38 (Y4 : (List GVector)) (Yi : (List GVector)) : Bool := (cond ((Y4.length : Int) != (Yi.length : Int))
  false
  (match (Z42 Y4 Yi) with
    | .inl r2 => false
    | .inr r2 => true))
theorem Za5 (Y4 : (List GVector)) (Yi : (List GVector)) (hp0 : Y4.length ≤ 1073741824) (hp1 : Yi.length ≤ 1073741824)  : Fn prog 15 [.sl (Y4.map GVector.cells), .sl (Yi.map GVector.cells)] (.b (Z38 Y4 Yi)) [] := by
 have p {a C} (s : Scr a C) := sZ GVector.cells Y4 <| sZ GVector.cells Yi <| s
 cases h0 : ((Y4.length : Int) != (Yi.length : Int)) with
 | true =>
  have gh0 := bne_iff_ne.1 h0
  refine fnS E0Ok Z5 (c := bodyOf f15) [] (.b false) [] func15 (p (sB h0 <| sK [] sN)) rfl (by kernel_rfl) (by kernel_rfl) rfl ?_ ?_
  · simp only [Z38, h0, cond_true]
  · rfl
 | false =>
  have gh0 := bne_eq_false_iff_eq.1 h0
  have q {a C} (s : Scr a C) := p (sB h0 <| s)
  clear p
  cases h1 : (Z42 Y4 Yi) with
  | inl r2 =>
   refine fnS E0Ok Z5 (c := bodyOf f15) [] (.b false) [] func15 (q (sL (mR false [0, 2, 3, 6, 16]) 0 (lp_val (Z51 Y4 Yi) (x := (Z42 Y4 Yi)) (Z8P Y4 Yi hp0 hp1 h0 (((Y4.length : Int) - 0).toNat + 1) 0 (show 0 ≤ 0 from (by omega)) (Nat.lt_succ_self _)) h1) <| sK [] sN)) rfl (by kernel_rfl) (by kernel_rfl) rfl ?_ ?_
   · simp only [Z38, h0, h1, cond_false]
   · rfl
  | inr r2 =>
   refine fnS E0Ok Z5 (c := bodyOf f15) [] (.b true) [] func15 (q (sL (mR false [0, 2, 3, 6, 16]) 0 (lp_val (Z51 Y4 Yi) (x := (Z42 Y4 Yi)) (Z8P Y4 Yi hp0 hp1 h0 (((Y4.length : Int) - 0).toNat + 1) 0 (show 0 ≤ 0 from (by omega)) (Nat.lt_succ_self _)) h1) <| sK [] sN)) rfl (by kernel_rfl) (by kernel_rfl) rfl ?_ ?_
   · simp only [Z38, h0, h1, cond_false]
   · rfl
theorem ZaW (a : List GVector) : Z38 a a = true := by
  unfold Z38 Z42
  rw [all_loop (a := a) (p := fun v => Z2M v v) (lo := Z20 a a) (x := ()) (y := ()) (fun k i => rfl) (fun v _ => Z9o v) _ _ (Int.le_refl 0) (Nat.lt_succ_self _)]
  simp
def Z1V (Y4 : (List Int)) (Yi : (List Int)) : Nat → Int → (Unit) ⊕ (Unit)
  | 0, _ => .inl default
  | k + 1, Y7 => (cond (decide (Y7 < (Y4.length : Int)))
    (cond ((Y4.getD Y7.toNat default) != (Yi.getD Y7.toNat default))
      (.inl ())
      (Z1V Y4 Yi k (Y7 + 1)))
    (.inr ()))
def Z5c (Y4 : (List Int)) (Yi : (List Int)) : (Unit) ⊕ (Unit) → Ex × St
  | .inl r => (.ret, ⟨an 4 (.b false :: an 21 []), []⟩)
  | .inr r => ((.exit 0), ⟨.sl (Y4.map (cI .i64)) :: .sl (Yi.map (cI .i64)) :: an 4 (.sl (Y4.map (cI .i64)) :: .i .i64 (Y4.length : Int) :: .sl (Yi.map (cI .i64)) :: .i .i64 (Yi.length : Int) :: .b ((Y4.length : Int) != (Yi.length : Int)) :: an 15 []), []⟩)
def Zct (Y4 : (List Int)) (Yi : (List Int)) (Y7 : Int) : St := ⟨.sl (Y4.map (cI .i64)) :: .sl (Yi.map (cI .i64)) :: .any :: .any :: .any :: .i .i64 Y7 :: .sl (Y4.map (cI .i64)) :: .i .i64 (Y4.length : Int) :: .sl (Yi.map (cI .i64)) :: .i .i64 (Yi.length : Int) :: .b ((Y4.length : Int) != (Yi.length : Int)) :: an 15 [], []⟩
theorem Z9a (Y4 : (List Int)) (Yi : (List Int)) (hp0 : Y4.length ≤ 1073741824) (hp1 : Yi.length ≤ 1073741824) (ZfV : ((Y4.length : Int) != (Yi.length : Int)) = false) : ∀ (k : Nat) (Y7 : Int) (Z8l : 0 ≤ Y7) (hk : ((Y4.length : Int) - Y7).toNat < k), Lp prog 0 (sub (bodyOf f24) [1, 1, 0, 1, 0, 0]) (Zct Y4 Yi Y7) (Z5c Y4 Yi (Z1V Y4 Yi k Y7)).1 (Z5c Y4 Yi (Z1V Y4 Yi k Y7)).2 := by
 intro k
 induction k with
 | zero => intro Y7 Z8l hk; exact absurd hk (Nat.not_lt_zero _)
 | succ k ih =>
  intro Y7 Z8l hk
  have p {a C} (s : Scr a C) := sZ (cI .i64) Y4 <| s
  cases Yl : (decide (Y7 < (Y4.length : Int))) with
  | true =>
   have Yw := of_decide_eq_true Yl
   have YF : (0 : Int) ≤ Y7 := by clear p; exact (by assumption)
   have YG : Y7 < (Y4.length : Int) := by clear p; exact (by assumption)
   have YH : Y7 < (Yi.length : Int) := by clear p; exact (by simp_all <;> omega)
   have q {a C} (s : Scr a C) := p (sB Yl <| sK [8, 8] <| sG (cI .i64) Y4 Y7 YF YG <| sG (cI .i64) Yi Y7 YF YH <| s)
   clear p
   cases Yr : ((Y4.getD Y7.toNat default) != (Yi.getD Y7.toNat default)) with
   | true =>
    have Y10 := bne_iff_ne.1 Yr
    have e : Z1V Y4 Yi (k + 1) Y7 = (.inl ()) := by simp only [Z1V, Yl, Yr, cond_true]
    rw [e]
    exact outR (e := .ret) E0Ok Z5 [] (mR false [4, 1, 21]) [] (q (sB Yr <| sN)) (by kernel_rfl) (by intro h; cases h)
   | false =>
    have Y10 := bne_eq_false_iff_eq.1 Yr
    have YI : (-9223372036854775808 : Int) ≤ (Y7 + 1) := by clear q; exact (by omega)
    have YP : (Y7 + 1) ≤ (9223372036854775807 : Int) := by clear q; exact (by omega)
    have e : Z1V Y4 Yi (k + 1) Y7 = (Z1V Y4 Yi k (Y7 + 1)) := by simp only [Z1V, Yl, Yr, cond_true, cond_false]
    rw [e]
    exact nextR E0Ok Z5 [] (mR false [0, 2, 3, 6, 15]) [] (ih (Y7 + 1) (show 0 ≤ (Y7 + 1) from (by omega)) (by omega)) (q (sB Yr <| sI (Y7 + 1) YI YP <| sN)) (by kernel_rfl)
  | false =>
   have Yw := of_decide_eq_false Yl
   have e : Z1V Y4 Yi (k + 1) Y7 = (.inr ()) := by simp only [Z1V, Yl, cond_false]
   rw [e]
   exact outR (e := (.exit 0)) E0Ok Z5 [] (mR false [0, 2, 4, 5, 15]) [] (p (sB Yl <| sN)) (by kernel_rfl) (by intro h; cases h)
def Z49 (Y4 : (List Int)) (Yi : (List Int)) : (Unit) ⊕ (Unit) := (Z1V Y4 Yi (((Y4.length : Int) - 0).toNat + 1) 0)
def Z2N (Y4 : (List Int)) (Yi : (List Int)) : Bool := (cond ((Y4.length : Int) != (Yi.length : Int))
  false
  (match (Z49 Y4 Yi) with
    | .inl r2 => false
    | .inr r2 => true))
theorem Zan (Y4 : (List Int)) (Yi : (List Int)) (hp0 : Y4.length ≤ 1073741824) (hp1 : Yi.length ≤ 1073741824)  : Fn prog 24 [.sl (Y4.map (cI .i64)), .sl (Yi.map (cI .i64))] (.b (Z2N Y4 Yi)) [] := by
 have p {a C} (s : Scr a C) := sZ (cI .i64) Y4 <| sZ (cI .i64) Yi <| s
 cases h0 : ((Y4.length : Int) != (Yi.length : Int)) with
 | true =>
  have gh0 := bne_iff_ne.1 h0
  refine fnS E0Ok Z5 (c := bodyOf f24) [] (.b false) [] func24 (p (sB h0 <| sK [] sN)) rfl (by kernel_rfl) (by kernel_rfl) rfl ?_ ?_
  · simp only [Z2N, h0, cond_true]
  · rfl
 | false =>
  have gh0 := bne_eq_false_iff_eq.1 h0
  have q {a C} (s : Scr a C) := p (sB h0 <| s)
  clear p
  cases h1 : (Z49 Y4 Yi) with
  | inl r2 =>
   refine fnS E0Ok Z5 (c := bodyOf f24) [] (.b false) [] func24 (q (sL (mR false [0, 2, 3, 6, 15]) 0 (lp_val (Z5c Y4 Yi) (x := (Z49 Y4 Yi)) (Z9a Y4 Yi hp0 hp1 h0 (((Y4.length : Int) - 0).toNat + 1) 0 (show 0 ≤ 0 from (by omega)) (Nat.lt_succ_self _)) h1) <| sK [] sN)) rfl (by kernel_rfl) (by kernel_rfl) rfl ?_ ?_
   · simp only [Z2N, h0, h1, cond_false]
   · rfl
  | inr r2 =>
   refine fnS E0Ok Z5 (c := bodyOf f24) [] (.b true) [] func24 (q (sL (mR false [0, 2, 3, 6, 15]) 0 (lp_val (Z5c Y4 Yi) (x := (Z49 Y4 Yi)) (Z9a Y4 Yi hp0 hp1 h0 (((Y4.length : Int) - 0).toNat + 1) 0 (show 0 ≤ 0 from (by omega)) (Nat.lt_succ_self _)) h1) <| sK [] sN)) rfl (by kernel_rfl) (by kernel_rfl) rfl ?_ ?_
   · simp only [Z2N, h0, h1, cond_false]
   · rfl
theorem Zbu (a : List Int) : Z2N a a = true := by
  unfold Z2N Z49
  rw [all_from (a := a) (p := fun v => !(v != v)) (lo := Z1V a a) (x := ()) (y := ()) (fun k i => by rw [Z1V]; cases (a.getD i.toNat default != a.getD i.toNat default) <;> rfl)]
  rw [show (a.all fun v => !(v != v)) = true from by rw [List.all_eq_true]; intro v _; simp]
  simp
def Z21 (Y4 : (List (List Int))) (Yi : (List (List Int))) : Nat → Int → (Unit) ⊕ (Unit)
  | 0, _ => .inl default
  | k + 1, Y7 => (cond (decide (Y7 < (Y4.length : Int)))
    (cond (Z2N (Y4.getD Y7.toNat default) (Yi.getD Y7.toNat default))
      (Z21 Y4 Yi k (Y7 + 1))
      (.inl ()))
    (.inr ()))
def Z52 (Y4 : (List (List Int))) (Yi : (List (List Int))) : (Unit) ⊕ (Unit) → Ex × St
  | .inl r => (.ret, ⟨an 4 (.b false :: an 22 []), []⟩)
  | .inr r => ((.exit 0), ⟨.sl (Y4.map (cL (cI .i64))) :: .sl (Yi.map (cL (cI .i64))) :: an 4 (.sl (Y4.map (cL (cI .i64))) :: .i .i64 (Y4.length : Int) :: .sl (Yi.map (cL (cI .i64))) :: .i .i64 (Yi.length : Int) :: .b ((Y4.length : Int) != (Yi.length : Int)) :: an 16 []), []⟩)
def ZbS (Y4 : (List (List Int))) (Yi : (List (List Int))) (Y7 : Int) : St := ⟨.sl (Y4.map (cL (cI .i64))) :: .sl (Yi.map (cL (cI .i64))) :: .any :: .any :: .any :: .i .i64 Y7 :: .sl (Y4.map (cL (cI .i64))) :: .i .i64 (Y4.length : Int) :: .sl (Yi.map (cL (cI .i64))) :: .i .i64 (Yi.length : Int) :: .b ((Y4.length : Int) != (Yi.length : Int)) :: an 16 [], []⟩
theorem Z8Q (Y4 : (List (List Int))) (Yi : (List (List Int))) (hp0 : Y4.length ≤ 1073741824) (hp1 : ∀ t ∈ Y4, t.length ≤ 1073741824) (hp2 : Yi.length ≤ 1073741824) (hp3 : ∀ t ∈ Yi, t.length ≤ 1073741824) (ZfL : ((Y4.length : Int) != (Yi.length : Int)) = false) : ∀ (k : Nat) (Y7 : Int) (Z7M : 0 ≤ Y7) (hk : ((Y4.length : Int) - Y7).toNat < k), Lp prog 0 (sub (bodyOf f117) [1, 1, 0, 1, 0, 0]) (ZbS Y4 Yi Y7) (Z52 Y4 Yi (Z21 Y4 Yi k Y7)).1 (Z52 Y4 Yi (Z21 Y4 Yi k Y7)).2 := by
 intro k
 induction k with
 | zero => intro Y7 Z7M hk; exact absurd hk (Nat.not_lt_zero _)
 | succ k ih =>
  intro Y7 Z7M hk
  have p {a C} (s : Scr a C) := sZ (cL (cI .i64)) Y4 <| s
  cases Yl : (decide (Y7 < (Y4.length : Int))) with
  | true =>
   have Yw := of_decide_eq_true Yl
   have YF : (0 : Int) ≤ Y7 := by clear p; exact (by assumption)
   have YG : Y7 < (Y4.length : Int) := by clear p; exact (by assumption)
   have YH : Y7 < (Yi.length : Int) := by clear p; exact (by simp_all <;> omega)
   have YI : (Y4.getD Y7.toNat default).length ≤ 1073741824 := by clear p; exact (by simp_all <;> omega)
   have YP : (Yi.getD Y7.toNat default).length ≤ 1073741824 := by clear p; exact (by simp_all <;> omega)
   have q {a C} (s : Scr a C) := p (sB Yl <| sK [8, 8] <| sG (cL (cI .i64)) Y4 Y7 YF YG <| sG (cL (cI .i64)) Yi Y7 YF YH <| sF (Zan (Y4.getD Y7.toNat default) (Yi.getD Y7.toNat default) YI YP) <| s)
   clear p
   cases Yr : (Z2N (Y4.getD Y7.toNat default) (Yi.getD Y7.toNat default)) with
   | true =>
    have YS : (-9223372036854775808 : Int) ≤ (Y7 + 1) := by clear q; exact (by omega)
    have y_6 : (Y7 + 1) ≤ (9223372036854775807 : Int) := by clear q; exact (by omega)
    have e : Z21 Y4 Yi (k + 1) Y7 = (Z21 Y4 Yi k (Y7 + 1)) := by simp only [Z21, Yl, Yr, cond_true]
    rw [e]
    exact nextR E0Ok Z5 [] (mR false [0, 2, 3, 6, 16]) [] (ih (Y7 + 1) (show 0 ≤ (Y7 + 1) from (by omega)) (by omega)) (q (sB' Yr <| sI (Y7 + 1) YS y_6 <| sN)) (by kernel_rfl)
   | false =>
    have e : Z21 Y4 Yi (k + 1) Y7 = (.inl ()) := by simp only [Z21, Yl, Yr, cond_true, cond_false]
    rw [e]
    exact outR (e := .ret) E0Ok Z5 [] (mR false [4, 1, 22]) [] (q (sB' Yr <| sN)) (by kernel_rfl) (by intro h; cases h)
  | false =>
   have Yw := of_decide_eq_false Yl
   have e : Z21 Y4 Yi (k + 1) Y7 = (.inr ()) := by simp only [Z21, Yl, cond_false]
   rw [e]
   exact outR (e := (.exit 0)) E0Ok Z5 [] (mR false [0, 2, 4, 5, 16]) [] (p (sB Yl <| sN)) (by kernel_rfl) (by intro h; cases h)
def Z43 (Y4 : (List (List Int))) (Yi : (List (List Int))) : (Unit) ⊕ (Unit) := (Z21 Y4 Yi (((Y4.length : Int) - 0).toNat + 1) 0)
def Z3C (Y4 : (List (List Int))) (Yi : (List (List Int))) : Bool := (cond ((Y4.length : Int) != (Yi.length : Int))
  false
  (match (Z43 Y4 Yi) with
    | .inl r2 => false
    | .inr r2 => true))
theorem Zdn (Y4 : (List (List Int))) (Yi : (List (List Int))) (hp0 : Y4.length ≤ 1073741824) (hp1 : ∀ t ∈ Y4, t.length ≤ 1073741824) (hp2 : Yi.length ≤ 1073741824) (hp3 : ∀ t ∈ Yi, t.length ≤ 1073741824)  : Fn prog 117 [.sl (Y4.map (cL (cI .i64))), .sl (Yi.map (cL (cI .i64)))] (.b (Z3C Y4 Yi)) [] := by
 have p {a C} (s : Scr a C) := sZ (cL (cI .i64)) Y4 <| sZ (cL (cI .i64)) Yi <| s
 cases h0 : ((Y4.length : Int) != (Yi.length : Int)) with
 | true =>
  have gh0 := bne_iff_ne.1 h0
  refine fnS E0Ok Z5 (c := bodyOf f117) [] (.b false) [] func117 (p (sB h0 <| sK [] sN)) rfl (by kernel_rfl) (by kernel_rfl) rfl ?_ ?_
  · simp only [Z3C, h0, cond_true]
  · rfl
 | false =>
  have gh0 := bne_eq_false_iff_eq.1 h0
  have q {a C} (s : Scr a C) := p (sB h0 <| s)
  clear p
  cases h1 : (Z43 Y4 Yi) with
  | inl r2 =>
   refine fnS E0Ok Z5 (c := bodyOf f117) [] (.b false) [] func117 (q (sL (mR false [0, 2, 3, 6, 16]) 0 (lp_val (Z52 Y4 Yi) (x := (Z43 Y4 Yi)) (Z8Q Y4 Yi hp0 hp1 hp2 hp3 h0 (((Y4.length : Int) - 0).toNat + 1) 0 (show 0 ≤ 0 from (by omega)) (Nat.lt_succ_self _)) h1) <| sK [] sN)) rfl (by kernel_rfl) (by kernel_rfl) rfl ?_ ?_
   · simp only [Z3C, h0, h1, cond_false]
   · rfl
  | inr r2 =>
   refine fnS E0Ok Z5 (c := bodyOf f117) [] (.b true) [] func117 (q (sL (mR false [0, 2, 3, 6, 16]) 0 (lp_val (Z52 Y4 Yi) (x := (Z43 Y4 Yi)) (Z8Q Y4 Yi hp0 hp1 hp2 hp3 h0 (((Y4.length : Int) - 0).toNat + 1) 0 (show 0 ≤ 0 from (by omega)) (Nat.lt_succ_self _)) h1) <| sK [] sN)) rfl (by kernel_rfl) (by kernel_rfl) rfl ?_ ?_
   · simp only [Z3C, h0, h1, cond_false]
   · rfl
theorem Zef (a : List (List Int)) : Z3C a a = true := by
  unfold Z3C Z43
  rw [all_from (a := a) (p := fun v => Z2N v v) (lo := Z21 a a) (x := ()) (y := ()) (fun k i => rfl)]
  rw [show (a.all fun v => Z2N v v) = true from by rw [List.all_eq_true]; intro v _; exact Zbu v]
  simp
def Z4b (Y4 : GMesh) (Yi : GMesh) : Bool := (cond (Z38 Y4.Places Yi.Places)
  (cond (Z3C Y4.Triangles Yi.Triangles)
    true
    false)
  false)
theorem ZeZ (Y4 : GMesh) (Yi : GMesh) (hp0 : Y4.Places.length ≤ 1073741824) (hp1 : Y4.Triangles.length ≤ 1073741824) (hp2 : ∀ t ∈ Y4.Triangles, t.length ≤ 1073741824) (hp3 : Yi.Places.length ≤ 1073741824) (hp4 : Yi.Triangles.length ≤ 1073741824) (hp5 : ∀ t ∈ Yi.Triangles, t.length ≤ 1073741824)  : Fn prog 59 [.agg [.sl (Y4.Places.map GVector.cells), .sl (Y4.Triangles.map (cL (cI .i64)))], .agg [.sl (Yi.Places.map GVector.cells), .sl (Yi.Triangles.map (cL (cI .i64)))]] (.b (Z4b Y4 Yi)) [] := by
 have p {a C} (s : Scr a C) := sF (Za5 Y4.Places Yi.Places hp0 hp3) <| s
 cases h0 : (Z38 Y4.Places Yi.Places) with
 | true =>
  have q {a C} (s : Scr a C) := p (sB' h0 <| sF (Zdn Y4.Triangles Yi.Triangles hp1 hp2 hp4 hp5) <| s)
  clear p
  cases h1 : (Z3C Y4.Triangles Yi.Triangles) with
  | true =>
   refine fnS E0Ok Z5 (c := bodyOf f59) [] (.b true) [] func59 (q (sB' h1 <| sK [] sN)) rfl (by kernel_rfl) (by kernel_rfl) rfl ?_ ?_
   · simp only [Z4b, h0, h1, cond_true]
   · rfl
  | false =>
   refine fnS E0Ok Z5 (c := bodyOf f59) [] (.b false) [] func59 (q (sB' h1 <| sK [] sN)) rfl (by kernel_rfl) (by kernel_rfl) rfl ?_ ?_
   · simp only [Z4b, h0, h1, cond_true, cond_false]
   · rfl
 | false =>
  refine fnS E0Ok Z5 (c := bodyOf f59) [] (.b false) [] func59 (p (sB' h0 <| sK [] sN)) rfl (by kernel_rfl) (by kernel_rfl) rfl ?_ ?_
  · simp only [Z4b, h0, cond_false]
  · rfl
theorem Zft (a : GMesh) : Z4b a a = true := by
  simp [Z4b, ZaW, Zef]
def Z2O (Y4 : GSpring) (Yi : GSpring) : Bool := (cond (Y4.A != Yi.A)
  false
  (cond (Y4.B != Yi.B)
    false
    (cond (ZD (fcv .f32 .f64 Y4.Long) (fcv .f32 .f64 Yi.Long))
      (cond (ZD (fcv .f32 .f64 Y4.Stiff) (fcv .f32 .f64 Yi.Stiff))
        true
        false)
      false)))
theorem ZdV (Y4 : GSpring) (Yi : GSpring)   : Fn prog 118 [.agg [.i .i64 Y4.A, .i .i64 Y4.B, .f .f32 Y4.Long, .f .f32 Y4.Stiff], .agg [.i .i64 Yi.A, .i .i64 Yi.B, .f .f32 Yi.Long, .f .f32 Yi.Stiff]] (.b (Z2O Y4 Yi)) [] := by
 cases h0 : (Y4.A != Yi.A) with
 | true =>
  have gh0 := bne_iff_ne.1 h0
  refine fnS E0Ok Z5 (c := bodyOf f118) [] (.b false) [] func118 (sB h0 <| sK [] sN) rfl (by kernel_rfl) (by kernel_rfl) rfl ?_ ?_
  · simp only [Z2O, h0, cond_true]
  · rfl
 | false =>
  have gh0 := bne_eq_false_iff_eq.1 h0
  have p {a C} (s : Scr a C) := sB h0 <| s
  cases h1 : (Y4.B != Yi.B) with
  | true =>
   have gh1 := bne_iff_ne.1 h1
   refine fnS E0Ok Z5 (c := bodyOf f118) [] (.b false) [] func118 (p (sB h1 <| sK [] sN)) rfl (by kernel_rfl) (by kernel_rfl) rfl ?_ ?_
   · simp only [Z2O, h0, h1, cond_true, cond_false]
   · rfl
  | false =>
   have gh1 := bne_eq_false_iff_eq.1 h1
   have q {a C} (s : Scr a C) := p (sB h1 <| sC (widenOk Y4.Long) <| sC (widenOk Yi.Long) <| sF (Z3B (fcv .f32 .f64 Y4.Long) (fcv .f32 .f64 Yi.Long)) <| s)
   clear p
   cases h2 : (ZD (fcv .f32 .f64 Y4.Long) (fcv .f32 .f64 Yi.Long)) with
   | true =>
    have p {a C} (s : Scr a C) := q (sB' h2 <| sC (widenOk Y4.Stiff) <| sC (widenOk Yi.Stiff) <| sF (Z3B (fcv .f32 .f64 Y4.Stiff) (fcv .f32 .f64 Yi.Stiff)) <| s)
    clear q
    cases h3 : (ZD (fcv .f32 .f64 Y4.Stiff) (fcv .f32 .f64 Yi.Stiff)) with
    | true =>
     refine fnS E0Ok Z5 (c := bodyOf f118) [] (.b true) [] func118 (p (sB' h3 <| sK [] sN)) rfl (by kernel_rfl) (by kernel_rfl) rfl ?_ ?_
     · simp only [Z2O, h0, h1, h2, h3, cond_true, cond_false]
     · rfl
    | false =>
     refine fnS E0Ok Z5 (c := bodyOf f118) [] (.b false) [] func118 (p (sB' h3 <| sK [] sN)) rfl (by kernel_rfl) (by kernel_rfl) rfl ?_ ?_
     · simp only [Z2O, h0, h1, h2, h3, cond_true, cond_false]
     · rfl
   | false =>
    refine fnS E0Ok Z5 (c := bodyOf f118) [] (.b false) [] func118 (q (sB' h2 <| sK [] sN)) rfl (by kernel_rfl) (by kernel_rfl) rfl ?_ ?_
    · simp only [Z2O, h0, h1, h2, cond_false]
    · rfl
theorem Zf0 (a : GSpring) : Z2O a a = true := by
  simp [Z2O, Z7K]
def Z22 (Y4 : (List GSpring)) (Yi : (List GSpring)) : Nat → Int → (Unit) ⊕ (Unit)
  | 0, _ => .inl default
  | k + 1, Y7 => (cond (decide (Y7 < (Y4.length : Int)))
    (cond (Z2O (Y4.getD Y7.toNat default) (Yi.getD Y7.toNat default))
      (Z22 Y4 Yi k (Y7 + 1))
      (.inl ()))
    (.inr ()))
def Z53 (Y4 : (List GSpring)) (Yi : (List GSpring)) : (Unit) ⊕ (Unit) → Ex × St
  | .inl r => (.ret, ⟨an 4 (.b false :: an 22 []), []⟩)
  | .inr r => ((.exit 0), ⟨.sl (Y4.map GSpring.cells) :: .sl (Yi.map GSpring.cells) :: an 4 (.sl (Y4.map GSpring.cells) :: .i .i64 (Y4.length : Int) :: .sl (Yi.map GSpring.cells) :: .i .i64 (Yi.length : Int) :: .b ((Y4.length : Int) != (Yi.length : Int)) :: an 16 []), []⟩)
def ZbT (Y4 : (List GSpring)) (Yi : (List GSpring)) (Y7 : Int) : St := ⟨.sl (Y4.map GSpring.cells) :: .sl (Yi.map GSpring.cells) :: .any :: .any :: .any :: .i .i64 Y7 :: .sl (Y4.map GSpring.cells) :: .i .i64 (Y4.length : Int) :: .sl (Yi.map GSpring.cells) :: .i .i64 (Yi.length : Int) :: .b ((Y4.length : Int) != (Yi.length : Int)) :: an 16 [], []⟩
theorem Z8R (Y4 : (List GSpring)) (Yi : (List GSpring)) (hp0 : Y4.length ≤ 1073741824) (hp1 : Yi.length ≤ 1073741824) (ZfM : ((Y4.length : Int) != (Yi.length : Int)) = false) : ∀ (k : Nat) (Y7 : Int) (Z7N : 0 ≤ Y7) (hk : ((Y4.length : Int) - Y7).toNat < k), Lp prog 0 (sub (bodyOf f60) [1, 1, 0, 1, 0, 0]) (ZbT Y4 Yi Y7) (Z53 Y4 Yi (Z22 Y4 Yi k Y7)).1 (Z53 Y4 Yi (Z22 Y4 Yi k Y7)).2 := by
 intro k
 induction k with
 | zero => intro Y7 Z7N hk; exact absurd hk (Nat.not_lt_zero _)
 | succ k ih =>
  intro Y7 Z7N hk
  have p {a C} (s : Scr a C) := sZ GSpring.cells Y4 <| s
  cases Yl : (decide (Y7 < (Y4.length : Int))) with
  | true =>
   have Yw := of_decide_eq_true Yl
   have YF : (0 : Int) ≤ Y7 := by clear p; exact (by assumption)
   have YG : Y7 < (Y4.length : Int) := by clear p; exact (by assumption)
   have YH : Y7 < (Yi.length : Int) := by clear p; exact (by simp_all <;> omega)
   have q {a C} (s : Scr a C) := p (sB Yl <| sK [8, 8] <| sG GSpring.cells Y4 Y7 YF YG <| sG GSpring.cells Yi Y7 YF YH <| sF (ZdV (Y4.getD Y7.toNat default) (Yi.getD Y7.toNat default)) <| s)
   clear p
   cases Yr : (Z2O (Y4.getD Y7.toNat default) (Yi.getD Y7.toNat default)) with
   | true =>
    have YI : (-9223372036854775808 : Int) ≤ (Y7 + 1) := by clear q; exact (by omega)
    have YP : (Y7 + 1) ≤ (9223372036854775807 : Int) := by clear q; exact (by omega)
    have e : Z22 Y4 Yi (k + 1) Y7 = (Z22 Y4 Yi k (Y7 + 1)) := by simp only [Z22, Yl, Yr, cond_true]
    rw [e]
    exact nextR E0Ok Z5 [] (mR false [0, 2, 3, 6, 16]) [] (ih (Y7 + 1) (show 0 ≤ (Y7 + 1) from (by omega)) (by omega)) (q (sB' Yr <| sI (Y7 + 1) YI YP <| sN)) (by kernel_rfl)
   | false =>
    have e : Z22 Y4 Yi (k + 1) Y7 = (.inl ()) := by simp only [Z22, Yl, Yr, cond_true, cond_false]
    rw [e]
    exact outR (e := .ret) E0Ok Z5 [] (mR false [4, 1, 22]) [] (q (sB' Yr <| sN)) (by kernel_rfl) (by intro h; cases h)
  | false =>
   have Yw := of_decide_eq_false Yl
   have e : Z22 Y4 Yi (k + 1) Y7 = (.inr ()) := by simp only [Z22, Yl, cond_false]
   rw [e]
   exact outR (e := (.exit 0)) E0Ok Z5 [] (mR false [0, 2, 4, 5, 16]) [] (p (sB Yl <| sN)) (by kernel_rfl) (by intro h; cases h)
def Z44 (Y4 : (List GSpring)) (Yi : (List GSpring)) : (Unit) ⊕ (Unit) := (Z22 Y4 Yi (((Y4.length : Int) - 0).toNat + 1) 0)
def Z3D (Y4 : (List GSpring)) (Yi : (List GSpring)) : Bool := (cond ((Y4.length : Int) != (Yi.length : Int))
  false
  (match (Z44 Y4 Yi) with
    | .inl r2 => false
    | .inr r2 => true))
theorem Zdo (Y4 : (List GSpring)) (Yi : (List GSpring)) (hp0 : Y4.length ≤ 1073741824) (hp1 : Yi.length ≤ 1073741824)  : Fn prog 60 [.sl (Y4.map GSpring.cells), .sl (Yi.map GSpring.cells)] (.b (Z3D Y4 Yi)) [] := by
 have p {a C} (s : Scr a C) := sZ GSpring.cells Y4 <| sZ GSpring.cells Yi <| s
 cases h0 : ((Y4.length : Int) != (Yi.length : Int)) with
 | true =>
  have gh0 := bne_iff_ne.1 h0
  refine fnS E0Ok Z5 (c := bodyOf f60) [] (.b false) [] func60 (p (sB h0 <| sK [] sN)) rfl (by kernel_rfl) (by kernel_rfl) rfl ?_ ?_
  · simp only [Z3D, h0, cond_true]
  · rfl
 | false =>
  have gh0 := bne_eq_false_iff_eq.1 h0
  have q {a C} (s : Scr a C) := p (sB h0 <| s)
  clear p
  cases h1 : (Z44 Y4 Yi) with
  | inl r2 =>
   refine fnS E0Ok Z5 (c := bodyOf f60) [] (.b false) [] func60 (q (sL (mR false [0, 2, 3, 6, 16]) 0 (lp_val (Z53 Y4 Yi) (x := (Z44 Y4 Yi)) (Z8R Y4 Yi hp0 hp1 h0 (((Y4.length : Int) - 0).toNat + 1) 0 (show 0 ≤ 0 from (by omega)) (Nat.lt_succ_self _)) h1) <| sK [] sN)) rfl (by kernel_rfl) (by kernel_rfl) rfl ?_ ?_
   · simp only [Z3D, h0, h1, cond_false]
   · rfl
  | inr r2 =>
   refine fnS E0Ok Z5 (c := bodyOf f60) [] (.b true) [] func60 (q (sL (mR false [0, 2, 3, 6, 16]) 0 (lp_val (Z53 Y4 Yi) (x := (Z44 Y4 Yi)) (Z8R Y4 Yi hp0 hp1 h0 (((Y4.length : Int) - 0).toNat + 1) 0 (show 0 ≤ 0 from (by omega)) (Nat.lt_succ_self _)) h1) <| sK [] sN)) rfl (by kernel_rfl) (by kernel_rfl) rfl ?_ ?_
   · simp only [Z3D, h0, h1, cond_false]
   · rfl
theorem Zeg (a : List GSpring) : Z3D a a = true := by
  unfold Z3D Z44
  rw [all_from (a := a) (p := fun v => Z2O v v) (lo := Z22 a a) (x := ()) (y := ()) (fun k i => rfl)]
  rw [show (a.all fun v => Z2O v v) = true from by rw [List.all_eq_true]; intro v _; exact Zf0 v]
  simp
def Z1P (Y4 : (List Nat)) (Yi : (List Nat)) : Nat → Int → (Unit) ⊕ (Unit)
  | 0, _ => .inl default
  | k + 1, Y7 => (cond (decide (Y7 < (Y4.length : Int)))
    (cond (ZD (fcv .f32 .f64 (Y4.getD Y7.toNat default)) (fcv .f32 .f64 (Yi.getD Y7.toNat default)))
      (Z1P Y4 Yi k (Y7 + 1))
      (.inl ()))
    (.inr ()))
def Z4L (Y4 : (List Nat)) (Yi : (List Nat)) : (Unit) ⊕ (Unit) → Ex × St
  | .inl r => (.ret, ⟨an 4 (.b false :: an 24 []), []⟩)
  | .inr r => ((.exit 0), ⟨.sl (Y4.map (cF .f32)) :: .sl (Yi.map (cF .f32)) :: an 4 (.sl (Y4.map (cF .f32)) :: .i .i64 (Y4.length : Int) :: .sl (Yi.map (cF .f32)) :: .i .i64 (Yi.length : Int) :: .b ((Y4.length : Int) != (Yi.length : Int)) :: an 18 []), []⟩)
def Zbp (Y4 : (List Nat)) (Yi : (List Nat)) (Y7 : Int) : St := ⟨.sl (Y4.map (cF .f32)) :: .sl (Yi.map (cF .f32)) :: .any :: .any :: .any :: .i .i64 Y7 :: .sl (Y4.map (cF .f32)) :: .i .i64 (Y4.length : Int) :: .sl (Yi.map (cF .f32)) :: .i .i64 (Yi.length : Int) :: .b ((Y4.length : Int) != (Yi.length : Int)) :: an 18 [], []⟩
theorem Z8m (Y4 : (List Nat)) (Yi : (List Nat)) (hp0 : Y4.length ≤ 1073741824) (hp1 : Yi.length ≤ 1073741824) (Zfu : ((Y4.length : Int) != (Yi.length : Int)) = false) : ∀ (k : Nat) (Y7 : Int) (Z7b : 0 ≤ Y7) (hk : ((Y4.length : Int) - Y7).toNat < k), Lp prog 0 (sub (bodyOf f40) [1, 1, 0, 1, 0, 0]) (Zbp Y4 Yi Y7) (Z4L Y4 Yi (Z1P Y4 Yi k Y7)).1 (Z4L Y4 Yi (Z1P Y4 Yi k Y7)).2 := by
 intro k
 induction k with
 | zero => intro Y7 Z7b hk; exact absurd hk (Nat.not_lt_zero _)
 | succ k ih =>
  intro Y7 Z7b hk
  have p {a C} (s : Scr a C) := sZ (cF .f32) Y4 <| s
  cases Yl : (decide (Y7 < (Y4.length : Int))) with
  | true =>
   have Yw := of_decide_eq_true Yl
   have YF : (0 : Int) ≤ Y7 := by clear p; exact (by assumption)
   have YG : Y7 < (Y4.length : Int) := by clear p; exact (by assumption)
   have YH : Y7 < (Yi.length : Int) := by clear p; exact (by simp_all <;> omega)
   have q {a C} (s : Scr a C) := p (sB Yl <| sK [10, 10] <| sG (cF .f32) Y4 Y7 YF YG <| sC (widenOk (Y4.getD Y7.toNat default)) <| sG (cF .f32) Yi Y7 YF YH <| sC (widenOk (Yi.getD Y7.toNat default)) <| sF (Z3B (fcv .f32 .f64 (Y4.getD Y7.toNat default)) (fcv .f32 .f64 (Yi.getD Y7.toNat default))) <| s)
   clear p
   cases Yr : (ZD (fcv .f32 .f64 (Y4.getD Y7.toNat default)) (fcv .f32 .f64 (Yi.getD Y7.toNat default))) with
   | true =>
    have YI : (-9223372036854775808 : Int) ≤ (Y7 + 1) := by clear q; exact (by omega)
    have YP : (Y7 + 1) ≤ (9223372036854775807 : Int) := by clear q; exact (by omega)
    have e : Z1P Y4 Yi (k + 1) Y7 = (Z1P Y4 Yi k (Y7 + 1)) := by simp only [Z1P, Yl, Yr, cond_true]
    rw [e]
    exact nextR E0Ok Z5 [] (mR false [0, 2, 3, 6, 18]) [] (ih (Y7 + 1) (show 0 ≤ (Y7 + 1) from (by omega)) (by omega)) (q (sB' Yr <| sI (Y7 + 1) YI YP <| sN)) (by kernel_rfl)
   | false =>
    have e : Z1P Y4 Yi (k + 1) Y7 = (.inl ()) := by simp only [Z1P, Yl, Yr, cond_true, cond_false]
    rw [e]
    exact outR (e := .ret) E0Ok Z5 [] (mR false [4, 1, 24]) [] (q (sB' Yr <| sN)) (by kernel_rfl) (by intro h; cases h)
  | false =>
   have Yw := of_decide_eq_false Yl
   have e : Z1P Y4 Yi (k + 1) Y7 = (.inr ()) := by simp only [Z1P, Yl, cond_false]
   rw [e]
   exact outR (e := (.exit 0)) E0Ok Z5 [] (mR false [0, 2, 4, 5, 18]) [] (p (sB Yl <| sN)) (by kernel_rfl) (by intro h; cases h)
def Z3Q (Y4 : (List Nat)) (Yi : (List Nat)) : (Unit) ⊕ (Unit) := (Z1P Y4 Yi (((Y4.length : Int) - 0).toNat + 1) 0)
def Z3y (Y4 : (List Nat)) (Yi : (List Nat)) : Bool := (cond ((Y4.length : Int) != (Yi.length : Int))
  false
  (match (Z3Q Y4 Yi) with
    | .inl r2 => false
    | .inr r2 => true))
theorem ZcR (Y4 : (List Nat)) (Yi : (List Nat)) (hp0 : Y4.length ≤ 1073741824) (hp1 : Yi.length ≤ 1073741824)  : Fn prog 40 [.sl (Y4.map (cF .f32)), .sl (Yi.map (cF .f32))] (.b (Z3y Y4 Yi)) [] := by
 have p {a C} (s : Scr a C) := sZ (cF .f32) Y4 <| sZ (cF .f32) Yi <| s
 cases h0 : ((Y4.length : Int) != (Yi.length : Int)) with
 | true =>
  have gh0 := bne_iff_ne.1 h0
  refine fnS E0Ok Z5 (c := bodyOf f40) [] (.b false) [] func40 (p (sB h0 <| sK [] sN)) rfl (by kernel_rfl) (by kernel_rfl) rfl ?_ ?_
  · simp only [Z3y, h0, cond_true]
  · rfl
 | false =>
  have gh0 := bne_eq_false_iff_eq.1 h0
  have q {a C} (s : Scr a C) := p (sB h0 <| s)
  clear p
  cases h1 : (Z3Q Y4 Yi) with
  | inl r2 =>
   refine fnS E0Ok Z5 (c := bodyOf f40) [] (.b false) [] func40 (q (sL (mR false [0, 2, 3, 6, 18]) 0 (lp_val (Z4L Y4 Yi) (x := (Z3Q Y4 Yi)) (Z8m Y4 Yi hp0 hp1 h0 (((Y4.length : Int) - 0).toNat + 1) 0 (show 0 ≤ 0 from (by omega)) (Nat.lt_succ_self _)) h1) <| sK [] sN)) rfl (by kernel_rfl) (by kernel_rfl) rfl ?_ ?_
   · simp only [Z3y, h0, h1, cond_false]
   · rfl
  | inr r2 =>
   refine fnS E0Ok Z5 (c := bodyOf f40) [] (.b true) [] func40 (q (sL (mR false [0, 2, 3, 6, 18]) 0 (lp_val (Z4L Y4 Yi) (x := (Z3Q Y4 Yi)) (Z8m Y4 Yi hp0 hp1 h0 (((Y4.length : Int) - 0).toNat + 1) 0 (show 0 ≤ 0 from (by omega)) (Nat.lt_succ_self _)) h1) <| sK [] sN)) rfl (by kernel_rfl) (by kernel_rfl) rfl ?_ ?_
   · simp only [Z3y, h0, h1, cond_false]
   · rfl
theorem ZdW (a : List Nat) : Z3y a a = true := by
  unfold Z3y Z3Q
  rw [all_from (a := a) (p := fun v => ZD (fcv .f32 .f64 v) (fcv .f32 .f64 v)) (lo := Z1P a a) (x := ()) (y := ()) (fun k i => rfl)]
  rw [show (a.all fun v => ZD (fcv .f32 .f64 v) (fcv .f32 .f64 v)) = true from by rw [List.all_eq_true]; intro v _; exact Z7K _]
  simp
def Z3f (Y4 : GBody) (Yi : GBody) : Bool := (cond (Z4b Y4.Mesh Yi.Mesh)
  (cond (Z3D Y4.Springs Yi.Springs)
    (cond (ZD (fcv .f32 .f64 Y4.Film) (fcv .f32 .f64 Yi.Film))
      (cond (ZD (fcv .f32 .f64 Y4.Bend) (fcv .f32 .f64 Yi.Bend))
        (cond (Z3y Y4.Weights Yi.Weights)
          (cond (Z2M Y4.Fall Yi.Fall)
            true
            false)
          false)
        false)
      false)
    false)
  false)
theorem Zf1 (Y4 : GBody) (Yi : GBody) (hp0 : Y4.Mesh.Places.length ≤ 1073741824) (hp1 : Y4.Mesh.Triangles.length ≤ 1073741824) (hp2 : ∀ t ∈ Y4.Mesh.Triangles, t.length ≤ 1073741824) (hp3 : Y4.Springs.length ≤ 1073741824) (hp4 : Y4.Weights.length ≤ 1073741824) (hp5 : Yi.Mesh.Places.length ≤ 1073741824) (hp6 : Yi.Mesh.Triangles.length ≤ 1073741824) (hp7 : ∀ t ∈ Yi.Mesh.Triangles, t.length ≤ 1073741824) (hp8 : Yi.Springs.length ≤ 1073741824) (hp9 : Yi.Weights.length ≤ 1073741824)  : Fn prog 16 [.agg [.sl (Y4.Mesh.Places.map GVector.cells), .sl (Y4.Mesh.Triangles.map (cL (cI .i64))), .sl (Y4.Springs.map GSpring.cells), .f .f32 Y4.Film, .f .f32 Y4.Bend, .sl (Y4.Weights.map (cF .f32)), .f .f32 Y4.Fall.X, .f .f32 Y4.Fall.Y, .f .f32 Y4.Fall.Z], .agg [.sl (Yi.Mesh.Places.map GVector.cells), .sl (Yi.Mesh.Triangles.map (cL (cI .i64))), .sl (Yi.Springs.map GSpring.cells), .f .f32 Yi.Film, .f .f32 Yi.Bend, .sl (Yi.Weights.map (cF .f32)), .f .f32 Yi.Fall.X, .f .f32 Yi.Fall.Y, .f .f32 Yi.Fall.Z]] (.b (Z3f Y4 Yi)) [] := by
 have p {a C} (s : Scr a C) := sF (ZeZ Y4.Mesh Yi.Mesh hp0 hp1 hp2 hp5 hp6 hp7) <| s
 cases h0 : (Z4b Y4.Mesh Yi.Mesh) with
 | true =>
  have q {a C} (s : Scr a C) := p (sB' h0 <| sF (Zdo Y4.Springs Yi.Springs hp3 hp8) <| s)
  clear p
  cases h1 : (Z3D Y4.Springs Yi.Springs) with
  | true =>
   have p {a C} (s : Scr a C) := q (sB' h1 <| sC (widenOk Y4.Film) <| sC (widenOk Yi.Film) <| sF (Z3B (fcv .f32 .f64 Y4.Film) (fcv .f32 .f64 Yi.Film)) <| s)
   clear q
   cases h2 : (ZD (fcv .f32 .f64 Y4.Film) (fcv .f32 .f64 Yi.Film)) with
   | true =>
    have q {a C} (s : Scr a C) := p (sB' h2 <| sC (widenOk Y4.Bend) <| sC (widenOk Yi.Bend) <| sF (Z3B (fcv .f32 .f64 Y4.Bend) (fcv .f32 .f64 Yi.Bend)) <| s)
    clear p
    cases h3 : (ZD (fcv .f32 .f64 Y4.Bend) (fcv .f32 .f64 Yi.Bend)) with
    | true =>
     have p {a C} (s : Scr a C) := q (sB' h3 <| sF (ZcR Y4.Weights Yi.Weights hp4 hp9) <| s)
     clear q
     cases h4 : (Z3y Y4.Weights Yi.Weights) with
     | true =>
      have q {a C} (s : Scr a C) := p (sB' h4 <| sF (Zam Y4.Fall Yi.Fall) <| s)
      clear p
      cases h5 : (Z2M Y4.Fall Yi.Fall) with
      | true =>
       refine fnS E0Ok Z5 (c := bodyOf f16) [] (.b true) [] func16 (q (sB' h5 <| sK [] sN)) rfl (by kernel_rfl) (by kernel_rfl) rfl ?_ ?_
       · simp only [Z3f, h0, h1, h2, h3, h4, h5, cond_true]
       · rfl
      | false =>
       refine fnS E0Ok Z5 (c := bodyOf f16) [] (.b false) [] func16 (q (sB' h5 <| sK [] sN)) rfl (by kernel_rfl) (by kernel_rfl) rfl ?_ ?_
       · simp only [Z3f, h0, h1, h2, h3, h4, h5, cond_true, cond_false]
       · rfl
     | false =>
      refine fnS E0Ok Z5 (c := bodyOf f16) [] (.b false) [] func16 (p (sB' h4 <| sK [] sN)) rfl (by kernel_rfl) (by kernel_rfl) rfl ?_ ?_
      · simp only [Z3f, h0, h1, h2, h3, h4, cond_true, cond_false]
      · rfl
    | false =>
     refine fnS E0Ok Z5 (c := bodyOf f16) [] (.b false) [] func16 (q (sB' h3 <| sK [] sN)) rfl (by kernel_rfl) (by kernel_rfl) rfl ?_ ?_
     · simp only [Z3f, h0, h1, h2, h3, cond_true, cond_false]
     · rfl
   | false =>
    refine fnS E0Ok Z5 (c := bodyOf f16) [] (.b false) [] func16 (p (sB' h2 <| sK [] sN)) rfl (by kernel_rfl) (by kernel_rfl) rfl ?_ ?_
    · simp only [Z3f, h0, h1, h2, cond_true, cond_false]
    · rfl
  | false =>
   refine fnS E0Ok Z5 (c := bodyOf f16) [] (.b false) [] func16 (q (sB' h1 <| sK [] sN)) rfl (by kernel_rfl) (by kernel_rfl) rfl ?_ ?_
   · simp only [Z3f, h0, h1, cond_true, cond_false]
   · rfl
 | false =>
  refine fnS E0Ok Z5 (c := bodyOf f16) [] (.b false) [] func16 (p (sB' h0 <| sK [] sN)) rfl (by kernel_rfl) (by kernel_rfl) rfl ?_ ?_
  · simp only [Z3f, h0, cond_false]
  · rfl
theorem Zfv (a : GBody) : Z3f a a = true := by
  simp [Z3f, Z7K, Z9o, Zft, Zeg, ZdW]
def Z3i (Y4 : GMotion) (Yi : GMotion) : Bool := (cond (Z3f Y4.Body Yi.Body)
  (cond (Z38 Y4.Speeds Yi.Speeds)
    true
    false)
  false)
theorem Z6r (Y4 : GMotion) (Yi : GMotion) (hp0 : Y4.Body.Mesh.Places.length ≤ 1073741824) (hp1 : Y4.Body.Mesh.Triangles.length ≤ 1073741824) (hp2 : ∀ t ∈ Y4.Body.Mesh.Triangles, t.length ≤ 1073741824) (hp3 : Y4.Body.Springs.length ≤ 1073741824) (hp4 : Y4.Body.Weights.length ≤ 1073741824) (hp5 : Y4.Speeds.length ≤ 1073741824) (hp6 : Yi.Body.Mesh.Places.length ≤ 1073741824) (hp7 : Yi.Body.Mesh.Triangles.length ≤ 1073741824) (hp8 : ∀ t ∈ Yi.Body.Mesh.Triangles, t.length ≤ 1073741824) (hp9 : Yi.Body.Springs.length ≤ 1073741824) (hp10 : Yi.Body.Weights.length ≤ 1073741824) (hp11 : Yi.Speeds.length ≤ 1073741824)  : Fn prog 35 [.agg [.sl (Y4.Body.Mesh.Places.map GVector.cells), .sl (Y4.Body.Mesh.Triangles.map (cL (cI .i64))), .sl (Y4.Body.Springs.map GSpring.cells), .f .f32 Y4.Body.Film, .f .f32 Y4.Body.Bend, .sl (Y4.Body.Weights.map (cF .f32)), .f .f32 Y4.Body.Fall.X, .f .f32 Y4.Body.Fall.Y, .f .f32 Y4.Body.Fall.Z, .sl (Y4.Speeds.map GVector.cells)], .agg [.sl (Yi.Body.Mesh.Places.map GVector.cells), .sl (Yi.Body.Mesh.Triangles.map (cL (cI .i64))), .sl (Yi.Body.Springs.map GSpring.cells), .f .f32 Yi.Body.Film, .f .f32 Yi.Body.Bend, .sl (Yi.Body.Weights.map (cF .f32)), .f .f32 Yi.Body.Fall.X, .f .f32 Yi.Body.Fall.Y, .f .f32 Yi.Body.Fall.Z, .sl (Yi.Speeds.map GVector.cells)]] (.b (Z3i Y4 Yi)) [] := by
 have p {a C} (s : Scr a C) := sF (Zf1 Y4.Body Yi.Body hp0 hp1 hp2 hp3 hp4 hp6 hp7 hp8 hp9 hp10) <| s
 cases h0 : (Z3f Y4.Body Yi.Body) with
 | true =>
  have q {a C} (s : Scr a C) := p (sB' h0 <| sF (Za5 Y4.Speeds Yi.Speeds hp5 hp11) <| s)
  clear p
  cases h1 : (Z38 Y4.Speeds Yi.Speeds) with
  | true =>
   refine fnS E0Ok Z5 (c := bodyOf f35) [] (.b true) [] func35 (q (sB' h1 <| sK [] sN)) rfl (by kernel_rfl) (by kernel_rfl) rfl ?_ ?_
   · simp only [Z3i, h0, h1, cond_true]
   · rfl
  | false =>
   refine fnS E0Ok Z5 (c := bodyOf f35) [] (.b false) [] func35 (q (sB' h1 <| sK [] sN)) rfl (by kernel_rfl) (by kernel_rfl) rfl ?_ ?_
   · simp only [Z3i, h0, h1, cond_true, cond_false]
   · rfl
 | false =>
  refine fnS E0Ok Z5 (c := bodyOf f35) [] (.b false) [] func35 (p (sB' h0 <| sK [] sN)) rfl (by kernel_rfl) (by kernel_rfl) rfl ?_ ?_
  · simp only [Z3i, h0, cond_false]
  · rfl
theorem Zf2 (a : GMotion) : Z3i a a = true := by
  simp [Z3i, Z7K, Z9o, Zfv, ZaW]
def ZE (Y4 : (List GVector)) (Yk : Int) : Nat → Int → Int → (List GVector) → Int × (List GVector)
  | 0, _, _, _ => default
  | k + 1, Ye, Y9, Yf => (cond (decide (Y9 < (Yf.length : Int)))
    (ZE Y4 Yk k (IntKind.wrap .i64 ((IntKind.wrap .i64 ((IntKind.wrap .i64 (Ye + 1)) + 1)) + 1)) (Y9 + 1) (Yf.set Y9.toNat (⟨(ofInt .f32 Ye), (ofInt .f32 (IntKind.wrap .i64 (Ye + 1))), (ofInt .f32 (IntKind.wrap .i64 ((IntKind.wrap .i64 (Ye + 1)) + 1)))⟩ : GVector)))
    (Ye, Yf))
def Z4M (Y4 : (List GVector)) (Yk : Int) (r : Int × (List GVector)) : Ex × St := ((.exit 0), ⟨.any :: .i .i64 r.1 :: .any :: .any :: .i .i64 0 :: an 32 [], [.vec 40 3 (r.2.map GVector.cells) false]⟩)
def Z6s (Y4 : (List GVector)) (Yk : Int) (Ye : Int) (Y9 : Int) (Yf : (List GVector)) : St := ⟨.own 0 :: .i .i64 Ye :: .any :: .any :: .i .i64 0 :: .i .i64 Y9 :: an 31 [], [.vec 40 3 (Yf.map GVector.cells) false]⟩
theorem Z9J (Y4 : (List GVector)) (Yk : Int) (hp0 : Y4.length ≤ 1073741824) : ∀ (k : Nat) (Ye : Int) (Y9 : Int) (Yf : (List GVector)) (Z5u : 0 ≤ Y9) (Z5v : Yf.length = Y4.length) (hk : ((Y4.length : Int) - Y9).toNat < k), Lp prog 1 (sub (bodyOf f18) [1, 0, 1, 0, 0]) (Z6s Y4 Yk Ye Y9 Yf) (Z4M Y4 Yk (ZE Y4 Yk k Ye Y9 Yf)).1 (Z4M Y4 Yk (ZE Y4 Yk k Ye Y9 Yf)).2 := by
 intro k
 induction k with
 | zero => intro Ye Y9 Yf Z5u Z5v hk; exact absurd hk (Nat.not_lt_zero _)
 | succ k ih =>
  intro Ye Y9 Yf Z5u Z5v hk
  have p {a C} (s : Scr a C) := sZ GVector.cells Yf <| s
  cases Yl : (decide (Y9 < (Yf.length : Int))) with
  | true =>
   have Yw := of_decide_eq_true Yl
   have YF : (0 : Int) ≤ Y9 := by clear p; exact (by assumption)
   have YG : Y9 < (Yf.length : Int) := by clear p; exact (by assumption)
   have YH : Y9.toNat < Yf.length := by clear p; exact (by omega)
   have YI : Y9 < ((Yf.set Y9.toNat (⟨(ofInt .f32 Ye), (Yf.getD Y9.toNat default).Y, (Yf.getD Y9.toNat default).Z⟩ : GVector)).length : Int) := by clear p; exact (by simp_all <;> omega)
   have YP : Y9 < ((Yf.set Y9.toNat (⟨(ofInt .f32 Ye), (ofInt .f32 (IntKind.wrap .i64 (Ye + 1))), (Yf.getD Y9.toNat default).Z⟩ : GVector)).length : Int) := by clear p; exact (by simp_all <;> omega)
   have YS : (-9223372036854775808 : Int) ≤ (Y9 + 1) := by clear p; exact (by omega)
   have y_6 : (Y9 + 1) ≤ (9223372036854775807 : Int) := by clear p; exact (by omega)
   have e : ZE Y4 Yk (k + 1) Ye Y9 Yf = (ZE Y4 Yk k (IntKind.wrap .i64 ((IntKind.wrap .i64 ((IntKind.wrap .i64 (Ye + 1)) + 1)) + 1)) (Y9 + 1) (Yf.set Y9.toNat (⟨(ofInt .f32 Ye), (ofInt .f32 (IntKind.wrap .i64 (Ye + 1))), (ofInt .f32 (IntKind.wrap .i64 ((IntKind.wrap .i64 (Ye + 1)) + 1)))⟩ : GVector))) := by simp only [ZE, Yl, cond_true]
   rw [e]
   exact nextS (EpOk 1) Z5 [] (mR false [0, 2, 2, 2, 31]) [] (⟨.own 0 :: .i .i64 (IntKind.wrap .i64 ((IntKind.wrap .i64 ((IntKind.wrap .i64 (Ye + 1)) + 1)) + 1)) :: .any :: .any :: .i .i64 0 :: .i .i64 (Y9 + 1) :: an 31 [], [.vec 40 3 ((((Yf.map GVector.cells).set Y9.toNat [.f .f32 (ofInt .f32 Ye), .f .f32 ((Yf.getD Y9.toNat default).Y), .f .f32 ((Yf.getD Y9.toNat default).Z)]).set Y9.toNat [.f .f32 (ofInt .f32 Ye), .f .f32 (ofInt .f32 (IntKind.wrap .i64 (Ye + 1))), .f .f32 ((Yf.getD Y9.toNat default).Z)]).set Y9.toNat [.f .f32 (ofInt .f32 Ye), .f .f32 (ofInt .f32 (IntKind.wrap .i64 (Ye + 1))), .f .f32 (ofInt .f32 (IntKind.wrap .i64 ((IntKind.wrap .i64 (Ye + 1)) + 1)))]) false]⟩) (p (sB Yl <| sX GVector.cells Yf Y9 YF YG <| sV GVector.cells Yf Y9.toNat YH <| sW .i64 (Ye + 1) <| sC (show 0 ≤ Y9 ∧ Int.toNat Y9 < ((Yf.map GVector.cells).set Y9.toNat [.f .f32 (ofInt .f32 Ye), .f .f32 ((Yf.getD Y9.toNat default).Y), .f .f32 ((Yf.getD Y9.toNat default).Z)]).length from (by simpa using idx_ok (c := GVector.cells) (l := (Yf.set Y9.toNat (⟨(ofInt .f32 Ye), (Yf.getD Y9.toNat default).Y, (Yf.getD Y9.toNat default).Z⟩ : GVector))) (i := Y9) YF YI)) <| sE (show ((Yf.map GVector.cells).set Y9.toNat [.f .f32 (ofInt .f32 Ye), .f .f32 ((Yf.getD Y9.toNat default).Y), .f .f32 ((Yf.getD Y9.toNat default).Z)])[Y9.toNat]? = some [.f .f32 (ofInt .f32 Ye), .f .f32 ((Yf.getD Y9.toNat default).Y), .f .f32 ((Yf.getD Y9.toNat default).Z)] from List.getElem?_set_self (by simpa using YH)) <| sW .i64 ((IntKind.wrap .i64 (Ye + 1)) + 1) <| sC (show 0 ≤ Y9 ∧ Int.toNat Y9 < (((Yf.map GVector.cells).set Y9.toNat [.f .f32 (ofInt .f32 Ye), .f .f32 ((Yf.getD Y9.toNat default).Y), .f .f32 ((Yf.getD Y9.toNat default).Z)]).set Y9.toNat [.f .f32 (ofInt .f32 Ye), .f .f32 (ofInt .f32 (IntKind.wrap .i64 (Ye + 1))), .f .f32 ((Yf.getD Y9.toNat default).Z)]).length from (by simpa using idx_ok (c := GVector.cells) (l := (Yf.set Y9.toNat (⟨(ofInt .f32 Ye), (ofInt .f32 (IntKind.wrap .i64 (Ye + 1))), (Yf.getD Y9.toNat default).Z⟩ : GVector))) (i := Y9) YF YP)) <| sE (show (((Yf.map GVector.cells).set Y9.toNat [.f .f32 (ofInt .f32 Ye), .f .f32 ((Yf.getD Y9.toNat default).Y), .f .f32 ((Yf.getD Y9.toNat default).Z)]).set Y9.toNat [.f .f32 (ofInt .f32 Ye), .f .f32 (ofInt .f32 (IntKind.wrap .i64 (Ye + 1))), .f .f32 ((Yf.getD Y9.toNat default).Z)])[Y9.toNat]? = some [.f .f32 (ofInt .f32 Ye), .f .f32 (ofInt .f32 (IntKind.wrap .i64 (Ye + 1))), .f .f32 ((Yf.getD Y9.toNat default).Z)] from List.getElem?_set_self (by simpa using YH)) <| sW .i64 ((IntKind.wrap .i64 ((IntKind.wrap .i64 (Ye + 1)) + 1)) + 1) <| sI (Y9 + 1) YS y_6 <| sN)) (by kernel_rfl) (by simp [Z6s, List.map_set, GVector.cells]) (ih (IntKind.wrap .i64 ((IntKind.wrap .i64 ((IntKind.wrap .i64 (Ye + 1)) + 1)) + 1)) (Y9 + 1) (Yf.set Y9.toNat (⟨(ofInt .f32 Ye), (ofInt .f32 (IntKind.wrap .i64 (Ye + 1))), (ofInt .f32 (IntKind.wrap .i64 ((IntKind.wrap .i64 (Ye + 1)) + 1)))⟩ : GVector)) (show 0 ≤ (Y9 + 1) from (by omega)) (show (Yf.set Y9.toNat (⟨(ofInt .f32 Ye), (ofInt .f32 (IntKind.wrap .i64 (Ye + 1))), (ofInt .f32 (IntKind.wrap .i64 ((IntKind.wrap .i64 (Ye + 1)) + 1)))⟩ : GVector)).length = Y4.length from (by simp_all <;> omega)) (by omega))
  | false =>
   have Yw := of_decide_eq_false Yl
   have e : ZE Y4 Yk (k + 1) Ye Y9 Yf = (Ye, Yf) := by simp only [ZE, Yl, cond_false]
   rw [e]
   exact outR (e := (.exit 0)) (EpOk 1) Z5 [] (mR false [1, 1, 2, 1, 32]) [] (p (sB Yl <| sN)) (by kernel_rfl) (by intro h; cases h)
theorem Z9b (Y4 : (List GVector)) (Yk : Int) : ∀ (k : Nat) (Ye : Int) (Y9 : Int) (Yf : (List GVector)) (hk : ((Yf.length : Int) - Y9).toNat < k), (ZE Y4 Yk k Ye Y9 Yf).2.length = Yf.length := by
  intro k
  induction k with
  | zero => intro Ye Y9 Yf hk; exact absurd hk (Nat.not_lt_zero _)
  | succ k ih =>
    intro Ye Y9 Yf hk
    cases Yl : (decide (Y9 < (Yf.length : Int))) with
    | true =>
      have e : ZE Y4 Yk (k + 1) Ye Y9 Yf = (ZE Y4 Yk k (IntKind.wrap .i64 ((IntKind.wrap .i64 ((IntKind.wrap .i64 (Ye + 1)) + 1)) + 1)) (Y9 + 1) (Yf.set Y9.toNat (⟨(ofInt .f32 Ye), (ofInt .f32 (IntKind.wrap .i64 (Ye + 1))), (ofInt .f32 (IntKind.wrap .i64 ((IntKind.wrap .i64 (Ye + 1)) + 1)))⟩ : GVector))) := by simp only [ZE, Yl, cond_true]
      rw [e, ih (IntKind.wrap .i64 ((IntKind.wrap .i64 ((IntKind.wrap .i64 (Ye + 1)) + 1)) + 1)) (Y9 + 1) (Yf.set Y9.toNat (⟨(ofInt .f32 Ye), (ofInt .f32 (IntKind.wrap .i64 (Ye + 1))), (ofInt .f32 (IntKind.wrap .i64 ((IntKind.wrap .i64 (Ye + 1)) + 1)))⟩ : GVector)) (by simp_all <;> omega)]; simp
    | false =>
      have e : ZE Y4 Yk (k + 1) Ye Y9 Yf = (Ye, Yf) := by simp only [ZE, Yl, cond_false]
      first | (rw [e]; done) | (rw [e]; rfl)
def Z2m (Y4 : (List GVector)) (Yk : Int) : Int × (List GVector) := (ZE Y4 Yk (((Y4.length : Int) - 0).toNat + 1) Yk 0 Y4)
@[simp] theorem ZcV (Y4 : (List GVector)) (Yk : Int) : (Z2m Y4 Yk).2.length = (Y4 : (List GVector)).length := Z9b Y4 Yk (((Y4.length : Int) - 0).toNat + 1) Yk 0 Y4 (by exact Nat.lt_succ_self _)
def Zk (Y4 : (List GVector)) (Yk : Int) : Int × (List GVector) := ((Z2m Y4 Yk).1, (Z2m Y4 Yk).2)
@[simp] theorem Zeh (Y4 : (List GVector)) (Yk : Int) : (Zk Y4 Yk).2.length = Y4.length := by
  first | (simp [Zk]; done)
theorem Z7c (Y4 : (List GVector)) (Yk : Int) (hp0 : Y4.length ≤ 1073741824)  : CallSt prog 18 [.vec 40 3 (Y4.map GVector.cells) false] [.own 0, .i .i64 Yk] (.i .i64 ((Zk Y4 Yk).1)) [.vec 40 3 (((Zk Y4 Yk).2).map GVector.cells) false] := by
 refine callS (EpOk 1) Z5 (c := bodyOf f18) [.vec 40 3 (Y4.map GVector.cells) false] [] (.i .i64 ((Z2m Y4 Yk).1)) [.vec 40 3 (((Z2m Y4 Yk).2).map GVector.cells) false] func18 (sL (mR false [0, 2, 2, 2, 31]) 1 (lp_val (Z4M Y4 Yk) (x := (Z2m Y4 Yk)) (Z9J Y4 Yk hp0 (((Y4.length : Int) - 0).toNat + 1) Yk 0 Y4 (show 0 ≤ 0 from (by omega)) (show Y4.length = Y4.length from (by simp)) (Nat.lt_succ_self _)) rfl) <| sK [] sN) rfl (by kernel_rfl) (by kernel_rfl) ?_ ?_
 · rfl
 · simp [Zk]
def Z5U (_ : GVector) (c : Int) : Int × GVector := ((IntKind.wrap .i64 ((IntKind.wrap .i64 ((IntKind.wrap .i64 (c + 1)) + 1)) + 1)), ⟨ofInt .f32 c, ofInt .f32 (IntKind.wrap .i64 (c + 1)), ofInt .f32 (IntKind.wrap .i64 ((IntKind.wrap .i64 (c + 1)) + 1))⟩)
theorem Zao (a : List GVector) (c : Int) : Zk a c = mkL Z5U a c := by
  unfold Zk Z2m
  rw [mark_loop (f := Z5U) (lo := ZE a c) (fun k c i r => rfl) _ _ _ _ (Int.le_refl 0) (Nat.lt_succ_self _)]
  simp
theorem Z5i (a : List GVector) (c : Int) (g0 : a.length ≤ 1073741824) (h0 : 0 ≤ c) (h1 : c ≤ 4611686018427387904) : c ≤ (Zk a c).1 ∧ (Zk a c).1 ≤ c + 3221225472 := by
  rw [Zao]
  have q := mkL_ge (f := Z5U) (W := 3) a c (fun x _ c k0 k1 => by simp only [Z5U]; rw [wrap_id (n := c + 1) (by omega) (by omega), show c + 1 + 1 = c + 2 from by omega, wrap_id (n := c + 2) (by omega) (by omega), show c + 2 + 1 = c + 3 from by omega, wrap_id (n := c + 3) (by omega) (by omega)]; omega) h0 (by omega)
  omega
def ZK (Y4 : (List Int)) (Yk : Int) : Nat → Int → Int → (List Int) → Int × (List Int)
  | 0, _, _, _ => default
  | k + 1, Ye, Y9, Yf => (cond (decide (Y9 < (Yf.length : Int)))
    (ZK Y4 Yk k (IntKind.wrap .i64 (Ye + 1)) (Y9 + 1) (Yf.set Y9.toNat Ye))
    (Ye, Yf))
def Z4S (ty : Nat) (Y4 : (List Int)) (Yk : Int) (r : Int × (List Int)) : Ex × St := ((.exit 0), ⟨.any :: .i .i64 r.1 :: .any :: .any :: .i .i64 0 :: an 14 [], [.vec ty 1 (r.2.map (cI .i64)) false]⟩)
def Z6N (ty : Nat) (Y4 : (List Int)) (Yk : Int) (Ye : Int) (Y9 : Int) (Yf : (List Int)) : St := ⟨.own 0 :: .i .i64 Ye :: .any :: .any :: .i .i64 0 :: .i .i64 Y9 :: an 13 [], [.vec ty 1 (Yf.map (cI .i64)) false]⟩
theorem Za6 (ty : Nat) (Y4 : (List Int)) (Yk : Int) (hp0 : Y4.length ≤ 1073741824) : ∀ (k : Nat) (Ye : Int) (Y9 : Int) (Yf : (List Int)) (Z5V : 0 ≤ Y9) (Z5W : Yf.length = Y4.length) (hk : ((Y4.length : Int) - Y9).toNat < k), Lp prog 1 (sub (bodyOf f27) [1, 0, 1, 0, 0]) (Z6N ty Y4 Yk Ye Y9 Yf) (Z4S ty Y4 Yk (ZK Y4 Yk k Ye Y9 Yf)).1 (Z4S ty Y4 Yk (ZK Y4 Yk k Ye Y9 Yf)).2 := by
 intro k
 induction k with
 | zero => intro Ye Y9 Yf Z5V Z5W hk; exact absurd hk (Nat.not_lt_zero _)
 | succ k ih =>
  intro Ye Y9 Yf Z5V Z5W hk
  have p {a C} (s : Scr a C) := sZ (cI .i64) Yf <| s
  cases Yl : (decide (Y9 < (Yf.length : Int))) with
  | true =>
   have Yw := of_decide_eq_true Yl
   have YF : (0 : Int) ≤ Y9 := by clear p; exact (by assumption)
   have YG : Y9 < (Yf.length : Int) := by clear p; exact (by assumption)
   have YH : Y9.toNat < Yf.length := by clear p; exact (by omega)
   have YI : (-9223372036854775808 : Int) ≤ (Y9 + 1) := by clear p; exact (by omega)
   have YP : (Y9 + 1) ≤ (9223372036854775807 : Int) := by clear p; exact (by omega)
   have e : ZK Y4 Yk (k + 1) Ye Y9 Yf = (ZK Y4 Yk k (IntKind.wrap .i64 (Ye + 1)) (Y9 + 1) (Yf.set Y9.toNat Ye)) := by simp only [ZK, Yl, cond_true]
   rw [e]
   exact nextS (EpOk 1) Z5 [] (mR false [0, 2, 2, 2, 13]) [] (⟨.own 0 :: .i .i64 (IntKind.wrap .i64 (Ye + 1)) :: .any :: .any :: .i .i64 0 :: .i .i64 (Y9 + 1) :: an 13 [], [.vec ty 1 ((Yf.map (cI .i64)).set Y9.toNat [.i .i64 Ye]) false]⟩) (p (sB Yl <| sX (cI .i64) Yf Y9 YF YG <| sC (maplt (c := (cI .i64)) (l := Yf) YH) <| sW .i64 (Ye + 1) <| sI (Y9 + 1) YI YP <| sN)) (by kernel_rfl) (by simp [Z6N, List.map_set, cI]) (ih (IntKind.wrap .i64 (Ye + 1)) (Y9 + 1) (Yf.set Y9.toNat Ye) (show 0 ≤ (Y9 + 1) from (by omega)) (show (Yf.set Y9.toNat Ye).length = Y4.length from (by simp_all <;> omega)) (by omega))
  | false =>
   have Yw := of_decide_eq_false Yl
   have e : ZK Y4 Yk (k + 1) Ye Y9 Yf = (Ye, Yf) := by simp only [ZK, Yl, cond_false]
   rw [e]
   exact outR (e := (.exit 0)) (EpOk 1) Z5 [] (mR false [1, 1, 2, 1, 14]) [] (p (sB Yl <| sN)) (by kernel_rfl) (by intro h; cases h)
theorem Z9p (Y4 : (List Int)) (Yk : Int) : ∀ (k : Nat) (Ye : Int) (Y9 : Int) (Yf : (List Int)) (hk : ((Yf.length : Int) - Y9).toNat < k), (ZK Y4 Yk k Ye Y9 Yf).2.length = Yf.length := by
  intro k
  induction k with
  | zero => intro Ye Y9 Yf hk; exact absurd hk (Nat.not_lt_zero _)
  | succ k ih =>
    intro Ye Y9 Yf hk
    cases Yl : (decide (Y9 < (Yf.length : Int))) with
    | true =>
      have e : ZK Y4 Yk (k + 1) Ye Y9 Yf = (ZK Y4 Yk k (IntKind.wrap .i64 (Ye + 1)) (Y9 + 1) (Yf.set Y9.toNat Ye)) := by simp only [ZK, Yl, cond_true]
      rw [e, ih (IntKind.wrap .i64 (Ye + 1)) (Y9 + 1) (Yf.set Y9.toNat Ye) (by simp_all <;> omega)]; simp
    | false =>
      have e : ZK Y4 Yk (k + 1) Ye Y9 Yf = (Ye, Yf) := by simp only [ZK, Yl, cond_false]
      first | (rw [e]; done) | (rw [e]; rfl)
def Z2z (Y4 : (List Int)) (Yk : Int) : Int × (List Int) := (ZK Y4 Yk (((Y4.length : Int) - 0).toNat + 1) Yk 0 Y4)
@[simp] theorem Zdp (Y4 : (List Int)) (Yk : Int) : (Z2z Y4 Yk).2.length = (Y4 : (List Int)).length := Z9p Y4 Yk (((Y4.length : Int) - 0).toNat + 1) Yk 0 Y4 (by exact Nat.lt_succ_self _)
def Zl (Y4 : (List Int)) (Yk : Int) : Int × (List Int) := ((Z2z Y4 Yk).1, (Z2z Y4 Yk).2)
@[simp] theorem Z5w (Y4 : (List Int)) (Yk : Int) : (Zl Y4 Yk).2.length = Y4.length := by
  first | (simp [Zl]; done)
theorem ZaX (ty : Nat) (Y4 : (List Int)) (Yk : Int) (hp0 : Y4.length ≤ 1073741824)  : CallSt prog 27 [.vec ty 1 (Y4.map (cI .i64)) false] [.own 0, .i .i64 Yk] (.i .i64 ((Zl Y4 Yk).1)) [.vec ty 1 (((Zl Y4 Yk).2).map (cI .i64)) false] := by
 refine callS (EpOk 1) Z5 (c := bodyOf f27) [.vec ty 1 (Y4.map (cI .i64)) false] [] (.i .i64 ((Z2z Y4 Yk).1)) [.vec ty 1 (((Z2z Y4 Yk).2).map (cI .i64)) false] func27 (sL (mR false [0, 2, 2, 2, 13]) 1 (lp_val (Z4S ty Y4 Yk) (x := (Z2z Y4 Yk)) (Za6 ty Y4 Yk hp0 (((Y4.length : Int) - 0).toNat + 1) Yk 0 Y4 (show 0 ≤ 0 from (by omega)) (show Y4.length = Y4.length from (by simp)) (Nat.lt_succ_self _)) rfl) <| sK [] sN) rfl (by kernel_rfl) (by kernel_rfl) ?_ ?_
 · rfl
 · simp [Zl]
def Z6O (_ : Int) (c : Int) : Int × Int := ((IntKind.wrap .i64 (c + 1)), c)
theorem ZaY (a : List Int) (c : Int) : Zl a c = mkL Z6O a c := by
  unfold Zl Z2z
  rw [mark_loop (f := Z6O) (lo := ZK a c) (fun k c i r => rfl) _ _ _ _ (Int.le_refl 0) (Nat.lt_succ_self _)]
  simp
theorem Za7 (a : List Int) (c : Int) (g0 : a.length ≤ 1073741824) (h0 : 0 ≤ c) (h1 : c ≤ 4611686018427387904) : c ≤ (Zl a c).1 ∧ (Zl a c).1 ≤ c + 1073741824 := by
  rw [ZaY]
  have q := mkL_ge (f := Z6O) (W := 1) a c (fun x _ c k0 k1 => by simp only [Z6O]; rw [wrap_id (n := c + 1) (by omega) (by omega)]; omega) h0 (by omega)
  omega
def ZF (Y4 : (List (List Int))) (Yk : Int) : Nat → Int → Int → (List (List Int)) → Int × (List (List Int))
  | 0, _, _, _ => default
  | k + 1, Ye, Y9, Yf => (cond (decide (Y9 < (Yf.length : Int)))
    (ZF Y4 Yk k ((Zl (Yf.getD Y9.toNat default) Ye).1) (Y9 + 1) (Yf.set Y9.toNat ((Zl (Yf.getD Y9.toNat default) Ye).2)))
    (Ye, Yf))
end Go.Ab
