/- The functions of this seat as plain Lean, and that the program's are these. Printed by a program of the prover's own. -/
import Derived.Test.YtpndflbllggeiaaGreatB4
set_option linter.unusedVariables false
set_option linter.unusedSimpArgs false
set_option maxRecDepth 100000
namespace Go.Ab
open Go.RowKit Go.Proofs.Tryz
def Zg (Y2 : GMotion) (Y3 : (List Int)) (Yc : Nat) (Yd : Nat) (Y8 : Nat) : (List GVector) := (Z1I Y2 Y3 Yc Yd Y8 (((Y2.Speeds.length : Int) - 0).toNat + 1) 0 ([] : List GVector))
theorem ZfA (m : GMotion) (h : List Int) (a d t : Nat) : Zg m h a d t = (List.range m.Speeds.length).map fun (j : Nat) => cond (ZU h (j : Int)) (⟨0, 0, 0⟩ : GVector) (Z1H m h a d t (j : Int)) := by
  unfold Zg
  rw [app_loop (f := fun i => cond (ZU h i) (⟨0, 0, 0⟩ : GVector) (Z1H m h a d t i)) (n := (m.Speeds.length : Int)) (lo := Z1I m h a d t) (fun k i r => by rw [Z1I]; cases ZU h i <;> rfl) _ _ _ (Nat.lt_succ_self _), List.nil_append]
  rw [show ((m.Speeds.length : Int) - 0).toNat = m.Speeds.length from by omega]
  simp only [Int.zero_add]
theorem Zdj (m : GMotion) (h : List Int) (a d t : Nat) : (Zg m h a d t).length = m.Speeds.length := by rw [ZfA]; simp
def ZA (Y2 : GMotion) (Y3 : (List Int)) (Yc : Nat) (Yd : Nat) (Y8 : Nat) : GMotion := (⟨(Zi Y2.Body (Zg Y2 Y3 Yc Yd Y8) Y8), (Zg Y2 Y3 Yc Yd Y8)⟩ : GMotion)
theorem Z9W (m : GMotion) (h : List Int) (a d t : Nat) : (ZA m h a d t).Body.Mesh.Places.length ≤ m.Body.Mesh.Places.length := Z9x m.Body _ t
theorem Z9X (m : GMotion) (h : List Int) (a d t : Nat) : (ZA m h a d t).Body.Mesh.Triangles.length ≤ m.Body.Mesh.Triangles.length := Z9y m.Body _ t
theorem Z9Y (m : GMotion) (h : List Int) (a d t : Nat) : (ZA m h a d t).Body.Weights.length ≤ m.Body.Weights.length := Z9z m.Body _ t
theorem Z9Z (m : GMotion) (h : List Int) (a d t : Nat) : (ZA m h a d t).Body.Springs.length ≤ m.Body.Springs.length := Z9A m.Body _ t
theorem Za0 (m : GMotion) (h : List Int) (a d t : Nat) : (ZA m h a d t).Speeds.length ≤ m.Speeds.length := Nat.le_of_eq (Zdj m h a d t)
theorem Zdk (m : GMotion) (h : List Int) (a d t : Nat) : ∀ u ∈ (ZA m h a d t).Body.Mesh.Triangles, u ∈ m.Body.Mesh.Triangles := ZcJ m.Body _ t
theorem Zeb (Y2 : GMotion) (Y3 : (List Int)) (Yc : Nat) (Yd : Nat) (Y8 : Nat) (hp0 : Y2.Body.Mesh.Places.length ≤ 1073741824) (hp1 : Y2.Body.Mesh.Triangles.length ≤ 1073741824) (hp2 : ∀ t ∈ Y2.Body.Mesh.Triangles, t.length ≤ 1073741824) (hp3 : Y2.Body.Springs.length ≤ 1073741824) (hp4 : Y2.Body.Weights.length ≤ 1073741824) (hp5 : Y2.Speeds.length ≤ 1073741824) (hp6 : Y3.length ≤ 1073741824) (hp7 : OkBd Y2.Body) (hp8 : Y2.Speeds.length = Y2.Body.Mesh.Places.length) (hp9 : OkIx Y2.Body.Mesh.Places.length (fun x => x) Y3)  : Fn prog 77 [.ref (GMotion.cells Y2) 0, .sl (Y3.map (cI .i64)), .f .f32 Yc, .f .f32 Yd, .f .f32 Y8] (.agg [.own 0, .own 1, .own 2, .f .f32 ((ZA Y2 Y3 Yc Yd Y8).Body.Film), .f .f32 ((ZA Y2 Y3 Yc Yd Y8).Body.Bend), .own 3, .f .f32 ((ZA Y2 Y3 Yc Yd Y8).Body.Fall.X), .f .f32 ((ZA Y2 Y3 Yc Yd Y8).Body.Fall.Y), .f .f32 ((ZA Y2 Y3 Yc Yd Y8).Body.Fall.Z), .own 4]) [.vec 40 3 (((ZA Y2 Y3 Yc Yd Y8).Body.Mesh.Places).map GVector.cells) false, .nest 49 (((ZA Y2 Y3 Yc Yd Y8).Body.Mesh.Triangles).map fun l => l.map (cI .i64)) false, .vec 133 4 (((ZA Y2 Y3 Yc Yd Y8).Body.Springs).map GSpring.cells) false, .vec 27 1 (((ZA Y2 Y3 Yc Yd Y8).Body.Weights).map (cF .f32)) false, .vec 40 3 (((ZA Y2 Y3 Yc Yd Y8).Speeds).map GVector.cells) false] := by
 have y0 : (Zg Y2 Y3 Yc Yd Y8).length ≤ 1073741824 := (by have q := Zdj Y2 Y3 Yc Yd Y8; omega)
 have y1 : (Zg Y2 Y3 Yc Yd Y8).length ≤ Y2.Body.Mesh.Places.length := (by have q := Zdj Y2 Y3 Yc Yd Y8; omega)
 have l1 := (Z9x Y2.Body (Zg Y2 Y3 Yc Yd Y8) Y8)
 have l2 := (Z9y Y2.Body (Zg Y2 Y3 Yc Yd Y8) Y8)
 have l3 := (Z9z Y2.Body (Zg Y2 Y3 Yc Yd Y8) Y8)
 have l4 := (Z9A Y2.Body (Zg Y2 Y3 Yc Yd Y8) Y8)
 refine fnS E0Ok Z5 (c := bodyOf f77) [] (.agg [.own 0, .own 1, .own 2, .f .f32 ((Zi Y2.Body (Zg Y2 Y3 Yc Yd Y8) Y8).Film), .f .f32 ((Zi Y2.Body (Zg Y2 Y3 Yc Yd Y8) Y8).Bend), .own 3, .f .f32 ((Zi Y2.Body (Zg Y2 Y3 Yc Yd Y8) Y8).Fall.X), .f .f32 ((Zi Y2.Body (Zg Y2 Y3 Yc Yd Y8) Y8).Fall.Y), .f .f32 ((Zi Y2.Body (Zg Y2 Y3 Yc Yd Y8) Y8).Fall.Z), .own 4]) [.vec 40 3 (((Zi Y2.Body (Zg Y2 Y3 Yc Yd Y8) Y8).Mesh.Places).map GVector.cells) false, .nest 49 (((Zi Y2.Body (Zg Y2 Y3 Yc Yd Y8) Y8).Mesh.Triangles).map fun l => l.map (cI .i64)) false, .vec 133 4 (((Zi Y2.Body (Zg Y2 Y3 Yc Yd Y8) Y8).Springs).map GSpring.cells) false, .vec 27 1 (((Zi Y2.Body (Zg Y2 Y3 Yc Yd Y8) Y8).Weights).map (cF .f32)) false, .vec 40 3 ((Zg Y2 Y3 Yc Yd Y8).map GVector.cells) false] func77 (sF (Fn.sub (args := [.ref (GMotion.cells Y2) 0, .sl (Y3.map (cI .i64))]) (r := .own 0) (new := [.vec 40 3 ((Z1w Y2.Body Y3).map GVector.cells) false]) [some 9, none] (Zea Y2.Body Y3 hp0 hp1 hp2 hp3 hp4 hp6 hp7 hp9)) <| sZ GVector.cells Y2.Speeds <| sL (mR false [0, 5, 5, 3, 2, 5, 1, 6, 37]) 3 (lp_cast (st2 := ⟨.ref (GMotion.cells Y2) 0 :: .sl (Y3.map (cI .i64)) :: .f .f32 Yc :: .f .f32 Yd :: .f .f32 Y8 :: an 5 (.ptr 0 0 0 :: .own 1 :: .own 2 :: .any :: .any :: .ref (GMotion.cells Y2) 0 :: .ref (GMotion.cells Y2) 0 :: .ref (GMotion.cells Y2) 0 :: .sl (Y3.map (cI .i64)) :: .own 1 :: .any :: .ref (GMotion.cells Y2) 0 :: .ref (GMotion.cells Y2) 0 :: .ref (GMotion.cells Y2) 9 :: .sl (Y2.Speeds.map GVector.cells) :: .i .i64 (Y2.Speeds.length : Int) :: .i .i64 0 :: an 37 []), [.box 66 [.nils, .nils, .nils, .f .f32 0, .f .f32 0, .nils, .f .f32 0, .f .f32 0, .f .f32 0, .nils], .vec 40 3 ((Z1w Y2.Body Y3).map GVector.cells) false, .vec 40 3 ([] : List (List AV)) false]⟩) (lp_val (Z6Y Y2 Y3 Yc Yd Y8) (x := (Zg Y2 Y3 Yc Yd Y8)) (ZcK Y2 Y3 Yc Yd Y8 hp0 hp1 hp2 hp3 hp4 hp5 hp6 hp7 hp8 hp9 (((Y2.Speeds.length : Int) - 0).toNat + 1) 0 ([] : List GVector) (show 0 ≤ 0 from (by omega)) (show (([] : List GVector).length : Int) = 0 from (by simp)) (Nat.lt_succ_self _)) rfl) (by simp [Z5g, GVector.cells])) <| sF (Fn.sub (args := [.ref (GMotion.cells Y2) 0, .sl ((Zg Y2 Y3 Yc Yd Y8).map GVector.cells), .f .f32 Y8]) (r := .agg [.own 0, .own 1, .own 2, .f .f32 ((Zi Y2.Body (Zg Y2 Y3 Yc Yd Y8) Y8).Film), .f .f32 ((Zi Y2.Body (Zg Y2 Y3 Yc Yd Y8) Y8).Bend), .own 3, .f .f32 ((Zi Y2.Body (Zg Y2 Y3 Yc Yd Y8) Y8).Fall.X), .f .f32 ((Zi Y2.Body (Zg Y2 Y3 Yc Yd Y8) Y8).Fall.Y), .f .f32 ((Zi Y2.Body (Zg Y2 Y3 Yc Yd Y8) Y8).Fall.Z)]) (new := [.vec 40 3 (((Zi Y2.Body (Zg Y2 Y3 Yc Yd Y8) Y8).Mesh.Places).map GVector.cells) false, .nest 49 (((Zi Y2.Body (Zg Y2 Y3 Yc Yd Y8) Y8).Mesh.Triangles).map fun l => l.map (cI .i64)) false, .vec 133 4 (((Zi Y2.Body (Zg Y2 Y3 Yc Yd Y8) Y8).Springs).map GSpring.cells) false, .vec 27 1 (((Zi Y2.Body (Zg Y2 Y3 Yc Yd Y8) Y8).Weights).map (cF .f32)) false]) [some 9, none, none] (ZdL Y2.Body (Zg Y2 Y3 Yc Yd Y8) Y8 hp0 hp1 hp2 hp3 hp4 y0 y1)) <| sK [3, 4, 5, 6, 1] sN) rfl (by kernel_rfl) (by kernel_rfl) rfl ?_ ?_
 · rfl
 · simp [ZA]
def Z6 (Y2 : GMotion) (Y3 : (List Int)) (Yc : Nat) (Yd : Nat) (Y8 : Nat) : GMotion × Bool := (cond (Z2X Y2 Y3 Yc Y8)
  ((ZA Y2 Y3 Yc Yd Y8), true)
  ((⟨(⟨(⟨([] : List GVector), ([] : List (List Int))⟩ : GMesh), ([] : List GSpring), 0, 0, ([] : List Nat), (⟨0, 0, 0⟩ : GVector)⟩ : GBody), ([] : List GVector)⟩ : GMotion), false))
theorem Z3H (m : GMotion) (h : List Int) (a d t : Nat) : (Z6 m h a d t).1 = (⟨(⟨(⟨([] : List GVector), ([] : List (List Int))⟩ : GMesh), ([] : List GSpring), 0, 0, ([] : List Nat), (⟨0, 0, 0⟩ : GVector)⟩ : GBody), ([] : List GVector)⟩ : GMotion) ∨ (Z6 m h a d t).1 = ZA m h a d t := by
  unfold Z6
  cases Z2X m h a t with
  | false => left; rfl
  | true => right; simp only [cond_true]
theorem Z8A (m : GMotion) (h : List Int) (a d t : Nat) : (Z6 m h a d t).1.Body.Mesh.Places.length ≤ m.Body.Mesh.Places.length := by
  rcases Z3H m h a d t with e | e <;> rw [e]
  · first | exact Nat.zero_le _ | (intro t ht; cases ht)
  · exact Z9W m h a d t
theorem Z8B (m : GMotion) (h : List Int) (a d t : Nat) : (Z6 m h a d t).1.Body.Mesh.Triangles.length ≤ m.Body.Mesh.Triangles.length := by
  rcases Z3H m h a d t with e | e <;> rw [e]
  · first | exact Nat.zero_le _ | (intro t ht; cases ht)
  · exact Z9X m h a d t
theorem Z8C (m : GMotion) (h : List Int) (a d t : Nat) : (Z6 m h a d t).1.Body.Weights.length ≤ m.Body.Weights.length := by
  rcases Z3H m h a d t with e | e <;> rw [e]
  · first | exact Nat.zero_le _ | (intro t ht; cases ht)
  · exact Z9Y m h a d t
theorem Z8D (m : GMotion) (h : List Int) (a d t : Nat) : (Z6 m h a d t).1.Body.Springs.length ≤ m.Body.Springs.length := by
  rcases Z3H m h a d t with e | e <;> rw [e]
  · first | exact Nat.zero_le _ | (intro t ht; cases ht)
  · exact Z9Z m h a d t
theorem Z8E (m : GMotion) (h : List Int) (a d t : Nat) : (Z6 m h a d t).1.Speeds.length ≤ m.Speeds.length := by
  rcases Z3H m h a d t with e | e <;> rw [e]
  · first | exact Nat.zero_le _ | (intro t ht; cases ht)
  · exact Za0 m h a d t
theorem Z8F (m : GMotion) (h : List Int) (a d t : Nat) : ∀ u ∈ (Z6 m h a d t).1.Body.Mesh.Triangles, u ∈ m.Body.Mesh.Triangles := by
  rcases Z3H m h a d t with e | e <;> rw [e]
  · first | exact Nat.zero_le _ | (intro t ht; cases ht)
  · exact Zdk m h a d t
theorem ZcL (Y2 : GMotion) (Y3 : (List Int)) (Yc : Nat) (Yd : Nat) (Y8 : Nat) (hp0 : Y2.Body.Mesh.Places.length ≤ 1073741824) (hp1 : Y2.Body.Mesh.Triangles.length ≤ 1073741824) (hp2 : ∀ t ∈ Y2.Body.Mesh.Triangles, t.length ≤ 1073741824) (hp3 : Y2.Body.Springs.length ≤ 1073741824) (hp4 : Y2.Body.Weights.length ≤ 1073741824) (hp5 : Y2.Speeds.length ≤ 1073741824) (hp6 : Y3.length ≤ 1073741824)  : Fn prog 32 [.agg [.sl (Y2.Body.Mesh.Places.map GVector.cells), .sl (Y2.Body.Mesh.Triangles.map (cL (cI .i64))), .sl (Y2.Body.Springs.map GSpring.cells), .f .f32 Y2.Body.Film, .f .f32 Y2.Body.Bend, .sl (Y2.Body.Weights.map (cF .f32)), .f .f32 Y2.Body.Fall.X, .f .f32 Y2.Body.Fall.Y, .f .f32 Y2.Body.Fall.Z, .sl (Y2.Speeds.map GVector.cells)], .sl (Y3.map (cI .i64)), .f .f32 Yc, .f .f32 Yd, .f .f32 Y8] (.tup [.agg [.own 0, .own 1, .own 2, .f .f32 ((Z6 Y2 Y3 Yc Yd Y8).1.Body.Film), .f .f32 ((Z6 Y2 Y3 Yc Yd Y8).1.Body.Bend), .own 3, .f .f32 ((Z6 Y2 Y3 Yc Yd Y8).1.Body.Fall.X), .f .f32 ((Z6 Y2 Y3 Yc Yd Y8).1.Body.Fall.Y), .f .f32 ((Z6 Y2 Y3 Yc Yd Y8).1.Body.Fall.Z), .own 4], .b ((Z6 Y2 Y3 Yc Yd Y8).2)]) [.vec 40 3 (((Z6 Y2 Y3 Yc Yd Y8).1.Body.Mesh.Places).map GVector.cells) false, .nest 49 (((Z6 Y2 Y3 Yc Yd Y8).1.Body.Mesh.Triangles).map fun l => l.map (cI .i64)) false, .vec 133 4 (((Z6 Y2 Y3 Yc Yd Y8).1.Body.Springs).map GSpring.cells) false, .vec 27 1 (((Z6 Y2 Y3 Yc Yd Y8).1.Body.Weights).map (cF .f32)) false, .vec 40 3 (((Z6 Y2 Y3 Yc Yd Y8).1.Speeds).map GVector.cells) false] := by
 have p {a C} (s : Scr a C) := sF (ZeC Y2 Y3 Yc Y8 hp0 hp1 hp2 hp3 hp4 hp5 hp6) <| s
 cases h0 : (Z2X Y2 Y3 Yc Y8) with
 | true =>
  have y0 : OkBd Y2.Body := by clear p; exact (by exact Ze5 _ (ZdH _ _ _ _ (by assumption)).1)
  have y1 : Y2.Speeds.length = Y2.Body.Mesh.Places.length := by clear p; exact (by exact (ZdH _ _ _ _ (by assumption)).2.1)
  have y2 : OkIx Y2.Body.Mesh.Places.length (fun x => x) Y3 := by clear p; exact (by exact Ze7 _ _ (by assumption) (ZdH _ _ _ _ (by assumption)).2.2.1)
  have l1 := (Z9W Y2 Y3 Yc Yd Y8)
  have l2 := (Z9X Y2 Y3 Yc Yd Y8)
  have l3 := (Z9Y Y2 Y3 Yc Yd Y8)
  have l4 := (Z9Z Y2 Y3 Yc Yd Y8)
  have l5 := (Za0 Y2 Y3 Yc Yd Y8)
  refine fnS E0Ok Z5 (c := bodyOf f32) [] (.tup [.agg [.own 0, .own 1, .own 2, .f .f32 ((ZA Y2 Y3 Yc Yd Y8).Body.Film), .f .f32 ((ZA Y2 Y3 Yc Yd Y8).Body.Bend), .own 3, .f .f32 ((ZA Y2 Y3 Yc Yd Y8).Body.Fall.X), .f .f32 ((ZA Y2 Y3 Yc Yd Y8).Body.Fall.Y), .f .f32 ((ZA Y2 Y3 Yc Yd Y8).Body.Fall.Z), .own 4], .b true]) [.vec 40 3 (((ZA Y2 Y3 Yc Yd Y8).Body.Mesh.Places).map GVector.cells) false, .nest 49 (((ZA Y2 Y3 Yc Yd Y8).Body.Mesh.Triangles).map fun l => l.map (cI .i64)) false, .vec 133 4 (((ZA Y2 Y3 Yc Yd Y8).Body.Springs).map GSpring.cells) false, .vec 27 1 (((ZA Y2 Y3 Yc Yd Y8).Body.Weights).map (cF .f32)) false, .vec 40 3 (((ZA Y2 Y3 Yc Yd Y8).Speeds).map GVector.cells) false] func32 (p (sB' h0 <| sF (Zeb Y2 Y3 Yc Yd Y8 hp0 hp1 hp2 hp3 hp4 hp5 hp6 y0 y1 y2) <| sK [2, 3, 4, 5, 6] sN)) rfl (by kernel_rfl) (by kernel_rfl) rfl ?_ ?_
  · simp only [Z6, h0, cond_true]
  · simp [Z6, h0]
 | false =>
  refine fnS E0Ok Z5 (c := bodyOf f32) [(.row 1 0, .vec 40 3 [] false), (.row 1 1, .nest 49 [] false), (.row 1 2, .vec 133 4 [] false), (.row 1 5, .vec 27 1 [] false), (.row 1 9, .vec 40 3 [] false)] (.tup [.agg [.own 0, .own 1, .own 2, .f .f32 0, .f .f32 0, .own 3, .f .f32 0, .f .f32 0, .f .f32 0, .own 4], .b false]) [.vec 40 3 [] false, .nest 49 [] false, .vec 133 4 [] false, .vec 27 1 [] false, .vec 40 3 [] false] func32 (p (sB' h0 <| sK [2, 3, 4, 5, 6] sN)) rfl (by kernel_rfl) (by kernel_rfl) rfl ?_ ?_
  · simp only [Z6, h0, cond_false]
  · simp [Z6, h0, GVector.cells, cL, cI, GSpring.cells, cF]
def Z1p (n_0 : Int) (YE : Int) (Yy : Int) : Bool := (cond (decide (n_0 ≥ YE))
  (decide (n_0 ≤ Yy))
  false)
theorem Z7g (n_0 : Int) (YE : Int) (Yy : Int)   : Fn prog 83 [.i .i64 n_0, .i .i64 YE, .i .i64 Yy] (.b (Z1p n_0 YE Yy)) [] := by
 cases h0 : (decide (n_0 ≥ YE)) with
 | true =>
  have gh0 := of_decide_eq_true h0
  refine fnS E0Ok Z5 (c := bodyOf f83) [] (.b (decide (n_0 ≤ Yy))) [] func83 (sB h0 <| sB h0 <| sB h0 <| sB h0 <| sK [] sN) rfl (by kernel_rfl) (by kernel_rfl) rfl ?_ ?_
  · simp only [Z1p, h0, cond_true]
  · rfl
 | false =>
  have gh0 := of_decide_eq_false h0
  refine fnS E0Ok Z5 (c := bodyOf f83) [] (.b false) [] func83 (sB h0 <| sB h0 <| sB h0 <| sB h0 <| sK [] sN) rfl (by kernel_rfl) (by kernel_rfl) rfl ?_ ?_
  · simp only [Z1p, h0, cond_false]
  · rfl
def Z1Z (Y2 : GMesh) (Y1 : Int) : Nat → Int → (Unit) ⊕ (Unit)
  | 0, _ => .inl default
  | k + 1, Y6 => (cond (decide (Y6 < ((Y2.Triangles.getD Y1.toNat default).length : Int)))
    (cond (Z1p ((Y2.Triangles.getD Y1.toNat default).getD Y6.toNat default) 0 (IntKind.wrap .i64 ((Y2.Places.length : Int) - 1)))
      (Z1Z Y2 Y1 k (Y6 + 1))
      (.inl ()))
    (.inr ()))
def Z4Y (Y2 : GMesh) (Y1 : Int) : (Unit) ⊕ (Unit) → Ex × St
  | .inl r => (.ret, ⟨.any :: .any :: .b false :: an 66 [], []⟩)
  | .inr r => ((.exit 2), ⟨.agg [.sl (Y2.Places.map GVector.cells), .sl (Y2.Triangles.map (cL (cI .i64)))] :: .ptr 0 0 0 :: .any :: .i .i64 (Y2.Places.length : Int) :: .any :: .sl ((Y2.Triangles.getD Y1.toNat default).map (cI .i64)) :: .any :: .any :: .ptr 0 0 0 :: .sl (Y2.Places.map GVector.cells) :: .i .i64 (Y2.Places.length : Int) :: .i .i64 (Y2.Places.length : Int) :: .b (decide ((Y2.Places.length : Int) > 64)) :: .b (decide ((Y2.Places.length : Int) > 64)) :: .ptr 0 0 1 :: .sl (Y2.Triangles.map (cL (cI .i64))) :: .i .i64 (Y2.Triangles.length : Int) :: .b (decide ((Y2.Triangles.length : Int) > 128)) :: .b (decide ((Y2.Triangles.length : Int) > 128)) :: .ptr 0 0 1 :: .sl (Y2.Triangles.map (cL (cI .i64))) :: .i .i64 (Y2.Triangles.length : Int) :: .i .i64 Y1 :: .b (decide (Y1 < (Y2.Triangles.length : Int))) :: .ref [.sl ((Y2.Triangles.getD Y1.toNat default).map (cI .i64))] 0 :: .sl ((Y2.Triangles.getD Y1.toNat default).map (cI .i64)) :: .sl ((Y2.Triangles.getD Y1.toNat default).map (cI .i64)) :: .i .i64 ((Y2.Triangles.getD Y1.toNat default).length : Int) :: .b (((Y2.Triangles.getD Y1.toNat default).length : Int) != 3) :: .b (((Y2.Triangles.getD Y1.toNat default).length : Int) != 3) :: .sl ((Y2.Triangles.getD Y1.toNat default).map (cI .i64)) :: .ref [.i .i64 ((Y2.Triangles.getD Y1.toNat default).getD 0 default)] 0 :: .i .i64 ((Y2.Triangles.getD Y1.toNat default).getD 0 default) :: .sl ((Y2.Triangles.getD Y1.toNat default).map (cI .i64)) :: .ref [.i .i64 ((Y2.Triangles.getD Y1.toNat default).getD 1 default)] 0 :: .i .i64 ((Y2.Triangles.getD Y1.toNat default).getD 1 default) :: .b (((Y2.Triangles.getD Y1.toNat default).getD 0 default) == ((Y2.Triangles.getD Y1.toNat default).getD 1 default)) :: .b (((Y2.Triangles.getD Y1.toNat default).getD 0 default) == ((Y2.Triangles.getD Y1.toNat default).getD 1 default)) :: .b (((Y2.Triangles.getD Y1.toNat default).getD 0 default) == ((Y2.Triangles.getD Y1.toNat default).getD 1 default)) :: .sl ((Y2.Triangles.getD Y1.toNat default).map (cI .i64)) :: .ref [.i .i64 ((Y2.Triangles.getD Y1.toNat default).getD 1 default)] 0 :: .i .i64 ((Y2.Triangles.getD Y1.toNat default).getD 1 default) :: .sl ((Y2.Triangles.getD Y1.toNat default).map (cI .i64)) :: .ref [.i .i64 ((Y2.Triangles.getD Y1.toNat default).getD 2 default)] 0 :: .i .i64 ((Y2.Triangles.getD Y1.toNat default).getD 2 default) :: .b (((Y2.Triangles.getD Y1.toNat default).getD 1 default) == ((Y2.Triangles.getD Y1.toNat default).getD 2 default)) :: .b (((Y2.Triangles.getD Y1.toNat default).getD 1 default) == ((Y2.Triangles.getD Y1.toNat default).getD 2 default)) :: .b (((Y2.Triangles.getD Y1.toNat default).getD 1 default) == ((Y2.Triangles.getD Y1.toNat default).getD 2 default)) :: .sl ((Y2.Triangles.getD Y1.toNat default).map (cI .i64)) :: .ref [.i .i64 ((Y2.Triangles.getD Y1.toNat default).getD 0 default)] 0 :: .i .i64 ((Y2.Triangles.getD Y1.toNat default).getD 0 default) :: .sl ((Y2.Triangles.getD Y1.toNat default).map (cI .i64)) :: .ref [.i .i64 ((Y2.Triangles.getD Y1.toNat default).getD 2 default)] 0 :: .i .i64 ((Y2.Triangles.getD Y1.toNat default).getD 2 default) :: .b (((Y2.Triangles.getD Y1.toNat default).getD 0 default) == ((Y2.Triangles.getD Y1.toNat default).getD 2 default)) :: .b (((Y2.Triangles.getD Y1.toNat default).getD 0 default) == ((Y2.Triangles.getD Y1.toNat default).getD 2 default)) :: .sl ((Y2.Triangles.getD Y1.toNat default).map (cI .i64)) :: .i .i64 ((Y2.Triangles.getD Y1.toNat default).length : Int) :: an 11 [], [.box 38 [.sl (Y2.Places.map GVector.cells), .sl (Y2.Triangles.map (cL (cI .i64)))]]⟩)
def ZbJ (Y2 : GMesh) (Y1 : Int) (Y6 : Int) : St := ⟨.agg [.sl (Y2.Places.map GVector.cells), .sl (Y2.Triangles.map (cL (cI .i64)))] :: .ptr 0 0 0 :: .any :: .i .i64 (Y2.Places.length : Int) :: .any :: .sl ((Y2.Triangles.getD Y1.toNat default).map (cI .i64)) :: .any :: .any :: .ptr 0 0 0 :: .sl (Y2.Places.map GVector.cells) :: .i .i64 (Y2.Places.length : Int) :: .i .i64 (Y2.Places.length : Int) :: .b (decide ((Y2.Places.length : Int) > 64)) :: .b (decide ((Y2.Places.length : Int) > 64)) :: .ptr 0 0 1 :: .sl (Y2.Triangles.map (cL (cI .i64))) :: .i .i64 (Y2.Triangles.length : Int) :: .b (decide ((Y2.Triangles.length : Int) > 128)) :: .b (decide ((Y2.Triangles.length : Int) > 128)) :: .ptr 0 0 1 :: .sl (Y2.Triangles.map (cL (cI .i64))) :: .i .i64 (Y2.Triangles.length : Int) :: .i .i64 Y1 :: .b (decide (Y1 < (Y2.Triangles.length : Int))) :: .ref [.sl ((Y2.Triangles.getD Y1.toNat default).map (cI .i64))] 0 :: .sl ((Y2.Triangles.getD Y1.toNat default).map (cI .i64)) :: .sl ((Y2.Triangles.getD Y1.toNat default).map (cI .i64)) :: .i .i64 ((Y2.Triangles.getD Y1.toNat default).length : Int) :: .b (((Y2.Triangles.getD Y1.toNat default).length : Int) != 3) :: .b (((Y2.Triangles.getD Y1.toNat default).length : Int) != 3) :: .sl ((Y2.Triangles.getD Y1.toNat default).map (cI .i64)) :: .ref [.i .i64 ((Y2.Triangles.getD Y1.toNat default).getD 0 default)] 0 :: .i .i64 ((Y2.Triangles.getD Y1.toNat default).getD 0 default) :: .sl ((Y2.Triangles.getD Y1.toNat default).map (cI .i64)) :: .ref [.i .i64 ((Y2.Triangles.getD Y1.toNat default).getD 1 default)] 0 :: .i .i64 ((Y2.Triangles.getD Y1.toNat default).getD 1 default) :: .b (((Y2.Triangles.getD Y1.toNat default).getD 0 default) == ((Y2.Triangles.getD Y1.toNat default).getD 1 default)) :: .b (((Y2.Triangles.getD Y1.toNat default).getD 0 default) == ((Y2.Triangles.getD Y1.toNat default).getD 1 default)) :: .b (((Y2.Triangles.getD Y1.toNat default).getD 0 default) == ((Y2.Triangles.getD Y1.toNat default).getD 1 default)) :: .sl ((Y2.Triangles.getD Y1.toNat default).map (cI .i64)) :: .ref [.i .i64 ((Y2.Triangles.getD Y1.toNat default).getD 1 default)] 0 :: .i .i64 ((Y2.Triangles.getD Y1.toNat default).getD 1 default) :: .sl ((Y2.Triangles.getD Y1.toNat default).map (cI .i64)) :: .ref [.i .i64 ((Y2.Triangles.getD Y1.toNat default).getD 2 default)] 0 :: .i .i64 ((Y2.Triangles.getD Y1.toNat default).getD 2 default) :: .b (((Y2.Triangles.getD Y1.toNat default).getD 1 default) == ((Y2.Triangles.getD Y1.toNat default).getD 2 default)) :: .b (((Y2.Triangles.getD Y1.toNat default).getD 1 default) == ((Y2.Triangles.getD Y1.toNat default).getD 2 default)) :: .b (((Y2.Triangles.getD Y1.toNat default).getD 1 default) == ((Y2.Triangles.getD Y1.toNat default).getD 2 default)) :: .sl ((Y2.Triangles.getD Y1.toNat default).map (cI .i64)) :: .ref [.i .i64 ((Y2.Triangles.getD Y1.toNat default).getD 0 default)] 0 :: .i .i64 ((Y2.Triangles.getD Y1.toNat default).getD 0 default) :: .sl ((Y2.Triangles.getD Y1.toNat default).map (cI .i64)) :: .ref [.i .i64 ((Y2.Triangles.getD Y1.toNat default).getD 2 default)] 0 :: .i .i64 ((Y2.Triangles.getD Y1.toNat default).getD 2 default) :: .b (((Y2.Triangles.getD Y1.toNat default).getD 0 default) == ((Y2.Triangles.getD Y1.toNat default).getD 2 default)) :: .b (((Y2.Triangles.getD Y1.toNat default).getD 0 default) == ((Y2.Triangles.getD Y1.toNat default).getD 2 default)) :: .sl ((Y2.Triangles.getD Y1.toNat default).map (cI .i64)) :: .i .i64 ((Y2.Triangles.getD Y1.toNat default).length : Int) :: .i .i64 Y6 :: an 10 [], [.box 38 [.sl (Y2.Places.map GVector.cells), .sl (Y2.Triangles.map (cL (cI .i64)))]]⟩
def Z5m : List Bool := (mR false [0, 2, 1, 1, 1, 1, 2, 51, 10])
def ZaO : List Bool := (mR false [0, 2, 1, 1, 1, 1, 2, 50, 11])
theorem Z8G (Y2 : GMesh) (Y1 : Int) (hp0 : Y2.Places.length ≤ 1073741824) (hp1 : Y2.Triangles.length ≤ 1073741824) (hp2 : ∀ t ∈ Y2.Triangles, t.length ≤ 1073741824) (Z3W : (decide ((Y2.Places.length : Int) > 64)) = false) (Z3X : (decide ((Y2.Triangles.length : Int) > 128)) = false) (Z3Y : 0 ≤ Y1) (ZfB : (((Y2.Triangles.getD Y1.toNat default).length : Int) != 3) = false) (ZfC : (decide ((Y2.Places.length : Int) > 64)) = false) (ZfD : (decide ((Y2.Triangles.length : Int) > 128)) = false) (ZfE : (decide (Y1 < (Y2.Triangles.length : Int))) = true) : ∀ (k : Nat) (Y6 : Int) (Z7H : 0 ≤ Y6) (hk : (((Y2.Triangles.getD Y1.toNat default).length : Int) - Y6).toNat < k), Lp prog 0 (sub (bodyOf f105) [1, 1, 1, 0, 1, 0, 0, 1, 1, 0, 0, 1, 1, 1, 0, 0]) (ZbJ Y2 Y1 Y6) (Z4Y Y2 Y1 (Z1Z Y2 Y1 k Y6)).1 (Z4Y Y2 Y1 (Z1Z Y2 Y1 k Y6)).2 := by
 intro k
 induction k with
 | zero => intro Y6 Z7H hk; exact absurd hk (Nat.not_lt_zero _)
 | succ k ih =>
  intro Y6 Z7H hk
  cases YD : (decide (Y6 < ((Y2.Triangles.getD Y1.toNat default).length : Int))) with
  | true =>
   have YB := of_decide_eq_true YD
   have Y13 : (0 : Int) ≤ Y6 := (by assumption)
   have Y14 : Y6 < ((Y2.Triangles.getD Y1.toNat default).length : Int) := (by assumption)
   have p {a C} (s : Scr a C) := sB YD <| sG (cI .i64) (Y2.Triangles.getD Y1.toNat default) Y6 Y13 Y14 <| sW .i64 ((Y2.Places.length : Int) - 1) <| sF (Z7g ((Y2.Triangles.getD Y1.toNat default).getD Y6.toNat default) 0 (IntKind.wrap .i64 ((Y2.Places.length : Int) - 1))) <| s
   cases YW : (Z1p ((Y2.Triangles.getD Y1.toNat default).getD Y6.toNat default) 0 (IntKind.wrap .i64 ((Y2.Places.length : Int) - 1))) with
   | true =>
    have Y11 : (-9223372036854775808 : Int) ≤ (Y6 + 1) := by clear p; exact (by omega)
    have YZ : (Y6 + 1) ≤ (9223372036854775807 : Int) := by clear p; exact (by simp_all <;> omega)
    have e : Z1Z Y2 Y1 (k + 1) Y6 = (Z1Z Y2 Y1 k (Y6 + 1)) := by simp only [Z1Z, YD, YW, cond_true]
    rw [e]
    exact nextR E0Ok Z5 [] Z5m [0] (ih (Y6 + 1) (show 0 ≤ (Y6 + 1) from (by omega)) (by omega)) (p (sB' YW <| sI (Y6 + 1) Y11 YZ <| sN)) (by kernel_rfl)
   | false =>
    have e : Z1Z Y2 Y1 (k + 1) Y6 = (.inl ()) := by simp only [Z1Z, YD, YW, cond_true, cond_false]
    rw [e]
    exact outR (e := .ret) E0Ok Z5 [] (mR false [2, 1, 66]) [] (p (sB' YW <| sN)) (by kernel_rfl) (by intro h; cases h)
  | false =>
   have YB := of_decide_eq_false YD
   have e : Z1Z Y2 Y1 (k + 1) Y6 = (.inr ()) := by simp only [Z1Z, YD, cond_false]
   rw [e]
   exact outR (e := (.exit 2)) E0Ok Z5 [] ZaO [0] (sB YD <| sN) (by kernel_rfl) (by intro h; cases h)
def Z3z (Y2 : GMesh) (Y1 : Int) : (Unit) ⊕ (Unit) := (Z1Z Y2 Y1 ((((Y2.Triangles.getD Y1.toNat default).length : Int) - 0).toNat + 1) 0)
def Zy (Y2 : GMesh) : Nat → Int → (Unit) ⊕ (Unit)
  | 0, _ => .inl default
  | k + 1, Y1 => (cond (decide (Y1 < (Y2.Triangles.length : Int)))
    (cond (((Y2.Triangles.getD Y1.toNat default).length : Int) != 3)
      (.inl ())
      (cond (((Y2.Triangles.getD Y1.toNat default).getD 0 default) == ((Y2.Triangles.getD Y1.toNat default).getD 1 default))
        (.inl ())
        (cond (((Y2.Triangles.getD Y1.toNat default).getD 1 default) == ((Y2.Triangles.getD Y1.toNat default).getD 2 default))
          (.inl ())
          (cond (((Y2.Triangles.getD Y1.toNat default).getD 0 default) == ((Y2.Triangles.getD Y1.toNat default).getD 2 default))
            (.inl ())
            (match (Z3z Y2 Y1) with
              | .inl r_6 => (.inl ())
              | .inr r_6 => (Zy Y2 k (Y1 + 1)))))))
    (.inr ()))
def Z4Z (Y2 : GMesh) : (Unit) ⊕ (Unit) → Ex × St
  | .inl r => (.ret, ⟨.any :: .any :: .b false :: an 66 [], []⟩)
  | .inr r => ((.exit 0), ⟨.agg [.sl (Y2.Places.map GVector.cells), .sl (Y2.Triangles.map (cL (cI .i64)))] :: .ptr 0 0 0 :: .any :: .i .i64 (Y2.Places.length : Int) :: an 4 (.ptr 0 0 0 :: .sl (Y2.Places.map GVector.cells) :: .i .i64 (Y2.Places.length : Int) :: .i .i64 (Y2.Places.length : Int) :: .b (decide ((Y2.Places.length : Int) > 64)) :: .b (decide ((Y2.Places.length : Int) > 64)) :: .ptr 0 0 1 :: .sl (Y2.Triangles.map (cL (cI .i64))) :: .i .i64 (Y2.Triangles.length : Int) :: .b (decide ((Y2.Triangles.length : Int) > 128)) :: .b (decide ((Y2.Triangles.length : Int) > 128)) :: .ptr 0 0 1 :: .sl (Y2.Triangles.map (cL (cI .i64))) :: an 48 []), [.box 38 [.sl (Y2.Places.map GVector.cells), .sl (Y2.Triangles.map (cL (cI .i64)))]]⟩)
def ZbK (Y2 : GMesh) (Y1 : Int) : St := ⟨.agg [.sl (Y2.Places.map GVector.cells), .sl (Y2.Triangles.map (cL (cI .i64)))] :: .ptr 0 0 0 :: .any :: .i .i64 (Y2.Places.length : Int) :: an 4 (.ptr 0 0 0 :: .sl (Y2.Places.map GVector.cells) :: .i .i64 (Y2.Places.length : Int) :: .i .i64 (Y2.Places.length : Int) :: .b (decide ((Y2.Places.length : Int) > 64)) :: .b (decide ((Y2.Places.length : Int) > 64)) :: .ptr 0 0 1 :: .sl (Y2.Triangles.map (cL (cI .i64))) :: .i .i64 (Y2.Triangles.length : Int) :: .b (decide ((Y2.Triangles.length : Int) > 128)) :: .b (decide ((Y2.Triangles.length : Int) > 128)) :: .ptr 0 0 1 :: .sl (Y2.Triangles.map (cL (cI .i64))) :: .i .i64 (Y2.Triangles.length : Int) :: .i .i64 Y1 :: an 46 []), [.box 38 [.sl (Y2.Places.map GVector.cells), .sl (Y2.Triangles.map (cL (cI .i64)))]]⟩
theorem Z8H (Y2 : GMesh) (hp0 : Y2.Places.length ≤ 1073741824) (hp1 : Y2.Triangles.length ≤ 1073741824) (hp2 : ∀ t ∈ Y2.Triangles, t.length ≤ 1073741824) (Z3W : (decide ((Y2.Places.length : Int) > 64)) = false) (Z3X : (decide ((Y2.Triangles.length : Int) > 128)) = false) : ∀ (k : Nat) (Y1 : Int) (Z3Y : 0 ≤ Y1) (hk : ((Y2.Triangles.length : Int) - Y1).toNat < k), Lp prog 0 (sub (bodyOf f105) [1, 1, 1, 0, 1, 0, 0]) (ZbK Y2 Y1) (Z4Z Y2 (Zy Y2 k Y1)).1 (Z4Z Y2 (Zy Y2 k Y1)).2 := by
 intro k
 induction k with
 | zero => intro Y1 Z3Y hk; exact absurd hk (Nat.not_lt_zero _)
 | succ k ih =>
  intro Y1 Z3Y hk
  cases Yl : (decide (Y1 < (Y2.Triangles.length : Int))) with
  | true =>
   have Yw := of_decide_eq_true Yl
   have YF : (0 : Int) ≤ Y1 := (by assumption)
   have YG : Y1 < (Y2.Triangles.length : Int) := (by assumption)
   have p {a C} (s : Scr a C) := sB Yl <| sG (cL (cI .i64)) Y2.Triangles Y1 YF YG <| sK [28, 28] <| sZ (cI .i64) (Y2.Triangles.getD Y1.toNat default) <| s
   cases Yr : (((Y2.Triangles.getD Y1.toNat default).length : Int) != 3) with
   | true =>
    have Y10 := bne_iff_ne.1 Yr
    have e : Zy Y2 (k + 1) Y1 = (.inl ()) := by simp only [Zy, Yl, Yr, cond_true]
    rw [e]
    exact outR (e := .ret) E0Ok Z5 [] (mR false [2, 1, 66]) [] (p (sB Yr <| sB Yr <| sB Yr <| sB Yr <| sB Yr <| sB Yr <| sB Yr <| sB Yr <| sB (show true = true from rfl) <| sB (show true = true from rfl) <| sB (show true = true from rfl) <| sB (show true = true from rfl) <| sB (show true = true from rfl) <| sB (show true = true from rfl) <| sB (show true = true from rfl) <| sB (show true = true from rfl) <| sB (show true = true from rfl) <| sB (show true = true from rfl) <| sB (show true = true from rfl) <| sB (show true = true from rfl) <| sB (show true = true from rfl) <| sB (show true = true from rfl) <| sB (show true = true from rfl) <| sB (show true = true from rfl) <| sB (show true = true from rfl) <| sN)) (by kernel_rfl) (by intro h; cases h)
   | false =>
    have Y10 := bne_eq_false_iff_eq.1 Yr
    have YH : (0 : Int) ≤ 0 := by clear p; exact (by omega)
    have YI : 0 < ((Y2.Triangles.getD Y1.toNat default).length : Int) := by clear p; exact (by omega)
    have YP : (0 : Int) ≤ 1 := by clear p; exact (by omega)
    have YS : 1 < ((Y2.Triangles.getD Y1.toNat default).length : Int) := by clear p; exact (by omega)
    have q {a C} (s : Scr a C) := p (sB Yr <| sB Yr <| sG (cI .i64) (Y2.Triangles.getD Y1.toNat default) 0 YH YI <| sB Yr <| sB Yr <| sB Yr <| sG (cI .i64) (Y2.Triangles.getD Y1.toNat default) 1 YP YS <| sB Yr <| sB Yr <| sB Yr <| s)
    clear p
    cases YL : (((Y2.Triangles.getD Y1.toNat default).getD 0 default) == ((Y2.Triangles.getD Y1.toNat default).getD 1 default)) with
    | true =>
     have Y1e := eq_of_beq YL
     have e : Zy Y2 (k + 1) Y1 = (.inl ()) := by simp only [Zy, Yl, Yr, YL, cond_true, cond_false]
     rw [e]
     exact outR (e := .ret) E0Ok Z5 [] (mR false [2, 1, 66]) [] (q (sB YL <| sB YL <| sB YL <| sB YL <| sB YL <| sB YL <| sB YL <| sB YL <| sB (show true = true from rfl) <| sB (show true = true from rfl) <| sB (show true = true from rfl) <| sB (show true = true from rfl) <| sB (show true = true from rfl) <| sB (show true = true from rfl) <| sB (show true = true from rfl) <| sB (show true = true from rfl) <| sB (show true = true from rfl) <| sN)) (by kernel_rfl) (by intro h; cases h)
    | false =>
     have Y1e := ne_of_beq_false YL
     have y_6 : (0 : Int) ≤ 2 := by clear q; exact (by omega)
     have y_7 : 2 < ((Y2.Triangles.getD Y1.toNat default).length : Int) := by clear q; exact (by omega)
     have p {a C} (s : Scr a C) := q (sB YL <| sB YL <| sG (cI .i64) (Y2.Triangles.getD Y1.toNat default) 1 YP YS <| sB YL <| sB YL <| sB YL <| sG (cI .i64) (Y2.Triangles.getD Y1.toNat default) 2 y_6 y_7 <| sB YL <| sB YL <| sB YL <| s)
     clear q
     cases YX : (((Y2.Triangles.getD Y1.toNat default).getD 1 default) == ((Y2.Triangles.getD Y1.toNat default).getD 2 default)) with
     | true =>
      have Y1x := eq_of_beq YX
      have e : Zy Y2 (k + 1) Y1 = (.inl ()) := by simp only [Zy, Yl, Yr, YL, YX, cond_true, cond_false]
      rw [e]
      exact outR (e := .ret) E0Ok Z5 [] (mR false [2, 1, 66]) [] (p (sB YX <| sB YX <| sB YX <| sB YX <| sB YX <| sB YX <| sB YX <| sB YX <| sB (show true = true from rfl) <| sN)) (by kernel_rfl) (by intro h; cases h)
     | false =>
      have Y1x := ne_of_beq_false YX
      have q {a C} (s : Scr a C) := p (sB YX <| sB YX <| sG (cI .i64) (Y2.Triangles.getD Y1.toNat default) 0 YH YI <| sB YX <| sB YX <| sB YX <| sG (cI .i64) (Y2.Triangles.getD Y1.toNat default) 2 y_6 y_7 <| sB YX <| sB YX <| sB YX <| s)
      clear p
      cases h_4 : (((Y2.Triangles.getD Y1.toNat default).getD 0 default) == ((Y2.Triangles.getD Y1.toNat default).getD 2 default)) with
      | true =>
       have gh_4 := eq_of_beq h_4
       have e : Zy Y2 (k + 1) Y1 = (.inl ()) := by simp only [Zy, Yl, Yr, YL, YX, h_4, cond_true, cond_false]
       rw [e]
       exact outR (e := .ret) E0Ok Z5 [] (mR false [2, 1, 66]) [] (q (sB h_4 <| sN)) (by kernel_rfl) (by intro h; cases h)
      | false =>
       have gh_4 := ne_of_beq_false h_4
       have p {a C} (s : Scr a C) := q (sB h_4 <| sZ (cI .i64) (Y2.Triangles.getD Y1.toNat default) <| s)
       clear q
       cases h_5 : (Z3z Y2 Y1) with
       | inl r_6 =>
        have e : Zy Y2 (k + 1) Y1 = (.inl ()) := by simp only [Zy, Yl, Yr, YL, YX, h_4, h_5, cond_true, cond_false]
        rw [e]
        exact outR (e := .ret) E0Ok Z5 [] (mR false [2, 1, 66]) [] (p (sL Z5m 1 (lp_val (Z4Y Y2 Y1) (x := (Z3z Y2 Y1)) (Z8G Y2 Y1 hp0 hp1 hp2 Z3W Z3X Z3Y Yr Z3W Z3X Yl ((((Y2.Triangles.getD Y1.toNat default).length : Int) - 0).toNat + 1) 0 (show 0 ≤ 0 from (by assumption)) (Nat.lt_succ_self _)) h_5) <| sN)) (by kernel_rfl) (by intro h; cases h)
       | inr r_6 =>
        have y_8 : (-9223372036854775808 : Int) ≤ (Y1 + 1) := by clear p; exact (by omega)
        have y_9 : (Y1 + 1) ≤ (9223372036854775807 : Int) := by clear p; exact (by omega)
        have e : Zy Y2 (k + 1) Y1 = (Zy Y2 k (Y1 + 1)) := by simp only [Zy, Yl, Yr, YL, YX, h_4, h_5, cond_true, cond_false]
        rw [e]
        exact nextR E0Ok Z5 [] (mR false [0, 2, 1, 1, 4, 15, 46]) [0] (ih (Y1 + 1) (show 0 ≤ (Y1 + 1) from (by omega)) (by omega)) (p (sL Z5m 1 (lp_val (Z4Y Y2 Y1) (x := (Z3z Y2 Y1)) (Z8G Y2 Y1 hp0 hp1 hp2 Z3W Z3X Z3Y Yr Z3W Z3X Yl ((((Y2.Triangles.getD Y1.toNat default).length : Int) - 0).toNat + 1) 0 (show 0 ≤ 0 from (by assumption)) (Nat.lt_succ_self _)) h_5) <| sI (Y1 + 1) y_8 y_9 <| sN)) (by kernel_rfl)
  | false =>
   have Yw := of_decide_eq_false Yl
   have e : Zy Y2 (k + 1) Y1 = (.inr ()) := by simp only [Zy, Yl, cond_false]
   rw [e]
   exact outR (e := (.exit 0)) E0Ok Z5 [] (mR false [0, 2, 1, 1, 4, 13, 48]) [0] (sB Yl <| sN) (by kernel_rfl) (by intro h; cases h)
def Z3Z (Y2 : GMesh) : (Unit) ⊕ (Unit) := (Zy Y2 (((Y2.Triangles.length : Int) - 0).toNat + 1) 0)
def Z1J (Y2 : GMesh) : Bool := (cond (decide ((Y2.Places.length : Int) > 64))
  false
  (cond (decide ((Y2.Triangles.length : Int) > 128))
    false
    (match (Z3Z Y2) with
      | .inl r3 => false
      | .inr r3 => true)))
theorem Zdl (Y2 : GMesh) (hp0 : Y2.Places.length ≤ 1073741824) (hp1 : Y2.Triangles.length ≤ 1073741824) (hp2 : ∀ t ∈ Y2.Triangles, t.length ≤ 1073741824)  : Fn prog 105 [.agg [.sl (Y2.Places.map GVector.cells), .sl (Y2.Triangles.map (cL (cI .i64)))]] (.b (Z1J Y2)) [] := by
 have p {a C} (s : Scr a C) := sZ GVector.cells Y2.Places <| s
 cases h0 : (decide ((Y2.Places.length : Int) > 64)) with
 | true =>
  have gh0 := of_decide_eq_true h0
  refine fnS E0Ok Z5 (c := bodyOf f105) [] (.b false) [] func105 (p (sB h0 <| sB h0 <| sB h0 <| sB h0 <| sB h0 <| sB (show true = true from rfl) <| sK [] sN)) rfl (by kernel_rfl) (by kernel_rfl) rfl ?_ ?_
  · simp only [Z1J, h0, cond_true]
  · rfl
 | false =>
  have gh0 := of_decide_eq_false h0
  have q {a C} (s : Scr a C) := p (sB h0 <| sB h0 <| sB h0 <| sZ (cL (cI .i64)) Y2.Triangles <| sB h0 <| sB h0 <| s)
  clear p
  cases h1 : (decide ((Y2.Triangles.length : Int) > 128)) with
  | true =>
   have gh1 := of_decide_eq_true h1
   refine fnS E0Ok Z5 (c := bodyOf f105) [] (.b false) [] func105 (q (sB h1 <| sK [] sN)) rfl (by kernel_rfl) (by kernel_rfl) rfl ?_ ?_
   · simp only [Z1J, h0, h1, cond_true, cond_false]
   · rfl
  | false =>
   have gh1 := of_decide_eq_false h1
   have p {a C} (s : Scr a C) := q (sB h1 <| sZ (cL (cI .i64)) Y2.Triangles <| s)
   clear q
   cases h2 : (Z3Z Y2) with
   | inl r3 =>
    refine fnS E0Ok Z5 (c := bodyOf f105) [] (.b false) [] func105 (p (sL (mR false [0, 2, 1, 1, 4, 15, 46]) 1 (lp_val (Z4Z Y2) (x := (Z3Z Y2)) (Z8H Y2 hp0 hp1 hp2 h0 h1 (((Y2.Triangles.length : Int) - 0).toNat + 1) 0 (show 0 ≤ 0 from (by omega)) (Nat.lt_succ_self _)) h2) <| sK [] sN)) rfl (by kernel_rfl) (by kernel_rfl) rfl ?_ ?_
    · simp only [Z1J, h0, h1, h2, cond_false]
    · rfl
   | inr r3 =>
    refine fnS E0Ok Z5 (c := bodyOf f105) [] (.b true) [] func105 (p (sL (mR false [0, 2, 1, 1, 4, 15, 46]) 1 (lp_val (Z4Z Y2) (x := (Z3Z Y2)) (Z8H Y2 hp0 hp1 hp2 h0 h1 (((Y2.Triangles.length : Int) - 0).toNat + 1) 0 (show 0 ≤ 0 from (by omega)) (Nat.lt_succ_self _)) h2) <| sK [] sN)) rfl (by kernel_rfl) (by kernel_rfl) rfl ?_ ?_
    · simp only [Z1J, h0, h1, h2, cond_false]
    · rfl
theorem triB (t : List Int) (n : Int) : (!((t.length : Int) != 3) && (!(t.getD 0 default == t.getD 1 default) && (!(t.getD 1 default == t.getD 2 default) && (!(t.getD 0 default == t.getD 2 default) && t.all fun x => Z1p x 0 (IntKind.wrap .i64 (n - 1)))))) = ZM t n := by
  unfold ZM
  cases hl : ((t.length : Int) != 3) with
  | true => rfl
  | false =>
    have hl3 : t.length = 3 := by simp at hl; omega
    match t, hl3 with
    | [a, b, c], _ =>
      simp only [List.getD_cons_zero, List.getD_cons_succ, List.all_cons, List.all_nil, Bool.and_true]
      rw [show Z1p = ZL from rfl]
      cases (a == b) <;> cases (b == c) <;> cases (a == c) <;> cases ZL a 0 (IntKind.wrap .i64 (n - 1)) <;> cases ZL b 0 (IntKind.wrap .i64 (n - 1)) <;> cases ZL c 0 (IntKind.wrap .i64 (n - 1)) <;> rfl
theorem Zfa (m : GMesh) (k : Nat) (i : Int) : Zy m (k + 1) i = cond (decide (i < (m.Triangles.length : Int))) (cond (ZM (m.Triangles.getD i.toNat default) (m.Places.length : Int)) (Zy m k (i + 1)) (.inl ())) (.inr ()) := by
  rw [Zy, ← triB]
  have hin : Z3z m i = cond ((m.Triangles.getD i.toNat default).all fun x => Z1p x 0 (IntKind.wrap .i64 ((m.Places.length : Int) - 1))) (.inr ()) (.inl ()) := by
    unfold Z3z
    exact all_from (a := m.Triangles.getD i.toNat default) (p := fun x => Z1p x 0 (IntKind.wrap .i64 ((m.Places.length : Int) - 1))) (lo := Z1Z m i) (x := ()) (y := ()) (fun k i => rfl)
  rw [hin]
  generalize m.Triangles.getD i.toNat default = t
  generalize (t.all fun x => Z1p x 0 (IntKind.wrap .i64 ((m.Places.length : Int) - 1))) = q
  cases ((t.length : Int) != 3) <;> cases (t.getD 0 default == t.getD 1 default) <;> cases (t.getD 1 default == t.getD 2 default) <;> cases (t.getD 0 default == t.getD 2 default) <;> cases q <;> rfl
theorem Zfb (m : GMesh) : Z1J m = Z1n m := by
  rw [Z8S]
  unfold Z1J Z3Z
  rw [all_from (a := m.Triangles) (p := fun t => ZM t (m.Places.length : Int)) (lo := Zy m) (x := ()) (y := ()) (Zfa m)]
  cases (m.Triangles.all fun t => ZM t (m.Places.length : Int)) <;> rfl
def ZJ (Ya : GBody) : Nat → Int → (Unit) ⊕ (Unit)
  | 0, _ => .inl default
  | k + 1, Y1 => (cond (decide (Y1 < (Ya.Springs.length : Int)))
    (cond (Z1p ((Ya.Springs.getD Y1.toNat default).A) 0 (IntKind.wrap .i64 ((Ya.Mesh.Places.length : Int) - 1)))
      (cond (Z1p ((Ya.Springs.getD Y1.toNat default).B) 0 (IntKind.wrap .i64 ((Ya.Mesh.Places.length : Int) - 1)))
        (cond ((Ya.Springs.getD Y1.toNat default).A == (Ya.Springs.getD Y1.toNat default).B)
          (.inl ())
          (cond (fcmp .geq .f32 ((Ya.Springs.getD Y1.toNat default).Long) 0)
            (ZJ Ya k (Y1 + 1))
            (.inl ())))
        (.inl ()))
      (.inl ()))
    (.inr ()))
def Z50 (Ya : GBody) : (Unit) ⊕ (Unit) → Ex × St
  | .inl r => (.ret, ⟨.any :: .any :: .b false :: an 59 [], []⟩)
  | .inr r => ((.exit 0), ⟨.agg [.sl (Ya.Mesh.Places.map GVector.cells), .sl (Ya.Mesh.Triangles.map (cL (cI .i64))), .sl (Ya.Springs.map GSpring.cells), .f .f32 Ya.Film, .f .f32 Ya.Bend, .sl (Ya.Weights.map (cF .f32)), .f .f32 Ya.Fall.X, .f .f32 Ya.Fall.Y, .f .f32 Ya.Fall.Z] :: .ptr 0 0 0 :: .any :: .i .i64 (Ya.Mesh.Places.length : Int) :: .any :: .any :: .ptr 0 0 0 :: .ptr 0 0 0 :: .sl (Ya.Mesh.Places.map GVector.cells) :: .i .i64 (Ya.Mesh.Places.length : Int) :: .ptr 0 0 0 :: .agg [.sl (Ya.Mesh.Places.map GVector.cells), .sl (Ya.Mesh.Triangles.map (cL (cI .i64)))] :: .b (Z1J Ya.Mesh) :: .b (!(Z1J Ya.Mesh)) :: .b (!(Z1J Ya.Mesh)) :: .ptr 0 0 2 :: .sl (Ya.Springs.map GSpring.cells) :: .i .i64 (Ya.Springs.length : Int) :: .b (decide ((Ya.Springs.length : Int) > 200)) :: .b (decide ((Ya.Springs.length : Int) > 200)) :: .b (decide ((Ya.Springs.length : Int) > 200)) :: .ptr 0 0 5 :: .sl (Ya.Weights.map (cF .f32)) :: .i .i64 (Ya.Weights.length : Int) :: .i .i64 (Ya.Mesh.Places.length : Int) :: .b ((Ya.Weights.length : Int) != (Ya.Mesh.Places.length : Int)) :: .b ((Ya.Weights.length : Int) != (Ya.Mesh.Places.length : Int)) :: .ptr 0 0 2 :: .sl (Ya.Springs.map GSpring.cells) :: an 33 [], [.box 42 [.sl (Ya.Mesh.Places.map GVector.cells), .sl (Ya.Mesh.Triangles.map (cL (cI .i64))), .sl (Ya.Springs.map GSpring.cells), .f .f32 Ya.Film, .f .f32 Ya.Bend, .sl (Ya.Weights.map (cF .f32)), .f .f32 Ya.Fall.X, .f .f32 Ya.Fall.Y, .f .f32 Ya.Fall.Z]]⟩)
def ZbL (Ya : GBody) (Y1 : Int) : St := ⟨.agg [.sl (Ya.Mesh.Places.map GVector.cells), .sl (Ya.Mesh.Triangles.map (cL (cI .i64))), .sl (Ya.Springs.map GSpring.cells), .f .f32 Ya.Film, .f .f32 Ya.Bend, .sl (Ya.Weights.map (cF .f32)), .f .f32 Ya.Fall.X, .f .f32 Ya.Fall.Y, .f .f32 Ya.Fall.Z] :: .ptr 0 0 0 :: .any :: .i .i64 (Ya.Mesh.Places.length : Int) :: .any :: .any :: .ptr 0 0 0 :: .ptr 0 0 0 :: .sl (Ya.Mesh.Places.map GVector.cells) :: .i .i64 (Ya.Mesh.Places.length : Int) :: .ptr 0 0 0 :: .agg [.sl (Ya.Mesh.Places.map GVector.cells), .sl (Ya.Mesh.Triangles.map (cL (cI .i64)))] :: .b (Z1J Ya.Mesh) :: .b (!(Z1J Ya.Mesh)) :: .b (!(Z1J Ya.Mesh)) :: .ptr 0 0 2 :: .sl (Ya.Springs.map GSpring.cells) :: .i .i64 (Ya.Springs.length : Int) :: .b (decide ((Ya.Springs.length : Int) > 200)) :: .b (decide ((Ya.Springs.length : Int) > 200)) :: .b (decide ((Ya.Springs.length : Int) > 200)) :: .ptr 0 0 5 :: .sl (Ya.Weights.map (cF .f32)) :: .i .i64 (Ya.Weights.length : Int) :: .i .i64 (Ya.Mesh.Places.length : Int) :: .b ((Ya.Weights.length : Int) != (Ya.Mesh.Places.length : Int)) :: .b ((Ya.Weights.length : Int) != (Ya.Mesh.Places.length : Int)) :: .ptr 0 0 2 :: .sl (Ya.Springs.map GSpring.cells) :: .i .i64 (Ya.Springs.length : Int) :: .i .i64 Y1 :: an 31 [], [.box 42 [.sl (Ya.Mesh.Places.map GVector.cells), .sl (Ya.Mesh.Triangles.map (cL (cI .i64))), .sl (Ya.Springs.map GSpring.cells), .f .f32 Ya.Film, .f .f32 Ya.Bend, .sl (Ya.Weights.map (cF .f32)), .f .f32 Ya.Fall.X, .f .f32 Ya.Fall.Y, .f .f32 Ya.Fall.Z]]⟩
theorem Z8I (Ya : GBody) (hp0 : Ya.Mesh.Places.length ≤ 1073741824) (hp1 : Ya.Mesh.Triangles.length ≤ 1073741824) (hp2 : ∀ t ∈ Ya.Mesh.Triangles, t.length ≤ 1073741824) (hp3 : Ya.Springs.length ≤ 1073741824) (hp4 : Ya.Weights.length ≤ 1073741824) (ZfF : ((Ya.Weights.length : Int) != (Ya.Mesh.Places.length : Int)) = false) (ZfG : (decide ((Ya.Springs.length : Int) > 200)) = false) (ZfH : (Z1J Ya.Mesh) = true) : ∀ (k : Nat) (Y1 : Int) (Z7I : 0 ≤ Y1) (hk : ((Ya.Springs.length : Int) - Y1).toNat < k), Lp prog 0 (sub (bodyOf f56) [1, 1, 1, 0, 1, 0, 0]) (ZbL Ya Y1) (Z50 Ya (ZJ Ya k Y1)).1 (Z50 Ya (ZJ Ya k Y1)).2 := by
 intro k
 induction k with
 | zero => intro Y1 Z7I hk; exact absurd hk (Nat.not_lt_zero _)
 | succ k ih =>
  intro Y1 Z7I hk
  cases Yl : (decide (Y1 < (Ya.Springs.length : Int))) with
  | true =>
   have Yw := of_decide_eq_true Yl
   have YF : (0 : Int) ≤ Y1 := (by assumption)
   have YG : Y1 < (Ya.Springs.length : Int) := (by assumption)
   have p {a C} (s : Scr a C) := sB Yl <| sG GSpring.cells Ya.Springs Y1 YF YG <| sW .i64 ((Ya.Mesh.Places.length : Int) - 1) <| sF (Z7g ((Ya.Springs.getD Y1.toNat default).A) 0 (IntKind.wrap .i64 ((Ya.Mesh.Places.length : Int) - 1))) <| s
   cases Yr : (Z1p ((Ya.Springs.getD Y1.toNat default).A) 0 (IntKind.wrap .i64 ((Ya.Mesh.Places.length : Int) - 1))) with
   | true =>
    have q {a C} (s : Scr a C) := p (sB' Yr <| sB' Yr <| sB' Yr <| sB' Yr <| sW .i64 ((Ya.Mesh.Places.length : Int) - 1) <| sB' Yr <| sF (Z7g ((Ya.Springs.getD Y1.toNat default).B) 0 (IntKind.wrap .i64 ((Ya.Mesh.Places.length : Int) - 1))) <| sB' Yr <| sB' Yr <| s)
    clear p
    cases YL : (Z1p ((Ya.Springs.getD Y1.toNat default).B) 0 (IntKind.wrap .i64 ((Ya.Mesh.Places.length : Int) - 1))) with
    | true =>
     have p {a C} (s : Scr a C) := q (sB' YL <| sB' YL <| sB' YL <| sB' YL <| sB' YL <| sB' YL <| s)
     clear q
     cases YX : ((Ya.Springs.getD Y1.toNat default).A == (Ya.Springs.getD Y1.toNat default).B) with
     | true =>
      have Y1x := eq_of_beq YX
      have e : ZJ Ya (k + 1) Y1 = (.inl ()) := by simp only [ZJ, Yl, Yr, YL, YX, cond_true]
      rw [e]
      exact outR (e := .ret) E0Ok Z5 [] (mR false [2, 1, 59]) [] (p (sB YX <| sB YX <| sB YX <| sB YX <| sB YX <| sB (show true = true from rfl) <| sN)) (by kernel_rfl) (by intro h; cases h)
     | false =>
      have Y1x := ne_of_beq_false YX
      have q {a C} (s : Scr a C) := p (sB YX <| sB YX <| sB YX <| sB YX <| sB YX <| s)
      clear p
      cases h_4 : (fcmp .geq .f32 ((Ya.Springs.getD Y1.toNat default).Long) 0) with
      | true =>
       have YH : (-9223372036854775808 : Int) ≤ (Y1 + 1) := by clear q; exact (by omega)
       have YI : (Y1 + 1) ≤ (9223372036854775807 : Int) := by clear q; exact (by omega)
       have e : ZJ Ya (k + 1) Y1 = (ZJ Ya k (Y1 + 1)) := by simp only [ZJ, Yl, Yr, YL, YX, h_4, cond_true, cond_false]
       rw [e]
       exact nextR E0Ok Z5 [] (mR false [0, 2, 1, 1, 2, 25, 31]) [0] (ih (Y1 + 1) (show 0 ≤ (Y1 + 1) from (by omega)) (by omega)) (q (sB' h_4 <| sI (Y1 + 1) YH YI <| sN)) (by kernel_rfl)
      | false =>
       have e : ZJ Ya (k + 1) Y1 = (.inl ()) := by simp only [ZJ, Yl, Yr, YL, YX, h_4, cond_true, cond_false]
       rw [e]
       exact outR (e := .ret) E0Ok Z5 [] (mR false [2, 1, 59]) [] (q (sB' h_4 <| sN)) (by kernel_rfl) (by intro h; cases h)
    | false =>
     have e : ZJ Ya (k + 1) Y1 = (.inl ()) := by simp only [ZJ, Yl, Yr, YL, cond_true, cond_false]
     rw [e]
     exact outR (e := .ret) E0Ok Z5 [] (mR false [2, 1, 59]) [] (q (sB' YL <| sB' YL <| sB' YL <| sB' YL <| sB' YL <| sB' YL <| sB (show true = true from rfl) <| sB (show true = true from rfl) <| sB (show true = true from rfl) <| sB (show true = true from rfl) <| sB (show true = true from rfl) <| sB (show true = true from rfl) <| sN)) (by kernel_rfl) (by intro h; cases h)
   | false =>
    have e : ZJ Ya (k + 1) Y1 = (.inl ()) := by simp only [ZJ, Yl, Yr, cond_true, cond_false]
    rw [e]
    exact outR (e := .ret) E0Ok Z5 [] (mR false [2, 1, 59]) [] (p (sB' Yr <| sB' Yr <| sB' Yr <| sB' Yr <| sB' Yr <| sB' Yr <| sB' Yr <| sB (show true = true from rfl) <| sB (show true = true from rfl) <| sB (show true = true from rfl) <| sB (show true = true from rfl) <| sB (show true = true from rfl) <| sB (show true = true from rfl) <| sB (show true = true from rfl) <| sB (show true = true from rfl) <| sB (show true = true from rfl) <| sB (show true = true from rfl) <| sB (show true = true from rfl) <| sB (show true = true from rfl) <| sN)) (by kernel_rfl) (by intro h; cases h)
  | false =>
   have Yw := of_decide_eq_false Yl
   have e : ZJ Ya (k + 1) Y1 = (.inr ()) := by simp only [ZJ, Yl, cond_false]
   rw [e]
   exact outR (e := (.exit 0)) E0Ok Z5 [] (mR false [0, 2, 1, 1, 2, 23, 33]) [0] (sB Yl <| sN) (by kernel_rfl) (by intro h; cases h)
def Z40 (Ya : GBody) : (Unit) ⊕ (Unit) := (ZJ Ya (((Ya.Springs.length : Int) - 0).toNat + 1) 0)
def Z1u (Ya : GBody) : Bool := (cond (Z1J Ya.Mesh)
  (cond (decide ((Ya.Springs.length : Int) > 200))
    false
    (cond ((Ya.Weights.length : Int) != (Ya.Mesh.Places.length : Int))
      false
      (match (Z40 Ya) with
        | .inl r4 => false
        | .inr r4 => true)))
  false)
theorem Za1 (Ya : GBody) (hp0 : Ya.Mesh.Places.length ≤ 1073741824) (hp1 : Ya.Mesh.Triangles.length ≤ 1073741824) (hp2 : ∀ t ∈ Ya.Mesh.Triangles, t.length ≤ 1073741824) (hp3 : Ya.Springs.length ≤ 1073741824) (hp4 : Ya.Weights.length ≤ 1073741824)  : Fn prog 56 [.agg [.sl (Ya.Mesh.Places.map GVector.cells), .sl (Ya.Mesh.Triangles.map (cL (cI .i64))), .sl (Ya.Springs.map GSpring.cells), .f .f32 Ya.Film, .f .f32 Ya.Bend, .sl (Ya.Weights.map (cF .f32)), .f .f32 Ya.Fall.X, .f .f32 Ya.Fall.Y, .f .f32 Ya.Fall.Z]] (.b (Z1u Ya)) [] := by
 have p {a C} (s : Scr a C) := sZ GVector.cells Ya.Mesh.Places <| sF (Zdl Ya.Mesh hp0 hp1 hp2) <| s
 cases h0 : (Z1J Ya.Mesh) with
 | true =>
  have q {a C} (s : Scr a C) := p (sB' h0 <| sB' h0 <| sB' h0 <| sZ GSpring.cells Ya.Springs <| sB' h0 <| sB' h0 <| s)
  clear p
  cases h1 : (decide ((Ya.Springs.length : Int) > 200)) with
  | true =>
   have gh1 := of_decide_eq_true h1
   refine fnS E0Ok Z5 (c := bodyOf f56) [] (.b false) [] func56 (q (sB h1 <| sB h1 <| sB h1 <| sB h1 <| sB h1 <| sB h1 <| sB (show true = true from rfl) <| sK [] sN)) rfl (by kernel_rfl) (by kernel_rfl) rfl ?_ ?_
   · simp only [Z1u, h0, h1, cond_true]
   · rfl
  | false =>
   have gh1 := of_decide_eq_false h1
   have p {a C} (s : Scr a C) := q (sB h1 <| sB h1 <| sB h1 <| sZ (cF .f32) Ya.Weights <| sB h1 <| sB h1 <| sB h1 <| s)
   clear q
   cases h2 : ((Ya.Weights.length : Int) != (Ya.Mesh.Places.length : Int)) with
   | true =>
    have gh2 := bne_iff_ne.1 h2
    refine fnS E0Ok Z5 (c := bodyOf f56) [] (.b false) [] func56 (p (sB h2 <| sK [] sN)) rfl (by kernel_rfl) (by kernel_rfl) rfl ?_ ?_
    · simp only [Z1u, h0, h1, h2, cond_true, cond_false]
    · rfl
   | false =>
    have gh2 := bne_eq_false_iff_eq.1 h2
    have q {a C} (s : Scr a C) := p (sB h2 <| sZ GSpring.cells Ya.Springs <| s)
    clear p
    cases h3 : (Z40 Ya) with
    | inl r4 =>
     refine fnS E0Ok Z5 (c := bodyOf f56) [] (.b false) [] func56 (q (sL (mR false [0, 2, 1, 1, 2, 25, 31]) 1 (lp_val (Z50 Ya) (x := (Z40 Ya)) (Z8I Ya hp0 hp1 hp2 hp3 hp4 h2 h1 h0 (((Ya.Springs.length : Int) - 0).toNat + 1) 0 (show 0 ≤ 0 from (by omega)) (Nat.lt_succ_self _)) h3) <| sK [] sN)) rfl (by kernel_rfl) (by kernel_rfl) rfl ?_ ?_
     · simp only [Z1u, h0, h1, h2, h3, cond_true, cond_false]
     · rfl
    | inr r4 =>
     refine fnS E0Ok Z5 (c := bodyOf f56) [] (.b true) [] func56 (q (sL (mR false [0, 2, 1, 1, 2, 25, 31]) 1 (lp_val (Z50 Ya) (x := (Z40 Ya)) (Z8I Ya hp0 hp1 hp2 hp3 hp4 h2 h1 h0 (((Ya.Springs.length : Int) - 0).toNat + 1) 0 (show 0 ≤ 0 from (by omega)) (Nat.lt_succ_self _)) h3) <| sK [] sN)) rfl (by kernel_rfl) (by kernel_rfl) rfl ?_ ?_
     · simp only [Z1u, h0, h1, h2, h3, cond_true, cond_false]
     · rfl
 | false =>
  refine fnS E0Ok Z5 (c := bodyOf f56) [] (.b false) [] func56 (p (sB' h0 <| sB' h0 <| sB' h0 <| sB' h0 <| sB' h0 <| sB (show true = true from rfl) <| sB (show true = true from rfl) <| sB (show true = true from rfl) <| sB (show true = true from rfl) <| sB (show true = true from rfl) <| sB (show true = true from rfl) <| sB (show true = true from rfl) <| sK [] sN)) rfl (by kernel_rfl) (by kernel_rfl) rfl ?_ ?_
  · simp only [Z1u, h0, cond_false]
  · rfl
theorem Zgq (s : GSpring) (n : Int) : cond (Z1p s.A 0 (IntKind.wrap .i64 (n - 1))) (cond (Z1p s.B 0 (IntKind.wrap .i64 (n - 1))) (cond (s.A == s.B) false (fcmp .geq .f32 s.Long 0)) false) false = Z1A s n := by
  unfold Z1A
  rw [show Z1p = ZL from rfl, show (s.A != s.B) = !(s.A == s.B) from rfl]
  cases (s.A == s.B) <;> rfl
theorem Zfc (b : GBody) (k : Nat) (i : Int) : ZJ b (k + 1) i = cond (decide (i < (b.Springs.length : Int))) (cond (Z1A (b.Springs.getD i.toNat default) (b.Mesh.Places.length : Int)) (ZJ b k (i + 1)) (.inl ())) (.inr ()) := by
  rw [ZJ, ← Zgq]
  generalize b.Springs.getD i.toNat default = s
  cases Z1p s.A 0 (IntKind.wrap .i64 ((b.Mesh.Places.length : Int) - 1)) <;> cases Z1p s.B 0 (IntKind.wrap .i64 ((b.Mesh.Places.length : Int) - 1)) <;> cases (s.A == s.B) <;> cases fcmp .geq .f32 s.Long 0 <;> rfl
theorem Zcb (b : GBody) : Z1u b = Z1o b := by
  unfold Z1u Z1o Z40 Z4a
  rw [Zfb, all_from (a := b.Springs) (p := fun s => Z1A s (b.Mesh.Places.length : Int)) (lo := ZJ b) (x := ()) (y := ()) (Zfc b),
    all_from (a := b.Springs) (p := fun s => Z1A s (b.Mesh.Places.length : Int)) (lo := Z2q b) (x := ()) (y := ()) (fun k i => rfl)]
  rfl
theorem Zet (b : GBody) (h : Z1o b = true) : Z1n b.Mesh = true := by
  cases hm : Z1n b.Mesh with
  | true => rfl
  | false => simp [Z1o, hm] at h
theorem Zeu (m : GMesh) (h : Z1n m = true) : m.Places.length ≤ 64 ∧ m.Triangles.length ≤ 128 := by
  rw [Z8S] at h
  cases h1 : decide ((m.Places.length : Int) > 64) <;> rw [h1] at h <;> (try (cases h; done))
  cases h2 : decide ((m.Triangles.length : Int) > 128) <;> rw [h2] at h <;> (try (cases h; done))
  simp only [decide_eq_false_iff_not] at h1 h2
  omega
def Z2j (Y2 : GMotion) : Bool := (cond (Z1u Y2.Body)
  ((Y2.Speeds.length : Int) == (Y2.Body.Mesh.Places.length : Int))
  false)
theorem Zcc (Y2 : GMotion) (hp0 : Y2.Body.Mesh.Places.length ≤ 1073741824) (hp1 : Y2.Body.Mesh.Triangles.length ≤ 1073741824) (hp2 : ∀ t ∈ Y2.Body.Mesh.Triangles, t.length ≤ 1073741824) (hp3 : Y2.Body.Springs.length ≤ 1073741824) (hp4 : Y2.Body.Weights.length ≤ 1073741824) (hp5 : Y2.Speeds.length ≤ 1073741824)  : Fn prog 79 [.agg [.sl (Y2.Body.Mesh.Places.map GVector.cells), .sl (Y2.Body.Mesh.Triangles.map (cL (cI .i64))), .sl (Y2.Body.Springs.map GSpring.cells), .f .f32 Y2.Body.Film, .f .f32 Y2.Body.Bend, .sl (Y2.Body.Weights.map (cF .f32)), .f .f32 Y2.Body.Fall.X, .f .f32 Y2.Body.Fall.Y, .f .f32 Y2.Body.Fall.Z, .sl (Y2.Speeds.map GVector.cells)]] (.b (Z2j Y2)) [] := by
 have p {a C} (s : Scr a C) := sF (Za1 Y2.Body hp0 hp1 hp2 hp3 hp4) <| s
 cases h0 : (Z1u Y2.Body) with
 | true =>
  refine fnS E0Ok Z5 (c := bodyOf f79) [] (.b ((Y2.Speeds.length : Int) == (Y2.Body.Mesh.Places.length : Int))) [] func79 (p (sB h0 <| sB h0 <| sB h0 <| sZ GVector.cells Y2.Speeds <| sB h0 <| sB h0 <| sB h0 <| sB h0 <| sB h0 <| sZ GVector.cells Y2.Body.Mesh.Places <| sB h0 <| sB h0 <| sK [] sN)) rfl (by kernel_rfl) (by kernel_rfl) rfl ?_ ?_
  · simp only [Z2j, h0, cond_true]
  · rfl
 | false =>
  refine fnS E0Ok Z5 (c := bodyOf f79) [] (.b false) [] func79 (p (sB h0 <| sB h0 <| sB h0 <| sB h0 <| sB h0 <| sB h0 <| sB h0 <| sB h0 <| sB h0 <| sB h0 <| sK [] sN)) rfl (by kernel_rfl) (by kernel_rfl) rfl ?_ ?_
  · simp only [Z2j, h0, cond_false]
  · rfl
theorem ZaP (m : GMotion) : Z2j m = Z3A m := by
  unfold Z2j Z3A
  rw [Zcb]
def Z2e (Ya : GBody) (Y3 : (List Int)) : Nat → Int → Int → (Unit) ⊕ (Unit)
  | 0, _, _ => .inl default
  | k + 1, YR, YT => (cond (decide (YT < (Y3.length : Int)))
    (cond (Z1p (Y3.getD YT.toNat default) (IntKind.wrap .i64 (YR + 1)) (IntKind.wrap .i64 ((Ya.Mesh.Places.length : Int) - 1)))
      (Z2e Ya Y3 k (Y3.getD YT.toNat default) (YT + 1))
      (.inl ()))
    (.inr ()))
def Z5I (Ya : GBody) (Y3 : (List Int)) : (Unit) ⊕ (Unit) → Ex × St
  | .inl r => (.ret, ⟨an 4 (.b false :: an 24 []), []⟩)
  | .inr r => ((.exit 0), ⟨.agg [.sl (Ya.Mesh.Places.map GVector.cells), .sl (Ya.Mesh.Triangles.map (cL (cI .i64))), .sl (Ya.Springs.map GSpring.cells), .f .f32 Ya.Film, .f .f32 Ya.Bend, .sl (Ya.Weights.map (cF .f32)), .f .f32 Ya.Fall.X, .f .f32 Ya.Fall.Y, .f .f32 Ya.Fall.Z] :: .sl (Y3.map (cI .i64)) :: .ptr 0 0 0 :: an 5 (.agg [.sl (Ya.Mesh.Places.map GVector.cells), .sl (Ya.Mesh.Triangles.map (cL (cI .i64))), .sl (Ya.Springs.map GSpring.cells), .f .f32 Ya.Film, .f .f32 Ya.Bend, .sl (Ya.Weights.map (cF .f32)), .f .f32 Ya.Fall.X, .f .f32 Ya.Fall.Y, .f .f32 Ya.Fall.Z] :: .b (Z1u Ya) :: .b (!(Z1u Ya)) :: .sl (Y3.map (cI .i64)) :: an 17 []), [.box 42 [.sl (Ya.Mesh.Places.map GVector.cells), .sl (Ya.Mesh.Triangles.map (cL (cI .i64))), .sl (Ya.Springs.map GSpring.cells), .f .f32 Ya.Film, .f .f32 Ya.Bend, .sl (Ya.Weights.map (cF .f32)), .f .f32 Ya.Fall.X, .f .f32 Ya.Fall.Y, .f .f32 Ya.Fall.Z]]⟩)
def Zdm (Ya : GBody) (Y3 : (List Int)) (YR : Int) (YT : Int) : St := ⟨.agg [.sl (Ya.Mesh.Places.map GVector.cells), .sl (Ya.Mesh.Triangles.map (cL (cI .i64))), .sl (Ya.Springs.map GSpring.cells), .f .f32 Ya.Film, .f .f32 Ya.Bend, .sl (Ya.Weights.map (cF .f32)), .f .f32 Ya.Fall.X, .f .f32 Ya.Fall.Y, .f .f32 Ya.Fall.Z] :: .sl (Y3.map (cI .i64)) :: .ptr 0 0 0 :: .any :: .any :: .i .i64 YR :: .any :: .any :: .agg [.sl (Ya.Mesh.Places.map GVector.cells), .sl (Ya.Mesh.Triangles.map (cL (cI .i64))), .sl (Ya.Springs.map GSpring.cells), .f .f32 Ya.Film, .f .f32 Ya.Bend, .sl (Ya.Weights.map (cF .f32)), .f .f32 Ya.Fall.X, .f .f32 Ya.Fall.Y, .f .f32 Ya.Fall.Z] :: .b (Z1u Ya) :: .b (!(Z1u Ya)) :: .sl (Y3.map (cI .i64)) :: .i .i64 (Y3.length : Int) :: .i .i64 YT :: an 15 [], [.box 42 [.sl (Ya.Mesh.Places.map GVector.cells), .sl (Ya.Mesh.Triangles.map (cL (cI .i64))), .sl (Ya.Springs.map GSpring.cells), .f .f32 Ya.Film, .f .f32 Ya.Bend, .sl (Ya.Weights.map (cF .f32)), .f .f32 Ya.Fall.X, .f .f32 Ya.Fall.Y, .f .f32 Ya.Fall.Z]]⟩
theorem Za2 (Ya : GBody) (Y3 : (List Int)) (hp0 : Ya.Mesh.Places.length ≤ 1073741824) (hp1 : Ya.Mesh.Triangles.length ≤ 1073741824) (hp2 : ∀ t ∈ Ya.Mesh.Triangles, t.length ≤ 1073741824) (hp3 : Ya.Springs.length ≤ 1073741824) (hp4 : Ya.Weights.length ≤ 1073741824) (hp5 : Y3.length ≤ 1073741824) (Zg4 : (Z1u Ya) = true) : ∀ (k : Nat) (YR : Int) (YT : Int) (Z97 : 0 ≤ YT) (hk : ((Y3.length : Int) - YT).toNat < k), Lp prog 0 (sub (bodyOf f67) [1, 1, 1, 0, 1, 0, 0]) (Zdm Ya Y3 YR YT) (Z5I Ya Y3 (Z2e Ya Y3 k YR YT)).1 (Z5I Ya Y3 (Z2e Ya Y3 k YR YT)).2 := by
 intro k
 induction k with
 | zero => intro YR YT Z97 hk; exact absurd hk (Nat.not_lt_zero _)
 | succ k ih =>
  intro YR YT Z97 hk
  cases Yl : (decide (YT < (Y3.length : Int))) with
  | true =>
   have Yw := of_decide_eq_true Yl
   have YF : (0 : Int) ≤ YT := (by assumption)
   have YG : YT < (Y3.length : Int) := (by assumption)
   have p {a C} (s : Scr a C) := sB Yl <| sG (cI .i64) Y3 YT YF YG <| sW .i64 (YR + 1) <| sZ GVector.cells Ya.Mesh.Places <| sW .i64 ((Ya.Mesh.Places.length : Int) - 1) <| sF (Z7g (Y3.getD YT.toNat default) (IntKind.wrap .i64 (YR + 1)) (IntKind.wrap .i64 ((Ya.Mesh.Places.length : Int) - 1))) <| s
   cases Yr : (Z1p (Y3.getD YT.toNat default) (IntKind.wrap .i64 (YR + 1)) (IntKind.wrap .i64 ((Ya.Mesh.Places.length : Int) - 1))) with
   | true =>
    have YH : (-9223372036854775808 : Int) ≤ (YT + 1) := by clear p; exact (by omega)
    have YI : (YT + 1) ≤ (9223372036854775807 : Int) := by clear p; exact (by omega)
    have e : Z2e Ya Y3 (k + 1) YR YT = (Z2e Ya Y3 k (Y3.getD YT.toNat default) (YT + 1)) := by simp only [Z2e, Yl, Yr, cond_true]
    rw [e]
    exact nextR E0Ok Z5 [] (mR false [0, 3, 2, 1, 2, 6, 15]) [0] (ih (Y3.getD YT.toNat default) (YT + 1) (show 0 ≤ (YT + 1) from (by omega)) (by omega)) (p (sB' Yr <| sI (YT + 1) YH YI <| sN)) (by kernel_rfl)
   | false =>
    have e : Z2e Ya Y3 (k + 1) YR YT = (.inl ()) := by simp only [Z2e, Yl, Yr, cond_true, cond_false]
    rw [e]
    exact outR (e := .ret) E0Ok Z5 [] (mR false [4, 1, 24]) [] (p (sB' Yr <| sN)) (by kernel_rfl) (by intro h; cases h)
  | false =>
   have Yw := of_decide_eq_false Yl
   have e : Z2e Ya Y3 (k + 1) YR YT = (.inr ()) := by simp only [Z2e, Yl, cond_false]
   rw [e]
   exact outR (e := (.exit 0)) E0Ok Z5 [] (mR false [0, 3, 5, 4, 17]) [0] (sB Yl <| sN) (by kernel_rfl) (by intro h; cases h)
def Z4h (Ya : GBody) (Y3 : (List Int)) : (Unit) ⊕ (Unit) := (Z2e Ya Y3 (((Y3.length : Int) - 0).toNat + 1) (-1) 0)
def Z3w (Ya : GBody) (Y3 : (List Int)) : Bool := (cond (Z1u Ya)
  (match (Z4h Ya Y3) with
    | .inl r2 => false
    | .inr r2 => true)
  false)
theorem ZeN (Ya : GBody) (Y3 : (List Int)) (hp0 : Ya.Mesh.Places.length ≤ 1073741824) (hp1 : Ya.Mesh.Triangles.length ≤ 1073741824) (hp2 : ∀ t ∈ Ya.Mesh.Triangles, t.length ≤ 1073741824) (hp3 : Ya.Springs.length ≤ 1073741824) (hp4 : Ya.Weights.length ≤ 1073741824) (hp5 : Y3.length ≤ 1073741824)  : Fn prog 67 [.agg [.sl (Ya.Mesh.Places.map GVector.cells), .sl (Ya.Mesh.Triangles.map (cL (cI .i64))), .sl (Ya.Springs.map GSpring.cells), .f .f32 Ya.Film, .f .f32 Ya.Bend, .sl (Ya.Weights.map (cF .f32)), .f .f32 Ya.Fall.X, .f .f32 Ya.Fall.Y, .f .f32 Ya.Fall.Z], .sl (Y3.map (cI .i64))] (.b (Z3w Ya Y3)) [] := by
 have p {a C} (s : Scr a C) := sF (Za1 Ya hp0 hp1 hp2 hp3 hp4) <| s
 cases h0 : (Z1u Ya) with
 | true =>
  have q {a C} (s : Scr a C) := p (sB' h0 <| sZ (cI .i64) Y3 <| s)
  clear p
  cases h1 : (Z4h Ya Y3) with
  | inl r2 =>
   refine fnS E0Ok Z5 (c := bodyOf f67) [] (.b false) [] func67 (q (sL (mR false [0, 3, 2, 1, 2, 6, 15]) 1 (lp_val (Z5I Ya Y3) (x := (Z4h Ya Y3)) (Za2 Ya Y3 hp0 hp1 hp2 hp3 hp4 hp5 h0 (((Y3.length : Int) - 0).toNat + 1) (-1) 0 (show 0 ≤ 0 from (by omega)) (Nat.lt_succ_self _)) h1) <| sK [] sN)) rfl (by kernel_rfl) (by kernel_rfl) rfl ?_ ?_
   · simp only [Z3w, h0, h1, cond_true]
   · rfl
  | inr r2 =>
   refine fnS E0Ok Z5 (c := bodyOf f67) [] (.b true) [] func67 (q (sL (mR false [0, 3, 2, 1, 2, 6, 15]) 1 (lp_val (Z5I Ya Y3) (x := (Z4h Ya Y3)) (Za2 Ya Y3 hp0 hp1 hp2 hp3 hp4 hp5 h0 (((Y3.length : Int) - 0).toNat + 1) (-1) 0 (show 0 ≤ 0 from (by omega)) (Nat.lt_succ_self _)) h1) <| sK [] sN)) rfl (by kernel_rfl) (by kernel_rfl) rfl ?_ ?_
   · simp only [Z3w, h0, h1, cond_true]
   · rfl
 | false =>
  refine fnS E0Ok Z5 (c := bodyOf f67) [] (.b false) [] func67 (p (sB' h0 <| sK [] sN)) rfl (by kernel_rfl) (by kernel_rfl) rfl ?_ ?_
  · simp only [Z3w, h0, cond_false]
  · rfl
theorem Zfd (p last n : Int) (h0 : -1 ≤ last) (hn : 0 ≤ n) (hn' : n ≤ 64) (hl : last < n ∨ last = -1) : Z1p p (IntKind.wrap .i64 (last + 1)) (IntKind.wrap .i64 (n - 1)) = (ZL p 0 (IntKind.wrap .i64 (n - 1)) && !(decide (last ≥ p))) := by
  rw [show Z1p = ZL from rfl]
  unfold ZL
  rw [wrap_id (n := last + 1) (by omega) (by omega), wrap_id (n := n - 1) (by omega) (by omega)]
  by_cases h1 : p ≥ last + 1 <;> by_cases h2 : p ≤ n - 1 <;> by_cases h3 : p ≥ 0 <;> by_cases h4 : last ≥ p <;> simp [h1, h2, h3, h4] <;> omega
theorem Zg5 (b : GBody) (hs : List Int) (hn : b.Mesh.Places.length ≤ 64) : ∀ (k : Nat) (last i : Int), 0 ≤ i → (i = 0 ∧ last = -1 ∨ 0 < i ∧ last = hs.getD (i - 1).toNat default ∧ 0 ≤ last ∧ last < (b.Mesh.Places.length : Int)) → Z2e b hs k last i = ZC hs 0 (IntKind.wrap .i64 ((b.Mesh.Places.length : Int) - 1)) k i := by
  intro k
  induction k with
  | zero => intros; rfl
  | succ k ih =>
    intro last i h0 hl
    rw [Z2e, ZC]
    cases decide (i < (hs.length : Int)) with
    | false => rfl
    | true =>
      rw [cond_true, cond_true, Zfd _ last (b.Mesh.Places.length : Int) (by omega) (by omega) (by omega) (by omega)]
      cases hP : ZL (hs.getD i.toNat default) 0 (IntKind.wrap .i64 ((b.Mesh.Places.length : Int) - 1)) with
      | false => rfl
      | true =>
        rw [Bool.true_and, cond_true]
        have hb : 0 ≤ hs.getD i.toNat default ∧ hs.getD i.toNat default < (b.Mesh.Places.length : Int) := by
          unfold ZL at hP
          rw [wrap_id (n := (b.Mesh.Places.length : Int) - 1) (by omega) (by omega)] at hP
          generalize hs.getD i.toNat default = P at hP ⊢
          by_cases h1 : P ≥ 0 <;> simp [h1] at hP
          omega
        have hi := ih (hs.getD i.toNat default) (i + 1) (by omega) (.inr ⟨by omega, by rw [show i + 1 - 1 = i from by omega], hb.1, hb.2⟩)
        rw [hi]
        rcases hl with ⟨hi0, hl⟩ | ⟨hi0, hl, _⟩
        · rw [decide_eq_false (show ¬ last ≥ hs.getD i.toNat default from by omega), decide_eq_false (show ¬ i > 0 from by omega)]; rfl
        · rw [decide_eq_true (show i > 0 from hi0), cond_true, ← hl]
          cases decide (last ≥ hs.getD i.toNat default) <;> rfl
theorem Zcd (b : GBody) (hs : List Int) : Z3w b hs = cond (Z1o b) (Z3g b hs) false := by
  unfold Z3w
  rw [Zcb]
  cases h : Z1o b with
  | false => rfl
  | true =>
    unfold Z3g Z45 Z4h Z3G
    rw [Zg5 b hs (Zeu _ (Zet b h)).1 _ _ _ (Int.le_refl 0) (.inl ⟨rfl, rfl⟩)]
    rfl
def Z82 (YJ : Nat) : Bool := (fcmp .eql .f32 (fop .sub .f32 YJ YJ) 0)
theorem ZdM (YJ : Nat)   : Fn prog 123 [.f .f32 YJ] (.b (Z82 YJ)) [] := by
 refine fnS E0Ok Z5 (c := bodyOf f123) [] (.b (fcmp .eql .f32 (fop .sub .f32 YJ YJ) 0)) [] func123 (sK [] sN) rfl (by kernel_rfl) (by kernel_rfl) rfl ?_ ?_
 · rfl
 · rfl
def Z2Y (YJ : Nat) : Bool := (cond (Z82 YJ)
  (fcmp .gtr .f32 YJ 0)
  false)
theorem Zbs (YJ : Nat)   : Fn prog 71 [.f .f32 YJ] (.b (Z2Y YJ)) [] := by
 have p {a C} (s : Scr a C) := sF (ZdM YJ) <| s
 cases h0 : (Z82 YJ) with
 | true =>
  refine fnS E0Ok Z5 (c := bodyOf f71) [] (.b (fcmp .gtr .f32 YJ 0)) [] func71 (p (sB h0 <| sB h0 <| sB h0 <| sK [] sN)) rfl (by kernel_rfl) (by kernel_rfl) rfl ?_ ?_
  · simp only [Z2Y, h0, cond_true]
  · rfl
 | false =>
  refine fnS E0Ok Z5 (c := bodyOf f71) [] (.b false) [] func71 (p (sB h0 <| sB h0 <| sB h0 <| sK [] sN)) rfl (by kernel_rfl) (by kernel_rfl) rfl ?_ ?_
  · simp only [Z2Y, h0, cond_false]
  · rfl
def Z1U (Y4 : GVector) (Yi : GVector) : GVector := (⟨(fop .sub .f32 Y4.X Yi.X), (fop .sub .f32 Y4.Y Yi.Y), (fop .sub .f32 Y4.Z Yi.Z)⟩ : GVector)
theorem Z41 (Y4 : GVector) (Yi : GVector)   : Fn prog 114 [.agg [.f .f32 Y4.X, .f .f32 Y4.Y, .f .f32 Y4.Z], .agg [.f .f32 Yi.X, .f .f32 Yi.Y, .f .f32 Yi.Z]] (.agg [.f .f32 ((Z1U Y4 Yi).X), .f .f32 ((Z1U Y4 Yi).Y), .f .f32 ((Z1U Y4 Yi).Z)]) [] := by
 refine fnS E0Ok Z5 (c := bodyOf f114) [] (.agg [.f .f32 (fop .sub .f32 Y4.X Yi.X), .f .f32 (fop .sub .f32 Y4.Y Yi.Y), .f .f32 (fop .sub .f32 Y4.Z Yi.Z)]) [] func114 (sK [] sN) rfl (by kernel_rfl) (by kernel_rfl) rfl ?_ ?_
 · rfl
 · rfl
def Zt (Ya : GBody) (s_1 : GSpring) : GVector := (Z1U (Ya.Mesh.Places.getD s_1.B.toNat default) (Ya.Mesh.Places.getD s_1.A.toNat default))
theorem Zce (Ya : GBody) (s_1 : GSpring) (hp0 : Ya.Mesh.Places.length ≤ 1073741824) (hp1 : Ya.Mesh.Triangles.length ≤ 1073741824) (hp2 : ∀ t ∈ Ya.Mesh.Triangles, t.length ≤ 1073741824) (hp3 : Ya.Springs.length ≤ 1073741824) (hp4 : Ya.Weights.length ≤ 1073741824) (hp5 : 0 ≤ s_1.A) (hp6 : s_1.A < (Ya.Mesh.Places.length : Int)) (hp7 : 0 ≤ s_1.B) (hp8 : s_1.B < (Ya.Mesh.Places.length : Int))  : Fn prog 109 [.agg [.sl (Ya.Mesh.Places.map GVector.cells), .sl (Ya.Mesh.Triangles.map (cL (cI .i64))), .sl (Ya.Springs.map GSpring.cells), .f .f32 Ya.Film, .f .f32 Ya.Bend, .sl (Ya.Weights.map (cF .f32)), .f .f32 Ya.Fall.X, .f .f32 Ya.Fall.Y, .f .f32 Ya.Fall.Z], .agg [.i .i64 s_1.A, .i .i64 s_1.B, .f .f32 s_1.Long, .f .f32 s_1.Stiff]] (.agg [.f .f32 ((Zt Ya s_1).X), .f .f32 ((Zt Ya s_1).Y), .f .f32 ((Zt Ya s_1).Z)]) [] := by
 have y0 : (0 : Int) ≤ s_1.B := (by assumption)
 have y1 : (0 : Int) ≤ s_1.A := (by assumption)
 refine fnS E0Ok Z5 (c := bodyOf f109) [] (.agg [.f .f32 ((Z1U (Ya.Mesh.Places.getD s_1.B.toNat default) (Ya.Mesh.Places.getD s_1.A.toNat default)).X), .f .f32 ((Z1U (Ya.Mesh.Places.getD s_1.B.toNat default) (Ya.Mesh.Places.getD s_1.A.toNat default)).Y), .f .f32 ((Z1U (Ya.Mesh.Places.getD s_1.B.toNat default) (Ya.Mesh.Places.getD s_1.A.toNat default)).Z)]) [] func109 (sK [14, 14] <| sG GVector.cells Ya.Mesh.Places s_1.B y0 hp8 <| sG GVector.cells Ya.Mesh.Places s_1.A y1 hp6 <| sF (Z41 (Ya.Mesh.Places.getD s_1.B.toNat default) (Ya.Mesh.Places.getD s_1.A.toNat default)) <| sK [] sN) rfl (by kernel_rfl) (by kernel_rfl) rfl ?_ ?_
 · rfl
 · rfl
def Z6R (Y4 : GVector) (Yi : GVector) : Nat := (fop .add .f32 (fop .add .f32 (fop .mul .f32 Y4.X Yi.X) (fop .mul .f32 Y4.Y Yi.Y)) (fop .mul .f32 Y4.Z Yi.Z))
theorem Zec (Y4 : GVector) (Yi : GVector)   : Fn prog 140 [.agg [.f .f32 Y4.X, .f .f32 Y4.Y, .f .f32 Y4.Z], .agg [.f .f32 Yi.X, .f .f32 Yi.Y, .f .f32 Yi.Z]] (.f .f32 (Z6R Y4 Yi)) [] := by
 refine fnS E0Ok Z5 (c := bodyOf f140) [] (.f .f32 (fop .add .f32 (fop .add .f32 (fop .mul .f32 Y4.X Yi.X) (fop .mul .f32 Y4.Y Yi.Y)) (fop .mul .f32 Y4.Z Yi.Z))) [] func140 (sK [] sN) rfl (by kernel_rfl) (by kernel_rfl) rfl ?_ ?_
 · rfl
 · rfl
def Z6Z (YJ : Nat) : Nat := (fcv .f64 .f32 (Z4Q (fcv .f32 .f64 YJ)))
theorem ZcM (YJ : Nat)   : Fn prog 139 [.f .f32 YJ] (.f .f32 (Z6Z YJ)) [] := by
 have y0 : fcvOk .f64 .f32 (Z4Q (fcv .f32 .f64 YJ)) = true := (narrow_sqrt _)
 refine fnS E0Ok Z5 (c := bodyOf f139) [] (.f .f32 (fcv .f64 .f32 (Z4Q (fcv .f32 .f64 YJ)))) [] func139 (sC (widenOk YJ) <| sF (ZcU (fcv .f32 .f64 YJ)) <| sC y0 <| sK [] sN) rfl (by kernel_rfl) (by kernel_rfl) rfl ?_ ?_
 · rfl
 · rfl
def Zu (YY : GVector) : Nat := (Z6Z (Z6R YY YY))
theorem Zbt (YY : GVector)   : Fn prog 112 [.agg [.f .f32 YY.X, .f .f32 YY.Y, .f .f32 YY.Z]] (.f .f32 (Zu YY)) [] := by
 refine fnS E0Ok Z5 (c := bodyOf f112) [] (.f .f32 (Z6Z (Z6R YY YY))) [] func112 (sF (Zec YY YY) <| sF (ZcM (Z6R YY YY)) <| sK [] sN) rfl (by kernel_rfl) (by kernel_rfl) rfl ?_ ?_
 · rfl
 · rfl
def Z3S (d_0 : GVector) (s_1 : GSpring) : Nat := (cond (fcmp .gtr .f32 (Zu d_0) 0)
  (fop .quo .f32 (fop .mul .f32 s_1.Stiff (fop .sub .f32 (Zu d_0) s_1.Long)) (Zu d_0))
  0)
theorem ZeO (d_0 : GVector) (s_1 : GSpring)   : Fn prog 110 [.agg [.f .f32 d_0.X, .f .f32 d_0.Y, .f .f32 d_0.Z], .agg [.i .i64 s_1.A, .i .i64 s_1.B, .f .f32 s_1.Long, .f .f32 s_1.Stiff]] (.f .f32 (Z3S d_0 s_1)) [] := by
 have p {a C} (s : Scr a C) := sF (Zbt d_0) <| s
 cases h0 : (fcmp .gtr .f32 (Zu d_0) 0) with
 | true =>
  refine fnS E0Ok Z5 (c := bodyOf f110) [] (.f .f32 (fop .quo .f32 (fop .mul .f32 s_1.Stiff (fop .sub .f32 (Zu d_0) s_1.Long)) (Zu d_0))) [] func110 (p (sB' h0 <| sK [] sN)) rfl (by kernel_rfl) (by kernel_rfl) rfl ?_ ?_
  · simp only [Z3S, h0, cond_true]
  · rfl
 | false =>
  refine fnS E0Ok Z5 (c := bodyOf f110) [] (.f .f32 0) [] func110 (p (sB' h0 <| sK [] sN)) rfl (by kernel_rfl) (by kernel_rfl) rfl ?_ ?_
  · simp only [Z3S, h0, cond_false]
  · rfl
def Zj (YY : GVector) (Yq : Nat) : GVector := (⟨(fop .mul .f32 YY.X Yq), (fop .mul .f32 YY.Y Yq), (fop .mul .f32 YY.Z Yq)⟩ : GVector)
theorem Z59 (YY : GVector) (Yq : Nat)   : Fn prog 108 [.agg [.f .f32 YY.X, .f .f32 YY.Y, .f .f32 YY.Z], .f .f32 Yq] (.agg [.f .f32 ((Zj YY Yq).X), .f .f32 ((Zj YY Yq).Y), .f .f32 ((Zj YY Yq).Z)]) [] := by
 refine fnS E0Ok Z5 (c := bodyOf f108) [] (.agg [.f .f32 (fop .mul .f32 YY.X Yq), .f .f32 (fop .mul .f32 YY.Y Yq), .f .f32 (fop .mul .f32 YY.Z Yq)]) [] func108 (sK [] sN) rfl (by kernel_rfl) (by kernel_rfl) rfl ?_ ?_
 · rfl
 · rfl
def ZV (Y4 : GVector) (Yi : GVector) : GVector := (⟨(fop .add .f32 Y4.X Yi.X), (fop .add .f32 Y4.Y Yi.Y), (fop .add .f32 Y4.Z Yi.Z)⟩ : GVector)
theorem Z4y (Y4 : GVector) (Yi : GVector)   : Fn prog 107 [.agg [.f .f32 Y4.X, .f .f32 Y4.Y, .f .f32 Y4.Z], .agg [.f .f32 Yi.X, .f .f32 Yi.Y, .f .f32 Yi.Z]] (.agg [.f .f32 ((ZV Y4 Yi).X), .f .f32 ((ZV Y4 Yi).Y), .f .f32 ((ZV Y4 Yi).Z)]) [] := by
 refine fnS E0Ok Z5 (c := bodyOf f107) [] (.agg [.f .f32 (fop .add .f32 Y4.X Yi.X), .f .f32 (fop .add .f32 Y4.Y Yi.Y), .f .f32 (fop .add .f32 Y4.Z Yi.Z)]) [] func107 (sK [] sN) rfl (by kernel_rfl) (by kernel_rfl) rfl ?_ ?_
 · rfl
 · rfl
def Zv (Y12 : Int) (v_1 : GVector) (Y1f : Nat) (Yt : (List GVector)) : (List GVector) := (Yt.set Y12.toNat (ZV (Yt.getD Y12.toNat default) (Zj v_1 Y1f)))
@[simp] theorem Zdw (Y12 : Int) (v_1 : GVector) (Y1f : Nat) (Yt : (List GVector)) : (Zv Y12 v_1 Y1f Yt).length = Yt.length := by
  first | (simp [Zv]; done)
theorem Z1X (Y12 : Int) (v_1 : GVector) (Y1f : Nat) (Yt : (List GVector)) (hp0 : Yt.length ≤ 1073741824) (hp1 : 0 ≤ Y12) (hp2 : Y12 < (Yt.length : Int))  : CallSt prog 106 [.box 34 [.own 1], .vec 40 3 (Yt.map GVector.cells) false] [.i .i64 Y12, .agg [.f .f32 v_1.X, .f .f32 v_1.Y, .f .f32 v_1.Z], .f .f32 Y1f, .ptr 0 0 0] (.tup []) [.box 34 [.own 1], .vec 40 3 ((Zv Y12 v_1 Y1f Yt).map GVector.cells) false] := by
 have y0 : (0 : Int) ≤ Y12 := (by assumption)
 have y1 : Y12.toNat < Yt.length := (by omega)
 refine callS (EpOk 2) Z5 (c := bodyOf f106) [.box 34 [.own 1], .vec 40 3 (Yt.map GVector.cells) false] [] (.tup []) [.box 34 [.own 1], .vec 40 3 ((Yt.map GVector.cells).set Y12.toNat [.f .f32 ((ZV (Yt.getD Y12.toNat default) (Zj v_1 Y1f)).X), .f .f32 ((ZV (Yt.getD Y12.toNat default) (Zj v_1 Y1f)).Y), .f .f32 ((ZV (Yt.getD Y12.toNat default) (Zj v_1 Y1f)).Z)]) false] func106 (sK [10, 10] <| sX GVector.cells Yt Y12 y0 hp2 <| sV GVector.cells Yt Y12.toNat y1 <| sF (Z59 v_1 Y1f) <| sF (Z4y (Yt.getD Y12.toNat default) (Zj v_1 Y1f)) <| sX GVector.cells Yt Y12 y0 hp2 <| sC (maplt (c := GVector.cells) (l := Yt) y1) <| sK [] sN) rfl (by kernel_rfl) (by kernel_rfl) ?_ ?_
 · rfl
 · simp [Zv, GVector.cells]
def Z2t (Y4 : GVector) (Yi : GVector) : GVector := (⟨(fop .sub .f32 (fop .mul .f32 Y4.Y Yi.Z) (fop .mul .f32 Y4.Z Yi.Y)), (fop .sub .f32 (fop .mul .f32 Y4.Z Yi.X) (fop .mul .f32 Y4.X Yi.Z)), (fop .sub .f32 (fop .mul .f32 Y4.X Yi.Y) (fop .mul .f32 Y4.Y Yi.X))⟩ : GVector)
theorem Z8U (Y4 : GVector) (Yi : GVector)   : Fn prog 113 [.agg [.f .f32 Y4.X, .f .f32 Y4.Y, .f .f32 Y4.Z], .agg [.f .f32 Yi.X, .f .f32 Yi.Y, .f .f32 Yi.Z]] (.agg [.f .f32 ((Z2t Y4 Yi).X), .f .f32 ((Z2t Y4 Yi).Y), .f .f32 ((Z2t Y4 Yi).Z)]) [] := by
 refine fnS E0Ok Z5 (c := bodyOf f113) [] (.agg [.f .f32 (fop .sub .f32 (fop .mul .f32 Y4.Y Yi.Z) (fop .mul .f32 Y4.Z Yi.Y)), .f .f32 (fop .sub .f32 (fop .mul .f32 Y4.Z Yi.X) (fop .mul .f32 Y4.X Yi.Z)), .f .f32 (fop .sub .f32 (fop .mul .f32 Y4.X Yi.Y) (fop .mul .f32 Y4.Y Yi.X))]) [] func113 (sK [] sN) rfl (by kernel_rfl) (by kernel_rfl) rfl ?_ ?_
 · rfl
 · rfl
def Z5a (Y2 : GMesh) (YQ : (List Int)) : GVector := (Z2t (Z1U (Y2.Places.getD (YQ.getD 1 default).toNat default) (Y2.Places.getD (YQ.getD 0 default).toNat default)) (Z1U (Y2.Places.getD (YQ.getD 2 default).toNat default) (Y2.Places.getD (YQ.getD 0 default).toNat default)))
def Zb (Y2 : GMesh) (YQ : (List Int)) : GVector := (Z5a Y2 YQ)
theorem ZdN (Y2 : GMesh) (YQ : (List Int)) (hp0 : Y2.Places.length ≤ 1073741824) (hp1 : Y2.Triangles.length ≤ 1073741824) (hp2 : ∀ t ∈ Y2.Triangles, t.length ≤ 1073741824) (hp3 : YQ.length ≤ 1073741824) (hp4 : YQ.length = 3 ∧ ∀ x ∈ YQ, 0 ≤ x ∧ x < (Y2.Places.length : Int))  : Fn prog 111 [.agg [.sl (Y2.Places.map GVector.cells), .sl (Y2.Triangles.map (cL (cI .i64)))], .sl (YQ.map (cI .i64))] (.agg [.f .f32 ((Zb Y2 YQ).X), .f .f32 ((Zb Y2 YQ).Y), .f .f32 ((Zb Y2 YQ).Z)]) [] := by
 have y0 : (0 : Int) ≤ 0 := (by omega)
 have y1 : 0 < (YQ.length : Int) := (by omega)
 have y2 : (0 : Int) ≤ (YQ.getD 0 default) := (by have q := Okt.at hp4; omega)
 have y3 : (YQ.getD 0 default) < (Y2.Places.length : Int) := (by have q := Okt.at hp4; omega)
 have y4 : (0 : Int) ≤ 1 := (by omega)
 have y5 : 1 < (YQ.length : Int) := (by omega)
 have y6 : (0 : Int) ≤ (YQ.getD 1 default) := (by have q := Okt.at hp4; omega)
 have y7 : (YQ.getD 1 default) < (Y2.Places.length : Int) := (by have q := Okt.at hp4; omega)
 have y8 : (0 : Int) ≤ 2 := (by omega)
 have y9 : 2 < (YQ.length : Int) := (by omega)
 have y10 : (0 : Int) ≤ (YQ.getD 2 default) := (by have q := Okt.at hp4; omega)
 have y11 : (YQ.getD 2 default) < (Y2.Places.length : Int) := (by have q := Okt.at hp4; omega)
 refine fnS E0Ok Z5 (c := bodyOf f111) [] (.agg [.f .f32 ((Z5a Y2 YQ).X), .f .f32 ((Z5a Y2 YQ).Y), .f .f32 ((Z5a Y2 YQ).Z)]) [] func111 (sK [8, 8] <| sG (cI .i64) YQ 0 y0 y1 <| sG GVector.cells Y2.Places (YQ.getD 0 default) y2 y3 <| sK [17, 17] <| sG (cI .i64) YQ 1 y4 y5 <| sG GVector.cells Y2.Places (YQ.getD 1 default) y6 y7 <| sF (Z41 (Y2.Places.getD (YQ.getD 1 default).toNat default) (Y2.Places.getD (YQ.getD 0 default).toNat default)) <| sG (cI .i64) YQ 2 y8 y9 <| sG GVector.cells Y2.Places (YQ.getD 2 default) y10 y11 <| sF (Z41 (Y2.Places.getD (YQ.getD 2 default).toNat default) (Y2.Places.getD (YQ.getD 0 default).toNat default)) <| sF (Z8U (Z1U (Y2.Places.getD (YQ.getD 1 default).toNat default) (Y2.Places.getD (YQ.getD 0 default).toNat default)) (Z1U (Y2.Places.getD (YQ.getD 2 default).toNat default) (Y2.Places.getD (YQ.getD 0 default).toNat default))) <| sK [] sN) rfl (by kernel_rfl) (by kernel_rfl) rfl ?_ ?_
 · rfl
 · rfl
def Z5T (Y4 : Int) (Yi : Int) : Gedge := (⟨(if Yi < Y4 then Yi else Y4), (if Yi > Y4 then Yi else Y4)⟩ : Gedge)
theorem ZeP (Y4 : Int) (Yi : Int)   : Fn prog 149 [.i .i64 Y4, .i .i64 Yi] (.agg [.i .i64 ((Z5T Y4 Yi).e0), .i .i64 ((Z5T Y4 Yi).e1)]) [] := by
 refine fnS E0Ok Z5 (c := bodyOf f149) [] (.agg [.i .i64 (if Yi < Y4 then Yi else Y4), .i .i64 (if Yi > Y4 then Yi else Y4)]) [] func149 (sC (show (if false = true then (if Yi > Y4 then Yi else Y4) else (if Yi < Y4 then Yi else Y4)) = (if Yi < Y4 then Yi else Y4) from (by simp)) <| sA (.num (if Yi < Y4 then Yi else Y4)) <| sC (show (if true = true then (if Yi > Y4 then Yi else Y4) else (if Yi < Y4 then Yi else Y4)) = (if Yi > Y4 then Yi else Y4) from (by simp)) <| sA (.num (if Yi > Y4 then Yi else Y4)) <| sK [] sN) rfl (by kernel_rfl) (by kernel_rfl) rfl ?_ ?_
 · rfl
 · rfl
theorem Zg6 (a b : Int) : Z5T a b = mkE a b := by
  unfold Z5T mkE
  by_cases h : a ≤ b
  · rw [if_pos h, if_neg (by omega)]
    by_cases h2 : b > a
    · rw [if_pos h2]
    · rw [if_neg h2, show a = b from by omega]
  · rw [if_neg h, if_pos (by omega), if_neg (by omega)]
def Z3j (YJ : Int) : Bool := (YJ != YJ)
theorem Z98 (YJ : Int)   : Fn prog 172 [.i .i64 YJ] (.b (Z3j YJ)) [] := by
 refine fnS E0Ok Z5 (c := bodyOf f172) [] (.b (YJ != YJ)) [] func172 (sK [] sN) rfl (by kernel_rfl) (by kernel_rfl) rfl ?_ ?_
 · rfl
 · rfl
def Z1E (YJ : Int) (YG : Int) : Int := (cond (Z3j YJ)
  (cond (Z3j YG)
    0
    (-1))
  (cond (Z3j YG)
    1
    (cond (decide (YJ < YG))
      (-1)
      (cond (decide (YJ > YG))
        1
        0))))
theorem Zbb (YJ : Int) (YG : Int)   : Fn prog 166 [.i .i64 YJ, .i .i64 YG] (.i .i64 (Z1E YJ YG)) [] := by
 have p {a C} (s : Scr a C) := sF (Z98 YJ) <| sF (Z98 YG) <| s
 cases h0 : (Z3j YJ) with
 | true =>
  have q {a C} (s : Scr a C) := p (sB h0 <| s)
  clear p
  cases h1 : (Z3j YG) with
  | true =>
   refine fnS E0Ok Z5 (c := bodyOf f166) [] (.i .i64 0) [] func166 (q (sB h1 <| sK [] sN)) rfl (by kernel_rfl) (by kernel_rfl) rfl ?_ ?_
   · simp only [Z1E, h0, h1, cond_true]
   · rfl
  | false =>
   refine fnS E0Ok Z5 (c := bodyOf f166) [] (.i .i64 (-1)) [] func166 (q (sB h1 <| sK [] sN)) rfl (by kernel_rfl) (by kernel_rfl) rfl ?_ ?_
   · simp only [Z1E, h0, h1, cond_true, cond_false]
   · rfl
 | false =>
  have q {a C} (s : Scr a C) := p (sB h0 <| s)
  clear p
  cases h1 : (Z3j YG) with
  | true =>
   refine fnS E0Ok Z5 (c := bodyOf f166) [] (.i .i64 1) [] func166 (q (sB h1 <| sK [] sN)) rfl (by kernel_rfl) (by kernel_rfl) rfl ?_ ?_
   · simp only [Z1E, h0, h1, cond_true, cond_false]
   · rfl
  | false =>
   have p {a C} (s : Scr a C) := q (sB h1 <| s)
   clear q
   cases h2 : (decide (YJ < YG)) with
   | true =>
    have gh2 := of_decide_eq_true h2
    refine fnS E0Ok Z5 (c := bodyOf f166) [] (.i .i64 (-1)) [] func166 (p (sB h2 <| sK [] sN)) rfl (by kernel_rfl) (by kernel_rfl) rfl ?_ ?_
    · simp only [Z1E, h0, h1, h2, cond_true, cond_false]
    · rfl
   | false =>
    have gh2 := of_decide_eq_false h2
    have q {a C} (s : Scr a C) := p (sB h2 <| s)
    clear p
    cases h3 : (decide (YJ > YG)) with
    | true =>
     have gh3 := of_decide_eq_true h3
     refine fnS E0Ok Z5 (c := bodyOf f166) [] (.i .i64 1) [] func166 (q (sB h3 <| sK [] sN)) rfl (by kernel_rfl) (by kernel_rfl) rfl ?_ ?_
     · simp only [Z1E, h0, h1, h2, h3, cond_true, cond_false]
     · rfl
    | false =>
     have gh3 := of_decide_eq_false h3
     refine fnS E0Ok Z5 (c := bodyOf f166) [] (.i .i64 0) [] func166 (q (sB h3 <| sK [] sN)) rfl (by kernel_rfl) (by kernel_rfl) rfl ?_ ?_
     · simp only [Z1E, h0, h1, h2, h3, cond_false]
     · rfl
def Zo (YK : (List Int)) (YO : (List Int)) : Nat → Int → (Int) ⊕ (Unit)
  | 0, _ => .inl default
  | k + 1, Y1 => (cond (decide (Y1 < (YK.length : Int)))
    (cond (decide (Y1 ≥ (YO.length : Int)))
      (.inl 1)
      (cond ((Z1E (YK.getD Y1.toNat default) (YO.getD Y1.toNat default)) != 0)
        (.inl (Z1E (YK.getD Y1.toNat default) (YO.getD Y1.toNat default)))
        (Zo YK YO k (Y1 + 1))))
    (.inr ()))
def Z39 (YK : (List Int)) (YO : (List Int)) : (Int) ⊕ (Unit) → Ex × St
  | .inl r => (.ret, ⟨an 4 (.i .i64 r :: an 31 []), []⟩)
  | .inr r => ((.exit 0), ⟨.sl (YK.map (cI .i64)) :: .sl (YO.map (cI .i64)) :: an 7 (.sl (YK.map (cI .i64)) :: an 26 []), []⟩)
def Z70 (YK : (List Int)) (YO : (List Int)) (Y1 : Int) : St := ⟨.sl (YK.map (cI .i64)) :: .sl (YO.map (cI .i64)) :: an 7 (.sl (YK.map (cI .i64)) :: .i .i64 (YK.length : Int) :: .i .i64 Y1 :: an 24 []), []⟩
theorem Z4z (YK : (List Int)) (YO : (List Int)) (hp0 : YK.length ≤ 1073741824) (hp1 : YO.length ≤ 1073741824) : ∀ (k : Nat) (Y1 : Int) (Z4i : 0 ≤ Y1) (hk : ((YK.length : Int) - Y1).toNat < k), Lp prog 0 (sub (bodyOf f155) [1, 0, 1, 0, 0]) (Z70 YK YO Y1) (Z39 YK YO (Zo YK YO k Y1)).1 (Z39 YK YO (Zo YK YO k Y1)).2 := by
 intro k
 induction k with
 | zero => intro Y1 Z4i hk; exact absurd hk (Nat.not_lt_zero _)
 | succ k ih =>
  intro Y1 Z4i hk
  cases Yl : (decide (Y1 < (YK.length : Int))) with
  | true =>
   have Yw := of_decide_eq_true Yl
   have YF : (0 : Int) ≤ Y1 := (by assumption)
   have YG : Y1 < (YK.length : Int) := (by assumption)
   have p {a C} (s : Scr a C) := sB Yl <| sG (cI .i64) YK Y1 YF YG <| sZ (cI .i64) YO <| s
   cases Yr : (decide (Y1 ≥ (YO.length : Int))) with
   | true =>
    have Y10 := of_decide_eq_true Yr
    have e : Zo YK YO (k + 1) Y1 = (.inl 1) := by simp only [Zo, Yl, Yr, cond_true]
    rw [e]
    exact outR (e := .ret) E0Ok Z5 [] (mR false [4, 1, 31]) [] (p (sB Yr <| sN)) (by kernel_rfl) (by intro h; cases h)
   | false =>
    have Y10 := of_decide_eq_false Yr
    have YH : Y1 < (YO.length : Int) := by clear p; exact (by omega)
    have q {a C} (s : Scr a C) := p (sB Yr <| sG (cI .i64) YO Y1 YF YH <| sF (Zbb (YK.getD Y1.toNat default) (YO.getD Y1.toNat default)) <| s)
    clear p
    cases YL : ((Z1E (YK.getD Y1.toNat default) (YO.getD Y1.toNat default)) != 0) with
    | true =>
     have Y1e := bne_iff_ne.1 YL
     have e : Zo YK YO (k + 1) Y1 = (.inl (Z1E (YK.getD Y1.toNat default) (YO.getD Y1.toNat default))) := by simp only [Zo, Yl, Yr, YL, cond_true, cond_false]
     rw [e]
     exact outR (e := .ret) E0Ok Z5 [] (mR false [4, 1, 31]) [] (q (sB YL <| sN)) (by kernel_rfl) (by intro h; cases h)
    | false =>
     have Y1e := bne_eq_false_iff_eq.1 YL
     have YI : (-9223372036854775808 : Int) ≤ (Y1 + 1) := by clear q; exact (by omega)
     have YP : (Y1 + 1) ≤ (9223372036854775807 : Int) := by clear q; exact (by omega)
     have e : Zo YK YO (k + 1) Y1 = (Zo YK YO k (Y1 + 1)) := by simp only [Zo, Yl, Yr, YL, cond_true, cond_false]
     rw [e]
     exact nextR E0Ok Z5 [] (mR false [0, 2, 7, 3, 24]) [] (ih (Y1 + 1) (show 0 ≤ (Y1 + 1) from (by omega)) (by omega)) (q (sB YL <| sI (Y1 + 1) YI YP <| sN)) (by kernel_rfl)
  | false =>
   have Yw := of_decide_eq_false Yl
   have e : Zo YK YO (k + 1) Y1 = (.inr ()) := by simp only [Zo, Yl, cond_false]
   rw [e]
   exact outR (e := (.exit 0)) E0Ok Z5 [] (mR false [0, 2, 7, 1, 26]) [] (sB Yl <| sN) (by kernel_rfl) (by intro h; cases h)
def Z2k (YK : (List Int)) (YO : (List Int)) : (Int) ⊕ (Unit) := (Zo YK YO (((YK.length : Int) - 0).toNat + 1) 0)
def Z1Y (YK : (List Int)) (YO : (List Int)) : Int := (match (Z2k YK YO) with
  | .inl r1 => r1
  | .inr r1 => (cond (decide ((YK.length : Int) < (YO.length : Int)))
    (-1)
    0))
theorem Z7R (YK : (List Int)) (YO : (List Int)) (hp0 : YK.length ≤ 1073741824) (hp1 : YO.length ≤ 1073741824)  : Fn prog 155 [.sl (YK.map (cI .i64)), .sl (YO.map (cI .i64))] (.i .i64 (Z1Y YK YO)) [] := by
 have p {a C} (s : Scr a C) := sZ (cI .i64) YK <| s
 cases h0 : (Z2k YK YO) with
 | inl r1 =>
  refine fnS E0Ok Z5 (c := bodyOf f155) [] (.i .i64 r1) [] func155 (p (sL (mR false [0, 2, 7, 3, 24]) 0 (lp_val (Z39 YK YO) (x := (Z2k YK YO)) (Z4z YK YO hp0 hp1 (((YK.length : Int) - 0).toNat + 1) 0 (show 0 ≤ 0 from (by omega)) (Nat.lt_succ_self _)) h0) <| sK [] sN)) rfl (by kernel_rfl) (by kernel_rfl) rfl ?_ ?_
  · simp only [Z1Y, h0]
  · rfl
 | inr r1 =>
  have q {a C} (s : Scr a C) := p (sL (mR false [0, 2, 7, 3, 24]) 0 (lp_val (Z39 YK YO) (x := (Z2k YK YO)) (Z4z YK YO hp0 hp1 (((YK.length : Int) - 0).toNat + 1) 0 (show 0 ≤ 0 from (by omega)) (Nat.lt_succ_self _)) h0) <| sZ (cI .i64) YK <| sZ (cI .i64) YO <| s)
  clear p
  cases h1 : (decide ((YK.length : Int) < (YO.length : Int))) with
  | true =>
   have gh1 := of_decide_eq_true h1
   refine fnS E0Ok Z5 (c := bodyOf f155) [] (.i .i64 (-1)) [] func155 (q (sB h1 <| sK [] sN)) rfl (by kernel_rfl) (by kernel_rfl) rfl ?_ ?_
   · simp only [Z1Y, h0, h1, cond_true]
   · rfl
  | false =>
   have gh1 := of_decide_eq_false h1
   refine fnS E0Ok Z5 (c := bodyOf f155) [] (.i .i64 0) [] func155 (q (sB h1 <| sK [] sN)) rfl (by kernel_rfl) (by kernel_rfl) rfl ?_ ?_
   · simp only [Z1Y, h0, h1, cond_false]
   · rfl
def Z6i (Y4 : Gedge) (Yi : Gedge) : Int := (Z1Y ([Y4.e0, Y4.e1]) ([Yi.e0, Yi.e1]))
theorem Z8J (Y4 : Gedge) (Yi : Gedge)   : Fn prog 151 [.agg [.i .i64 Y4.e0, .i .i64 Y4.e1], .agg [.i .i64 Yi.e0, .i .i64 Yi.e1]] (.i .i64 (Z6i Y4 Yi)) [] := by
 have y0 : ([Y4.e0, Y4.e1]).length ≤ 1073741824 := (by simp_all <;> omega)
 have y1 : ([Yi.e0, Yi.e1]).length ≤ 1073741824 := (by assumption)
 refine fnS E0Ok Z5 (c := bodyOf f151) [] (.i .i64 (Z1Y ([Y4.e0, Y4.e1]) ([Yi.e0, Yi.e1]))) [] func151 (sK [2, 2] <| sF (Z7R ([Y4.e0, Y4.e1]) ([Yi.e0, Yi.e1]) y0 y1) <| sK [] sN) rfl (by kernel_rfl) (by kernel_rfl) rfl ?_ ?_
 · rfl
 · rfl
def Z4 (Y2 : GMesh) (Y1 : Int) (Y6 : Int) : Gedge := (Z5T ((Y2.Triangles.getD Y1.toNat default).getD Y6.toNat default) ((Y2.Triangles.getD Y1.toNat default).getD (Int.tmod (Y6 + 1) 3).toNat default))
def Zf (Y2 : GMesh) (Y1 : Int) (Yh : (List (Gedge × List Int))) (YA : (List Gedge)) : Nat → Int → (List (Gedge × List Int)) → (List Gedge) → (List (Gedge × List Int)) × (List Gedge)
  | 0, _, _, _ => default
  | k + 1, Y6, Yg, Yz => (cond (decide (Y6 < 3))
    (cond (mhas Yg (Z4 Y2 Y1 Y6))
      (cond (((Yg.getD (midx Yg (Z4 Y2 Y1 Y6)) default).2.length : Int) == 0)
        (Zf Y2 Y1 Yh YA k (Y6 + 1) (mput Yg (midx Yg (Z4 Y2 Y1 Y6)) ((Yg.getD (midx Yg (Z4 Y2 Y1 Y6)) default).2 ++ [Y1])) (Yz ++ [(Z4 Y2 Y1 Y6)]))
        (Zf Y2 Y1 Yh YA k (Y6 + 1) (mput Yg (midx Yg (Z4 Y2 Y1 Y6)) ((Yg.getD (midx Yg (Z4 Y2 Y1 Y6)) default).2 ++ [Y1])) Yz))
      (Zf Y2 Y1 Yh YA k (Y6 + 1) (Yg ++ [((Z4 Y2 Y1 Y6), [Y1])]) (Yz ++ [(Z4 Y2 Y1 Y6)])))
    (Yg, Yz))
def Z4H (Y2 : GMesh) (Y1 : Int) (Yh : (List (Gedge × List Int))) (YA : (List Gedge)) (r : (List (Gedge × List Int)) × (List Gedge)) : Ex × St := ((.exit 2), ⟨.agg [.sl (Y2.Places.map GVector.cells), .sl (Y2.Triangles.map (cL (cI .i64)))] :: .ptr 0 0 0 :: .any :: .nils :: .mp 1 :: .own 2 :: .i .i64 Y1 :: .sl ((Y2.Triangles.getD Y1.toNat default).map (cI .i64)) :: .any :: .any :: .mp 1 :: .any :: .ptr 0 0 1 :: .sl (Y2.Triangles.map (cL (cI .i64))) :: .i .i64 (Y2.Triangles.length : Int) :: .i .i64 Y1 :: .b (decide (Y1 < (Y2.Triangles.length : Int))) :: .i .i64 Y1 :: .ref [.sl ((Y2.Triangles.getD Y1.toNat default).map (cI .i64))] 0 :: .sl ((Y2.Triangles.getD Y1.toNat default).map (cI .i64)) :: an 37 [], [.box 38 [.sl (Y2.Places.map GVector.cells), .sl (Y2.Triangles.map (cL (cI .i64)))], .mapN 2 (mapC Gedge.pr (cI .i64) r.1) none, .vec 167 2 (r.2.map Gedge.cells) false]⟩)
def Z9G (Y2 : GMesh) (Y1 : Int) (Yh : (List (Gedge × List Int))) (YA : (List Gedge)) (Y6 : Int) (Yg : (List (Gedge × List Int))) (Yz : (List Gedge)) : St := ⟨.agg [.sl (Y2.Places.map GVector.cells), .sl (Y2.Triangles.map (cL (cI .i64)))] :: .ptr 0 0 0 :: .any :: .nils :: .mp 1 :: .own 2 :: .i .i64 Y1 :: .sl ((Y2.Triangles.getD Y1.toNat default).map (cI .i64)) :: .any :: .any :: .mp 1 :: .any :: .ptr 0 0 1 :: .sl (Y2.Triangles.map (cL (cI .i64))) :: .i .i64 (Y2.Triangles.length : Int) :: .i .i64 Y1 :: .b (decide (Y1 < (Y2.Triangles.length : Int))) :: .i .i64 Y1 :: .ref [.sl ((Y2.Triangles.getD Y1.toNat default).map (cI .i64))] 0 :: .sl ((Y2.Triangles.getD Y1.toNat default).map (cI .i64)) :: .i .i64 Y6 :: an 36 [], [.box 38 [.sl (Y2.Places.map GVector.cells), .sl (Y2.Triangles.map (cL (cI .i64)))], .mapN 2 (mapC Gedge.pr (cI .i64) Yg) none, .vec 167 2 (Yz.map Gedge.cells) false]⟩
set_option maxHeartbeats 1000000 in
theorem Z9H (Y2 : GMesh) (Y1 : Int) (Yh : (List (Gedge × List Int))) (YA : (List Gedge)) (hp0 : Y2.Places.length ≤ 1073741824) (hp1 : Y2.Triangles.length ≤ 1073741824) (hp2 : ∀ t ∈ Y2.Triangles, t.length ≤ 1073741824) (hp3 : OkE Y2.Places.length Y2.Triangles) (ZP : 0 ≤ Y1) (Z3O : (YA.length : Int) ≤ 3 * Y1) (Z3k : ∀ y ∈ Yh, (y.2.length : Int) ≤ 3 * Y1) (Z2l : (decide (Y1 < (Y2.Triangles.length : Int))) = true) : ∀ (k : Nat) (Y6 : Int) (Yg : (List (Gedge × List Int))) (Yz : (List Gedge)) (Z1K : 0 ≤ Y6) (Z5s : (Yz.length : Int) ≤ (YA.length : Int) + Y6) (Z5t : ∀ y ∈ Yg, (y.2.length : Int) ≤ 3 * Y1 + Y6) (hk : ((3 : Int) - Y6).toNat < k), Lp prog 0 (sub (bodyOf f141) [1, 1, 0, 1, 0, 0, 1, 1, 0, 0, 1, 1, 0, 0]) (Z9G Y2 Y1 Yh YA Y6 Yg Yz) (Z4H Y2 Y1 Yh YA (Zf Y2 Y1 Yh YA k Y6 Yg Yz)).1 (Z4H Y2 Y1 Yh YA (Zf Y2 Y1 Yh YA k Y6 Yg Yz)).2 := by
 intro k
 induction k with
 | zero => intro Y6 Yg Yz Z1K Z5s Z5t hk; exact absurd hk (Nat.not_lt_zero _)
 | succ k ih =>
  intro Y6 Yg Yz Z1K Z5s Z5t hk
  cases YD : (decide (Y6 < 3)) with
  | true =>
   have YB := of_decide_eq_true YD
   have Y13 : (0 : Int) ≤ Y6 := (by assumption)
   have Y14 : Y6 < ((Y2.Triangles.getD Y1.toNat default).length : Int) := (by ((have g5 := of_decide_eq_true Z2l; have q := OkE.at hp3 ZP g5 Z1K (of_decide_eq_true (by assumption)); omega)))
   have Y11 : (-9223372036854775808 : Int) ≤ (Y6 + 1) := (by omega)
   have YZ : (Y6 + 1) ≤ (9223372036854775807 : Int) := (by omega)
   have Y15 : (0 : Int) ≤ (Int.tmod (Y6 + 1) 3) := (by ((have g5 := of_decide_eq_true Z2l; have q := OkE.at hp3 ZP g5 Z1K (of_decide_eq_true (by assumption)); omega)))
   have Y1a : (Int.tmod (Y6 + 1) 3) < ((Y2.Triangles.getD Y1.toNat default).length : Int) := (by ((have g5 := of_decide_eq_true Z2l; have q := OkE.at hp3 ZP g5 Z1K (of_decide_eq_true (by assumption)); omega)))
   have p {a C} (s : Scr a C) := sB YD <| sK [12, 12] <| sG (cI .i64) (Y2.Triangles.getD Y1.toNat default) Y6 Y13 Y14 <| sI (Y6 + 1) Y11 YZ <| sC (show (3 : Int) ≠ 0 from (by decide)) <| sQ (Int.tmod (Y6 + 1) 3) <| sG (cI .i64) (Y2.Triangles.getD Y1.toNat default) (Int.tmod (Y6 + 1) 3) Y15 Y1a <| sF (ZeP ((Y2.Triangles.getD Y1.toNat default).getD Y6.toNat default) ((Y2.Triangles.getD Y1.toNat default).getD (Int.tmod (Y6 + 1) 3).toNat default)) <| s
   cases YW : (mhas Yg (Z4 Y2 Y1 Y6)) with
   | true =>
    have m__16 := midx_lt YW
    have q {a C} (s : Scr a C) := p (sA (.keep [midx Yg (Z4 Y2 Y1 Y6)]) <| sC (mget_ok (ck := Gedge.pr) (cv := (cI .i64)) YW) <| sM (mget_len (ck := Gedge.pr) (cv := (cI .i64)) (l := Yg) (j := (midx Yg (Z4 Y2 Y1 Y6)))) <| s)
    clear p
    cases Y1w : (((Yg.getD (midx Yg (Z4 Y2 Y1 Y6)) default).2.length : Int) == 0) with
    | true =>
     have gh__2 := eq_of_beq Y1w
     have Y17 : Yz.length + ([(Z4 Y2 Y1 Y6)]).length ≤ 1073741824 := by clear q; exact (by ((have g5 := of_decide_eq_true Z2l; have q := OkE.at hp3 ZP g5 Z1K (of_decide_eq_true (by assumption)); (simp only [List.length_append, List.length_cons, List.length_nil]; omega))))
     have Y1b : (midx Yg (Z4 Y2 Y1 Y6)) < Yg.length := by clear q; exact (by assumption)
     have Y1n : ((Yg.getD (midx Yg (Z4 Y2 Y1 Y6)) default).2).length + ([Y1]).length ≤ 1073741824 := by clear q; exact (by ((have g5 := of_decide_eq_true Z2l; have q := OkE.at hp3 ZP g5 Z1K (of_decide_eq_true (by assumption)); (simp only [List.length_append, List.length_cons, List.length_nil]; omega))))
     have e : Zf Y2 Y1 Yh YA (k + 1) Y6 Yg Yz = (Zf Y2 Y1 Yh YA k (Y6 + 1) (mput Yg (midx Yg (Z4 Y2 Y1 Y6)) ((Yg.getD (midx Yg (Z4 Y2 Y1 Y6)) default).2 ++ [Y1])) (Yz ++ [(Z4 Y2 Y1 Y6)])) := by simp only [Zf, YD, YW, Y1w, cond_true]
     rw [e]
     exact nextS E0Ok Z5 [] (mR false [0, 2, 1, 5, 2, 1, 1, 9, 36]) [0, 1, 2] (⟨.agg [.sl (Y2.Places.map GVector.cells), .sl (Y2.Triangles.map (cL (cI .i64)))] :: .ptr 0 0 0 :: .any :: .nils :: .mp 1 :: .own 2 :: .i .i64 Y1 :: .sl ((Y2.Triangles.getD Y1.toNat default).map (cI .i64)) :: .any :: .any :: .mp 1 :: .any :: .ptr 0 0 1 :: .sl (Y2.Triangles.map (cL (cI .i64))) :: .i .i64 (Y2.Triangles.length : Int) :: .i .i64 Y1 :: .b (decide (Y1 < (Y2.Triangles.length : Int))) :: .i .i64 Y1 :: .ref [.sl ((Y2.Triangles.getD Y1.toNat default).map (cI .i64))] 0 :: .sl ((Y2.Triangles.getD Y1.toNat default).map (cI .i64)) :: .i .i64 (Y6 + 1) :: an 36 [], [.box 38 [.sl (Y2.Places.map GVector.cells), .sl (Y2.Triangles.map (cL (cI .i64)))], .mapN 2 (((mapC Gedge.pr (cI .i64) Yg).set (midx Yg (Z4 Y2 Y1 Y6)) (((mapC Gedge.pr (cI .i64) Yg).getD (midx Yg (Z4 Y2 Y1 Y6)) default).1, [])).set (midx Yg (Z4 Y2 Y1 Y6)) ((((mapC Gedge.pr (cI .i64) Yg).set (midx Yg (Z4 Y2 Y1 Y6)) (((mapC Gedge.pr (cI .i64) Yg).getD (midx Yg (Z4 Y2 Y1 Y6)) default).1, [])).getD (midx Yg (Z4 Y2 Y1 Y6)) default).1, (((mapC Gedge.pr (cI .i64) Yg).getD (midx Yg (Z4 Y2 Y1 Y6)) default).2 ++ ([Y1].map (cI .i64))))) none, .vec 167 2 ((Yz.map Gedge.cells) ++ ([[.i .i64 ((Z4 Y2 Y1 Y6).e0), .i .i64 ((Z4 Y2 Y1 Y6).e1)]] : List (List AV))) false]⟩) (q (sB Y1w <| sC (show (Yz.map Gedge.cells).length + ([[.i .i64 ((Z4 Y2 Y1 Y6).e0), .i .i64 ((Z4 Y2 Y1 Y6).e1)]] : List (List AV)).length ≤ 1073741824 from (by simpa using Y17)) <| sA (.keep [midx Yg (Z4 Y2 Y1 Y6)]) <| sC (mget_ok (ck := Gedge.pr) (cv := (cI .i64)) YW) <| sC (show (midx Yg (Z4 Y2 Y1 Y6)) < (mapC Gedge.pr (cI .i64) Yg).length from (by simpa using Y1b)) <| sC (show (((mapC Gedge.pr (cI .i64) Yg).getD (midx Yg (Z4 Y2 Y1 Y6)) default).2).length + ([[.i .i64 Y1]] : List (List AV)).length ≤ 1073741824 from (by simpa using Y1n)) <| sA (.keep [(midx Yg (Z4 Y2 Y1 Y6))]) <| sC (show ((midx Yg (Z4 Y2 Y1 Y6)) : Int) = (((midx Yg (Z4 Y2 Y1 Y6)) : Nat) : Int) from rfl) <| sC (show (midx Yg (Z4 Y2 Y1 Y6)) < ((mapC Gedge.pr (cI .i64) Yg).set (midx Yg (Z4 Y2 Y1 Y6)) (((mapC Gedge.pr (cI .i64) Yg).getD (midx Yg (Z4 Y2 Y1 Y6)) default).1, [])).length from (by simpa using Y1b)) <| sC (show ∀ i, some (midx Yg (Z4 Y2 Y1 Y6)) = some i → i = (midx Yg (Z4 Y2 Y1 Y6)) from (fun i h => by cases h; rfl)) <| sI (Y6 + 1) Y11 YZ <| sN)) (by kernel_rfl) (show _ = ⟨.agg [.sl (Y2.Places.map GVector.cells), .sl (Y2.Triangles.map (cL (cI .i64)))] :: .ptr 0 0 0 :: .any :: .nils :: .mp 1 :: .own 2 :: .i .i64 Y1 :: .sl ((Y2.Triangles.getD Y1.toNat default).map (cI .i64)) :: .any :: .any :: .mp 1 :: .any :: .ptr 0 0 1 :: .sl (Y2.Triangles.map (cL (cI .i64))) :: .i .i64 (Y2.Triangles.length : Int) :: .i .i64 Y1 :: .b (decide (Y1 < (Y2.Triangles.length : Int))) :: .i .i64 Y1 :: .ref [.sl ((Y2.Triangles.getD Y1.toNat default).map (cI .i64))] 0 :: .sl ((Y2.Triangles.getD Y1.toNat default).map (cI .i64)) :: .i .i64 (Y6 + 1) :: an 36 [], [.box 38 [.sl (Y2.Places.map GVector.cells), .sl (Y2.Triangles.map (cL (cI .i64)))], .mapN 2 (mapC Gedge.pr (cI .i64) (mput Yg (midx Yg (Z4 Y2 Y1 Y6)) ((Yg.getD (midx Yg (Z4 Y2 Y1 Y6)) default).2 ++ [Y1]))) none, .vec 167 2 ((Yz ++ [(Z4 Y2 Y1 Y6)]).map Gedge.cells) false]⟩ from (by rw [mapC_put (midx_lt YW)]; simp [List.map_set, Gedge.cells])) (ih (Y6 + 1) (mput Yg (midx Yg (Z4 Y2 Y1 Y6)) ((Yg.getD (midx Yg (Z4 Y2 Y1 Y6)) default).2 ++ [Y1])) (Yz ++ [(Z4 Y2 Y1 Y6)]) (show 0 ≤ (Y6 + 1) from (by omega)) (show ((Yz ++ [(Z4 Y2 Y1 Y6)]).length : Int) ≤ (YA.length : Int) + (Y6 + 1) from (by simp only [List.length_append, List.length_cons, List.length_nil]; omega)) (show ∀ y ∈ (mput Yg (midx Yg (Z4 Y2 Y1 Y6)) ((Yg.getD (midx Yg (Z4 Y2 Y1 Y6)) default).2 ++ [Y1])), (y.2.length : Int) ≤ 3 * Y1 + (Y6 + 1) from (by exact mput_inv (by assumption) (by omega) (by omega))) (by omega))
    | false =>
     have gh__2 := ne_of_beq_false Y1w
     have Y17 : (midx Yg (Z4 Y2 Y1 Y6)) < Yg.length := by clear q; exact (by assumption)
     have Y1b : ((Yg.getD (midx Yg (Z4 Y2 Y1 Y6)) default).2).length + ([Y1]).length ≤ 1073741824 := by clear q; exact (by ((have g5 := of_decide_eq_true Z2l; have q := OkE.at hp3 ZP g5 Z1K (of_decide_eq_true (by assumption)); (have q3 := mlen_leI (N := 3 * Y1 + Y6) (by omega) (by assumption) (midx Yg (Z4 Y2 Y1 Y6)); simp only [List.length_cons, List.length_nil]; omega))))
     have e : Zf Y2 Y1 Yh YA (k + 1) Y6 Yg Yz = (Zf Y2 Y1 Yh YA k (Y6 + 1) (mput Yg (midx Yg (Z4 Y2 Y1 Y6)) ((Yg.getD (midx Yg (Z4 Y2 Y1 Y6)) default).2 ++ [Y1])) Yz) := by simp only [Zf, YD, YW, Y1w, cond_true, cond_false]
     rw [e]
     exact nextS E0Ok Z5 [] (mR false [0, 2, 1, 5, 2, 1, 1, 9, 36]) [0, 1, 2] (⟨.agg [.sl (Y2.Places.map GVector.cells), .sl (Y2.Triangles.map (cL (cI .i64)))] :: .ptr 0 0 0 :: .any :: .nils :: .mp 1 :: .own 2 :: .i .i64 Y1 :: .sl ((Y2.Triangles.getD Y1.toNat default).map (cI .i64)) :: .any :: .any :: .mp 1 :: .any :: .ptr 0 0 1 :: .sl (Y2.Triangles.map (cL (cI .i64))) :: .i .i64 (Y2.Triangles.length : Int) :: .i .i64 Y1 :: .b (decide (Y1 < (Y2.Triangles.length : Int))) :: .i .i64 Y1 :: .ref [.sl ((Y2.Triangles.getD Y1.toNat default).map (cI .i64))] 0 :: .sl ((Y2.Triangles.getD Y1.toNat default).map (cI .i64)) :: .i .i64 (Y6 + 1) :: an 36 [], [.box 38 [.sl (Y2.Places.map GVector.cells), .sl (Y2.Triangles.map (cL (cI .i64)))], .mapN 2 (((mapC Gedge.pr (cI .i64) Yg).set (midx Yg (Z4 Y2 Y1 Y6)) (((mapC Gedge.pr (cI .i64) Yg).getD (midx Yg (Z4 Y2 Y1 Y6)) default).1, [])).set (midx Yg (Z4 Y2 Y1 Y6)) ((((mapC Gedge.pr (cI .i64) Yg).set (midx Yg (Z4 Y2 Y1 Y6)) (((mapC Gedge.pr (cI .i64) Yg).getD (midx Yg (Z4 Y2 Y1 Y6)) default).1, [])).getD (midx Yg (Z4 Y2 Y1 Y6)) default).1, (((mapC Gedge.pr (cI .i64) Yg).getD (midx Yg (Z4 Y2 Y1 Y6)) default).2 ++ ([Y1].map (cI .i64))))) none, .vec 167 2 (Yz.map Gedge.cells) false]⟩) (q (sB Y1w <| sA (.keep [midx Yg (Z4 Y2 Y1 Y6)]) <| sC (mget_ok (ck := Gedge.pr) (cv := (cI .i64)) YW) <| sC (show (midx Yg (Z4 Y2 Y1 Y6)) < (mapC Gedge.pr (cI .i64) Yg).length from (by simpa using Y17)) <| sC (show (((mapC Gedge.pr (cI .i64) Yg).getD (midx Yg (Z4 Y2 Y1 Y6)) default).2).length + ([[.i .i64 Y1]] : List (List AV)).length ≤ 1073741824 from (by simpa using Y1b)) <| sA (.keep [(midx Yg (Z4 Y2 Y1 Y6))]) <| sC (show ((midx Yg (Z4 Y2 Y1 Y6)) : Int) = (((midx Yg (Z4 Y2 Y1 Y6)) : Nat) : Int) from rfl) <| sC (show (midx Yg (Z4 Y2 Y1 Y6)) < ((mapC Gedge.pr (cI .i64) Yg).set (midx Yg (Z4 Y2 Y1 Y6)) (((mapC Gedge.pr (cI .i64) Yg).getD (midx Yg (Z4 Y2 Y1 Y6)) default).1, [])).length from (by simpa using Y17)) <| sC (show ∀ i, some (midx Yg (Z4 Y2 Y1 Y6)) = some i → i = (midx Yg (Z4 Y2 Y1 Y6)) from (fun i h => by cases h; rfl)) <| sI (Y6 + 1) Y11 YZ <| sN)) (by kernel_rfl) (show _ = ⟨.agg [.sl (Y2.Places.map GVector.cells), .sl (Y2.Triangles.map (cL (cI .i64)))] :: .ptr 0 0 0 :: .any :: .nils :: .mp 1 :: .own 2 :: .i .i64 Y1 :: .sl ((Y2.Triangles.getD Y1.toNat default).map (cI .i64)) :: .any :: .any :: .mp 1 :: .any :: .ptr 0 0 1 :: .sl (Y2.Triangles.map (cL (cI .i64))) :: .i .i64 (Y2.Triangles.length : Int) :: .i .i64 Y1 :: .b (decide (Y1 < (Y2.Triangles.length : Int))) :: .i .i64 Y1 :: .ref [.sl ((Y2.Triangles.getD Y1.toNat default).map (cI .i64))] 0 :: .sl ((Y2.Triangles.getD Y1.toNat default).map (cI .i64)) :: .i .i64 (Y6 + 1) :: an 36 [], [.box 38 [.sl (Y2.Places.map GVector.cells), .sl (Y2.Triangles.map (cL (cI .i64)))], .mapN 2 (mapC Gedge.pr (cI .i64) (mput Yg (midx Yg (Z4 Y2 Y1 Y6)) ((Yg.getD (midx Yg (Z4 Y2 Y1 Y6)) default).2 ++ [Y1]))) none, .vec 167 2 (Yz.map Gedge.cells) false]⟩ from (by rw [mapC_put (midx_lt YW)]; done)) (ih (Y6 + 1) (mput Yg (midx Yg (Z4 Y2 Y1 Y6)) ((Yg.getD (midx Yg (Z4 Y2 Y1 Y6)) default).2 ++ [Y1])) Yz (show 0 ≤ (Y6 + 1) from (by omega)) (show (Yz.length : Int) ≤ (YA.length : Int) + (Y6 + 1) from (by omega)) (show ∀ y ∈ (mput Yg (midx Yg (Z4 Y2 Y1 Y6)) ((Yg.getD (midx Yg (Z4 Y2 Y1 Y6)) default).2 ++ [Y1])), (y.2.length : Int) ≤ 3 * Y1 + (Y6 + 1) from (by exact mput_inv (by assumption) (by omega) (by omega))) (by omega))
   | false =>
    have Y17 : Yz.length + ([(Z4 Y2 Y1 Y6)]).length ≤ 1073741824 := by clear p; exact (by ((have g5 := of_decide_eq_true Z2l; have q := OkE.at hp3 ZP g5 Z1K (of_decide_eq_true (by assumption)); (simp only [List.length_append, List.length_cons, List.length_nil]; omega))))
    have e : Zf Y2 Y1 Yh YA (k + 1) Y6 Yg Yz = (Zf Y2 Y1 Yh YA k (Y6 + 1) (Yg ++ [((Z4 Y2 Y1 Y6), [Y1])]) (Yz ++ [(Z4 Y2 Y1 Y6)])) := by simp only [Zf, YD, YW, cond_true, cond_false]
    rw [e]
    exact nextS E0Ok Z5 [] (mR false [0, 2, 1, 5, 2, 1, 1, 9, 36]) [0, 1, 2] (⟨.agg [.sl (Y2.Places.map GVector.cells), .sl (Y2.Triangles.map (cL (cI .i64)))] :: .ptr 0 0 0 :: .any :: .nils :: .mp 1 :: .own 2 :: .i .i64 Y1 :: .sl ((Y2.Triangles.getD Y1.toNat default).map (cI .i64)) :: .any :: .any :: .mp 1 :: .any :: .ptr 0 0 1 :: .sl (Y2.Triangles.map (cL (cI .i64))) :: .i .i64 (Y2.Triangles.length : Int) :: .i .i64 Y1 :: .b (decide (Y1 < (Y2.Triangles.length : Int))) :: .i .i64 Y1 :: .ref [.sl ((Y2.Triangles.getD Y1.toNat default).map (cI .i64))] 0 :: .sl ((Y2.Triangles.getD Y1.toNat default).map (cI .i64)) :: .i .i64 (Y6 + 1) :: an 36 [], [.box 38 [.sl (Y2.Places.map GVector.cells), .sl (Y2.Triangles.map (cL (cI .i64)))], .mapN 2 (((mapC Gedge.pr (cI .i64) Yg) ++ [((Gedge.pr (Z4 Y2 Y1 Y6)), [])]).set (mapC Gedge.pr (cI .i64) Yg).length ((((mapC Gedge.pr (cI .i64) Yg) ++ [((Gedge.pr (Z4 Y2 Y1 Y6)), [])]).getD (mapC Gedge.pr (cI .i64) Yg).length default).1, (([Y1]).map (cI .i64)))) none, .vec 167 2 ((Yz.map Gedge.cells) ++ ([[.i .i64 ((Z4 Y2 Y1 Y6).e0), .i .i64 ((Z4 Y2 Y1 Y6).e1)]] : List (List AV))) false]⟩) (p (sA (.keep []) <| sC (mnot_ok (ck := Gedge.pr) (cv := (cI .i64)) Gedge.inj YW) <| sM (show ((0 : Nat) : Int) = 0 from rfl) <| sB (show (0 == 0) = true from rfl) <| sC (show (Yz.map Gedge.cells).length + ([[.i .i64 ((Z4 Y2 Y1 Y6).e0), .i .i64 ((Z4 Y2 Y1 Y6).e1)]] : List (List AV)).length ≤ 1073741824 from (by simpa using Y17)) <| sA (.keep []) <| sC (mnot_ok (ck := Gedge.pr) (cv := (cI .i64)) Gedge.inj YW) <| sC (show ([[.i .i64 Y1]] : List (List AV)) ≠ [] from (by simp)) <| sC (show ([[.i .i64 Y1]] : List (List AV)).length ≤ 1073741824 from (by simp)) <| sA (.keep [(mapC Gedge.pr (cI .i64) Yg).length]) <| sC (show ((mapC Gedge.pr (cI .i64) Yg).length : Int) = (((mapC Gedge.pr (cI .i64) Yg).length : Nat) : Int) from rfl) <| sC (show (mapC Gedge.pr (cI .i64) Yg).length < ((mapC Gedge.pr (cI .i64) Yg) ++ [((Gedge.pr (Z4 Y2 Y1 Y6)), [])]).length from (by simp)) <| sC (show ∀ i, (none : Option Nat) = some i → i = (mapC Gedge.pr (cI .i64) Yg).length from (fun i h => by cases h)) <| sI (Y6 + 1) Y11 YZ <| sN)) (by kernel_rfl) (show _ = ⟨.agg [.sl (Y2.Places.map GVector.cells), .sl (Y2.Triangles.map (cL (cI .i64)))] :: .ptr 0 0 0 :: .any :: .nils :: .mp 1 :: .own 2 :: .i .i64 Y1 :: .sl ((Y2.Triangles.getD Y1.toNat default).map (cI .i64)) :: .any :: .any :: .mp 1 :: .any :: .ptr 0 0 1 :: .sl (Y2.Triangles.map (cL (cI .i64))) :: .i .i64 (Y2.Triangles.length : Int) :: .i .i64 Y1 :: .b (decide (Y1 < (Y2.Triangles.length : Int))) :: .i .i64 Y1 :: .ref [.sl ((Y2.Triangles.getD Y1.toNat default).map (cI .i64))] 0 :: .sl ((Y2.Triangles.getD Y1.toNat default).map (cI .i64)) :: .i .i64 (Y6 + 1) :: an 36 [], [.box 38 [.sl (Y2.Places.map GVector.cells), .sl (Y2.Triangles.map (cL (cI .i64)))], .mapN 2 (mapC Gedge.pr (cI .i64) (Yg ++ [((Z4 Y2 Y1 Y6), [Y1])])) none, .vec 167 2 ((Yz ++ [(Z4 Y2 Y1 Y6)]).map Gedge.cells) false]⟩ from (by rw [mapC_new]; simp [List.map_set, Gedge.cells])) (ih (Y6 + 1) (Yg ++ [((Z4 Y2 Y1 Y6), [Y1])]) (Yz ++ [(Z4 Y2 Y1 Y6)]) (show 0 ≤ (Y6 + 1) from (by omega)) (show ((Yz ++ [(Z4 Y2 Y1 Y6)]).length : Int) ≤ (YA.length : Int) + (Y6 + 1) from (by simp only [List.length_append, List.length_cons, List.length_nil]; omega)) (show ∀ y ∈ (Yg ++ [((Z4 Y2 Y1 Y6), [Y1])]), (y.2.length : Int) ≤ 3 * Y1 + (Y6 + 1) from (by exact mnew_inv (by assumption) (by omega) (by omega))) (by omega))
  | false =>
   have YB := of_decide_eq_false YD
   have e : Zf Y2 Y1 Yh YA (k + 1) Y6 Yg Yz = (Yg, Yz) := by simp only [Zf, YD, cond_false]
   rw [e]
   exact outR (e := (.exit 2)) E0Ok Z5 [] (mR false [0, 2, 1, 5, 2, 1, 1, 8, 37]) [0, 1, 2] (sB YD <| sN) (by kernel_rfl) (by intro h; cases h)
end Go.Ab
