/- The functions of this seat as plain Lean, and that the program's are these. Printed by a program of the prover's own. -/
import Derived.Test.YtpndflbllggeiaaGreatB7
set_option linter.unusedVariables false
set_option linter.unusedSimpArgs false
set_option maxRecDepth 100000
namespace Go.Ab
open Go.RowKit Go.Proofs.Tryz
def Z2R (a_0 : (List Nat)) (b_1 : (List Nat)) : (Unit) ⊕ (Unit) := (Z1c a_0 b_1 (((a_0.length : Int) - 0).toNat + 1) 0)
def Z2A (a_0 : (List Nat)) (b_1 : (List Nat)) : Bool := (cond ((a_0.length : Int) != (b_1.length : Int))
  false
  (match (Z2R a_0 b_1) with
    | .inl r2 => false
    | .inr r2 => true))
theorem Z8G (a_0 : (List Nat)) (b_1 : (List Nat)) (hp0 : a_0.length ≤ 1073741824) (hp1 : b_1.length ≤ 1073741824)  : Fn prog 40 [.sl (a_0.map (cF .f32)), .sl (b_1.map (cF .f32))] (.b (Z2A a_0 b_1)) [] := by
 have p {a C} (s : Scr a C) := sZ (cF .f32) a_0 <| sZ (cF .f32) b_1 <| s
 cases h0 : ((a_0.length : Int) != (b_1.length : Int)) with
 | true =>
  have gh0 := bne_iff_ne.1 h0
  refine fnS E0Ok Z3 (c := bodyOf f40) [] (.b false) [] func40 (p (sB h0 <| sK [] sN)) rfl (by kernel_rfl) (by kernel_rfl) rfl ?_ ?_
  · simp only [Z2A, h0, cond_true]
  · rfl
 | false =>
  have gh0 := bne_eq_false_iff_eq.1 h0
  have q {a C} (s : Scr a C) := p (sB h0 <| s)
  clear p
  cases h1 : (Z2R a_0 b_1) with
  | inl r2 =>
   refine fnS E0Ok Z3 (c := bodyOf f40) [] (.b false) [] func40 (q (sL (mR false [0, 2, 3, 6, 18]) 0 (lp_val (Z3C a_0 b_1) (x := (Z2R a_0 b_1)) (Z5W a_0 b_1 hp0 hp1 h0 (((a_0.length : Int) - 0).toNat + 1) 0 (show 0 ≤ 0 from (by omega)) (Nat.lt_succ_self _)) h1) <| sK [] sN)) rfl (by kernel_rfl) (by kernel_rfl) rfl ?_ ?_
   · simp only [Z2A, h0, h1, cond_false]
   · rfl
  | inr r2 =>
   refine fnS E0Ok Z3 (c := bodyOf f40) [] (.b true) [] func40 (q (sL (mR false [0, 2, 3, 6, 18]) 0 (lp_val (Z3C a_0 b_1) (x := (Z2R a_0 b_1)) (Z5W a_0 b_1 hp0 hp1 h0 (((a_0.length : Int) - 0).toNat + 1) 0 (show 0 ≤ 0 from (by omega)) (Nat.lt_succ_self _)) h1) <| sK [] sN)) rfl (by kernel_rfl) (by kernel_rfl) rfl ?_ ?_
   · simp only [Z2A, h0, h1, cond_false]
   · rfl
theorem Z9p (a : List Nat) : Z2A a a = true := by
  unfold Z2A Z2R
  rw [all_from (a := a) (p := fun v => Zk (fcv .f32 .f64 v) (fcv .f32 .f64 v)) (lo := Z1c a a) (x := ()) (y := ()) (fun k i => rfl)]
  rw [show (a.all fun v => Zk (fcv .f32 .f64 v) (fcv .f32 .f64 v)) = true from by rw [List.all_eq_true]; intro v _; exact Z6t _]
  simp
def Z2k (a_0 : GBody) (b_1 : GBody) : Bool := (cond (Z3a a_0.Mesh b_1.Mesh)
  (cond (Z2E a_0.Springs b_1.Springs)
    (cond (Zk (fcv .f32 .f64 a_0.Film) (fcv .f32 .f64 b_1.Film))
      (cond (Zk (fcv .f32 .f64 a_0.Bend) (fcv .f32 .f64 b_1.Bend))
        (cond (Z2A a_0.Weights b_1.Weights)
          (cond (Z1V a_0.Fall b_1.Fall)
            true
            false)
          false)
        false)
      false)
    false)
  false)
theorem Zab (a_0 : GBody) (b_1 : GBody) (hp0 : a_0.Mesh.Places.length ≤ 1073741824) (hp1 : a_0.Mesh.Triangles.length ≤ 1073741824) (hp2 : ∀ t ∈ a_0.Mesh.Triangles, t.length ≤ 1073741824) (hp3 : a_0.Springs.length ≤ 1073741824) (hp4 : a_0.Weights.length ≤ 1073741824) (hp5 : b_1.Mesh.Places.length ≤ 1073741824) (hp6 : b_1.Mesh.Triangles.length ≤ 1073741824) (hp7 : ∀ t ∈ b_1.Mesh.Triangles, t.length ≤ 1073741824) (hp8 : b_1.Springs.length ≤ 1073741824) (hp9 : b_1.Weights.length ≤ 1073741824)  : Fn prog 16 [.agg [.sl (a_0.Mesh.Places.map GVector.cells), .sl (a_0.Mesh.Triangles.map (cL (cI .i64))), .sl (a_0.Springs.map GSpring.cells), .f .f32 a_0.Film, .f .f32 a_0.Bend, .sl (a_0.Weights.map (cF .f32)), .f .f32 a_0.Fall.X, .f .f32 a_0.Fall.Y, .f .f32 a_0.Fall.Z], .agg [.sl (b_1.Mesh.Places.map GVector.cells), .sl (b_1.Mesh.Triangles.map (cL (cI .i64))), .sl (b_1.Springs.map GSpring.cells), .f .f32 b_1.Film, .f .f32 b_1.Bend, .sl (b_1.Weights.map (cF .f32)), .f .f32 b_1.Fall.X, .f .f32 b_1.Fall.Y, .f .f32 b_1.Fall.Z]] (.b (Z2k a_0 b_1)) [] := by
 have p {a C} (s : Scr a C) := sF (Za9 a_0.Mesh b_1.Mesh hp0 hp1 hp2 hp5 hp6 hp7) <| s
 cases h0 : (Z3a a_0.Mesh b_1.Mesh) with
 | true =>
  have q {a C} (s : Scr a C) := p (sB' h0 <| sF (Z98 a_0.Springs b_1.Springs hp3 hp8) <| s)
  clear p
  cases h1 : (Z2E a_0.Springs b_1.Springs) with
  | true =>
   have p {a C} (s : Scr a C) := q (sB' h1 <| sC (widenOk a_0.Film) <| sC (widenOk b_1.Film) <| sF (Z2w (fcv .f32 .f64 a_0.Film) (fcv .f32 .f64 b_1.Film)) <| s)
   clear q
   cases h2 : (Zk (fcv .f32 .f64 a_0.Film) (fcv .f32 .f64 b_1.Film)) with
   | true =>
    have q {a C} (s : Scr a C) := p (sB' h2 <| sC (widenOk a_0.Bend) <| sC (widenOk b_1.Bend) <| sF (Z2w (fcv .f32 .f64 a_0.Bend) (fcv .f32 .f64 b_1.Bend)) <| s)
    clear p
    cases h3 : (Zk (fcv .f32 .f64 a_0.Bend) (fcv .f32 .f64 b_1.Bend)) with
    | true =>
     have p {a C} (s : Scr a C) := q (sB' h3 <| sF (Z8G a_0.Weights b_1.Weights hp4 hp9) <| s)
     clear q
     cases h4 : (Z2A a_0.Weights b_1.Weights) with
     | true =>
      have q {a C} (s : Scr a C) := p (sB' h4 <| sF (Z6T a_0.Fall b_1.Fall) <| s)
      clear p
      cases h5 : (Z1V a_0.Fall b_1.Fall) with
      | true =>
       refine fnS E0Ok Z3 (c := bodyOf f16) [] (.b true) [] func16 (q (sB' h5 <| sK [] sN)) rfl (by kernel_rfl) (by kernel_rfl) rfl ?_ ?_
       · simp only [Z2k, h0, h1, h2, h3, h4, h5, cond_true]
       · rfl
      | false =>
       refine fnS E0Ok Z3 (c := bodyOf f16) [] (.b false) [] func16 (q (sB' h5 <| sK [] sN)) rfl (by kernel_rfl) (by kernel_rfl) rfl ?_ ?_
       · simp only [Z2k, h0, h1, h2, h3, h4, h5, cond_true, cond_false]
       · rfl
     | false =>
      refine fnS E0Ok Z3 (c := bodyOf f16) [] (.b false) [] func16 (p (sB' h4 <| sK [] sN)) rfl (by kernel_rfl) (by kernel_rfl) rfl ?_ ?_
      · simp only [Z2k, h0, h1, h2, h3, h4, cond_true, cond_false]
      · rfl
    | false =>
     refine fnS E0Ok Z3 (c := bodyOf f16) [] (.b false) [] func16 (q (sB' h3 <| sK [] sN)) rfl (by kernel_rfl) (by kernel_rfl) rfl ?_ ?_
     · simp only [Z2k, h0, h1, h2, h3, cond_true, cond_false]
     · rfl
   | false =>
    refine fnS E0Ok Z3 (c := bodyOf f16) [] (.b false) [] func16 (p (sB' h2 <| sK [] sN)) rfl (by kernel_rfl) (by kernel_rfl) rfl ?_ ?_
    · simp only [Z2k, h0, h1, h2, cond_true, cond_false]
    · rfl
  | false =>
   refine fnS E0Ok Z3 (c := bodyOf f16) [] (.b false) [] func16 (q (sB' h1 <| sK [] sN)) rfl (by kernel_rfl) (by kernel_rfl) rfl ?_ ?_
   · simp only [Z2k, h0, h1, cond_true, cond_false]
   · rfl
 | false =>
  refine fnS E0Ok Z3 (c := bodyOf f16) [] (.b false) [] func16 (p (sB' h0 <| sK [] sN)) rfl (by kernel_rfl) (by kernel_rfl) rfl ?_ ?_
  · simp only [Z2k, h0, cond_false]
  · rfl
theorem ZaA (a : GBody) : Z2k a a = true := by
  simp [Z2k, Z6t, Z7z, Zay, Z9E, Z9p]
def Z1B (aB_0 : GBody) (aHeld_1 : (List Int)) : Bool := (cond (decide ((aHeld_1.length : Int) > 1048576))
  true
  (cond (decide ((Z1M aB_0 1048576) < 0))
    true
    (cond (Zk (fcv .f32 .f64 ((Z2j aB_0 aHeld_1).1)) (fcv .f32 .f64 ((Z26 aB_0 aHeld_1).1)))
      (cond ((Z2j aB_0 aHeld_1).2 == (Z26 aB_0 aHeld_1).2)
        (cond (Z2k aB_0 aB_0)
          (cond (Z1W aHeld_1 aHeld_1)
            true
            false)
          false)
        false)
      false)))
set_option maxHeartbeats 1000000 in
theorem Z7x (aB_0 : GBody) (aHeld_1 : (List Int)) (hp0 : aB_0.Mesh.Places.length ≤ 9223372036854775807) (hp1 : aB_0.Mesh.Triangles.length ≤ 9223372036854775807) (hp2 : ∀ t ∈ aB_0.Mesh.Triangles, t.length ≤ 9223372036854775807) (hp3 : aB_0.Springs.length ≤ 9223372036854775807) (hp4 : aB_0.Weights.length ≤ 9223372036854775807) (hp5 : aHeld_1.length ≤ 9223372036854775807)  : Fn prog 4 [.agg [.sl (aB_0.Mesh.Places.map GVector.cells), .sl (aB_0.Mesh.Triangles.map (cL (cI .i64))), .sl (aB_0.Springs.map GSpring.cells), .f .f32 aB_0.Film, .f .f32 aB_0.Bend, .sl (aB_0.Weights.map (cF .f32)), .f .f32 aB_0.Fall.X, .f .f32 aB_0.Fall.Y, .f .f32 aB_0.Fall.Z], .sl (aHeld_1.map (cI .i64))] (.b (Z1B aB_0 aHeld_1)) [] := by
 have z0 := (Z9r aB_0 1048576 (by omega) (by omega) (by assumption) (by omega) (by omega) (by omega) (by omega))
 have p {a C} (s : Scr a C) := sZ (cI .i64) aHeld_1 <| s
 cases h0 : (decide ((aHeld_1.length : Int) > 1048576)) with
 | true =>
  have gh0 := of_decide_eq_true h0
  refine fnS E0Ok Z3 (c := bodyOf f4) [] (.b true) [] func4 (p (sB h0 <| sK [] sN)) rfl (by kernel_rfl) (by kernel_rfl) rfl ?_ ?_
  · simp only [Z1B, h0, cond_true]
  · rfl
 | false =>
  have gh0 := of_decide_eq_false h0
  have q {a C} (s : Scr a C) := p (sB h0 <| sF (Z9P aB_0 1048576 hp0 hp1 hp2 hp3 hp4) <| s)
  clear p
  cases h1 : (decide ((Z1M aB_0 1048576) < 0)) with
  | true =>
   have gh1 := of_decide_eq_true h1
   refine fnS E0Ok Z3 (c := bodyOf f4) [] (.b true) [] func4 (q (sB h1 <| sK [] sN)) rfl (by kernel_rfl) (by kernel_rfl) rfl ?_ ?_
   · simp only [Z1B, h0, h1, cond_true, cond_false]
   · rfl
  | false =>
   have gh1 := of_decide_eq_false h1
   have y0 : aB_0.Mesh.Places.length ≤ 1073741824 := by clear q; exact (by omega)
   have y1 : aB_0.Mesh.Triangles.length ≤ 1073741824 := by clear q; exact (by omega)
   have y2 : ∀ t ∈ aB_0.Mesh.Triangles, t.length ≤ 1073741824 := by clear q; exact (by intro t ht; (have q := z0.2.2.2.2.2.2 t ht; omega))
   have y3 : aB_0.Springs.length ≤ 1073741824 := by clear q; exact (by omega)
   have y4 : aB_0.Weights.length ≤ 1073741824 := by clear q; exact (by omega)
   have y5 : aHeld_1.length ≤ 1073741824 := by clear q; exact (by omega)
   have p {a C} (s : Scr a C) := q (sB h1 <| sF (Z6v aB_0 y0 y1 y2 y3 y4) <| sF (Z4w aHeld_1 y5) <| sF (Fn.castA (args' := [.agg [.sl (aB_0.Mesh.Places.map GVector.cells), .sl ((aB_0.Mesh.Triangles.map fun l => l.map (cI .i64)).map fun l => [.sl l]), .sl (aB_0.Springs.map GSpring.cells), .f .f32 aB_0.Film, .f .f32 aB_0.Bend, .sl (aB_0.Weights.map (cF .f32)), .f .f32 aB_0.Fall.X, .f .f32 aB_0.Fall.Y, .f .f32 aB_0.Fall.Z], .sl (aHeld_1.map (cI .i64))]) (Z9W aB_0 aHeld_1 y0 y1 y2 y3 y4 y5) (by simp [cL, Function.comp_def]; done)) <| sF (Z6v aB_0 y0 y1 y2 y3 y4) <| sF (Z4w aHeld_1 y5) <| sF (Fn.castA (args' := [.agg [.sl (aB_0.Mesh.Places.map GVector.cells), .sl ((aB_0.Mesh.Triangles.map fun l => l.map (cI .i64)).map fun l => [.sl l]), .sl (aB_0.Springs.map GSpring.cells), .f .f32 aB_0.Film, .f .f32 aB_0.Bend, .sl (aB_0.Weights.map (cF .f32)), .f .f32 aB_0.Fall.X, .f .f32 aB_0.Fall.Y, .f .f32 aB_0.Fall.Z], .sl (aHeld_1.map (cI .i64))]) (Za8 aB_0 aHeld_1 y0 y1 y2 y3 y4 y5) (by simp [cL, Function.comp_def]; done)) <| sC (widenOk ((Z2j aB_0 aHeld_1).1)) <| sC (widenOk ((Z26 aB_0 aHeld_1).1)) <| sF (Z2w (fcv .f32 .f64 ((Z2j aB_0 aHeld_1).1)) (fcv .f32 .f64 ((Z26 aB_0 aHeld_1).1))) <| s)
   clear q
   cases h2 : (Zk (fcv .f32 .f64 ((Z2j aB_0 aHeld_1).1)) (fcv .f32 .f64 ((Z26 aB_0 aHeld_1).1))) with
   | true =>
    have q {a C} (s : Scr a C) := p (sB' h2 <| sB' h2 <| sB' h2 <| sB' h2 <| s)
    clear p
    cases h3 : ((Z2j aB_0 aHeld_1).2 == (Z26 aB_0 aHeld_1).2) with
    | true =>
     have gh3 := eq_of_beq h3
     have p {a C} (s : Scr a C) := q (sB' h3 <| sK [3, 3] <| sF (Z6v aB_0 y0 y1 y2 y3 y4) <| sF (Fn.castA (args' := [.agg [.sl (aB_0.Mesh.Places.map GVector.cells), .sl ((aB_0.Mesh.Triangles.map fun l => l.map (cI .i64)).map fun l => [.sl l]), .sl (aB_0.Springs.map GSpring.cells), .f .f32 aB_0.Film, .f .f32 aB_0.Bend, .sl (aB_0.Weights.map (cF .f32)), .f .f32 aB_0.Fall.X, .f .f32 aB_0.Fall.Y, .f .f32 aB_0.Fall.Z], .agg [.sl (aB_0.Mesh.Places.map GVector.cells), .sl ((aB_0.Mesh.Triangles.map fun l => l.map (cI .i64)).map fun l => [.sl l]), .sl (aB_0.Springs.map GSpring.cells), .f .f32 aB_0.Film, .f .f32 aB_0.Bend, .sl (aB_0.Weights.map (cF .f32)), .f .f32 aB_0.Fall.X, .f .f32 aB_0.Fall.Y, .f .f32 aB_0.Fall.Z]]) (Zab aB_0 aB_0 y0 y1 y2 y3 y4 y0 y1 y2 y3 y4) (by simp [cL, Function.comp_def]; done)) <| s)
     clear q
     cases h4 : (Z2k aB_0 aB_0) with
     | true =>
      have q {a C} (s : Scr a C) := p (sB' h4 <| sF (Z4w aHeld_1 y5) <| sF (Z6U aHeld_1 aHeld_1 y5 y5) <| s)
      clear p
      cases h5 : (Z1W aHeld_1 aHeld_1) with
      | true =>
       refine fnS E0Ok Z3 (c := bodyOf f4) [] (.b true) [] func4 (q (sB' h5 <| sK [] sN)) rfl (by kernel_rfl) (by kernel_rfl) rfl ?_ ?_
       · simp only [Z1B, h0, h1, h2, h3, h4, h5, cond_true, cond_false]
       · rfl
      | false =>
       refine fnS E0Ok Z3 (c := bodyOf f4) [] (.b false) [] func4 (q (sB' h5 <| sK [] sN)) rfl (by kernel_rfl) (by kernel_rfl) rfl ?_ ?_
       · simp only [Z1B, h0, h1, h2, h3, h4, h5, cond_true, cond_false]
       · rfl
     | false =>
      refine fnS E0Ok Z3 (c := bodyOf f4) [] (.b false) [] func4 (p (sB' h4 <| sK [] sN)) rfl (by kernel_rfl) (by kernel_rfl) rfl ?_ ?_
      · simp only [Z1B, h0, h1, h2, h3, h4, cond_true, cond_false]
      · rfl
    | false =>
     have gh3 := ne_of_beq_false h3
     refine fnS E0Ok Z3 (c := bodyOf f4) [] (.b false) [] func4 (q (sB' h3 <| sK [] sN)) rfl (by kernel_rfl) (by kernel_rfl) rfl ?_ ?_
     · simp only [Z1B, h0, h1, h2, h3, cond_true, cond_false]
     · rfl
   | false =>
    refine fnS E0Ok Z3 (c := bodyOf f4) [] (.b false) [] func4 (p (sB' h2 <| sB' h2 <| sB' h2 <| sB' h2 <| sB (show true = true from rfl) <| sK [] sN)) rfl (by kernel_rfl) (by kernel_rfl) rfl ?_ ?_
    · simp only [Z1B, h0, h1, h2, cond_false]
    · rfl
theorem Zao (l : List GVector) : ∀ (k : Nat) (out : Nat) (i : Int), isNaN .f32 out = false → (FloatKind.f32.decode out).neg = false → Zn l k out i = Z15 l k out i := by
  intro k
  induction k with
  | zero => intros; rfl
  | succ k ih =>
    intro out i h1 h2
    simp only [Zn, Z15]
    rw [show Zd = Zg from rfl]
    generalize Zg (l.getD i.toNat default) = x
    simp only [neq_self, h1]
    cases hx : isNaN .f32 x with
    | true =>
      cases fcmp .gtr .f32 x out <;> simp
    | false =>
      obtain ⟨m1, m2, m3⟩ := max_step h1 h2 hx
      cases hg : fcmp .gtr .f32 x out with
      | true =>
        rw [hg] at m1
        simp only [if_true] at m1
        rw [m1] at m2 m3 ⊢
        simp only [cond_true, cond_false]
        rw [ih _ _ m2 m3]
      | false =>
        rw [hg] at m1
        simp only [Bool.false_eq_true, if_false] at m1
        rw [m1]
        simp only [cond_false]
        rw [ih _ _ h1 h2]
theorem Zb0 (l : List GVector) (h : l.length ≤ 256) : Z1Z l = (Z2M l, true) := by
  unfold Z1Z Z2M Z31 Z2P
  rw [Zao l _ 0 0 (by decide +kernel) (by decide +kernel), decide_eq_false (by omega), cond_false]
  generalize Z15 l _ 0 0 = r
  cases r <;> rfl
theorem Zb8 (b : GBody) (l : List Int) : Z2j b l = Z26 b l := by
  unfold Z2j Z26 ZQ
  rw [Z9M]
  cases h : Z17 b with
  | false => rfl
  | true =>
    rw [cond_true, cond_true]
    cases h2 : Z2J b l with
    | false => rfl
    | true =>
      rw [cond_true, cond_true, cond_true, Za7 b l (Z9u b h), Zb0 _ (by rw [Z5F]; have := (Z9L _ (Z9K b h)).1; omega)]
theorem Z6N (a : GBody) (c : List Int) (h0_0 : a.Mesh.Places.length ≤ 9223372036854775807) (h0_1 : a.Mesh.Triangles.length ≤ 9223372036854775807) (h0_2 : ∀ t ∈ a.Mesh.Triangles, t.length ≤ 9223372036854775807) (h0_3 : a.Springs.length ≤ 9223372036854775807) (h0_4 : a.Weights.length ≤ 9223372036854775807) (h1_0 : c.length ≤ 9223372036854775807) : Z1B a c = true := by
  unfold Z1B
  simp [ZaA, Z7A, Zb8, Z6t]
end Go.Ab
