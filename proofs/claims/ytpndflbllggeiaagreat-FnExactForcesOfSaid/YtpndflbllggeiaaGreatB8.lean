/- The functions of this seat as plain Lean, and that the program's are these. Printed by a program of the prover's own. -/
import Derived.Test.YtpndflbllggeiaaGreatB7
set_option linter.unusedVariables false
set_option linter.unusedSimpArgs false
set_option maxRecDepth 100000
namespace Go.Ab
open Go.RowKit Go.Proofs.Tryz
def Z5d (_ : GSpring) (c : Int) : Int × GSpring := ((IntKind.wrap .i64 ((IntKind.wrap .i64 ((IntKind.wrap .i64 ((IntKind.wrap .i64 (c + 1)) + 1)) + 1)) + 1)), ⟨c, (IntKind.wrap .i64 (c + 1)), ofInt .f32 (IntKind.wrap .i64 ((IntKind.wrap .i64 (c + 1)) + 1)), ofInt .f32 (IntKind.wrap .i64 ((IntKind.wrap .i64 ((IntKind.wrap .i64 (c + 1)) + 1)) + 1))⟩)
theorem Z9W (a : List GSpring) (c : Int) : Zw a c = mkL Z5d a c := by
  unfold Zw Z2g
  rw [mark_loop (f := Z5d) (lo := Z1c a c) (fun k c i r => rfl) _ _ _ _ (Int.le_refl 0) (Nat.lt_succ_self _)]
  simp
theorem Z96 (a : List GSpring) (c : Int) (g0 : a.length ≤ 1073741824) (h0 : 0 ≤ c) (h1 : c ≤ 4611686018427387904) : c ≤ (Zw a c).1 ∧ (Zw a c).1 ≤ c + 4294967296 := by
  rw [Z9W]
  have q := mkL_ge (f := Z5d) (W := 4) a c (fun x _ c k0 k1 => by simp only [Z5d]; rw [wrap_id (n := c + 1) (by omega) (by omega), show c + 1 + 1 = c + 2 from by omega, wrap_id (n := c + 2) (by omega) (by omega), show c + 2 + 1 = c + 3 from by omega, wrap_id (n := c + 3) (by omega) (by omega), show c + 3 + 1 = c + 4 from by omega, wrap_id (n := c + 4) (by omega) (by omega)]; omega) h0 (by omega)
  omega
def Z15 (a_0 : (List Nat)) (k_1 : Int) : Nat → Int → Int → (List Nat) → Int × (List Nat)
  | 0, _, _, _ => default
  | k + 1, k_l0, i_l1, r0_l2 => (cond (decide (i_l1 < (r0_l2.length : Int)))
    (Z15 a_0 k_1 k (IntKind.wrap .i64 (k_l0 + 1)) (i_l1 + 1) (r0_l2.set i_l1.toNat (ofInt .f32 k_l0)))
    (k_l0, r0_l2))
def Z3s (a_0 : (List Nat)) (k_1 : Int) (r : Int × (List Nat)) : Ex × St := ((.exit 0), ⟨.any :: .i .i64 r.1 :: .any :: .any :: .i .i64 0 :: an 15 [], [.vec 27 1 (r.2.map (cF .f32)) false]⟩)
def Z6H (a_0 : (List Nat)) (k_1 : Int) (k_l0 : Int) (i_l1 : Int) (r0_l2 : (List Nat)) : St := ⟨.own 0 :: .i .i64 k_l0 :: .any :: .any :: .i .i64 0 :: .i .i64 i_l1 :: an 14 [], [.vec 27 1 (r0_l2.map (cF .f32)) false]⟩
theorem Z6I (a_0 : (List Nat)) (k_1 : Int) (hp0 : a_0.length ≤ 1073741824) : ∀ (k : Nat) (k_l0 : Int) (i_l1 : Int) (r0_l2 : (List Nat)) (Z46 : 0 ≤ i_l1) (Z47 : r0_l2.length = a_0.length) (hk : ((a_0.length : Int) - i_l1).toNat < k), Lp prog 1 (sub (bodyOf f41) [1, 0, 1, 0, 0]) (Z6H a_0 k_1 k_l0 i_l1 r0_l2) (Z3s a_0 k_1 (Z15 a_0 k_1 k k_l0 i_l1 r0_l2)).1 (Z3s a_0 k_1 (Z15 a_0 k_1 k k_l0 i_l1 r0_l2)).2 := by
 intro k
 induction k with
 | zero => intro k_l0 i_l1 r0_l2 Z46 Z47 hk; exact absurd hk (Nat.not_lt_zero _)
 | succ k ih =>
  intro k_l0 i_l1 r0_l2 Z46 Z47 hk
  have p {a C} (s : Scr a C) := sZ (cF .f32) r0_l2 <| s
  cases h_0 : (decide (i_l1 < (r0_l2.length : Int))) with
  | true =>
   have gh_0 := of_decide_eq_true h_0
   have y_0 : (0 : Int) ≤ i_l1 := by clear p; exact (by assumption)
   have y_1 : i_l1 < (r0_l2.length : Int) := by clear p; exact (by assumption)
   have y_2 : i_l1.toNat < r0_l2.length := by clear p; exact (by omega)
   have y_3 : (-9223372036854775808 : Int) ≤ (i_l1 + 1) := by clear p; exact (by omega)
   have y_4 : (i_l1 + 1) ≤ (9223372036854775807 : Int) := by clear p; exact (by omega)
   have e : Z15 a_0 k_1 (k + 1) k_l0 i_l1 r0_l2 = (Z15 a_0 k_1 k (IntKind.wrap .i64 (k_l0 + 1)) (i_l1 + 1) (r0_l2.set i_l1.toNat (ofInt .f32 k_l0))) := by simp only [Z15, h_0, cond_true]
   rw [e]
   exact nextS (EpOk 1) Z4 [] (mR false [0, 2, 2, 2, 14]) [] (⟨.own 0 :: .i .i64 (IntKind.wrap .i64 (k_l0 + 1)) :: .any :: .any :: .i .i64 0 :: .i .i64 (i_l1 + 1) :: an 14 [], [.vec 27 1 ((r0_l2.map (cF .f32)).set i_l1.toNat [.f .f32 (ofInt .f32 k_l0)]) false]⟩) (p (sB h_0 <| sX (cF .f32) r0_l2 i_l1 y_0 y_1 <| sC (maplt (c := (cF .f32)) (l := r0_l2) y_2) <| sW .i64 (k_l0 + 1) <| sI (i_l1 + 1) y_3 y_4 <| sN)) (by kernel_rfl) (show _ = ⟨.own 0 :: .i .i64 (IntKind.wrap .i64 (k_l0 + 1)) :: .any :: .any :: .i .i64 0 :: .i .i64 (i_l1 + 1) :: an 14 [], [.vec 27 1 ((r0_l2.set i_l1.toNat (ofInt .f32 k_l0)).map (cF .f32)) false]⟩ from (by simp [List.map_set, cF])) (ih (IntKind.wrap .i64 (k_l0 + 1)) (i_l1 + 1) (r0_l2.set i_l1.toNat (ofInt .f32 k_l0)) (show 0 ≤ (i_l1 + 1) from (by omega)) (show (r0_l2.set i_l1.toNat (ofInt .f32 k_l0)).length = a_0.length from (by simp_all <;> omega)) (by omega))
  | false =>
   have gh_0 := of_decide_eq_false h_0
   have e : Z15 a_0 k_1 (k + 1) k_l0 i_l1 r0_l2 = (k_l0, r0_l2) := by simp only [Z15, h_0, cond_false]
   rw [e]
   exact outR (e := (.exit 0)) (EpOk 1) Z4 [] (mR false [1, 1, 2, 1, 15]) [] (p (sB h_0 <| sN)) (by kernel_rfl) (by intro h; cases h)
def Z23 (a_0 : (List Nat)) (k_1 : Int) : Int × (List Nat) := (Z15 a_0 k_1 (((a_0.length : Int) - 0).toNat + 1) k_1 0 a_0)
def Z1a (a_0 : (List Nat)) (k_1 : Int) : Int × (List Nat) := ((Z23 a_0 k_1).1, (Z23 a_0 k_1).2)
theorem Z78 (a_0 : (List Nat)) (k_1 : Int) (hp0 : a_0.length ≤ 1073741824)  : CallSt prog 41 [.vec 27 1 (a_0.map (cF .f32)) false] [.own 0, .i .i64 k_1] (.i .i64 ((Z1a a_0 k_1).1)) [.vec 27 1 (((Z1a a_0 k_1).2).map (cF .f32)) false] := by
 refine callS (EpOk 1) Z4 (c := bodyOf f41) [.vec 27 1 (a_0.map (cF .f32)) false] [] (.i .i64 ((Z23 a_0 k_1).1)) [.vec 27 1 (((Z23 a_0 k_1).2).map (cF .f32)) false] func41 (sL (mR false [0, 2, 2, 2, 14]) 1 (lp_val (Z3s a_0 k_1) (x := (Z23 a_0 k_1)) (Z6I a_0 k_1 hp0 (((a_0.length : Int) - 0).toNat + 1) k_1 0 a_0 (show 0 ≤ 0 from (by omega)) (show a_0.length = a_0.length from (by simp)) (Nat.lt_succ_self _)) rfl) <| sK [] sN) rfl (by kernel_rfl) (by kernel_rfl) ?_ ?_
 · rfl
 · simp [Z1a]
def Z52 (_ : Nat) (c : Int) : Int × Nat := ((IntKind.wrap .i64 (c + 1)), ofInt .f32 c)
theorem Z9C (a : List Nat) (c : Int) : Z1a a c = mkL Z52 a c := by
  unfold Z1a Z23
  rw [mark_loop (f := Z52) (lo := Z15 a c) (fun k c i r => rfl) _ _ _ _ (Int.le_refl 0) (Nat.lt_succ_self _)]
  simp
theorem Z8T (a : List Nat) (c : Int) (g0 : a.length ≤ 1073741824) (h0 : 0 ≤ c) (h1 : c ≤ 4611686018427387904) : c ≤ (Z1a a c).1 ∧ (Z1a a c).1 ≤ c + 1073741824 := by
  rw [Z9C]
  have q := mkL_ge (f := Z52) (W := 1) a c (fun x _ c k0 k1 => by simp only [Z52]; rw [wrap_id (n := c + 1) (by omega) (by omega)]; omega) h0 (by omega)
  omega
def Zn (a_0 : GBody) (k_1 : Int) : Int × (List GVector) × (List (List Int)) × (List GSpring) × (List Nat) := ((Z1a a_0.Weights ((Zw a_0.Springs ((Zd a_0.Mesh k_1).1)).1)).1, (Zd a_0.Mesh k_1).2.1, (Zd a_0.Mesh k_1).2.2, (Zw a_0.Springs ((Zd a_0.Mesh k_1).1)).2, (Z1a a_0.Weights ((Zw a_0.Springs ((Zd a_0.Mesh k_1).1)).1)).2)
theorem Z68 (a_0 : GBody) (k_1 : Int) (hp0 : a_0.Mesh.Places.length ≤ 1073741824) (hp1 : a_0.Mesh.Triangles.length ≤ 1073741824) (hp2 : ∀ t ∈ a_0.Mesh.Triangles, t.length ≤ 1073741824) (hp3 : a_0.Springs.length ≤ 1073741824) (hp4 : a_0.Weights.length ≤ 1073741824)  : CallSt prog 17 [.vec 40 3 (a_0.Mesh.Places.map GVector.cells) false, .nest 49 (a_0.Mesh.Triangles.map fun l => l.map (cI .i64)) false, .vec 133 4 (a_0.Springs.map GSpring.cells) false, .vec 27 1 (a_0.Weights.map (cF .f32)) false] [.agg [.own 0, .own 1, .own 2, .f .f32 a_0.Film, .f .f32 a_0.Bend, .own 3, .f .f32 a_0.Fall.X, .f .f32 a_0.Fall.Y, .f .f32 a_0.Fall.Z], .i .i64 k_1] (.i .i64 ((Zn a_0 k_1).1)) [.vec 40 3 (((Zn a_0 k_1).2.1).map GVector.cells) false, .nest 49 (((Zn a_0 k_1).2.2.1).map fun l => l.map (cI .i64)) false, .vec 133 4 (((Zn a_0 k_1).2.2.2.1).map GSpring.cells) false, .vec 27 1 (((Zn a_0 k_1).2.2.2.2).map (cF .f32)) false] := by
 refine callS (EpOk 4) Z4 (c := bodyOf f17) [.vec 40 3 (a_0.Mesh.Places.map GVector.cells) false, .nest 49 (a_0.Mesh.Triangles.map fun l => l.map (cI .i64)) false, .vec 133 4 (a_0.Springs.map GSpring.cells) false, .vec 27 1 (a_0.Weights.map (cF .f32)) false] [] (.i .i64 ((Z1a a_0.Weights ((Zw a_0.Springs ((Zd a_0.Mesh k_1).1)).1)).1)) [.vec 40 3 (((Zd a_0.Mesh k_1).2.1).map GVector.cells) false, .nest 49 (((Zd a_0.Mesh k_1).2.2).map fun l => l.map (cI .i64)) false, .vec 133 4 (((Zw a_0.Springs ((Zd a_0.Mesh k_1).1)).2).map GSpring.cells) false, .vec 27 1 (((Z1a a_0.Weights ((Zw a_0.Springs ((Zd a_0.Mesh k_1).1)).1)).2).map (cF .f32)) false] func17 (sS (CallSt.frame (Z7m a_0.Mesh k_1 hp0 hp1 hp2) [0, 1] (R := [.vec 40 3 (a_0.Mesh.Places.map GVector.cells) false, .nest 49 (a_0.Mesh.Triangles.map fun l => l.map (cI .i64)) false, .vec 133 4 (a_0.Springs.map GSpring.cells) false, .vec 27 1 (a_0.Weights.map (cF .f32)) false, .box 42 [.own 0, .own 1, .own 2, .f .f32 a_0.Film, .f .f32 a_0.Bend, .own 3, .f .f32 a_0.Fall.X, .f .f32 a_0.Fall.Y, .f .f32 a_0.Fall.Z]]) (args' := [.agg [.own 0, .own 1], .i .i64 k_1]) rfl rfl rfl rfl rfl rfl) <| sS (CallSt.frame (Z7n a_0.Springs ((Zd a_0.Mesh k_1).1) hp3) [2] (R := [.vec 40 3 (((Zd a_0.Mesh k_1).2.1).map GVector.cells) false, .nest 49 (((Zd a_0.Mesh k_1).2.2).map fun l => l.map (cI .i64)) false, .vec 133 4 (a_0.Springs.map GSpring.cells) false, .vec 27 1 (a_0.Weights.map (cF .f32)) false, .box 42 [.own 0, .own 1, .own 2, .f .f32 a_0.Film, .f .f32 a_0.Bend, .own 3, .f .f32 a_0.Fall.X, .f .f32 a_0.Fall.Y, .f .f32 a_0.Fall.Z]]) (args' := [.own 2, .i .i64 ((Zd a_0.Mesh k_1).1)]) rfl rfl rfl rfl rfl rfl) <| sS (CallSt.frame (Z78 a_0.Weights ((Zw a_0.Springs ((Zd a_0.Mesh k_1).1)).1) hp4) [3] (R := [.vec 40 3 (((Zd a_0.Mesh k_1).2.1).map GVector.cells) false, .nest 49 (((Zd a_0.Mesh k_1).2.2).map fun l => l.map (cI .i64)) false, .vec 133 4 (((Zw a_0.Springs ((Zd a_0.Mesh k_1).1)).2).map GSpring.cells) false, .vec 27 1 (a_0.Weights.map (cF .f32)) false, .box 42 [.own 0, .own 1, .own 2, .f .f32 a_0.Film, .f .f32 a_0.Bend, .own 3, .f .f32 a_0.Fall.X, .f .f32 a_0.Fall.Y, .f .f32 a_0.Fall.Z]]) (args' := [.own 3, .i .i64 ((Zw a_0.Springs ((Zd a_0.Mesh k_1).1)).1)]) rfl rfl rfl rfl rfl rfl) <| sK [] sN) rfl (by kernel_rfl) (by kernel_rfl) ?_ ?_
 · rfl
 · simp [Zn]
theorem Z6V (a : GBody) (c : Int) (g0 : a.Mesh.Places.length ≤ 1073741824) (g1 : a.Mesh.Triangles.length ≤ 1073741824) (g2 : ∀ t ∈ a.Mesh.Triangles, t.length ≤ 1073741824) (g3 : a.Springs.length ≤ 1073741824) (g4 : a.Weights.length ≤ 1073741824) (h0 : 0 ≤ c) (h1 : c ≤ 2305843009213693952) : c ≤ (Zn a c).1 ∧ (Zn a c).1 ≤ c + 1152921513196781568 := by
  unfold Zn
  have p0 := Z8S a.Mesh c g0 g1 g2 (by omega) (by omega)
  have p1 := Z96 a.Springs ((Zd a.Mesh c).1) g3 (by omega) (by omega)
  have p2 := Z8T a.Weights ((Zw a.Springs ((Zd a.Mesh c).1)).1) g4 (by omega) (by omega)
  simp only
  omega
def ZC (a_0 : (List GVector)) (k_1 : Int) : Nat → Int → Int → (Unit) ⊕ (Int)
  | 0, _, _ => .inl default
  | k + 1, k_l0, i_l1 => (cond (decide (i_l1 < (a_0.length : Int)))
    (cond (fcmp .neq .f32 ((a_0.getD i_l1.toNat default).X) (ofInt .f32 k_l0))
      (.inl ())
      (cond (fcmp .neq .f32 ((a_0.getD i_l1.toNat default).Y) (ofInt .f32 (IntKind.wrap .i64 (k_l0 + 1))))
        (.inl ())
        (cond (fcmp .neq .f32 ((a_0.getD i_l1.toNat default).Z) (ofInt .f32 (IntKind.wrap .i64 ((IntKind.wrap .i64 (k_l0 + 1)) + 1))))
          (.inl ())
          (ZC a_0 k_1 k (IntKind.wrap .i64 ((IntKind.wrap .i64 ((IntKind.wrap .i64 (k_l0 + 1)) + 1)) + 1)) (i_l1 + 1)))))
    (.inr k_l0))
def Z3q (a_0 : (List GVector)) (k_1 : Int) : (Unit) ⊕ (Int) → Ex × St
  | .inl r => (.ret, ⟨an 4 (.i .i64 (-1) :: an 38 []), []⟩)
  | .inr r => ((.exit 0), ⟨.any :: .i .i64 r :: an 41 [], []⟩)
def Z7G (a_0 : (List GVector)) (k_1 : Int) (k_l0 : Int) (i_l1 : Int) : St := ⟨.sl (a_0.map GVector.cells) :: .i .i64 k_l0 :: .any :: .any :: .any :: .i .i64 i_l1 :: an 37 [], []⟩
theorem Z5H (a_0 : (List GVector)) (k_1 : Int) (hp0 : a_0.length ≤ 1073741824) : ∀ (k : Nat) (k_l0 : Int) (i_l1 : Int) (Z53 : 0 ≤ i_l1) (hk : ((a_0.length : Int) - i_l1).toNat < k), Lp prog 0 (sub (bodyOf f19) [1, 0, 1, 0, 0]) (Z7G a_0 k_1 k_l0 i_l1) (Z3q a_0 k_1 (ZC a_0 k_1 k k_l0 i_l1)).1 (Z3q a_0 k_1 (ZC a_0 k_1 k k_l0 i_l1)).2 := by
 intro k
 induction k with
 | zero => intro k_l0 i_l1 Z53 hk; exact absurd hk (Nat.not_lt_zero _)
 | succ k ih =>
  intro k_l0 i_l1 Z53 hk
  have p {a C} (s : Scr a C) := sZ GVector.cells a_0 <| s
  cases h_0 : (decide (i_l1 < (a_0.length : Int))) with
  | true =>
   have gh_0 := of_decide_eq_true h_0
   have y_0 : (0 : Int) ≤ i_l1 := by clear p; exact (by assumption)
   have y_1 : i_l1 < (a_0.length : Int) := by clear p; exact (by assumption)
   have q {a C} (s : Scr a C) := p (sB h_0 <| sG GVector.cells a_0 i_l1 y_0 y_1 <| s)
   clear p
   cases h_1 : (fcmp .neq .f32 ((a_0.getD i_l1.toNat default).X) (ofInt .f32 k_l0)) with
   | true =>
    have e : ZC a_0 k_1 (k + 1) k_l0 i_l1 = (.inl ()) := by simp only [ZC, h_0, h_1, cond_true]
    rw [e]
    exact outR (e := .ret) E0Ok Z4 [] (mR false [4, 1, 38]) [] (q (sB h_1 <| sN)) (by kernel_rfl) (by intro h; cases h)
   | false =>
    have p {a C} (s : Scr a C) := q (sB h_1 <| sW .i64 (k_l0 + 1) <| sG GVector.cells a_0 i_l1 y_0 y_1 <| s)
    clear q
    cases h_2 : (fcmp .neq .f32 ((a_0.getD i_l1.toNat default).Y) (ofInt .f32 (IntKind.wrap .i64 (k_l0 + 1)))) with
    | true =>
     have e : ZC a_0 k_1 (k + 1) k_l0 i_l1 = (.inl ()) := by simp only [ZC, h_0, h_1, h_2, cond_true, cond_false]
     rw [e]
     exact outR (e := .ret) E0Ok Z4 [] (mR false [4, 1, 38]) [] (p (sB h_2 <| sN)) (by kernel_rfl) (by intro h; cases h)
    | false =>
     have q {a C} (s : Scr a C) := p (sB h_2 <| sW .i64 ((IntKind.wrap .i64 (k_l0 + 1)) + 1) <| sG GVector.cells a_0 i_l1 y_0 y_1 <| s)
     clear p
     cases h_3 : (fcmp .neq .f32 ((a_0.getD i_l1.toNat default).Z) (ofInt .f32 (IntKind.wrap .i64 ((IntKind.wrap .i64 (k_l0 + 1)) + 1)))) with
     | true =>
      have e : ZC a_0 k_1 (k + 1) k_l0 i_l1 = (.inl ()) := by simp only [ZC, h_0, h_1, h_2, h_3, cond_true, cond_false]
      rw [e]
      exact outR (e := .ret) E0Ok Z4 [] (mR false [4, 1, 38]) [] (q (sB h_3 <| sN)) (by kernel_rfl) (by intro h; cases h)
     | false =>
      have y_2 : (-9223372036854775808 : Int) ≤ (i_l1 + 1) := by clear q; exact (by omega)
      have y_3 : (i_l1 + 1) ≤ (9223372036854775807 : Int) := by clear q; exact (by omega)
      have e : ZC a_0 k_1 (k + 1) k_l0 i_l1 = (ZC a_0 k_1 k (IntKind.wrap .i64 ((IntKind.wrap .i64 ((IntKind.wrap .i64 (k_l0 + 1)) + 1)) + 1)) (i_l1 + 1)) := by simp only [ZC, h_0, h_1, h_2, h_3, cond_true, cond_false]
      rw [e]
      exact nextR E0Ok Z4 [] (mR false [0, 2, 3, 1, 37]) [] (ih (IntKind.wrap .i64 ((IntKind.wrap .i64 ((IntKind.wrap .i64 (k_l0 + 1)) + 1)) + 1)) (i_l1 + 1) (show 0 ≤ (i_l1 + 1) from (by omega)) (by omega)) (q (sB h_3 <| sW .i64 ((IntKind.wrap .i64 ((IntKind.wrap .i64 (k_l0 + 1)) + 1)) + 1) <| sI (i_l1 + 1) y_2 y_3 <| sN)) (by kernel_rfl)
  | false =>
   have gh_0 := of_decide_eq_false h_0
   have e : ZC a_0 k_1 (k + 1) k_l0 i_l1 = (.inr k_l0) := by simp only [ZC, h_0, cond_false]
   rw [e]
   exact outR (e := (.exit 0)) E0Ok Z4 [] (mR false [1, 1, 41]) [] (p (sB h_0 <| sN)) (by kernel_rfl) (by intro h; cases h)
def Z2S (a_0 : (List GVector)) (k_1 : Int) : (Unit) ⊕ (Int) := (ZC a_0 k_1 (((a_0.length : Int) - 0).toNat + 1) k_1 0)
def Z22 (a_0 : (List GVector)) (k_1 : Int) : Int := (match (Z2S a_0 k_1) with
  | .inl r1 => (-1)
  | .inr r1 => r1)
theorem Z6B (a_0 : (List GVector)) (k_1 : Int) (hp0 : a_0.length ≤ 1073741824)  : Fn prog 19 [.sl (a_0.map GVector.cells), .i .i64 k_1] (.i .i64 (Z22 a_0 k_1)) [] := by
 cases h0 : (Z2S a_0 k_1) with
 | inl r1 =>
  refine fnS E0Ok Z4 (c := bodyOf f19) [] (.i .i64 (-1)) [] func19 (sL (mR false [0, 2, 3, 1, 37]) 0 (lp_val (Z3q a_0 k_1) (x := (Z2S a_0 k_1)) (Z5H a_0 k_1 hp0 (((a_0.length : Int) - 0).toNat + 1) k_1 0 (show 0 ≤ 0 from (by omega)) (Nat.lt_succ_self _)) h0) <| sK [] sN) rfl (by kernel_rfl) (by kernel_rfl) rfl ?_ ?_
  · simp only [Z22, h0]
  · rfl
 | inr r1 =>
  refine fnS E0Ok Z4 (c := bodyOf f19) [] (.i .i64 r1) [] func19 (sL (mR false [0, 2, 3, 1, 37]) 0 (lp_val (Z3q a_0 k_1) (x := (Z2S a_0 k_1)) (Z5H a_0 k_1 hp0 (((a_0.length : Int) - 0).toNat + 1) k_1 0 (show 0 ≤ 0 from (by omega)) (Nat.lt_succ_self _)) h0) <| sK [] sN) rfl (by kernel_rfl) (by kernel_rfl) rfl ?_ ?_
  · simp only [Z22, h0]
  · rfl
def Z6C (x : GVector) (c : Int) : Bool := (!(fcmp .neq .f32 x.X (ofInt .f32 c))) && (!(fcmp .neq .f32 x.Y (ofInt .f32 (IntKind.wrap .i64 (c + 1))))) && (!(fcmp .neq .f32 x.Z (ofInt .f32 (IntKind.wrap .i64 ((IntKind.wrap .i64 (c + 1)) + 1)))))
def Z7i (_ : GVector) (c : Int) : Int := (IntKind.wrap .i64 ((IntKind.wrap .i64 ((IntKind.wrap .i64 (c + 1)) + 1)) + 1))
theorem ZaV (a : List GVector) (c : Int) : Z22 a c = match hdL Z6C Z7i a c with
    | some c' => c'
    | none => -1 := by
  unfold Z22 Z2S
  rw [held_loop (p := Z6C) (q := Z7i) (a := a) (x := ()) (lo := ZC a c) (fun k c i => by
    rw [ZC]
    unfold Z6C Z7i
    generalize a.getD i.toNat default = x
    cases decide (i < (a.length : Int)) <;> cases fcmp .neq .f32 x.X (ofInt .f32 c) <;> cases fcmp .neq .f32 x.Y (ofInt .f32 (IntKind.wrap .i64 (c + 1))) <;> cases fcmp .neq .f32 x.Z (ofInt .f32 (IntKind.wrap .i64 ((IntKind.wrap .i64 (c + 1)) + 1))) <;> rfl) _ _ _ (Int.le_refl 0) (Nat.lt_succ_self _)]
  simp only [Int.toNat_zero, List.drop_zero]
  cases hdL Z6C Z7i a c <;> rfl
def Z1i (aB_0 : GBody) : Bool := (cond (decide ((Z1G aB_0 1048576) < 0))
  true
  (cond (Z2o ((Zh aB_0).1) ((ZH aB_0).1))
    (cond ((Zh aB_0).2 == (ZH aB_0).2)
      (cond (Z2t aB_0 aB_0)
        (cond (decide ((Zn aB_0 1).1 < 0))
          false
          (cond (decide ((Z22 ((Zb ((Zh aB_0).1) 1).2) 1) < 0))
            false
            (cond ((Z22 ((Zb ((Zh aB_0).1) 1).2) 1) != (Zb ((Zh aB_0).1) 1).1)
              false
              true)))
        false)
      false)
    false))
set_option maxHeartbeats 1000000 in
theorem Z7o (aB_0 : GBody) (hp0 : aB_0.Mesh.Places.length ≤ 9223372036854775807) (hp1 : aB_0.Mesh.Triangles.length ≤ 9223372036854775807) (hp2 : ∀ t ∈ aB_0.Mesh.Triangles, t.length ≤ 9223372036854775807) (hp3 : aB_0.Springs.length ≤ 9223372036854775807) (hp4 : aB_0.Weights.length ≤ 9223372036854775807)  : Fn prog 3 [.agg [.sl (aB_0.Mesh.Places.map GVector.cells), .sl (aB_0.Mesh.Triangles.map (cL (cI .i64))), .sl (aB_0.Springs.map GSpring.cells), .f .f32 aB_0.Film, .f .f32 aB_0.Bend, .sl (aB_0.Weights.map (cF .f32)), .f .f32 aB_0.Fall.X, .f .f32 aB_0.Fall.Y, .f .f32 aB_0.Fall.Z]] (.b (Z1i aB_0)) [] := by
 have z0 := (Z7p aB_0 1048576 (by omega) (by omega) (by assumption) (by omega) (by omega) (by omega) (by omega))
 have p {a C} (s : Scr a C) := sF (Zag aB_0 1048576 hp0 hp1 hp2 hp3 hp4) <| s
 cases h0 : (decide ((Z1G aB_0 1048576) < 0)) with
 | true =>
  have gh0 := of_decide_eq_true h0
  refine fnS E0Ok Z4 (c := bodyOf f3) [] (.b true) [] func3 (p (sB h0 <| sK [] sN)) rfl (by kernel_rfl) (by kernel_rfl) rfl ?_ ?_
  · simp only [Z1i, h0, cond_true]
  · rfl
 | false =>
  have gh0 := of_decide_eq_false h0
  have y0 : aB_0.Mesh.Places.length ≤ 1073741824 := by clear p; exact (by omega)
  have y1 : aB_0.Mesh.Triangles.length ≤ 1073741824 := by clear p; exact (by omega)
  have y2 : ∀ t ∈ aB_0.Mesh.Triangles, t.length ≤ 1073741824 := by clear p; exact (by intro t ht; (have q := z0.2.2.2.2.2.2 t ht; omega))
  have y3 : aB_0.Springs.length ≤ 1073741824 := by clear p; exact (by omega)
  have y4 : aB_0.Weights.length ≤ 1073741824 := by clear p; exact (by omega)
  have l1 := (Z7N aB_0)
  have l2 := (Z7Z aB_0)
  have y5 : ((Zh aB_0).1).length ≤ 1073741824 := by clear p; exact (by omega)
  have y6 : ((ZH aB_0).1).length ≤ 1073741824 := by clear p; exact (by omega)
  have q {a C} (s : Scr a C) := p (sB h0 <| sF (Z5c aB_0 y0 y1 y2 y3 y4) <| sF (Fn.castA (args' := [.agg [.sl (aB_0.Mesh.Places.map GVector.cells), .sl ((aB_0.Mesh.Triangles.map fun l => l.map (cI .i64)).map fun l => [.sl l]), .sl (aB_0.Springs.map GSpring.cells), .f .f32 aB_0.Film, .f .f32 aB_0.Bend, .sl (aB_0.Weights.map (cF .f32)), .f .f32 aB_0.Fall.X, .f .f32 aB_0.Fall.Y, .f .f32 aB_0.Fall.Z]]) (Z9P aB_0 y0 y1 y2 y3 y4) (by simp [cL, Function.comp_def]; done)) <| sF (Z5c aB_0 y0 y1 y2 y3 y4) <| sF (Fn.castA (args' := [.agg [.sl (aB_0.Mesh.Places.map GVector.cells), .sl ((aB_0.Mesh.Triangles.map fun l => l.map (cI .i64)).map fun l => [.sl l]), .sl (aB_0.Springs.map GSpring.cells), .f .f32 aB_0.Film, .f .f32 aB_0.Bend, .sl (aB_0.Weights.map (cF .f32)), .f .f32 aB_0.Fall.X, .f .f32 aB_0.Fall.Y, .f .f32 aB_0.Fall.Z]]) (Z7e aB_0 y0 y1 y2 y3 y4) (by simp [cL, Function.comp_def]; done)) <| sF (Z4p ((Zh aB_0).1) ((ZH aB_0).1) y5 y6) <| s)
  clear p
  cases h1 : (Z2o ((Zh aB_0).1) ((ZH aB_0).1)) with
  | true =>
   have p {a C} (s : Scr a C) := q (sB' h1 <| sB' h1 <| sB' h1 <| sB' h1 <| s)
   clear q
   cases h2 : ((Zh aB_0).2 == (ZH aB_0).2) with
   | true =>
    have gh2 := eq_of_beq h2
    have q {a C} (s : Scr a C) := p (sB' h2 <| sK [3, 3] <| sF (Z5c aB_0 y0 y1 y2 y3 y4) <| sF (Fn.castA (args' := [.agg [.sl (aB_0.Mesh.Places.map GVector.cells), .sl ((aB_0.Mesh.Triangles.map fun l => l.map (cI .i64)).map fun l => [.sl l]), .sl (aB_0.Springs.map GSpring.cells), .f .f32 aB_0.Film, .f .f32 aB_0.Bend, .sl (aB_0.Weights.map (cF .f32)), .f .f32 aB_0.Fall.X, .f .f32 aB_0.Fall.Y, .f .f32 aB_0.Fall.Z], .agg [.sl (aB_0.Mesh.Places.map GVector.cells), .sl ((aB_0.Mesh.Triangles.map fun l => l.map (cI .i64)).map fun l => [.sl l]), .sl (aB_0.Springs.map GSpring.cells), .f .f32 aB_0.Film, .f .f32 aB_0.Bend, .sl (aB_0.Weights.map (cF .f32)), .f .f32 aB_0.Fall.X, .f .f32 aB_0.Fall.Y, .f .f32 aB_0.Fall.Z]]) (Zaz aB_0 aB_0 y0 y1 y2 y3 y4 y0 y1 y2 y3 y4) (by simp [cL, Function.comp_def]; done)) <| s)
    clear p
    cases h3 : (Z2t aB_0 aB_0) with
    | true =>
     have p {a C} (s : Scr a C) := q (sB' h3 <| sS (CallSt.frame (Z68 aB_0 1 y0 y1 y2 y3 y4) [6, 7, 8, 9] (R := [.box 32 [.sl (aB_0.Mesh.Places.map GVector.cells), .sl (aB_0.Mesh.Triangles.map (cL (cI .i64))), .sl (aB_0.Springs.map GSpring.cells), .f .f32 aB_0.Film, .f .f32 aB_0.Bend, .sl (aB_0.Weights.map (cF .f32)), .f .f32 aB_0.Fall.X, .f .f32 aB_0.Fall.Y, .f .f32 aB_0.Fall.Z], .vec 40 3 (aB_0.Mesh.Places.map GVector.cells) false, .nest 49 (aB_0.Mesh.Triangles.map fun l => l.map (cI .i64)) false, .vec 133 4 (aB_0.Springs.map GSpring.cells) false, .vec 27 1 (aB_0.Weights.map (cF .f32)) false, .vec 40 3 (((ZH aB_0).1).map GVector.cells) false, .vec 40 3 (aB_0.Mesh.Places.map GVector.cells) false, .nest 49 (aB_0.Mesh.Triangles.map fun l => l.map (cI .i64)) false, .vec 133 4 (aB_0.Springs.map GSpring.cells) false, .vec 27 1 (aB_0.Weights.map (cF .f32)) false, .box 42 [.own 6, .own 7, .own 8, .f .f32 aB_0.Film, .f .f32 aB_0.Bend, .own 9, .f .f32 aB_0.Fall.X, .f .f32 aB_0.Fall.Y, .f .f32 aB_0.Fall.Z], .vec 40 3 (((Zh aB_0).1).map GVector.cells) false, .vec 40 3 (aB_0.Mesh.Places.map GVector.cells) false, .nest 49 (aB_0.Mesh.Triangles.map fun l => l.map (cI .i64)) false, .vec 133 4 (aB_0.Springs.map GSpring.cells) false, .vec 27 1 (aB_0.Weights.map (cF .f32)) false]) (args' := [.agg [.own 6, .own 7, .own 8, .f .f32 aB_0.Film, .f .f32 aB_0.Bend, .own 9, .f .f32 aB_0.Fall.X, .f .f32 aB_0.Fall.Y, .f .f32 aB_0.Fall.Z], .i .i64 1]) rfl rfl rfl rfl rfl rfl) <| s)
     clear q
     cases h4 : (decide ((Zn aB_0 1).1 < 0)) with
     | true =>
      have gh4 := of_decide_eq_true h4
      refine fnS E0Ok Z4 (c := bodyOf f3) [] (.b false) [] func3 (p (sB h4 <| sB h4 <| sB h4 <| sB h4 <| sB h4 <| sB (show true = true from rfl) <| sB (show true = true from rfl) <| sB (show true = true from rfl) <| sB (show true = true from rfl) <| sB (show true = true from rfl) <| sK [] sN)) rfl (by kernel_rfl) (by kernel_rfl) rfl ?_ ?_
      · simp only [Z1i, h0, h1, h2, h3, h4, cond_true, cond_false]
      · rfl
     | false =>
      have gh4 := of_decide_eq_false h4
      have y7 : ((Zb ((Zh aB_0).1) 1).2).length ≤ 1073741824 := by clear p; exact (by simp_all <;> omega)
      have q {a C} (s : Scr a C) := p (sB h4 <| sB h4 <| sB h4 <| sF (Z4p ((Zh aB_0).1) ((ZH aB_0).1) y5 y6) <| sB h4 <| sB h4 <| sB' h1 <| sB' h1 <| sB' h1 <| sB' h1 <| sB' h2 <| sS (CallSt.frame (Z5b ((Zh aB_0).1) 1 y5) [11] (R := [.box 32 [.sl (aB_0.Mesh.Places.map GVector.cells), .sl (aB_0.Mesh.Triangles.map (cL (cI .i64))), .sl (aB_0.Springs.map GSpring.cells), .f .f32 aB_0.Film, .f .f32 aB_0.Bend, .sl (aB_0.Weights.map (cF .f32)), .f .f32 aB_0.Fall.X, .f .f32 aB_0.Fall.Y, .f .f32 aB_0.Fall.Z], .vec 40 3 (aB_0.Mesh.Places.map GVector.cells) false, .nest 49 (aB_0.Mesh.Triangles.map fun l => l.map (cI .i64)) false, .vec 133 4 (aB_0.Springs.map GSpring.cells) false, .vec 27 1 (aB_0.Weights.map (cF .f32)) false, .vec 40 3 (((ZH aB_0).1).map GVector.cells) false, .vec 40 3 (((Zn aB_0 1).2.1).map GVector.cells) false, .nest 49 (((Zn aB_0 1).2.2.1).map fun l => l.map (cI .i64)) false, .vec 133 4 (((Zn aB_0 1).2.2.2.1).map GSpring.cells) false, .vec 27 1 (((Zn aB_0 1).2.2.2.2).map (cF .f32)) false, .box 42 [.own 6, .own 7, .own 8, .f .f32 aB_0.Film, .f .f32 aB_0.Bend, .own 9, .f .f32 aB_0.Fall.X, .f .f32 aB_0.Fall.Y, .f .f32 aB_0.Fall.Z], .vec 40 3 (((Zh aB_0).1).map GVector.cells) false, .vec 40 3 (aB_0.Mesh.Places.map GVector.cells) false, .nest 49 (aB_0.Mesh.Triangles.map fun l => l.map (cI .i64)) false, .vec 133 4 (aB_0.Springs.map GSpring.cells) false, .vec 27 1 (aB_0.Weights.map (cF .f32)) false]) (args' := [.own 11, .i .i64 1]) rfl rfl rfl rfl rfl rfl) <| sF (Z6B ((Zb ((Zh aB_0).1) 1).2) 1 y7) <| s)
      clear p
      cases h5 : (decide ((Z22 ((Zb ((Zh aB_0).1) 1).2) 1) < 0)) with
      | true =>
       have gh5 := of_decide_eq_true h5
       refine fnS E0Ok Z4 (c := bodyOf f3) [] (.b false) [] func3 (q (sB h5 <| sK [] sN)) rfl (by kernel_rfl) (by kernel_rfl) rfl ?_ ?_
       · simp only [Z1i, h0, h1, h2, h3, h4, h5, cond_true, cond_false]
       · rfl
      | false =>
       have gh5 := of_decide_eq_false h5
       have p {a C} (s : Scr a C) := q (sB h5 <| s)
       clear q
       cases h6 : ((Z22 ((Zb ((Zh aB_0).1) 1).2) 1) != (Zb ((Zh aB_0).1) 1).1) with
       | true =>
        have gh6 := bne_iff_ne.1 h6
        refine fnS E0Ok Z4 (c := bodyOf f3) [] (.b false) [] func3 (p (sB h6 <| sK [] sN)) rfl (by kernel_rfl) (by kernel_rfl) rfl ?_ ?_
        · simp only [Z1i, h0, h1, h2, h3, h4, h5, h6, cond_true, cond_false]
        · rfl
       | false =>
        have gh6 := bne_eq_false_iff_eq.1 h6
        refine fnS E0Ok Z4 (c := bodyOf f3) [] (.b true) [] func3 (p (sB h6 <| sF (Z5c aB_0 y0 y1 y2 y3 y4) <| sF (Fn.castA (args' := [.agg [.sl (aB_0.Mesh.Places.map GVector.cells), .sl ((aB_0.Mesh.Triangles.map fun l => l.map (cI .i64)).map fun l => [.sl l]), .sl (aB_0.Springs.map GSpring.cells), .f .f32 aB_0.Film, .f .f32 aB_0.Bend, .sl (aB_0.Weights.map (cF .f32)), .f .f32 aB_0.Fall.X, .f .f32 aB_0.Fall.Y, .f .f32 aB_0.Fall.Z]]) (Z7e aB_0 y0 y1 y2 y3 y4) (by simp [cL, Function.comp_def]; done)) <| sF (Z4p ((Zh aB_0).1) ((ZH aB_0).1) y5 y6) <| sB' h1 <| sB' h1 <| sB' h1 <| sB' h1 <| sB' h2 <| sF (Z6B ((Zb ((Zh aB_0).1) 1).2) 1 y7) <| sB h5 <| sB h6 <| sK [] sN)) rfl (by kernel_rfl) (by kernel_rfl) rfl ?_ ?_
        · simp only [Z1i, h0, h1, h2, h3, h4, h5, h6, cond_true, cond_false]
        · rfl
    | false =>
     refine fnS E0Ok Z4 (c := bodyOf f3) [] (.b false) [] func3 (q (sB' h3 <| sK [] sN)) rfl (by kernel_rfl) (by kernel_rfl) rfl ?_ ?_
     · simp only [Z1i, h0, h1, h2, h3, cond_true, cond_false]
     · rfl
   | false =>
    have gh2 := ne_of_beq_false h2
    refine fnS E0Ok Z4 (c := bodyOf f3) [] (.b false) [] func3 (p (sB' h2 <| sK [] sN)) rfl (by kernel_rfl) (by kernel_rfl) rfl ?_ ?_
    · simp only [Z1i, h0, h1, h2, cond_true, cond_false]
    · rfl
  | false =>
   refine fnS E0Ok Z4 (c := bodyOf f3) [] (.b false) [] func3 (q (sB' h1 <| sB' h1 <| sB' h1 <| sB' h1 <| sB (show true = true from rfl) <| sK [] sN)) rfl (by kernel_rfl) (by kernel_rfl) rfl ?_ ?_
   · simp only [Z1i, h0, h1, cond_false]
   · rfl
theorem Z9X (a : List GVector) (c : Int) : Z22 (Zb a c).2 c = (Zb a c).1 := by
  rw [ZaV, Z7h, hdL_mkL (fun x c => by simp [Z6C, Z4s, ofInt_self]) (fun x c => rfl)]
theorem Z6W (a : GBody) (h0_0 : a.Mesh.Places.length ≤ 9223372036854775807) (h0_1 : a.Mesh.Triangles.length ≤ 9223372036854775807) (h0_2 : ∀ t ∈ a.Mesh.Triangles, t.length ≤ 9223372036854775807) (h0_3 : a.Springs.length ≤ 9223372036854775807) (h0_4 : a.Weights.length ≤ 9223372036854775807) : Z1i a = true := by
  unfold Z1i
  have z0 := Z7p a 1048576 h0_0 h0_1 h0_2 h0_3 h0_4 (by omega) (by omega)
  cases hc0 : decide (Z1G a 1048576 < 0) with
  | true => rfl
  | false =>
    simp only [decide_eq_false_iff_not] at hc0
    have hm0 := Z6V a 1 (by omega) (by omega) (fun t ht => by have q := z0.2.2.2.2.2.2 t ht; omega) (by omega) (by omega) (by omega) (by omega)
    have l0 := Z9x a
    have v0 := Z6L (Zh a).1 1 (by omega) (by omega) (by omega)
    simp only [Z98] at *
    simp only [ZaU, Z7E, Z9X, beq_self_eq_true, Bool.not_true, cond_true, cond_false, bne_self_eq_false]
    rw [decide_eq_false (by omega)]
    rw [decide_eq_false (by omega)]
    rfl
end Go.Ab
