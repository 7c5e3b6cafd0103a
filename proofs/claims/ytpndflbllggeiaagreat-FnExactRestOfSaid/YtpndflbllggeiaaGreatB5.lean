/- The functions of this seat as plain Lean, and that the program's are these. Printed by a program of the prover's own. -/
import Derived.Test.YtpndflbllggeiaaGreatB4
set_option linter.unusedVariables false
set_option linter.unusedSimpArgs false
set_option maxRecDepth 100000
namespace Go.Ab
open Go.RowKit Go.Proofs.Tryz
def Z2Y (m_0 : GMesh) : (Unit) ⊕ (Unit) := (Zl m_0 (((m_0.Triangles.length : Int) - 0).toNat + 1) 0)
def Z19 (m_0 : GMesh) : Bool := (cond (decide ((m_0.Places.length : Int) > 64))
  false
  (cond (decide ((m_0.Triangles.length : Int) > 128))
    false
    (match (Z2Y m_0) with
      | .inl r3 => false
      | .inr r3 => true)))
theorem Z92 (m_0 : GMesh) (hp0 : m_0.Places.length ≤ 1073741824) (hp1 : m_0.Triangles.length ≤ 1073741824) (hp2 : ∀ t ∈ m_0.Triangles, t.length ≤ 1073741824)  : Fn prog 105 [.agg [.sl (m_0.Places.map GVector.cells), .sl (m_0.Triangles.map (cL (cI .i64)))]] (.b (Z19 m_0)) [] := by
 have p {a C} (s : Scr a C) := sZ GVector.cells m_0.Places <| s
 cases h0 : (decide ((m_0.Places.length : Int) > 64)) with
 | true =>
  have gh0 := of_decide_eq_true h0
  refine fnS E0Ok Z3 (c := bodyOf f105) [] (.b false) [] func105 (p (sB h0 <| sB h0 <| sB h0 <| sB h0 <| sB h0 <| sB (show true = true from rfl) <| sK [] sN)) rfl (by kernel_rfl) (by kernel_rfl) rfl ?_ ?_
  · simp only [Z19, h0, cond_true]
  · rfl
 | false =>
  have gh0 := of_decide_eq_false h0
  have q {a C} (s : Scr a C) := p (sB h0 <| sB h0 <| sB h0 <| sZ (cL (cI .i64)) m_0.Triangles <| sB h0 <| sB h0 <| s)
  clear p
  cases h1 : (decide ((m_0.Triangles.length : Int) > 128)) with
  | true =>
   have gh1 := of_decide_eq_true h1
   refine fnS E0Ok Z3 (c := bodyOf f105) [] (.b false) [] func105 (q (sB h1 <| sK [] sN)) rfl (by kernel_rfl) (by kernel_rfl) rfl ?_ ?_
   · simp only [Z19, h0, h1, cond_true, cond_false]
   · rfl
  | false =>
   have gh1 := of_decide_eq_false h1
   have p {a C} (s : Scr a C) := q (sB h1 <| sZ (cL (cI .i64)) m_0.Triangles <| s)
   clear q
   cases h2 : (Z2Y m_0) with
   | inl r3 =>
    refine fnS E0Ok Z3 (c := bodyOf f105) [] (.b false) [] func105 (p (sL (mR false [0, 2, 1, 1, 4, 15, 46]) 1 (lp_val (Z3J m_0) (x := (Z2Y m_0)) (Z68 m_0 hp0 hp1 hp2 h0 h1 (((m_0.Triangles.length : Int) - 0).toNat + 1) 0 (show 0 ≤ 0 from (by omega)) (Nat.lt_succ_self _)) h2) <| sK [] sN)) rfl (by kernel_rfl) (by kernel_rfl) rfl ?_ ?_
    · simp only [Z19, h0, h1, h2, cond_false]
    · rfl
   | inr r3 =>
    refine fnS E0Ok Z3 (c := bodyOf f105) [] (.b true) [] func105 (p (sL (mR false [0, 2, 1, 1, 4, 15, 46]) 1 (lp_val (Z3J m_0) (x := (Z2Y m_0)) (Z68 m_0 hp0 hp1 hp2 h0 h1 (((m_0.Triangles.length : Int) - 0).toNat + 1) 0 (show 0 ≤ 0 from (by omega)) (Nat.lt_succ_self _)) h2) <| sK [] sN)) rfl (by kernel_rfl) (by kernel_rfl) rfl ?_ ?_
    · simp only [Z19, h0, h1, h2, cond_false]
    · rfl
theorem triB (t : List Int) (n : Int) : (!((t.length : Int) != 3) && (!(t.getD 0 default == t.getD 1 default) && (!(t.getD 1 default == t.getD 2 default) && (!(t.getD 0 default == t.getD 2 default) && t.all fun x => ZU x 0 (IntKind.wrap .i64 (n - 1)))))) = Zs t n := by
  unfold Zs
  cases hl : ((t.length : Int) != 3) with
  | true => rfl
  | false =>
    have hl3 : t.length = 3 := by simp at hl; omega
    match t, hl3 with
    | [a, b, c], _ =>
      simp only [List.getD_cons_zero, List.getD_cons_succ, List.all_cons, List.all_nil, Bool.and_true]
      rw [show ZU = Zr from rfl]
      cases (a == b) <;> cases (b == c) <;> cases (a == c) <;> cases Zr a 0 (IntKind.wrap .i64 (n - 1)) <;> cases Zr b 0 (IntKind.wrap .i64 (n - 1)) <;> cases Zr c 0 (IntKind.wrap .i64 (n - 1)) <;> rfl
theorem Zai (m : GMesh) (k : Nat) (i : Int) : Zl m (k + 1) i = cond (decide (i < (m.Triangles.length : Int))) (cond (Zs (m.Triangles.getD i.toNat default) (m.Places.length : Int)) (Zl m k (i + 1)) (.inl ())) (.inr ()) := by
  rw [Zl, ← triB]
  have hin : Z2B m i = cond ((m.Triangles.getD i.toNat default).all fun x => ZU x 0 (IntKind.wrap .i64 ((m.Places.length : Int) - 1))) (.inr ()) (.inl ()) := by
    unfold Z2B
    exact all_from (a := m.Triangles.getD i.toNat default) (p := fun x => ZU x 0 (IntKind.wrap .i64 ((m.Places.length : Int) - 1))) (lo := Z1m m i) (x := ()) (y := ()) (fun k i => rfl)
  rw [hin]
  generalize m.Triangles.getD i.toNat default = t
  generalize (t.all fun x => ZU x 0 (IntKind.wrap .i64 ((m.Places.length : Int) - 1))) = q
  cases ((t.length : Int) != 3) <;> cases (t.getD 0 default == t.getD 1 default) <;> cases (t.getD 1 default == t.getD 2 default) <;> cases (t.getD 0 default == t.getD 2 default) <;> cases q <;> rfl
theorem Zaj (m : GMesh) : Z19 m = ZT m := by
  rw [Z6f]
  unfold Z19 Z2Y
  rw [all_from (a := m.Triangles) (p := fun t => Zs t (m.Places.length : Int)) (lo := Zl m) (x := ()) (y := ()) (Zai m)]
  cases (m.Triangles.all fun t => Zs t (m.Places.length : Int)) <;> rfl
def Zp (b_0 : GBody) : Nat → Int → (Unit) ⊕ (Unit)
  | 0, _ => .inl default
  | k + 1, x_l0 => (cond (decide (x_l0 < (b_0.Springs.length : Int)))
    (cond (ZU ((b_0.Springs.getD x_l0.toNat default).A) 0 (IntKind.wrap .i64 ((b_0.Mesh.Places.length : Int) - 1)))
      (cond (ZU ((b_0.Springs.getD x_l0.toNat default).B) 0 (IntKind.wrap .i64 ((b_0.Mesh.Places.length : Int) - 1)))
        (cond ((b_0.Springs.getD x_l0.toNat default).A == (b_0.Springs.getD x_l0.toNat default).B)
          (.inl ())
          (cond (fcmp .geq .f32 ((b_0.Springs.getD x_l0.toNat default).Long) 0)
            (Zp b_0 k (x_l0 + 1))
            (.inl ())))
        (.inl ()))
      (.inl ()))
    (.inr ()))
def Z3K (b_0 : GBody) : (Unit) ⊕ (Unit) → Ex × St
  | .inl r => (.ret, ⟨.any :: .any :: .b false :: an 59 [], []⟩)
  | .inr r => ((.exit 0), ⟨.agg [.sl (b_0.Mesh.Places.map GVector.cells), .sl (b_0.Mesh.Triangles.map (cL (cI .i64))), .sl (b_0.Springs.map GSpring.cells), .f .f32 b_0.Film, .f .f32 b_0.Bend, .sl (b_0.Weights.map (cF .f32)), .f .f32 b_0.Fall.X, .f .f32 b_0.Fall.Y, .f .f32 b_0.Fall.Z] :: .ptr 0 0 0 :: .any :: .i .i64 (b_0.Mesh.Places.length : Int) :: .any :: .any :: .ptr 0 0 0 :: .ptr 0 0 0 :: .sl (b_0.Mesh.Places.map GVector.cells) :: .i .i64 (b_0.Mesh.Places.length : Int) :: .ptr 0 0 0 :: .agg [.sl (b_0.Mesh.Places.map GVector.cells), .sl (b_0.Mesh.Triangles.map (cL (cI .i64)))] :: .b (Z19 b_0.Mesh) :: .b (!(Z19 b_0.Mesh)) :: .b (!(Z19 b_0.Mesh)) :: .ptr 0 0 2 :: .sl (b_0.Springs.map GSpring.cells) :: .i .i64 (b_0.Springs.length : Int) :: .b (decide ((b_0.Springs.length : Int) > 200)) :: .b (decide ((b_0.Springs.length : Int) > 200)) :: .b (decide ((b_0.Springs.length : Int) > 200)) :: .ptr 0 0 5 :: .sl (b_0.Weights.map (cF .f32)) :: .i .i64 (b_0.Weights.length : Int) :: .i .i64 (b_0.Mesh.Places.length : Int) :: .b ((b_0.Weights.length : Int) != (b_0.Mesh.Places.length : Int)) :: .b ((b_0.Weights.length : Int) != (b_0.Mesh.Places.length : Int)) :: .ptr 0 0 2 :: .sl (b_0.Springs.map GSpring.cells) :: an 33 [], [.box 42 [.sl (b_0.Mesh.Places.map GVector.cells), .sl (b_0.Mesh.Triangles.map (cL (cI .i64))), .sl (b_0.Springs.map GSpring.cells), .f .f32 b_0.Film, .f .f32 b_0.Bend, .sl (b_0.Weights.map (cF .f32)), .f .f32 b_0.Fall.X, .f .f32 b_0.Fall.Y, .f .f32 b_0.Fall.Z]]⟩)
def Z7T (b_0 : GBody) (x_l0 : Int) : St := ⟨.agg [.sl (b_0.Mesh.Places.map GVector.cells), .sl (b_0.Mesh.Triangles.map (cL (cI .i64))), .sl (b_0.Springs.map GSpring.cells), .f .f32 b_0.Film, .f .f32 b_0.Bend, .sl (b_0.Weights.map (cF .f32)), .f .f32 b_0.Fall.X, .f .f32 b_0.Fall.Y, .f .f32 b_0.Fall.Z] :: .ptr 0 0 0 :: .any :: .i .i64 (b_0.Mesh.Places.length : Int) :: .any :: .any :: .ptr 0 0 0 :: .ptr 0 0 0 :: .sl (b_0.Mesh.Places.map GVector.cells) :: .i .i64 (b_0.Mesh.Places.length : Int) :: .ptr 0 0 0 :: .agg [.sl (b_0.Mesh.Places.map GVector.cells), .sl (b_0.Mesh.Triangles.map (cL (cI .i64)))] :: .b (Z19 b_0.Mesh) :: .b (!(Z19 b_0.Mesh)) :: .b (!(Z19 b_0.Mesh)) :: .ptr 0 0 2 :: .sl (b_0.Springs.map GSpring.cells) :: .i .i64 (b_0.Springs.length : Int) :: .b (decide ((b_0.Springs.length : Int) > 200)) :: .b (decide ((b_0.Springs.length : Int) > 200)) :: .b (decide ((b_0.Springs.length : Int) > 200)) :: .ptr 0 0 5 :: .sl (b_0.Weights.map (cF .f32)) :: .i .i64 (b_0.Weights.length : Int) :: .i .i64 (b_0.Mesh.Places.length : Int) :: .b ((b_0.Weights.length : Int) != (b_0.Mesh.Places.length : Int)) :: .b ((b_0.Weights.length : Int) != (b_0.Mesh.Places.length : Int)) :: .ptr 0 0 2 :: .sl (b_0.Springs.map GSpring.cells) :: .i .i64 (b_0.Springs.length : Int) :: .i .i64 x_l0 :: an 31 [], [.box 42 [.sl (b_0.Mesh.Places.map GVector.cells), .sl (b_0.Mesh.Triangles.map (cL (cI .i64))), .sl (b_0.Springs.map GSpring.cells), .f .f32 b_0.Film, .f .f32 b_0.Bend, .sl (b_0.Weights.map (cF .f32)), .f .f32 b_0.Fall.X, .f .f32 b_0.Fall.Y, .f .f32 b_0.Fall.Z]]⟩
theorem Z69 (b_0 : GBody) (hp0 : b_0.Mesh.Places.length ≤ 1073741824) (hp1 : b_0.Mesh.Triangles.length ≤ 1073741824) (hp2 : ∀ t ∈ b_0.Mesh.Triangles, t.length ≤ 1073741824) (hp3 : b_0.Springs.length ≤ 1073741824) (hp4 : b_0.Weights.length ≤ 1073741824) (ZaI : ((b_0.Weights.length : Int) != (b_0.Mesh.Places.length : Int)) = false) (ZaJ : (decide ((b_0.Springs.length : Int) > 200)) = false) (ZaK : (Z19 b_0.Mesh) = true) : ∀ (k : Nat) (x_l0 : Int) (Z5p : 0 ≤ x_l0) (hk : ((b_0.Springs.length : Int) - x_l0).toNat < k), Lp prog 0 (sub (bodyOf f56) [1, 1, 1, 0, 1, 0, 0]) (Z7T b_0 x_l0) (Z3K b_0 (Zp b_0 k x_l0)).1 (Z3K b_0 (Zp b_0 k x_l0)).2 := by
 intro k
 induction k with
 | zero => intro x_l0 Z5p hk; exact absurd hk (Nat.not_lt_zero _)
 | succ k ih =>
  intro x_l0 Z5p hk
  cases h_0 : (decide (x_l0 < (b_0.Springs.length : Int))) with
  | true =>
   have gh_0 := of_decide_eq_true h_0
   have y_0 : (0 : Int) ≤ x_l0 := (by assumption)
   have y_1 : x_l0 < (b_0.Springs.length : Int) := (by assumption)
   have p {a C} (s : Scr a C) := sB h_0 <| sG GSpring.cells b_0.Springs x_l0 y_0 y_1 <| sW .i64 ((b_0.Mesh.Places.length : Int) - 1) <| sF (Z50 ((b_0.Springs.getD x_l0.toNat default).A) 0 (IntKind.wrap .i64 ((b_0.Mesh.Places.length : Int) - 1))) <| s
   cases h_1 : (ZU ((b_0.Springs.getD x_l0.toNat default).A) 0 (IntKind.wrap .i64 ((b_0.Mesh.Places.length : Int) - 1))) with
   | true =>
    have q {a C} (s : Scr a C) := p (sB' h_1 <| sB' h_1 <| sB' h_1 <| sB' h_1 <| sW .i64 ((b_0.Mesh.Places.length : Int) - 1) <| sB' h_1 <| sF (Z50 ((b_0.Springs.getD x_l0.toNat default).B) 0 (IntKind.wrap .i64 ((b_0.Mesh.Places.length : Int) - 1))) <| sB' h_1 <| sB' h_1 <| s)
    clear p
    cases h_2 : (ZU ((b_0.Springs.getD x_l0.toNat default).B) 0 (IntKind.wrap .i64 ((b_0.Mesh.Places.length : Int) - 1))) with
    | true =>
     have p {a C} (s : Scr a C) := q (sB' h_2 <| sB' h_2 <| sB' h_2 <| sB' h_2 <| sB' h_2 <| sB' h_2 <| s)
     clear q
     cases h_3 : ((b_0.Springs.getD x_l0.toNat default).A == (b_0.Springs.getD x_l0.toNat default).B) with
     | true =>
      have gh_3 := eq_of_beq h_3
      have e : Zp b_0 (k + 1) x_l0 = (.inl ()) := by simp only [Zp, h_0, h_1, h_2, h_3, cond_true]
      rw [e]
      exact outR (e := .ret) E0Ok Z3 [] (mR false [2, 1, 59]) [] (p (sB h_3 <| sB h_3 <| sB h_3 <| sB h_3 <| sB h_3 <| sB (show true = true from rfl) <| sN)) (by kernel_rfl) (by intro h; cases h)
     | false =>
      have gh_3 := ne_of_beq_false h_3
      have q {a C} (s : Scr a C) := p (sB h_3 <| sB h_3 <| sB h_3 <| sB h_3 <| sB h_3 <| s)
      clear p
      cases h_4 : (fcmp .geq .f32 ((b_0.Springs.getD x_l0.toNat default).Long) 0) with
      | true =>
       have y_2 : (-9223372036854775808 : Int) ≤ (x_l0 + 1) := by clear q; exact (by omega)
       have y_3 : (x_l0 + 1) ≤ (9223372036854775807 : Int) := by clear q; exact (by omega)
       have e : Zp b_0 (k + 1) x_l0 = (Zp b_0 k (x_l0 + 1)) := by simp only [Zp, h_0, h_1, h_2, h_3, h_4, cond_true, cond_false]
       rw [e]
       exact nextR E0Ok Z3 [] (mR false [0, 2, 1, 1, 2, 25, 31]) [0] (ih (x_l0 + 1) (show 0 ≤ (x_l0 + 1) from (by omega)) (by omega)) (q (sB' h_4 <| sI (x_l0 + 1) y_2 y_3 <| sN)) (by kernel_rfl)
      | false =>
       have e : Zp b_0 (k + 1) x_l0 = (.inl ()) := by simp only [Zp, h_0, h_1, h_2, h_3, h_4, cond_true, cond_false]
       rw [e]
       exact outR (e := .ret) E0Ok Z3 [] (mR false [2, 1, 59]) [] (q (sB' h_4 <| sN)) (by kernel_rfl) (by intro h; cases h)
    | false =>
     have e : Zp b_0 (k + 1) x_l0 = (.inl ()) := by simp only [Zp, h_0, h_1, h_2, cond_true, cond_false]
     rw [e]
     exact outR (e := .ret) E0Ok Z3 [] (mR false [2, 1, 59]) [] (q (sB' h_2 <| sB' h_2 <| sB' h_2 <| sB' h_2 <| sB' h_2 <| sB' h_2 <| sB (show true = true from rfl) <| sB (show true = true from rfl) <| sB (show true = true from rfl) <| sB (show true = true from rfl) <| sB (show true = true from rfl) <| sB (show true = true from rfl) <| sN)) (by kernel_rfl) (by intro h; cases h)
   | false =>
    have e : Zp b_0 (k + 1) x_l0 = (.inl ()) := by simp only [Zp, h_0, h_1, cond_true, cond_false]
    rw [e]
    exact outR (e := .ret) E0Ok Z3 [] (mR false [2, 1, 59]) [] (p (sB' h_1 <| sB' h_1 <| sB' h_1 <| sB' h_1 <| sB' h_1 <| sB' h_1 <| sB' h_1 <| sB (show true = true from rfl) <| sB (show true = true from rfl) <| sB (show true = true from rfl) <| sB (show true = true from rfl) <| sB (show true = true from rfl) <| sB (show true = true from rfl) <| sB (show true = true from rfl) <| sB (show true = true from rfl) <| sB (show true = true from rfl) <| sB (show true = true from rfl) <| sB (show true = true from rfl) <| sB (show true = true from rfl) <| sN)) (by kernel_rfl) (by intro h; cases h)
  | false =>
   have gh_0 := of_decide_eq_false h_0
   have e : Zp b_0 (k + 1) x_l0 = (.inr ()) := by simp only [Zp, h_0, cond_false]
   rw [e]
   exact outR (e := (.exit 0)) E0Ok Z3 [] (mR false [0, 2, 1, 1, 2, 23, 33]) [0] (sB h_0 <| sN) (by kernel_rfl) (by intro h; cases h)
def Z2Z (b_0 : GBody) : (Unit) ⊕ (Unit) := (Zp b_0 (((b_0.Springs.length : Int) - 0).toNat + 1) 0)
def Z1d (b_0 : GBody) : Bool := (cond (Z19 b_0.Mesh)
  (cond (decide ((b_0.Springs.length : Int) > 200))
    false
    (cond ((b_0.Weights.length : Int) != (b_0.Mesh.Places.length : Int))
      false
      (match (Z2Z b_0) with
        | .inl r4 => false
        | .inr r4 => true)))
  false)
theorem Z93 (b_0 : GBody) (hp0 : b_0.Mesh.Places.length ≤ 1073741824) (hp1 : b_0.Mesh.Triangles.length ≤ 1073741824) (hp2 : ∀ t ∈ b_0.Mesh.Triangles, t.length ≤ 1073741824) (hp3 : b_0.Springs.length ≤ 1073741824) (hp4 : b_0.Weights.length ≤ 1073741824)  : Fn prog 56 [.agg [.sl (b_0.Mesh.Places.map GVector.cells), .sl (b_0.Mesh.Triangles.map (cL (cI .i64))), .sl (b_0.Springs.map GSpring.cells), .f .f32 b_0.Film, .f .f32 b_0.Bend, .sl (b_0.Weights.map (cF .f32)), .f .f32 b_0.Fall.X, .f .f32 b_0.Fall.Y, .f .f32 b_0.Fall.Z]] (.b (Z1d b_0)) [] := by
 have p {a C} (s : Scr a C) := sZ GVector.cells b_0.Mesh.Places <| sF (Z92 b_0.Mesh hp0 hp1 hp2) <| s
 cases h0 : (Z19 b_0.Mesh) with
 | true =>
  have q {a C} (s : Scr a C) := p (sB' h0 <| sB' h0 <| sB' h0 <| sZ GSpring.cells b_0.Springs <| sB' h0 <| sB' h0 <| s)
  clear p
  cases h1 : (decide ((b_0.Springs.length : Int) > 200)) with
  | true =>
   have gh1 := of_decide_eq_true h1
   refine fnS E0Ok Z3 (c := bodyOf f56) [] (.b false) [] func56 (q (sB h1 <| sB h1 <| sB h1 <| sB h1 <| sB h1 <| sB h1 <| sB (show true = true from rfl) <| sK [] sN)) rfl (by kernel_rfl) (by kernel_rfl) rfl ?_ ?_
   · simp only [Z1d, h0, h1, cond_true]
   · rfl
  | false =>
   have gh1 := of_decide_eq_false h1
   have p {a C} (s : Scr a C) := q (sB h1 <| sB h1 <| sB h1 <| sZ (cF .f32) b_0.Weights <| sB h1 <| sB h1 <| sB h1 <| s)
   clear q
   cases h2 : ((b_0.Weights.length : Int) != (b_0.Mesh.Places.length : Int)) with
   | true =>
    have gh2 := bne_iff_ne.1 h2
    refine fnS E0Ok Z3 (c := bodyOf f56) [] (.b false) [] func56 (p (sB h2 <| sK [] sN)) rfl (by kernel_rfl) (by kernel_rfl) rfl ?_ ?_
    · simp only [Z1d, h0, h1, h2, cond_true, cond_false]
    · rfl
   | false =>
    have gh2 := bne_eq_false_iff_eq.1 h2
    have q {a C} (s : Scr a C) := p (sB h2 <| sZ GSpring.cells b_0.Springs <| s)
    clear p
    cases h3 : (Z2Z b_0) with
    | inl r4 =>
     refine fnS E0Ok Z3 (c := bodyOf f56) [] (.b false) [] func56 (q (sL (mR false [0, 2, 1, 1, 2, 25, 31]) 1 (lp_val (Z3K b_0) (x := (Z2Z b_0)) (Z69 b_0 hp0 hp1 hp2 hp3 hp4 h2 h1 h0 (((b_0.Springs.length : Int) - 0).toNat + 1) 0 (show 0 ≤ 0 from (by omega)) (Nat.lt_succ_self _)) h3) <| sK [] sN)) rfl (by kernel_rfl) (by kernel_rfl) rfl ?_ ?_
     · simp only [Z1d, h0, h1, h2, h3, cond_true, cond_false]
     · rfl
    | inr r4 =>
     refine fnS E0Ok Z3 (c := bodyOf f56) [] (.b true) [] func56 (q (sL (mR false [0, 2, 1, 1, 2, 25, 31]) 1 (lp_val (Z3K b_0) (x := (Z2Z b_0)) (Z69 b_0 hp0 hp1 hp2 hp3 hp4 h2 h1 h0 (((b_0.Springs.length : Int) - 0).toNat + 1) 0 (show 0 ≤ 0 from (by omega)) (Nat.lt_succ_self _)) h3) <| sK [] sN)) rfl (by kernel_rfl) (by kernel_rfl) rfl ?_ ?_
     · simp only [Z1d, h0, h1, h2, h3, cond_true, cond_false]
     · rfl
 | false =>
  refine fnS E0Ok Z3 (c := bodyOf f56) [] (.b false) [] func56 (p (sB' h0 <| sB' h0 <| sB' h0 <| sB' h0 <| sB' h0 <| sB (show true = true from rfl) <| sB (show true = true from rfl) <| sB (show true = true from rfl) <| sB (show true = true from rfl) <| sB (show true = true from rfl) <| sB (show true = true from rfl) <| sB (show true = true from rfl) <| sK [] sN)) rfl (by kernel_rfl) (by kernel_rfl) rfl ?_ ?_
  · simp only [Z1d, h0, cond_false]
  · rfl
theorem Zbl (s : GSpring) (n : Int) : cond (ZU s.A 0 (IntKind.wrap .i64 (n - 1))) (cond (ZU s.B 0 (IntKind.wrap .i64 (n - 1))) (cond (s.A == s.B) false (fcmp .geq .f32 s.Long 0)) false) false = Z11 s n := by
  unfold Z11
  rw [show ZU = Zr from rfl, show (s.A != s.B) = !(s.A == s.B) from rfl]
  cases (s.A == s.B) <;> rfl
theorem Zak (b : GBody) (k : Nat) (i : Int) : Zp b (k + 1) i = cond (decide (i < (b.Springs.length : Int))) (cond (Z11 (b.Springs.getD i.toNat default) (b.Mesh.Places.length : Int)) (Zp b k (i + 1)) (.inl ())) (.inr ()) := by
  rw [Zp, ← Zbl]
  generalize b.Springs.getD i.toNat default = s
  cases ZU s.A 0 (IntKind.wrap .i64 ((b.Mesh.Places.length : Int) - 1)) <;> cases ZU s.B 0 (IntKind.wrap .i64 ((b.Mesh.Places.length : Int) - 1)) <;> cases (s.A == s.B) <;> cases fcmp .geq .f32 s.Long 0 <;> rfl
theorem Zal (b : GBody) : Z1d b = Z17 b := by
  unfold Z1d Z17 Z2Z Z39
  rw [Zaj, all_from (a := b.Springs) (p := fun s => Z11 s (b.Mesh.Places.length : Int)) (lo := Zp b) (x := ()) (y := ()) (Zak b),
    all_from (a := b.Springs) (p := fun s => Z11 s (b.Mesh.Places.length : Int)) (lo := Z1E b) (x := ()) (y := ()) (fun k i => rfl)]
  rfl
theorem Z9K (b : GBody) (h : Z17 b = true) : ZT b.Mesh = true := by
  cases hm : ZT b.Mesh with
  | true => rfl
  | false => simp [Z17, hm] at h
theorem Z9L (m : GMesh) (h : ZT m = true) : m.Places.length ≤ 64 ∧ m.Triangles.length ≤ 128 := by
  rw [Z6f] at h
  cases h1 : decide ((m.Places.length : Int) > 64) <;> rw [h1] at h <;> (try (cases h; done))
  cases h2 : decide ((m.Triangles.length : Int) > 128) <;> rw [h2] at h <;> (try (cases h; done))
  simp only [decide_eq_false_iff_not] at h1 h2
  omega
def Z1x (b_0 : GBody) (held_1 : (List Int)) : Nat → Int → Int → (Unit) ⊕ (Unit)
  | 0, _, _ => .inl default
  | k + 1, last_l0, x_l1 => (cond (decide (x_l1 < (held_1.length : Int)))
    (cond (ZU (held_1.getD x_l1.toNat default) (IntKind.wrap .i64 (last_l0 + 1)) (IntKind.wrap .i64 ((b_0.Mesh.Places.length : Int) - 1)))
      (Z1x b_0 held_1 k (held_1.getD x_l1.toNat default) (x_l1 + 1))
      (.inl ()))
    (.inr ()))
def Z4b (b_0 : GBody) (held_1 : (List Int)) : (Unit) ⊕ (Unit) → Ex × St
  | .inl r => (.ret, ⟨an 4 (.b false :: an 24 []), []⟩)
  | .inr r => ((.exit 0), ⟨.agg [.sl (b_0.Mesh.Places.map GVector.cells), .sl (b_0.Mesh.Triangles.map (cL (cI .i64))), .sl (b_0.Springs.map GSpring.cells), .f .f32 b_0.Film, .f .f32 b_0.Bend, .sl (b_0.Weights.map (cF .f32)), .f .f32 b_0.Fall.X, .f .f32 b_0.Fall.Y, .f .f32 b_0.Fall.Z] :: .sl (held_1.map (cI .i64)) :: .ptr 0 0 0 :: an 5 (.agg [.sl (b_0.Mesh.Places.map GVector.cells), .sl (b_0.Mesh.Triangles.map (cL (cI .i64))), .sl (b_0.Springs.map GSpring.cells), .f .f32 b_0.Film, .f .f32 b_0.Bend, .sl (b_0.Weights.map (cF .f32)), .f .f32 b_0.Fall.X, .f .f32 b_0.Fall.Y, .f .f32 b_0.Fall.Z] :: .b (Z1d b_0) :: .b (!(Z1d b_0)) :: .sl (held_1.map (cI .i64)) :: an 17 []), [.box 42 [.sl (b_0.Mesh.Places.map GVector.cells), .sl (b_0.Mesh.Triangles.map (cL (cI .i64))), .sl (b_0.Springs.map GSpring.cells), .f .f32 b_0.Film, .f .f32 b_0.Bend, .sl (b_0.Weights.map (cF .f32)), .f .f32 b_0.Fall.X, .f .f32 b_0.Fall.Y, .f .f32 b_0.Fall.Z]]⟩)
def Z94 (b_0 : GBody) (held_1 : (List Int)) (last_l0 : Int) (x_l1 : Int) : St := ⟨.agg [.sl (b_0.Mesh.Places.map GVector.cells), .sl (b_0.Mesh.Triangles.map (cL (cI .i64))), .sl (b_0.Springs.map GSpring.cells), .f .f32 b_0.Film, .f .f32 b_0.Bend, .sl (b_0.Weights.map (cF .f32)), .f .f32 b_0.Fall.X, .f .f32 b_0.Fall.Y, .f .f32 b_0.Fall.Z] :: .sl (held_1.map (cI .i64)) :: .ptr 0 0 0 :: .any :: .any :: .i .i64 last_l0 :: .any :: .any :: .agg [.sl (b_0.Mesh.Places.map GVector.cells), .sl (b_0.Mesh.Triangles.map (cL (cI .i64))), .sl (b_0.Springs.map GSpring.cells), .f .f32 b_0.Film, .f .f32 b_0.Bend, .sl (b_0.Weights.map (cF .f32)), .f .f32 b_0.Fall.X, .f .f32 b_0.Fall.Y, .f .f32 b_0.Fall.Z] :: .b (Z1d b_0) :: .b (!(Z1d b_0)) :: .sl (held_1.map (cI .i64)) :: .i .i64 (held_1.length : Int) :: .i .i64 x_l1 :: an 15 [], [.box 42 [.sl (b_0.Mesh.Places.map GVector.cells), .sl (b_0.Mesh.Triangles.map (cL (cI .i64))), .sl (b_0.Springs.map GSpring.cells), .f .f32 b_0.Film, .f .f32 b_0.Bend, .sl (b_0.Weights.map (cF .f32)), .f .f32 b_0.Fall.X, .f .f32 b_0.Fall.Y, .f .f32 b_0.Fall.Z]]⟩
theorem Z6K (b_0 : GBody) (held_1 : (List Int)) (hp0 : b_0.Mesh.Places.length ≤ 1073741824) (hp1 : b_0.Mesh.Triangles.length ≤ 1073741824) (hp2 : ∀ t ∈ b_0.Mesh.Triangles, t.length ≤ 1073741824) (hp3 : b_0.Springs.length ≤ 1073741824) (hp4 : b_0.Weights.length ≤ 1073741824) (hp5 : held_1.length ≤ 1073741824) (Zb4 : (Z1d b_0) = true) : ∀ (k : Nat) (last_l0 : Int) (x_l1 : Int) (Z6p : 0 ≤ x_l1) (hk : ((held_1.length : Int) - x_l1).toNat < k), Lp prog 0 (sub (bodyOf f67) [1, 1, 1, 0, 1, 0, 0]) (Z94 b_0 held_1 last_l0 x_l1) (Z4b b_0 held_1 (Z1x b_0 held_1 k last_l0 x_l1)).1 (Z4b b_0 held_1 (Z1x b_0 held_1 k last_l0 x_l1)).2 := by
 intro k
 induction k with
 | zero => intro last_l0 x_l1 Z6p hk; exact absurd hk (Nat.not_lt_zero _)
 | succ k ih =>
  intro last_l0 x_l1 Z6p hk
  cases h_0 : (decide (x_l1 < (held_1.length : Int))) with
  | true =>
   have gh_0 := of_decide_eq_true h_0
   have y_0 : (0 : Int) ≤ x_l1 := (by assumption)
   have y_1 : x_l1 < (held_1.length : Int) := (by assumption)
   have p {a C} (s : Scr a C) := sB h_0 <| sG (cI .i64) held_1 x_l1 y_0 y_1 <| sW .i64 (last_l0 + 1) <| sZ GVector.cells b_0.Mesh.Places <| sW .i64 ((b_0.Mesh.Places.length : Int) - 1) <| sF (Z50 (held_1.getD x_l1.toNat default) (IntKind.wrap .i64 (last_l0 + 1)) (IntKind.wrap .i64 ((b_0.Mesh.Places.length : Int) - 1))) <| s
   cases h_1 : (ZU (held_1.getD x_l1.toNat default) (IntKind.wrap .i64 (last_l0 + 1)) (IntKind.wrap .i64 ((b_0.Mesh.Places.length : Int) - 1))) with
   | true =>
    have y_2 : (-9223372036854775808 : Int) ≤ (x_l1 + 1) := by clear p; exact (by omega)
    have y_3 : (x_l1 + 1) ≤ (9223372036854775807 : Int) := by clear p; exact (by omega)
    have e : Z1x b_0 held_1 (k + 1) last_l0 x_l1 = (Z1x b_0 held_1 k (held_1.getD x_l1.toNat default) (x_l1 + 1)) := by simp only [Z1x, h_0, h_1, cond_true]
    rw [e]
    exact nextR E0Ok Z3 [] (mR false [0, 3, 2, 1, 2, 6, 15]) [0] (ih (held_1.getD x_l1.toNat default) (x_l1 + 1) (show 0 ≤ (x_l1 + 1) from (by omega)) (by omega)) (p (sB' h_1 <| sI (x_l1 + 1) y_2 y_3 <| sN)) (by kernel_rfl)
   | false =>
    have e : Z1x b_0 held_1 (k + 1) last_l0 x_l1 = (.inl ()) := by simp only [Z1x, h_0, h_1, cond_true, cond_false]
    rw [e]
    exact outR (e := .ret) E0Ok Z3 [] (mR false [4, 1, 24]) [] (p (sB' h_1 <| sN)) (by kernel_rfl) (by intro h; cases h)
  | false =>
   have gh_0 := of_decide_eq_false h_0
   have e : Z1x b_0 held_1 (k + 1) last_l0 x_l1 = (.inr ()) := by simp only [Z1x, h_0, cond_false]
   rw [e]
   exact outR (e := (.exit 0)) E0Ok Z3 [] (mR false [0, 3, 5, 4, 17]) [0] (sB h_0 <| sN) (by kernel_rfl) (by intro h; cases h)
def Z3f (b_0 : GBody) (held_1 : (List Int)) : (Unit) ⊕ (Unit) := (Z1x b_0 held_1 (((held_1.length : Int) - 0).toNat + 1) (-1) 0)
def Z2H (b_0 : GBody) (held_1 : (List Int)) : Bool := (cond (Z1d b_0)
  (match (Z3f b_0 held_1) with
    | .inl r2 => false
    | .inr r2 => true)
  false)
theorem Z9X (b_0 : GBody) (held_1 : (List Int)) (hp0 : b_0.Mesh.Places.length ≤ 1073741824) (hp1 : b_0.Mesh.Triangles.length ≤ 1073741824) (hp2 : ∀ t ∈ b_0.Mesh.Triangles, t.length ≤ 1073741824) (hp3 : b_0.Springs.length ≤ 1073741824) (hp4 : b_0.Weights.length ≤ 1073741824) (hp5 : held_1.length ≤ 1073741824)  : Fn prog 67 [.agg [.sl (b_0.Mesh.Places.map GVector.cells), .sl (b_0.Mesh.Triangles.map (cL (cI .i64))), .sl (b_0.Springs.map GSpring.cells), .f .f32 b_0.Film, .f .f32 b_0.Bend, .sl (b_0.Weights.map (cF .f32)), .f .f32 b_0.Fall.X, .f .f32 b_0.Fall.Y, .f .f32 b_0.Fall.Z], .sl (held_1.map (cI .i64))] (.b (Z2H b_0 held_1)) [] := by
 have p {a C} (s : Scr a C) := sF (Z93 b_0 hp0 hp1 hp2 hp3 hp4) <| s
 cases h0 : (Z1d b_0) with
 | true =>
  have q {a C} (s : Scr a C) := p (sB' h0 <| sZ (cI .i64) held_1 <| s)
  clear p
  cases h1 : (Z3f b_0 held_1) with
  | inl r2 =>
   refine fnS E0Ok Z3 (c := bodyOf f67) [] (.b false) [] func67 (q (sL (mR false [0, 3, 2, 1, 2, 6, 15]) 1 (lp_val (Z4b b_0 held_1) (x := (Z3f b_0 held_1)) (Z6K b_0 held_1 hp0 hp1 hp2 hp3 hp4 hp5 h0 (((held_1.length : Int) - 0).toNat + 1) (-1) 0 (show 0 ≤ 0 from (by omega)) (Nat.lt_succ_self _)) h1) <| sK [] sN)) rfl (by kernel_rfl) (by kernel_rfl) rfl ?_ ?_
   · simp only [Z2H, h0, h1, cond_true]
   · rfl
  | inr r2 =>
   refine fnS E0Ok Z3 (c := bodyOf f67) [] (.b true) [] func67 (q (sL (mR false [0, 3, 2, 1, 2, 6, 15]) 1 (lp_val (Z4b b_0 held_1) (x := (Z3f b_0 held_1)) (Z6K b_0 held_1 hp0 hp1 hp2 hp3 hp4 hp5 h0 (((held_1.length : Int) - 0).toNat + 1) (-1) 0 (show 0 ≤ 0 from (by omega)) (Nat.lt_succ_self _)) h1) <| sK [] sN)) rfl (by kernel_rfl) (by kernel_rfl) rfl ?_ ?_
   · simp only [Z2H, h0, h1, cond_true]
   · rfl
 | false =>
  refine fnS E0Ok Z3 (c := bodyOf f67) [] (.b false) [] func67 (p (sB' h0 <| sK [] sN)) rfl (by kernel_rfl) (by kernel_rfl) rfl ?_ ?_
  · simp only [Z2H, h0, cond_false]
  · rfl
theorem Zam (p last n : Int) (h0 : -1 ≤ last) (hn : 0 ≤ n) (hn' : n ≤ 64) (hl : last < n ∨ last = -1) : ZU p (IntKind.wrap .i64 (last + 1)) (IntKind.wrap .i64 (n - 1)) = (Zr p 0 (IntKind.wrap .i64 (n - 1)) && !(decide (last ≥ p))) := by
  rw [show ZU = Zr from rfl]
  unfold Zr
  rw [wrap_id (n := last + 1) (by omega) (by omega), wrap_id (n := n - 1) (by omega) (by omega)]
  by_cases h1 : p ≥ last + 1 <;> by_cases h2 : p ≤ n - 1 <;> by_cases h3 : p ≥ 0 <;> by_cases h4 : last ≥ p <;> simp [h1, h2, h3, h4] <;> omega
theorem Zb5 (b : GBody) (hs : List Int) (hn : b.Mesh.Places.length ≤ 64) : ∀ (k : Nat) (last i : Int), 0 ≤ i → (i = 0 ∧ last = -1 ∨ 0 < i ∧ last = hs.getD (i - 1).toNat default ∧ 0 ≤ last ∧ last < (b.Mesh.Places.length : Int)) → Z1x b hs k last i = Zo hs 0 (IntKind.wrap .i64 ((b.Mesh.Places.length : Int) - 1)) k i := by
  intro k
  induction k with
  | zero => intros; rfl
  | succ k ih =>
    intro last i h0 hl
    rw [Z1x, Zo]
    cases decide (i < (hs.length : Int)) with
    | false => rfl
    | true =>
      rw [cond_true, cond_true, Zam _ last (b.Mesh.Places.length : Int) (by omega) (by omega) (by omega) (by omega)]
      cases hP : Zr (hs.getD i.toNat default) 0 (IntKind.wrap .i64 ((b.Mesh.Places.length : Int) - 1)) with
      | false => rfl
      | true =>
        rw [Bool.true_and, cond_true]
        have hb : 0 ≤ hs.getD i.toNat default ∧ hs.getD i.toNat default < (b.Mesh.Places.length : Int) := by
          unfold Zr at hP
          rw [wrap_id (n := (b.Mesh.Places.length : Int) - 1) (by omega) (by omega)] at hP
          generalize hs.getD i.toNat default = P at hP ⊢
          by_cases h1 : P ≥ 0 <;> simp [h1] at hP
          omega
        have hi := ih (hs.getD i.toNat default) (i + 1) (by omega) (.inr ⟨by omega, by rw [show i + 1 - 1 = i from by omega], hb.1, hb.2⟩)
        rw [hi]
        rcases hl with ⟨hi0, hl⟩ | ⟨hi0, hl, _⟩
        · rw [decide_eq_false (show ¬ last ≥ hs.getD i.toNat default from by omega), decide_eq_false (show ¬ i > 0 from by omega)]; rfl
        · rw [decide_eq_true (show i > 0 from hi0), cond_true, ← hl]
          cases decide (last ≥ hs.getD i.toNat default) <;> rfl
theorem Z9M (b : GBody) (hs : List Int) : Z2H b hs = cond (Z17 b) (Z2J b hs) false := by
  unfold Z2H
  rw [Zal]
  cases h : Z17 b with
  | false => rfl
  | true =>
    unfold Z2J Z35 Z3f Z2I
    rw [Zb5 b hs (Z9L _ (Z9K b h)).1 _ _ _ (Int.le_refl 0) (.inl ⟨rfl, rfl⟩)]
    rfl
def Z1g (a_0 : GVector) (b_1 : GVector) : GVector := (⟨(fop .sub .f32 a_0.X b_1.X), (fop .sub .f32 a_0.Y b_1.Y), (fop .sub .f32 a_0.Z b_1.Z)⟩ : GVector)
theorem Z30 (a_0 : GVector) (b_1 : GVector)   : Fn prog 114 [.agg [.f .f32 a_0.X, .f .f32 a_0.Y, .f .f32 a_0.Z], .agg [.f .f32 b_1.X, .f .f32 b_1.Y, .f .f32 b_1.Z]] (.agg [.f .f32 ((Z1g a_0 b_1).X), .f .f32 ((Z1g a_0 b_1).Y), .f .f32 ((Z1g a_0 b_1).Z)]) [] := by
 refine fnS E0Ok Z3 (c := bodyOf f114) [] (.agg [.f .f32 (fop .sub .f32 a_0.X b_1.X), .f .f32 (fop .sub .f32 a_0.Y b_1.Y), .f .f32 (fop .sub .f32 a_0.Z b_1.Z)]) [] func114 (sK [] sN) rfl (by kernel_rfl) (by kernel_rfl) rfl ?_ ?_
 · rfl
 · rfl
def Zf (b_0 : GBody) (s_1 : GSpring) : GVector := (Z1g (b_0.Mesh.Places.getD s_1.B.toNat default) (b_0.Mesh.Places.getD s_1.A.toNat default))
theorem Z8a (b_0 : GBody) (s_1 : GSpring) (hp0 : b_0.Mesh.Places.length ≤ 1073741824) (hp1 : b_0.Mesh.Triangles.length ≤ 1073741824) (hp2 : ∀ t ∈ b_0.Mesh.Triangles, t.length ≤ 1073741824) (hp3 : b_0.Springs.length ≤ 1073741824) (hp4 : b_0.Weights.length ≤ 1073741824) (hp5 : 0 ≤ s_1.A) (hp6 : s_1.A < (b_0.Mesh.Places.length : Int)) (hp7 : 0 ≤ s_1.B) (hp8 : s_1.B < (b_0.Mesh.Places.length : Int))  : Fn prog 109 [.agg [.sl (b_0.Mesh.Places.map GVector.cells), .sl (b_0.Mesh.Triangles.map (cL (cI .i64))), .sl (b_0.Springs.map GSpring.cells), .f .f32 b_0.Film, .f .f32 b_0.Bend, .sl (b_0.Weights.map (cF .f32)), .f .f32 b_0.Fall.X, .f .f32 b_0.Fall.Y, .f .f32 b_0.Fall.Z], .agg [.i .i64 s_1.A, .i .i64 s_1.B, .f .f32 s_1.Long, .f .f32 s_1.Stiff]] (.agg [.f .f32 ((Zf b_0 s_1).X), .f .f32 ((Zf b_0 s_1).Y), .f .f32 ((Zf b_0 s_1).Z)]) [] := by
 have y0 : (0 : Int) ≤ s_1.B := (by assumption)
 have y1 : (0 : Int) ≤ s_1.A := (by assumption)
 refine fnS E0Ok Z3 (c := bodyOf f109) [] (.agg [.f .f32 ((Z1g (b_0.Mesh.Places.getD s_1.B.toNat default) (b_0.Mesh.Places.getD s_1.A.toNat default)).X), .f .f32 ((Z1g (b_0.Mesh.Places.getD s_1.B.toNat default) (b_0.Mesh.Places.getD s_1.A.toNat default)).Y), .f .f32 ((Z1g (b_0.Mesh.Places.getD s_1.B.toNat default) (b_0.Mesh.Places.getD s_1.A.toNat default)).Z)]) [] func109 (sK [14, 14] <| sG GVector.cells b_0.Mesh.Places s_1.B y0 hp8 <| sG GVector.cells b_0.Mesh.Places s_1.A y1 hp6 <| sF (Z30 (b_0.Mesh.Places.getD s_1.B.toNat default) (b_0.Mesh.Places.getD s_1.A.toNat default)) <| sK [] sN) rfl (by kernel_rfl) (by kernel_rfl) rfl ?_ ?_
 · rfl
 · rfl
def Z4N (a_0 : GVector) (b_1 : GVector) : Nat := (fop .add .f32 (fop .add .f32 (fop .mul .f32 a_0.X b_1.X) (fop .mul .f32 a_0.Y b_1.Y)) (fop .mul .f32 a_0.Z b_1.Z))
theorem Z9z (a_0 : GVector) (b_1 : GVector)   : Fn prog 140 [.agg [.f .f32 a_0.X, .f .f32 a_0.Y, .f .f32 a_0.Z], .agg [.f .f32 b_1.X, .f .f32 b_1.Y, .f .f32 b_1.Z]] (.f .f32 (Z4N a_0 b_1)) [] := by
 refine fnS E0Ok Z3 (c := bodyOf f140) [] (.f .f32 (fop .add .f32 (fop .add .f32 (fop .mul .f32 a_0.X b_1.X) (fop .mul .f32 a_0.Y b_1.Y)) (fop .mul .f32 a_0.Z b_1.Z))) [] func140 (sK [] sN) rfl (by kernel_rfl) (by kernel_rfl) rfl ?_ ?_
 · rfl
 · rfl
def Z4Q (x_0 : Nat) : Nat := (fcv .f64 .f32 (Z3D (fcv .f32 .f64 x_0)))
theorem Z8C (x_0 : Nat)   : Fn prog 139 [.f .f32 x_0] (.f .f32 (Z4Q x_0)) [] := by
 have y0 : fcvOk .f64 .f32 (Z3D (fcv .f32 .f64 x_0)) = true := (narrow_sqrt _)
 refine fnS E0Ok Z3 (c := bodyOf f139) [] (.f .f32 (fcv .f64 .f32 (Z3D (fcv .f32 .f64 x_0)))) [] func139 (sC (widenOk x_0) <| sF (Z8H (fcv .f32 .f64 x_0)) <| sC y0 <| sK [] sN) rfl (by kernel_rfl) (by kernel_rfl) rfl ?_ ?_
 · rfl
 · rfl
def Zd (v_0 : GVector) : Nat := (Z4Q (Z4N v_0 v_0))
theorem Z6y (v_0 : GVector)   : Fn prog 112 [.agg [.f .f32 v_0.X, .f .f32 v_0.Y, .f .f32 v_0.Z]] (.f .f32 (Zd v_0)) [] := by
 refine fnS E0Ok Z3 (c := bodyOf f112) [] (.f .f32 (Z4Q (Z4N v_0 v_0))) [] func112 (sF (Z9z v_0 v_0) <| sF (Z8C (Z4N v_0 v_0)) <| sK [] sN) rfl (by kernel_rfl) (by kernel_rfl) rfl ?_ ?_
 · rfl
 · rfl
def Z2S (d_0 : GVector) (s_1 : GSpring) : Nat := (cond (fcmp .gtr .f32 (Zd d_0) 0)
  (fop .quo .f32 (fop .mul .f32 s_1.Stiff (fop .sub .f32 (Zd d_0) s_1.Long)) (Zd d_0))
  0)
theorem Z9Y (d_0 : GVector) (s_1 : GSpring)   : Fn prog 110 [.agg [.f .f32 d_0.X, .f .f32 d_0.Y, .f .f32 d_0.Z], .agg [.i .i64 s_1.A, .i .i64 s_1.B, .f .f32 s_1.Long, .f .f32 s_1.Stiff]] (.f .f32 (Z2S d_0 s_1)) [] := by
 have p {a C} (s : Scr a C) := sF (Z6y d_0) <| s
 cases h0 : (fcmp .gtr .f32 (Zd d_0) 0) with
 | true =>
  refine fnS E0Ok Z3 (c := bodyOf f110) [] (.f .f32 (fop .quo .f32 (fop .mul .f32 s_1.Stiff (fop .sub .f32 (Zd d_0) s_1.Long)) (Zd d_0))) [] func110 (p (sB' h0 <| sK [] sN)) rfl (by kernel_rfl) (by kernel_rfl) rfl ?_ ?_
  · simp only [Z2S, h0, cond_true]
  · rfl
 | false =>
  refine fnS E0Ok Z3 (c := bodyOf f110) [] (.f .f32 0) [] func110 (p (sB' h0 <| sK [] sN)) rfl (by kernel_rfl) (by kernel_rfl) rfl ?_ ?_
  · simp only [Z2S, h0, cond_false]
  · rfl
def Z2m (v_0 : GVector) (by_1 : Nat) : GVector := (⟨(fop .mul .f32 v_0.X by_1), (fop .mul .f32 v_0.Y by_1), (fop .mul .f32 v_0.Z by_1)⟩ : GVector)
theorem Z8b (v_0 : GVector) (by_1 : Nat)   : Fn prog 108 [.agg [.f .f32 v_0.X, .f .f32 v_0.Y, .f .f32 v_0.Z], .f .f32 by_1] (.agg [.f .f32 ((Z2m v_0 by_1).X), .f .f32 ((Z2m v_0 by_1).Y), .f .f32 ((Z2m v_0 by_1).Z)]) [] := by
 refine fnS E0Ok Z3 (c := bodyOf f108) [] (.agg [.f .f32 (fop .mul .f32 v_0.X by_1), .f .f32 (fop .mul .f32 v_0.Y by_1), .f .f32 (fop .mul .f32 v_0.Z by_1)]) [] func108 (sK [] sN) rfl (by kernel_rfl) (by kernel_rfl) rfl ?_ ?_
 · rfl
 · rfl
def Z1N (a_0 : GVector) (b_1 : GVector) : GVector := (⟨(fop .add .f32 a_0.X b_1.X), (fop .add .f32 a_0.Y b_1.Y), (fop .add .f32 a_0.Z b_1.Z)⟩ : GVector)
theorem Z4R (a_0 : GVector) (b_1 : GVector)   : Fn prog 107 [.agg [.f .f32 a_0.X, .f .f32 a_0.Y, .f .f32 a_0.Z], .agg [.f .f32 b_1.X, .f .f32 b_1.Y, .f .f32 b_1.Z]] (.agg [.f .f32 ((Z1N a_0 b_1).X), .f .f32 ((Z1N a_0 b_1).Y), .f .f32 ((Z1N a_0 b_1).Z)]) [] := by
 refine fnS E0Ok Z3 (c := bodyOf f107) [] (.agg [.f .f32 (fop .add .f32 a_0.X b_1.X), .f .f32 (fop .add .f32 a_0.Y b_1.Y), .f .f32 (fop .add .f32 a_0.Z b_1.Z)]) [] func107 (sK [] sN) rfl (by kernel_rfl) (by kernel_rfl) rfl ?_ ?_
 · rfl
 · rfl
def Zh (at_0 : Int) (v_1 : GVector) (by_2 : Nat) (p_3 : (List GVector)) : (List GVector) := (p_3.set at_0.toNat (Z1N (p_3.getD at_0.toNat default) (Z2m v_1 by_2)))
@[simp] theorem Z99 (at_0 : Int) (v_1 : GVector) (by_2 : Nat) (p_3 : (List GVector)) : (Zh at_0 v_1 by_2 p_3).length = p_3.length := by
  first | (simp [Zh]; done)
theorem Z1i (at_0 : Int) (v_1 : GVector) (by_2 : Nat) (p_3 : (List GVector)) (hp0 : p_3.length ≤ 1073741824) (hp1 : 0 ≤ at_0) (hp2 : at_0 < (p_3.length : Int))  : CallSt prog 106 [.box 34 [.own 1], .vec 40 3 (p_3.map GVector.cells) false] [.i .i64 at_0, .agg [.f .f32 v_1.X, .f .f32 v_1.Y, .f .f32 v_1.Z], .f .f32 by_2, .ptr 0 0 0] (.tup []) [.box 34 [.own 1], .vec 40 3 ((Zh at_0 v_1 by_2 p_3).map GVector.cells) false] := by
 have y0 : (0 : Int) ≤ at_0 := (by assumption)
 have y1 : at_0.toNat < p_3.length := (by omega)
 refine callS (EpOk 2) Z3 (c := bodyOf f106) [.box 34 [.own 1], .vec 40 3 (p_3.map GVector.cells) false] [] (.tup []) [.box 34 [.own 1], .vec 40 3 ((p_3.map GVector.cells).set at_0.toNat [.f .f32 ((Z1N (p_3.getD at_0.toNat default) (Z2m v_1 by_2)).X), .f .f32 ((Z1N (p_3.getD at_0.toNat default) (Z2m v_1 by_2)).Y), .f .f32 ((Z1N (p_3.getD at_0.toNat default) (Z2m v_1 by_2)).Z)]) false] func106 (sK [10, 10] <| sX GVector.cells p_3 at_0 y0 hp2 <| sV GVector.cells p_3 at_0.toNat y1 <| sF (Z8b v_1 by_2) <| sF (Z4R (p_3.getD at_0.toNat default) (Z2m v_1 by_2)) <| sX GVector.cells p_3 at_0 y0 hp2 <| sC (maplt (c := GVector.cells) (l := p_3) y1) <| sK [] sN) rfl (by kernel_rfl) (by kernel_rfl) ?_ ?_
 · rfl
 · simp [Zh, GVector.cells]
def Z1H (a_0 : GVector) (b_1 : GVector) : GVector := (⟨(fop .sub .f32 (fop .mul .f32 a_0.Y b_1.Z) (fop .mul .f32 a_0.Z b_1.Y)), (fop .sub .f32 (fop .mul .f32 a_0.Z b_1.X) (fop .mul .f32 a_0.X b_1.Z)), (fop .sub .f32 (fop .mul .f32 a_0.X b_1.Y) (fop .mul .f32 a_0.Y b_1.X))⟩ : GVector)
theorem Z6i (a_0 : GVector) (b_1 : GVector)   : Fn prog 113 [.agg [.f .f32 a_0.X, .f .f32 a_0.Y, .f .f32 a_0.Z], .agg [.f .f32 b_1.X, .f .f32 b_1.Y, .f .f32 b_1.Z]] (.agg [.f .f32 ((Z1H a_0 b_1).X), .f .f32 ((Z1H a_0 b_1).Y), .f .f32 ((Z1H a_0 b_1).Z)]) [] := by
 refine fnS E0Ok Z3 (c := bodyOf f113) [] (.agg [.f .f32 (fop .sub .f32 (fop .mul .f32 a_0.Y b_1.Z) (fop .mul .f32 a_0.Z b_1.Y)), .f .f32 (fop .sub .f32 (fop .mul .f32 a_0.Z b_1.X) (fop .mul .f32 a_0.X b_1.Z)), .f .f32 (fop .sub .f32 (fop .mul .f32 a_0.X b_1.Y) (fop .mul .f32 a_0.Y b_1.X))]) [] func113 (sK [] sN) rfl (by kernel_rfl) (by kernel_rfl) rfl ?_ ?_
 · rfl
 · rfl
def Z3S (m_0 : GMesh) (t_1 : (List Int)) : GVector := (Z1H (Z1g (m_0.Places.getD (t_1.getD 1 default).toNat default) (m_0.Places.getD (t_1.getD 0 default).toNat default)) (Z1g (m_0.Places.getD (t_1.getD 2 default).toNat default) (m_0.Places.getD (t_1.getD 0 default).toNat default)))
def Z7 (m_0 : GMesh) (t_1 : (List Int)) : GVector := (Z3S m_0 t_1)
theorem Z9l (m_0 : GMesh) (t_1 : (List Int)) (hp0 : m_0.Places.length ≤ 1073741824) (hp1 : m_0.Triangles.length ≤ 1073741824) (hp2 : ∀ t ∈ m_0.Triangles, t.length ≤ 1073741824) (hp3 : t_1.length ≤ 1073741824) (hp4 : t_1.length = 3 ∧ ∀ x ∈ t_1, 0 ≤ x ∧ x < (m_0.Places.length : Int))  : Fn prog 111 [.agg [.sl (m_0.Places.map GVector.cells), .sl (m_0.Triangles.map (cL (cI .i64)))], .sl (t_1.map (cI .i64))] (.agg [.f .f32 ((Z7 m_0 t_1).X), .f .f32 ((Z7 m_0 t_1).Y), .f .f32 ((Z7 m_0 t_1).Z)]) [] := by
 have y0 : (0 : Int) ≤ 0 := (by omega)
 have y1 : 0 < (t_1.length : Int) := (by omega)
 have y2 : (0 : Int) ≤ (t_1.getD 0 default) := (by have q := Okt.at hp4; omega)
 have y3 : (t_1.getD 0 default) < (m_0.Places.length : Int) := (by have q := Okt.at hp4; omega)
 have y4 : (0 : Int) ≤ 1 := (by omega)
 have y5 : 1 < (t_1.length : Int) := (by omega)
 have y6 : (0 : Int) ≤ (t_1.getD 1 default) := (by have q := Okt.at hp4; omega)
 have y7 : (t_1.getD 1 default) < (m_0.Places.length : Int) := (by have q := Okt.at hp4; omega)
 have y8 : (0 : Int) ≤ 2 := (by omega)
 have y9 : 2 < (t_1.length : Int) := (by omega)
 have y10 : (0 : Int) ≤ (t_1.getD 2 default) := (by have q := Okt.at hp4; omega)
 have y11 : (t_1.getD 2 default) < (m_0.Places.length : Int) := (by have q := Okt.at hp4; omega)
 refine fnS E0Ok Z3 (c := bodyOf f111) [] (.agg [.f .f32 ((Z3S m_0 t_1).X), .f .f32 ((Z3S m_0 t_1).Y), .f .f32 ((Z3S m_0 t_1).Z)]) [] func111 (sK [8, 8] <| sG (cI .i64) t_1 0 y0 y1 <| sG GVector.cells m_0.Places (t_1.getD 0 default) y2 y3 <| sK [17, 17] <| sG (cI .i64) t_1 1 y4 y5 <| sG GVector.cells m_0.Places (t_1.getD 1 default) y6 y7 <| sF (Z30 (m_0.Places.getD (t_1.getD 1 default).toNat default) (m_0.Places.getD (t_1.getD 0 default).toNat default)) <| sG (cI .i64) t_1 2 y8 y9 <| sG GVector.cells m_0.Places (t_1.getD 2 default) y10 y11 <| sF (Z30 (m_0.Places.getD (t_1.getD 2 default).toNat default) (m_0.Places.getD (t_1.getD 0 default).toNat default)) <| sF (Z6i (Z1g (m_0.Places.getD (t_1.getD 1 default).toNat default) (m_0.Places.getD (t_1.getD 0 default).toNat default)) (Z1g (m_0.Places.getD (t_1.getD 2 default).toNat default) (m_0.Places.getD (t_1.getD 0 default).toNat default))) <| sK [] sN) rfl (by kernel_rfl) (by kernel_rfl) rfl ?_ ?_
 · rfl
 · rfl
def Z4h (a_0 : Int) (b_1 : Int) : Gedge := (⟨(if b_1 < a_0 then b_1 else a_0), (if b_1 > a_0 then b_1 else a_0)⟩ : Gedge)
theorem Z9Z (a_0 : Int) (b_1 : Int)   : Fn prog 149 [.i .i64 a_0, .i .i64 b_1] (.agg [.i .i64 ((Z4h a_0 b_1).e0), .i .i64 ((Z4h a_0 b_1).e1)]) [] := by
 refine fnS E0Ok Z3 (c := bodyOf f149) [] (.agg [.i .i64 (if b_1 < a_0 then b_1 else a_0), .i .i64 (if b_1 > a_0 then b_1 else a_0)]) [] func149 (sC (show (if false = true then (if b_1 > a_0 then b_1 else a_0) else (if b_1 < a_0 then b_1 else a_0)) = (if b_1 < a_0 then b_1 else a_0) from (by simp)) <| sA (.num (if b_1 < a_0 then b_1 else a_0)) <| sC (show (if true = true then (if b_1 > a_0 then b_1 else a_0) else (if b_1 < a_0 then b_1 else a_0)) = (if b_1 > a_0 then b_1 else a_0) from (by simp)) <| sA (.num (if b_1 > a_0 then b_1 else a_0)) <| sK [] sN) rfl (by kernel_rfl) (by kernel_rfl) rfl ?_ ?_
 · rfl
 · rfl
theorem Zb6 (a b : Int) : Z4h a b = mkE a b := by
  unfold Z4h mkE
  by_cases h : a ≤ b
  · rw [if_pos h, if_neg (by omega)]
    by_cases h2 : b > a
    · rw [if_pos h2]
    · rw [if_neg h2, show a = b from by omega]
  · rw [if_neg h, if_pos (by omega), if_neg (by omega)]
def Z2n (x_0 : Int) : Bool := (x_0 != x_0)
theorem Z6q (x_0 : Int)   : Fn prog 172 [.i .i64 x_0] (.b (Z2n x_0)) [] := by
 refine fnS E0Ok Z3 (c := bodyOf f172) [] (.b (x_0 != x_0)) [] func172 (sK [] sN) rfl (by kernel_rfl) (by kernel_rfl) rfl ?_ ?_
 · rfl
 · rfl
def Z16 (x_0 : Int) (y_1 : Int) : Int := (cond (Z2n x_0)
  (cond (Z2n y_1)
    0
    (-1))
  (cond (Z2n y_1)
    1
    (cond (decide (x_0 < y_1))
      (-1)
      (cond (decide (x_0 > y_1))
        1
        0))))
theorem Z7j (x_0 : Int) (y_1 : Int)   : Fn prog 166 [.i .i64 x_0, .i .i64 y_1] (.i .i64 (Z16 x_0 y_1)) [] := by
 have p {a C} (s : Scr a C) := sF (Z6q x_0) <| sF (Z6q y_1) <| s
 cases h0 : (Z2n x_0) with
 | true =>
  have q {a C} (s : Scr a C) := p (sB h0 <| s)
  clear p
  cases h1 : (Z2n y_1) with
  | true =>
   refine fnS E0Ok Z3 (c := bodyOf f166) [] (.i .i64 0) [] func166 (q (sB h1 <| sK [] sN)) rfl (by kernel_rfl) (by kernel_rfl) rfl ?_ ?_
   · simp only [Z16, h0, h1, cond_true]
   · rfl
  | false =>
   refine fnS E0Ok Z3 (c := bodyOf f166) [] (.i .i64 (-1)) [] func166 (q (sB h1 <| sK [] sN)) rfl (by kernel_rfl) (by kernel_rfl) rfl ?_ ?_
   · simp only [Z16, h0, h1, cond_true, cond_false]
   · rfl
 | false =>
  have q {a C} (s : Scr a C) := p (sB h0 <| s)
  clear p
  cases h1 : (Z2n y_1) with
  | true =>
   refine fnS E0Ok Z3 (c := bodyOf f166) [] (.i .i64 1) [] func166 (q (sB h1 <| sK [] sN)) rfl (by kernel_rfl) (by kernel_rfl) rfl ?_ ?_
   · simp only [Z16, h0, h1, cond_true, cond_false]
   · rfl
  | false =>
   have p {a C} (s : Scr a C) := q (sB h1 <| s)
   clear q
   cases h2 : (decide (x_0 < y_1)) with
   | true =>
    have gh2 := of_decide_eq_true h2
    refine fnS E0Ok Z3 (c := bodyOf f166) [] (.i .i64 (-1)) [] func166 (p (sB h2 <| sK [] sN)) rfl (by kernel_rfl) (by kernel_rfl) rfl ?_ ?_
    · simp only [Z16, h0, h1, h2, cond_true, cond_false]
    · rfl
   | false =>
    have gh2 := of_decide_eq_false h2
    have q {a C} (s : Scr a C) := p (sB h2 <| s)
    clear p
    cases h3 : (decide (x_0 > y_1)) with
    | true =>
     have gh3 := of_decide_eq_true h3
     refine fnS E0Ok Z3 (c := bodyOf f166) [] (.i .i64 1) [] func166 (q (sB h3 <| sK [] sN)) rfl (by kernel_rfl) (by kernel_rfl) rfl ?_ ?_
     · simp only [Z16, h0, h1, h2, h3, cond_true, cond_false]
     · rfl
    | false =>
     have gh3 := of_decide_eq_false h3
     refine fnS E0Ok Z3 (c := bodyOf f166) [] (.i .i64 0) [] func166 (q (sB h3 <| sK [] sN)) rfl (by kernel_rfl) (by kernel_rfl) rfl ?_ ?_
     · simp only [Z16, h0, h1, h2, h3, cond_false]
     · rfl
def Ze (s1_0 : (List Int)) (s2_1 : (List Int)) : Nat → Int → (Int) ⊕ (Unit)
  | 0, _ => .inl default
  | k + 1, x_l0 => (cond (decide (x_l0 < (s1_0.length : Int)))
    (cond (decide (x_l0 ≥ (s2_1.length : Int)))
      (.inl 1)
      (cond ((Z16 (s1_0.getD x_l0.toNat default) (s2_1.getD x_l0.toNat default)) != 0)
        (.inl (Z16 (s1_0.getD x_l0.toNat default) (s2_1.getD x_l0.toNat default)))
        (Ze s1_0 s2_1 k (x_l0 + 1))))
    (.inr ()))
def Z2f (s1_0 : (List Int)) (s2_1 : (List Int)) : (Int) ⊕ (Unit) → Ex × St
  | .inl r => (.ret, ⟨an 4 (.i .i64 r :: an 31 []), []⟩)
  | .inr r => ((.exit 0), ⟨.sl (s1_0.map (cI .i64)) :: .sl (s2_1.map (cI .i64)) :: an 7 (.sl (s1_0.map (cI .i64)) :: an 26 []), []⟩)
def Z4S (s1_0 : (List Int)) (s2_1 : (List Int)) (x_l0 : Int) : St := ⟨.sl (s1_0.map (cI .i64)) :: .sl (s2_1.map (cI .i64)) :: an 7 (.sl (s1_0.map (cI .i64)) :: .i .i64 (s1_0.length : Int) :: .i .i64 x_l0 :: an 24 []), []⟩
theorem Z3r (s1_0 : (List Int)) (s2_1 : (List Int)) (hp0 : s1_0.length ≤ 1073741824) (hp1 : s2_1.length ≤ 1073741824) : ∀ (k : Nat) (x_l0 : Int) (Z3g : 0 ≤ x_l0) (hk : ((s1_0.length : Int) - x_l0).toNat < k), Lp prog 0 (sub (bodyOf f155) [1, 0, 1, 0, 0]) (Z4S s1_0 s2_1 x_l0) (Z2f s1_0 s2_1 (Ze s1_0 s2_1 k x_l0)).1 (Z2f s1_0 s2_1 (Ze s1_0 s2_1 k x_l0)).2 := by
 intro k
 induction k with
 | zero => intro x_l0 Z3g hk; exact absurd hk (Nat.not_lt_zero _)
 | succ k ih =>
  intro x_l0 Z3g hk
  cases h_0 : (decide (x_l0 < (s1_0.length : Int))) with
  | true =>
   have gh_0 := of_decide_eq_true h_0
   have y_0 : (0 : Int) ≤ x_l0 := (by assumption)
   have y_1 : x_l0 < (s1_0.length : Int) := (by assumption)
   have p {a C} (s : Scr a C) := sB h_0 <| sG (cI .i64) s1_0 x_l0 y_0 y_1 <| sZ (cI .i64) s2_1 <| s
   cases h_1 : (decide (x_l0 ≥ (s2_1.length : Int))) with
   | true =>
    have gh_1 := of_decide_eq_true h_1
    have e : Ze s1_0 s2_1 (k + 1) x_l0 = (.inl 1) := by simp only [Ze, h_0, h_1, cond_true]
    rw [e]
    exact outR (e := .ret) E0Ok Z3 [] (mR false [4, 1, 31]) [] (p (sB h_1 <| sN)) (by kernel_rfl) (by intro h; cases h)
   | false =>
    have gh_1 := of_decide_eq_false h_1
    have y_2 : x_l0 < (s2_1.length : Int) := by clear p; exact (by omega)
    have q {a C} (s : Scr a C) := p (sB h_1 <| sG (cI .i64) s2_1 x_l0 y_0 y_2 <| sF (Z7j (s1_0.getD x_l0.toNat default) (s2_1.getD x_l0.toNat default)) <| s)
    clear p
    cases h_2 : ((Z16 (s1_0.getD x_l0.toNat default) (s2_1.getD x_l0.toNat default)) != 0) with
    | true =>
     have gh_2 := bne_iff_ne.1 h_2
     have e : Ze s1_0 s2_1 (k + 1) x_l0 = (.inl (Z16 (s1_0.getD x_l0.toNat default) (s2_1.getD x_l0.toNat default))) := by simp only [Ze, h_0, h_1, h_2, cond_true, cond_false]
     rw [e]
     exact outR (e := .ret) E0Ok Z3 [] (mR false [4, 1, 31]) [] (q (sB h_2 <| sN)) (by kernel_rfl) (by intro h; cases h)
    | false =>
     have gh_2 := bne_eq_false_iff_eq.1 h_2
     have y_3 : (-9223372036854775808 : Int) ≤ (x_l0 + 1) := by clear q; exact (by omega)
     have y_4 : (x_l0 + 1) ≤ (9223372036854775807 : Int) := by clear q; exact (by omega)
     have e : Ze s1_0 s2_1 (k + 1) x_l0 = (Ze s1_0 s2_1 k (x_l0 + 1)) := by simp only [Ze, h_0, h_1, h_2, cond_true, cond_false]
     rw [e]
     exact nextR E0Ok Z3 [] (mR false [0, 2, 7, 3, 24]) [] (ih (x_l0 + 1) (show 0 ≤ (x_l0 + 1) from (by omega)) (by omega)) (q (sB h_2 <| sI (x_l0 + 1) y_3 y_4 <| sN)) (by kernel_rfl)
  | false =>
   have gh_0 := of_decide_eq_false h_0
   have e : Ze s1_0 s2_1 (k + 1) x_l0 = (.inr ()) := by simp only [Ze, h_0, cond_false]
   rw [e]
   exact outR (e := (.exit 0)) E0Ok Z3 [] (mR false [0, 2, 7, 1, 26]) [] (sB h_0 <| sN) (by kernel_rfl) (by intro h; cases h)
def Z1C (s1_0 : (List Int)) (s2_1 : (List Int)) : (Int) ⊕ (Unit) := (Ze s1_0 s2_1 (((s1_0.length : Int) - 0).toNat + 1) 0)
def Z1j (s1_0 : (List Int)) (s2_1 : (List Int)) : Int := (match (Z1C s1_0 s2_1) with
  | .inl r1 => r1
  | .inr r1 => (cond (decide ((s1_0.length : Int) < (s2_1.length : Int)))
    (-1)
    0))
theorem Z5v (s1_0 : (List Int)) (s2_1 : (List Int)) (hp0 : s1_0.length ≤ 1073741824) (hp1 : s2_1.length ≤ 1073741824)  : Fn prog 155 [.sl (s1_0.map (cI .i64)), .sl (s2_1.map (cI .i64))] (.i .i64 (Z1j s1_0 s2_1)) [] := by
 have p {a C} (s : Scr a C) := sZ (cI .i64) s1_0 <| s
 cases h0 : (Z1C s1_0 s2_1) with
 | inl r1 =>
  refine fnS E0Ok Z3 (c := bodyOf f155) [] (.i .i64 r1) [] func155 (p (sL (mR false [0, 2, 7, 3, 24]) 0 (lp_val (Z2f s1_0 s2_1) (x := (Z1C s1_0 s2_1)) (Z3r s1_0 s2_1 hp0 hp1 (((s1_0.length : Int) - 0).toNat + 1) 0 (show 0 ≤ 0 from (by omega)) (Nat.lt_succ_self _)) h0) <| sK [] sN)) rfl (by kernel_rfl) (by kernel_rfl) rfl ?_ ?_
  · simp only [Z1j, h0]
  · rfl
 | inr r1 =>
  have q {a C} (s : Scr a C) := p (sL (mR false [0, 2, 7, 3, 24]) 0 (lp_val (Z2f s1_0 s2_1) (x := (Z1C s1_0 s2_1)) (Z3r s1_0 s2_1 hp0 hp1 (((s1_0.length : Int) - 0).toNat + 1) 0 (show 0 ≤ 0 from (by omega)) (Nat.lt_succ_self _)) h0) <| sZ (cI .i64) s1_0 <| sZ (cI .i64) s2_1 <| s)
  clear p
  cases h1 : (decide ((s1_0.length : Int) < (s2_1.length : Int))) with
  | true =>
   have gh1 := of_decide_eq_true h1
   refine fnS E0Ok Z3 (c := bodyOf f155) [] (.i .i64 (-1)) [] func155 (q (sB h1 <| sK [] sN)) rfl (by kernel_rfl) (by kernel_rfl) rfl ?_ ?_
   · simp only [Z1j, h0, h1, cond_true]
   · rfl
  | false =>
   have gh1 := of_decide_eq_false h1
   refine fnS E0Ok Z3 (c := bodyOf f155) [] (.i .i64 0) [] func155 (q (sB h1 <| sK [] sN)) rfl (by kernel_rfl) (by kernel_rfl) rfl ?_ ?_
   · simp only [Z1j, h0, h1, cond_false]
   · rfl
def Z4t (a_0 : Gedge) (b_1 : Gedge) : Int := (Z1j ([a_0.e0, a_0.e1]) ([b_1.e0, b_1.e1]))
theorem Z6a (a_0 : Gedge) (b_1 : Gedge)   : Fn prog 151 [.agg [.i .i64 a_0.e0, .i .i64 a_0.e1], .agg [.i .i64 b_1.e0, .i .i64 b_1.e1]] (.i .i64 (Z4t a_0 b_1)) [] := by
 have y0 : ([a_0.e0, a_0.e1]).length ≤ 1073741824 := (by simp_all <;> omega)
 have y1 : ([b_1.e0, b_1.e1]).length ≤ 1073741824 := (by assumption)
 refine fnS E0Ok Z3 (c := bodyOf f151) [] (.i .i64 (Z1j ([a_0.e0, a_0.e1]) ([b_1.e0, b_1.e1]))) [] func151 (sK [2, 2] <| sF (Z5v ([a_0.e0, a_0.e1]) ([b_1.e0, b_1.e1]) y0 y1) <| sK [] sN) rfl (by kernel_rfl) (by kernel_rfl) rfl ?_ ?_
 · rfl
 · rfl
def Z2 (m_0 : GMesh) (x_l0 : Int) (x_l0_1 : Int) : Gedge := (Z4h ((m_0.Triangles.getD x_l0.toNat default).getD x_l0_1.toNat default) ((m_0.Triangles.getD x_l0.toNat default).getD (Int.tmod (x_l0_1 + 1) 3).toNat default))
def Za (m_0 : GMesh) (x_l0 : Int) (r1_l1 : (List (Gedge × List Int))) (r2_l2 : (List Gedge)) : Nat → Int → (List (Gedge × List Int)) → (List Gedge) → (List (Gedge × List Int)) × (List Gedge)
  | 0, _, _, _ => default
  | k + 1, x_l0_1, r1_l1_1, r2_l2_1 => (cond (decide (x_l0_1 < 3))
    (cond (mhas r1_l1_1 (Z2 m_0 x_l0 x_l0_1))
      (cond (((r1_l1_1.getD (midx r1_l1_1 (Z2 m_0 x_l0 x_l0_1)) default).2.length : Int) == 0)
        (Za m_0 x_l0 r1_l1 r2_l2 k (x_l0_1 + 1) (mput r1_l1_1 (midx r1_l1_1 (Z2 m_0 x_l0 x_l0_1)) ((r1_l1_1.getD (midx r1_l1_1 (Z2 m_0 x_l0 x_l0_1)) default).2 ++ [x_l0])) (r2_l2_1 ++ [(Z2 m_0 x_l0 x_l0_1)]))
        (Za m_0 x_l0 r1_l1 r2_l2 k (x_l0_1 + 1) (mput r1_l1_1 (midx r1_l1_1 (Z2 m_0 x_l0 x_l0_1)) ((r1_l1_1.getD (midx r1_l1_1 (Z2 m_0 x_l0 x_l0_1)) default).2 ++ [x_l0])) r2_l2_1))
      (Za m_0 x_l0 r1_l1 r2_l2 k (x_l0_1 + 1) (r1_l1_1 ++ [((Z2 m_0 x_l0 x_l0_1), [x_l0])]) (r2_l2_1 ++ [(Z2 m_0 x_l0 x_l0_1)])))
    (r1_l1_1, r2_l2_1))
def Z3z (m_0 : GMesh) (x_l0 : Int) (r1_l1 : (List (Gedge × List Int))) (r2_l2 : (List Gedge)) (r : (List (Gedge × List Int)) × (List Gedge)) : Ex × St := ((.exit 2), ⟨.agg [.sl (m_0.Places.map GVector.cells), .sl (m_0.Triangles.map (cL (cI .i64)))] :: .ptr 0 0 0 :: .any :: .nils :: .mp 1 :: .own 2 :: .i .i64 x_l0 :: .sl ((m_0.Triangles.getD x_l0.toNat default).map (cI .i64)) :: .any :: .any :: .mp 1 :: .any :: .ptr 0 0 1 :: .sl (m_0.Triangles.map (cL (cI .i64))) :: .i .i64 (m_0.Triangles.length : Int) :: .i .i64 x_l0 :: .b (decide (x_l0 < (m_0.Triangles.length : Int))) :: .i .i64 x_l0 :: .ref [.sl ((m_0.Triangles.getD x_l0.toNat default).map (cI .i64))] 0 :: .sl ((m_0.Triangles.getD x_l0.toNat default).map (cI .i64)) :: an 37 [], [.box 38 [.sl (m_0.Places.map GVector.cells), .sl (m_0.Triangles.map (cL (cI .i64)))], .mapN 2 (mapC Gedge.pr (cI .i64) r.1) none, .vec 167 2 (r.2.map Gedge.cells) false]⟩)
def Z6B (m_0 : GMesh) (x_l0 : Int) (r1_l1 : (List (Gedge × List Int))) (r2_l2 : (List Gedge)) (x_l0_1 : Int) (r1_l1_1 : (List (Gedge × List Int))) (r2_l2_1 : (List Gedge)) : St := ⟨.agg [.sl (m_0.Places.map GVector.cells), .sl (m_0.Triangles.map (cL (cI .i64)))] :: .ptr 0 0 0 :: .any :: .nils :: .mp 1 :: .own 2 :: .i .i64 x_l0 :: .sl ((m_0.Triangles.getD x_l0.toNat default).map (cI .i64)) :: .any :: .any :: .mp 1 :: .any :: .ptr 0 0 1 :: .sl (m_0.Triangles.map (cL (cI .i64))) :: .i .i64 (m_0.Triangles.length : Int) :: .i .i64 x_l0 :: .b (decide (x_l0 < (m_0.Triangles.length : Int))) :: .i .i64 x_l0 :: .ref [.sl ((m_0.Triangles.getD x_l0.toNat default).map (cI .i64))] 0 :: .sl ((m_0.Triangles.getD x_l0.toNat default).map (cI .i64)) :: .i .i64 x_l0_1 :: an 36 [], [.box 38 [.sl (m_0.Places.map GVector.cells), .sl (m_0.Triangles.map (cL (cI .i64)))], .mapN 2 (mapC Gedge.pr (cI .i64) r1_l1_1) none, .vec 167 2 (r2_l2_1.map Gedge.cells) false]⟩
set_option maxHeartbeats 1000000 in
theorem Z6C (m_0 : GMesh) (x_l0 : Int) (r1_l1 : (List (Gedge × List Int))) (r2_l2 : (List Gedge)) (hp0 : m_0.Places.length ≤ 1073741824) (hp1 : m_0.Triangles.length ≤ 1073741824) (hp2 : ∀ t ∈ m_0.Triangles, t.length ≤ 1073741824) (hp3 : OkE m_0.Places.length m_0.Triangles) (Zv : 0 ≤ x_l0) (Z2O : (r2_l2.length : Int) ≤ 3 * x_l0) (Z2o : ∀ y ∈ r1_l1, (y.2.length : Int) ≤ 3 * x_l0) (Z1D : (decide (x_l0 < (m_0.Triangles.length : Int))) = true) : ∀ (k : Nat) (x_l0_1 : Int) (r1_l1_1 : (List (Gedge × List Int))) (r2_l2_1 : (List Gedge)) (Z1a : 0 ≤ x_l0_1) (Z43 : (r2_l2_1.length : Int) ≤ (r2_l2.length : Int) + x_l0_1) (Z44 : ∀ y ∈ r1_l1_1, (y.2.length : Int) ≤ 3 * x_l0 + x_l0_1) (hk : ((3 : Int) - x_l0_1).toNat < k), Lp prog 0 (sub (bodyOf f141) [1, 1, 0, 1, 0, 0, 1, 1, 0, 0, 1, 1, 0, 0]) (Z6B m_0 x_l0 r1_l1 r2_l2 x_l0_1 r1_l1_1 r2_l2_1) (Z3z m_0 x_l0 r1_l1 r2_l2 (Za m_0 x_l0 r1_l1 r2_l2 k x_l0_1 r1_l1_1 r2_l2_1)).1 (Z3z m_0 x_l0 r1_l1 r2_l2 (Za m_0 x_l0 r1_l1 r2_l2 k x_l0_1 r1_l1_1 r2_l2_1)).2 := by
 intro k
 induction k with
 | zero => intro x_l0_1 r1_l1_1 r2_l2_1 Z1a Z43 Z44 hk; exact absurd hk (Nat.not_lt_zero _)
 | succ k ih =>
  intro x_l0_1 r1_l1_1 r2_l2_1 Z1a Z43 Z44 hk
  cases h__0 : (decide (x_l0_1 < 3)) with
  | true =>
   have gh__0 := of_decide_eq_true h__0
   have y__0 : (0 : Int) ≤ x_l0_1 := (by assumption)
   have y__1 : x_l0_1 < ((m_0.Triangles.getD x_l0.toNat default).length : Int) := (by ((have g5 := of_decide_eq_true Z1D; have q := OkE.at hp3 Zv g5 Z1a (of_decide_eq_true (by assumption)); omega)))
   have y__2 : (-9223372036854775808 : Int) ≤ (x_l0_1 + 1) := (by omega)
   have y__3 : (x_l0_1 + 1) ≤ (9223372036854775807 : Int) := (by omega)
   have y__4 : (0 : Int) ≤ (Int.tmod (x_l0_1 + 1) 3) := (by ((have g5 := of_decide_eq_true Z1D; have q := OkE.at hp3 Zv g5 Z1a (of_decide_eq_true (by assumption)); omega)))
   have y__5 : (Int.tmod (x_l0_1 + 1) 3) < ((m_0.Triangles.getD x_l0.toNat default).length : Int) := (by ((have g5 := of_decide_eq_true Z1D; have q := OkE.at hp3 Zv g5 Z1a (of_decide_eq_true (by assumption)); omega)))
   have p {a C} (s : Scr a C) := sB h__0 <| sK [12, 12] <| sG (cI .i64) (m_0.Triangles.getD x_l0.toNat default) x_l0_1 y__0 y__1 <| sI (x_l0_1 + 1) y__2 y__3 <| sC (show (3 : Int) ≠ 0 from (by decide)) <| sQ (Int.tmod (x_l0_1 + 1) 3) <| sG (cI .i64) (m_0.Triangles.getD x_l0.toNat default) (Int.tmod (x_l0_1 + 1) 3) y__4 y__5 <| sF (Z9Z ((m_0.Triangles.getD x_l0.toNat default).getD x_l0_1.toNat default) ((m_0.Triangles.getD x_l0.toNat default).getD (Int.tmod (x_l0_1 + 1) 3).toNat default)) <| s
   cases h__1 : (mhas r1_l1_1 (Z2 m_0 x_l0 x_l0_1)) with
   | true =>
    have m__16 := midx_lt h__1
    have q {a C} (s : Scr a C) := p (sA (.keep [midx r1_l1_1 (Z2 m_0 x_l0 x_l0_1)]) <| sC (mget_ok (ck := Gedge.pr) (cv := (cI .i64)) h__1) <| sM (mget_len (ck := Gedge.pr) (cv := (cI .i64)) (l := r1_l1_1) (j := (midx r1_l1_1 (Z2 m_0 x_l0 x_l0_1)))) <| s)
    clear p
    cases h__2 : (((r1_l1_1.getD (midx r1_l1_1 (Z2 m_0 x_l0 x_l0_1)) default).2.length : Int) == 0) with
    | true =>
     have gh__2 := eq_of_beq h__2
     have y__6 : r2_l2_1.length + ([(Z2 m_0 x_l0 x_l0_1)]).length ≤ 1073741824 := by clear q; exact (by ((have g5 := of_decide_eq_true Z1D; have q := OkE.at hp3 Zv g5 Z1a (of_decide_eq_true (by assumption)); (simp only [List.length_append, List.length_cons, List.length_nil]; omega))))
     have y__7 : (midx r1_l1_1 (Z2 m_0 x_l0 x_l0_1)) < r1_l1_1.length := by clear q; exact (by assumption)
     have y__8 : ((r1_l1_1.getD (midx r1_l1_1 (Z2 m_0 x_l0 x_l0_1)) default).2).length + ([x_l0]).length ≤ 1073741824 := by clear q; exact (by ((have g5 := of_decide_eq_true Z1D; have q := OkE.at hp3 Zv g5 Z1a (of_decide_eq_true (by assumption)); (simp only [List.length_append, List.length_cons, List.length_nil]; omega))))
     have e : Za m_0 x_l0 r1_l1 r2_l2 (k + 1) x_l0_1 r1_l1_1 r2_l2_1 = (Za m_0 x_l0 r1_l1 r2_l2 k (x_l0_1 + 1) (mput r1_l1_1 (midx r1_l1_1 (Z2 m_0 x_l0 x_l0_1)) ((r1_l1_1.getD (midx r1_l1_1 (Z2 m_0 x_l0 x_l0_1)) default).2 ++ [x_l0])) (r2_l2_1 ++ [(Z2 m_0 x_l0 x_l0_1)])) := by simp only [Za, h__0, h__1, h__2, cond_true]
     rw [e]
     exact nextS E0Ok Z3 [] (mR false [0, 2, 1, 5, 2, 1, 1, 9, 36]) [0, 1, 2] (⟨.agg [.sl (m_0.Places.map GVector.cells), .sl (m_0.Triangles.map (cL (cI .i64)))] :: .ptr 0 0 0 :: .any :: .nils :: .mp 1 :: .own 2 :: .i .i64 x_l0 :: .sl ((m_0.Triangles.getD x_l0.toNat default).map (cI .i64)) :: .any :: .any :: .mp 1 :: .any :: .ptr 0 0 1 :: .sl (m_0.Triangles.map (cL (cI .i64))) :: .i .i64 (m_0.Triangles.length : Int) :: .i .i64 x_l0 :: .b (decide (x_l0 < (m_0.Triangles.length : Int))) :: .i .i64 x_l0 :: .ref [.sl ((m_0.Triangles.getD x_l0.toNat default).map (cI .i64))] 0 :: .sl ((m_0.Triangles.getD x_l0.toNat default).map (cI .i64)) :: .i .i64 (x_l0_1 + 1) :: an 36 [], [.box 38 [.sl (m_0.Places.map GVector.cells), .sl (m_0.Triangles.map (cL (cI .i64)))], .mapN 2 (((mapC Gedge.pr (cI .i64) r1_l1_1).set (midx r1_l1_1 (Z2 m_0 x_l0 x_l0_1)) (((mapC Gedge.pr (cI .i64) r1_l1_1).getD (midx r1_l1_1 (Z2 m_0 x_l0 x_l0_1)) default).1, [])).set (midx r1_l1_1 (Z2 m_0 x_l0 x_l0_1)) ((((mapC Gedge.pr (cI .i64) r1_l1_1).set (midx r1_l1_1 (Z2 m_0 x_l0 x_l0_1)) (((mapC Gedge.pr (cI .i64) r1_l1_1).getD (midx r1_l1_1 (Z2 m_0 x_l0 x_l0_1)) default).1, [])).getD (midx r1_l1_1 (Z2 m_0 x_l0 x_l0_1)) default).1, (((mapC Gedge.pr (cI .i64) r1_l1_1).getD (midx r1_l1_1 (Z2 m_0 x_l0 x_l0_1)) default).2 ++ ([x_l0].map (cI .i64))))) none, .vec 167 2 ((r2_l2_1.map Gedge.cells) ++ ([[.i .i64 ((Z2 m_0 x_l0 x_l0_1).e0), .i .i64 ((Z2 m_0 x_l0 x_l0_1).e1)]] : List (List AV))) false]⟩) (q (sB h__2 <| sC (show (r2_l2_1.map Gedge.cells).length + ([[.i .i64 ((Z2 m_0 x_l0 x_l0_1).e0), .i .i64 ((Z2 m_0 x_l0 x_l0_1).e1)]] : List (List AV)).length ≤ 1073741824 from (by simpa using y__6)) <| sA (.keep [midx r1_l1_1 (Z2 m_0 x_l0 x_l0_1)]) <| sC (mget_ok (ck := Gedge.pr) (cv := (cI .i64)) h__1) <| sC (show (midx r1_l1_1 (Z2 m_0 x_l0 x_l0_1)) < (mapC Gedge.pr (cI .i64) r1_l1_1).length from (by simpa using y__7)) <| sC (show (((mapC Gedge.pr (cI .i64) r1_l1_1).getD (midx r1_l1_1 (Z2 m_0 x_l0 x_l0_1)) default).2).length + ([[.i .i64 x_l0]] : List (List AV)).length ≤ 1073741824 from (by simpa using y__8)) <| sA (.keep [(midx r1_l1_1 (Z2 m_0 x_l0 x_l0_1))]) <| sC (show ((midx r1_l1_1 (Z2 m_0 x_l0 x_l0_1)) : Int) = (((midx r1_l1_1 (Z2 m_0 x_l0 x_l0_1)) : Nat) : Int) from rfl) <| sC (show (midx r1_l1_1 (Z2 m_0 x_l0 x_l0_1)) < ((mapC Gedge.pr (cI .i64) r1_l1_1).set (midx r1_l1_1 (Z2 m_0 x_l0 x_l0_1)) (((mapC Gedge.pr (cI .i64) r1_l1_1).getD (midx r1_l1_1 (Z2 m_0 x_l0 x_l0_1)) default).1, [])).length from (by simpa using y__7)) <| sC (show ∀ i, some (midx r1_l1_1 (Z2 m_0 x_l0 x_l0_1)) = some i → i = (midx r1_l1_1 (Z2 m_0 x_l0 x_l0_1)) from (fun i h => by cases h; rfl)) <| sI (x_l0_1 + 1) y__2 y__3 <| sN)) (by kernel_rfl) (show _ = ⟨.agg [.sl (m_0.Places.map GVector.cells), .sl (m_0.Triangles.map (cL (cI .i64)))] :: .ptr 0 0 0 :: .any :: .nils :: .mp 1 :: .own 2 :: .i .i64 x_l0 :: .sl ((m_0.Triangles.getD x_l0.toNat default).map (cI .i64)) :: .any :: .any :: .mp 1 :: .any :: .ptr 0 0 1 :: .sl (m_0.Triangles.map (cL (cI .i64))) :: .i .i64 (m_0.Triangles.length : Int) :: .i .i64 x_l0 :: .b (decide (x_l0 < (m_0.Triangles.length : Int))) :: .i .i64 x_l0 :: .ref [.sl ((m_0.Triangles.getD x_l0.toNat default).map (cI .i64))] 0 :: .sl ((m_0.Triangles.getD x_l0.toNat default).map (cI .i64)) :: .i .i64 (x_l0_1 + 1) :: an 36 [], [.box 38 [.sl (m_0.Places.map GVector.cells), .sl (m_0.Triangles.map (cL (cI .i64)))], .mapN 2 (mapC Gedge.pr (cI .i64) (mput r1_l1_1 (midx r1_l1_1 (Z2 m_0 x_l0 x_l0_1)) ((r1_l1_1.getD (midx r1_l1_1 (Z2 m_0 x_l0 x_l0_1)) default).2 ++ [x_l0]))) none, .vec 167 2 ((r2_l2_1 ++ [(Z2 m_0 x_l0 x_l0_1)]).map Gedge.cells) false]⟩ from (by rw [mapC_put (midx_lt h__1)]; simp [List.map_set, Gedge.cells])) (ih (x_l0_1 + 1) (mput r1_l1_1 (midx r1_l1_1 (Z2 m_0 x_l0 x_l0_1)) ((r1_l1_1.getD (midx r1_l1_1 (Z2 m_0 x_l0 x_l0_1)) default).2 ++ [x_l0])) (r2_l2_1 ++ [(Z2 m_0 x_l0 x_l0_1)]) (show 0 ≤ (x_l0_1 + 1) from (by omega)) (show ((r2_l2_1 ++ [(Z2 m_0 x_l0 x_l0_1)]).length : Int) ≤ (r2_l2.length : Int) + (x_l0_1 + 1) from (by simp only [List.length_append, List.length_cons, List.length_nil]; omega)) (show ∀ y ∈ (mput r1_l1_1 (midx r1_l1_1 (Z2 m_0 x_l0 x_l0_1)) ((r1_l1_1.getD (midx r1_l1_1 (Z2 m_0 x_l0 x_l0_1)) default).2 ++ [x_l0])), (y.2.length : Int) ≤ 3 * x_l0 + (x_l0_1 + 1) from (by exact mput_inv (by assumption) (by omega) (by omega))) (by omega))
    | false =>
     have gh__2 := ne_of_beq_false h__2
     have y__6 : (midx r1_l1_1 (Z2 m_0 x_l0 x_l0_1)) < r1_l1_1.length := by clear q; exact (by assumption)
     have y__7 : ((r1_l1_1.getD (midx r1_l1_1 (Z2 m_0 x_l0 x_l0_1)) default).2).length + ([x_l0]).length ≤ 1073741824 := by clear q; exact (by ((have g5 := of_decide_eq_true Z1D; have q := OkE.at hp3 Zv g5 Z1a (of_decide_eq_true (by assumption)); (have q3 := mlen_leI (N := 3 * x_l0 + x_l0_1) (by omega) (by assumption) (midx r1_l1_1 (Z2 m_0 x_l0 x_l0_1)); simp only [List.length_cons, List.length_nil]; omega))))
     have e : Za m_0 x_l0 r1_l1 r2_l2 (k + 1) x_l0_1 r1_l1_1 r2_l2_1 = (Za m_0 x_l0 r1_l1 r2_l2 k (x_l0_1 + 1) (mput r1_l1_1 (midx r1_l1_1 (Z2 m_0 x_l0 x_l0_1)) ((r1_l1_1.getD (midx r1_l1_1 (Z2 m_0 x_l0 x_l0_1)) default).2 ++ [x_l0])) r2_l2_1) := by simp only [Za, h__0, h__1, h__2, cond_true, cond_false]
     rw [e]
     exact nextS E0Ok Z3 [] (mR false [0, 2, 1, 5, 2, 1, 1, 9, 36]) [0, 1, 2] (⟨.agg [.sl (m_0.Places.map GVector.cells), .sl (m_0.Triangles.map (cL (cI .i64)))] :: .ptr 0 0 0 :: .any :: .nils :: .mp 1 :: .own 2 :: .i .i64 x_l0 :: .sl ((m_0.Triangles.getD x_l0.toNat default).map (cI .i64)) :: .any :: .any :: .mp 1 :: .any :: .ptr 0 0 1 :: .sl (m_0.Triangles.map (cL (cI .i64))) :: .i .i64 (m_0.Triangles.length : Int) :: .i .i64 x_l0 :: .b (decide (x_l0 < (m_0.Triangles.length : Int))) :: .i .i64 x_l0 :: .ref [.sl ((m_0.Triangles.getD x_l0.toNat default).map (cI .i64))] 0 :: .sl ((m_0.Triangles.getD x_l0.toNat default).map (cI .i64)) :: .i .i64 (x_l0_1 + 1) :: an 36 [], [.box 38 [.sl (m_0.Places.map GVector.cells), .sl (m_0.Triangles.map (cL (cI .i64)))], .mapN 2 (((mapC Gedge.pr (cI .i64) r1_l1_1).set (midx r1_l1_1 (Z2 m_0 x_l0 x_l0_1)) (((mapC Gedge.pr (cI .i64) r1_l1_1).getD (midx r1_l1_1 (Z2 m_0 x_l0 x_l0_1)) default).1, [])).set (midx r1_l1_1 (Z2 m_0 x_l0 x_l0_1)) ((((mapC Gedge.pr (cI .i64) r1_l1_1).set (midx r1_l1_1 (Z2 m_0 x_l0 x_l0_1)) (((mapC Gedge.pr (cI .i64) r1_l1_1).getD (midx r1_l1_1 (Z2 m_0 x_l0 x_l0_1)) default).1, [])).getD (midx r1_l1_1 (Z2 m_0 x_l0 x_l0_1)) default).1, (((mapC Gedge.pr (cI .i64) r1_l1_1).getD (midx r1_l1_1 (Z2 m_0 x_l0 x_l0_1)) default).2 ++ ([x_l0].map (cI .i64))))) none, .vec 167 2 (r2_l2_1.map Gedge.cells) false]⟩) (q (sB h__2 <| sA (.keep [midx r1_l1_1 (Z2 m_0 x_l0 x_l0_1)]) <| sC (mget_ok (ck := Gedge.pr) (cv := (cI .i64)) h__1) <| sC (show (midx r1_l1_1 (Z2 m_0 x_l0 x_l0_1)) < (mapC Gedge.pr (cI .i64) r1_l1_1).length from (by simpa using y__6)) <| sC (show (((mapC Gedge.pr (cI .i64) r1_l1_1).getD (midx r1_l1_1 (Z2 m_0 x_l0 x_l0_1)) default).2).length + ([[.i .i64 x_l0]] : List (List AV)).length ≤ 1073741824 from (by simpa using y__7)) <| sA (.keep [(midx r1_l1_1 (Z2 m_0 x_l0 x_l0_1))]) <| sC (show ((midx r1_l1_1 (Z2 m_0 x_l0 x_l0_1)) : Int) = (((midx r1_l1_1 (Z2 m_0 x_l0 x_l0_1)) : Nat) : Int) from rfl) <| sC (show (midx r1_l1_1 (Z2 m_0 x_l0 x_l0_1)) < ((mapC Gedge.pr (cI .i64) r1_l1_1).set (midx r1_l1_1 (Z2 m_0 x_l0 x_l0_1)) (((mapC Gedge.pr (cI .i64) r1_l1_1).getD (midx r1_l1_1 (Z2 m_0 x_l0 x_l0_1)) default).1, [])).length from (by simpa using y__6)) <| sC (show ∀ i, some (midx r1_l1_1 (Z2 m_0 x_l0 x_l0_1)) = some i → i = (midx r1_l1_1 (Z2 m_0 x_l0 x_l0_1)) from (fun i h => by cases h; rfl)) <| sI (x_l0_1 + 1) y__2 y__3 <| sN)) (by kernel_rfl) (show _ = ⟨.agg [.sl (m_0.Places.map GVector.cells), .sl (m_0.Triangles.map (cL (cI .i64)))] :: .ptr 0 0 0 :: .any :: .nils :: .mp 1 :: .own 2 :: .i .i64 x_l0 :: .sl ((m_0.Triangles.getD x_l0.toNat default).map (cI .i64)) :: .any :: .any :: .mp 1 :: .any :: .ptr 0 0 1 :: .sl (m_0.Triangles.map (cL (cI .i64))) :: .i .i64 (m_0.Triangles.length : Int) :: .i .i64 x_l0 :: .b (decide (x_l0 < (m_0.Triangles.length : Int))) :: .i .i64 x_l0 :: .ref [.sl ((m_0.Triangles.getD x_l0.toNat default).map (cI .i64))] 0 :: .sl ((m_0.Triangles.getD x_l0.toNat default).map (cI .i64)) :: .i .i64 (x_l0_1 + 1) :: an 36 [], [.box 38 [.sl (m_0.Places.map GVector.cells), .sl (m_0.Triangles.map (cL (cI .i64)))], .mapN 2 (mapC Gedge.pr (cI .i64) (mput r1_l1_1 (midx r1_l1_1 (Z2 m_0 x_l0 x_l0_1)) ((r1_l1_1.getD (midx r1_l1_1 (Z2 m_0 x_l0 x_l0_1)) default).2 ++ [x_l0]))) none, .vec 167 2 (r2_l2_1.map Gedge.cells) false]⟩ from (by rw [mapC_put (midx_lt h__1)]; done)) (ih (x_l0_1 + 1) (mput r1_l1_1 (midx r1_l1_1 (Z2 m_0 x_l0 x_l0_1)) ((r1_l1_1.getD (midx r1_l1_1 (Z2 m_0 x_l0 x_l0_1)) default).2 ++ [x_l0])) r2_l2_1 (show 0 ≤ (x_l0_1 + 1) from (by omega)) (show (r2_l2_1.length : Int) ≤ (r2_l2.length : Int) + (x_l0_1 + 1) from (by omega)) (show ∀ y ∈ (mput r1_l1_1 (midx r1_l1_1 (Z2 m_0 x_l0 x_l0_1)) ((r1_l1_1.getD (midx r1_l1_1 (Z2 m_0 x_l0 x_l0_1)) default).2 ++ [x_l0])), (y.2.length : Int) ≤ 3 * x_l0 + (x_l0_1 + 1) from (by exact mput_inv (by assumption) (by omega) (by omega))) (by omega))
   | false =>
    have y__6 : r2_l2_1.length + ([(Z2 m_0 x_l0 x_l0_1)]).length ≤ 1073741824 := by clear p; exact (by ((have g5 := of_decide_eq_true Z1D; have q := OkE.at hp3 Zv g5 Z1a (of_decide_eq_true (by assumption)); (simp only [List.length_append, List.length_cons, List.length_nil]; omega))))
    have e : Za m_0 x_l0 r1_l1 r2_l2 (k + 1) x_l0_1 r1_l1_1 r2_l2_1 = (Za m_0 x_l0 r1_l1 r2_l2 k (x_l0_1 + 1) (r1_l1_1 ++ [((Z2 m_0 x_l0 x_l0_1), [x_l0])]) (r2_l2_1 ++ [(Z2 m_0 x_l0 x_l0_1)])) := by simp only [Za, h__0, h__1, cond_true, cond_false]
    rw [e]
    exact nextS E0Ok Z3 [] (mR false [0, 2, 1, 5, 2, 1, 1, 9, 36]) [0, 1, 2] (⟨.agg [.sl (m_0.Places.map GVector.cells), .sl (m_0.Triangles.map (cL (cI .i64)))] :: .ptr 0 0 0 :: .any :: .nils :: .mp 1 :: .own 2 :: .i .i64 x_l0 :: .sl ((m_0.Triangles.getD x_l0.toNat default).map (cI .i64)) :: .any :: .any :: .mp 1 :: .any :: .ptr 0 0 1 :: .sl (m_0.Triangles.map (cL (cI .i64))) :: .i .i64 (m_0.Triangles.length : Int) :: .i .i64 x_l0 :: .b (decide (x_l0 < (m_0.Triangles.length : Int))) :: .i .i64 x_l0 :: .ref [.sl ((m_0.Triangles.getD x_l0.toNat default).map (cI .i64))] 0 :: .sl ((m_0.Triangles.getD x_l0.toNat default).map (cI .i64)) :: .i .i64 (x_l0_1 + 1) :: an 36 [], [.box 38 [.sl (m_0.Places.map GVector.cells), .sl (m_0.Triangles.map (cL (cI .i64)))], .mapN 2 (((mapC Gedge.pr (cI .i64) r1_l1_1) ++ [((Gedge.pr (Z2 m_0 x_l0 x_l0_1)), [])]).set (mapC Gedge.pr (cI .i64) r1_l1_1).length ((((mapC Gedge.pr (cI .i64) r1_l1_1) ++ [((Gedge.pr (Z2 m_0 x_l0 x_l0_1)), [])]).getD (mapC Gedge.pr (cI .i64) r1_l1_1).length default).1, (([x_l0]).map (cI .i64)))) none, .vec 167 2 ((r2_l2_1.map Gedge.cells) ++ ([[.i .i64 ((Z2 m_0 x_l0 x_l0_1).e0), .i .i64 ((Z2 m_0 x_l0 x_l0_1).e1)]] : List (List AV))) false]⟩) (p (sA (.keep []) <| sC (mnot_ok (ck := Gedge.pr) (cv := (cI .i64)) Gedge.inj h__1) <| sM (show ((0 : Nat) : Int) = 0 from rfl) <| sB (show (0 == 0) = true from rfl) <| sC (show (r2_l2_1.map Gedge.cells).length + ([[.i .i64 ((Z2 m_0 x_l0 x_l0_1).e0), .i .i64 ((Z2 m_0 x_l0 x_l0_1).e1)]] : List (List AV)).length ≤ 1073741824 from (by simpa using y__6)) <| sA (.keep []) <| sC (mnot_ok (ck := Gedge.pr) (cv := (cI .i64)) Gedge.inj h__1) <| sC (show ([[.i .i64 x_l0]] : List (List AV)) ≠ [] from (by simp)) <| sC (show ([[.i .i64 x_l0]] : List (List AV)).length ≤ 1073741824 from (by simp)) <| sA (.keep [(mapC Gedge.pr (cI .i64) r1_l1_1).length]) <| sC (show ((mapC Gedge.pr (cI .i64) r1_l1_1).length : Int) = (((mapC Gedge.pr (cI .i64) r1_l1_1).length : Nat) : Int) from rfl) <| sC (show (mapC Gedge.pr (cI .i64) r1_l1_1).length < ((mapC Gedge.pr (cI .i64) r1_l1_1) ++ [((Gedge.pr (Z2 m_0 x_l0 x_l0_1)), [])]).length from (by simp)) <| sC (show ∀ i, (none : Option Nat) = some i → i = (mapC Gedge.pr (cI .i64) r1_l1_1).length from (fun i h => by cases h)) <| sI (x_l0_1 + 1) y__2 y__3 <| sN)) (by kernel_rfl) (show _ = ⟨.agg [.sl (m_0.Places.map GVector.cells), .sl (m_0.Triangles.map (cL (cI .i64)))] :: .ptr 0 0 0 :: .any :: .nils :: .mp 1 :: .own 2 :: .i .i64 x_l0 :: .sl ((m_0.Triangles.getD x_l0.toNat default).map (cI .i64)) :: .any :: .any :: .mp 1 :: .any :: .ptr 0 0 1 :: .sl (m_0.Triangles.map (cL (cI .i64))) :: .i .i64 (m_0.Triangles.length : Int) :: .i .i64 x_l0 :: .b (decide (x_l0 < (m_0.Triangles.length : Int))) :: .i .i64 x_l0 :: .ref [.sl ((m_0.Triangles.getD x_l0.toNat default).map (cI .i64))] 0 :: .sl ((m_0.Triangles.getD x_l0.toNat default).map (cI .i64)) :: .i .i64 (x_l0_1 + 1) :: an 36 [], [.box 38 [.sl (m_0.Places.map GVector.cells), .sl (m_0.Triangles.map (cL (cI .i64)))], .mapN 2 (mapC Gedge.pr (cI .i64) (r1_l1_1 ++ [((Z2 m_0 x_l0 x_l0_1), [x_l0])])) none, .vec 167 2 ((r2_l2_1 ++ [(Z2 m_0 x_l0 x_l0_1)]).map Gedge.cells) false]⟩ from (by rw [mapC_new]; simp [List.map_set, Gedge.cells])) (ih (x_l0_1 + 1) (r1_l1_1 ++ [((Z2 m_0 x_l0 x_l0_1), [x_l0])]) (r2_l2_1 ++ [(Z2 m_0 x_l0 x_l0_1)]) (show 0 ≤ (x_l0_1 + 1) from (by omega)) (show ((r2_l2_1 ++ [(Z2 m_0 x_l0 x_l0_1)]).length : Int) ≤ (r2_l2.length : Int) + (x_l0_1 + 1) from (by simp only [List.length_append, List.length_cons, List.length_nil]; omega)) (show ∀ y ∈ (r1_l1_1 ++ [((Z2 m_0 x_l0 x_l0_1), [x_l0])]), (y.2.length : Int) ≤ 3 * x_l0 + (x_l0_1 + 1) from (by exact mnew_inv (by assumption) (by omega) (by omega))) (by omega))
  | false =>
   have gh__0 := of_decide_eq_false h__0
   have e : Za m_0 x_l0 r1_l1 r2_l2 (k + 1) x_l0_1 r1_l1_1 r2_l2_1 = (r1_l1_1, r2_l2_1) := by simp only [Za, h__0, cond_false]
   rw [e]
   exact outR (e := (.exit 2)) E0Ok Z3 [] (mR false [0, 2, 1, 5, 2, 1, 1, 8, 37]) [0, 1, 2] (sB h__0 <| sN) (by kernel_rfl) (by intro h; cases h)
def Zw (m_0 : GMesh) (x_l0 : Int) (r1_l1 : (List (Gedge × List Int))) (r2_l2 : (List Gedge)) : (List (Gedge × List Int)) × (List Gedge) := (Za m_0 x_l0 r1_l1 r2_l2 (((3 : Int) - 0).toNat + 1) 0 r1_l1 r2_l2)
theorem Zbh (m : GMesh) (i : Int) (b0 : List (Gedge × List Int)) (l0 : List Gedge) (h0 : 0 ≤ i) : ∀ (k : Nat) (x : Int) (b : List (Gedge × List Int)) (l : List Gedge), 0 ≤ x → (3 - x).toNat < k → x ≤ 3 → (l.length : Int) ≤ 3 * i + x → (∀ y ∈ b, (y.2.length : Int) ≤ 3 * i + x) → ((Za m i b0 l0 k x b l).2.length : Int) ≤ 3 * (i + 1) ∧ ∀ y ∈ (Za m i b0 l0 k x b l).1, (y.2.length : Int) ≤ 3 * (i + 1) := by
  intro k
  induction k with
  | zero => intro x b l _ hk; exact absurd hk (Nat.not_lt_zero _)
  | succ k ih =>
    intro x b l hx hk h3 hl hb
    rw [Za]
    cases hc : decide (x < 3) with
    | false => rw [cond_false]; exact ⟨by simp only; omega, fun y hy => by have := hb y hy; omega⟩
    | true =>
      have hc' := of_decide_eq_true hc
      rw [cond_true]
      cases mhas b (Z2 m i x) with
      | true =>
        rw [cond_true]
        cases (((b.getD (midx b (Z2 m i x)) default).2.length : Int) == 0) with
        | true => rw [cond_true]; exact ih _ _ _ (by omega) (by omega) (by omega) (by simp only [List.length_append, List.length_cons, List.length_nil]; omega) (mput_inv hb (by omega) (by omega))
        | false => rw [cond_false]; exact ih _ _ _ (by omega) (by omega) (by omega) (by omega) (mput_inv hb (by omega) (by omega))
      | false => rw [cond_false]; exact ih _ _ _ (by omega) (by omega) (by omega) (by simp only [List.length_append, List.length_cons, List.length_nil]; omega) (mnew_inv hb (by omega) (by omega))
theorem ZaL (m : GMesh) (i : Int) (b : List (Gedge × List Int)) (l : List Gedge) (h0 : 0 ≤ i) (hl : (l.length : Int) ≤ 3 * i) (hb : ∀ y ∈ b, (y.2.length : Int) ≤ 3 * i) :
    ((Zw m i b l).2.length : Int) ≤ 3 * (i + 1) ∧ ∀ y ∈ (Zw m i b l).1, (y.2.length : Int) ≤ 3 * (i + 1) :=
  Zbh m i b l h0 _ 0 b l (Int.le_refl 0) (by omega) (by omega) (by omega) (fun y hy => by have := hb y hy; omega)
def ZH (m_0 : GMesh) : Nat → Int → (List (Gedge × List Int)) → (List Gedge) → (List (Gedge × List Int)) × (List Gedge)
  | 0, _, _, _ => default
  | k + 1, x_l0, r1_l1, r2_l2 => (cond (decide (x_l0 < (m_0.Triangles.length : Int)))
    (ZH m_0 k (x_l0 + 1) ((Zw m_0 x_l0 r1_l1 r2_l2).1) ((Zw m_0 x_l0 r1_l1 r2_l2).2))
    (r1_l1, r2_l2))
def Z3A (m_0 : GMesh) (r : (List (Gedge × List Int)) × (List Gedge)) : Ex × St := ((.exit 0), ⟨.agg [.sl (m_0.Places.map GVector.cells), .sl (m_0.Triangles.map (cL (cI .i64)))] :: .ptr 0 0 0 :: .any :: .nils :: .mp 1 :: .own 2 :: an 4 (.mp 1 :: .any :: .ptr 0 0 1 :: .sl (m_0.Triangles.map (cL (cI .i64))) :: an 43 []), [.box 38 [.sl (m_0.Places.map GVector.cells), .sl (m_0.Triangles.map (cL (cI .i64)))], .mapN 2 (mapC Gedge.pr (cI .i64) r.1) none, .vec 167 2 (r.2.map Gedge.cells) false]⟩)
def Z4A (m_0 : GMesh) (x_l0 : Int) (r1_l1 : (List (Gedge × List Int))) (r2_l2 : (List Gedge)) : St := ⟨.agg [.sl (m_0.Places.map GVector.cells), .sl (m_0.Triangles.map (cL (cI .i64)))] :: .ptr 0 0 0 :: .any :: .nils :: .mp 1 :: .own 2 :: an 4 (.mp 1 :: .any :: .ptr 0 0 1 :: .sl (m_0.Triangles.map (cL (cI .i64))) :: .i .i64 (m_0.Triangles.length : Int) :: .i .i64 x_l0 :: an 41 []), [.box 38 [.sl (m_0.Places.map GVector.cells), .sl (m_0.Triangles.map (cL (cI .i64)))], .mapN 2 (mapC Gedge.pr (cI .i64) r1_l1) none, .vec 167 2 (r2_l2.map Gedge.cells) false]⟩
theorem Z6D (m_0 : GMesh) (hp0 : m_0.Places.length ≤ 1073741824) (hp1 : m_0.Triangles.length ≤ 1073741824) (hp2 : ∀ t ∈ m_0.Triangles, t.length ≤ 1073741824) (hp3 : OkE m_0.Places.length m_0.Triangles) : ∀ (k : Nat) (x_l0 : Int) (r1_l1 : (List (Gedge × List Int))) (r2_l2 : (List Gedge)) (Zv : 0 ≤ x_l0) (Z2O : (r2_l2.length : Int) ≤ 3 * x_l0) (Z2o : ∀ y ∈ r1_l1, (y.2.length : Int) ≤ 3 * x_l0) (hk : ((m_0.Triangles.length : Int) - x_l0).toNat < k), Lp prog 0 (sub (bodyOf f141) [1, 1, 0, 1, 0, 0]) (Z4A m_0 x_l0 r1_l1 r2_l2) (Z3A m_0 (ZH m_0 k x_l0 r1_l1 r2_l2)).1 (Z3A m_0 (ZH m_0 k x_l0 r1_l1 r2_l2)).2 := by
 intro k
 induction k with
 | zero => intro x_l0 r1_l1 r2_l2 Zv Z2O Z2o hk; exact absurd hk (Nat.not_lt_zero _)
 | succ k ih =>
  intro x_l0 r1_l1 r2_l2 Zv Z2O Z2o hk
  cases h_0 : (decide (x_l0 < (m_0.Triangles.length : Int))) with
  | true =>
   have gh_0 := of_decide_eq_true h_0
   have y_0 : (0 : Int) ≤ x_l0 := (by assumption)
   have y_1 : x_l0 < (m_0.Triangles.length : Int) := (by assumption)
   have y_2 : (-9223372036854775808 : Int) ≤ (x_l0 + 1) := (by omega)
   have y_3 : (x_l0 + 1) ≤ (9223372036854775807 : Int) := (by omega)
   have e : ZH m_0 (k + 1) x_l0 r1_l1 r2_l2 = (ZH m_0 k (x_l0 + 1) ((Zw m_0 x_l0 r1_l1 r2_l2).1) ((Zw m_0 x_l0 r1_l1 r2_l2).2)) := by simp only [ZH, h_0, cond_true]
   rw [e]
   exact nextR E0Ok Z3 [] (mR false [0, 2, 1, 3, 4, 1, 1, 4, 41]) [0, 1, 2] (ih (x_l0 + 1) ((Zw m_0 x_l0 r1_l1 r2_l2).1) ((Zw m_0 x_l0 r1_l1 r2_l2).2) (show 0 ≤ (x_l0 + 1) from (by omega)) (show (((Zw m_0 x_l0 r1_l1 r2_l2).2).length : Int) ≤ 3 * (x_l0 + 1) from (by exact (ZaL _ _ _ _ Zv (by assumption) (by assumption)).1)) (show ∀ y ∈ ((Zw m_0 x_l0 r1_l1 r2_l2).1), (y.2.length : Int) ≤ 3 * (x_l0 + 1) from (by exact (ZaL _ _ _ _ Zv (by assumption) (by assumption)).2)) (by omega)) (sB h_0 <| sG (cL (cI .i64)) m_0.Triangles x_l0 y_0 y_1 <| sL (mR false [0, 2, 1, 5, 2, 1, 1, 9, 36]) 3 (lp_val (Z3z m_0 x_l0 r1_l1 r2_l2) (x := (Zw m_0 x_l0 r1_l1 r2_l2)) (Z6C m_0 x_l0 r1_l1 r2_l2 hp0 hp1 hp2 hp3 Zv Z2O Z2o h_0 (((3 : Int) - 0).toNat + 1) 0 r1_l1 r2_l2 (show 0 ≤ 0 from (by omega)) (show (r2_l2.length : Int) ≤ (r2_l2.length : Int) + 0 from (by omega)) (show ∀ y ∈ r1_l1, (y.2.length : Int) ≤ 3 * x_l0 + 0 from (by intro y hy; have q := Z2o y hy; omega)) (Nat.lt_succ_self _)) rfl) <| sI (x_l0 + 1) y_2 y_3 <| sN) (by kernel_rfl)
  | false =>
   have gh_0 := of_decide_eq_false h_0
   have e : ZH m_0 (k + 1) x_l0 r1_l1 r2_l2 = (r1_l1, r2_l2) := by simp only [ZH, h_0, cond_false]
   rw [e]
   exact outR (e := (.exit 0)) E0Ok Z3 [] (mR false [0, 2, 1, 3, 4, 1, 1, 2, 43]) [0, 1, 2] (sB h_0 <| sN) (by kernel_rfl) (by intro h; cases h)
def ZC (m_0 : GMesh) : (List (Gedge × List Int)) × (List Gedge) := (ZH m_0 (((m_0.Triangles.length : Int) - 0).toNat + 1) 0 ([] : (List (Gedge × List Int))) ([] : List Gedge))
theorem Zbm (m : GMesh) (k : Nat) (i : Int) (b : List (Gedge × List Int)) (l : List Gedge) (h0 : 0 ≤ i) : ZH m (k + 1) i b l = cond (decide (i < (m.Triangles.length : Int))) (ZH m k (i + 1) (stT (b, l) (m.Triangles.getD i.toNat default) i).1 (stT (b, l) (m.Triangles.getD i.toNat default) i).2) (b, l) := by
  have st : ∀ (x : Int) (k : Nat) (b : List (Gedge × List Int)) (l : List Gedge), x < 3 → Za m i b l (k + 1) x b l = Za m i b l (k + 1) x b l := fun _ _ _ _ _ => rfl
  have one : ∀ (b0 : List (Gedge × List Int)) (l0 : List Gedge) (k : Nat) (x : Int) (s : List (Gedge × List Int) × List Gedge), x < 3 → Za m i b0 l0 (k + 1) x s.1 s.2 = Za m i b0 l0 k (x + 1) (stE s (Z2 m i x) i).1 (stE s (Z2 m i x) i).2 := by
    intro b0 l0 k x s hx
    rw [Za, decide_eq_true hx, cond_true]
    unfold stE
    cases mhas s.1 (Z2 m i x) with
    | true =>
      rw [cond_true, cond_true]
      cases (((s.1.getD (midx s.1 (Z2 m i x)) default).2.length : Int) == 0) <;> rfl
    | false => rfl
  have tri : Zw m i b l = stT (b, l) (m.Triangles.getD i.toNat default) i := by
    unfold Zw
    show Za m i b l 4 0 (b, l).1 (b, l).2 = _
    rw [one b l 3 0 (b, l) (by omega), one b l 2 (0 + 1) _ (by omega), one b l 1 (0 + 1 + 1) _ (by omega), Za]
    show cond (decide ((3 : Int) < 3)) _ _ = _
    rw [decide_eq_false (by omega), cond_false]
    unfold Z2 stT
    simp only [Zb6]
    rfl
  rw [ZH, tri]
theorem Z9A (m : GMesh) (ok : OkE m.Places.length m.Triangles) : ETab m.Triangles m.Triangles.length (ZC m) := by
  unfold ZC
  exact ETab.loop ok (Zbm m) _ 0 ([], []) (Nat.zero_le _) (ETab.nil _) (by omega)
theorem Zbi (m : GMesh) (ok : OkE m.Places.length m.Triangles) : (ZC m).2.length ≤ 4096 := by
  have h := congrArg List.length ((Z9A m ok).sorted ok)
  rw [length_sortE] at h
  rw [h]; exact edgL_len ok
end Go.Ab
namespace Go.Proofs
open Go.Shelf
def Tryz.laysF0n6_ren : Go.Shelf.Ren := ⟨fun | 6 => 150 | 15 => 154 | 14 => 153 | 28 => 164 | 29 => 165 | 20 => 156 | 21 => 157 | 22 => 158 | 23 => 159 | 24 => 160 | 25 => 161 | 26 => 162 | 27 => 163 | 46 => 167 | 47 => 168 | 48 => 169 | 49 => 170 | 50 => 171 | 57 => 173 | n => n, fun | 22 => 163 | 24 => 167 | 25 => 175 | 3 => 3 | 39 => 178 | 0 => 0 | 53 => 189 | 55 => 191 | 4 => 4 | 46 => 182 | 45 => 181 | 50 => 186 | 5 => 5 | 9 => 9 | 66 => 193 | 70 => 197 | 76 => 200 | 77 => 201 | n => n, fun | n => n⟩
theorem Tryz.laysF0n6 : Go.Proofs.SlLaysF0.n6 Tryz.prog Tryz.laysF0n6_ren := {
  mixed := by kernel_rfl
  f6 := ⟨Tryz.f150.name, by decide, Tryz.func150.trans (congrArg some (by kernel_rfl))⟩
  f14 := ⟨Tryz.f153.name, by decide, Tryz.func153.trans (congrArg some (by kernel_rfl))⟩
  f15 := Tryz.func154.trans (congrArg some (by kernel_rfl))
  f20 := ⟨Tryz.f156.name, by decide, Tryz.func156.trans (congrArg some (by kernel_rfl))⟩
  f21 := ⟨Tryz.f157.name, by decide, Tryz.func157.trans (congrArg some (by kernel_rfl))⟩
  f22 := ⟨Tryz.f158.name, by decide, Tryz.func158.trans (congrArg some (by kernel_rfl))⟩
  f23 := ⟨Tryz.f159.name, by decide, Tryz.func159.trans (congrArg some (by kernel_rfl))⟩
  f24 := ⟨Tryz.f160.name, by decide, Tryz.func160.trans (congrArg some (by kernel_rfl))⟩
  f25 := ⟨Tryz.f161.name, by decide, Tryz.func161.trans (congrArg some (by kernel_rfl))⟩
  f26 := ⟨Tryz.f162.name, by decide, Tryz.func162.trans (congrArg some (by kernel_rfl))⟩
  f27 := ⟨Tryz.f163.name, by decide, Tryz.func163.trans (congrArg some (by kernel_rfl))⟩
  f28 := Tryz.func164.trans (congrArg some (by kernel_rfl))
  f29 := Tryz.func165.trans (congrArg some (by kernel_rfl))
  f46 := ⟨Tryz.f167.name, by decide, Tryz.func167.trans (congrArg some (by kernel_rfl))⟩
  f47 := Tryz.func168.trans (congrArg some (by kernel_rfl))
  f48 := Tryz.func169.trans (congrArg some (by kernel_rfl))
  f49 := ⟨Tryz.f170.name, by decide, Tryz.func170.trans (congrArg some (by kernel_rfl))⟩
  f50 := ⟨Tryz.f171.name, by decide, Tryz.func171.trans (congrArg some (by kernel_rfl))⟩
  f57 := ⟨Tryz.f173.name, by decide, Tryz.func173.trans (congrArg some (by kernel_rfl))⟩
  t0 := Tryz.underlying0
  a0 := Tryz.isAgg0
  z0 := Tryz.sizeOf0
  v0 := Tryz.zeroValue0
  t3 := Tryz.underlying3
  a3 := Tryz.isAgg3
  z3 := Tryz.sizeOf3
  v3 := Tryz.zeroValue3
  t4 := Tryz.underlying4
  a4 := Tryz.isAgg4
  z4 := Tryz.sizeOf4
  v4 := Tryz.zeroValue4
  t5 := Tryz.underlying5
  a5 := Tryz.isAgg5
  z5 := Tryz.sizeOf5
  v5 := Tryz.zeroValue5
  t9 := Tryz.underlying9
  a9 := Tryz.isAgg9
  z9 := Tryz.sizeOf9
  v9 := Tryz.zeroValue9
  t22 := Tryz.underlying163
  a22 := Tryz.isAgg163
  z22 := Tryz.sizeOf163
  v22 := Tryz.zeroValue163
  t25 := Tryz.underlying175
  a25 := Tryz.isAgg175
  z25 := Tryz.sizeOf175
  v25 := Tryz.zeroValue175
  t39 := Tryz.underlying178
  a39 := Tryz.isAgg178
  z39 := Tryz.sizeOf178
  v39 := Tryz.zeroValue178
  t45 := Tryz.underlying181
  a45 := Tryz.isAgg181
  z45 := Tryz.sizeOf181
  v45 := Tryz.zeroValue181
  t46 := Tryz.underlying182
  a46 := Tryz.isAgg182
  z46 := Tryz.sizeOf182
  v46 := Tryz.zeroValue182
  t50 := Tryz.underlying186
  a50 := Tryz.isAgg186
  z50 := Tryz.sizeOf186
  v50 := Tryz.zeroValue186
  t53 := Tryz.underlying189
  a53 := Tryz.isAgg189
  z53 := Tryz.sizeOf189
  v53 := Tryz.zeroValue189
  t55 := Tryz.underlying191
  a55 := Tryz.isAgg191
  z55 := Tryz.sizeOf191
  v55 := Tryz.zeroValue191
  t66 := Tryz.underlying193
  a66 := Tryz.isAgg193
  z66 := Tryz.sizeOf193
  v66 := Tryz.zeroValue193
  t70 := Tryz.underlying197
  a70 := Tryz.isAgg197
  z70 := Tryz.sizeOf197
  v70 := Tryz.zeroValue197
  t76 := Tryz.underlying200
  a76 := Tryz.isAgg200
  z76 := Tryz.sizeOf200
  v76 := Tryz.zeroValue200
  t77 := Tryz.underlying201
  a77 := Tryz.isAgg201
  z77 := Tryz.sizeOf201
  v77 := Tryz.zeroValue201 }
end Go.Proofs
namespace Go.Ab
open Go.RowKit Go.Proofs.Tryz
end Go.Ab
