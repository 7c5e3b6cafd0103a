/- The functions of this seat as plain Lean, and that the program's are these. Printed by a program of the prover's own. -/
import Derived.Test.YtiiijolkhbnblaaB1
set_option linter.unusedVariables false
set_option linter.unusedSimpArgs false
set_option maxRecDepth 100000
namespace Go.Ab
open Go.RowKit Go.Proofs.Try

def lr_spec_l01SameAll_1_0 (a_0 : (List Nat)) (b_1 : (List Nat)) : (Unit) ⊕ (Unit) := (lo_spec_l01SameAll_1 a_0 b_1 (((a_0.length : Int) - 0).toNat + 1) 0)

def v_spec_l01SameAll (a_0 : (List Nat)) (b_1 : (List Nat)) : Bool := (cond ((a_0.length : Int) != (b_1.length : Int))
  false
  (match (lr_spec_l01SameAll_1_0 a_0 b_1) with
    | .inl r2 => false
    | .inr r2 => true))

theorem t_spec_l01SameAll (a_0 : (List Nat)) (b_1 : (List Nat)) (hp0 : a_0.length ≤ 1073741824) (hp1 : b_1.length ≤ 1073741824)  : Fn prog 143 [.sl (a_0.map (cF .f32)), .sl (b_1.map (cF .f32))] (.b (v_spec_l01SameAll a_0 b_1)) [] := by
 have p {a C} (s : Scr a C) := sZ (cF .f32) a_0 <| sZ (cF .f32) b_1 <| s
 cases h0 : ((a_0.length : Int) != (b_1.length : Int)) with
 | true =>
  have gh0 := bne_iff_ne.1 h0
  refine fnS E0Ok hMixed (c := bodyOf f143) [] (.b false) [] func143 (p (sB h0 <| sK [] sN)) rfl (by kernel_rfl) (by kernel_rfl) rfl ?_ ?_
  · simp only [v_spec_l01SameAll, h0, cond_true]
  · rfl
 | false =>
  have gh0 := bne_eq_false_iff_eq.1 h0
  have q {a C} (s : Scr a C) := p (sB h0 <| s)
  clear p
  cases h1 : (lr_spec_l01SameAll_1_0 a_0 b_1) with
  | inl r2 =>
   refine fnS E0Ok hMixed (c := bodyOf f143) [] (.b false) [] func143 (q (sL mk_spec_l01SameAll_1_0 0 (lp_val (ls_spec_l01SameAll_1 a_0 b_1) (x := (lr_spec_l01SameAll_1_0 a_0 b_1)) (lp_spec_l01SameAll_1 a_0 b_1 hp0 hp1 h0 (((a_0.length : Int) - 0).toNat + 1) 0 (show 0 ≤ 0 from (by first | assumption | omega | (simp_all <;> omega))) (Nat.lt_succ_self _)) h1) <| sK [] sN)) rfl (by kernel_rfl) (by kernel_rfl) rfl ?_ ?_
   · simp only [v_spec_l01SameAll, h0, h1, cond_false]
   · rfl
  | inr r2 =>
   refine fnS E0Ok hMixed (c := bodyOf f143) [] (.b true) [] func143 (q (sL mk_spec_l01SameAll_1_0 0 (lp_val (ls_spec_l01SameAll_1 a_0 b_1) (x := (lr_spec_l01SameAll_1_0 a_0 b_1)) (lp_spec_l01SameAll_1 a_0 b_1 hp0 hp1 h0 (((a_0.length : Int) - 0).toNat + 1) 0 (show 0 ≤ 0 from (by first | assumption | omega | (simp_all <;> omega))) (Nat.lt_succ_self _)) h1) <| sK [] sN)) rfl (by kernel_rfl) (by kernel_rfl) rfl ?_ ?_
   · simp only [v_spec_l01SameAll, h0, h1, cond_false]
   · rfl

def lo_spec_l03Same_1 (a_0 : GBody) (b_1 : GBody) : Nat → Int → (Unit) ⊕ (Unit)
  | 0, _ => .inl default
  | k + 1, x_l0 => (cond (decide (x_l0 < (a_0.Springs.length : Int)))
    (cond ((a_0.Springs.getD x_l0.toNat default).A != (b_1.Springs.getD x_l0.toNat default).A)
      (.inl ())
      (cond ((a_0.Springs.getD x_l0.toNat default).B != (b_1.Springs.getD x_l0.toNat default).B)
        (.inl ())
        (cond (v_spec_l01Same ((a_0.Springs.getD x_l0.toNat default).Long) ((b_1.Springs.getD x_l0.toNat default).Long))
          (cond (v_spec_l01Same ((a_0.Springs.getD x_l0.toNat default).Stiff) ((b_1.Springs.getD x_l0.toNat default).Stiff))
            (lo_spec_l03Same_1 a_0 b_1 k (x_l0 + 1))
            (.inl ()))
          (.inl ()))))
    (.inr ()))

def ls_spec_l03Same_1 (a_0 : GBody) (b_1 : GBody) : (Unit) ⊕ (Unit) → Ex × St
  | .inl r => (.ret, ⟨[.any, .any, .any, .any, .b false, .any, .any, .any, .any, .any, .any, .any, .any, .any, .any, .any, .any, .any, .any, .any, .any, .any, .any, .any, .any, .any, .any, .any, .any, .any, .any, .any, .any, .any, .any, .any, .any, .any, .any, .any, .any, .any, .any, .any, .any, .any, .any, .any, .any, .any, .any, .any, .any, .any, .any, .any, .any, .any, .any, .any, .any, .any, .any, .any, .any, .any, .any, .any, .any, .any, .any, .any, .any, .any, .any, .any, .any, .any, .any, .any, .any, .any, .any, .any, .any, .any, .any, .any, .any, .any, .any, .any, .any, .any, .any, .any, .any, .any, .any, .any, .any, .any, .any, .any, .any, .any, .any, .any, .any, .any, .any, .any, .any, .any, .any, .any, .any, .any, .any, .any, .any, .any, .any, .any, .any], []⟩)
  | .inr r => ((.exit 0), ⟨[.ref (GBody.cells a_0) 0, .ref (GBody.cells b_1) 0, .any, .any, .any, .any, .any, .any, .ref (GBody.cells a_0) 0, .ref (GBody.cells a_0) 0, .ref (GBody.cells a_0) 0, .agg [.sl (a_0.Mesh.Places.map GVector.cells), .sl (a_0.Mesh.Triangles.map (cL (cI .i64)))], .ref (GBody.cells b_1) 0, .ref (GBody.cells b_1) 0, .ref (GBody.cells b_1) 0, .agg [.sl (b_1.Mesh.Places.map GVector.cells), .sl (b_1.Mesh.Triangles.map (cL (cI .i64)))], .b (v_spec_SameMesh a_0.Mesh b_1.Mesh), .b (!(v_spec_SameMesh a_0.Mesh b_1.Mesh)), .b (!(v_spec_SameMesh a_0.Mesh b_1.Mesh)), .ref (GBody.cells a_0) 0, .ref (GBody.cells a_0) 0, .ref (GBody.cells a_0) 2, .sl (a_0.Springs.map GSpring.cells), .i .i64 (a_0.Springs.length : Int), .ref (GBody.cells b_1) 0, .ref (GBody.cells b_1) 0, .ref (GBody.cells b_1) 2, .sl (b_1.Springs.map GSpring.cells), .i .i64 (b_1.Springs.length : Int), .b ((a_0.Springs.length : Int) != (b_1.Springs.length : Int)), .b ((a_0.Springs.length : Int) != (b_1.Springs.length : Int)), .b ((a_0.Springs.length : Int) != (b_1.Springs.length : Int)), .ref (GBody.cells a_0) 0, .ref (GBody.cells a_0) 0, .ref (GBody.cells a_0) 5, .sl (a_0.Weights.map (cF .f32)), .ref (GBody.cells b_1) 0, .ref (GBody.cells b_1) 0, .ref (GBody.cells b_1) 5, .sl (b_1.Weights.map (cF .f32)), .b (v_spec_l01SameAll a_0.Weights b_1.Weights), .b (!(v_spec_l01SameAll a_0.Weights b_1.Weights)), .b (!(v_spec_l01SameAll a_0.Weights b_1.Weights)), .ref (GBody.cells a_0) 0, .ref (GBody.cells a_0) 0, .ref (GBody.cells a_0) 2, .sl (a_0.Springs.map GSpring.cells), .any, .any, .any, .any, .any, .any, .any, .any, .any, .any, .any, .any, .any, .any, .any, .any, .any, .any, .any, .any, .any, .any, .any, .any, .any, .any, .any, .any, .any, .any, .any, .any, .any, .any, .any, .any, .any, .any, .any, .any, .any, .any, .any, .any, .any, .any, .any, .any, .any, .any, .any, .any, .any, .any, .any, .any, .any, .any, .any, .any, .any, .any, .any, .any, .any, .any, .any, .any, .any, .any, .any, .any, .any, .any, .any, .any, .any, .any], []⟩)

def hd_spec_l03Same_1 (a_0 : GBody) (b_1 : GBody) (x_l0 : Int) : St := ⟨[.ref (GBody.cells a_0) 0, .ref (GBody.cells b_1) 0, .any, .any, .any, .any, .any, .any, .ref (GBody.cells a_0) 0, .ref (GBody.cells a_0) 0, .ref (GBody.cells a_0) 0, .agg [.sl (a_0.Mesh.Places.map GVector.cells), .sl (a_0.Mesh.Triangles.map (cL (cI .i64)))], .ref (GBody.cells b_1) 0, .ref (GBody.cells b_1) 0, .ref (GBody.cells b_1) 0, .agg [.sl (b_1.Mesh.Places.map GVector.cells), .sl (b_1.Mesh.Triangles.map (cL (cI .i64)))], .b (v_spec_SameMesh a_0.Mesh b_1.Mesh), .b (!(v_spec_SameMesh a_0.Mesh b_1.Mesh)), .b (!(v_spec_SameMesh a_0.Mesh b_1.Mesh)), .ref (GBody.cells a_0) 0, .ref (GBody.cells a_0) 0, .ref (GBody.cells a_0) 2, .sl (a_0.Springs.map GSpring.cells), .i .i64 (a_0.Springs.length : Int), .ref (GBody.cells b_1) 0, .ref (GBody.cells b_1) 0, .ref (GBody.cells b_1) 2, .sl (b_1.Springs.map GSpring.cells), .i .i64 (b_1.Springs.length : Int), .b ((a_0.Springs.length : Int) != (b_1.Springs.length : Int)), .b ((a_0.Springs.length : Int) != (b_1.Springs.length : Int)), .b ((a_0.Springs.length : Int) != (b_1.Springs.length : Int)), .ref (GBody.cells a_0) 0, .ref (GBody.cells a_0) 0, .ref (GBody.cells a_0) 5, .sl (a_0.Weights.map (cF .f32)), .ref (GBody.cells b_1) 0, .ref (GBody.cells b_1) 0, .ref (GBody.cells b_1) 5, .sl (b_1.Weights.map (cF .f32)), .b (v_spec_l01SameAll a_0.Weights b_1.Weights), .b (!(v_spec_l01SameAll a_0.Weights b_1.Weights)), .b (!(v_spec_l01SameAll a_0.Weights b_1.Weights)), .ref (GBody.cells a_0) 0, .ref (GBody.cells a_0) 0, .ref (GBody.cells a_0) 2, .sl (a_0.Springs.map GSpring.cells), .i .i64 (a_0.Springs.length : Int), .i .i64 x_l0, .any, .any, .any, .any, .any, .any, .any, .any, .any, .any, .any, .any, .any, .any, .any, .any, .any, .any, .any, .any, .any, .any, .any, .any, .any, .any, .any, .any, .any, .any, .any, .any, .any, .any, .any, .any, .any, .any, .any, .any, .any, .any, .any, .any, .any, .any, .any, .any, .any, .any, .any, .any, .any, .any, .any, .any, .any, .any, .any, .any, .any, .any, .any, .any, .any, .any, .any, .any, .any, .any, .any, .any, .any, .any, .any, .any], []⟩

def mk_spec_l03Same_1_0 : List Bool := [true, true, false, false, false, false, false, false, true, true, true, true, true, true, true, true, true, true, true, true, true, true, true, true, true, true, true, true, true, true, true, true, true, true, true, true, true, true, true, true, true, true, true, true, true, true, true, true, true, false, false, false, false, false, false, false, false, false, false, false, false, false, false, false, false, false, false, false, false, false, false, false, false, false, false, false, false, false, false, false, false, false, false, false, false, false, false, false, false, false, false, false, false, false, false, false, false, false, false, false, false, false, false, false, false, false, false, false, false, false, false, false, false, false, false, false, false, false, false, false, false, false, false, false, false]

def mk_spec_l03Same_1_1 : List Bool := [false, false, false, false, true, false, false, false, false, false, false, false, false, false, false, false, false, false, false, false, false, false, false, false, false, false, false, false, false, false, false, false, false, false, false, false, false, false, false, false, false, false, false, false, false, false, false, false, false, false, false, false, false, false, false, false, false, false, false, false, false, false, false, false, false, false, false, false, false, false, false, false, false, false, false, false, false, false, false, false, false, false, false, false, false, false, false, false, false, false, false, false, false, false, false, false, false, false, false, false, false, false, false, false, false, false, false, false, false, false, false, false, false, false, false, false, false, false, false, false, false, false, false, false, false]

def mk_spec_l03Same_1_2 : List Bool := [true, true, false, false, false, false, false, false, true, true, true, true, true, true, true, true, true, true, true, true, true, true, true, true, true, true, true, true, true, true, true, true, true, true, true, true, true, true, true, true, true, true, true, true, true, true, true, false, false, false, false, false, false, false, false, false, false, false, false, false, false, false, false, false, false, false, false, false, false, false, false, false, false, false, false, false, false, false, false, false, false, false, false, false, false, false, false, false, false, false, false, false, false, false, false, false, false, false, false, false, false, false, false, false, false, false, false, false, false, false, false, false, false, false, false, false, false, false, false, false, false, false, false, false, false]

theorem lp_spec_l03Same_1 (a_0 : GBody) (b_1 : GBody) (hp0 : a_0.Mesh.Places.length ≤ 1073741824) (hp1 : a_0.Mesh.Triangles.length ≤ 1073741824) (hp2 : ∀ t ∈ a_0.Mesh.Triangles, t.length ≤ 1073741824) (hp3 : a_0.Springs.length ≤ 1073741824) (hp4 : a_0.Weights.length ≤ 1073741824) (hp5 : b_1.Mesh.Places.length ≤ 1073741824) (hp6 : b_1.Mesh.Triangles.length ≤ 1073741824) (hp7 : ∀ t ∈ b_1.Mesh.Triangles, t.length ≤ 1073741824) (hp8 : b_1.Springs.length ≤ 1073741824) (hp9 : b_1.Weights.length ≤ 1073741824) (hf_spec_l03Same_1_0 : ((a_0.Springs.length : Int) != (b_1.Springs.length : Int)) = false) : ∀ (k : Nat) (x_l0 : Int) (hv_spec_l03Same_1_0 : 0 ≤ x_l0) (hk : ((a_0.Springs.length : Int) - x_l0).toNat < k), Lp prog 0 (sub (bodyOf f75) [1, 1, 0, 1, 0, 0]) (hd_spec_l03Same_1 a_0 b_1 x_l0) (ls_spec_l03Same_1 a_0 b_1 (lo_spec_l03Same_1 a_0 b_1 k x_l0)).1 (ls_spec_l03Same_1 a_0 b_1 (lo_spec_l03Same_1 a_0 b_1 k x_l0)).2 := by
 intro k
 induction k with
 | zero => intro x_l0 hv_spec_l03Same_1_0 hk; exact absurd hk (Nat.not_lt_zero _)
 | succ k ih =>
  intro x_l0 hv_spec_l03Same_1_0 hk
  cases h_0 : (decide (x_l0 < (a_0.Springs.length : Int))) with
  | true =>
   have gh_0 := of_decide_eq_true h_0
   have y_0 : (0 : Int) ≤ x_l0 := (by first | assumption | omega | (simp_all <;> omega))
   have y_1 : x_l0 < (a_0.Springs.length : Int) := (by first | assumption | omega | (simp_all <;> omega))
   have y_2 : x_l0 < (b_1.Springs.length : Int) := (by first | assumption | omega | (simp_all <;> omega))
   have p {a C} (s : Scr a C) := sB h_0 <| sG GSpring.cells a_0.Springs x_l0 y_0 y_1 <| sG GSpring.cells b_1.Springs x_l0 y_0 y_2 <| s
   cases h_1 : ((a_0.Springs.getD x_l0.toNat default).A != (b_1.Springs.getD x_l0.toNat default).A) with
   | true =>
    have gh_1 := bne_iff_ne.1 h_1
    have e : lo_spec_l03Same_1 a_0 b_1 (k + 1) x_l0 = (.inl ()) := by simp only [lo_spec_l03Same_1, h_0, h_1, cond_true]
    rw [e]
    exact outR (e := .ret) E0Ok hMixed [] mk_spec_l03Same_1_1 [] (p (sB h_1 <| sB h_1 <| sB h_1 <| sB h_1 <| sB h_1 <| sB h_1 <| sB (show true = true from rfl) <| sB (show true = true from rfl) <| sB (show true = true from rfl) <| sB (show true = true from rfl) <| sB (show true = true from rfl) <| sB (show true = true from rfl) <| sB (show true = true from rfl) <| sB (show true = true from rfl) <| sB (show true = true from rfl) <| sB (show true = true from rfl) <| sB (show true = true from rfl) <| sB (show true = true from rfl) <| sB (show true = true from rfl) <| sB (show true = true from rfl) <| sB (show true = true from rfl) <| sN)) (by kernel_rfl) (by intro h; cases h)
   | false =>
    have gh_1 := bne_eq_false_iff_eq.1 h_1
    have q {a C} (s : Scr a C) := p (sB h_1 <| sB h_1 <| sB h_1 <| sB h_1 <| sB h_1 <| sB h_1 <| s)
    clear p
    cases h_2 : ((a_0.Springs.getD x_l0.toNat default).B != (b_1.Springs.getD x_l0.toNat default).B) with
    | true =>
     have gh_2 := bne_iff_ne.1 h_2
     have e : lo_spec_l03Same_1 a_0 b_1 (k + 1) x_l0 = (.inl ()) := by simp only [lo_spec_l03Same_1, h_0, h_1, h_2, cond_true, cond_false]
     rw [e]
     exact outR (e := .ret) E0Ok hMixed [] mk_spec_l03Same_1_1 [] (q (sB h_2 <| sB h_2 <| sB h_2 <| sB h_2 <| sB h_2 <| sB h_2 <| sB h_2 <| sB (show true = true from rfl) <| sB (show true = true from rfl) <| sB (show true = true from rfl) <| sB (show true = true from rfl) <| sB (show true = true from rfl) <| sB (show true = true from rfl) <| sB (show true = true from rfl) <| sB (show true = true from rfl) <| sN)) (by kernel_rfl) (by intro h; cases h)
    | false =>
     have gh_2 := bne_eq_false_iff_eq.1 h_2
     have p {a C} (s : Scr a C) := q (sB h_2 <| sB h_2 <| sB h_2 <| sB h_2 <| sB h_2 <| sF (t_spec_l01Same ((a_0.Springs.getD x_l0.toNat default).Long) ((b_1.Springs.getD x_l0.toNat default).Long)) <| sB h_2 <| sB h_2 <| s)
     clear q
     cases h_3 : (v_spec_l01Same ((a_0.Springs.getD x_l0.toNat default).Long) ((b_1.Springs.getD x_l0.toNat default).Long)) with
     | true =>
      have q {a C} (s : Scr a C) := p (sB' h_3 <| sB' h_3 <| sB' h_3 <| sB' h_3 <| sB' h_3 <| sF (t_spec_l01Same ((a_0.Springs.getD x_l0.toNat default).Stiff) ((b_1.Springs.getD x_l0.toNat default).Stiff)) <| sB' h_3 <| sB' h_3 <| s)
      clear p
      cases h_4 : (v_spec_l01Same ((a_0.Springs.getD x_l0.toNat default).Stiff) ((b_1.Springs.getD x_l0.toNat default).Stiff)) with
      | true =>
       have y_3 : (-9223372036854775808 : Int) ≤ (x_l0 + 1) := by clear q; exact (by first | assumption | omega | (simp_all <;> omega))
       have y_4 : (x_l0 + 1) ≤ (9223372036854775807 : Int) := by clear q; exact (by first | assumption | omega | (simp_all <;> omega))
       have e : lo_spec_l03Same_1 a_0 b_1 (k + 1) x_l0 = (lo_spec_l03Same_1 a_0 b_1 k (x_l0 + 1)) := by simp only [lo_spec_l03Same_1, h_0, h_1, h_2, h_3, h_4, cond_true, cond_false]
       rw [e]
       exact nextR E0Ok hMixed [] mk_spec_l03Same_1_0 [] (ih (x_l0 + 1) (show 0 ≤ (x_l0 + 1) from (by first | assumption | omega | (simp_all <;> omega))) (by first | assumption | omega | (simp_all <;> omega))) (q (sB' h_4 <| sI (x_l0 + 1) y_3 y_4 <| sN)) (by kernel_rfl)
      | false =>
       have e : lo_spec_l03Same_1 a_0 b_1 (k + 1) x_l0 = (.inl ()) := by simp only [lo_spec_l03Same_1, h_0, h_1, h_2, h_3, h_4, cond_true, cond_false]
       rw [e]
       exact outR (e := .ret) E0Ok hMixed [] mk_spec_l03Same_1_1 [] (q (sB' h_4 <| sN)) (by kernel_rfl) (by intro h; cases h)
     | false =>
      have e : lo_spec_l03Same_1 a_0 b_1 (k + 1) x_l0 = (.inl ()) := by simp only [lo_spec_l03Same_1, h_0, h_1, h_2, h_3, cond_true, cond_false]
      rw [e]
      exact outR (e := .ret) E0Ok hMixed [] mk_spec_l03Same_1_1 [] (p (sB' h_3 <| sB' h_3 <| sB' h_3 <| sB' h_3 <| sB' h_3 <| sB' h_3 <| sB' h_3 <| sB (show true = true from rfl) <| sN)) (by kernel_rfl) (by intro h; cases h)
  | false =>
   have gh_0 := of_decide_eq_false h_0
   have e : lo_spec_l03Same_1 a_0 b_1 (k + 1) x_l0 = (.inr ()) := by simp only [lo_spec_l03Same_1, h_0, cond_false]
   rw [e]
   exact outR (e := (.exit 0)) E0Ok hMixed [] mk_spec_l03Same_1_2 [] (sB h_0 <| sN) (by kernel_rfl) (by intro h; cases h)

def lr_spec_l03Same_1_0 (a_0 : GBody) (b_1 : GBody) : (Unit) ⊕ (Unit) := (lo_spec_l03Same_1 a_0 b_1 (((a_0.Springs.length : Int) - 0).toNat + 1) 0)

def v_spec_l03Same (a_0 : GBody) (b_1 : GBody) : Bool := (cond (v_spec_SameMesh a_0.Mesh b_1.Mesh)
  (cond ((a_0.Springs.length : Int) != (b_1.Springs.length : Int))
    false
    (cond (v_spec_l01SameAll a_0.Weights b_1.Weights)
      (match (lr_spec_l03Same_1_0 a_0 b_1) with
        | .inl r4 => false
        | .inr r4 => (cond (v_spec_l01Same a_0.Film b_1.Film)
          (cond (v_spec_l01Same a_0.Bend b_1.Bend)
            (v_spec_l01VSame a_0.Fall b_1.Fall)
            false)
          false))
      false))
  false)

theorem t_spec_l03Same (a_0 : GBody) (b_1 : GBody) (hp0 : a_0.Mesh.Places.length ≤ 1073741824) (hp1 : a_0.Mesh.Triangles.length ≤ 1073741824) (hp2 : ∀ t ∈ a_0.Mesh.Triangles, t.length ≤ 1073741824) (hp3 : a_0.Springs.length ≤ 1073741824) (hp4 : a_0.Weights.length ≤ 1073741824) (hp5 : b_1.Mesh.Places.length ≤ 1073741824) (hp6 : b_1.Mesh.Triangles.length ≤ 1073741824) (hp7 : ∀ t ∈ b_1.Mesh.Triangles, t.length ≤ 1073741824) (hp8 : b_1.Springs.length ≤ 1073741824) (hp9 : b_1.Weights.length ≤ 1073741824)  : Fn prog 75 [.ref (GBody.cells a_0) 0, .ref (GBody.cells b_1) 0] (.b (v_spec_l03Same a_0 b_1)) [] := by
 have p {a C} (s : Scr a C) := sK [32, 32] <| sF (t_spec_SameMesh a_0.Mesh b_1.Mesh hp0 hp1 hp2 hp5 hp6 hp7) <| s
 cases h0 : (v_spec_SameMesh a_0.Mesh b_1.Mesh) with
 | true =>
  have q {a C} (s : Scr a C) := p (sB' h0 <| sB' h0 <| sB' h0 <| sB' h0 <| sB' h0 <| sZ GSpring.cells a_0.Springs <| sB' h0 <| sB' h0 <| sB' h0 <| sB' h0 <| sB' h0 <| sZ GSpring.cells b_1.Springs <| sB' h0 <| sB' h0 <| s)
  clear p
  cases h1 : ((a_0.Springs.length : Int) != (b_1.Springs.length : Int)) with
  | true =>
   have gh1 := bne_iff_ne.1 h1
   refine fnS E0Ok hMixed (c := bodyOf f75) [] (.b false) [] func75 (q (sB h1 <| sB h1 <| sB h1 <| sB h1 <| sB h1 <| sB h1 <| sB h1 <| sB h1 <| sB h1 <| sB h1 <| sB h1 <| sB (show true = true from rfl) <| sK [] sN)) rfl (by kernel_rfl) (by kernel_rfl) rfl ?_ ?_
   · simp only [v_spec_l03Same, h0, h1, cond_true]
   · rfl
  | false =>
   have gh1 := bne_eq_false_iff_eq.1 h1
   have p {a C} (s : Scr a C) := q (sB h1 <| sB h1 <| sB h1 <| sB h1 <| sB h1 <| sB h1 <| sB h1 <| sB h1 <| sB h1 <| sF (t_spec_l01SameAll a_0.Weights b_1.Weights hp4 hp9) <| sB h1 <| sB h1 <| s)
   clear q
   cases h2 : (v_spec_l01SameAll a_0.Weights b_1.Weights) with
   | true =>
    have q {a C} (s : Scr a C) := p (sB' h2 <| sZ GSpring.cells a_0.Springs <| s)
    clear p
    cases h3 : (lr_spec_l03Same_1_0 a_0 b_1) with
    | inl r4 =>
     refine fnS E0Ok hMixed (c := bodyOf f75) [] (.b false) [] func75 (q (sL mk_spec_l03Same_1_0 0 (lp_val (ls_spec_l03Same_1 a_0 b_1) (x := (lr_spec_l03Same_1_0 a_0 b_1)) (lp_spec_l03Same_1 a_0 b_1 hp0 hp1 hp2 hp3 hp4 hp5 hp6 hp7 hp8 hp9 h1 (((a_0.Springs.length : Int) - 0).toNat + 1) 0 (show 0 ≤ 0 from (by first | assumption | omega | (simp_all <;> omega))) (Nat.lt_succ_self _)) h3) <| sK [] sN)) rfl (by kernel_rfl) (by kernel_rfl) rfl ?_ ?_
     · simp only [v_spec_l03Same, h0, h1, h2, h3, cond_true, cond_false]
     · rfl
    | inr r4 =>
     have p {a C} (s : Scr a C) := q (sL mk_spec_l03Same_1_0 0 (lp_val (ls_spec_l03Same_1 a_0 b_1) (x := (lr_spec_l03Same_1_0 a_0 b_1)) (lp_spec_l03Same_1 a_0 b_1 hp0 hp1 hp2 hp3 hp4 hp5 hp6 hp7 hp8 hp9 h1 (((a_0.Springs.length : Int) - 0).toNat + 1) 0 (show 0 ≤ 0 from (by first | assumption | omega | (simp_all <;> omega))) (Nat.lt_succ_self _)) h3) <| sK [29, 29] <| sF (t_spec_l01Same a_0.Film b_1.Film) <| s)
     clear q
     cases h4 : (v_spec_l01Same a_0.Film b_1.Film) with
     | true =>
      have q {a C} (s : Scr a C) := p (sB h4 <| sB h4 <| sB h4 <| sB h4 <| sB h4 <| sB h4 <| sB h4 <| sB h4 <| sB h4 <| sF (t_spec_l01Same a_0.Bend b_1.Bend) <| sB h4 <| s)
      clear p
      cases h5 : (v_spec_l01Same a_0.Bend b_1.Bend) with
      | true =>
       refine fnS E0Ok hMixed (c := bodyOf f75) [] (.b (v_spec_l01VSame a_0.Fall b_1.Fall)) [] func75 (q (sB h5 <| sB h5 <| sB h5 <| sB h5 <| sB h5 <| sB h5 <| sB h5 <| sB h5 <| sB h5 <| sF (t_spec_l01VSame a_0.Fall b_1.Fall) <| sB h5 <| sK [] sN)) rfl (by kernel_rfl) (by kernel_rfl) rfl ?_ ?_
       · simp only [v_spec_l03Same, h0, h1, h2, h3, h4, h5, cond_true, cond_false]
       · rfl
      | false =>
       refine fnS E0Ok hMixed (c := bodyOf f75) [] (.b false) [] func75 (q (sB h5 <| sB h5 <| sB h5 <| sB h5 <| sB h5 <| sB h5 <| sB h5 <| sB h5 <| sB h5 <| sB h5 <| sK [] sN)) rfl (by kernel_rfl) (by kernel_rfl) rfl ?_ ?_
       · simp only [v_spec_l03Same, h0, h1, h2, h3, h4, h5, cond_true, cond_false]
       · rfl
     | false =>
      refine fnS E0Ok hMixed (c := bodyOf f75) [] (.b false) [] func75 (p (sB h4 <| sB h4 <| sB h4 <| sB h4 <| sB h4 <| sB h4 <| sB h4 <| sB h4 <| sB h4 <| sB h4 <| sB (show false = false from rfl) <| sB (show false = false from rfl) <| sB (show false = false from rfl) <| sB (show false = false from rfl) <| sB (show false = false from rfl) <| sB (show false = false from rfl) <| sB (show false = false from rfl) <| sB (show false = false from rfl) <| sB (show false = false from rfl) <| sB (show false = false from rfl) <| sK [] sN)) rfl (by kernel_rfl) (by kernel_rfl) rfl ?_ ?_
      · simp only [v_spec_l03Same, h0, h1, h2, h3, h4, cond_true, cond_false]
      · rfl
   | false =>
    refine fnS E0Ok hMixed (c := bodyOf f75) [] (.b false) [] func75 (p (sB' h2 <| sK [] sN)) rfl (by kernel_rfl) (by kernel_rfl) rfl ?_ ?_
    · simp only [v_spec_l03Same, h0, h1, h2, cond_true, cond_false]
    · rfl
 | false =>
  refine fnS E0Ok hMixed (c := bodyOf f75) [] (.b false) [] func75 (p (sB' h0 <| sB' h0 <| sB' h0 <| sB' h0 <| sB' h0 <| sB' h0 <| sB' h0 <| sB' h0 <| sB' h0 <| sB' h0 <| sB' h0 <| sB' h0 <| sB (show true = true from rfl) <| sB (show true = true from rfl) <| sB (show true = true from rfl) <| sB (show true = true from rfl) <| sB (show true = true from rfl) <| sB (show true = true from rfl) <| sB (show true = true from rfl) <| sB (show true = true from rfl) <| sB (show true = true from rfl) <| sB (show true = true from rfl) <| sB (show true = true from rfl) <| sB (show true = true from rfl) <| sK [] sN)) rfl (by kernel_rfl) (by kernel_rfl) rfl ?_ ?_
  · simp only [v_spec_l03Same, h0, cond_false]
  · rfl

def v_spec_SameBody (a_0 : GBody) (b_1 : GBody) : Bool := (v_spec_l03Same a_0 b_1)

theorem t_spec_SameBody (a_0 : GBody) (b_1 : GBody) (hp0 : a_0.Mesh.Places.length ≤ 1073741824) (hp1 : a_0.Mesh.Triangles.length ≤ 1073741824) (hp2 : ∀ t ∈ a_0.Mesh.Triangles, t.length ≤ 1073741824) (hp3 : a_0.Springs.length ≤ 1073741824) (hp4 : a_0.Weights.length ≤ 1073741824) (hp5 : b_1.Mesh.Places.length ≤ 1073741824) (hp6 : b_1.Mesh.Triangles.length ≤ 1073741824) (hp7 : ∀ t ∈ b_1.Mesh.Triangles, t.length ≤ 1073741824) (hp8 : b_1.Springs.length ≤ 1073741824) (hp9 : b_1.Weights.length ≤ 1073741824)  : Fn prog 19 [.agg [.sl (a_0.Mesh.Places.map GVector.cells), .sl (a_0.Mesh.Triangles.map (cL (cI .i64))), .sl (a_0.Springs.map GSpring.cells), .f .f32 a_0.Film, .f .f32 a_0.Bend, .sl (a_0.Weights.map (cF .f32)), .f .f32 a_0.Fall.X, .f .f32 a_0.Fall.Y, .f .f32 a_0.Fall.Z], .agg [.sl (b_1.Mesh.Places.map GVector.cells), .sl (b_1.Mesh.Triangles.map (cL (cI .i64))), .sl (b_1.Springs.map GSpring.cells), .f .f32 b_1.Film, .f .f32 b_1.Bend, .sl (b_1.Weights.map (cF .f32)), .f .f32 b_1.Fall.X, .f .f32 b_1.Fall.Y, .f .f32 b_1.Fall.Z]] (.b (v_spec_SameBody a_0 b_1)) [] := by
 refine fnS E0Ok hMixed (c := bodyOf f19) [] (.b (v_spec_l03Same a_0 b_1)) [] func19 (sF (t_spec_l03Same a_0 b_1 hp0 hp1 hp2 hp3 hp4 hp5 hp6 hp7 hp8 hp9) <| sK [] sN) rfl (by kernel_rfl) (by kernel_rfl) rfl ?_ ?_
 · rfl
 · rfl

def v_math_Signbit (x_0 : Nat) : Bool := (decide ((IntKind.wrap .i64 ((x_0 : Nat) : Int)) < 0))

theorem t_math_Signbit (x_0 : Nat) (hp0 : isNaN .f64 x_0 = false)  : Fn prog 149 [.f .f64 x_0] (.b (v_math_Signbit x_0)) [] := by
 refine fnS E0Ok hMixed (c := bodyOf f149) [] (.b (decide ((IntKind.wrap .i64 ((x_0 : Nat) : Int)) < 0))) [] func149 (sC (show isNaN .f64 x_0 = false from hp0) <| sW .i64 ((x_0 : Nat) : Int) <| sK [] sN) rfl (by kernel_rfl) (by kernel_rfl) rfl ?_ ?_
 · rfl
 · rfl

def v_impl_SameNumber (a_0 : Nat) (b_1 : Nat) : Bool := (cond (fcmp .neq .f32 a_0 a_0)
  (fcmp .neq .f32 b_1 b_1)
  (cond (fcmp .neq .f32 b_1 b_1)
    false
    (cond (fcmp .eql .f32 a_0 b_1)
      ((v_math_Signbit (fcv .f32 .f64 a_0)) == (v_math_Signbit (fcv .f32 .f64 b_1)))
      false)))

theorem t_impl_SameNumber (a_0 : Nat) (b_1 : Nat)   : Fn prog 82 [.f .f32 a_0, .f .f32 b_1] (.b (v_impl_SameNumber a_0 b_1)) [] := by
 cases h0 : (fcmp .neq .f32 a_0 a_0) with
 | true =>
  refine fnS E0Ok hMixed (c := bodyOf f82) [] (.b (fcmp .neq .f32 b_1 b_1)) [] func82 (sB h0 <| sB h0 <| sB h0 <| sB h0 <| sB (show true = true from rfl) <| sB h0 <| sB h0 <| sB h0 <| sB h0 <| sK [] sN) rfl (by kernel_rfl) (by kernel_rfl) rfl ?_ ?_
  · simp only [v_impl_SameNumber, h0, cond_true]
  · rfl
 | false =>
  have p {a C} (s : Scr a C) := sB h0 <| sB h0 <| sB h0 <| sB h0 <| s
  cases h1 : (fcmp .neq .f32 b_1 b_1) with
  | true =>
   refine fnS E0Ok hMixed (c := bodyOf f82) [] (.b false) [] func82 (p (sB h1 <| sB h0 <| sB h0 <| sB h0 <| sB h0 <| sK [] sN)) rfl (by kernel_rfl) (by kernel_rfl) rfl ?_ ?_
   · simp only [v_impl_SameNumber, h0, h1, cond_true, cond_false]
   · rfl
  | false =>
   have q {a C} (s : Scr a C) := p (sB h1 <| s)
   clear p
   cases h2 : (fcmp .eql .f32 a_0 b_1) with
   | true =>
    have y0 : isNaN .f64 (fcv .f32 .f64 a_0) = false := by clear q; exact (by first | assumption | exact fcv_nn (by rw [← neq_self]; assumption))
    have y1 : isNaN .f64 (fcv .f32 .f64 b_1) = false := by clear q; exact (by first | assumption | exact fcv_nn (by rw [← neq_self]; assumption))
    refine fnS E0Ok hMixed (c := bodyOf f82) [] (.b ((v_math_Signbit (fcv .f32 .f64 a_0)) == (v_math_Signbit (fcv .f32 .f64 b_1)))) [] func82 (q (sB h2 <| sB h2 <| sC (widenOk a_0) <| sB h2 <| sF (t_math_Signbit (fcv .f32 .f64 a_0) y0) <| sB h2 <| sB h2 <| sC (widenOk b_1) <| sB h2 <| sF (t_math_Signbit (fcv .f32 .f64 b_1) y1) <| sB h2 <| sB h2 <| sK [] sN)) rfl (by kernel_rfl) (by kernel_rfl) rfl ?_ ?_
    · simp only [v_impl_SameNumber, h0, h1, h2, cond_true, cond_false]
    · rfl
   | false =>
    refine fnS E0Ok hMixed (c := bodyOf f82) [] (.b false) [] func82 (q (sB h2 <| sB h2 <| sB h2 <| sB h2 <| sB h2 <| sB h2 <| sB h2 <| sB h2 <| sK [] sN)) rfl (by kernel_rfl) (by kernel_rfl) rfl ?_ ?_
    · simp only [v_impl_SameNumber, h0, h1, h2, cond_false]
    · rfl

def v_impl_SameVector (a_0 : GVector) (b_1 : GVector) : Bool := (cond (v_impl_SameNumber a_0.X b_1.X)
  (cond (v_impl_SameNumber a_0.Y b_1.Y)
    (v_impl_SameNumber a_0.Z b_1.Z)
    false)
  false)

theorem t_impl_SameVector (a_0 : GVector) (b_1 : GVector)   : Fn prog 84 [.agg [.f .f32 a_0.X, .f .f32 a_0.Y, .f .f32 a_0.Z], .agg [.f .f32 b_1.X, .f .f32 b_1.Y, .f .f32 b_1.Z]] (.b (v_impl_SameVector a_0 b_1)) [] := by
 have p {a C} (s : Scr a C) := sF (t_impl_SameNumber a_0.X b_1.X) <| s
 cases h0 : (v_impl_SameNumber a_0.X b_1.X) with
 | true =>
  have q {a C} (s : Scr a C) := p (sB h0 <| sB h0 <| sB h0 <| sB h0 <| sB h0 <| sF (t_impl_SameNumber a_0.Y b_1.Y) <| sB h0 <| s)
  clear p
  cases h1 : (v_impl_SameNumber a_0.Y b_1.Y) with
  | true =>
   refine fnS E0Ok hMixed (c := bodyOf f84) [] (.b (v_impl_SameNumber a_0.Z b_1.Z)) [] func84 (q (sB h1 <| sB h1 <| sB h1 <| sB h1 <| sB h1 <| sF (t_impl_SameNumber a_0.Z b_1.Z) <| sB h1 <| sK [] sN)) rfl (by kernel_rfl) (by kernel_rfl) rfl ?_ ?_
   · simp only [v_impl_SameVector, h0, h1, cond_true]
   · rfl
  | false =>
   refine fnS E0Ok hMixed (c := bodyOf f84) [] (.b false) [] func84 (q (sB h1 <| sB h1 <| sB h1 <| sB h1 <| sB h1 <| sB h1 <| sK [] sN)) rfl (by kernel_rfl) (by kernel_rfl) rfl ?_ ?_
   · simp only [v_impl_SameVector, h0, h1, cond_true, cond_false]
   · rfl
 | false =>
  refine fnS E0Ok hMixed (c := bodyOf f84) [] (.b false) [] func84 (p (sB h0 <| sB h0 <| sB h0 <| sB h0 <| sB h0 <| sB h0 <| sB (show false = false from rfl) <| sB (show false = false from rfl) <| sB (show false = false from rfl) <| sB (show false = false from rfl) <| sB (show false = false from rfl) <| sB (show false = false from rfl) <| sK [] sN)) rfl (by kernel_rfl) (by kernel_rfl) rfl ?_ ?_
  · simp only [v_impl_SameVector, h0, cond_false]
  · rfl

def lo_slices_EqualFunc___impl_Vector___impl_Vector_impl_Vector_impl_Vector__mnnFimpl_SameVectorZ_1 (s1_0 : (List GVector)) (s2_1 : (List GVector)) : Nat → Int → (Unit) ⊕ (Unit)
  | 0, _ => .inl default
  | k + 1, x_l0 => (cond (decide (x_l0 < (s1_0.length : Int)))
    (cond (v_impl_SameVector (s1_0.getD x_l0.toNat default) (s2_1.getD x_l0.toNat default))
      (lo_slices_EqualFunc___impl_Vector___impl_Vector_impl_Vector_impl_Vector__mnnFimpl_SameVectorZ_1 s1_0 s2_1 k (x_l0 + 1))
      (.inl ()))
    (.inr ()))

def ls_slices_EqualFunc___impl_Vector___impl_Vector_impl_Vector_impl_Vector__mnnFimpl_SameVectorZ_1 (s1_0 : (List GVector)) (s2_1 : (List GVector)) : (Unit) ⊕ (Unit) → Ex × St
  | .inl r => (.ret, ⟨[.any, .any, .any, .any, .any, .any, .b false, .any, .any, .any, .any, .any, .any, .any, .any, .any, .any, .any, .any, .any, .any, .any, .any, .any, .any, .any, .any, .any, .any, .any, .any, .any], []⟩)
  | .inr r => ((.exit 0), ⟨[.sl (s1_0.map GVector.cells), .sl (s2_1.map GVector.cells), .any, .any, .any, .any, .any, .any, .any, .any, .sl (s1_0.map GVector.cells), .i .i64 (s1_0.length : Int), .sl (s2_1.map GVector.cells), .i .i64 (s2_1.length : Int), .b ((s1_0.length : Int) != (s2_1.length : Int)), .sl (s1_0.map GVector.cells), .any, .any, .any, .any, .any, .any, .any, .any, .any, .any, .any, .any, .any, .any, .any, .any], []⟩)

def hd_slices_EqualFunc___impl_Vector___impl_Vector_impl_Vector_impl_Vector__mnnFimpl_SameVectorZ_1 (s1_0 : (List GVector)) (s2_1 : (List GVector)) (x_l0 : Int) : St := ⟨[.sl (s1_0.map GVector.cells), .sl (s2_1.map GVector.cells), .fn 84 [], .any, .any, .any, .any, .any, .any, .any, .sl (s1_0.map GVector.cells), .i .i64 (s1_0.length : Int), .sl (s2_1.map GVector.cells), .i .i64 (s2_1.length : Int), .b ((s1_0.length : Int) != (s2_1.length : Int)), .sl (s1_0.map GVector.cells), .i .i64 (s1_0.length : Int), .i .i64 x_l0, .any, .any, .any, .any, .any, .any, .any, .any, .any, .any, .any, .any, .any, .any], []⟩

def mk_slices_EqualFunc___impl_Vector___impl_Vector_impl_Vector_impl_Vector__mnnFimpl_SameVectorZ_1_0 : List Bool := [true, true, true, false, false, false, false, false, false, false, true, true, true, true, true, true, true, true, false, false, false, false, false, false, false, false, false, false, false, false, false, false]

def mk_slices_EqualFunc___impl_Vector___impl_Vector_impl_Vector_impl_Vector__mnnFimpl_SameVectorZ_1_1 : List Bool := [false, false, false, false, false, false, true, false, false, false, false, false, false, false, false, false, false, false, false, false, false, false, false, false, false, false, false, false, false, false, false, false]

def mk_slices_EqualFunc___impl_Vector___impl_Vector_impl_Vector_impl_Vector__mnnFimpl_SameVectorZ_1_2 : List Bool := [true, true, false, false, false, false, false, false, false, false, true, true, true, true, true, true, false, false, false, false, false, false, false, false, false, false, false, false, false, false, false, false]

theorem lp_slices_EqualFunc___impl_Vector___impl_Vector_impl_Vector_impl_Vector__mnnFimpl_SameVectorZ_1 (s1_0 : (List GVector)) (s2_1 : (List GVector)) (hp0 : s1_0.length ≤ 1073741824) (hp1 : s2_1.length ≤ 1073741824) (hf_slices_EqualFunc___impl_Vector___impl_Vector_impl_Vector_impl_Vector__mnnFimpl_SameVectorZ_1_0 : ((s1_0.length : Int) != (s2_1.length : Int)) = false) : ∀ (k : Nat) (x_l0 : Int) (hv_slices_EqualFunc___impl_Vector___impl_Vector_impl_Vector_impl_Vector__mnnFimpl_SameVectorZ_1_0 : 0 ≤ x_l0) (hk : ((s1_0.length : Int) - x_l0).toNat < k), Lp prog 0 (sub (bodyOf f147) [1, 1, 0, 1, 0, 0]) (hd_slices_EqualFunc___impl_Vector___impl_Vector_impl_Vector_impl_Vector__mnnFimpl_SameVectorZ_1 s1_0 s2_1 x_l0) (ls_slices_EqualFunc___impl_Vector___impl_Vector_impl_Vector_impl_Vector__mnnFimpl_SameVectorZ_1 s1_0 s2_1 (lo_slices_EqualFunc___impl_Vector___impl_Vector_impl_Vector_impl_Vector__mnnFimpl_SameVectorZ_1 s1_0 s2_1 k x_l0)).1 (ls_slices_EqualFunc___impl_Vector___impl_Vector_impl_Vector_impl_Vector__mnnFimpl_SameVectorZ_1 s1_0 s2_1 (lo_slices_EqualFunc___impl_Vector___impl_Vector_impl_Vector_impl_Vector__mnnFimpl_SameVectorZ_1 s1_0 s2_1 k x_l0)).2 := by
 intro k
 induction k with
 | zero => intro x_l0 hv_slices_EqualFunc___impl_Vector___impl_Vector_impl_Vector_impl_Vector__mnnFimpl_SameVectorZ_1_0 hk; exact absurd hk (Nat.not_lt_zero _)
 | succ k ih =>
  intro x_l0 hv_slices_EqualFunc___impl_Vector___impl_Vector_impl_Vector_impl_Vector__mnnFimpl_SameVectorZ_1_0 hk
  cases h_0 : (decide (x_l0 < (s1_0.length : Int))) with
  | true =>
   have gh_0 := of_decide_eq_true h_0
   have y_0 : (0 : Int) ≤ x_l0 := (by first | assumption | omega | (simp_all <;> omega))
   have y_1 : x_l0 < (s1_0.length : Int) := (by first | assumption | omega | (simp_all <;> omega))
   have y_2 : x_l0 < (s2_1.length : Int) := (by first | assumption | omega | (simp_all <;> omega))
   have p {a C} (s : Scr a C) := sB h_0 <| sG GVector.cells s1_0 x_l0 y_0 y_1 <| sG GVector.cells s2_1 x_l0 y_0 y_2 <| sF (t_impl_SameVector (s1_0.getD x_l0.toNat default) (s2_1.getD x_l0.toNat default)) <| s
   cases h_1 : (v_impl_SameVector (s1_0.getD x_l0.toNat default) (s2_1.getD x_l0.toNat default)) with
   | true =>
    have y_3 : (-9223372036854775808 : Int) ≤ (x_l0 + 1) := by clear p; exact (by first | assumption | omega | (simp_all <;> omega))
    have y_4 : (x_l0 + 1) ≤ (9223372036854775807 : Int) := by clear p; exact (by first | assumption | omega | (simp_all <;> omega))
    have e : lo_slices_EqualFunc___impl_Vector___impl_Vector_impl_Vector_impl_Vector__mnnFimpl_SameVectorZ_1 s1_0 s2_1 (k + 1) x_l0 = (lo_slices_EqualFunc___impl_Vector___impl_Vector_impl_Vector_impl_Vector__mnnFimpl_SameVectorZ_1 s1_0 s2_1 k (x_l0 + 1)) := by simp only [lo_slices_EqualFunc___impl_Vector___impl_Vector_impl_Vector_impl_Vector__mnnFimpl_SameVectorZ_1, h_0, h_1, cond_true]
    rw [e]
    exact nextR E0Ok hMixed [] mk_slices_EqualFunc___impl_Vector___impl_Vector_impl_Vector_impl_Vector__mnnFimpl_SameVectorZ_1_0 [] (ih (x_l0 + 1) (show 0 ≤ (x_l0 + 1) from (by first | assumption | omega | (simp_all <;> omega))) (by first | assumption | omega | (simp_all <;> omega))) (p (sB' h_1 <| sI (x_l0 + 1) y_3 y_4 <| sN)) (by kernel_rfl)
   | false =>
    have e : lo_slices_EqualFunc___impl_Vector___impl_Vector_impl_Vector_impl_Vector__mnnFimpl_SameVectorZ_1 s1_0 s2_1 (k + 1) x_l0 = (.inl ()) := by simp only [lo_slices_EqualFunc___impl_Vector___impl_Vector_impl_Vector_impl_Vector__mnnFimpl_SameVectorZ_1, h_0, h_1, cond_true, cond_false]
    rw [e]
    exact outR (e := .ret) E0Ok hMixed [] mk_slices_EqualFunc___impl_Vector___impl_Vector_impl_Vector_impl_Vector__mnnFimpl_SameVectorZ_1_1 [] (p (sB' h_1 <| sN)) (by kernel_rfl) (by intro h; cases h)
  | false =>
   have gh_0 := of_decide_eq_false h_0
   have e : lo_slices_EqualFunc___impl_Vector___impl_Vector_impl_Vector_impl_Vector__mnnFimpl_SameVectorZ_1 s1_0 s2_1 (k + 1) x_l0 = (.inr ()) := by simp only [lo_slices_EqualFunc___impl_Vector___impl_Vector_impl_Vector_impl_Vector__mnnFimpl_SameVectorZ_1, h_0, cond_false]
   rw [e]
   exact outR (e := (.exit 0)) E0Ok hMixed [] mk_slices_EqualFunc___impl_Vector___impl_Vector_impl_Vector_impl_Vector__mnnFimpl_SameVectorZ_1_2 [] (sB h_0 <| sN) (by kernel_rfl) (by intro h; cases h)

def lr_slices_EqualFunc___impl_Vector___impl_Vector_impl_Vector_impl_Vector__mnnFimpl_SameVectorZ_1_0 (s1_0 : (List GVector)) (s2_1 : (List GVector)) : (Unit) ⊕ (Unit) := (lo_slices_EqualFunc___impl_Vector___impl_Vector_impl_Vector_impl_Vector__mnnFimpl_SameVectorZ_1 s1_0 s2_1 (((s1_0.length : Int) - 0).toNat + 1) 0)

def v_slices_EqualFunc___impl_Vector___impl_Vector_impl_Vector_impl_Vector__mnnFimpl_SameVectorZ (s1_0 : (List GVector)) (s2_1 : (List GVector)) : Bool := (cond ((s1_0.length : Int) != (s2_1.length : Int))
  false
  (match (lr_slices_EqualFunc___impl_Vector___impl_Vector_impl_Vector_impl_Vector__mnnFimpl_SameVectorZ_1_0 s1_0 s2_1) with
    | .inl r2 => false
    | .inr r2 => true))

theorem t_slices_EqualFunc___impl_Vector___impl_Vector_impl_Vector_impl_Vector__mnnFimpl_SameVectorZ (s1_0 : (List GVector)) (s2_1 : (List GVector)) (hp0 : s1_0.length ≤ 1073741824) (hp1 : s2_1.length ≤ 1073741824)  : Fn prog 147 [.sl (s1_0.map GVector.cells), .sl (s2_1.map GVector.cells), .fn 84 []] (.b (v_slices_EqualFunc___impl_Vector___impl_Vector_impl_Vector_impl_Vector__mnnFimpl_SameVectorZ s1_0 s2_1)) [] := by
 have p {a C} (s : Scr a C) := sZ GVector.cells s1_0 <| sZ GVector.cells s2_1 <| s
 cases h0 : ((s1_0.length : Int) != (s2_1.length : Int)) with
 | true =>
  have gh0 := bne_iff_ne.1 h0
  refine fnS E0Ok hMixed (c := bodyOf f147) [] (.b false) [] func147 (p (sB h0 <| sK [] sN)) rfl (by kernel_rfl) (by kernel_rfl) rfl ?_ ?_
  · simp only [v_slices_EqualFunc___impl_Vector___impl_Vector_impl_Vector_impl_Vector__mnnFimpl_SameVectorZ, h0, cond_true]
  · rfl
 | false =>
  have gh0 := bne_eq_false_iff_eq.1 h0
  have q {a C} (s : Scr a C) := p (sB h0 <| sZ GVector.cells s1_0 <| s)
  clear p
  cases h1 : (lr_slices_EqualFunc___impl_Vector___impl_Vector_impl_Vector_impl_Vector__mnnFimpl_SameVectorZ_1_0 s1_0 s2_1) with
  | inl r2 =>
   refine fnS E0Ok hMixed (c := bodyOf f147) [] (.b false) [] func147 (q (sL mk_slices_EqualFunc___impl_Vector___impl_Vector_impl_Vector_impl_Vector__mnnFimpl_SameVectorZ_1_0 0 (lp_val (ls_slices_EqualFunc___impl_Vector___impl_Vector_impl_Vector_impl_Vector__mnnFimpl_SameVectorZ_1 s1_0 s2_1) (x := (lr_slices_EqualFunc___impl_Vector___impl_Vector_impl_Vector_impl_Vector__mnnFimpl_SameVectorZ_1_0 s1_0 s2_1)) (lp_slices_EqualFunc___impl_Vector___impl_Vector_impl_Vector_impl_Vector__mnnFimpl_SameVectorZ_1 s1_0 s2_1 hp0 hp1 h0 (((s1_0.length : Int) - 0).toNat + 1) 0 (show 0 ≤ 0 from (by first | assumption | omega | (simp_all <;> omega))) (Nat.lt_succ_self _)) h1) <| sK [] sN)) rfl (by kernel_rfl) (by kernel_rfl) rfl ?_ ?_
   · simp only [v_slices_EqualFunc___impl_Vector___impl_Vector_impl_Vector_impl_Vector__mnnFimpl_SameVectorZ, h0, h1, cond_false]
   · rfl
  | inr r2 =>
   refine fnS E0Ok hMixed (c := bodyOf f147) [] (.b true) [] func147 (q (sL mk_slices_EqualFunc___impl_Vector___impl_Vector_impl_Vector_impl_Vector__mnnFimpl_SameVectorZ_1_0 0 (lp_val (ls_slices_EqualFunc___impl_Vector___impl_Vector_impl_Vector_impl_Vector__mnnFimpl_SameVectorZ_1 s1_0 s2_1) (x := (lr_slices_EqualFunc___impl_Vector___impl_Vector_impl_Vector_impl_Vector__mnnFimpl_SameVectorZ_1_0 s1_0 s2_1)) (lp_slices_EqualFunc___impl_Vector___impl_Vector_impl_Vector_impl_Vector__mnnFimpl_SameVectorZ_1 s1_0 s2_1 hp0 hp1 h0 (((s1_0.length : Int) - 0).toNat + 1) 0 (show 0 ≤ 0 from (by first | assumption | omega | (simp_all <;> omega))) (Nat.lt_succ_self _)) h1) <| sK [] sN)) rfl (by kernel_rfl) (by kernel_rfl) rfl ?_ ?_
   · simp only [v_slices_EqualFunc___impl_Vector___impl_Vector_impl_Vector_impl_Vector__mnnFimpl_SameVectorZ, h0, h1, cond_false]
   · rfl

def lo_slices_Equal___int64_int64__1 (s1_0 : (List Int)) (s2_1 : (List Int)) : Nat → Int → (Unit) ⊕ (Unit)
  | 0, _ => .inl default
  | k + 1, x_l0 => (cond (decide (x_l0 < (s1_0.length : Int)))
    (cond ((s1_0.getD x_l0.toNat default) != (s2_1.getD x_l0.toNat default))
      (.inl ())
      (lo_slices_Equal___int64_int64__1 s1_0 s2_1 k (x_l0 + 1)))
    (.inr ()))

def ls_slices_Equal___int64_int64__1 (s1_0 : (List Int)) (s2_1 : (List Int)) : (Unit) ⊕ (Unit) → Ex × St
  | .inl r => (.ret, ⟨[.any, .any, .any, .any, .b false, .any, .any, .any, .any, .any, .any, .any, .any, .any, .any, .any, .any, .any, .any, .any, .any, .any, .any, .any, .any, .any], []⟩)
  | .inr r => ((.exit 0), ⟨[.sl (s1_0.map (cI .i64)), .sl (s2_1.map (cI .i64)), .any, .any, .any, .any, .sl (s1_0.map (cI .i64)), .i .i64 (s1_0.length : Int), .sl (s2_1.map (cI .i64)), .i .i64 (s2_1.length : Int), .b ((s1_0.length : Int) != (s2_1.length : Int)), .sl (s1_0.map (cI .i64)), .any, .any, .any, .any, .any, .any, .any, .any, .any, .any, .any, .any, .any, .any], []⟩)

def hd_slices_Equal___int64_int64__1 (s1_0 : (List Int)) (s2_1 : (List Int)) (x_l0 : Int) : St := ⟨[.sl (s1_0.map (cI .i64)), .sl (s2_1.map (cI .i64)), .any, .any, .any, .any, .sl (s1_0.map (cI .i64)), .i .i64 (s1_0.length : Int), .sl (s2_1.map (cI .i64)), .i .i64 (s2_1.length : Int), .b ((s1_0.length : Int) != (s2_1.length : Int)), .sl (s1_0.map (cI .i64)), .i .i64 (s1_0.length : Int), .i .i64 x_l0, .any, .any, .any, .any, .any, .any, .any, .any, .any, .any, .any, .any], []⟩

def mk_slices_Equal___int64_int64__1_0 : List Bool := [true, true, false, false, false, false, true, true, true, true, true, true, true, true, false, false, false, false, false, false, false, false, false, false, false, false]

def mk_slices_Equal___int64_int64__1_1 : List Bool := [false, false, false, false, true, false, false, false, false, false, false, false, false, false, false, false, false, false, false, false, false, false, false, false, false, false]

def mk_slices_Equal___int64_int64__1_2 : List Bool := [true, true, false, false, false, false, true, true, true, true, true, true, false, false, false, false, false, false, false, false, false, false, false, false, false, false]

theorem lp_slices_Equal___int64_int64__1 (s1_0 : (List Int)) (s2_1 : (List Int)) (hp0 : s1_0.length ≤ 1073741824) (hp1 : s2_1.length ≤ 1073741824) (hf_slices_Equal___int64_int64__1_0 : ((s1_0.length : Int) != (s2_1.length : Int)) = false) : ∀ (k : Nat) (x_l0 : Int) (hv_slices_Equal___int64_int64__1_0 : 0 ≤ x_l0) (hk : ((s1_0.length : Int) - x_l0).toNat < k), Lp prog 0 (sub (bodyOf f185) [1, 1, 0, 1, 0, 0]) (hd_slices_Equal___int64_int64__1 s1_0 s2_1 x_l0) (ls_slices_Equal___int64_int64__1 s1_0 s2_1 (lo_slices_Equal___int64_int64__1 s1_0 s2_1 k x_l0)).1 (ls_slices_Equal___int64_int64__1 s1_0 s2_1 (lo_slices_Equal___int64_int64__1 s1_0 s2_1 k x_l0)).2 := by
 intro k
 induction k with
 | zero => intro x_l0 hv_slices_Equal___int64_int64__1_0 hk; exact absurd hk (Nat.not_lt_zero _)
 | succ k ih =>
  intro x_l0 hv_slices_Equal___int64_int64__1_0 hk
  cases h_0 : (decide (x_l0 < (s1_0.length : Int))) with
  | true =>
   have gh_0 := of_decide_eq_true h_0
   have y_0 : (0 : Int) ≤ x_l0 := (by first | assumption | omega | (simp_all <;> omega))
   have y_1 : x_l0 < (s1_0.length : Int) := (by first | assumption | omega | (simp_all <;> omega))
   have y_2 : x_l0 < (s2_1.length : Int) := (by first | assumption | omega | (simp_all <;> omega))
   have p {a C} (s : Scr a C) := sB h_0 <| sK [8, 8] <| sG (cI .i64) s1_0 x_l0 y_0 y_1 <| sG (cI .i64) s2_1 x_l0 y_0 y_2 <| s
   cases h_1 : ((s1_0.getD x_l0.toNat default) != (s2_1.getD x_l0.toNat default)) with
   | true =>
    have gh_1 := bne_iff_ne.1 h_1
    have e : lo_slices_Equal___int64_int64__1 s1_0 s2_1 (k + 1) x_l0 = (.inl ()) := by simp only [lo_slices_Equal___int64_int64__1, h_0, h_1, cond_true]
    rw [e]
    exact outR (e := .ret) E0Ok hMixed [] mk_slices_Equal___int64_int64__1_1 [] (p (sB h_1 <| sN)) (by kernel_rfl) (by intro h; cases h)
   | false =>
    have gh_1 := bne_eq_false_iff_eq.1 h_1
    have y_3 : (-9223372036854775808 : Int) ≤ (x_l0 + 1) := by clear p; exact (by first | assumption | omega | (simp_all <;> omega))
    have y_4 : (x_l0 + 1) ≤ (9223372036854775807 : Int) := by clear p; exact (by first | assumption | omega | (simp_all <;> omega))
    have e : lo_slices_Equal___int64_int64__1 s1_0 s2_1 (k + 1) x_l0 = (lo_slices_Equal___int64_int64__1 s1_0 s2_1 k (x_l0 + 1)) := by simp only [lo_slices_Equal___int64_int64__1, h_0, h_1, cond_true, cond_false]
    rw [e]
    exact nextR E0Ok hMixed [] mk_slices_Equal___int64_int64__1_0 [] (ih (x_l0 + 1) (show 0 ≤ (x_l0 + 1) from (by first | assumption | omega | (simp_all <;> omega))) (by first | assumption | omega | (simp_all <;> omega))) (p (sB h_1 <| sI (x_l0 + 1) y_3 y_4 <| sN)) (by kernel_rfl)
  | false =>
   have gh_0 := of_decide_eq_false h_0
   have e : lo_slices_Equal___int64_int64__1 s1_0 s2_1 (k + 1) x_l0 = (.inr ()) := by simp only [lo_slices_Equal___int64_int64__1, h_0, cond_false]
   rw [e]
   exact outR (e := (.exit 0)) E0Ok hMixed [] mk_slices_Equal___int64_int64__1_2 [] (sB h_0 <| sN) (by kernel_rfl) (by intro h; cases h)

def lr_slices_Equal___int64_int64__1_0 (s1_0 : (List Int)) (s2_1 : (List Int)) : (Unit) ⊕ (Unit) := (lo_slices_Equal___int64_int64__1 s1_0 s2_1 (((s1_0.length : Int) - 0).toNat + 1) 0)

def v_slices_Equal___int64_int64_ (s1_0 : (List Int)) (s2_1 : (List Int)) : Bool := (cond ((s1_0.length : Int) != (s2_1.length : Int))
  false
  (match (lr_slices_Equal___int64_int64__1_0 s1_0 s2_1) with
    | .inl r2 => false
    | .inr r2 => true))

theorem t_slices_Equal___int64_int64_ (s1_0 : (List Int)) (s2_1 : (List Int)) (hp0 : s1_0.length ≤ 1073741824) (hp1 : s2_1.length ≤ 1073741824)  : Fn prog 185 [.sl (s1_0.map (cI .i64)), .sl (s2_1.map (cI .i64))] (.b (v_slices_Equal___int64_int64_ s1_0 s2_1)) [] := by
 have p {a C} (s : Scr a C) := sZ (cI .i64) s1_0 <| sZ (cI .i64) s2_1 <| s
 cases h0 : ((s1_0.length : Int) != (s2_1.length : Int)) with
 | true =>
  have gh0 := bne_iff_ne.1 h0
  refine fnS E0Ok hMixed (c := bodyOf f185) [] (.b false) [] func185 (p (sB h0 <| sK [] sN)) rfl (by kernel_rfl) (by kernel_rfl) rfl ?_ ?_
  · simp only [v_slices_Equal___int64_int64_, h0, cond_true]
  · rfl
 | false =>
  have gh0 := bne_eq_false_iff_eq.1 h0
  have q {a C} (s : Scr a C) := p (sB h0 <| sZ (cI .i64) s1_0 <| s)
  clear p
  cases h1 : (lr_slices_Equal___int64_int64__1_0 s1_0 s2_1) with
  | inl r2 =>
   refine fnS E0Ok hMixed (c := bodyOf f185) [] (.b false) [] func185 (q (sL mk_slices_Equal___int64_int64__1_0 0 (lp_val (ls_slices_Equal___int64_int64__1 s1_0 s2_1) (x := (lr_slices_Equal___int64_int64__1_0 s1_0 s2_1)) (lp_slices_Equal___int64_int64__1 s1_0 s2_1 hp0 hp1 h0 (((s1_0.length : Int) - 0).toNat + 1) 0 (show 0 ≤ 0 from (by first | assumption | omega | (simp_all <;> omega))) (Nat.lt_succ_self _)) h1) <| sK [] sN)) rfl (by kernel_rfl) (by kernel_rfl) rfl ?_ ?_
   · simp only [v_slices_Equal___int64_int64_, h0, h1, cond_false]
   · rfl
  | inr r2 =>
   refine fnS E0Ok hMixed (c := bodyOf f185) [] (.b true) [] func185 (q (sL mk_slices_Equal___int64_int64__1_0 0 (lp_val (ls_slices_Equal___int64_int64__1 s1_0 s2_1) (x := (lr_slices_Equal___int64_int64__1_0 s1_0 s2_1)) (lp_slices_Equal___int64_int64__1 s1_0 s2_1 hp0 hp1 h0 (((s1_0.length : Int) - 0).toNat + 1) 0 (show 0 ≤ 0 from (by first | assumption | omega | (simp_all <;> omega))) (Nat.lt_succ_self _)) h1) <| sK [] sN)) rfl (by kernel_rfl) (by kernel_rfl) rfl ?_ ?_
   · simp only [v_slices_Equal___int64_int64_, h0, h1, cond_false]
   · rfl

def v_impl_sameTriangles_1 (s_0 : (List Int)) (t_1 : (List Int)) : Bool := (v_slices_Equal___int64_int64_ s_0 t_1)

theorem t_impl_sameTriangles_1 (s_0 : (List Int)) (t_1 : (List Int)) (hp0 : s_0.length ≤ 1073741824) (hp1 : t_1.length ≤ 1073741824)  : Fn prog 184 [.sl (s_0.map (cI .i64)), .sl (t_1.map (cI .i64))] (.b (v_impl_sameTriangles_1 s_0 t_1)) [] := by
 refine fnS E0Ok hMixed (c := bodyOf f184) [] (.b (v_slices_Equal___int64_int64_ s_0 t_1)) [] func184 (sF (t_slices_Equal___int64_int64_ s_0 t_1 hp0 hp1) <| sK [] sN) rfl (by kernel_rfl) (by kernel_rfl) rfl ?_ ?_
 · rfl
 · rfl

def lo_slices_EqualFunc_____int64_____int64___int64___int64__mnnFimpl_sameTriangles_1Z_1 (s1_0 : (List (List Int))) (s2_1 : (List (List Int))) : Nat → Int → (Unit) ⊕ (Unit)
  | 0, _ => .inl default
  | k + 1, x_l0 => (cond (decide (x_l0 < (s1_0.length : Int)))
    (cond (v_impl_sameTriangles_1 (s1_0.getD x_l0.toNat default) (s2_1.getD x_l0.toNat default))
      (lo_slices_EqualFunc_____int64_____int64___int64___int64__mnnFimpl_sameTriangles_1Z_1 s1_0 s2_1 k (x_l0 + 1))
      (.inl ()))
    (.inr ()))

def ls_slices_EqualFunc_____int64_____int64___int64___int64__mnnFimpl_sameTriangles_1Z_1 (s1_0 : (List (List Int))) (s2_1 : (List (List Int))) : (Unit) ⊕ (Unit) → Ex × St
  | .inl r => (.ret, ⟨[.any, .any, .any, .any, .any, .any, .b false, .any, .any, .any, .any, .any, .any, .any, .any, .any, .any, .any, .any, .any, .any, .any, .any, .any, .any, .any, .any, .any, .any, .any, .any, .any], []⟩)
  | .inr r => ((.exit 0), ⟨[.sl (s1_0.map (cL (cI .i64))), .sl (s2_1.map (cL (cI .i64))), .any, .any, .any, .any, .any, .any, .any, .any, .sl (s1_0.map (cL (cI .i64))), .i .i64 (s1_0.length : Int), .sl (s2_1.map (cL (cI .i64))), .i .i64 (s2_1.length : Int), .b ((s1_0.length : Int) != (s2_1.length : Int)), .sl (s1_0.map (cL (cI .i64))), .any, .any, .any, .any, .any, .any, .any, .any, .any, .any, .any, .any, .any, .any, .any, .any], []⟩)

def hd_slices_EqualFunc_____int64_____int64___int64___int64__mnnFimpl_sameTriangles_1Z_1 (s1_0 : (List (List Int))) (s2_1 : (List (List Int))) (x_l0 : Int) : St := ⟨[.sl (s1_0.map (cL (cI .i64))), .sl (s2_1.map (cL (cI .i64))), .fn 184 [], .any, .any, .any, .any, .any, .any, .any, .sl (s1_0.map (cL (cI .i64))), .i .i64 (s1_0.length : Int), .sl (s2_1.map (cL (cI .i64))), .i .i64 (s2_1.length : Int), .b ((s1_0.length : Int) != (s2_1.length : Int)), .sl (s1_0.map (cL (cI .i64))), .i .i64 (s1_0.length : Int), .i .i64 x_l0, .any, .any, .any, .any, .any, .any, .any, .any, .any, .any, .any, .any, .any, .any], []⟩

def mk_slices_EqualFunc_____int64_____int64___int64___int64__mnnFimpl_sameTriangles_1Z_1_0 : List Bool := [true, true, true, false, false, false, false, false, false, false, true, true, true, true, true, true, true, true, false, false, false, false, false, false, false, false, false, false, false, false, false, false]

def mk_slices_EqualFunc_____int64_____int64___int64___int64__mnnFimpl_sameTriangles_1Z_1_1 : List Bool := [false, false, false, false, false, false, true, false, false, false, false, false, false, false, false, false, false, false, false, false, false, false, false, false, false, false, false, false, false, false, false, false]

def mk_slices_EqualFunc_____int64_____int64___int64___int64__mnnFimpl_sameTriangles_1Z_1_2 : List Bool := [true, true, false, false, false, false, false, false, false, false, true, true, true, true, true, true, false, false, false, false, false, false, false, false, false, false, false, false, false, false, false, false]

theorem lp_slices_EqualFunc_____int64_____int64___int64___int64__mnnFimpl_sameTriangles_1Z_1 (s1_0 : (List (List Int))) (s2_1 : (List (List Int))) (hp0 : s1_0.length ≤ 1073741824) (hp1 : ∀ t ∈ s1_0, t.length ≤ 1073741824) (hp2 : s2_1.length ≤ 1073741824) (hp3 : ∀ t ∈ s2_1, t.length ≤ 1073741824) (hf_slices_EqualFunc_____int64_____int64___int64___int64__mnnFimpl_sameTriangles_1Z_1_0 : ((s1_0.length : Int) != (s2_1.length : Int)) = false) : ∀ (k : Nat) (x_l0 : Int) (hv_slices_EqualFunc_____int64_____int64___int64___int64__mnnFimpl_sameTriangles_1Z_1_0 : 0 ≤ x_l0) (hk : ((s1_0.length : Int) - x_l0).toNat < k), Lp prog 0 (sub (bodyOf f183) [1, 1, 0, 1, 0, 0]) (hd_slices_EqualFunc_____int64_____int64___int64___int64__mnnFimpl_sameTriangles_1Z_1 s1_0 s2_1 x_l0) (ls_slices_EqualFunc_____int64_____int64___int64___int64__mnnFimpl_sameTriangles_1Z_1 s1_0 s2_1 (lo_slices_EqualFunc_____int64_____int64___int64___int64__mnnFimpl_sameTriangles_1Z_1 s1_0 s2_1 k x_l0)).1 (ls_slices_EqualFunc_____int64_____int64___int64___int64__mnnFimpl_sameTriangles_1Z_1 s1_0 s2_1 (lo_slices_EqualFunc_____int64_____int64___int64___int64__mnnFimpl_sameTriangles_1Z_1 s1_0 s2_1 k x_l0)).2 := by
 intro k
 induction k with
 | zero => intro x_l0 hv_slices_EqualFunc_____int64_____int64___int64___int64__mnnFimpl_sameTriangles_1Z_1_0 hk; exact absurd hk (Nat.not_lt_zero _)
 | succ k ih =>
  intro x_l0 hv_slices_EqualFunc_____int64_____int64___int64___int64__mnnFimpl_sameTriangles_1Z_1_0 hk
  cases h_0 : (decide (x_l0 < (s1_0.length : Int))) with
  | true =>
   have gh_0 := of_decide_eq_true h_0
   have y_0 : (0 : Int) ≤ x_l0 := (by first | assumption | omega | (simp_all <;> omega))
   have y_1 : x_l0 < (s1_0.length : Int) := (by first | assumption | omega | (simp_all <;> omega))
   have y_2 : x_l0 < (s2_1.length : Int) := (by first | assumption | omega | (simp_all <;> omega))
   have y_3 : (s1_0.getD x_l0.toNat default).length ≤ 1073741824 := (by first | assumption | omega | (simp_all <;> omega))
   have y_4 : (s2_1.getD x_l0.toNat default).length ≤ 1073741824 := (by first | assumption | omega | (simp_all <;> omega))
   have p {a C} (s : Scr a C) := sB h_0 <| sG (cL (cI .i64)) s1_0 x_l0 y_0 y_1 <| sG (cL (cI .i64)) s2_1 x_l0 y_0 y_2 <| sF (t_impl_sameTriangles_1 (s1_0.getD x_l0.toNat default) (s2_1.getD x_l0.toNat default) y_3 y_4) <| s
   cases h_1 : (v_impl_sameTriangles_1 (s1_0.getD x_l0.toNat default) (s2_1.getD x_l0.toNat default)) with
   | true =>
    have y_5 : (-9223372036854775808 : Int) ≤ (x_l0 + 1) := by clear p; exact (by first | assumption | omega | (simp_all <;> omega))
    have y_6 : (x_l0 + 1) ≤ (9223372036854775807 : Int) := by clear p; exact (by first | assumption | omega | (simp_all <;> omega))
    have e : lo_slices_EqualFunc_____int64_____int64___int64___int64__mnnFimpl_sameTriangles_1Z_1 s1_0 s2_1 (k + 1) x_l0 = (lo_slices_EqualFunc_____int64_____int64___int64___int64__mnnFimpl_sameTriangles_1Z_1 s1_0 s2_1 k (x_l0 + 1)) := by simp only [lo_slices_EqualFunc_____int64_____int64___int64___int64__mnnFimpl_sameTriangles_1Z_1, h_0, h_1, cond_true]
    rw [e]
    exact nextR E0Ok hMixed [] mk_slices_EqualFunc_____int64_____int64___int64___int64__mnnFimpl_sameTriangles_1Z_1_0 [] (ih (x_l0 + 1) (show 0 ≤ (x_l0 + 1) from (by first | assumption | omega | (simp_all <;> omega))) (by first | assumption | omega | (simp_all <;> omega))) (p (sB' h_1 <| sI (x_l0 + 1) y_5 y_6 <| sN)) (by kernel_rfl)
   | false =>
    have e : lo_slices_EqualFunc_____int64_____int64___int64___int64__mnnFimpl_sameTriangles_1Z_1 s1_0 s2_1 (k + 1) x_l0 = (.inl ()) := by simp only [lo_slices_EqualFunc_____int64_____int64___int64___int64__mnnFimpl_sameTriangles_1Z_1, h_0, h_1, cond_true, cond_false]
    rw [e]
    exact outR (e := .ret) E0Ok hMixed [] mk_slices_EqualFunc_____int64_____int64___int64___int64__mnnFimpl_sameTriangles_1Z_1_1 [] (p (sB' h_1 <| sN)) (by kernel_rfl) (by intro h; cases h)
  | false =>
   have gh_0 := of_decide_eq_false h_0
   have e : lo_slices_EqualFunc_____int64_____int64___int64___int64__mnnFimpl_sameTriangles_1Z_1 s1_0 s2_1 (k + 1) x_l0 = (.inr ()) := by simp only [lo_slices_EqualFunc_____int64_____int64___int64___int64__mnnFimpl_sameTriangles_1Z_1, h_0, cond_false]
   rw [e]
   exact outR (e := (.exit 0)) E0Ok hMixed [] mk_slices_EqualFunc_____int64_____int64___int64___int64__mnnFimpl_sameTriangles_1Z_1_2 [] (sB h_0 <| sN) (by kernel_rfl) (by intro h; cases h)

def lr_slices_EqualFunc_____int64_____int64___int64___int64__mnnFimpl_sameTriangles_1Z_1_0 (s1_0 : (List (List Int))) (s2_1 : (List (List Int))) : (Unit) ⊕ (Unit) := (lo_slices_EqualFunc_____int64_____int64___int64___int64__mnnFimpl_sameTriangles_1Z_1 s1_0 s2_1 (((s1_0.length : Int) - 0).toNat + 1) 0)

def v_slices_EqualFunc_____int64_____int64___int64___int64__mnnFimpl_sameTriangles_1Z (s1_0 : (List (List Int))) (s2_1 : (List (List Int))) : Bool := (cond ((s1_0.length : Int) != (s2_1.length : Int))
  false
  (match (lr_slices_EqualFunc_____int64_____int64___int64___int64__mnnFimpl_sameTriangles_1Z_1_0 s1_0 s2_1) with
    | .inl r2 => false
    | .inr r2 => true))

theorem t_slices_EqualFunc_____int64_____int64___int64___int64__mnnFimpl_sameTriangles_1Z (s1_0 : (List (List Int))) (s2_1 : (List (List Int))) (hp0 : s1_0.length ≤ 1073741824) (hp1 : ∀ t ∈ s1_0, t.length ≤ 1073741824) (hp2 : s2_1.length ≤ 1073741824) (hp3 : ∀ t ∈ s2_1, t.length ≤ 1073741824)  : Fn prog 183 [.sl (s1_0.map (cL (cI .i64))), .sl (s2_1.map (cL (cI .i64))), .fn 184 []] (.b (v_slices_EqualFunc_____int64_____int64___int64___int64__mnnFimpl_sameTriangles_1Z s1_0 s2_1)) [] := by
 have p {a C} (s : Scr a C) := sZ (cL (cI .i64)) s1_0 <| sZ (cL (cI .i64)) s2_1 <| s
 cases h0 : ((s1_0.length : Int) != (s2_1.length : Int)) with
 | true =>
  have gh0 := bne_iff_ne.1 h0
  refine fnS E0Ok hMixed (c := bodyOf f183) [] (.b false) [] func183 (p (sB h0 <| sK [] sN)) rfl (by kernel_rfl) (by kernel_rfl) rfl ?_ ?_
  · simp only [v_slices_EqualFunc_____int64_____int64___int64___int64__mnnFimpl_sameTriangles_1Z, h0, cond_true]
  · rfl
 | false =>
  have gh0 := bne_eq_false_iff_eq.1 h0
  have q {a C} (s : Scr a C) := p (sB h0 <| sZ (cL (cI .i64)) s1_0 <| s)
  clear p
  cases h1 : (lr_slices_EqualFunc_____int64_____int64___int64___int64__mnnFimpl_sameTriangles_1Z_1_0 s1_0 s2_1) with
  | inl r2 =>
   refine fnS E0Ok hMixed (c := bodyOf f183) [] (.b false) [] func183 (q (sL mk_slices_EqualFunc_____int64_____int64___int64___int64__mnnFimpl_sameTriangles_1Z_1_0 0 (lp_val (ls_slices_EqualFunc_____int64_____int64___int64___int64__mnnFimpl_sameTriangles_1Z_1 s1_0 s2_1) (x := (lr_slices_EqualFunc_____int64_____int64___int64___int64__mnnFimpl_sameTriangles_1Z_1_0 s1_0 s2_1)) (lp_slices_EqualFunc_____int64_____int64___int64___int64__mnnFimpl_sameTriangles_1Z_1 s1_0 s2_1 hp0 hp1 hp2 hp3 h0 (((s1_0.length : Int) - 0).toNat + 1) 0 (show 0 ≤ 0 from (by first | assumption | omega | (simp_all <;> omega))) (Nat.lt_succ_self _)) h1) <| sK [] sN)) rfl (by kernel_rfl) (by kernel_rfl) rfl ?_ ?_
   · simp only [v_slices_EqualFunc_____int64_____int64___int64___int64__mnnFimpl_sameTriangles_1Z, h0, h1, cond_false]
   · rfl
  | inr r2 =>
   refine fnS E0Ok hMixed (c := bodyOf f183) [] (.b true) [] func183 (q (sL mk_slices_EqualFunc_____int64_____int64___int64___int64__mnnFimpl_sameTriangles_1Z_1_0 0 (lp_val (ls_slices_EqualFunc_____int64_____int64___int64___int64__mnnFimpl_sameTriangles_1Z_1 s1_0 s2_1) (x := (lr_slices_EqualFunc_____int64_____int64___int64___int64__mnnFimpl_sameTriangles_1Z_1_0 s1_0 s2_1)) (lp_slices_EqualFunc_____int64_____int64___int64___int64__mnnFimpl_sameTriangles_1Z_1 s1_0 s2_1 hp0 hp1 hp2 hp3 h0 (((s1_0.length : Int) - 0).toNat + 1) 0 (show 0 ≤ 0 from (by first | assumption | omega | (simp_all <;> omega))) (Nat.lt_succ_self _)) h1) <| sK [] sN)) rfl (by kernel_rfl) (by kernel_rfl) rfl ?_ ?_
   · simp only [v_slices_EqualFunc_____int64_____int64___int64___int64__mnnFimpl_sameTriangles_1Z, h0, h1, cond_false]
   · rfl

def v_impl_sameTriangles (a_0 : (List (List Int))) (b_1 : (List (List Int))) : Bool := (v_slices_EqualFunc_____int64_____int64___int64___int64__mnnFimpl_sameTriangles_1Z a_0 b_1)

theorem t_impl_sameTriangles (a_0 : (List (List Int))) (b_1 : (List (List Int))) (hp0 : a_0.length ≤ 1073741824) (hp1 : ∀ t ∈ a_0, t.length ≤ 1073741824) (hp2 : b_1.length ≤ 1073741824) (hp3 : ∀ t ∈ b_1, t.length ≤ 1073741824)  : Fn prog 148 [.sl (a_0.map (cL (cI .i64))), .sl (b_1.map (cL (cI .i64)))] (.b (v_impl_sameTriangles a_0 b_1)) [] := by
 refine fnS E0Ok hMixed (c := bodyOf f148) [] (.b (v_slices_EqualFunc_____int64_____int64___int64___int64__mnnFimpl_sameTriangles_1Z a_0 b_1)) [] func148 (sF (t_slices_EqualFunc_____int64_____int64___int64___int64__mnnFimpl_sameTriangles_1Z a_0 b_1 hp0 hp1 hp2 hp3) <| sK [] sN) rfl (by kernel_rfl) (by kernel_rfl) rfl ?_ ?_
 · rfl
 · rfl

def v_impl_SameMesh (a_0 : GMesh) (b_1 : GMesh) : Bool := (cond (v_slices_EqualFunc___impl_Vector___impl_Vector_impl_Vector_impl_Vector__mnnFimpl_SameVectorZ a_0.Places b_1.Places)
  (v_impl_sameTriangles a_0.Triangles b_1.Triangles)
  false)

theorem t_impl_SameMesh (a_0 : GMesh) (b_1 : GMesh) (hp0 : a_0.Places.length ≤ 1073741824) (hp1 : a_0.Triangles.length ≤ 1073741824) (hp2 : ∀ t ∈ a_0.Triangles, t.length ≤ 1073741824) (hp3 : b_1.Places.length ≤ 1073741824) (hp4 : b_1.Triangles.length ≤ 1073741824) (hp5 : ∀ t ∈ b_1.Triangles, t.length ≤ 1073741824)  : Fn prog 79 [.agg [.sl (a_0.Places.map GVector.cells), .sl (a_0.Triangles.map (cL (cI .i64)))], .agg [.sl (b_1.Places.map GVector.cells), .sl (b_1.Triangles.map (cL (cI .i64)))]] (.b (v_impl_SameMesh a_0 b_1)) [] := by
 have p {a C} (s : Scr a C) := sF (t_slices_EqualFunc___impl_Vector___impl_Vector_impl_Vector_impl_Vector__mnnFimpl_SameVectorZ a_0.Places b_1.Places hp0 hp3) <| s
 cases h0 : (v_slices_EqualFunc___impl_Vector___impl_Vector_impl_Vector_impl_Vector__mnnFimpl_SameVectorZ a_0.Places b_1.Places) with
 | true =>
  refine fnS E0Ok hMixed (c := bodyOf f79) [] (.b (v_impl_sameTriangles a_0.Triangles b_1.Triangles)) [] func79 (p (sB h0 <| sB h0 <| sB h0 <| sB h0 <| sB h0 <| sF (t_impl_sameTriangles a_0.Triangles b_1.Triangles hp1 hp2 hp4 hp5) <| sB h0 <| sK [] sN)) rfl (by kernel_rfl) (by kernel_rfl) rfl ?_ ?_
  · simp only [v_impl_SameMesh, h0, cond_true]
  · rfl
 | false =>
  refine fnS E0Ok hMixed (c := bodyOf f79) [] (.b false) [] func79 (p (sB h0 <| sB h0 <| sB h0 <| sB h0 <| sB h0 <| sB h0 <| sK [] sN)) rfl (by kernel_rfl) (by kernel_rfl) rfl ?_ ?_
  · simp only [v_impl_SameMesh, h0, cond_false]
  · rfl

def v_impl_sameSpring (a_0 : GSpring) (b_1 : GSpring) : Bool := (cond (a_0.A == b_1.A)
  (cond (a_0.B == b_1.B)
    (cond (v_impl_SameNumber a_0.Long b_1.Long)
      (v_impl_SameNumber a_0.Stiff b_1.Stiff)
      false)
    false)
  false)

theorem t_impl_sameSpring (a_0 : GSpring) (b_1 : GSpring)   : Fn prog 81 [.agg [.i .i64 a_0.A, .i .i64 a_0.B, .f .f32 a_0.Long, .f .f32 a_0.Stiff], .agg [.i .i64 b_1.A, .i .i64 b_1.B, .f .f32 b_1.Long, .f .f32 b_1.Stiff]] (.b (v_impl_sameSpring a_0 b_1)) [] := by
 cases h0 : (a_0.A == b_1.A) with
 | true =>
  have gh0 := eq_of_beq h0
  have p {a C} (s : Scr a C) := sB h0 <| sB h0 <| sB h0 <| sB h0 <| sB h0 <| sB h0 <| s
  cases h1 : (a_0.B == b_1.B) with
  | true =>
   have gh1 := eq_of_beq h1
   have q {a C} (s : Scr a C) := p (sB h1 <| sB h1 <| sB h1 <| sB h1 <| sB h1 <| sF (t_impl_SameNumber a_0.Long b_1.Long) <| sB h1 <| s)
   clear p
   cases h2 : (v_impl_SameNumber a_0.Long b_1.Long) with
   | true =>
    refine fnS E0Ok hMixed (c := bodyOf f81) [] (.b (v_impl_SameNumber a_0.Stiff b_1.Stiff)) [] func81 (q (sB h2 <| sB h2 <| sB h2 <| sB h2 <| sB h2 <| sF (t_impl_SameNumber a_0.Stiff b_1.Stiff) <| sB h2 <| sK [] sN)) rfl (by kernel_rfl) (by kernel_rfl) rfl ?_ ?_
    · simp only [v_impl_sameSpring, h0, h1, h2, cond_true]
    · rfl
   | false =>
    refine fnS E0Ok hMixed (c := bodyOf f81) [] (.b false) [] func81 (q (sB h2 <| sB h2 <| sB h2 <| sB h2 <| sB h2 <| sB h2 <| sK [] sN)) rfl (by kernel_rfl) (by kernel_rfl) rfl ?_ ?_
    · simp only [v_impl_sameSpring, h0, h1, h2, cond_true, cond_false]
    · rfl
  | false =>
   have gh1 := ne_of_beq_false h1
   refine fnS E0Ok hMixed (c := bodyOf f81) [] (.b false) [] func81 (p (sB h1 <| sB h1 <| sB h1 <| sB h1 <| sB h1 <| sB h1 <| sB (show false = false from rfl) <| sB (show false = false from rfl) <| sB (show false = false from rfl) <| sB (show false = false from rfl) <| sB (show false = false from rfl) <| sB (show false = false from rfl) <| sK [] sN)) rfl (by kernel_rfl) (by kernel_rfl) rfl ?_ ?_
   · simp only [v_impl_sameSpring, h0, h1, cond_true, cond_false]
   · rfl
 | false =>
  have gh0 := ne_of_beq_false h0
  refine fnS E0Ok hMixed (c := bodyOf f81) [] (.b false) [] func81 (sB h0 <| sB h0 <| sB h0 <| sB h0 <| sB h0 <| sB h0 <| sB (show false = false from rfl) <| sB (show false = false from rfl) <| sB (show false = false from rfl) <| sB (show false = false from rfl) <| sB (show false = false from rfl) <| sB (show false = false from rfl) <| sB (show false = false from rfl) <| sB (show false = false from rfl) <| sB (show false = false from rfl) <| sB (show false = false from rfl) <| sB (show false = false from rfl) <| sB (show false = false from rfl) <| sK [] sN) rfl (by kernel_rfl) (by kernel_rfl) rfl ?_ ?_
  · simp only [v_impl_sameSpring, h0, cond_false]
  · rfl

def lo_slices_EqualFunc___impl_Spring___impl_Spring_impl_Spring_impl_Spring__mnnFimpl_sameSpringZ_1 (s1_0 : (List GSpring)) (s2_1 : (List GSpring)) : Nat → Int → (Unit) ⊕ (Unit)
  | 0, _ => .inl default
  | k + 1, x_l0 => (cond (decide (x_l0 < (s1_0.length : Int)))
    (cond (v_impl_sameSpring (s1_0.getD x_l0.toNat default) (s2_1.getD x_l0.toNat default))
      (lo_slices_EqualFunc___impl_Spring___impl_Spring_impl_Spring_impl_Spring__mnnFimpl_sameSpringZ_1 s1_0 s2_1 k (x_l0 + 1))
      (.inl ()))
    (.inr ()))

def ls_slices_EqualFunc___impl_Spring___impl_Spring_impl_Spring_impl_Spring__mnnFimpl_sameSpringZ_1 (s1_0 : (List GSpring)) (s2_1 : (List GSpring)) : (Unit) ⊕ (Unit) → Ex × St
  | .inl r => (.ret, ⟨[.any, .any, .any, .any, .any, .any, .b false, .any, .any, .any, .any, .any, .any, .any, .any, .any, .any, .any, .any, .any, .any, .any, .any, .any, .any, .any, .any, .any, .any, .any, .any, .any], []⟩)
  | .inr r => ((.exit 0), ⟨[.sl (s1_0.map GSpring.cells), .sl (s2_1.map GSpring.cells), .any, .any, .any, .any, .any, .any, .any, .any, .sl (s1_0.map GSpring.cells), .i .i64 (s1_0.length : Int), .sl (s2_1.map GSpring.cells), .i .i64 (s2_1.length : Int), .b ((s1_0.length : Int) != (s2_1.length : Int)), .sl (s1_0.map GSpring.cells), .any, .any, .any, .any, .any, .any, .any, .any, .any, .any, .any, .any, .any, .any, .any, .any], []⟩)

def hd_slices_EqualFunc___impl_Spring___impl_Spring_impl_Spring_impl_Spring__mnnFimpl_sameSpringZ_1 (s1_0 : (List GSpring)) (s2_1 : (List GSpring)) (x_l0 : Int) : St := ⟨[.sl (s1_0.map GSpring.cells), .sl (s2_1.map GSpring.cells), .fn 81 [], .any, .any, .any, .any, .any, .any, .any, .sl (s1_0.map GSpring.cells), .i .i64 (s1_0.length : Int), .sl (s2_1.map GSpring.cells), .i .i64 (s2_1.length : Int), .b ((s1_0.length : Int) != (s2_1.length : Int)), .sl (s1_0.map GSpring.cells), .i .i64 (s1_0.length : Int), .i .i64 x_l0, .any, .any, .any, .any, .any, .any, .any, .any, .any, .any, .any, .any, .any, .any], []⟩

def mk_slices_EqualFunc___impl_Spring___impl_Spring_impl_Spring_impl_Spring__mnnFimpl_sameSpringZ_1_0 : List Bool := [true, true, true, false, false, false, false, false, false, false, true, true, true, true, true, true, true, true, false, false, false, false, false, false, false, false, false, false, false, false, false, false]

def mk_slices_EqualFunc___impl_Spring___impl_Spring_impl_Spring_impl_Spring__mnnFimpl_sameSpringZ_1_1 : List Bool := [false, false, false, false, false, false, true, false, false, false, false, false, false, false, false, false, false, false, false, false, false, false, false, false, false, false, false, false, false, false, false, false]

def mk_slices_EqualFunc___impl_Spring___impl_Spring_impl_Spring_impl_Spring__mnnFimpl_sameSpringZ_1_2 : List Bool := [true, true, false, false, false, false, false, false, false, false, true, true, true, true, true, true, false, false, false, false, false, false, false, false, false, false, false, false, false, false, false, false]

theorem lp_slices_EqualFunc___impl_Spring___impl_Spring_impl_Spring_impl_Spring__mnnFimpl_sameSpringZ_1 (s1_0 : (List GSpring)) (s2_1 : (List GSpring)) (hp0 : s1_0.length ≤ 1073741824) (hp1 : s2_1.length ≤ 1073741824) (hf_slices_EqualFunc___impl_Spring___impl_Spring_impl_Spring_impl_Spring__mnnFimpl_sameSpringZ_1_0 : ((s1_0.length : Int) != (s2_1.length : Int)) = false) : ∀ (k : Nat) (x_l0 : Int) (hv_slices_EqualFunc___impl_Spring___impl_Spring_impl_Spring_impl_Spring__mnnFimpl_sameSpringZ_1_0 : 0 ≤ x_l0) (hk : ((s1_0.length : Int) - x_l0).toNat < k), Lp prog 0 (sub (bodyOf f80) [1, 1, 0, 1, 0, 0]) (hd_slices_EqualFunc___impl_Spring___impl_Spring_impl_Spring_impl_Spring__mnnFimpl_sameSpringZ_1 s1_0 s2_1 x_l0) (ls_slices_EqualFunc___impl_Spring___impl_Spring_impl_Spring_impl_Spring__mnnFimpl_sameSpringZ_1 s1_0 s2_1 (lo_slices_EqualFunc___impl_Spring___impl_Spring_impl_Spring_impl_Spring__mnnFimpl_sameSpringZ_1 s1_0 s2_1 k x_l0)).1 (ls_slices_EqualFunc___impl_Spring___impl_Spring_impl_Spring_impl_Spring__mnnFimpl_sameSpringZ_1 s1_0 s2_1 (lo_slices_EqualFunc___impl_Spring___impl_Spring_impl_Spring_impl_Spring__mnnFimpl_sameSpringZ_1 s1_0 s2_1 k x_l0)).2 := by
 intro k
 induction k with
 | zero => intro x_l0 hv_slices_EqualFunc___impl_Spring___impl_Spring_impl_Spring_impl_Spring__mnnFimpl_sameSpringZ_1_0 hk; exact absurd hk (Nat.not_lt_zero _)
 | succ k ih =>
  intro x_l0 hv_slices_EqualFunc___impl_Spring___impl_Spring_impl_Spring_impl_Spring__mnnFimpl_sameSpringZ_1_0 hk
  cases h_0 : (decide (x_l0 < (s1_0.length : Int))) with
  | true =>
   have gh_0 := of_decide_eq_true h_0
   have y_0 : (0 : Int) ≤ x_l0 := (by first | assumption | omega | (simp_all <;> omega))
   have y_1 : x_l0 < (s1_0.length : Int) := (by first | assumption | omega | (simp_all <;> omega))
   have y_2 : x_l0 < (s2_1.length : Int) := (by first | assumption | omega | (simp_all <;> omega))
   have p {a C} (s : Scr a C) := sB h_0 <| sG GSpring.cells s1_0 x_l0 y_0 y_1 <| sG GSpring.cells s2_1 x_l0 y_0 y_2 <| sF (t_impl_sameSpring (s1_0.getD x_l0.toNat default) (s2_1.getD x_l0.toNat default)) <| s
   cases h_1 : (v_impl_sameSpring (s1_0.getD x_l0.toNat default) (s2_1.getD x_l0.toNat default)) with
   | true =>
    have y_3 : (-9223372036854775808 : Int) ≤ (x_l0 + 1) := by clear p; exact (by first | assumption | omega | (simp_all <;> omega))
    have y_4 : (x_l0 + 1) ≤ (9223372036854775807 : Int) := by clear p; exact (by first | assumption | omega | (simp_all <;> omega))
    have e : lo_slices_EqualFunc___impl_Spring___impl_Spring_impl_Spring_impl_Spring__mnnFimpl_sameSpringZ_1 s1_0 s2_1 (k + 1) x_l0 = (lo_slices_EqualFunc___impl_Spring___impl_Spring_impl_Spring_impl_Spring__mnnFimpl_sameSpringZ_1 s1_0 s2_1 k (x_l0 + 1)) := by simp only [lo_slices_EqualFunc___impl_Spring___impl_Spring_impl_Spring_impl_Spring__mnnFimpl_sameSpringZ_1, h_0, h_1, cond_true]
    rw [e]
    exact nextR E0Ok hMixed [] mk_slices_EqualFunc___impl_Spring___impl_Spring_impl_Spring_impl_Spring__mnnFimpl_sameSpringZ_1_0 [] (ih (x_l0 + 1) (show 0 ≤ (x_l0 + 1) from (by first | assumption | omega | (simp_all <;> omega))) (by first | assumption | omega | (simp_all <;> omega))) (p (sB' h_1 <| sI (x_l0 + 1) y_3 y_4 <| sN)) (by kernel_rfl)
   | false =>
    have e : lo_slices_EqualFunc___impl_Spring___impl_Spring_impl_Spring_impl_Spring__mnnFimpl_sameSpringZ_1 s1_0 s2_1 (k + 1) x_l0 = (.inl ()) := by simp only [lo_slices_EqualFunc___impl_Spring___impl_Spring_impl_Spring_impl_Spring__mnnFimpl_sameSpringZ_1, h_0, h_1, cond_true, cond_false]
    rw [e]
    exact outR (e := .ret) E0Ok hMixed [] mk_slices_EqualFunc___impl_Spring___impl_Spring_impl_Spring_impl_Spring__mnnFimpl_sameSpringZ_1_1 [] (p (sB' h_1 <| sN)) (by kernel_rfl) (by intro h; cases h)
  | false =>
   have gh_0 := of_decide_eq_false h_0
   have e : lo_slices_EqualFunc___impl_Spring___impl_Spring_impl_Spring_impl_Spring__mnnFimpl_sameSpringZ_1 s1_0 s2_1 (k + 1) x_l0 = (.inr ()) := by simp only [lo_slices_EqualFunc___impl_Spring___impl_Spring_impl_Spring_impl_Spring__mnnFimpl_sameSpringZ_1, h_0, cond_false]
   rw [e]
   exact outR (e := (.exit 0)) E0Ok hMixed [] mk_slices_EqualFunc___impl_Spring___impl_Spring_impl_Spring_impl_Spring__mnnFimpl_sameSpringZ_1_2 [] (sB h_0 <| sN) (by kernel_rfl) (by intro h; cases h)

def lr_slices_EqualFunc___impl_Spring___impl_Spring_impl_Spring_impl_Spring__mnnFimpl_sameSpringZ_1_0 (s1_0 : (List GSpring)) (s2_1 : (List GSpring)) : (Unit) ⊕ (Unit) := (lo_slices_EqualFunc___impl_Spring___impl_Spring_impl_Spring_impl_Spring__mnnFimpl_sameSpringZ_1 s1_0 s2_1 (((s1_0.length : Int) - 0).toNat + 1) 0)

def v_slices_EqualFunc___impl_Spring___impl_Spring_impl_Spring_impl_Spring__mnnFimpl_sameSpringZ (s1_0 : (List GSpring)) (s2_1 : (List GSpring)) : Bool := (cond ((s1_0.length : Int) != (s2_1.length : Int))
  false
  (match (lr_slices_EqualFunc___impl_Spring___impl_Spring_impl_Spring_impl_Spring__mnnFimpl_sameSpringZ_1_0 s1_0 s2_1) with
    | .inl r2 => false
    | .inr r2 => true))

theorem t_slices_EqualFunc___impl_Spring___impl_Spring_impl_Spring_impl_Spring__mnnFimpl_sameSpringZ (s1_0 : (List GSpring)) (s2_1 : (List GSpring)) (hp0 : s1_0.length ≤ 1073741824) (hp1 : s2_1.length ≤ 1073741824)  : Fn prog 80 [.sl (s1_0.map GSpring.cells), .sl (s2_1.map GSpring.cells), .fn 81 []] (.b (v_slices_EqualFunc___impl_Spring___impl_Spring_impl_Spring_impl_Spring__mnnFimpl_sameSpringZ s1_0 s2_1)) [] := by
 have p {a C} (s : Scr a C) := sZ GSpring.cells s1_0 <| sZ GSpring.cells s2_1 <| s
 cases h0 : ((s1_0.length : Int) != (s2_1.length : Int)) with
 | true =>
  have gh0 := bne_iff_ne.1 h0
  refine fnS E0Ok hMixed (c := bodyOf f80) [] (.b false) [] func80 (p (sB h0 <| sK [] sN)) rfl (by kernel_rfl) (by kernel_rfl) rfl ?_ ?_
  · simp only [v_slices_EqualFunc___impl_Spring___impl_Spring_impl_Spring_impl_Spring__mnnFimpl_sameSpringZ, h0, cond_true]
  · rfl
 | false =>
  have gh0 := bne_eq_false_iff_eq.1 h0
  have q {a C} (s : Scr a C) := p (sB h0 <| sZ GSpring.cells s1_0 <| s)
  clear p
  cases h1 : (lr_slices_EqualFunc___impl_Spring___impl_Spring_impl_Spring_impl_Spring__mnnFimpl_sameSpringZ_1_0 s1_0 s2_1) with
  | inl r2 =>
   refine fnS E0Ok hMixed (c := bodyOf f80) [] (.b false) [] func80 (q (sL mk_slices_EqualFunc___impl_Spring___impl_Spring_impl_Spring_impl_Spring__mnnFimpl_sameSpringZ_1_0 0 (lp_val (ls_slices_EqualFunc___impl_Spring___impl_Spring_impl_Spring_impl_Spring__mnnFimpl_sameSpringZ_1 s1_0 s2_1) (x := (lr_slices_EqualFunc___impl_Spring___impl_Spring_impl_Spring_impl_Spring__mnnFimpl_sameSpringZ_1_0 s1_0 s2_1)) (lp_slices_EqualFunc___impl_Spring___impl_Spring_impl_Spring_impl_Spring__mnnFimpl_sameSpringZ_1 s1_0 s2_1 hp0 hp1 h0 (((s1_0.length : Int) - 0).toNat + 1) 0 (show 0 ≤ 0 from (by first | assumption | omega | (simp_all <;> omega))) (Nat.lt_succ_self _)) h1) <| sK [] sN)) rfl (by kernel_rfl) (by kernel_rfl) rfl ?_ ?_
   · simp only [v_slices_EqualFunc___impl_Spring___impl_Spring_impl_Spring_impl_Spring__mnnFimpl_sameSpringZ, h0, h1, cond_false]
   · rfl
  | inr r2 =>
   refine fnS E0Ok hMixed (c := bodyOf f80) [] (.b true) [] func80 (q (sL mk_slices_EqualFunc___impl_Spring___impl_Spring_impl_Spring_impl_Spring__mnnFimpl_sameSpringZ_1_0 0 (lp_val (ls_slices_EqualFunc___impl_Spring___impl_Spring_impl_Spring_impl_Spring__mnnFimpl_sameSpringZ_1 s1_0 s2_1) (x := (lr_slices_EqualFunc___impl_Spring___impl_Spring_impl_Spring_impl_Spring__mnnFimpl_sameSpringZ_1_0 s1_0 s2_1)) (lp_slices_EqualFunc___impl_Spring___impl_Spring_impl_Spring_impl_Spring__mnnFimpl_sameSpringZ_1 s1_0 s2_1 hp0 hp1 h0 (((s1_0.length : Int) - 0).toNat + 1) 0 (show 0 ≤ 0 from (by first | assumption | omega | (simp_all <;> omega))) (Nat.lt_succ_self _)) h1) <| sK [] sN)) rfl (by kernel_rfl) (by kernel_rfl) rfl ?_ ?_
   · simp only [v_slices_EqualFunc___impl_Spring___impl_Spring_impl_Spring_impl_Spring__mnnFimpl_sameSpringZ, h0, h1, cond_false]
   · rfl

def lo_slices_EqualFunc___float32___float32_float32_float32__mnnFimpl_SameNumberZ_1 (s1_0 : (List Nat)) (s2_1 : (List Nat)) : Nat → Int → (Unit) ⊕ (Unit)
  | 0, _ => .inl default
  | k + 1, x_l0 => (cond (decide (x_l0 < (s1_0.length : Int)))
    (cond (v_impl_SameNumber (s1_0.getD x_l0.toNat default) (s2_1.getD x_l0.toNat default))
      (lo_slices_EqualFunc___float32___float32_float32_float32__mnnFimpl_SameNumberZ_1 s1_0 s2_1 k (x_l0 + 1))
      (.inl ()))
    (.inr ()))

def ls_slices_EqualFunc___float32___float32_float32_float32__mnnFimpl_SameNumberZ_1 (s1_0 : (List Nat)) (s2_1 : (List Nat)) : (Unit) ⊕ (Unit) → Ex × St
  | .inl r => (.ret, ⟨[.any, .any, .any, .any, .any, .any, .b false, .any, .any, .any, .any, .any, .any, .any, .any, .any, .any, .any, .any, .any, .any, .any, .any, .any, .any, .any, .any, .any, .any, .any, .any, .any], []⟩)
  | .inr r => ((.exit 0), ⟨[.sl (s1_0.map (cF .f32)), .sl (s2_1.map (cF .f32)), .any, .any, .any, .any, .any, .any, .any, .any, .sl (s1_0.map (cF .f32)), .i .i64 (s1_0.length : Int), .sl (s2_1.map (cF .f32)), .i .i64 (s2_1.length : Int), .b ((s1_0.length : Int) != (s2_1.length : Int)), .sl (s1_0.map (cF .f32)), .any, .any, .any, .any, .any, .any, .any, .any, .any, .any, .any, .any, .any, .any, .any, .any], []⟩)

def hd_slices_EqualFunc___float32___float32_float32_float32__mnnFimpl_SameNumberZ_1 (s1_0 : (List Nat)) (s2_1 : (List Nat)) (x_l0 : Int) : St := ⟨[.sl (s1_0.map (cF .f32)), .sl (s2_1.map (cF .f32)), .fn 82 [], .any, .any, .any, .any, .any, .any, .any, .sl (s1_0.map (cF .f32)), .i .i64 (s1_0.length : Int), .sl (s2_1.map (cF .f32)), .i .i64 (s2_1.length : Int), .b ((s1_0.length : Int) != (s2_1.length : Int)), .sl (s1_0.map (cF .f32)), .i .i64 (s1_0.length : Int), .i .i64 x_l0, .any, .any, .any, .any, .any, .any, .any, .any, .any, .any, .any, .any, .any, .any], []⟩

def mk_slices_EqualFunc___float32___float32_float32_float32__mnnFimpl_SameNumberZ_1_0 : List Bool := [true, true, true, false, false, false, false, false, false, false, true, true, true, true, true, true, true, true, false, false, false, false, false, false, false, false, false, false, false, false, false, false]

def mk_slices_EqualFunc___float32___float32_float32_float32__mnnFimpl_SameNumberZ_1_1 : List Bool := [false, false, false, false, false, false, true, false, false, false, false, false, false, false, false, false, false, false, false, false, false, false, false, false, false, false, false, false, false, false, false, false]

def mk_slices_EqualFunc___float32___float32_float32_float32__mnnFimpl_SameNumberZ_1_2 : List Bool := [true, true, false, false, false, false, false, false, false, false, true, true, true, true, true, true, false, false, false, false, false, false, false, false, false, false, false, false, false, false, false, false]

theorem lp_slices_EqualFunc___float32___float32_float32_float32__mnnFimpl_SameNumberZ_1 (s1_0 : (List Nat)) (s2_1 : (List Nat)) (hp0 : s1_0.length ≤ 1073741824) (hp1 : s2_1.length ≤ 1073741824) (hf_slices_EqualFunc___float32___float32_float32_float32__mnnFimpl_SameNumberZ_1_0 : ((s1_0.length : Int) != (s2_1.length : Int)) = false) : ∀ (k : Nat) (x_l0 : Int) (hv_slices_EqualFunc___float32___float32_float32_float32__mnnFimpl_SameNumberZ_1_0 : 0 ≤ x_l0) (hk : ((s1_0.length : Int) - x_l0).toNat < k), Lp prog 0 (sub (bodyOf f83) [1, 1, 0, 1, 0, 0]) (hd_slices_EqualFunc___float32___float32_float32_float32__mnnFimpl_SameNumberZ_1 s1_0 s2_1 x_l0) (ls_slices_EqualFunc___float32___float32_float32_float32__mnnFimpl_SameNumberZ_1 s1_0 s2_1 (lo_slices_EqualFunc___float32___float32_float32_float32__mnnFimpl_SameNumberZ_1 s1_0 s2_1 k x_l0)).1 (ls_slices_EqualFunc___float32___float32_float32_float32__mnnFimpl_SameNumberZ_1 s1_0 s2_1 (lo_slices_EqualFunc___float32___float32_float32_float32__mnnFimpl_SameNumberZ_1 s1_0 s2_1 k x_l0)).2 := by
 intro k
 induction k with
 | zero => intro x_l0 hv_slices_EqualFunc___float32___float32_float32_float32__mnnFimpl_SameNumberZ_1_0 hk; exact absurd hk (Nat.not_lt_zero _)
 | succ k ih =>
  intro x_l0 hv_slices_EqualFunc___float32___float32_float32_float32__mnnFimpl_SameNumberZ_1_0 hk
  cases h_0 : (decide (x_l0 < (s1_0.length : Int))) with
  | true =>
   have gh_0 := of_decide_eq_true h_0
   have y_0 : (0 : Int) ≤ x_l0 := (by first | assumption | omega | (simp_all <;> omega))
   have y_1 : x_l0 < (s1_0.length : Int) := (by first | assumption | omega | (simp_all <;> omega))
   have y_2 : x_l0 < (s2_1.length : Int) := (by first | assumption | omega | (simp_all <;> omega))
   have p {a C} (s : Scr a C) := sB h_0 <| sG (cF .f32) s1_0 x_l0 y_0 y_1 <| sG (cF .f32) s2_1 x_l0 y_0 y_2 <| sF (t_impl_SameNumber (s1_0.getD x_l0.toNat default) (s2_1.getD x_l0.toNat default)) <| s
   cases h_1 : (v_impl_SameNumber (s1_0.getD x_l0.toNat default) (s2_1.getD x_l0.toNat default)) with
   | true =>
    have y_3 : (-9223372036854775808 : Int) ≤ (x_l0 + 1) := by clear p; exact (by first | assumption | omega | (simp_all <;> omega))
    have y_4 : (x_l0 + 1) ≤ (9223372036854775807 : Int) := by clear p; exact (by first | assumption | omega | (simp_all <;> omega))
    have e : lo_slices_EqualFunc___float32___float32_float32_float32__mnnFimpl_SameNumberZ_1 s1_0 s2_1 (k + 1) x_l0 = (lo_slices_EqualFunc___float32___float32_float32_float32__mnnFimpl_SameNumberZ_1 s1_0 s2_1 k (x_l0 + 1)) := by simp only [lo_slices_EqualFunc___float32___float32_float32_float32__mnnFimpl_SameNumberZ_1, h_0, h_1, cond_true]
    rw [e]
    exact nextR E0Ok hMixed [] mk_slices_EqualFunc___float32___float32_float32_float32__mnnFimpl_SameNumberZ_1_0 [] (ih (x_l0 + 1) (show 0 ≤ (x_l0 + 1) from (by first | assumption | omega | (simp_all <;> omega))) (by first | assumption | omega | (simp_all <;> omega))) (p (sB' h_1 <| sI (x_l0 + 1) y_3 y_4 <| sN)) (by kernel_rfl)
   | false =>
    have e : lo_slices_EqualFunc___float32___float32_float32_float32__mnnFimpl_SameNumberZ_1 s1_0 s2_1 (k + 1) x_l0 = (.inl ()) := by simp only [lo_slices_EqualFunc___float32___float32_float32_float32__mnnFimpl_SameNumberZ_1, h_0, h_1, cond_true, cond_false]
    rw [e]
    exact outR (e := .ret) E0Ok hMixed [] mk_slices_EqualFunc___float32___float32_float32_float32__mnnFimpl_SameNumberZ_1_1 [] (p (sB' h_1 <| sN)) (by kernel_rfl) (by intro h; cases h)
  | false =>
   have gh_0 := of_decide_eq_false h_0
   have e : lo_slices_EqualFunc___float32___float32_float32_float32__mnnFimpl_SameNumberZ_1 s1_0 s2_1 (k + 1) x_l0 = (.inr ()) := by simp only [lo_slices_EqualFunc___float32___float32_float32_float32__mnnFimpl_SameNumberZ_1, h_0, cond_false]
   rw [e]
   exact outR (e := (.exit 0)) E0Ok hMixed [] mk_slices_EqualFunc___float32___float32_float32_float32__mnnFimpl_SameNumberZ_1_2 [] (sB h_0 <| sN) (by kernel_rfl) (by intro h; cases h)

def lr_slices_EqualFunc___float32___float32_float32_float32__mnnFimpl_SameNumberZ_1_0 (s1_0 : (List Nat)) (s2_1 : (List Nat)) : (Unit) ⊕ (Unit) := (lo_slices_EqualFunc___float32___float32_float32_float32__mnnFimpl_SameNumberZ_1 s1_0 s2_1 (((s1_0.length : Int) - 0).toNat + 1) 0)

def v_slices_EqualFunc___float32___float32_float32_float32__mnnFimpl_SameNumberZ (s1_0 : (List Nat)) (s2_1 : (List Nat)) : Bool := (cond ((s1_0.length : Int) != (s2_1.length : Int))
  false
  (match (lr_slices_EqualFunc___float32___float32_float32_float32__mnnFimpl_SameNumberZ_1_0 s1_0 s2_1) with
    | .inl r2 => false
    | .inr r2 => true))

theorem t_slices_EqualFunc___float32___float32_float32_float32__mnnFimpl_SameNumberZ (s1_0 : (List Nat)) (s2_1 : (List Nat)) (hp0 : s1_0.length ≤ 1073741824) (hp1 : s2_1.length ≤ 1073741824)  : Fn prog 83 [.sl (s1_0.map (cF .f32)), .sl (s2_1.map (cF .f32)), .fn 82 []] (.b (v_slices_EqualFunc___float32___float32_float32_float32__mnnFimpl_SameNumberZ s1_0 s2_1)) [] := by
 have p {a C} (s : Scr a C) := sZ (cF .f32) s1_0 <| sZ (cF .f32) s2_1 <| s
 cases h0 : ((s1_0.length : Int) != (s2_1.length : Int)) with
 | true =>
  have gh0 := bne_iff_ne.1 h0
  refine fnS E0Ok hMixed (c := bodyOf f83) [] (.b false) [] func83 (p (sB h0 <| sK [] sN)) rfl (by kernel_rfl) (by kernel_rfl) rfl ?_ ?_
  · simp only [v_slices_EqualFunc___float32___float32_float32_float32__mnnFimpl_SameNumberZ, h0, cond_true]
  · rfl
 | false =>
  have gh0 := bne_eq_false_iff_eq.1 h0
  have q {a C} (s : Scr a C) := p (sB h0 <| sZ (cF .f32) s1_0 <| s)
  clear p
  cases h1 : (lr_slices_EqualFunc___float32___float32_float32_float32__mnnFimpl_SameNumberZ_1_0 s1_0 s2_1) with
  | inl r2 =>
   refine fnS E0Ok hMixed (c := bodyOf f83) [] (.b false) [] func83 (q (sL mk_slices_EqualFunc___float32___float32_float32_float32__mnnFimpl_SameNumberZ_1_0 0 (lp_val (ls_slices_EqualFunc___float32___float32_float32_float32__mnnFimpl_SameNumberZ_1 s1_0 s2_1) (x := (lr_slices_EqualFunc___float32___float32_float32_float32__mnnFimpl_SameNumberZ_1_0 s1_0 s2_1)) (lp_slices_EqualFunc___float32___float32_float32_float32__mnnFimpl_SameNumberZ_1 s1_0 s2_1 hp0 hp1 h0 (((s1_0.length : Int) - 0).toNat + 1) 0 (show 0 ≤ 0 from (by first | assumption | omega | (simp_all <;> omega))) (Nat.lt_succ_self _)) h1) <| sK [] sN)) rfl (by kernel_rfl) (by kernel_rfl) rfl ?_ ?_
   · simp only [v_slices_EqualFunc___float32___float32_float32_float32__mnnFimpl_SameNumberZ, h0, h1, cond_false]
   · rfl
  | inr r2 =>
   refine fnS E0Ok hMixed (c := bodyOf f83) [] (.b true) [] func83 (q (sL mk_slices_EqualFunc___float32___float32_float32_float32__mnnFimpl_SameNumberZ_1_0 0 (lp_val (ls_slices_EqualFunc___float32___float32_float32_float32__mnnFimpl_SameNumberZ_1 s1_0 s2_1) (x := (lr_slices_EqualFunc___float32___float32_float32_float32__mnnFimpl_SameNumberZ_1_0 s1_0 s2_1)) (lp_slices_EqualFunc___float32___float32_float32_float32__mnnFimpl_SameNumberZ_1 s1_0 s2_1 hp0 hp1 h0 (((s1_0.length : Int) - 0).toNat + 1) 0 (show 0 ≤ 0 from (by first | assumption | omega | (simp_all <;> omega))) (Nat.lt_succ_self _)) h1) <| sK [] sN)) rfl (by kernel_rfl) (by kernel_rfl) rfl ?_ ?_
   · simp only [v_slices_EqualFunc___float32___float32_float32_float32__mnnFimpl_SameNumberZ, h0, h1, cond_false]
   · rfl

def v_impl_SameBody (a_0 : GBody) (b_1 : GBody) : Bool := (cond (v_impl_SameMesh a_0.Mesh b_1.Mesh)
  (cond (v_slices_EqualFunc___impl_Spring___impl_Spring_impl_Spring_impl_Spring__mnnFimpl_sameSpringZ a_0.Springs b_1.Springs)
    (cond (v_impl_SameNumber a_0.Film b_1.Film)
      (cond (v_impl_SameNumber a_0.Bend b_1.Bend)
        (cond (v_slices_EqualFunc___float32___float32_float32_float32__mnnFimpl_SameNumberZ a_0.Weights b_1.Weights)
          (v_impl_SameVector a_0.Fall b_1.Fall)
          false)
        false)
      false)
    false)
  false)

theorem t_impl_SameBody (a_0 : GBody) (b_1 : GBody) (hp0 : a_0.Mesh.Places.length ≤ 1073741824) (hp1 : a_0.Mesh.Triangles.length ≤ 1073741824) (hp2 : ∀ t ∈ a_0.Mesh.Triangles, t.length ≤ 1073741824) (hp3 : a_0.Springs.length ≤ 1073741824) (hp4 : a_0.Weights.length ≤ 1073741824) (hp5 : b_1.Mesh.Places.length ≤ 1073741824) (hp6 : b_1.Mesh.Triangles.length ≤ 1073741824) (hp7 : ∀ t ∈ b_1.Mesh.Triangles, t.length ≤ 1073741824) (hp8 : b_1.Springs.length ≤ 1073741824) (hp9 : b_1.Weights.length ≤ 1073741824)  : Fn prog 21 [.agg [.sl (a_0.Mesh.Places.map GVector.cells), .sl (a_0.Mesh.Triangles.map (cL (cI .i64))), .sl (a_0.Springs.map GSpring.cells), .f .f32 a_0.Film, .f .f32 a_0.Bend, .sl (a_0.Weights.map (cF .f32)), .f .f32 a_0.Fall.X, .f .f32 a_0.Fall.Y, .f .f32 a_0.Fall.Z], .agg [.sl (b_1.Mesh.Places.map GVector.cells), .sl (b_1.Mesh.Triangles.map (cL (cI .i64))), .sl (b_1.Springs.map GSpring.cells), .f .f32 b_1.Film, .f .f32 b_1.Bend, .sl (b_1.Weights.map (cF .f32)), .f .f32 b_1.Fall.X, .f .f32 b_1.Fall.Y, .f .f32 b_1.Fall.Z]] (.b (v_impl_SameBody a_0 b_1)) [] := by
 have p {a C} (s : Scr a C) := sF (t_impl_SameMesh a_0.Mesh b_1.Mesh hp0 hp1 hp2 hp5 hp6 hp7) <| s
 cases h0 : (v_impl_SameMesh a_0.Mesh b_1.Mesh) with
 | true =>
  have q {a C} (s : Scr a C) := p (sB h0 <| sB h0 <| sB h0 <| sB h0 <| sB h0 <| sF (t_slices_EqualFunc___impl_Spring___impl_Spring_impl_Spring_impl_Spring__mnnFimpl_sameSpringZ a_0.Springs b_1.Springs hp3 hp8) <| sB h0 <| s)
  clear p
  cases h1 : (v_slices_EqualFunc___impl_Spring___impl_Spring_impl_Spring_impl_Spring__mnnFimpl_sameSpringZ a_0.Springs b_1.Springs) with
  | true =>
   have p {a C} (s : Scr a C) := q (sB h1 <| sB h1 <| sB h1 <| sB h1 <| sB h1 <| sF (t_impl_SameNumber a_0.Film b_1.Film) <| sB h1 <| s)
   clear q
   cases h2 : (v_impl_SameNumber a_0.Film b_1.Film) with
   | true =>
    have q {a C} (s : Scr a C) := p (sB h2 <| sB h2 <| sB h2 <| sB h2 <| sB h2 <| sF (t_impl_SameNumber a_0.Bend b_1.Bend) <| sB h2 <| s)
    clear p
    cases h3 : (v_impl_SameNumber a_0.Bend b_1.Bend) with
    | true =>
     have p {a C} (s : Scr a C) := q (sB h3 <| sB h3 <| sB h3 <| sB h3 <| sB h3 <| sF (t_slices_EqualFunc___float32___float32_float32_float32__mnnFimpl_SameNumberZ a_0.Weights b_1.Weights hp4 hp9) <| sB h3 <| s)
     clear q
     cases h4 : (v_slices_EqualFunc___float32___float32_float32_float32__mnnFimpl_SameNumberZ a_0.Weights b_1.Weights) with
     | true =>
      refine fnS E0Ok hMixed (c := bodyOf f21) [] (.b (v_impl_SameVector a_0.Fall b_1.Fall)) [] func21 (p (sB h4 <| sB h4 <| sB h4 <| sB h4 <| sB h4 <| sF (t_impl_SameVector a_0.Fall b_1.Fall) <| sB h4 <| sK [] sN)) rfl (by kernel_rfl) (by kernel_rfl) rfl ?_ ?_
      · simp only [v_impl_SameBody, h0, h1, h2, h3, h4, cond_true]
      · rfl
     | false =>
      refine fnS E0Ok hMixed (c := bodyOf f21) [] (.b false) [] func21 (p (sB h4 <| sB h4 <| sB h4 <| sB h4 <| sB h4 <| sB h4 <| sK [] sN)) rfl (by kernel_rfl) (by kernel_rfl) rfl ?_ ?_
      · simp only [v_impl_SameBody, h0, h1, h2, h3, h4, cond_true, cond_false]
      · rfl
    | false =>
     refine fnS E0Ok hMixed (c := bodyOf f21) [] (.b false) [] func21 (q (sB h3 <| sB h3 <| sB h3 <| sB h3 <| sB h3 <| sB h3 <| sB (show false = false from rfl) <| sB (show false = false from rfl) <| sB (show false = false from rfl) <| sB (show false = false from rfl) <| sB (show false = false from rfl) <| sB (show false = false from rfl) <| sK [] sN)) rfl (by kernel_rfl) (by kernel_rfl) rfl ?_ ?_
     · simp only [v_impl_SameBody, h0, h1, h2, h3, cond_true, cond_false]
     · rfl
   | false =>
    refine fnS E0Ok hMixed (c := bodyOf f21) [] (.b false) [] func21 (p (sB h2 <| sB h2 <| sB h2 <| sB h2 <| sB h2 <| sB h2 <| sB (show false = false from rfl) <| sB (show false = false from rfl) <| sB (show false = false from rfl) <| sB (show false = false from rfl) <| sB (show false = false from rfl) <| sB (show false = false from rfl) <| sB (show false = false from rfl) <| sB (show false = false from rfl) <| sB (show false = false from rfl) <| sB (show false = false from rfl) <| sB (show false = false from rfl) <| sB (show false = false from rfl) <| sK [] sN)) rfl (by kernel_rfl) (by kernel_rfl) rfl ?_ ?_
    · simp only [v_impl_SameBody, h0, h1, h2, cond_true, cond_false]
    · rfl
  | false =>
   refine fnS E0Ok hMixed (c := bodyOf f21) [] (.b false) [] func21 (q (sB h1 <| sB h1 <| sB h1 <| sB h1 <| sB h1 <| sB h1 <| sB (show false = false from rfl) <| sB (show false = false from rfl) <| sB (show false = false from rfl) <| sB (show false = false from rfl) <| sB (show false = false from rfl) <| sB (show false = false from rfl) <| sB (show false = false from rfl) <| sB (show false = false from rfl) <| sB (show false = false from rfl) <| sB (show false = false from rfl) <| sB (show false = false from rfl) <| sB (show false = false from rfl) <| sB (show false = false from rfl) <| sB (show false = false from rfl) <| sB (show false = false from rfl) <| sB (show false = false from rfl) <| sB (show false = false from rfl) <| sB (show false = false from rfl) <| sK [] sN)) rfl (by kernel_rfl) (by kernel_rfl) rfl ?_ ?_
   · simp only [v_impl_SameBody, h0, h1, cond_true, cond_false]
   · rfl
 | false =>
  refine fnS E0Ok hMixed (c := bodyOf f21) [] (.b false) [] func21 (p (sB h0 <| sB h0 <| sB h0 <| sB h0 <| sB h0 <| sB h0 <| sB (show false = false from rfl) <| sB (show false = false from rfl) <| sB (show false = false from rfl) <| sB (show false = false from rfl) <| sB (show false = false from rfl) <| sB (show false = false from rfl) <| sB (show false = false from rfl) <| sB (show false = false from rfl) <| sB (show false = false from rfl) <| sB (show false = false from rfl) <| sB (show false = false from rfl) <| sB (show false = false from rfl) <| sB (show false = false from rfl) <| sB (show false = false from rfl) <| sB (show false = false from rfl) <| sB (show false = false from rfl) <| sB (show false = false from rfl) <| sB (show false = false from rfl) <| sB (show false = false from rfl) <| sB (show false = false from rfl) <| sB (show false = false from rfl) <| sB (show false = false from rfl) <| sB (show false = false from rfl) <| sB (show false = false from rfl) <| sK [] sN)) rfl (by kernel_rfl) (by kernel_rfl) rfl ?_ ?_
  · simp only [v_impl_SameBody, h0, cond_false]
  · rfl

def v_laws_sameFloat (a_0 : Nat) (b_1 : Nat) : Bool := (cond (fcmp .neq .f64 a_0 a_0)
  (fcmp .neq .f64 b_1 b_1)
  (cond (fcmp .neq .f64 b_1 b_1)
    false
    (cond (fcmp .eql .f64 a_0 0)
      (cond (fcmp .eql .f64 b_1 0)
        ((fcmp .gtr .f64 (fop .quo .f64 4607182418800017408 a_0) 0) == (fcmp .gtr .f64 (fop .quo .f64 4607182418800017408 b_1) 0))
        (fcmp .eql .f64 a_0 b_1))
      (fcmp .eql .f64 a_0 b_1))))

theorem t_laws_sameFloat (a_0 : Nat) (b_1 : Nat)   : Fn prog 17 [.f .f64 a_0, .f .f64 b_1] (.b (v_laws_sameFloat a_0 b_1)) [] := by
 cases h0 : (fcmp .neq .f64 a_0 a_0) with
 | true =>
  refine fnS E0Ok hMixed (c := bodyOf f17) [] (.b (fcmp .neq .f64 b_1 b_1)) [] func17 (sB h0 <| sB h0 <| sB h0 <| sB h0 <| sB (show true = true from rfl) <| sB h0 <| sB h0 <| sB h0 <| sB h0 <| sK [] sN) rfl (by kernel_rfl) (by kernel_rfl) rfl ?_ ?_
  · simp only [v_laws_sameFloat, h0, cond_true]
  · rfl
 | false =>
  have p {a C} (s : Scr a C) := sB h0 <| sB h0 <| sB h0 <| sB h0 <| s
  cases h1 : (fcmp .neq .f64 b_1 b_1) with
  | true =>
   refine fnS E0Ok hMixed (c := bodyOf f17) [] (.b false) [] func17 (p (sB h1 <| sB h0 <| sB h0 <| sB h0 <| sB h0 <| sK [] sN)) rfl (by kernel_rfl) (by kernel_rfl) rfl ?_ ?_
   · simp only [v_laws_sameFloat, h0, h1, cond_true, cond_false]
   · rfl
  | false =>
   have q {a C} (s : Scr a C) := p (sB h1 <| s)
   clear p
   cases h2 : (fcmp .eql .f64 a_0 0) with
   | true =>
    have p {a C} (s : Scr a C) := q (sB h2 <| sB h2 <| sB h2 <| s)
    clear q
    cases h3 : (fcmp .eql .f64 b_1 0) with
    | true =>
     refine fnS E0Ok hMixed (c := bodyOf f17) [] (.b ((fcmp .gtr .f64 (fop .quo .f64 4607182418800017408 a_0) 0) == (fcmp .gtr .f64 (fop .quo .f64 4607182418800017408 b_1) 0))) [] func17 (p (sB h3 <| sK [] sN)) rfl (by kernel_rfl) (by kernel_rfl) rfl ?_ ?_
     · simp only [v_laws_sameFloat, h0, h1, h2, h3, cond_true, cond_false]
     · rfl
    | false =>
     refine fnS E0Ok hMixed (c := bodyOf f17) [] (.b (fcmp .eql .f64 a_0 b_1)) [] func17 (p (sB h3 <| sK [] sN)) rfl (by kernel_rfl) (by kernel_rfl) rfl ?_ ?_
     · simp only [v_laws_sameFloat, h0, h1, h2, h3, cond_true, cond_false]
     · rfl
   | false =>
    refine fnS E0Ok hMixed (c := bodyOf f17) [] (.b (fcmp .eql .f64 a_0 b_1)) [] func17 (q (sB h2 <| sB h2 <| sB h2 <| sB (show false = false from rfl) <| sK [] sN)) rfl (by kernel_rfl) (by kernel_rfl) rfl ?_ ?_
    · simp only [v_laws_sameFloat, h0, h1, h2, cond_false]
    · rfl

theorem same_self (x : Nat) : v_laws_sameFloat x x = true := by
  unfold v_laws_sameFloat
  cases h : fcmp .neq .f64 x x
  · simp only [cond_false]
    have h2 : fcmp .eql .f64 x x = true := by
      unfold fcmp at h ⊢
      simpa using h
    cases fcmp .eql .f64 x 0 <;> simp [h2]
  · rfl

def v_laws_eqVector (a_0 : GVector) (b_1 : GVector) : Bool := (cond (v_laws_sameFloat (fcv .f32 .f64 a_0.X) (fcv .f32 .f64 b_1.X))
  (cond (v_laws_sameFloat (fcv .f32 .f64 a_0.Y) (fcv .f32 .f64 b_1.Y))
    (cond (v_laws_sameFloat (fcv .f32 .f64 a_0.Z) (fcv .f32 .f64 b_1.Z))
      true
      false)
    false)
  false)

theorem t_laws_eqVector (a_0 : GVector) (b_1 : GVector)   : Fn prog 87 [.agg [.f .f32 a_0.X, .f .f32 a_0.Y, .f .f32 a_0.Z], .agg [.f .f32 b_1.X, .f .f32 b_1.Y, .f .f32 b_1.Z]] (.b (v_laws_eqVector a_0 b_1)) [] := by
 have p {a C} (s : Scr a C) := sC (widenOk a_0.X) <| sC (widenOk b_1.X) <| sF (t_laws_sameFloat (fcv .f32 .f64 a_0.X) (fcv .f32 .f64 b_1.X)) <| s
 cases h0 : (v_laws_sameFloat (fcv .f32 .f64 a_0.X) (fcv .f32 .f64 b_1.X)) with
 | true =>
  have q {a C} (s : Scr a C) := p (sB' h0 <| sC (widenOk a_0.Y) <| sC (widenOk b_1.Y) <| sF (t_laws_sameFloat (fcv .f32 .f64 a_0.Y) (fcv .f32 .f64 b_1.Y)) <| s)
  clear p
  cases h1 : (v_laws_sameFloat (fcv .f32 .f64 a_0.Y) (fcv .f32 .f64 b_1.Y)) with
  | true =>
   have p {a C} (s : Scr a C) := q (sB' h1 <| sC (widenOk a_0.Z) <| sC (widenOk b_1.Z) <| sF (t_laws_sameFloat (fcv .f32 .f64 a_0.Z) (fcv .f32 .f64 b_1.Z)) <| s)
   clear q
   cases h2 : (v_laws_sameFloat (fcv .f32 .f64 a_0.Z) (fcv .f32 .f64 b_1.Z)) with
   | true =>
    refine fnS E0Ok hMixed (c := bodyOf f87) [] (.b true) [] func87 (p (sB' h2 <| sK [] sN)) rfl (by kernel_rfl) (by kernel_rfl) rfl ?_ ?_
    · simp only [v_laws_eqVector, h0, h1, h2, cond_true]
    · rfl
   | false =>
    refine fnS E0Ok hMixed (c := bodyOf f87) [] (.b false) [] func87 (p (sB' h2 <| sK [] sN)) rfl (by kernel_rfl) (by kernel_rfl) rfl ?_ ?_
    · simp only [v_laws_eqVector, h0, h1, h2, cond_true, cond_false]
    · rfl
  | false =>
   refine fnS E0Ok hMixed (c := bodyOf f87) [] (.b false) [] func87 (q (sB' h1 <| sK [] sN)) rfl (by kernel_rfl) (by kernel_rfl) rfl ?_ ?_
   · simp only [v_laws_eqVector, h0, h1, cond_true, cond_false]
   · rfl
 | false =>
  refine fnS E0Ok hMixed (c := bodyOf f87) [] (.b false) [] func87 (p (sB' h0 <| sK [] sN)) rfl (by kernel_rfl) (by kernel_rfl) rfl ?_ ?_
  · simp only [v_laws_eqVector, h0, cond_false]
  · rfl

theorem eqVector_self (a : GVector) : v_laws_eqVector a a = true := by
  simp [v_laws_eqVector, same_self]

def lo_laws_eqVectorS_1 (a_0 : (List GVector)) (b_1 : (List GVector)) : Nat → Int → (Unit) ⊕ (Unit)
  | 0, _ => .inl default
  | k + 1, i_l0 => (cond (decide (i_l0 < (a_0.length : Int)))
    (cond (v_laws_eqVector (a_0.getD i_l0.toNat default) (b_1.getD i_l0.toNat default))
      (lo_laws_eqVectorS_1 a_0 b_1 k (i_l0 + 1))
      (.inl ()))
    (.inr ()))

def ls_laws_eqVectorS_1 (a_0 : (List GVector)) (b_1 : (List GVector)) : (Unit) ⊕ (Unit) → Ex × St
  | .inl r => (.ret, ⟨[.any, .any, .any, .any, .b false, .any, .any, .any, .any, .any, .any, .any, .any, .any, .any, .any, .any, .any, .any, .any, .any, .any, .any, .any, .any, .any, .any], []⟩)
  | .inr r => ((.exit 0), ⟨[.sl (a_0.map GVector.cells), .sl (b_1.map GVector.cells), .any, .any, .any, .any, .sl (a_0.map GVector.cells), .i .i64 (a_0.length : Int), .sl (b_1.map GVector.cells), .i .i64 (b_1.length : Int), .b ((a_0.length : Int) != (b_1.length : Int)), .any, .any, .any, .any, .any, .any, .any, .any, .any, .any, .any, .any, .any, .any, .any, .any], []⟩)

def hd_laws_eqVectorS_1 (a_0 : (List GVector)) (b_1 : (List GVector)) (i_l0 : Int) : St := ⟨[.sl (a_0.map GVector.cells), .sl (b_1.map GVector.cells), .any, .any, .any, .i .i64 i_l0, .sl (a_0.map GVector.cells), .i .i64 (a_0.length : Int), .sl (b_1.map GVector.cells), .i .i64 (b_1.length : Int), .b ((a_0.length : Int) != (b_1.length : Int)), .any, .any, .any, .any, .any, .any, .any, .any, .any, .any, .any, .any, .any, .any, .any, .any], []⟩

def mk_laws_eqVectorS_1_0 : List Bool := [true, true, false, false, false, true, true, true, true, true, true, false, false, false, false, false, false, false, false, false, false, false, false, false, false, false, false]

def mk_laws_eqVectorS_1_1 : List Bool := [false, false, false, false, true, false, false, false, false, false, false, false, false, false, false, false, false, false, false, false, false, false, false, false, false, false, false]

def mk_laws_eqVectorS_1_2 : List Bool := [true, true, false, false, false, false, true, true, true, true, true, false, false, false, false, false, false, false, false, false, false, false, false, false, false, false, false]

theorem lp_laws_eqVectorS_1 (a_0 : (List GVector)) (b_1 : (List GVector)) (hp0 : a_0.length ≤ 1073741824) (hp1 : b_1.length ≤ 1073741824) (hf_laws_eqVectorS_1_0 : ((a_0.length : Int) != (b_1.length : Int)) = false) : ∀ (k : Nat) (i_l0 : Int) (hv_laws_eqVectorS_1_0 : 0 ≤ i_l0) (hk : ((a_0.length : Int) - i_l0).toNat < k), Lp prog 0 (sub (bodyOf f40) [1, 1, 0, 1, 0, 0]) (hd_laws_eqVectorS_1 a_0 b_1 i_l0) (ls_laws_eqVectorS_1 a_0 b_1 (lo_laws_eqVectorS_1 a_0 b_1 k i_l0)).1 (ls_laws_eqVectorS_1 a_0 b_1 (lo_laws_eqVectorS_1 a_0 b_1 k i_l0)).2 := by
 intro k
 induction k with
 | zero => intro i_l0 hv_laws_eqVectorS_1_0 hk; exact absurd hk (Nat.not_lt_zero _)
 | succ k ih =>
  intro i_l0 hv_laws_eqVectorS_1_0 hk
  have p {a C} (s : Scr a C) := sZ GVector.cells a_0 <| s
  cases h_0 : (decide (i_l0 < (a_0.length : Int))) with
  | true =>
   have gh_0 := of_decide_eq_true h_0
   have y_0 : (0 : Int) ≤ i_l0 := by clear p; exact (by first | assumption | omega | (simp_all <;> omega))
   have y_1 : i_l0 < (a_0.length : Int) := by clear p; exact (by first | assumption | omega | (simp_all <;> omega))
   have y_2 : i_l0 < (b_1.length : Int) := by clear p; exact (by first | assumption | omega | (simp_all <;> omega))
   have q {a C} (s : Scr a C) := p (sB h_0 <| sK [8, 8] <| sG GVector.cells a_0 i_l0 y_0 y_1 <| sG GVector.cells b_1 i_l0 y_0 y_2 <| sF (t_laws_eqVector (a_0.getD i_l0.toNat default) (b_1.getD i_l0.toNat default)) <| s)
   clear p
   cases h_1 : (v_laws_eqVector (a_0.getD i_l0.toNat default) (b_1.getD i_l0.toNat default)) with
   | true =>
    have y_3 : (-9223372036854775808 : Int) ≤ (i_l0 + 1) := by clear q; exact (by first | assumption | omega | (simp_all <;> omega))
    have y_4 : (i_l0 + 1) ≤ (9223372036854775807 : Int) := by clear q; exact (by first | assumption | omega | (simp_all <;> omega))
    have e : lo_laws_eqVectorS_1 a_0 b_1 (k + 1) i_l0 = (lo_laws_eqVectorS_1 a_0 b_1 k (i_l0 + 1)) := by simp only [lo_laws_eqVectorS_1, h_0, h_1, cond_true]
    rw [e]
    exact nextR E0Ok hMixed [] mk_laws_eqVectorS_1_0 [] (ih (i_l0 + 1) (show 0 ≤ (i_l0 + 1) from (by first | assumption | omega | (simp_all <;> omega))) (by first | assumption | omega | (simp_all <;> omega))) (q (sB' h_1 <| sI (i_l0 + 1) y_3 y_4 <| sN)) (by kernel_rfl)
   | false =>
    have e : lo_laws_eqVectorS_1 a_0 b_1 (k + 1) i_l0 = (.inl ()) := by simp only [lo_laws_eqVectorS_1, h_0, h_1, cond_true, cond_false]
    rw [e]
    exact outR (e := .ret) E0Ok hMixed [] mk_laws_eqVectorS_1_1 [] (q (sB' h_1 <| sN)) (by kernel_rfl) (by intro h; cases h)
  | false =>
   have gh_0 := of_decide_eq_false h_0
   have e : lo_laws_eqVectorS_1 a_0 b_1 (k + 1) i_l0 = (.inr ()) := by simp only [lo_laws_eqVectorS_1, h_0, cond_false]
   rw [e]
   exact outR (e := (.exit 0)) E0Ok hMixed [] mk_laws_eqVectorS_1_2 [] (p (sB h_0 <| sN)) (by kernel_rfl) (by intro h; cases h)

def lr_laws_eqVectorS_1_0 (a_0 : (List GVector)) (b_1 : (List GVector)) : (Unit) ⊕ (Unit) := (lo_laws_eqVectorS_1 a_0 b_1 (((a_0.length : Int) - 0).toNat + 1) 0)

def v_laws_eqVectorS (a_0 : (List GVector)) (b_1 : (List GVector)) : Bool := (cond ((a_0.length : Int) != (b_1.length : Int))
  false
  (match (lr_laws_eqVectorS_1_0 a_0 b_1) with
    | .inl r2 => false
    | .inr r2 => true))

theorem t_laws_eqVectorS (a_0 : (List GVector)) (b_1 : (List GVector)) (hp0 : a_0.length ≤ 1073741824) (hp1 : b_1.length ≤ 1073741824)  : Fn prog 40 [.sl (a_0.map GVector.cells), .sl (b_1.map GVector.cells)] (.b (v_laws_eqVectorS a_0 b_1)) [] := by
 have p {a C} (s : Scr a C) := sZ GVector.cells a_0 <| sZ GVector.cells b_1 <| s
 cases h0 : ((a_0.length : Int) != (b_1.length : Int)) with
 | true =>
  have gh0 := bne_iff_ne.1 h0
  refine fnS E0Ok hMixed (c := bodyOf f40) [] (.b false) [] func40 (p (sB h0 <| sK [] sN)) rfl (by kernel_rfl) (by kernel_rfl) rfl ?_ ?_
  · simp only [v_laws_eqVectorS, h0, cond_true]
  · rfl
 | false =>
  have gh0 := bne_eq_false_iff_eq.1 h0
  have q {a C} (s : Scr a C) := p (sB h0 <| s)
  clear p
  cases h1 : (lr_laws_eqVectorS_1_0 a_0 b_1) with
  | inl r2 =>
   refine fnS E0Ok hMixed (c := bodyOf f40) [] (.b false) [] func40 (q (sL mk_laws_eqVectorS_1_0 0 (lp_val (ls_laws_eqVectorS_1 a_0 b_1) (x := (lr_laws_eqVectorS_1_0 a_0 b_1)) (lp_laws_eqVectorS_1 a_0 b_1 hp0 hp1 h0 (((a_0.length : Int) - 0).toNat + 1) 0 (show 0 ≤ 0 from (by first | assumption | omega | (simp_all <;> omega))) (Nat.lt_succ_self _)) h1) <| sK [] sN)) rfl (by kernel_rfl) (by kernel_rfl) rfl ?_ ?_
   · simp only [v_laws_eqVectorS, h0, h1, cond_false]
   · rfl
  | inr r2 =>
   refine fnS E0Ok hMixed (c := bodyOf f40) [] (.b true) [] func40 (q (sL mk_laws_eqVectorS_1_0 0 (lp_val (ls_laws_eqVectorS_1 a_0 b_1) (x := (lr_laws_eqVectorS_1_0 a_0 b_1)) (lp_laws_eqVectorS_1 a_0 b_1 hp0 hp1 h0 (((a_0.length : Int) - 0).toNat + 1) 0 (show 0 ≤ 0 from (by first | assumption | omega | (simp_all <;> omega))) (Nat.lt_succ_self _)) h1) <| sK [] sN)) rfl (by kernel_rfl) (by kernel_rfl) rfl ?_ ?_
   · simp only [v_laws_eqVectorS, h0, h1, cond_false]
   · rfl

theorem eqVectorS_self (a : List GVector) : v_laws_eqVectorS a a = true := by
  unfold v_laws_eqVectorS lr_laws_eqVectorS_1_0
  rw [all_loop (a := a) (p := fun v => v_laws_eqVector v v) (lo := lo_laws_eqVectorS_1 a a) (x := ()) (y := ()) (fun k i => rfl) (fun v _ => eqVector_self v) _ _ (Int.le_refl 0) (Nat.lt_succ_self _)]
  simp

def lo_laws_eqInt64S_1 (a_0 : (List Int)) (b_1 : (List Int)) : Nat → Int → (Unit) ⊕ (Unit)
  | 0, _ => .inl default
  | k + 1, i_l0 => (cond (decide (i_l0 < (a_0.length : Int)))
    (cond ((a_0.getD i_l0.toNat default) != (b_1.getD i_l0.toNat default))
      (.inl ())
      (lo_laws_eqInt64S_1 a_0 b_1 k (i_l0 + 1)))
    (.inr ()))

def ls_laws_eqInt64S_1 (a_0 : (List Int)) (b_1 : (List Int)) : (Unit) ⊕ (Unit) → Ex × St
  | .inl r => (.ret, ⟨[.any, .any, .any, .any, .b false, .any, .any, .any, .any, .any, .any, .any, .any, .any, .any, .any, .any, .any, .any, .any, .any, .any, .any, .any, .any, .any], []⟩)
  | .inr r => ((.exit 0), ⟨[.sl (a_0.map (cI .i64)), .sl (b_1.map (cI .i64)), .any, .any, .any, .any, .sl (a_0.map (cI .i64)), .i .i64 (a_0.length : Int), .sl (b_1.map (cI .i64)), .i .i64 (b_1.length : Int), .b ((a_0.length : Int) != (b_1.length : Int)), .any, .any, .any, .any, .any, .any, .any, .any, .any, .any, .any, .any, .any, .any, .any], []⟩)

def hd_laws_eqInt64S_1 (a_0 : (List Int)) (b_1 : (List Int)) (i_l0 : Int) : St := ⟨[.sl (a_0.map (cI .i64)), .sl (b_1.map (cI .i64)), .any, .any, .any, .i .i64 i_l0, .sl (a_0.map (cI .i64)), .i .i64 (a_0.length : Int), .sl (b_1.map (cI .i64)), .i .i64 (b_1.length : Int), .b ((a_0.length : Int) != (b_1.length : Int)), .any, .any, .any, .any, .any, .any, .any, .any, .any, .any, .any, .any, .any, .any, .any], []⟩

def mk_laws_eqInt64S_1_0 : List Bool := [true, true, false, false, false, true, true, true, true, true, true, false, false, false, false, false, false, false, false, false, false, false, false, false, false, false]

def mk_laws_eqInt64S_1_1 : List Bool := [false, false, false, false, true, false, false, false, false, false, false, false, false, false, false, false, false, false, false, false, false, false, false, false, false, false]

def mk_laws_eqInt64S_1_2 : List Bool := [true, true, false, false, false, false, true, true, true, true, true, false, false, false, false, false, false, false, false, false, false, false, false, false, false, false]

theorem lp_laws_eqInt64S_1 (a_0 : (List Int)) (b_1 : (List Int)) (hp0 : a_0.length ≤ 1073741824) (hp1 : b_1.length ≤ 1073741824) (hf_laws_eqInt64S_1_0 : ((a_0.length : Int) != (b_1.length : Int)) = false) : ∀ (k : Nat) (i_l0 : Int) (hv_laws_eqInt64S_1_0 : 0 ≤ i_l0) (hk : ((a_0.length : Int) - i_l0).toNat < k), Lp prog 0 (sub (bodyOf f29) [1, 1, 0, 1, 0, 0]) (hd_laws_eqInt64S_1 a_0 b_1 i_l0) (ls_laws_eqInt64S_1 a_0 b_1 (lo_laws_eqInt64S_1 a_0 b_1 k i_l0)).1 (ls_laws_eqInt64S_1 a_0 b_1 (lo_laws_eqInt64S_1 a_0 b_1 k i_l0)).2 := by
 intro k
 induction k with
 | zero => intro i_l0 hv_laws_eqInt64S_1_0 hk; exact absurd hk (Nat.not_lt_zero _)
 | succ k ih =>
  intro i_l0 hv_laws_eqInt64S_1_0 hk
  have p {a C} (s : Scr a C) := sZ (cI .i64) a_0 <| s
  cases h_0 : (decide (i_l0 < (a_0.length : Int))) with
  | true =>
   have gh_0 := of_decide_eq_true h_0
   have y_0 : (0 : Int) ≤ i_l0 := by clear p; exact (by first | assumption | omega | (simp_all <;> omega))
   have y_1 : i_l0 < (a_0.length : Int) := by clear p; exact (by first | assumption | omega | (simp_all <;> omega))
   have y_2 : i_l0 < (b_1.length : Int) := by clear p; exact (by first | assumption | omega | (simp_all <;> omega))
   have q {a C} (s : Scr a C) := p (sB h_0 <| sK [8, 8] <| sG (cI .i64) a_0 i_l0 y_0 y_1 <| sG (cI .i64) b_1 i_l0 y_0 y_2 <| s)
   clear p
   cases h_1 : ((a_0.getD i_l0.toNat default) != (b_1.getD i_l0.toNat default)) with
   | true =>
    have gh_1 := bne_iff_ne.1 h_1
    have e : lo_laws_eqInt64S_1 a_0 b_1 (k + 1) i_l0 = (.inl ()) := by simp only [lo_laws_eqInt64S_1, h_0, h_1, cond_true]
    rw [e]
    exact outR (e := .ret) E0Ok hMixed [] mk_laws_eqInt64S_1_1 [] (q (sB h_1 <| sN)) (by kernel_rfl) (by intro h; cases h)
   | false =>
    have gh_1 := bne_eq_false_iff_eq.1 h_1
    have y_3 : (-9223372036854775808 : Int) ≤ (i_l0 + 1) := by clear q; exact (by first | assumption | omega | (simp_all <;> omega))
    have y_4 : (i_l0 + 1) ≤ (9223372036854775807 : Int) := by clear q; exact (by first | assumption | omega | (simp_all <;> omega))
    have e : lo_laws_eqInt64S_1 a_0 b_1 (k + 1) i_l0 = (lo_laws_eqInt64S_1 a_0 b_1 k (i_l0 + 1)) := by simp only [lo_laws_eqInt64S_1, h_0, h_1, cond_true, cond_false]
    rw [e]
    exact nextR E0Ok hMixed [] mk_laws_eqInt64S_1_0 [] (ih (i_l0 + 1) (show 0 ≤ (i_l0 + 1) from (by first | assumption | omega | (simp_all <;> omega))) (by first | assumption | omega | (simp_all <;> omega))) (q (sB h_1 <| sI (i_l0 + 1) y_3 y_4 <| sN)) (by kernel_rfl)
  | false =>
   have gh_0 := of_decide_eq_false h_0
   have e : lo_laws_eqInt64S_1 a_0 b_1 (k + 1) i_l0 = (.inr ()) := by simp only [lo_laws_eqInt64S_1, h_0, cond_false]
   rw [e]
   exact outR (e := (.exit 0)) E0Ok hMixed [] mk_laws_eqInt64S_1_2 [] (p (sB h_0 <| sN)) (by kernel_rfl) (by intro h; cases h)

end Go.Ab
