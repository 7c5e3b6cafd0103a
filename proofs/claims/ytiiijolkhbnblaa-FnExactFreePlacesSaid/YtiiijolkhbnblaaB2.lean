/- The functions of this seat as plain Lean, and that the program's are these. Printed by a program of the prover's own. -/
import Derived.Test.YtiiijolkhbnblaaB1
set_option linter.unusedVariables false
set_option linter.unusedSimpArgs false
set_option maxRecDepth 100000
namespace Go.Ab
open Go.RowKit Go.Proofs.Try

theorem t_spec_l02Triangle (t_0 : (List Int)) (n_1 : Int) (hp0 : t_0.length ≤ 1073741824)  : Fn prog 159 [.sl (t_0.map (cI .i64)), .i .i64 n_1] (.b (v_spec_l02Triangle t_0 n_1)) [] := by
 have p {a C} (s : Scr a C) := sK [28, 28] <| sZ (cI .i64) t_0 <| s
 cases h0 : ((t_0.length : Int) != 3) with
 | true =>
  have gh0 := bne_iff_ne.1 h0
  refine fnS E0Ok hMixed (c := bodyOf f159) [] (.b false) [] func159 (p (sB h0 <| sB h0 <| sB h0 <| sB h0 <| sB h0 <| sB h0 <| sB h0 <| sB h0 <| sB (show true = true from rfl) <| sB (show true = true from rfl) <| sB (show true = true from rfl) <| sB (show true = true from rfl) <| sB (show true = true from rfl) <| sB (show true = true from rfl) <| sB (show true = true from rfl) <| sB (show true = true from rfl) <| sB (show true = true from rfl) <| sB (show true = true from rfl) <| sB (show true = true from rfl) <| sB (show true = true from rfl) <| sB (show true = true from rfl) <| sB (show true = true from rfl) <| sB (show true = true from rfl) <| sB (show true = true from rfl) <| sB (show true = true from rfl) <| sK [] sN)) rfl (by kernel_rfl) (by kernel_rfl) rfl ?_ ?_
  · simp only [v_spec_l02Triangle, h0, cond_true]
  · rfl
 | false =>
  have gh0 := bne_eq_false_iff_eq.1 h0
  have y0 : (0 : Int) ≤ 0 := by clear p; exact (by first | assumption | omega | (simp_all <;> omega))
  have y1 : 0 < (t_0.length : Int) := by clear p; exact (by first | assumption | omega | (simp_all <;> omega))
  have y2 : (0 : Int) ≤ 1 := by clear p; exact (by first | assumption | omega | (simp_all <;> omega))
  have y3 : 1 < (t_0.length : Int) := by clear p; exact (by first | assumption | omega | (simp_all <;> omega))
  have q {a C} (s : Scr a C) := p (sB h0 <| sB h0 <| sG (cI .i64) t_0 0 y0 y1 <| sB h0 <| sB h0 <| sB h0 <| sG (cI .i64) t_0 1 y2 y3 <| sB h0 <| sB h0 <| sB h0 <| s)
  clear p
  cases h1 : ((t_0.getD 0 default) == (t_0.getD 1 default)) with
  | true =>
   have gh1 := eq_of_beq h1
   refine fnS E0Ok hMixed (c := bodyOf f159) [] (.b false) [] func159 (q (sB h1 <| sB h1 <| sB h1 <| sB h1 <| sB h1 <| sB h1 <| sB h1 <| sB h1 <| sB (show true = true from rfl) <| sB (show true = true from rfl) <| sB (show true = true from rfl) <| sB (show true = true from rfl) <| sB (show true = true from rfl) <| sB (show true = true from rfl) <| sB (show true = true from rfl) <| sB (show true = true from rfl) <| sB (show true = true from rfl) <| sK [] sN)) rfl (by kernel_rfl) (by kernel_rfl) rfl ?_ ?_
   · simp only [v_spec_l02Triangle, h0, h1, cond_true, cond_false]
   · rfl
  | false =>
   have gh1 := ne_of_beq_false h1
   have y4 : (0 : Int) ≤ 2 := by clear q; exact (by first | assumption | omega | (simp_all <;> omega))
   have y5 : 2 < (t_0.length : Int) := by clear q; exact (by first | assumption | omega | (simp_all <;> omega))
   have p {a C} (s : Scr a C) := q (sB h1 <| sB h1 <| sG (cI .i64) t_0 1 y2 y3 <| sB h1 <| sB h1 <| sB h1 <| sG (cI .i64) t_0 2 y4 y5 <| sB h1 <| sB h1 <| sB h1 <| s)
   clear q
   cases h2 : ((t_0.getD 1 default) == (t_0.getD 2 default)) with
   | true =>
    have gh2 := eq_of_beq h2
    refine fnS E0Ok hMixed (c := bodyOf f159) [] (.b false) [] func159 (p (sB h2 <| sB h2 <| sB h2 <| sB h2 <| sB h2 <| sB h2 <| sB h2 <| sB h2 <| sB (show true = true from rfl) <| sK [] sN)) rfl (by kernel_rfl) (by kernel_rfl) rfl ?_ ?_
    · simp only [v_spec_l02Triangle, h0, h1, h2, cond_true, cond_false]
    · rfl
   | false =>
    have gh2 := ne_of_beq_false h2
    have q {a C} (s : Scr a C) := p (sB h2 <| sB h2 <| sG (cI .i64) t_0 0 y0 y1 <| sB h2 <| sB h2 <| sB h2 <| sG (cI .i64) t_0 2 y4 y5 <| sB h2 <| sB h2 <| sB h2 <| s)
    clear p
    cases h3 : ((t_0.getD 0 default) == (t_0.getD 2 default)) with
    | true =>
     have gh3 := eq_of_beq h3
     refine fnS E0Ok hMixed (c := bodyOf f159) [] (.b false) [] func159 (q (sB h3 <| sK [] sN)) rfl (by kernel_rfl) (by kernel_rfl) rfl ?_ ?_
     · simp only [v_spec_l02Triangle, h0, h1, h2, h3, cond_true, cond_false]
     · rfl
    | false =>
     have gh3 := ne_of_beq_false h3
     have p {a C} (s : Scr a C) := q (sB h3 <| sG (cI .i64) t_0 0 y0 y1 <| sW .i64 (n_1 - 1) <| sF (t_spec_l00In (t_0.getD 0 default) 0 (IntKind.wrap .i64 (n_1 - 1))) <| s)
     clear q
     cases h4 : (v_spec_l00In (t_0.getD 0 default) 0 (IntKind.wrap .i64 (n_1 - 1))) with
     | true =>
      have q {a C} (s : Scr a C) := p (sB h4 <| sB h4 <| sG (cI .i64) t_0 1 y2 y3 <| sB h4 <| sB h4 <| sB h4 <| sW .i64 (n_1 - 1) <| sB h4 <| sF (t_spec_l00In (t_0.getD 1 default) 0 (IntKind.wrap .i64 (n_1 - 1))) <| sB h4 <| s)
      clear p
      cases h5 : (v_spec_l00In (t_0.getD 1 default) 0 (IntKind.wrap .i64 (n_1 - 1))) with
      | true =>
       refine fnS E0Ok hMixed (c := bodyOf f159) [] (.b (v_spec_l00In (t_0.getD 2 default) 0 (IntKind.wrap .i64 (n_1 - 1)))) [] func159 (q (sB h5 <| sB h5 <| sG (cI .i64) t_0 2 y4 y5 <| sB h5 <| sB h5 <| sB h5 <| sW .i64 (n_1 - 1) <| sB h5 <| sF (t_spec_l00In (t_0.getD 2 default) 0 (IntKind.wrap .i64 (n_1 - 1))) <| sB h5 <| sK [] sN)) rfl (by kernel_rfl) (by kernel_rfl) rfl ?_ ?_
       · simp only [v_spec_l02Triangle, h0, h1, h2, h3, h4, h5, cond_true, cond_false]
       · rfl
      | false =>
       refine fnS E0Ok hMixed (c := bodyOf f159) [] (.b false) [] func159 (q (sB h5 <| sB h5 <| sB h5 <| sB h5 <| sB h5 <| sB h5 <| sB h5 <| sK [] sN)) rfl (by kernel_rfl) (by kernel_rfl) rfl ?_ ?_
       · simp only [v_spec_l02Triangle, h0, h1, h2, h3, h4, h5, cond_true, cond_false]
       · rfl
     | false =>
      refine fnS E0Ok hMixed (c := bodyOf f159) [] (.b false) [] func159 (p (sB h4 <| sB h4 <| sB h4 <| sB h4 <| sB h4 <| sB h4 <| sB h4 <| sB (show false = false from rfl) <| sB (show false = false from rfl) <| sB (show false = false from rfl) <| sB (show false = false from rfl) <| sB (show false = false from rfl) <| sB (show false = false from rfl) <| sB (show false = false from rfl) <| sK [] sN)) rfl (by kernel_rfl) (by kernel_rfl) rfl ?_ ?_
      · simp only [v_spec_l02Triangle, h0, h1, h2, h3, h4, cond_false]
      · rfl

def lo_spec_l02Is_1 (m_0 : GMesh) : Nat → Int → (Unit) ⊕ (Unit)
  | 0, _ => .inl default
  | k + 1, i_l0 => (cond (decide (i_l0 < (m_0.Triangles.length : Int)))
    (cond (v_spec_l02Triangle (m_0.Triangles.getD i_l0.toNat default) (m_0.Places.length : Int))
      (lo_spec_l02Is_1 m_0 k (i_l0 + 1))
      (.inl ()))
    (.inr ()))

def ls_spec_l02Is_1 (m_0 : GMesh) : (Unit) ⊕ (Unit) → Ex × St
  | .inl r => (.ret, ⟨[.any, .any, .b false, .any, .any, .any, .any, .any, .any, .any, .any, .any, .any, .any, .any, .any, .any, .any, .any, .any, .any, .any, .any, .any, .any, .any, .any, .any, .any, .any, .any, .any, .any, .any, .any, .any, .any, .any, .any, .any, .any], []⟩)
  | .inr r => ((.exit 0), ⟨[.ref [.sl (m_0.Places.map GVector.cells), .sl (m_0.Triangles.map (cL (cI .i64)))] 0, .any, .any, .any, .ref [.sl (m_0.Places.map GVector.cells), .sl (m_0.Triangles.map (cL (cI .i64)))] 0, .ref [.sl (m_0.Places.map GVector.cells), .sl (m_0.Triangles.map (cL (cI .i64)))] 0, .ref [.sl (m_0.Places.map GVector.cells), .sl (m_0.Triangles.map (cL (cI .i64)))] 0, .sl (m_0.Places.map GVector.cells), .i .i64 (m_0.Places.length : Int), .b (decide ((m_0.Places.length : Int) > 64)), .b (decide ((m_0.Places.length : Int) > 64)), .ref [.sl (m_0.Places.map GVector.cells), .sl (m_0.Triangles.map (cL (cI .i64)))] 0, .ref [.sl (m_0.Places.map GVector.cells), .sl (m_0.Triangles.map (cL (cI .i64)))] 0, .ref [.sl (m_0.Places.map GVector.cells), .sl (m_0.Triangles.map (cL (cI .i64)))] 1, .sl (m_0.Triangles.map (cL (cI .i64))), .i .i64 (m_0.Triangles.length : Int), .b (decide ((m_0.Triangles.length : Int) > 128)), .b (decide ((m_0.Triangles.length : Int) > 128)), .any, .any, .any, .any, .any, .any, .any, .any, .any, .any, .any, .any, .any, .any, .any, .any, .any, .any, .any, .any, .any, .any, .any], []⟩)

def hd_spec_l02Is_1 (m_0 : GMesh) (i_l0 : Int) : St := ⟨[.ref [.sl (m_0.Places.map GVector.cells), .sl (m_0.Triangles.map (cL (cI .i64)))] 0, .any, .any, .i .i64 i_l0, .ref [.sl (m_0.Places.map GVector.cells), .sl (m_0.Triangles.map (cL (cI .i64)))] 0, .ref [.sl (m_0.Places.map GVector.cells), .sl (m_0.Triangles.map (cL (cI .i64)))] 0, .ref [.sl (m_0.Places.map GVector.cells), .sl (m_0.Triangles.map (cL (cI .i64)))] 0, .sl (m_0.Places.map GVector.cells), .i .i64 (m_0.Places.length : Int), .b (decide ((m_0.Places.length : Int) > 64)), .b (decide ((m_0.Places.length : Int) > 64)), .ref [.sl (m_0.Places.map GVector.cells), .sl (m_0.Triangles.map (cL (cI .i64)))] 0, .ref [.sl (m_0.Places.map GVector.cells), .sl (m_0.Triangles.map (cL (cI .i64)))] 0, .ref [.sl (m_0.Places.map GVector.cells), .sl (m_0.Triangles.map (cL (cI .i64)))] 1, .sl (m_0.Triangles.map (cL (cI .i64))), .i .i64 (m_0.Triangles.length : Int), .b (decide ((m_0.Triangles.length : Int) > 128)), .b (decide ((m_0.Triangles.length : Int) > 128)), .any, .any, .any, .any, .any, .any, .any, .any, .any, .any, .any, .any, .any, .any, .any, .any, .any, .any, .any, .any, .any, .any, .any], []⟩

def mk_spec_l02Is_1_0 : List Bool := [true, false, false, true, true, true, true, true, true, true, true, true, true, true, true, true, true, true, false, false, false, false, false, false, false, false, false, false, false, false, false, false, false, false, false, false, false, false, false, false, false]

def mk_spec_l02Is_1_1 : List Bool := [false, false, true, false, false, false, false, false, false, false, false, false, false, false, false, false, false, false, false, false, false, false, false, false, false, false, false, false, false, false, false, false, false, false, false, false, false, false, false, false, false]

def mk_spec_l02Is_1_2 : List Bool := [true, false, false, false, true, true, true, true, true, true, true, true, true, true, true, true, true, true, false, false, false, false, false, false, false, false, false, false, false, false, false, false, false, false, false, false, false, false, false, false, false]

theorem lp_spec_l02Is_1 (m_0 : GMesh) (hp0 : m_0.Places.length ≤ 1073741824) (hp1 : m_0.Triangles.length ≤ 1073741824) (hp2 : ∀ t ∈ m_0.Triangles, t.length ≤ 1073741824) (hf_spec_l02Is_1_0 : (decide ((m_0.Places.length : Int) > 64)) = false) (hf_spec_l02Is_1_1 : (decide ((m_0.Triangles.length : Int) > 128)) = false) : ∀ (k : Nat) (i_l0 : Int) (hv_spec_l02Is_1_0 : 0 ≤ i_l0) (hk : ((m_0.Triangles.length : Int) - i_l0).toNat < k), Lp prog 0 (sub (bodyOf f97) [1, 1, 0, 1, 0, 0]) (hd_spec_l02Is_1 m_0 i_l0) (ls_spec_l02Is_1 m_0 (lo_spec_l02Is_1 m_0 k i_l0)).1 (ls_spec_l02Is_1 m_0 (lo_spec_l02Is_1 m_0 k i_l0)).2 := by
 intro k
 induction k with
 | zero => intro i_l0 hv_spec_l02Is_1_0 hk; exact absurd hk (Nat.not_lt_zero _)
 | succ k ih =>
  intro i_l0 hv_spec_l02Is_1_0 hk
  have p {a C} (s : Scr a C) := sZ (cL (cI .i64)) m_0.Triangles <| s
  cases h_0 : (decide (i_l0 < (m_0.Triangles.length : Int))) with
  | true =>
   have gh_0 := of_decide_eq_true h_0
   have y_0 : (0 : Int) ≤ i_l0 := by clear p; exact (by first | assumption | omega | (simp_all <;> omega))
   have y_1 : i_l0 < (m_0.Triangles.length : Int) := by clear p; exact (by first | assumption | omega | (simp_all <;> omega))
   have y_2 : (m_0.Triangles.getD i_l0.toNat default).length ≤ 1073741824 := by clear p; exact (by first | assumption | omega | (simp_all <;> omega))
   have q {a C} (s : Scr a C) := p (sB h_0 <| sK [12, 12] <| sG (cL (cI .i64)) m_0.Triangles i_l0 y_0 y_1 <| sZ GVector.cells m_0.Places <| sF (t_spec_l02Triangle (m_0.Triangles.getD i_l0.toNat default) (m_0.Places.length : Int) y_2) <| s)
   clear p
   cases h_1 : (v_spec_l02Triangle (m_0.Triangles.getD i_l0.toNat default) (m_0.Places.length : Int)) with
   | true =>
    have y_3 : (-9223372036854775808 : Int) ≤ (i_l0 + 1) := by clear q; exact (by first | assumption | omega | (simp_all <;> omega))
    have y_4 : (i_l0 + 1) ≤ (9223372036854775807 : Int) := by clear q; exact (by first | assumption | omega | (simp_all <;> omega))
    have e : lo_spec_l02Is_1 m_0 (k + 1) i_l0 = (lo_spec_l02Is_1 m_0 k (i_l0 + 1)) := by simp only [lo_spec_l02Is_1, h_0, h_1, cond_true]
    rw [e]
    exact nextR E0Ok hMixed [] mk_spec_l02Is_1_0 [] (ih (i_l0 + 1) (show 0 ≤ (i_l0 + 1) from (by first | assumption | omega | (simp_all <;> omega))) (by first | assumption | omega | (simp_all <;> omega))) (q (sB' h_1 <| sI (i_l0 + 1) y_3 y_4 <| sN)) (by kernel_rfl)
   | false =>
    have e : lo_spec_l02Is_1 m_0 (k + 1) i_l0 = (.inl ()) := by simp only [lo_spec_l02Is_1, h_0, h_1, cond_true, cond_false]
    rw [e]
    exact outR (e := .ret) E0Ok hMixed [] mk_spec_l02Is_1_1 [] (q (sB' h_1 <| sN)) (by kernel_rfl) (by intro h; cases h)
  | false =>
   have gh_0 := of_decide_eq_false h_0
   have e : lo_spec_l02Is_1 m_0 (k + 1) i_l0 = (.inr ()) := by simp only [lo_spec_l02Is_1, h_0, cond_false]
   rw [e]
   exact outR (e := (.exit 0)) E0Ok hMixed [] mk_spec_l02Is_1_2 [] (p (sB h_0 <| sN)) (by kernel_rfl) (by intro h; cases h)

def lr_spec_l02Is_1_0 (m_0 : GMesh) : (Unit) ⊕ (Unit) := (lo_spec_l02Is_1 m_0 (((m_0.Triangles.length : Int) - 0).toNat + 1) 0)

def v_spec_l02Is (m_0 : GMesh) : Bool := (cond (decide ((m_0.Places.length : Int) > 64))
  false
  (cond (decide ((m_0.Triangles.length : Int) > 128))
    false
    (match (lr_spec_l02Is_1_0 m_0) with
      | .inl r3 => false
      | .inr r3 => true)))

theorem t_spec_l02Is (m_0 : GMesh) (hp0 : m_0.Places.length ≤ 1073741824) (hp1 : m_0.Triangles.length ≤ 1073741824) (hp2 : ∀ t ∈ m_0.Triangles, t.length ≤ 1073741824)  : Fn prog 97 [.ref [.sl (m_0.Places.map GVector.cells), .sl (m_0.Triangles.map (cL (cI .i64)))] 0] (.b (v_spec_l02Is m_0)) [] := by
 have p {a C} (s : Scr a C) := sZ GVector.cells m_0.Places <| s
 cases h0 : (decide ((m_0.Places.length : Int) > 64)) with
 | true =>
  have gh0 := of_decide_eq_true h0
  refine fnS E0Ok hMixed (c := bodyOf f97) [] (.b false) [] func97 (p (sB h0 <| sB h0 <| sB h0 <| sB h0 <| sB h0 <| sB h0 <| sB h0 <| sB (show true = true from rfl) <| sK [] sN)) rfl (by kernel_rfl) (by kernel_rfl) rfl ?_ ?_
  · simp only [v_spec_l02Is, h0, cond_true]
  · rfl
 | false =>
  have gh0 := of_decide_eq_false h0
  have q {a C} (s : Scr a C) := p (sB h0 <| sB h0 <| sB h0 <| sB h0 <| sB h0 <| sZ (cL (cI .i64)) m_0.Triangles <| sB h0 <| sB h0 <| s)
  clear p
  cases h1 : (decide ((m_0.Triangles.length : Int) > 128)) with
  | true =>
   have gh1 := of_decide_eq_true h1
   refine fnS E0Ok hMixed (c := bodyOf f97) [] (.b false) [] func97 (q (sB h1 <| sK [] sN)) rfl (by kernel_rfl) (by kernel_rfl) rfl ?_ ?_
   · simp only [v_spec_l02Is, h0, h1, cond_true, cond_false]
   · rfl
  | false =>
   have gh1 := of_decide_eq_false h1
   have p {a C} (s : Scr a C) := q (sB h1 <| s)
   clear q
   cases h2 : (lr_spec_l02Is_1_0 m_0) with
   | inl r3 =>
    refine fnS E0Ok hMixed (c := bodyOf f97) [] (.b false) [] func97 (p (sL mk_spec_l02Is_1_0 0 (lp_val (ls_spec_l02Is_1 m_0) (x := (lr_spec_l02Is_1_0 m_0)) (lp_spec_l02Is_1 m_0 hp0 hp1 hp2 h0 h1 (((m_0.Triangles.length : Int) - 0).toNat + 1) 0 (show 0 ≤ 0 from (by first | assumption | omega | (simp_all <;> omega))) (Nat.lt_succ_self _)) h2) <| sK [] sN)) rfl (by kernel_rfl) (by kernel_rfl) rfl ?_ ?_
    · simp only [v_spec_l02Is, h0, h1, h2, cond_false]
    · rfl
   | inr r3 =>
    refine fnS E0Ok hMixed (c := bodyOf f97) [] (.b true) [] func97 (p (sL mk_spec_l02Is_1_0 0 (lp_val (ls_spec_l02Is_1 m_0) (x := (lr_spec_l02Is_1_0 m_0)) (lp_spec_l02Is_1 m_0 hp0 hp1 hp2 h0 h1 (((m_0.Triangles.length : Int) - 0).toNat + 1) 0 (show 0 ≤ 0 from (by first | assumption | omega | (simp_all <;> omega))) (Nat.lt_succ_self _)) h2) <| sK [] sN)) rfl (by kernel_rfl) (by kernel_rfl) rfl ?_ ?_
    · simp only [v_spec_l02Is, h0, h1, h2, cond_false]
    · rfl

theorem l02Is_eq (m : GMesh) : v_spec_l02Is m = cond (decide ((m.Places.length : Int) > 64)) false (cond (decide ((m.Triangles.length : Int) > 128)) false (m.Triangles.all fun t => v_spec_l02Triangle t (m.Places.length : Int))) := by
  unfold v_spec_l02Is lr_spec_l02Is_1_0
  rw [all_from (a := m.Triangles) (p := fun t => v_spec_l02Triangle t (m.Places.length : Int)) (lo := lo_spec_l02Is_1 m) (x := ()) (y := ()) (fun k i => rfl)]
  cases (m.Triangles.all fun t => v_spec_l02Triangle t (m.Places.length : Int)) <;> rfl
theorem tri_ok {t : List Int} {n : Int} (h0 : 0 ≤ n) (h1 : n ≤ 64) (h : v_spec_l02Triangle t n = true) : t.length = 3 ∧ ∀ x ∈ t, 0 ≤ x ∧ x < n := by
  unfold v_spec_l02Triangle at h
  rw [wrap_sub (by omega) (by omega)] at h
  cases hl : ((t.length : Int) != 3) with
  | true => rw [hl] at h; cases h
  | false =>
    rw [hl, cond_false] at h
    have hl3 : t.length = 3 := by simp at hl; omega
    match t, hl3 with
    | [a, b, c], _ =>
      refine ⟨rfl, ?_⟩
      simp only [List.getD_cons_zero, List.getD_cons_succ, v_spec_l00In] at h
      cases e1 : (a == b) <;> rw [e1] at h <;> (try (cases h; done))
      cases e2 : (b == c) <;> rw [e2] at h <;> (try (cases h; done))
      cases e3 : (a == c) <;> rw [e3] at h <;> (try (cases h; done))
      simp only [cond_false] at h
      cases f1 : decide (a ≥ 0) <;> rw [f1] at h <;> (try (cases h; done))
      cases f2 : decide (a ≤ n - 1) <;> rw [f2] at h <;> (try (cases h; done))
      cases f3 : decide (b ≥ 0) <;> rw [f3] at h <;> (try (cases h; done))
      cases f4 : decide (b ≤ n - 1) <;> rw [f4] at h <;> (try (cases h; done))
      cases f5 : decide (c ≥ 0) <;> rw [f5] at h <;> (try (cases h; done))
      simp only [cond_true, decide_eq_true_eq] at h f1 f2 f3 f4 f5
      intro x hx
      simp only [List.mem_cons, List.not_mem_nil, or_false] at hx
      rcases hx with rfl | rfl | rfl <;> omega
theorem okTris_is (m : GMesh) (h : v_spec_l02Is m = true) : OkTris m.Places.length m.Triangles := by
  rw [l02Is_eq] at h
  cases h1 : decide ((m.Places.length : Int) > 64) <;> rw [h1] at h <;> (try (cases h; done))
  cases h2 : decide ((m.Triangles.length : Int) > 128) <;> rw [h2] at h <;> (try (cases h; done))
  simp only [cond_false, List.all_eq_true, decide_eq_false_iff_not] at h h1
  intro t ht
  exact tri_ok (by omega) (by omega) (h t ht)

def v_spec_l01Finite (x_0 : Nat) : Bool := (fcmp .eql .f32 (fop .sub .f32 x_0 x_0) 0)

theorem t_spec_l01Finite (x_0 : Nat)   : Fn prog 110 [.f .f32 x_0] (.b (v_spec_l01Finite x_0)) [] := by
 refine fnS E0Ok hMixed (c := bodyOf f110) [] (.b (fcmp .eql .f32 (fop .sub .f32 x_0 x_0) 0)) [] func110 (sK [] sN) rfl (by kernel_rfl) (by kernel_rfl) rfl ?_ ?_
 · rfl
 · rfl

def v_spec_l01VFinite (v_0 : GVector) : Bool := (cond (v_spec_l01Finite v_0.X)
  (cond (v_spec_l01Finite v_0.Y)
    (v_spec_l01Finite v_0.Z)
    false)
  false)

theorem t_spec_l01VFinite (v_0 : GVector)   : Fn prog 188 [.agg [.f .f32 v_0.X, .f .f32 v_0.Y, .f .f32 v_0.Z]] (.b (v_spec_l01VFinite v_0)) [] := by
 have p {a C} (s : Scr a C) := sF (t_spec_l01Finite v_0.X) <| s
 cases h0 : (v_spec_l01Finite v_0.X) with
 | true =>
  have q {a C} (s : Scr a C) := p (sB h0 <| sB h0 <| sB h0 <| sF (t_spec_l01Finite v_0.Y) <| sB h0 <| s)
  clear p
  cases h1 : (v_spec_l01Finite v_0.Y) with
  | true =>
   refine fnS E0Ok hMixed (c := bodyOf f188) [] (.b (v_spec_l01Finite v_0.Z)) [] func188 (q (sB h1 <| sB h1 <| sB h1 <| sF (t_spec_l01Finite v_0.Z) <| sB h1 <| sK [] sN)) rfl (by kernel_rfl) (by kernel_rfl) rfl ?_ ?_
   · simp only [v_spec_l01VFinite, h0, h1, cond_true]
   · rfl
  | false =>
   refine fnS E0Ok hMixed (c := bodyOf f188) [] (.b false) [] func188 (q (sB h1 <| sB h1 <| sB h1 <| sB h1 <| sK [] sN)) rfl (by kernel_rfl) (by kernel_rfl) rfl ?_ ?_
   · simp only [v_spec_l01VFinite, h0, h1, cond_true, cond_false]
   · rfl
 | false =>
  refine fnS E0Ok hMixed (c := bodyOf f188) [] (.b false) [] func188 (p (sB h0 <| sB h0 <| sB h0 <| sB h0 <| sB (show false = false from rfl) <| sB (show false = false from rfl) <| sB (show false = false from rfl) <| sB (show false = false from rfl) <| sK [] sN)) rfl (by kernel_rfl) (by kernel_rfl) rfl ?_ ?_
  · simp only [v_spec_l01VFinite, h0, cond_false]
  · rfl

def v_spec_l01Inner (a_0 : GVector) (b_1 : GVector) : Nat := (fop .add .f32 (fop .add .f32 (fop .mul .f32 a_0.X b_1.X) (fop .mul .f32 a_0.Y b_1.Y)) (fop .mul .f32 a_0.Z b_1.Z))

theorem t_spec_l01Inner (a_0 : GVector) (b_1 : GVector)   : Fn prog 161 [.agg [.f .f32 a_0.X, .f .f32 a_0.Y, .f .f32 a_0.Z], .agg [.f .f32 b_1.X, .f .f32 b_1.Y, .f .f32 b_1.Z]] (.f .f32 (v_spec_l01Inner a_0 b_1)) [] := by
 refine fnS E0Ok hMixed (c := bodyOf f161) [] (.f .f32 (fop .add .f32 (fop .add .f32 (fop .mul .f32 a_0.X b_1.X) (fop .mul .f32 a_0.Y b_1.Y)) (fop .mul .f32 a_0.Z b_1.Z))) [] func161 (sK [] sN) rfl (by kernel_rfl) (by kernel_rfl) rfl ?_ ?_
 · rfl
 · rfl

def v_spec_l04Is (h_0 : GHold) : Bool := (cond (decide (h_0.Place < 0))
  false
  (cond (v_spec_l00In h_0.Kind 0 2)
    (cond (v_spec_l01VFinite h_0.At)
      (cond (v_spec_l01VFinite h_0.Way)
        (cond (h_0.Kind == 0)
          true
          (cond (v_spec_l01Finite (v_spec_l01Inner h_0.Way h_0.Way))
            (fcmp .gtr .f32 (v_spec_l01Inner h_0.Way h_0.Way) 0)
            false))
        false)
      false)
    false))

theorem t_spec_l04Is (h_0 : GHold)   : Fn prog 152 [.ref [.i .i64 h_0.Place, .i .i64 h_0.Kind, .f .f32 h_0.At.X, .f .f32 h_0.At.Y, .f .f32 h_0.At.Z, .f .f32 h_0.Way.X, .f .f32 h_0.Way.Y, .f .f32 h_0.Way.Z] 0] (.b (v_spec_l04Is h_0)) [] := by
 cases h0 : (decide (h_0.Place < 0)) with
 | true =>
  have gh0 := of_decide_eq_true h0
  refine fnS E0Ok hMixed (c := bodyOf f152) [] (.b false) [] func152 (sB h0 <| sB h0 <| sB h0 <| sB h0 <| sB h0 <| sB h0 <| sB h0 <| sB (show true = true from rfl) <| sB (show true = true from rfl) <| sB (show true = true from rfl) <| sB (show true = true from rfl) <| sB (show true = true from rfl) <| sB (show true = true from rfl) <| sB (show true = true from rfl) <| sB (show true = true from rfl) <| sB (show true = true from rfl) <| sB (show true = true from rfl) <| sB (show true = true from rfl) <| sB (show true = true from rfl) <| sB (show true = true from rfl) <| sB (show true = true from rfl) <| sB (show true = true from rfl) <| sK [] sN) rfl (by kernel_rfl) (by kernel_rfl) rfl ?_ ?_
  · simp only [v_spec_l04Is, h0, cond_true]
  · rfl
 | false =>
  have gh0 := of_decide_eq_false h0
  have p {a C} (s : Scr a C) := sB h0 <| sB h0 <| sB h0 <| sB h0 <| sB h0 <| sF (t_spec_l00In h_0.Kind 0 2) <| sB h0 <| sB h0 <| s
  cases h1 : (v_spec_l00In h_0.Kind 0 2) with
  | true =>
   have q {a C} (s : Scr a C) := p (sB' h1 <| sB' h1 <| sB' h1 <| sB' h1 <| sB' h1 <| sF (t_spec_l01VFinite h_0.At) <| sB' h1 <| sB' h1 <| s)
   clear p
   cases h2 : (v_spec_l01VFinite h_0.At) with
   | true =>
    have p {a C} (s : Scr a C) := q (sB' h2 <| sB' h2 <| sB' h2 <| sB' h2 <| sB' h2 <| sF (t_spec_l01VFinite h_0.Way) <| sB' h2 <| sB' h2 <| s)
    clear q
    cases h3 : (v_spec_l01VFinite h_0.Way) with
    | true =>
     have q {a C} (s : Scr a C) := p (sB' h3 <| sK [8, 8] <| sF (t_spec_l01Inner h_0.Way h_0.Way) <| s)
     clear p
     cases h4 : (h_0.Kind == 0) with
     | true =>
      have gh4 := eq_of_beq h4
      refine fnS E0Ok hMixed (c := bodyOf f152) [] (.b true) [] func152 (q (sB h4 <| sB h4 <| sB h4 <| sB h4 <| sB h4 <| sK [] sN)) rfl (by kernel_rfl) (by kernel_rfl) rfl ?_ ?_
      · simp only [v_spec_l04Is, h0, h1, h2, h3, h4, cond_true, cond_false]
      · rfl
     | false =>
      have gh4 := ne_of_beq_false h4
      have p {a C} (s : Scr a C) := q (sB h4 <| sB h4 <| sF (t_spec_l01Finite (v_spec_l01Inner h_0.Way h_0.Way)) <| sB h4 <| s)
      clear q
      cases h5 : (v_spec_l01Finite (v_spec_l01Inner h_0.Way h_0.Way)) with
      | true =>
       refine fnS E0Ok hMixed (c := bodyOf f152) [] (.b (fcmp .gtr .f32 (v_spec_l01Inner h_0.Way h_0.Way) 0)) [] func152 (p (sB h5 <| sB h5 <| sB h4 <| sB h5 <| sB h4 <| sK [] sN)) rfl (by kernel_rfl) (by kernel_rfl) rfl ?_ ?_
       · simp only [v_spec_l04Is, h0, h1, h2, h3, h4, h5, cond_true, cond_false]
       · rfl
      | false =>
       refine fnS E0Ok hMixed (c := bodyOf f152) [] (.b false) [] func152 (p (sB h5 <| sB h5 <| sB h4 <| sB h5 <| sB h4 <| sK [] sN)) rfl (by kernel_rfl) (by kernel_rfl) rfl ?_ ?_
       · simp only [v_spec_l04Is, h0, h1, h2, h3, h4, h5, cond_true, cond_false]
       · rfl
    | false =>
     refine fnS E0Ok hMixed (c := bodyOf f152) [] (.b false) [] func152 (p (sB' h3 <| sK [] sN)) rfl (by kernel_rfl) (by kernel_rfl) rfl ?_ ?_
     · simp only [v_spec_l04Is, h0, h1, h2, h3, cond_true, cond_false]
     · rfl
   | false =>
    refine fnS E0Ok hMixed (c := bodyOf f152) [] (.b false) [] func152 (q (sB' h2 <| sB' h2 <| sB' h2 <| sB' h2 <| sB' h2 <| sB' h2 <| sB' h2 <| sB (show true = true from rfl) <| sK [] sN)) rfl (by kernel_rfl) (by kernel_rfl) rfl ?_ ?_
    · simp only [v_spec_l04Is, h0, h1, h2, cond_true, cond_false]
    · rfl
  | false =>
   refine fnS E0Ok hMixed (c := bodyOf f152) [] (.b false) [] func152 (p (sB' h1 <| sB' h1 <| sB' h1 <| sB' h1 <| sB' h1 <| sB' h1 <| sB' h1 <| sB (show true = true from rfl) <| sB (show true = true from rfl) <| sB (show true = true from rfl) <| sB (show true = true from rfl) <| sB (show true = true from rfl) <| sB (show true = true from rfl) <| sB (show true = true from rfl) <| sB (show true = true from rfl) <| sK [] sN)) rfl (by kernel_rfl) (by kernel_rfl) rfl ?_ ?_
   · simp only [v_spec_l04Is, h0, h1, cond_false]
   · rfl

def v_spec_l02Place (m_0 : GMesh) (place_1 : Int) : Bool := (v_spec_l00In place_1 0 (IntKind.wrap .i64 ((m_0.Places.length : Int) - 1)))

theorem t_spec_l02Place (m_0 : GMesh) (place_1 : Int) (hp0 : m_0.Places.length ≤ 1073741824) (hp1 : m_0.Triangles.length ≤ 1073741824) (hp2 : ∀ t ∈ m_0.Triangles, t.length ≤ 1073741824)  : Fn prog 153 [.ref [.sl (m_0.Places.map GVector.cells), .sl (m_0.Triangles.map (cL (cI .i64)))] 0, .i .i64 place_1] (.b (v_spec_l02Place m_0 place_1)) [] := by
 refine fnS E0Ok hMixed (c := bodyOf f153) [] (.b (v_spec_l00In place_1 0 (IntKind.wrap .i64 ((m_0.Places.length : Int) - 1)))) [] func153 (sZ GVector.cells m_0.Places <| sW .i64 ((m_0.Places.length : Int) - 1) <| sF (t_spec_l00In place_1 0 (IntKind.wrap .i64 ((m_0.Places.length : Int) - 1))) <| sK [] sN) rfl (by kernel_rfl) (by kernel_rfl) rfl ?_ ?_
 · rfl
 · rfl

def lo_spec_l04Are_1 (m_0 : GMesh) (holds_1 : (List GHold)) : Nat → Int → (Unit) ⊕ (Unit)
  | 0, _ => .inl default
  | k + 1, i_l0 => (cond (decide (i_l0 < (holds_1.length : Int)))
    (cond (v_spec_l04Is (holds_1.getD i_l0.toNat default))
      (cond (v_spec_l02Place m_0 ((holds_1.getD i_l0.toNat default).Place))
        (cond (decide (i_l0 > 0))
          (cond (decide ((holds_1.getD (i_l0 - 1).toNat default).Place ≥ (holds_1.getD i_l0.toNat default).Place))
            (.inl ())
            (lo_spec_l04Are_1 m_0 holds_1 k (i_l0 + 1)))
          (lo_spec_l04Are_1 m_0 holds_1 k (i_l0 + 1)))
        (.inl ()))
      (.inl ()))
    (.inr ()))

def ls_spec_l04Are_1 (m_0 : GMesh) (holds_1 : (List GHold)) : (Unit) ⊕ (Unit) → Ex × St
  | .inl r => (.ret, ⟨[.any, .any, .any, .any, .b false, .any, .any, .any, .any, .any, .any, .any, .any, .any, .any, .any, .any, .any, .any, .any, .any, .any, .any, .any, .any, .any, .any, .any, .any, .any, .any, .any, .any, .any, .any, .any, .any, .any, .any, .any, .any, .any, .any, .any, .any, .any, .any, .any], []⟩)
  | .inr r => ((.exit 0), ⟨[.ref [.sl (m_0.Places.map GVector.cells), .sl (m_0.Triangles.map (cL (cI .i64)))] 0, .any, .any, .any, .any, .any, .ref [.sl (m_0.Places.map GVector.cells), .sl (m_0.Triangles.map (cL (cI .i64)))] 0, .b (v_spec_l02Is m_0), .b (!(v_spec_l02Is m_0)), .any, .any, .any, .any, .any, .any, .any, .any, .any, .any, .any, .any, .any, .any, .any, .any, .any, .any, .any, .any, .any, .any, .any, .any, .any, .any, .any, .any, .any, .any, .any, .any, .any, .any, .any, .any, .any, .any, .any], []⟩)

def hd_spec_l04Are_1 (m_0 : GMesh) (holds_1 : (List GHold)) (i_l0 : Int) : St := ⟨[.ref [.sl (m_0.Places.map GVector.cells), .sl (m_0.Triangles.map (cL (cI .i64)))] 0, .sl (holds_1.map GHold.cells), .any, .any, .any, .i .i64 i_l0, .ref [.sl (m_0.Places.map GVector.cells), .sl (m_0.Triangles.map (cL (cI .i64)))] 0, .b (v_spec_l02Is m_0), .b (!(v_spec_l02Is m_0)), .any, .any, .any, .any, .any, .any, .any, .any, .any, .any, .any, .any, .any, .any, .any, .any, .any, .any, .any, .any, .any, .any, .any, .any, .any, .any, .any, .any, .any, .any, .any, .any, .any, .any, .any, .any, .any, .any, .any], []⟩

def mk_spec_l04Are_1_0 : List Bool := [true, true, false, false, false, true, true, true, true, false, false, false, false, false, false, false, false, false, false, false, false, false, false, false, false, false, false, false, false, false, false, false, false, false, false, false, false, false, false, false, false, false, false, false, false, false, false, false]

def mk_spec_l04Are_1_1 : List Bool := [false, false, false, false, true, false, false, false, false, false, false, false, false, false, false, false, false, false, false, false, false, false, false, false, false, false, false, false, false, false, false, false, false, false, false, false, false, false, false, false, false, false, false, false, false, false, false, false]

def mk_spec_l04Are_1_2 : List Bool := [true, false, false, false, false, false, true, true, true, false, false, false, false, false, false, false, false, false, false, false, false, false, false, false, false, false, false, false, false, false, false, false, false, false, false, false, false, false, false, false, false, false, false, false, false, false, false, false]

theorem lp_spec_l04Are_1 (m_0 : GMesh) (holds_1 : (List GHold)) (hp0 : m_0.Places.length ≤ 1073741824) (hp1 : m_0.Triangles.length ≤ 1073741824) (hp2 : ∀ t ∈ m_0.Triangles, t.length ≤ 1073741824) (hp3 : holds_1.length ≤ 1073741824) (hf_spec_l04Are_1_0 : (v_spec_l02Is m_0) = true) : ∀ (k : Nat) (i_l0 : Int) (hv_spec_l04Are_1_0 : 0 ≤ i_l0) (hk : ((holds_1.length : Int) - i_l0).toNat < k), Lp prog 0 (sub (bodyOf f89) [1, 1, 0, 1, 0, 0]) (hd_spec_l04Are_1 m_0 holds_1 i_l0) (ls_spec_l04Are_1 m_0 holds_1 (lo_spec_l04Are_1 m_0 holds_1 k i_l0)).1 (ls_spec_l04Are_1 m_0 holds_1 (lo_spec_l04Are_1 m_0 holds_1 k i_l0)).2 := by
 intro k
 induction k with
 | zero => intro i_l0 hv_spec_l04Are_1_0 hk; exact absurd hk (Nat.not_lt_zero _)
 | succ k ih =>
  intro i_l0 hv_spec_l04Are_1_0 hk
  have p {a C} (s : Scr a C) := sZ GHold.cells holds_1 <| s
  cases h_0 : (decide (i_l0 < (holds_1.length : Int))) with
  | true =>
   have gh_0 := of_decide_eq_true h_0
   have y_0 : (0 : Int) ≤ i_l0 := by clear p; exact (by first | assumption | omega | (simp_all <;> omega))
   have y_1 : i_l0 < (holds_1.length : Int) := by clear p; exact (by first | assumption | omega | (simp_all <;> omega))
   have q {a C} (s : Scr a C) := p (sB h_0 <| sK [30, 30] <| sG GHold.cells holds_1 i_l0 y_0 y_1 <| sF (t_spec_l04Is (holds_1.getD i_l0.toNat default)) <| s)
   clear p
   cases h_1 : (v_spec_l04Is (holds_1.getD i_l0.toNat default)) with
   | true =>
    have p {a C} (s : Scr a C) := q (sB' h_1 <| sB' h_1 <| sB' h_1 <| sB' h_1 <| sG GHold.cells holds_1 i_l0 y_0 y_1 <| sB' h_1 <| sB' h_1 <| sB' h_1 <| sF (t_spec_l02Place m_0 ((holds_1.getD i_l0.toNat default).Place) hp0 hp1 hp2) <| sB' h_1 <| sB' h_1 <| s)
    clear q
    cases h_2 : (v_spec_l02Place m_0 ((holds_1.getD i_l0.toNat default).Place)) with
    | true =>
     have q {a C} (s : Scr a C) := p (sB' h_2 <| sB' h_2 <| sB' h_2 <| s)
     clear p
     cases h_3 : (decide (i_l0 > 0)) with
     | true =>
      have gh_3 := of_decide_eq_true h_3
      have y_2 : (-9223372036854775808 : Int) ≤ (i_l0 - 1) := by clear q; exact (by first | assumption | omega | (simp_all <;> omega))
      have y_3 : (i_l0 - 1) ≤ (9223372036854775807 : Int) := by clear q; exact (by first | assumption | omega | (simp_all <;> omega))
      have y_4 : (0 : Int) ≤ (i_l0 - 1) := by clear q; exact (by first | assumption | omega | (simp_all <;> omega))
      have y_5 : (i_l0 - 1) < (holds_1.length : Int) := by clear q; exact (by first | assumption | omega | (simp_all <;> omega))
      have p {a C} (s : Scr a C) := q (sB h_3 <| sB h_3 <| sB h_3 <| sI (i_l0 - 1) y_2 y_3 <| sB h_3 <| sG GHold.cells holds_1 (i_l0 - 1) y_4 y_5 <| sB h_3 <| sB h_3 <| sB h_3 <| sB h_3 <| sB h_3 <| sG GHold.cells holds_1 i_l0 y_0 y_1 <| sB h_3 <| sB h_3 <| sB h_3 <| sB' h_2 <| sB h_3 <| sB' h_2 <| s)
      clear q
      cases h_4 : (decide ((holds_1.getD (i_l0 - 1).toNat default).Place ≥ (holds_1.getD i_l0.toNat default).Place)) with
      | true =>
       have gh_4 := of_decide_eq_true h_4
       have e : lo_spec_l04Are_1 m_0 holds_1 (k + 1) i_l0 = (.inl ()) := by simp only [lo_spec_l04Are_1, h_0, h_1, h_2, h_3, h_4, cond_true]
       rw [e]
       exact outR (e := .ret) E0Ok hMixed [] mk_spec_l04Are_1_1 [] (p (sB h_4 <| sN)) (by kernel_rfl) (by intro h; cases h)
      | false =>
       have gh_4 := of_decide_eq_false h_4
       have y_6 : (-9223372036854775808 : Int) ≤ (i_l0 + 1) := by clear p; exact (by first | assumption | omega | (simp_all <;> omega))
       have y_7 : (i_l0 + 1) ≤ (9223372036854775807 : Int) := by clear p; exact (by first | assumption | omega | (simp_all <;> omega))
       have e : lo_spec_l04Are_1 m_0 holds_1 (k + 1) i_l0 = (lo_spec_l04Are_1 m_0 holds_1 k (i_l0 + 1)) := by simp only [lo_spec_l04Are_1, h_0, h_1, h_2, h_3, h_4, cond_true, cond_false]
       rw [e]
       exact nextR E0Ok hMixed [] mk_spec_l04Are_1_0 [] (ih (i_l0 + 1) (show 0 ≤ (i_l0 + 1) from (by first | assumption | omega | (simp_all <;> omega))) (by first | assumption | omega | (simp_all <;> omega))) (p (sB h_4 <| sI (i_l0 + 1) y_6 y_7 <| sN)) (by kernel_rfl)
     | false =>
      have gh_3 := of_decide_eq_false h_3
      have y_2 : (-9223372036854775808 : Int) ≤ (i_l0 + 1) := by clear q; exact (by first | assumption | omega | (simp_all <;> omega))
      have y_3 : (i_l0 + 1) ≤ (9223372036854775807 : Int) := by clear q; exact (by first | assumption | omega | (simp_all <;> omega))
      have e : lo_spec_l04Are_1 m_0 holds_1 (k + 1) i_l0 = (lo_spec_l04Are_1 m_0 holds_1 k (i_l0 + 1)) := by simp only [lo_spec_l04Are_1, h_0, h_1, h_2, h_3, cond_true, cond_false]
      rw [e]
      exact nextR E0Ok hMixed [] mk_spec_l04Are_1_0 [] (ih (i_l0 + 1) (show 0 ≤ (i_l0 + 1) from (by first | assumption | omega | (simp_all <;> omega))) (by first | assumption | omega | (simp_all <;> omega))) (q (sB h_3 <| sB h_3 <| sB h_3 <| sB h_3 <| sB h_3 <| sB h_3 <| sB h_3 <| sB h_3 <| sB h_3 <| sB h_3 <| sB h_3 <| sB h_3 <| sB' h_2 <| sB h_3 <| sB' h_2 <| sB (show false = false from rfl) <| sI (i_l0 + 1) y_2 y_3 <| sN)) (by kernel_rfl)
    | false =>
     have e : lo_spec_l04Are_1 m_0 holds_1 (k + 1) i_l0 = (.inl ()) := by simp only [lo_spec_l04Are_1, h_0, h_1, h_2, cond_true, cond_false]
     rw [e]
     exact outR (e := .ret) E0Ok hMixed [] mk_spec_l04Are_1_1 [] (p (sB' h_2 <| sB' h_2 <| sB' h_2 <| sB' h_2 <| sB' h_2 <| sB (show true = true from rfl) <| sN)) (by kernel_rfl) (by intro h; cases h)
   | false =>
    have e : lo_spec_l04Are_1 m_0 holds_1 (k + 1) i_l0 = (.inl ()) := by simp only [lo_spec_l04Are_1, h_0, h_1, cond_true, cond_false]
    rw [e]
    exact outR (e := .ret) E0Ok hMixed [] mk_spec_l04Are_1_1 [] (q (sB' h_1 <| sB' h_1 <| sB' h_1 <| sB' h_1 <| sB' h_1 <| sB' h_1 <| sB' h_1 <| sB' h_1 <| sB' h_1 <| sB (show true = true from rfl) <| sB (show true = true from rfl) <| sB (show true = true from rfl) <| sB (show true = true from rfl) <| sB (show true = true from rfl) <| sB (show true = true from rfl) <| sN)) (by kernel_rfl) (by intro h; cases h)
  | false =>
   have gh_0 := of_decide_eq_false h_0
   have e : lo_spec_l04Are_1 m_0 holds_1 (k + 1) i_l0 = (.inr ()) := by simp only [lo_spec_l04Are_1, h_0, cond_false]
   rw [e]
   exact outR (e := (.exit 0)) E0Ok hMixed [] mk_spec_l04Are_1_2 [] (p (sB h_0 <| sN)) (by kernel_rfl) (by intro h; cases h)

def lr_spec_l04Are_1_0 (m_0 : GMesh) (holds_1 : (List GHold)) : (Unit) ⊕ (Unit) := (lo_spec_l04Are_1 m_0 holds_1 (((holds_1.length : Int) - 0).toNat + 1) 0)

def v_spec_l04Are (m_0 : GMesh) (holds_1 : (List GHold)) : Bool := (cond (v_spec_l02Is m_0)
  (match (lr_spec_l04Are_1_0 m_0 holds_1) with
    | .inl r2 => false
    | .inr r2 => true)
  false)

theorem t_spec_l04Are (m_0 : GMesh) (holds_1 : (List GHold)) (hp0 : m_0.Places.length ≤ 1073741824) (hp1 : m_0.Triangles.length ≤ 1073741824) (hp2 : ∀ t ∈ m_0.Triangles, t.length ≤ 1073741824) (hp3 : holds_1.length ≤ 1073741824)  : Fn prog 89 [.ref [.sl (m_0.Places.map GVector.cells), .sl (m_0.Triangles.map (cL (cI .i64)))] 0, .sl (holds_1.map GHold.cells)] (.b (v_spec_l04Are m_0 holds_1)) [] := by
 have p {a C} (s : Scr a C) := sF (t_spec_l02Is m_0 hp0 hp1 hp2) <| s
 cases h0 : (v_spec_l02Is m_0) with
 | true =>
  have q {a C} (s : Scr a C) := p (sB' h0 <| s)
  clear p
  cases h1 : (lr_spec_l04Are_1_0 m_0 holds_1) with
  | inl r2 =>
   refine fnS E0Ok hMixed (c := bodyOf f89) [] (.b false) [] func89 (q (sL mk_spec_l04Are_1_0 0 (lp_val (ls_spec_l04Are_1 m_0 holds_1) (x := (lr_spec_l04Are_1_0 m_0 holds_1)) (lp_spec_l04Are_1 m_0 holds_1 hp0 hp1 hp2 hp3 h0 (((holds_1.length : Int) - 0).toNat + 1) 0 (show 0 ≤ 0 from (by first | assumption | omega | (simp_all <;> omega))) (Nat.lt_succ_self _)) h1) <| sK [] sN)) rfl (by kernel_rfl) (by kernel_rfl) rfl ?_ ?_
   · simp only [v_spec_l04Are, h0, h1, cond_true]
   · rfl
  | inr r2 =>
   refine fnS E0Ok hMixed (c := bodyOf f89) [] (.b true) [] func89 (q (sL mk_spec_l04Are_1_0 0 (lp_val (ls_spec_l04Are_1 m_0 holds_1) (x := (lr_spec_l04Are_1_0 m_0 holds_1)) (lp_spec_l04Are_1 m_0 holds_1 hp0 hp1 hp2 hp3 h0 (((holds_1.length : Int) - 0).toNat + 1) 0 (show 0 ≤ 0 from (by first | assumption | omega | (simp_all <;> omega))) (Nat.lt_succ_self _)) h1) <| sK [] sN)) rfl (by kernel_rfl) (by kernel_rfl) rfl ?_ ?_
   · simp only [v_spec_l04Are, h0, h1, cond_true]
   · rfl
 | false =>
  refine fnS E0Ok hMixed (c := bodyOf f89) [] (.b false) [] func89 (p (sB' h0 <| sK [] sN)) rfl (by kernel_rfl) (by kernel_rfl) rfl ?_ ?_
  · simp only [v_spec_l04Are, h0, cond_false]
  · rfl

theorem lo_okHolds (m : GMesh) (hs : List GHold) : ∀ (k : Nat) (i : Int), 0 ≤ i → lo_spec_l04Are_1 m hs k i = .inr () → ∀ j : Nat, i.toNat ≤ j → j < hs.length → v_spec_l04Is (hs.getD j default) = true ∧ v_spec_l02Place m (hs.getD j default).Place = true := by
  intro k
  induction k with
  | zero => intro i _ h; cases h
  | succ k ih =>
    intro i h0 h j hj hl
    rw [lo_spec_l04Are_1] at h
    by_cases hi : i < (hs.length : Int)
    · rw [decide_eq_true hi, cond_true] at h
      cases h1 : v_spec_l04Is (hs.getD i.toNat default) <;> rw [h1] at h <;> (try (cases h; done))
      cases h2 : v_spec_l02Place m ((hs.getD i.toNat default).Place) <;> rw [h2] at h <;> (try (cases h; done))
      have h3 : lo_spec_l04Are_1 m hs k (i + 1) = .inr () := by
        simp only [cond_true] at h
        cases h4 : decide (i > 0) <;> rw [h4] at h
        · exact h
        · cases h5 : decide ((hs.getD (i - 1).toNat default).Place ≥ (hs.getD i.toNat default).Place) <;> rw [h5] at h
          · exact h
          · cases h
      by_cases hj2 : i.toNat = j
      · subst hj2; exact ⟨h1, h2⟩
      · exact ih (i + 1) (by omega) h3 j (by omega) hl
    · omega
theorem okH_is (m : GMesh) (hs : List GHold) (h : v_spec_l04Are m hs = true) : v_spec_l02Is m = true ∧ OkIx m.Places.length GHold.Place hs ∧ ∀ x ∈ hs, v_spec_l04Is x = true := by
  unfold v_spec_l04Are lr_spec_l04Are_1_0 at h
  cases h1 : v_spec_l02Is m <;> rw [h1] at h <;> (try (cases h; done))
  have hn : m.Places.length ≤ 64 := by
    rw [l02Is_eq] at h1
    cases h2 : decide ((m.Places.length : Int) > 64) <;> rw [h2] at h1 <;> (try (cases h1; done))
    simp only [decide_eq_false_iff_not] at h2
    omega
  have key : ∀ j : Nat, j < hs.length → v_spec_l04Is (hs.getD j default) = true ∧ v_spec_l02Place m (hs.getD j default).Place = true := by
    intro j hj
    refine lo_okHolds m hs (((hs.length : Int) - 0).toNat + 1) 0 (Int.le_refl 0) ?_ j (by simp) hj
    rw [cond_true] at h
    generalize lo_spec_l04Are_1 m hs (((hs.length : Int) - 0).toNat + 1) 0 = r at h
    cases r with
    | inl u => cases h
    | inr u => rfl
  have mem : ∀ x ∈ hs, v_spec_l04Is x = true ∧ v_spec_l02Place m x.Place = true := fun x hx => by
    obtain ⟨j, hj, rfl⟩ := List.getElem_of_mem hx
    have q := key j hj
    rwa [List.getD_eq_getElem?_getD, List.getElem?_eq_getElem hj, Option.getD_some] at q
  exact ⟨rfl, fun x hx => in_ok (by omega) (mem x hx).2, fun x hx => (mem x hx).1⟩

def lo_spec_l00Has_1 (list_0 : (List Int)) (n_1 : Int) : Nat → Int → (Unit) ⊕ (Unit)
  | 0, _ => .inl default
  | k + 1, i_l0 => (cond (decide (i_l0 < (list_0.length : Int)))
    (cond ((list_0.getD i_l0.toNat default) == n_1)
      (.inl ())
      (lo_spec_l00Has_1 list_0 n_1 k (i_l0 + 1)))
    (.inr ()))

def ls_spec_l00Has_1 (list_0 : (List Int)) (n_1 : Int) : (Unit) ⊕ (Unit) → Ex × St
  | .inl r => (.ret, ⟨[.any, .any, .any, .any, .b true, .any, .any, .any, .any, .any, .any, .any, .any, .any, .any, .any, .any, .any], []⟩)
  | .inr r => ((.exit 0), ⟨[.any, .any, .any, .any, .any, .any, .any, .any, .any, .any, .any, .any, .any, .any, .any, .any, .any, .any], []⟩)

def hd_spec_l00Has_1 (list_0 : (List Int)) (n_1 : Int) (i_l0 : Int) : St := ⟨[.sl (list_0.map (cI .i64)), .i .i64 n_1, .any, .any, .any, .i .i64 i_l0, .any, .any, .any, .any, .any, .any, .any, .any, .any, .any, .any, .any], []⟩

def mk_spec_l00Has_1_0 : List Bool := [true, true, false, false, false, true, false, false, false, false, false, false, false, false, false, false, false, false]

def mk_spec_l00Has_1_1 : List Bool := [false, false, false, false, true, false, false, false, false, false, false, false, false, false, false, false, false, false]

def mk_spec_l00Has_1_2 : List Bool := [false, false, false, false, false, false, false, false, false, false, false, false, false, false, false, false, false, false]

theorem lp_spec_l00Has_1 (list_0 : (List Int)) (n_1 : Int) (hp0 : list_0.length ≤ 1073741824) : ∀ (k : Nat) (i_l0 : Int) (hv_spec_l00Has_1_0 : 0 ≤ i_l0) (hk : ((list_0.length : Int) - i_l0).toNat < k), Lp prog 0 (sub (bodyOf f90) [1, 0, 1, 0, 0]) (hd_spec_l00Has_1 list_0 n_1 i_l0) (ls_spec_l00Has_1 list_0 n_1 (lo_spec_l00Has_1 list_0 n_1 k i_l0)).1 (ls_spec_l00Has_1 list_0 n_1 (lo_spec_l00Has_1 list_0 n_1 k i_l0)).2 := by
 intro k
 induction k with
 | zero => intro i_l0 hv_spec_l00Has_1_0 hk; exact absurd hk (Nat.not_lt_zero _)
 | succ k ih =>
  intro i_l0 hv_spec_l00Has_1_0 hk
  have p {a C} (s : Scr a C) := sZ (cI .i64) list_0 <| s
  cases h_0 : (decide (i_l0 < (list_0.length : Int))) with
  | true =>
   have gh_0 := of_decide_eq_true h_0
   have y_0 : (0 : Int) ≤ i_l0 := by clear p; exact (by first | assumption | omega | (simp_all <;> omega))
   have y_1 : i_l0 < (list_0.length : Int) := by clear p; exact (by first | assumption | omega | (simp_all <;> omega))
   have q {a C} (s : Scr a C) := p (sB h_0 <| sG (cI .i64) list_0 i_l0 y_0 y_1 <| s)
   clear p
   cases h_1 : ((list_0.getD i_l0.toNat default) == n_1) with
   | true =>
    have gh_1 := eq_of_beq h_1
    have e : lo_spec_l00Has_1 list_0 n_1 (k + 1) i_l0 = (.inl ()) := by simp only [lo_spec_l00Has_1, h_0, h_1, cond_true]
    rw [e]
    exact outR (e := .ret) E0Ok hMixed [] mk_spec_l00Has_1_1 [] (q (sB h_1 <| sN)) (by kernel_rfl) (by intro h; cases h)
   | false =>
    have gh_1 := ne_of_beq_false h_1
    have y_2 : (-9223372036854775808 : Int) ≤ (i_l0 + 1) := by clear q; exact (by first | assumption | omega | (simp_all <;> omega))
    have y_3 : (i_l0 + 1) ≤ (9223372036854775807 : Int) := by clear q; exact (by first | assumption | omega | (simp_all <;> omega))
    have e : lo_spec_l00Has_1 list_0 n_1 (k + 1) i_l0 = (lo_spec_l00Has_1 list_0 n_1 k (i_l0 + 1)) := by simp only [lo_spec_l00Has_1, h_0, h_1, cond_true, cond_false]
    rw [e]
    exact nextR E0Ok hMixed [] mk_spec_l00Has_1_0 [] (ih (i_l0 + 1) (show 0 ≤ (i_l0 + 1) from (by first | assumption | omega | (simp_all <;> omega))) (by first | assumption | omega | (simp_all <;> omega))) (q (sB h_1 <| sI (i_l0 + 1) y_2 y_3 <| sN)) (by kernel_rfl)
  | false =>
   have gh_0 := of_decide_eq_false h_0
   have e : lo_spec_l00Has_1 list_0 n_1 (k + 1) i_l0 = (.inr ()) := by simp only [lo_spec_l00Has_1, h_0, cond_false]
   rw [e]
   exact outR (e := (.exit 0)) E0Ok hMixed [] mk_spec_l00Has_1_2 [] (p (sB h_0 <| sN)) (by kernel_rfl) (by intro h; cases h)

def lr_spec_l00Has_1_0 (list_0 : (List Int)) (n_1 : Int) : (Unit) ⊕ (Unit) := (lo_spec_l00Has_1 list_0 n_1 (((list_0.length : Int) - 0).toNat + 1) 0)

def v_spec_l00Has (list_0 : (List Int)) (n_1 : Int) : Bool := (match (lr_spec_l00Has_1_0 list_0 n_1) with
  | .inl r1 => true
  | .inr r1 => false)

theorem t_spec_l00Has (list_0 : (List Int)) (n_1 : Int) (hp0 : list_0.length ≤ 1073741824)  : Fn prog 90 [.sl (list_0.map (cI .i64)), .i .i64 n_1] (.b (v_spec_l00Has list_0 n_1)) [] := by
 cases h0 : (lr_spec_l00Has_1_0 list_0 n_1) with
 | inl r1 =>
  refine fnS E0Ok hMixed (c := bodyOf f90) [] (.b true) [] func90 (sL mk_spec_l00Has_1_0 0 (lp_val (ls_spec_l00Has_1 list_0 n_1) (x := (lr_spec_l00Has_1_0 list_0 n_1)) (lp_spec_l00Has_1 list_0 n_1 hp0 (((list_0.length : Int) - 0).toNat + 1) 0 (show 0 ≤ 0 from (by first | assumption | omega | (simp_all <;> omega))) (Nat.lt_succ_self _)) h0) <| sK [] sN) rfl (by kernel_rfl) (by kernel_rfl) rfl ?_ ?_
  · simp only [v_spec_l00Has, h0]
  · rfl
 | inr r1 =>
  refine fnS E0Ok hMixed (c := bodyOf f90) [] (.b false) [] func90 (sL mk_spec_l00Has_1_0 0 (lp_val (ls_spec_l00Has_1 list_0 n_1) (x := (lr_spec_l00Has_1_0 list_0 n_1)) (lp_spec_l00Has_1 list_0 n_1 hp0 (((list_0.length : Int) - 0).toNat + 1) 0 (show 0 ≤ 0 from (by first | assumption | omega | (simp_all <;> omega))) (Nat.lt_succ_self _)) h0) <| sK [] sN) rfl (by kernel_rfl) (by kernel_rfl) rfl ?_ ?_
  · simp only [v_spec_l00Has, h0]
  · rfl

theorem eq_l00Has (l : List Int) (n : Int) : v_spec_l00Has l n = l.any fun v => v == n := by
  unfold v_spec_l00Has lr_spec_l00Has_1_0
  rw [any_loop (a := l) (p := fun v => v == n) (lo := lo_spec_l00Has_1 l n) (x := ()) (y := ()) (fun k i => rfl)]
  cases (l.any fun v => v == n) <;> rfl

def lo_spec_FreePlaces_1 (m_0 : GMesh) (holds_1 : (List GHold)) : Nat → Int → (List Int) → (List Int)
  | 0, _, _ => default
  | k + 1, i_l0, r1_l1 => (cond (decide (i_l0 < (holds_1.length : Int)))
    (lo_spec_FreePlaces_1 m_0 holds_1 k (i_l0 + 1) (r1_l1 ++ [(holds_1.getD i_l0.toNat default).Place]))
    r1_l1)

def ls_spec_FreePlaces_1 (m_0 : GMesh) (holds_1 : (List GHold)) (r : (List Int)) : Ex × St := ((.exit 0), ⟨[.agg [.sl (m_0.Places.map GVector.cells), .sl (m_0.Triangles.map (cL (cI .i64)))], .sl (holds_1.map GHold.cells), .ptr 0 0 0, .any, .nils, .b false, .own 1, .any, .any, .any, .sl (holds_1.map GHold.cells), .b (v_spec_l04Are m_0 holds_1), .b (!(v_spec_l04Are m_0 holds_1)), .any, .any, .any, .any, .any, .any, .any, .any, .any, .any, .any, .any, .any, .any, .any, .any, .any, .any, .any, .any, .any, .any, .any, .any, .any, .any, .any, .any, .any, .any, .any, .any], [.box 42 [.sl (m_0.Places.map GVector.cells), .sl (m_0.Triangles.map (cL (cI .i64)))], .vec 2 1 (r.map (cI .i64)) false]⟩)

def hd_spec_FreePlaces_1 (m_0 : GMesh) (holds_1 : (List GHold)) (i_l0 : Int) (r1_l1 : (List Int)) : St := ⟨[.agg [.sl (m_0.Places.map GVector.cells), .sl (m_0.Triangles.map (cL (cI .i64)))], .sl (holds_1.map GHold.cells), .ptr 0 0 0, .any, .nils, .b false, .own 1, .i .i64 i_l0, .any, .any, .sl (holds_1.map GHold.cells), .b (v_spec_l04Are m_0 holds_1), .b (!(v_spec_l04Are m_0 holds_1)), .any, .any, .any, .any, .any, .any, .any, .any, .any, .any, .any, .any, .any, .any, .any, .any, .any, .any, .any, .any, .any, .any, .any, .any, .any, .any, .any, .any, .any, .any, .any, .any], [.box 42 [.sl (m_0.Places.map GVector.cells), .sl (m_0.Triangles.map (cL (cI .i64)))], .vec 2 1 (r1_l1.map (cI .i64)) false]⟩

def mk_spec_FreePlaces_1_0 : List Bool := [true, true, true, false, true, true, true, true, false, false, true, true, true, false, false, false, false, false, false, false, false, false, false, false, false, false, false, false, false, false, false, false, false, false, false, false, false, false, false, false, false, false, false, false, false]

def mk_spec_FreePlaces_1_1 : List Bool := [true, true, true, false, true, true, true, false, false, false, true, true, true, false, false, false, false, false, false, false, false, false, false, false, false, false, false, false, false, false, false, false, false, false, false, false, false, false, false, false, false, false, false, false, false]

theorem lp_spec_FreePlaces_1 (m_0 : GMesh) (holds_1 : (List GHold)) (hp0 : m_0.Places.length ≤ 1073741824) (hp1 : m_0.Triangles.length ≤ 1073741824) (hp2 : ∀ t ∈ m_0.Triangles, t.length ≤ 1073741824) (hp3 : holds_1.length ≤ 1073741824) (hf_spec_FreePlaces_1_0 : (v_spec_l04Are m_0 holds_1) = true) : ∀ (k : Nat) (i_l0 : Int) (r1_l1 : (List Int)) (hv_spec_FreePlaces_1_0 : 0 ≤ i_l0) (hv_spec_FreePlaces_1_1 : (r1_l1.length : Int) = i_l0) (hk : ((holds_1.length : Int) - i_l0).toNat < k), Lp prog 0 (sub (bodyOf f25) [1, 1, 1, 0, 1, 0, 0]) (hd_spec_FreePlaces_1 m_0 holds_1 i_l0 r1_l1) (ls_spec_FreePlaces_1 m_0 holds_1 (lo_spec_FreePlaces_1 m_0 holds_1 k i_l0 r1_l1)).1 (ls_spec_FreePlaces_1 m_0 holds_1 (lo_spec_FreePlaces_1 m_0 holds_1 k i_l0 r1_l1)).2 := by
 intro k
 induction k with
 | zero => intro i_l0 r1_l1 hv_spec_FreePlaces_1_0 hv_spec_FreePlaces_1_1 hk; exact absurd hk (Nat.not_lt_zero _)
 | succ k ih =>
  intro i_l0 r1_l1 hv_spec_FreePlaces_1_0 hv_spec_FreePlaces_1_1 hk
  have p {a C} (s : Scr a C) := sZ GHold.cells holds_1 <| s
  cases h_0 : (decide (i_l0 < (holds_1.length : Int))) with
  | true =>
   have gh_0 := of_decide_eq_true h_0
   have y_0 : (0 : Int) ≤ i_l0 := by clear p; exact (by first | assumption | omega | (simp_all <;> omega))
   have y_1 : i_l0 < (holds_1.length : Int) := by clear p; exact (by first | assumption | omega | (simp_all <;> omega))
   have y_2 : r1_l1.length + ([(holds_1.getD i_l0.toNat default).Place]).length ≤ 1073741824 := by clear p; exact (by first | assumption | omega | (simp_all <;> omega))
   have y_3 : (-9223372036854775808 : Int) ≤ (i_l0 + 1) := by clear p; exact (by first | assumption | omega | (simp_all <;> omega))
   have y_4 : (i_l0 + 1) ≤ (9223372036854775807 : Int) := by clear p; exact (by first | assumption | omega | (simp_all <;> omega))
   have e : lo_spec_FreePlaces_1 m_0 holds_1 (k + 1) i_l0 r1_l1 = (lo_spec_FreePlaces_1 m_0 holds_1 k (i_l0 + 1) (r1_l1 ++ [(holds_1.getD i_l0.toNat default).Place])) := by simp only [lo_spec_FreePlaces_1, h_0, cond_true]
   rw [e]
   exact nextS E0Ok hMixed [] mk_spec_FreePlaces_1_0 [0, 1] (⟨[.agg [.sl (m_0.Places.map GVector.cells), .sl (m_0.Triangles.map (cL (cI .i64)))], .sl (holds_1.map GHold.cells), .ptr 0 0 0, .any, .nils, .b false, .own 1, .i .i64 (i_l0 + 1), .any, .any, .sl (holds_1.map GHold.cells), .b (v_spec_l04Are m_0 holds_1), .b (!(v_spec_l04Are m_0 holds_1)), .any, .any, .any, .any, .any, .any, .any, .any, .any, .any, .any, .any, .any, .any, .any, .any, .any, .any, .any, .any, .any, .any, .any, .any, .any, .any, .any, .any, .any, .any, .any, .any], [.box 42 [.sl (m_0.Places.map GVector.cells), .sl (m_0.Triangles.map (cL (cI .i64)))], .vec 2 1 ((r1_l1.map (cI .i64)) ++ ([[.i .i64 ((holds_1.getD i_l0.toNat default).Place)]] : List (List AV))) false]⟩) (p (sB h_0 <| sG GHold.cells holds_1 i_l0 y_0 y_1 <| sC (show (r1_l1.map (cI .i64)).length + ([[.i .i64 ((holds_1.getD i_l0.toNat default).Place)]] : List (List AV)).length ≤ 1073741824 from (by simpa using y_2)) <| sI (i_l0 + 1) y_3 y_4 <| sN)) (by kernel_rfl) (show _ = ⟨[.agg [.sl (m_0.Places.map GVector.cells), .sl (m_0.Triangles.map (cL (cI .i64)))], .sl (holds_1.map GHold.cells), .ptr 0 0 0, .any, .nils, .b false, .own 1, .i .i64 (i_l0 + 1), .any, .any, .sl (holds_1.map GHold.cells), .b (v_spec_l04Are m_0 holds_1), .b (!(v_spec_l04Are m_0 holds_1)), .any, .any, .any, .any, .any, .any, .any, .any, .any, .any, .any, .any, .any, .any, .any, .any, .any, .any, .any, .any, .any, .any, .any, .any, .any, .any, .any, .any, .any, .any, .any, .any], [.box 42 [.sl (m_0.Places.map GVector.cells), .sl (m_0.Triangles.map (cL (cI .i64)))], .vec 2 1 ((r1_l1 ++ [(holds_1.getD i_l0.toNat default).Place]).map (cI .i64)) false]⟩ from (by simp [cI])) (ih (i_l0 + 1) (r1_l1 ++ [(holds_1.getD i_l0.toNat default).Place]) (show 0 ≤ (i_l0 + 1) from (by first | assumption | omega | (simp_all <;> omega))) (show ((r1_l1 ++ [(holds_1.getD i_l0.toNat default).Place]).length : Int) = (i_l0 + 1) from (by first | assumption | omega | (simp_all <;> omega))) (by first | assumption | omega | (simp_all <;> omega)))
  | false =>
   have gh_0 := of_decide_eq_false h_0
   have e : lo_spec_FreePlaces_1 m_0 holds_1 (k + 1) i_l0 r1_l1 = r1_l1 := by simp only [lo_spec_FreePlaces_1, h_0, cond_false]
   rw [e]
   exact outR (e := (.exit 0)) E0Ok hMixed [] mk_spec_FreePlaces_1_1 [0, 1] (p (sB h_0 <| sN)) (by kernel_rfl) (by intro h; cases h)

def lr_spec_FreePlaces_1_0 (m_0 : GMesh) (holds_1 : (List GHold)) : (List Int) := (lo_spec_FreePlaces_1 m_0 holds_1 (((holds_1.length : Int) - 0).toNat + 1) 0 ([] : List Int))

theorem app_spec_FreePlaces (m : GMesh) (hs : List GHold) : lr_spec_FreePlaces_1_0 m hs = hs.map GHold.Place := by
  unfold lr_spec_FreePlaces_1_0
  rw [app_loop (f := fun i => (hs.getD i.toNat default).Place) (n := (hs.length : Int)) (lo := lo_spec_FreePlaces_1 m hs) (fun k i r => rfl) _ _ _ (Nat.lt_succ_self _)]
  have := congrArg (List.map GHold.Place) (getD_range2 hs)
  simpa [Function.comp_def] using this
@[simp] theorem len_app_spec_FreePlaces (m : GMesh) (hs : List GHold) : (lr_spec_FreePlaces_1_0 m hs).length = hs.length := by rw [app_spec_FreePlaces]; simp

def lo_spec_FreePlaces_2 (m_0 : GMesh) (holds_1 : (List GHold)) : Nat → Int → (List Int) → (List Int)
  | 0, _, _ => default
  | k + 1, p_l0, r2_l1 => (cond (decide (p_l0 < (m_0.Places.length : Int)))
    (cond (v_spec_l00Has (lr_spec_FreePlaces_1_0 m_0 holds_1) p_l0)
      (lo_spec_FreePlaces_2 m_0 holds_1 k (p_l0 + 1) r2_l1)
      (lo_spec_FreePlaces_2 m_0 holds_1 k (p_l0 + 1) (r2_l1 ++ [p_l0])))
    r2_l1)

def ls_spec_FreePlaces_2 (m_0 : GMesh) (holds_1 : (List GHold)) (r : (List Int)) : Ex × St := ((.exit 2), ⟨[.agg [.sl (m_0.Places.map GVector.cells), .sl (m_0.Triangles.map (cL (cI .i64)))], .sl (holds_1.map GHold.cells), .ptr 0 0 0, .any, .nils, .b false, .own 1, .any, .own 2, .any, .sl (holds_1.map GHold.cells), .b (v_spec_l04Are m_0 holds_1), .b (!(v_spec_l04Are m_0 holds_1)), .any, .any, .any, .any, .any, .any, .any, .any, .any, .any, .any, .any, .any, .any, .any, .any, .any, .any, .any, .any, .any, .any, .any, .any, .any, .any, .any, .any, .any, .any, .any, .any], [.box 42 [.sl (m_0.Places.map GVector.cells), .sl (m_0.Triangles.map (cL (cI .i64)))], .vec 2 1 ((lr_spec_FreePlaces_1_0 m_0 holds_1).map (cI .i64)) false, .vec 2 1 (r.map (cI .i64)) false]⟩)

def hd_spec_FreePlaces_2 (m_0 : GMesh) (holds_1 : (List GHold)) (p_l0 : Int) (r2_l1 : (List Int)) : St := ⟨[.agg [.sl (m_0.Places.map GVector.cells), .sl (m_0.Triangles.map (cL (cI .i64)))], .sl (holds_1.map GHold.cells), .ptr 0 0 0, .any, .nils, .b false, .own 1, .any, .own 2, .i .i64 p_l0, .sl (holds_1.map GHold.cells), .b (v_spec_l04Are m_0 holds_1), .b (!(v_spec_l04Are m_0 holds_1)), .any, .any, .any, .any, .any, .any, .any, .any, .any, .any, .any, .any, .any, .any, .any, .any, .any, .any, .any, .any, .any, .any, .any, .any, .any, .any, .any, .any, .any, .any, .any, .any], [.box 42 [.sl (m_0.Places.map GVector.cells), .sl (m_0.Triangles.map (cL (cI .i64)))], .vec 2 1 ((lr_spec_FreePlaces_1_0 m_0 holds_1).map (cI .i64)) false, .vec 2 1 (r2_l1.map (cI .i64)) false]⟩

def mk_spec_FreePlaces_2_0 : List Bool := [true, true, true, false, true, true, true, false, true, true, true, true, true, false, false, false, false, false, false, false, false, false, false, false, false, false, false, false, false, false, false, false, false, false, false, false, false, false, false, false, false, false, false, false, false]

def mk_spec_FreePlaces_2_1 : List Bool := [true, true, true, false, true, true, true, false, true, false, true, true, true, false, false, false, false, false, false, false, false, false, false, false, false, false, false, false, false, false, false, false, false, false, false, false, false, false, false, false, false, false, false, false, false]

theorem lp_spec_FreePlaces_2 (m_0 : GMesh) (holds_1 : (List GHold)) (hp0 : m_0.Places.length ≤ 1073741824) (hp1 : m_0.Triangles.length ≤ 1073741824) (hp2 : ∀ t ∈ m_0.Triangles, t.length ≤ 1073741824) (hp3 : holds_1.length ≤ 1073741824) (hf_spec_FreePlaces_2_0 : (v_spec_l04Are m_0 holds_1) = true) : ∀ (k : Nat) (p_l0 : Int) (r2_l1 : (List Int)) (hv_spec_FreePlaces_2_0 : 0 ≤ p_l0) (hv_spec_FreePlaces_2_1 : (r2_l1.length : Int) ≤ p_l0) (hk : ((m_0.Places.length : Int) - p_l0).toNat < k), Lp prog 0 (sub (bodyOf f25) [1, 1, 1, 1, 1, 0, 1, 0, 0]) (hd_spec_FreePlaces_2 m_0 holds_1 p_l0 r2_l1) (ls_spec_FreePlaces_2 m_0 holds_1 (lo_spec_FreePlaces_2 m_0 holds_1 k p_l0 r2_l1)).1 (ls_spec_FreePlaces_2 m_0 holds_1 (lo_spec_FreePlaces_2 m_0 holds_1 k p_l0 r2_l1)).2 := by
 intro k
 induction k with
 | zero => intro p_l0 r2_l1 hv_spec_FreePlaces_2_0 hv_spec_FreePlaces_2_1 hk; exact absurd hk (Nat.not_lt_zero _)
 | succ k ih =>
  intro p_l0 r2_l1 hv_spec_FreePlaces_2_0 hv_spec_FreePlaces_2_1 hk
  have p {a C} (s : Scr a C) := sZ GVector.cells m_0.Places <| s
  cases h_0 : (decide (p_l0 < (m_0.Places.length : Int))) with
  | true =>
   have gh_0 := of_decide_eq_true h_0
   have y_0 : (lr_spec_FreePlaces_1_0 m_0 holds_1).length ≤ 1073741824 := by clear p; exact (by first | assumption | omega | (simp_all <;> omega))
   have q {a C} (s : Scr a C) := p (sB h_0 <| sF (t_spec_l00Has (lr_spec_FreePlaces_1_0 m_0 holds_1) p_l0 y_0) <| s)
   clear p
   cases h_1 : (v_spec_l00Has (lr_spec_FreePlaces_1_0 m_0 holds_1) p_l0) with
   | true =>
    have y_1 : (-9223372036854775808 : Int) ≤ (p_l0 + 1) := by clear q; exact (by first | assumption | omega | (simp_all <;> omega))
    have y_2 : (p_l0 + 1) ≤ (9223372036854775807 : Int) := by clear q; exact (by first | assumption | omega | (simp_all <;> omega))
    have e : lo_spec_FreePlaces_2 m_0 holds_1 (k + 1) p_l0 r2_l1 = (lo_spec_FreePlaces_2 m_0 holds_1 k (p_l0 + 1) r2_l1) := by simp only [lo_spec_FreePlaces_2, h_0, h_1, cond_true]
    rw [e]
    exact nextR E0Ok hMixed [] mk_spec_FreePlaces_2_0 [0, 1, 2] (ih (p_l0 + 1) r2_l1 (show 0 ≤ (p_l0 + 1) from (by first | assumption | omega | (simp_all <;> omega))) (show (r2_l1.length : Int) ≤ (p_l0 + 1) from (by first | assumption | omega | (simp_all <;> omega))) (by first | assumption | omega | (simp_all <;> omega))) (q (sB' h_1 <| sI (p_l0 + 1) y_1 y_2 <| sN)) (by kernel_rfl)
   | false =>
    have y_1 : r2_l1.length + ([p_l0]).length ≤ 1073741824 := by clear q; exact (by first | assumption | omega | (simp_all <;> omega))
    have y_2 : (-9223372036854775808 : Int) ≤ (p_l0 + 1) := by clear q; exact (by first | assumption | omega | (simp_all <;> omega))
    have y_3 : (p_l0 + 1) ≤ (9223372036854775807 : Int) := by clear q; exact (by first | assumption | omega | (simp_all <;> omega))
    have e : lo_spec_FreePlaces_2 m_0 holds_1 (k + 1) p_l0 r2_l1 = (lo_spec_FreePlaces_2 m_0 holds_1 k (p_l0 + 1) (r2_l1 ++ [p_l0])) := by simp only [lo_spec_FreePlaces_2, h_0, h_1, cond_true, cond_false]
    rw [e]
    exact nextS E0Ok hMixed [] mk_spec_FreePlaces_2_0 [0, 1, 2] (⟨[.agg [.sl (m_0.Places.map GVector.cells), .sl (m_0.Triangles.map (cL (cI .i64)))], .sl (holds_1.map GHold.cells), .ptr 0 0 0, .any, .nils, .b false, .own 1, .any, .own 2, .i .i64 (p_l0 + 1), .sl (holds_1.map GHold.cells), .b (v_spec_l04Are m_0 holds_1), .b (!(v_spec_l04Are m_0 holds_1)), .any, .any, .any, .any, .any, .any, .any, .any, .any, .any, .any, .any, .any, .any, .any, .any, .any, .any, .any, .any, .any, .any, .any, .any, .any, .any, .any, .any, .any, .any, .any, .any], [.box 42 [.sl (m_0.Places.map GVector.cells), .sl (m_0.Triangles.map (cL (cI .i64)))], .vec 2 1 ((lr_spec_FreePlaces_1_0 m_0 holds_1).map (cI .i64)) false, .vec 2 1 ((r2_l1.map (cI .i64)) ++ ([[.i .i64 p_l0]] : List (List AV))) false]⟩) (q (sB' h_1 <| sC (show (r2_l1.map (cI .i64)).length + ([[.i .i64 p_l0]] : List (List AV)).length ≤ 1073741824 from (by simpa using y_1)) <| sI (p_l0 + 1) y_2 y_3 <| sN)) (by kernel_rfl) (show _ = ⟨[.agg [.sl (m_0.Places.map GVector.cells), .sl (m_0.Triangles.map (cL (cI .i64)))], .sl (holds_1.map GHold.cells), .ptr 0 0 0, .any, .nils, .b false, .own 1, .any, .own 2, .i .i64 (p_l0 + 1), .sl (holds_1.map GHold.cells), .b (v_spec_l04Are m_0 holds_1), .b (!(v_spec_l04Are m_0 holds_1)), .any, .any, .any, .any, .any, .any, .any, .any, .any, .any, .any, .any, .any, .any, .any, .any, .any, .any, .any, .any, .any, .any, .any, .any, .any, .any, .any, .any, .any, .any, .any, .any], [.box 42 [.sl (m_0.Places.map GVector.cells), .sl (m_0.Triangles.map (cL (cI .i64)))], .vec 2 1 ((lr_spec_FreePlaces_1_0 m_0 holds_1).map (cI .i64)) false, .vec 2 1 ((r2_l1 ++ [p_l0]).map (cI .i64)) false]⟩ from (by simp [cI])) (ih (p_l0 + 1) (r2_l1 ++ [p_l0]) (show 0 ≤ (p_l0 + 1) from (by first | assumption | omega | (simp_all <;> omega))) (show ((r2_l1 ++ [p_l0]).length : Int) ≤ (p_l0 + 1) from (by first | assumption | omega | (simp_all <;> omega))) (by first | assumption | omega | (simp_all <;> omega)))
  | false =>
   have gh_0 := of_decide_eq_false h_0
   have e : lo_spec_FreePlaces_2 m_0 holds_1 (k + 1) p_l0 r2_l1 = r2_l1 := by simp only [lo_spec_FreePlaces_2, h_0, cond_false]
   rw [e]
   exact outR (e := (.exit 2)) E0Ok hMixed [] mk_spec_FreePlaces_2_1 [0, 1, 2] (p (sB h_0 <| sN)) (by kernel_rfl) (by intro h; cases h)

end Go.Ab
