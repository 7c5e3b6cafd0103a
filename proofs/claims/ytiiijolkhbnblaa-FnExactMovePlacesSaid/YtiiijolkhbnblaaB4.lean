/- The functions of this seat as plain Lean, and that the program's are these. Printed by a program of the prover's own. -/
import Derived.Test.YtiiijolkhbnblaaB3
set_option linter.unusedVariables false
set_option linter.unusedSimpArgs false
set_option maxRecDepth 100000
namespace Go.Ab
open Go.RowKit Go.Proofs.Try

def hd_impl_ValidMesh_1 (m_0 : GMesh) (x_l0 : Int) : St := ⟨[.agg [.sl (m_0.Places.map GVector.cells), .sl (m_0.Triangles.map (cL (cI .i64)))], .ptr 0 0 0, .any, .i .i64 (m_0.Places.length : Int), .any, .any, .any, .any, .ptr 0 0 0, .sl (m_0.Places.map GVector.cells), .i .i64 (m_0.Places.length : Int), .i .i64 (m_0.Places.length : Int), .b (decide ((m_0.Places.length : Int) > 64)), .b (decide ((m_0.Places.length : Int) > 64)), .ptr 0 0 1, .sl (m_0.Triangles.map (cL (cI .i64))), .i .i64 (m_0.Triangles.length : Int), .b (decide ((m_0.Triangles.length : Int) > 128)), .b (decide ((m_0.Triangles.length : Int) > 128)), .ptr 0 0 1, .sl (m_0.Triangles.map (cL (cI .i64))), .i .i64 (m_0.Triangles.length : Int), .i .i64 x_l0, .any, .any, .any, .any, .any, .any, .any, .any, .any, .any, .any, .any, .any, .any, .any, .any, .any, .any, .any, .any, .any, .any, .any, .any, .any, .any, .any, .any, .any, .any, .any, .any, .any, .any, .any, .any, .any, .any, .any, .any, .any, .any, .any, .any, .any, .any], [.box 42 [.sl (m_0.Places.map GVector.cells), .sl (m_0.Triangles.map (cL (cI .i64)))]]⟩

def mk_impl_ValidMesh_1_0 : List Bool := [true, true, false, true, false, false, false, false, true, true, true, true, true, true, true, true, true, true, true, true, true, true, true, false, false, false, false, false, false, false, false, false, false, false, false, false, false, false, false, false, false, false, false, false, false, false, false, false, false, false, false, false, false, false, false, false, false, false, false, false, false, false, false, false, false, false, false, false, false]

def mk_impl_ValidMesh_1_1 : List Bool := [false, false, true, false, false, false, false, false, false, false, false, false, false, false, false, false, false, false, false, false, false, false, false, false, false, false, false, false, false, false, false, false, false, false, false, false, false, false, false, false, false, false, false, false, false, false, false, false, false, false, false, false, false, false, false, false, false, false, false, false, false, false, false, false, false, false, false, false, false]

def mk_impl_ValidMesh_1_2 : List Bool := [true, true, false, true, false, false, false, false, true, true, true, true, true, true, true, true, true, true, true, true, true, false, false, false, false, false, false, false, false, false, false, false, false, false, false, false, false, false, false, false, false, false, false, false, false, false, false, false, false, false, false, false, false, false, false, false, false, false, false, false, false, false, false, false, false, false, false, false, false]

theorem lp_impl_ValidMesh_1 (m_0 : GMesh) (hp0 : m_0.Places.length ≤ 1073741824) (hp1 : m_0.Triangles.length ≤ 1073741824) (hp2 : ∀ t ∈ m_0.Triangles, t.length ≤ 1073741824) (hf_impl_ValidMesh_1_0 : (decide ((m_0.Places.length : Int) > 64)) = false) (hf_impl_ValidMesh_1_1 : (decide ((m_0.Triangles.length : Int) > 128)) = false) : ∀ (k : Nat) (x_l0 : Int) (hv_impl_ValidMesh_1_0 : 0 ≤ x_l0) (hk : ((m_0.Triangles.length : Int) - x_l0).toNat < k), Lp prog 0 (sub (bodyOf f99) [1, 1, 1, 0, 1, 0, 0]) (hd_impl_ValidMesh_1 m_0 x_l0) (ls_impl_ValidMesh_1 m_0 (lo_impl_ValidMesh_1 m_0 k x_l0)).1 (ls_impl_ValidMesh_1 m_0 (lo_impl_ValidMesh_1 m_0 k x_l0)).2 := by
 intro k
 induction k with
 | zero => intro x_l0 hv_impl_ValidMesh_1_0 hk; exact absurd hk (Nat.not_lt_zero _)
 | succ k ih =>
  intro x_l0 hv_impl_ValidMesh_1_0 hk
  cases h_0 : (decide (x_l0 < (m_0.Triangles.length : Int))) with
  | true =>
   have gh_0 := of_decide_eq_true h_0
   have y_0 : (0 : Int) ≤ x_l0 := (by first | assumption | omega | (simp_all <;> omega))
   have y_1 : x_l0 < (m_0.Triangles.length : Int) := (by first | assumption | omega | (simp_all <;> omega))
   have p {a C} (s : Scr a C) := sB h_0 <| sG (cL (cI .i64)) m_0.Triangles x_l0 y_0 y_1 <| sK [28, 28] <| sZ (cI .i64) (m_0.Triangles.getD x_l0.toNat default) <| s
   cases h_1 : (((m_0.Triangles.getD x_l0.toNat default).length : Int) != 3) with
   | true =>
    have gh_1 := bne_iff_ne.1 h_1
    have e : lo_impl_ValidMesh_1 m_0 (k + 1) x_l0 = (.inl ()) := by simp only [lo_impl_ValidMesh_1, h_0, h_1, cond_true]
    rw [e]
    exact outR (e := .ret) E0Ok hMixed [] mk_impl_ValidMesh_1_1 [] (p (sB h_1 <| sB h_1 <| sB h_1 <| sB h_1 <| sB h_1 <| sB h_1 <| sB h_1 <| sB h_1 <| sB (show true = true from rfl) <| sB (show true = true from rfl) <| sB (show true = true from rfl) <| sB (show true = true from rfl) <| sB (show true = true from rfl) <| sB (show true = true from rfl) <| sB (show true = true from rfl) <| sB (show true = true from rfl) <| sB (show true = true from rfl) <| sB (show true = true from rfl) <| sB (show true = true from rfl) <| sB (show true = true from rfl) <| sB (show true = true from rfl) <| sB (show true = true from rfl) <| sB (show true = true from rfl) <| sB (show true = true from rfl) <| sB (show true = true from rfl) <| sN)) (by kernel_rfl) (by intro h; cases h)
   | false =>
    have gh_1 := bne_eq_false_iff_eq.1 h_1
    have y_2 : (0 : Int) ≤ 0 := by clear p; exact (by first | assumption | omega | (simp_all <;> omega))
    have y_3 : 0 < ((m_0.Triangles.getD x_l0.toNat default).length : Int) := by clear p; exact (by first | assumption | omega | (simp_all <;> omega))
    have y_4 : (0 : Int) ≤ 1 := by clear p; exact (by first | assumption | omega | (simp_all <;> omega))
    have y_5 : 1 < ((m_0.Triangles.getD x_l0.toNat default).length : Int) := by clear p; exact (by first | assumption | omega | (simp_all <;> omega))
    have q {a C} (s : Scr a C) := p (sB h_1 <| sB h_1 <| sG (cI .i64) (m_0.Triangles.getD x_l0.toNat default) 0 y_2 y_3 <| sB h_1 <| sB h_1 <| sB h_1 <| sG (cI .i64) (m_0.Triangles.getD x_l0.toNat default) 1 y_4 y_5 <| sB h_1 <| sB h_1 <| sB h_1 <| s)
    clear p
    cases h_2 : (((m_0.Triangles.getD x_l0.toNat default).getD 0 default) == ((m_0.Triangles.getD x_l0.toNat default).getD 1 default)) with
    | true =>
     have gh_2 := eq_of_beq h_2
     have e : lo_impl_ValidMesh_1 m_0 (k + 1) x_l0 = (.inl ()) := by simp only [lo_impl_ValidMesh_1, h_0, h_1, h_2, cond_true, cond_false]
     rw [e]
     exact outR (e := .ret) E0Ok hMixed [] mk_impl_ValidMesh_1_1 [] (q (sB h_2 <| sB h_2 <| sB h_2 <| sB h_2 <| sB h_2 <| sB h_2 <| sB h_2 <| sB h_2 <| sB (show true = true from rfl) <| sB (show true = true from rfl) <| sB (show true = true from rfl) <| sB (show true = true from rfl) <| sB (show true = true from rfl) <| sB (show true = true from rfl) <| sB (show true = true from rfl) <| sB (show true = true from rfl) <| sB (show true = true from rfl) <| sN)) (by kernel_rfl) (by intro h; cases h)
    | false =>
     have gh_2 := ne_of_beq_false h_2
     have y_6 : (0 : Int) ≤ 2 := by clear q; exact (by first | assumption | omega | (simp_all <;> omega))
     have y_7 : 2 < ((m_0.Triangles.getD x_l0.toNat default).length : Int) := by clear q; exact (by first | assumption | omega | (simp_all <;> omega))
     have p {a C} (s : Scr a C) := q (sB h_2 <| sB h_2 <| sG (cI .i64) (m_0.Triangles.getD x_l0.toNat default) 1 y_4 y_5 <| sB h_2 <| sB h_2 <| sB h_2 <| sG (cI .i64) (m_0.Triangles.getD x_l0.toNat default) 2 y_6 y_7 <| sB h_2 <| sB h_2 <| sB h_2 <| s)
     clear q
     cases h_3 : (((m_0.Triangles.getD x_l0.toNat default).getD 1 default) == ((m_0.Triangles.getD x_l0.toNat default).getD 2 default)) with
     | true =>
      have gh_3 := eq_of_beq h_3
      have e : lo_impl_ValidMesh_1 m_0 (k + 1) x_l0 = (.inl ()) := by simp only [lo_impl_ValidMesh_1, h_0, h_1, h_2, h_3, cond_true, cond_false]
      rw [e]
      exact outR (e := .ret) E0Ok hMixed [] mk_impl_ValidMesh_1_1 [] (p (sB h_3 <| sB h_3 <| sB h_3 <| sB h_3 <| sB h_3 <| sB h_3 <| sB h_3 <| sB h_3 <| sB (show true = true from rfl) <| sN)) (by kernel_rfl) (by intro h; cases h)
     | false =>
      have gh_3 := ne_of_beq_false h_3
      have q {a C} (s : Scr a C) := p (sB h_3 <| sB h_3 <| sG (cI .i64) (m_0.Triangles.getD x_l0.toNat default) 0 y_2 y_3 <| sB h_3 <| sB h_3 <| sB h_3 <| sG (cI .i64) (m_0.Triangles.getD x_l0.toNat default) 2 y_6 y_7 <| sB h_3 <| sB h_3 <| sB h_3 <| s)
      clear p
      cases h_4 : (((m_0.Triangles.getD x_l0.toNat default).getD 0 default) == ((m_0.Triangles.getD x_l0.toNat default).getD 2 default)) with
      | true =>
       have gh_4 := eq_of_beq h_4
       have e : lo_impl_ValidMesh_1 m_0 (k + 1) x_l0 = (.inl ()) := by simp only [lo_impl_ValidMesh_1, h_0, h_1, h_2, h_3, h_4, cond_true, cond_false]
       rw [e]
       exact outR (e := .ret) E0Ok hMixed [] mk_impl_ValidMesh_1_1 [] (q (sB h_4 <| sN)) (by kernel_rfl) (by intro h; cases h)
      | false =>
       have gh_4 := ne_of_beq_false h_4
       have p {a C} (s : Scr a C) := q (sB h_4 <| sZ (cI .i64) (m_0.Triangles.getD x_l0.toNat default) <| s)
       clear q
       cases h_5 : (lr_impl_ValidMesh_2_0 m_0 x_l0) with
       | inl r_6 =>
        have e : lo_impl_ValidMesh_1 m_0 (k + 1) x_l0 = (.inl ()) := by simp only [lo_impl_ValidMesh_1, h_0, h_1, h_2, h_3, h_4, h_5, cond_true, cond_false]
        rw [e]
        exact outR (e := .ret) E0Ok hMixed [] mk_impl_ValidMesh_1_1 [] (p (sL mk_impl_ValidMesh_2_0 1 (lp_val (ls_impl_ValidMesh_2 m_0 x_l0) (x := (lr_impl_ValidMesh_2_0 m_0 x_l0)) (lp_impl_ValidMesh_2 m_0 x_l0 hp0 hp1 hp2 hf_impl_ValidMesh_1_0 hf_impl_ValidMesh_1_1 hv_impl_ValidMesh_1_0 h_1 hf_impl_ValidMesh_1_0 hf_impl_ValidMesh_1_1 h_0 ((((m_0.Triangles.getD x_l0.toNat default).length : Int) - 0).toNat + 1) 0 (show 0 ≤ 0 from (by first | assumption | omega | (simp_all <;> omega))) (Nat.lt_succ_self _)) h_5) <| sN)) (by kernel_rfl) (by intro h; cases h)
       | inr r_6 =>
        have y_8 : (-9223372036854775808 : Int) ≤ (x_l0 + 1) := by clear p; exact (by first | assumption | omega | (simp_all <;> omega))
        have y_9 : (x_l0 + 1) ≤ (9223372036854775807 : Int) := by clear p; exact (by first | assumption | omega | (simp_all <;> omega))
        have e : lo_impl_ValidMesh_1 m_0 (k + 1) x_l0 = (lo_impl_ValidMesh_1 m_0 k (x_l0 + 1)) := by simp only [lo_impl_ValidMesh_1, h_0, h_1, h_2, h_3, h_4, h_5, cond_true, cond_false]
        rw [e]
        exact nextR E0Ok hMixed [] mk_impl_ValidMesh_1_0 [0] (ih (x_l0 + 1) (show 0 ≤ (x_l0 + 1) from (by first | assumption | omega | (simp_all <;> omega))) (by first | assumption | omega | (simp_all <;> omega))) (p (sL mk_impl_ValidMesh_2_0 1 (lp_val (ls_impl_ValidMesh_2 m_0 x_l0) (x := (lr_impl_ValidMesh_2_0 m_0 x_l0)) (lp_impl_ValidMesh_2 m_0 x_l0 hp0 hp1 hp2 hf_impl_ValidMesh_1_0 hf_impl_ValidMesh_1_1 hv_impl_ValidMesh_1_0 h_1 hf_impl_ValidMesh_1_0 hf_impl_ValidMesh_1_1 h_0 ((((m_0.Triangles.getD x_l0.toNat default).length : Int) - 0).toNat + 1) 0 (show 0 ≤ 0 from (by first | assumption | omega | (simp_all <;> omega))) (Nat.lt_succ_self _)) h_5) <| sI (x_l0 + 1) y_8 y_9 <| sN)) (by kernel_rfl)
  | false =>
   have gh_0 := of_decide_eq_false h_0
   have e : lo_impl_ValidMesh_1 m_0 (k + 1) x_l0 = (.inr ()) := by simp only [lo_impl_ValidMesh_1, h_0, cond_false]
   rw [e]
   exact outR (e := (.exit 0)) E0Ok hMixed [] mk_impl_ValidMesh_1_2 [0] (sB h_0 <| sN) (by kernel_rfl) (by intro h; cases h)

def lr_impl_ValidMesh_1_1 (m_0 : GMesh) : (Unit) ⊕ (Unit) := (lo_impl_ValidMesh_1 m_0 (((m_0.Triangles.length : Int) - 0).toNat + 1) 0)

def v_impl_ValidMesh (m_0 : GMesh) : Bool := (cond (decide ((m_0.Places.length : Int) > 64))
  false
  (cond (decide ((m_0.Triangles.length : Int) > 128))
    false
    (match (lr_impl_ValidMesh_1_1 m_0) with
      | .inl r3 => false
      | .inr r3 => true)))

theorem t_impl_ValidMesh (m_0 : GMesh) (hp0 : m_0.Places.length ≤ 1073741824) (hp1 : m_0.Triangles.length ≤ 1073741824) (hp2 : ∀ t ∈ m_0.Triangles, t.length ≤ 1073741824)  : Fn prog 99 [.agg [.sl (m_0.Places.map GVector.cells), .sl (m_0.Triangles.map (cL (cI .i64)))]] (.b (v_impl_ValidMesh m_0)) [] := by
 have p {a C} (s : Scr a C) := sZ GVector.cells m_0.Places <| s
 cases h0 : (decide ((m_0.Places.length : Int) > 64)) with
 | true =>
  have gh0 := of_decide_eq_true h0
  refine fnS E0Ok hMixed (c := bodyOf f99) [] (.b false) [] func99 (p (sB h0 <| sB h0 <| sB h0 <| sB h0 <| sB h0 <| sB (show true = true from rfl) <| sK [] sN)) rfl (by kernel_rfl) (by kernel_rfl) rfl ?_ ?_
  · simp only [v_impl_ValidMesh, h0, cond_true]
  · rfl
 | false =>
  have gh0 := of_decide_eq_false h0
  have q {a C} (s : Scr a C) := p (sB h0 <| sB h0 <| sB h0 <| sZ (cL (cI .i64)) m_0.Triangles <| sB h0 <| sB h0 <| s)
  clear p
  cases h1 : (decide ((m_0.Triangles.length : Int) > 128)) with
  | true =>
   have gh1 := of_decide_eq_true h1
   refine fnS E0Ok hMixed (c := bodyOf f99) [] (.b false) [] func99 (q (sB h1 <| sK [] sN)) rfl (by kernel_rfl) (by kernel_rfl) rfl ?_ ?_
   · simp only [v_impl_ValidMesh, h0, h1, cond_true, cond_false]
   · rfl
  | false =>
   have gh1 := of_decide_eq_false h1
   have p {a C} (s : Scr a C) := q (sB h1 <| sZ (cL (cI .i64)) m_0.Triangles <| s)
   clear q
   cases h2 : (lr_impl_ValidMesh_1_1 m_0) with
   | inl r3 =>
    refine fnS E0Ok hMixed (c := bodyOf f99) [] (.b false) [] func99 (p (sL mk_impl_ValidMesh_1_0 1 (lp_val (ls_impl_ValidMesh_1 m_0) (x := (lr_impl_ValidMesh_1_1 m_0)) (lp_impl_ValidMesh_1 m_0 hp0 hp1 hp2 h0 h1 (((m_0.Triangles.length : Int) - 0).toNat + 1) 0 (show 0 ≤ 0 from (by first | assumption | omega | (simp_all <;> omega))) (Nat.lt_succ_self _)) h2) <| sK [] sN)) rfl (by kernel_rfl) (by kernel_rfl) rfl ?_ ?_
    · simp only [v_impl_ValidMesh, h0, h1, h2, cond_false]
    · rfl
   | inr r3 =>
    refine fnS E0Ok hMixed (c := bodyOf f99) [] (.b true) [] func99 (p (sL mk_impl_ValidMesh_1_0 1 (lp_val (ls_impl_ValidMesh_1 m_0) (x := (lr_impl_ValidMesh_1_1 m_0)) (lp_impl_ValidMesh_1 m_0 hp0 hp1 hp2 h0 h1 (((m_0.Triangles.length : Int) - 0).toNat + 1) 0 (show 0 ≤ 0 from (by first | assumption | omega | (simp_all <;> omega))) (Nat.lt_succ_self _)) h2) <| sK [] sN)) rfl (by kernel_rfl) (by kernel_rfl) rfl ?_ ?_
    · simp only [v_impl_ValidMesh, h0, h1, h2, cond_false]
    · rfl

theorem triB (t : List Int) (n : Int) : (!((t.length : Int) != 3) && (!(t.getD 0 default == t.getD 1 default) && (!(t.getD 1 default == t.getD 2 default) && (!(t.getD 0 default == t.getD 2 default) && t.all fun x => v_impl_within x 0 (IntKind.wrap .i64 (n - 1)))))) = v_spec_l02Triangle t n := by
  unfold v_spec_l02Triangle
  cases hl : ((t.length : Int) != 3) with
  | true => rfl
  | false =>
    have hl3 : t.length = 3 := by simp at hl; omega
    match t, hl3 with
    | [a, b, c], _ =>
      simp only [List.getD_cons_zero, List.getD_cons_succ, List.all_cons, List.all_nil, Bool.and_true]
      rw [show v_impl_within = v_spec_l00In from rfl]
      cases (a == b) <;> cases (b == c) <;> cases (a == c) <;> cases v_spec_l00In a 0 (IntKind.wrap .i64 (n - 1)) <;> cases v_spec_l00In b 0 (IntKind.wrap .i64 (n - 1)) <;> cases v_spec_l00In c 0 (IntKind.wrap .i64 (n - 1)) <;> rfl
theorem lo_ValidMesh (m : GMesh) (k : Nat) (i : Int) : lo_impl_ValidMesh_1 m (k + 1) i = cond (decide (i < (m.Triangles.length : Int))) (cond (v_spec_l02Triangle (m.Triangles.getD i.toNat default) (m.Places.length : Int)) (lo_impl_ValidMesh_1 m k (i + 1)) (.inl ())) (.inr ()) := by
  rw [lo_impl_ValidMesh_1, ← triB]
  have hin : lr_impl_ValidMesh_2_0 m i = cond ((m.Triangles.getD i.toNat default).all fun x => v_impl_within x 0 (IntKind.wrap .i64 ((m.Places.length : Int) - 1))) (.inr ()) (.inl ()) := by
    unfold lr_impl_ValidMesh_2_0
    exact all_from (a := m.Triangles.getD i.toNat default) (p := fun x => v_impl_within x 0 (IntKind.wrap .i64 ((m.Places.length : Int) - 1))) (lo := lo_impl_ValidMesh_2 m i) (x := ()) (y := ()) (fun k i => rfl)
  rw [hin]
  generalize m.Triangles.getD i.toNat default = t
  generalize (t.all fun x => v_impl_within x 0 (IntKind.wrap .i64 ((m.Places.length : Int) - 1))) = q
  cases ((t.length : Int) != 3) <;> cases (t.getD 0 default == t.getD 1 default) <;> cases (t.getD 1 default == t.getD 2 default) <;> cases (t.getD 0 default == t.getD 2 default) <;> cases q <;> rfl
theorem eq_ValidMesh (m : GMesh) : v_impl_ValidMesh m = v_spec_l02Is m := by
  rw [l02Is_eq]
  unfold v_impl_ValidMesh lr_impl_ValidMesh_1_1
  rw [all_from (a := m.Triangles) (p := fun t => v_spec_l02Triangle t (m.Places.length : Int)) (lo := lo_impl_ValidMesh_1 m) (x := ()) (y := ()) (lo_ValidMesh m)]
  cases (m.Triangles.all fun t => v_spec_l02Triangle t (m.Places.length : Int)) <;> rfl

def lo_impl_ValidBody_1 (b_0 : GBody) : Nat → Int → (Unit) ⊕ (Unit)
  | 0, _ => .inl default
  | k + 1, x_l0 => (cond (decide (x_l0 < (b_0.Springs.length : Int)))
    (cond (v_impl_within ((b_0.Springs.getD x_l0.toNat default).A) 0 (IntKind.wrap .i64 ((b_0.Mesh.Places.length : Int) - 1)))
      (cond (v_impl_within ((b_0.Springs.getD x_l0.toNat default).B) 0 (IntKind.wrap .i64 ((b_0.Mesh.Places.length : Int) - 1)))
        (cond ((b_0.Springs.getD x_l0.toNat default).A == (b_0.Springs.getD x_l0.toNat default).B)
          (.inl ())
          (cond (fcmp .geq .f32 ((b_0.Springs.getD x_l0.toNat default).Long) 0)
            (lo_impl_ValidBody_1 b_0 k (x_l0 + 1))
            (.inl ())))
        (.inl ()))
      (.inl ()))
    (.inr ()))

def ls_impl_ValidBody_1 (b_0 : GBody) : (Unit) ⊕ (Unit) → Ex × St
  | .inl r => (.ret, ⟨[.any, .any, .b false, .any, .any, .any, .any, .any, .any, .any, .any, .any, .any, .any, .any, .any, .any, .any, .any, .any, .any, .any, .any, .any, .any, .any, .any, .any, .any, .any, .any, .any, .any, .any, .any, .any, .any, .any, .any, .any, .any, .any, .any, .any, .any, .any, .any, .any, .any, .any, .any, .any, .any, .any, .any, .any, .any, .any, .any, .any, .any, .any], []⟩)
  | .inr r => ((.exit 0), ⟨[.agg [.sl (b_0.Mesh.Places.map GVector.cells), .sl (b_0.Mesh.Triangles.map (cL (cI .i64))), .sl (b_0.Springs.map GSpring.cells), .f .f32 b_0.Film, .f .f32 b_0.Bend, .sl (b_0.Weights.map (cF .f32)), .f .f32 b_0.Fall.X, .f .f32 b_0.Fall.Y, .f .f32 b_0.Fall.Z], .ptr 0 0 0, .any, .i .i64 (b_0.Mesh.Places.length : Int), .any, .any, .ptr 0 0 0, .ptr 0 0 0, .sl (b_0.Mesh.Places.map GVector.cells), .i .i64 (b_0.Mesh.Places.length : Int), .ptr 0 0 0, .agg [.sl (b_0.Mesh.Places.map GVector.cells), .sl (b_0.Mesh.Triangles.map (cL (cI .i64)))], .b (v_impl_ValidMesh b_0.Mesh), .b (!(v_impl_ValidMesh b_0.Mesh)), .b (!(v_impl_ValidMesh b_0.Mesh)), .ptr 0 0 2, .sl (b_0.Springs.map GSpring.cells), .i .i64 (b_0.Springs.length : Int), .b (decide ((b_0.Springs.length : Int) > 200)), .b (decide ((b_0.Springs.length : Int) > 200)), .b (decide ((b_0.Springs.length : Int) > 200)), .ptr 0 0 5, .sl (b_0.Weights.map (cF .f32)), .i .i64 (b_0.Weights.length : Int), .i .i64 (b_0.Mesh.Places.length : Int), .b ((b_0.Weights.length : Int) != (b_0.Mesh.Places.length : Int)), .b ((b_0.Weights.length : Int) != (b_0.Mesh.Places.length : Int)), .ptr 0 0 2, .sl (b_0.Springs.map GSpring.cells), .any, .any, .any, .any, .any, .any, .any, .any, .any, .any, .any, .any, .any, .any, .any, .any, .any, .any, .any, .any, .any, .any, .any, .any, .any, .any, .any, .any, .any, .any, .any, .any, .any], [.box 46 [.sl (b_0.Mesh.Places.map GVector.cells), .sl (b_0.Mesh.Triangles.map (cL (cI .i64))), .sl (b_0.Springs.map GSpring.cells), .f .f32 b_0.Film, .f .f32 b_0.Bend, .sl (b_0.Weights.map (cF .f32)), .f .f32 b_0.Fall.X, .f .f32 b_0.Fall.Y, .f .f32 b_0.Fall.Z]]⟩)

def hd_impl_ValidBody_1 (b_0 : GBody) (x_l0 : Int) : St := ⟨[.agg [.sl (b_0.Mesh.Places.map GVector.cells), .sl (b_0.Mesh.Triangles.map (cL (cI .i64))), .sl (b_0.Springs.map GSpring.cells), .f .f32 b_0.Film, .f .f32 b_0.Bend, .sl (b_0.Weights.map (cF .f32)), .f .f32 b_0.Fall.X, .f .f32 b_0.Fall.Y, .f .f32 b_0.Fall.Z], .ptr 0 0 0, .any, .i .i64 (b_0.Mesh.Places.length : Int), .any, .any, .ptr 0 0 0, .ptr 0 0 0, .sl (b_0.Mesh.Places.map GVector.cells), .i .i64 (b_0.Mesh.Places.length : Int), .ptr 0 0 0, .agg [.sl (b_0.Mesh.Places.map GVector.cells), .sl (b_0.Mesh.Triangles.map (cL (cI .i64)))], .b (v_impl_ValidMesh b_0.Mesh), .b (!(v_impl_ValidMesh b_0.Mesh)), .b (!(v_impl_ValidMesh b_0.Mesh)), .ptr 0 0 2, .sl (b_0.Springs.map GSpring.cells), .i .i64 (b_0.Springs.length : Int), .b (decide ((b_0.Springs.length : Int) > 200)), .b (decide ((b_0.Springs.length : Int) > 200)), .b (decide ((b_0.Springs.length : Int) > 200)), .ptr 0 0 5, .sl (b_0.Weights.map (cF .f32)), .i .i64 (b_0.Weights.length : Int), .i .i64 (b_0.Mesh.Places.length : Int), .b ((b_0.Weights.length : Int) != (b_0.Mesh.Places.length : Int)), .b ((b_0.Weights.length : Int) != (b_0.Mesh.Places.length : Int)), .ptr 0 0 2, .sl (b_0.Springs.map GSpring.cells), .i .i64 (b_0.Springs.length : Int), .i .i64 x_l0, .any, .any, .any, .any, .any, .any, .any, .any, .any, .any, .any, .any, .any, .any, .any, .any, .any, .any, .any, .any, .any, .any, .any, .any, .any, .any, .any, .any, .any, .any, .any], [.box 46 [.sl (b_0.Mesh.Places.map GVector.cells), .sl (b_0.Mesh.Triangles.map (cL (cI .i64))), .sl (b_0.Springs.map GSpring.cells), .f .f32 b_0.Film, .f .f32 b_0.Bend, .sl (b_0.Weights.map (cF .f32)), .f .f32 b_0.Fall.X, .f .f32 b_0.Fall.Y, .f .f32 b_0.Fall.Z]]⟩

def mk_impl_ValidBody_1_0 : List Bool := [true, true, false, true, false, false, true, true, true, true, true, true, true, true, true, true, true, true, true, true, true, true, true, true, true, true, true, true, true, true, true, false, false, false, false, false, false, false, false, false, false, false, false, false, false, false, false, false, false, false, false, false, false, false, false, false, false, false, false, false, false, false]

def mk_impl_ValidBody_1_1 : List Bool := [false, false, true, false, false, false, false, false, false, false, false, false, false, false, false, false, false, false, false, false, false, false, false, false, false, false, false, false, false, false, false, false, false, false, false, false, false, false, false, false, false, false, false, false, false, false, false, false, false, false, false, false, false, false, false, false, false, false, false, false, false, false]

def mk_impl_ValidBody_1_2 : List Bool := [true, true, false, true, false, false, true, true, true, true, true, true, true, true, true, true, true, true, true, true, true, true, true, true, true, true, true, true, true, false, false, false, false, false, false, false, false, false, false, false, false, false, false, false, false, false, false, false, false, false, false, false, false, false, false, false, false, false, false, false, false, false]

theorem lp_impl_ValidBody_1 (b_0 : GBody) (hp0 : b_0.Mesh.Places.length ≤ 1073741824) (hp1 : b_0.Mesh.Triangles.length ≤ 1073741824) (hp2 : ∀ t ∈ b_0.Mesh.Triangles, t.length ≤ 1073741824) (hp3 : b_0.Springs.length ≤ 1073741824) (hp4 : b_0.Weights.length ≤ 1073741824) (hf_impl_ValidBody_1_0 : ((b_0.Weights.length : Int) != (b_0.Mesh.Places.length : Int)) = false) (hf_impl_ValidBody_1_1 : (decide ((b_0.Springs.length : Int) > 200)) = false) (hf_impl_ValidBody_1_2 : (v_impl_ValidMesh b_0.Mesh) = true) : ∀ (k : Nat) (x_l0 : Int) (hv_impl_ValidBody_1_0 : 0 ≤ x_l0) (hk : ((b_0.Springs.length : Int) - x_l0).toNat < k), Lp prog 0 (sub (bodyOf f126) [1, 1, 1, 0, 1, 0, 0]) (hd_impl_ValidBody_1 b_0 x_l0) (ls_impl_ValidBody_1 b_0 (lo_impl_ValidBody_1 b_0 k x_l0)).1 (ls_impl_ValidBody_1 b_0 (lo_impl_ValidBody_1 b_0 k x_l0)).2 := by
 intro k
 induction k with
 | zero => intro x_l0 hv_impl_ValidBody_1_0 hk; exact absurd hk (Nat.not_lt_zero _)
 | succ k ih =>
  intro x_l0 hv_impl_ValidBody_1_0 hk
  cases h_0 : (decide (x_l0 < (b_0.Springs.length : Int))) with
  | true =>
   have gh_0 := of_decide_eq_true h_0
   have y_0 : (0 : Int) ≤ x_l0 := (by first | assumption | omega | (simp_all <;> omega))
   have y_1 : x_l0 < (b_0.Springs.length : Int) := (by first | assumption | omega | (simp_all <;> omega))
   have p {a C} (s : Scr a C) := sB h_0 <| sG GSpring.cells b_0.Springs x_l0 y_0 y_1 <| sW .i64 ((b_0.Mesh.Places.length : Int) - 1) <| sF (t_impl_within ((b_0.Springs.getD x_l0.toNat default).A) 0 (IntKind.wrap .i64 ((b_0.Mesh.Places.length : Int) - 1))) <| s
   cases h_1 : (v_impl_within ((b_0.Springs.getD x_l0.toNat default).A) 0 (IntKind.wrap .i64 ((b_0.Mesh.Places.length : Int) - 1))) with
   | true =>
    have q {a C} (s : Scr a C) := p (sB' h_1 <| sB' h_1 <| sB' h_1 <| sB' h_1 <| sW .i64 ((b_0.Mesh.Places.length : Int) - 1) <| sB' h_1 <| sF (t_impl_within ((b_0.Springs.getD x_l0.toNat default).B) 0 (IntKind.wrap .i64 ((b_0.Mesh.Places.length : Int) - 1))) <| sB' h_1 <| sB' h_1 <| s)
    clear p
    cases h_2 : (v_impl_within ((b_0.Springs.getD x_l0.toNat default).B) 0 (IntKind.wrap .i64 ((b_0.Mesh.Places.length : Int) - 1))) with
    | true =>
     have p {a C} (s : Scr a C) := q (sB' h_2 <| sB' h_2 <| sB' h_2 <| sB' h_2 <| sB' h_2 <| sB' h_2 <| s)
     clear q
     cases h_3 : ((b_0.Springs.getD x_l0.toNat default).A == (b_0.Springs.getD x_l0.toNat default).B) with
     | true =>
      have gh_3 := eq_of_beq h_3
      have e : lo_impl_ValidBody_1 b_0 (k + 1) x_l0 = (.inl ()) := by simp only [lo_impl_ValidBody_1, h_0, h_1, h_2, h_3, cond_true]
      rw [e]
      exact outR (e := .ret) E0Ok hMixed [] mk_impl_ValidBody_1_1 [] (p (sB h_3 <| sB h_3 <| sB h_3 <| sB h_3 <| sB h_3 <| sB (show true = true from rfl) <| sN)) (by kernel_rfl) (by intro h; cases h)
     | false =>
      have gh_3 := ne_of_beq_false h_3
      have q {a C} (s : Scr a C) := p (sB h_3 <| sB h_3 <| sB h_3 <| sB h_3 <| sB h_3 <| s)
      clear p
      cases h_4 : (fcmp .geq .f32 ((b_0.Springs.getD x_l0.toNat default).Long) 0) with
      | true =>
       have y_2 : (-9223372036854775808 : Int) ≤ (x_l0 + 1) := by clear q; exact (by first | assumption | omega | (simp_all <;> omega))
       have y_3 : (x_l0 + 1) ≤ (9223372036854775807 : Int) := by clear q; exact (by first | assumption | omega | (simp_all <;> omega))
       have e : lo_impl_ValidBody_1 b_0 (k + 1) x_l0 = (lo_impl_ValidBody_1 b_0 k (x_l0 + 1)) := by simp only [lo_impl_ValidBody_1, h_0, h_1, h_2, h_3, h_4, cond_true, cond_false]
       rw [e]
       exact nextR E0Ok hMixed [] mk_impl_ValidBody_1_0 [0] (ih (x_l0 + 1) (show 0 ≤ (x_l0 + 1) from (by first | assumption | omega | (simp_all <;> omega))) (by first | assumption | omega | (simp_all <;> omega))) (q (sB' h_4 <| sI (x_l0 + 1) y_2 y_3 <| sN)) (by kernel_rfl)
      | false =>
       have e : lo_impl_ValidBody_1 b_0 (k + 1) x_l0 = (.inl ()) := by simp only [lo_impl_ValidBody_1, h_0, h_1, h_2, h_3, h_4, cond_true, cond_false]
       rw [e]
       exact outR (e := .ret) E0Ok hMixed [] mk_impl_ValidBody_1_1 [] (q (sB' h_4 <| sN)) (by kernel_rfl) (by intro h; cases h)
    | false =>
     have e : lo_impl_ValidBody_1 b_0 (k + 1) x_l0 = (.inl ()) := by simp only [lo_impl_ValidBody_1, h_0, h_1, h_2, cond_true, cond_false]
     rw [e]
     exact outR (e := .ret) E0Ok hMixed [] mk_impl_ValidBody_1_1 [] (q (sB' h_2 <| sB' h_2 <| sB' h_2 <| sB' h_2 <| sB' h_2 <| sB' h_2 <| sB (show true = true from rfl) <| sB (show true = true from rfl) <| sB (show true = true from rfl) <| sB (show true = true from rfl) <| sB (show true = true from rfl) <| sB (show true = true from rfl) <| sN)) (by kernel_rfl) (by intro h; cases h)
   | false =>
    have e : lo_impl_ValidBody_1 b_0 (k + 1) x_l0 = (.inl ()) := by simp only [lo_impl_ValidBody_1, h_0, h_1, cond_true, cond_false]
    rw [e]
    exact outR (e := .ret) E0Ok hMixed [] mk_impl_ValidBody_1_1 [] (p (sB' h_1 <| sB' h_1 <| sB' h_1 <| sB' h_1 <| sB' h_1 <| sB' h_1 <| sB' h_1 <| sB (show true = true from rfl) <| sB (show true = true from rfl) <| sB (show true = true from rfl) <| sB (show true = true from rfl) <| sB (show true = true from rfl) <| sB (show true = true from rfl) <| sB (show true = true from rfl) <| sB (show true = true from rfl) <| sB (show true = true from rfl) <| sB (show true = true from rfl) <| sB (show true = true from rfl) <| sB (show true = true from rfl) <| sN)) (by kernel_rfl) (by intro h; cases h)
  | false =>
   have gh_0 := of_decide_eq_false h_0
   have e : lo_impl_ValidBody_1 b_0 (k + 1) x_l0 = (.inr ()) := by simp only [lo_impl_ValidBody_1, h_0, cond_false]
   rw [e]
   exact outR (e := (.exit 0)) E0Ok hMixed [] mk_impl_ValidBody_1_2 [0] (sB h_0 <| sN) (by kernel_rfl) (by intro h; cases h)

def lr_impl_ValidBody_1_0 (b_0 : GBody) : (Unit) ⊕ (Unit) := (lo_impl_ValidBody_1 b_0 (((b_0.Springs.length : Int) - 0).toNat + 1) 0)

def v_impl_ValidBody (b_0 : GBody) : Bool := (cond (v_impl_ValidMesh b_0.Mesh)
  (cond (decide ((b_0.Springs.length : Int) > 200))
    false
    (cond ((b_0.Weights.length : Int) != (b_0.Mesh.Places.length : Int))
      false
      (match (lr_impl_ValidBody_1_0 b_0) with
        | .inl r4 => false
        | .inr r4 => true)))
  false)

theorem t_impl_ValidBody (b_0 : GBody) (hp0 : b_0.Mesh.Places.length ≤ 1073741824) (hp1 : b_0.Mesh.Triangles.length ≤ 1073741824) (hp2 : ∀ t ∈ b_0.Mesh.Triangles, t.length ≤ 1073741824) (hp3 : b_0.Springs.length ≤ 1073741824) (hp4 : b_0.Weights.length ≤ 1073741824)  : Fn prog 126 [.agg [.sl (b_0.Mesh.Places.map GVector.cells), .sl (b_0.Mesh.Triangles.map (cL (cI .i64))), .sl (b_0.Springs.map GSpring.cells), .f .f32 b_0.Film, .f .f32 b_0.Bend, .sl (b_0.Weights.map (cF .f32)), .f .f32 b_0.Fall.X, .f .f32 b_0.Fall.Y, .f .f32 b_0.Fall.Z]] (.b (v_impl_ValidBody b_0)) [] := by
 have p {a C} (s : Scr a C) := sZ GVector.cells b_0.Mesh.Places <| sF (t_impl_ValidMesh b_0.Mesh hp0 hp1 hp2) <| s
 cases h0 : (v_impl_ValidMesh b_0.Mesh) with
 | true =>
  have q {a C} (s : Scr a C) := p (sB' h0 <| sB' h0 <| sB' h0 <| sZ GSpring.cells b_0.Springs <| sB' h0 <| sB' h0 <| s)
  clear p
  cases h1 : (decide ((b_0.Springs.length : Int) > 200)) with
  | true =>
   have gh1 := of_decide_eq_true h1
   refine fnS E0Ok hMixed (c := bodyOf f126) [] (.b false) [] func126 (q (sB h1 <| sB h1 <| sB h1 <| sB h1 <| sB h1 <| sB h1 <| sB (show true = true from rfl) <| sK [] sN)) rfl (by kernel_rfl) (by kernel_rfl) rfl ?_ ?_
   · simp only [v_impl_ValidBody, h0, h1, cond_true]
   · rfl
  | false =>
   have gh1 := of_decide_eq_false h1
   have p {a C} (s : Scr a C) := q (sB h1 <| sB h1 <| sB h1 <| sZ (cF .f32) b_0.Weights <| sB h1 <| sB h1 <| sB h1 <| s)
   clear q
   cases h2 : ((b_0.Weights.length : Int) != (b_0.Mesh.Places.length : Int)) with
   | true =>
    have gh2 := bne_iff_ne.1 h2
    refine fnS E0Ok hMixed (c := bodyOf f126) [] (.b false) [] func126 (p (sB h2 <| sK [] sN)) rfl (by kernel_rfl) (by kernel_rfl) rfl ?_ ?_
    · simp only [v_impl_ValidBody, h0, h1, h2, cond_true, cond_false]
    · rfl
   | false =>
    have gh2 := bne_eq_false_iff_eq.1 h2
    have q {a C} (s : Scr a C) := p (sB h2 <| sZ GSpring.cells b_0.Springs <| s)
    clear p
    cases h3 : (lr_impl_ValidBody_1_0 b_0) with
    | inl r4 =>
     refine fnS E0Ok hMixed (c := bodyOf f126) [] (.b false) [] func126 (q (sL mk_impl_ValidBody_1_0 1 (lp_val (ls_impl_ValidBody_1 b_0) (x := (lr_impl_ValidBody_1_0 b_0)) (lp_impl_ValidBody_1 b_0 hp0 hp1 hp2 hp3 hp4 h2 h1 h0 (((b_0.Springs.length : Int) - 0).toNat + 1) 0 (show 0 ≤ 0 from (by first | assumption | omega | (simp_all <;> omega))) (Nat.lt_succ_self _)) h3) <| sK [] sN)) rfl (by kernel_rfl) (by kernel_rfl) rfl ?_ ?_
     · simp only [v_impl_ValidBody, h0, h1, h2, h3, cond_true, cond_false]
     · rfl
    | inr r4 =>
     refine fnS E0Ok hMixed (c := bodyOf f126) [] (.b true) [] func126 (q (sL mk_impl_ValidBody_1_0 1 (lp_val (ls_impl_ValidBody_1 b_0) (x := (lr_impl_ValidBody_1_0 b_0)) (lp_impl_ValidBody_1 b_0 hp0 hp1 hp2 hp3 hp4 h2 h1 h0 (((b_0.Springs.length : Int) - 0).toNat + 1) 0 (show 0 ≤ 0 from (by first | assumption | omega | (simp_all <;> omega))) (Nat.lt_succ_self _)) h3) <| sK [] sN)) rfl (by kernel_rfl) (by kernel_rfl) rfl ?_ ?_
     · simp only [v_impl_ValidBody, h0, h1, h2, h3, cond_true, cond_false]
     · rfl
 | false =>
  refine fnS E0Ok hMixed (c := bodyOf f126) [] (.b false) [] func126 (p (sB' h0 <| sB' h0 <| sB' h0 <| sB' h0 <| sB' h0 <| sB (show true = true from rfl) <| sB (show true = true from rfl) <| sB (show true = true from rfl) <| sB (show true = true from rfl) <| sB (show true = true from rfl) <| sB (show true = true from rfl) <| sB (show true = true from rfl) <| sK [] sN)) rfl (by kernel_rfl) (by kernel_rfl) rfl ?_ ?_
  · simp only [v_impl_ValidBody, h0, cond_false]
  · rfl

theorem springB (s : GSpring) (n : Int) : cond (v_impl_within s.A 0 (IntKind.wrap .i64 (n - 1))) (cond (v_impl_within s.B 0 (IntKind.wrap .i64 (n - 1))) (cond (s.A == s.B) false (fcmp .geq .f32 s.Long 0)) false) false = v_spec_l03Spring s n := by
  unfold v_spec_l03Spring
  rw [show v_impl_within = v_spec_l00In from rfl, show (s.A != s.B) = !(s.A == s.B) from rfl]
  cases (s.A == s.B) <;> rfl
theorem lo_ValidBody (b : GBody) (k : Nat) (i : Int) : lo_impl_ValidBody_1 b (k + 1) i = cond (decide (i < (b.Springs.length : Int))) (cond (v_spec_l03Spring (b.Springs.getD i.toNat default) (b.Mesh.Places.length : Int)) (lo_impl_ValidBody_1 b k (i + 1)) (.inl ())) (.inr ()) := by
  rw [lo_impl_ValidBody_1, ← springB]
  generalize b.Springs.getD i.toNat default = s
  cases v_impl_within s.A 0 (IntKind.wrap .i64 ((b.Mesh.Places.length : Int) - 1)) <;> cases v_impl_within s.B 0 (IntKind.wrap .i64 ((b.Mesh.Places.length : Int) - 1)) <;> cases (s.A == s.B) <;> cases fcmp .geq .f32 s.Long 0 <;> rfl
theorem eq_ValidBody (b : GBody) : v_impl_ValidBody b = v_spec_l03Is b := by
  unfold v_impl_ValidBody v_spec_l03Is lr_impl_ValidBody_1_0 lr_spec_l03Is_1_0
  rw [eq_ValidMesh, all_from (a := b.Springs) (p := fun s => v_spec_l03Spring s (b.Mesh.Places.length : Int)) (lo := lo_impl_ValidBody_1 b) (x := ()) (y := ()) (lo_ValidBody b),
    all_from (a := b.Springs) (p := fun s => v_spec_l03Spring s (b.Mesh.Places.length : Int)) (lo := lo_spec_l03Is_1 b) (x := ()) (y := ()) (fun k i => rfl)]
  rfl
theorem okMesh_is (b : GBody) (h : v_spec_l03Is b = true) : v_spec_l02Is b.Mesh = true := by
  cases hm : v_spec_l02Is b.Mesh with
  | true => rfl
  | false => simp [v_spec_l03Is, hm] at h
theorem places_le (m : GMesh) (h : v_spec_l02Is m = true) : m.Places.length ≤ 64 ∧ m.Triangles.length ≤ 128 := by
  rw [l02Is_eq] at h
  cases h1 : decide ((m.Places.length : Int) > 64) <;> rw [h1] at h <;> (try (cases h; done))
  cases h2 : decide ((m.Triangles.length : Int) > 128) <;> rw [h2] at h <;> (try (cases h; done))
  simp only [decide_eq_false_iff_not] at h1 h2
  omega

def lo_impl_copyMesh_1 (m_0 : GMesh) : Nat → Int → (List (List Int)) → (List (List Int))
  | 0, _, _ => default
  | k + 1, x_l0, r4_l1 => (cond (decide (x_l0 < (m_0.Triangles.length : Int)))
    (lo_impl_copyMesh_1 m_0 k (x_l0 + 1) (r4_l1 ++ [(([] : List Int) ++ (m_0.Triangles.getD x_l0.toNat default))]))
    r4_l1)

def ls_impl_copyMesh_1 (m_0 : GMesh) (r : (List (List Int))) : Ex × St := ((.exit 0), ⟨[.agg [.sl (m_0.Places.map GVector.cells), .sl (m_0.Triangles.map (cL (cI .i64)))], .ptr 0 0 0, .ptr 1 0 0, .ptr 2 0 0, .any, .any, .any, .ptr 0 0 0, .sl (m_0.Places.map GVector.cells), .own 3, .agg [.own 3, .nils], .ptr 0 0 1, .sl (m_0.Triangles.map (cL (cI .i64))), .any, .any, .any, .any, .any, .any, .any, .any, .any, .any, .any, .any, .any, .any, .any], [.box 42 [.sl (m_0.Places.map GVector.cells), .sl (m_0.Triangles.map (cL (cI .i64)))], .box 42 [.nils, .nils], .box 42 [.own 3, .own 4], .vec 44 3 (([] : List (List AV)) ++ (m_0.Places.map GVector.cells)) false, .nest 52 (r.map fun l => l.map (cI .i64)) false]⟩)

def hd_impl_copyMesh_1 (m_0 : GMesh) (x_l0 : Int) (r4_l1 : (List (List Int))) : St := ⟨[.agg [.sl (m_0.Places.map GVector.cells), .sl (m_0.Triangles.map (cL (cI .i64)))], .ptr 0 0 0, .ptr 1 0 0, .ptr 3 0 0, .any, .any, .any, .ptr 0 0 0, .sl (m_0.Places.map GVector.cells), .own 2, .agg [.own 2, .nils], .ptr 0 0 1, .sl (m_0.Triangles.map (cL (cI .i64))), .i .i64 (m_0.Triangles.length : Int), .i .i64 x_l0, .any, .any, .any, .any, .any, .any, .any, .any, .any, .any, .any, .any, .any], [.box 42 [.sl (m_0.Places.map GVector.cells), .sl (m_0.Triangles.map (cL (cI .i64)))], .box 42 [.nils, .nils], .vec 44 3 (([] : List (List AV)) ++ (m_0.Places.map GVector.cells)) false, .box 42 [.own 2, .own 4], .nest 52 (r4_l1.map fun l => l.map (cI .i64)) false]⟩

def mk_impl_copyMesh_1_0 : List Bool := [true, true, true, true, false, false, false, true, true, true, true, true, true, true, true, false, false, false, false, false, false, false, false, false, false, false, false, false]

def mk_impl_copyMesh_1_1 : List Bool := [true, true, true, true, false, false, false, true, true, true, true, true, true, false, false, false, false, false, false, false, false, false, false, false, false, false, false, false]

theorem lp_impl_copyMesh_1 (m_0 : GMesh) (hp0 : m_0.Places.length ≤ 1073741824) (hp1 : m_0.Triangles.length ≤ 1073741824) (hp2 : ∀ t ∈ m_0.Triangles, t.length ≤ 1073741824) (hp3 : OkTris m_0.Places.length m_0.Triangles) : ∀ (k : Nat) (x_l0 : Int) (r4_l1 : (List (List Int))) (hv_impl_copyMesh_1_0 : 0 ≤ x_l0) (hv_impl_copyMesh_1_1 : (r4_l1.length : Int) = x_l0) (hk : ((m_0.Triangles.length : Int) - x_l0).toNat < k), Lp prog 0 (sub (bodyOf f100) [1, 1, 0, 1, 0, 0]) (hd_impl_copyMesh_1 m_0 x_l0 r4_l1) (ls_impl_copyMesh_1 m_0 (lo_impl_copyMesh_1 m_0 k x_l0 r4_l1)).1 (ls_impl_copyMesh_1 m_0 (lo_impl_copyMesh_1 m_0 k x_l0 r4_l1)).2 := by
 intro k
 induction k with
 | zero => intro x_l0 r4_l1 hv_impl_copyMesh_1_0 hv_impl_copyMesh_1_1 hk; exact absurd hk (Nat.not_lt_zero _)
 | succ k ih =>
  intro x_l0 r4_l1 hv_impl_copyMesh_1_0 hv_impl_copyMesh_1_1 hk
  cases h_0 : (decide (x_l0 < (m_0.Triangles.length : Int))) with
  | true =>
   have gh_0 := of_decide_eq_true h_0
   have y_0 : (0 : Int) ≤ x_l0 := (by first | assumption | omega | (have q := (OkTris.at hp3 hv_impl_copyMesh_1_0 (of_decide_eq_true (by assumption))).1; omega) | (simp_all <;> omega))
   have y_1 : x_l0 < (m_0.Triangles.length : Int) := (by first | assumption | omega | (have q := (OkTris.at hp3 hv_impl_copyMesh_1_0 (of_decide_eq_true (by assumption))).1; omega) | (simp_all <;> omega))
   have y_2 : ([] : List Int).length + (m_0.Triangles.getD x_l0.toNat default).length ≤ 1073741824 := (by first | assumption | omega | (have q := (OkTris.at hp3 hv_impl_copyMesh_1_0 (of_decide_eq_true (by assumption))).1; omega) | (simp_all <;> omega))
   have y_3 : r4_l1.length + [(([] : List Int) ++ (m_0.Triangles.getD x_l0.toNat default))].length ≤ 1073741824 := (by first | assumption | omega | (have q := (OkTris.at hp3 hv_impl_copyMesh_1_0 (of_decide_eq_true (by assumption))).1; omega) | (simp_all <;> omega))
   have y_4 : (-9223372036854775808 : Int) ≤ (x_l0 + 1) := (by first | assumption | omega | (have q := (OkTris.at hp3 hv_impl_copyMesh_1_0 (of_decide_eq_true (by assumption))).1; omega) | (simp_all <;> omega))
   have y_5 : (x_l0 + 1) ≤ (9223372036854775807 : Int) := (by first | assumption | omega | (have q := (OkTris.at hp3 hv_impl_copyMesh_1_0 (of_decide_eq_true (by assumption))).1; omega) | (simp_all <;> omega))
   have e : lo_impl_copyMesh_1 m_0 (k + 1) x_l0 r4_l1 = (lo_impl_copyMesh_1 m_0 k (x_l0 + 1) (r4_l1 ++ [(([] : List Int) ++ (m_0.Triangles.getD x_l0.toNat default))])) := by simp only [lo_impl_copyMesh_1, h_0, cond_true]
   rw [e]
   exact nextS E0Ok hMixed [] mk_impl_copyMesh_1_0 [0, 1, 2, 3, 4] (⟨[.agg [.sl (m_0.Places.map GVector.cells), .sl (m_0.Triangles.map (cL (cI .i64)))], .ptr 0 0 0, .ptr 1 0 0, .ptr 3 0 0, .any, .any, .any, .ptr 0 0 0, .sl (m_0.Places.map GVector.cells), .own 2, .agg [.own 2, .nils], .ptr 0 0 1, .sl (m_0.Triangles.map (cL (cI .i64))), .i .i64 (m_0.Triangles.length : Int), .i .i64 (x_l0 + 1), .any, .any, .any, .any, .any, .any, .any, .any, .any, .any, .any, .any, .any], [.box 42 [.sl (m_0.Places.map GVector.cells), .sl (m_0.Triangles.map (cL (cI .i64)))], .box 42 [.nils, .nils], .vec 44 3 (([] : List (List AV)) ++ (m_0.Places.map GVector.cells)) false, .box 42 [.own 2, .own 4], .nest 52 ((r4_l1.map fun l => l.map (cI .i64)) ++ [(([] : List (List AV)) ++ ((m_0.Triangles.getD x_l0.toNat default).map (cI .i64)))]) false]⟩) (sB h_0 <| sG (cL (cI .i64)) m_0.Triangles x_l0 y_0 y_1 <| sK [6, 6] <| sC (show ((m_0.Triangles.getD x_l0.toNat default).map (cI .i64)) ≠ [] from (by have q := (OkTris.at hp3 hv_impl_copyMesh_1_0 (of_decide_eq_true (by assumption))).1; have q2 : (m_0.Triangles.getD x_l0.toNat default) ≠ [] := (by intro hq; rw [hq] at q; simp at q); simpa using q2)) <| sC (show ([] : List (List AV)).length + ((m_0.Triangles.getD x_l0.toNat default).map (cI .i64)).length ≤ 1073741824 from (by simpa using y_2)) <| sC (show ((m_0.Triangles.getD x_l0.toNat default).map (cI .i64)).all (fun cs => cs.length == 1 && cs.all isS) = true from (src_ok (fun _ => rfl))) <| sC (show (r4_l1.map fun l => l.map (cI .i64)).length + [(([] : List (List AV)) ++ ((m_0.Triangles.getD x_l0.toNat default).map (cI .i64)))].length ≤ 1073741824 from (by simpa using y_3)) <| sI (x_l0 + 1) y_4 y_5 <| sN) (by kernel_rfl) (show _ = ⟨[.agg [.sl (m_0.Places.map GVector.cells), .sl (m_0.Triangles.map (cL (cI .i64)))], .ptr 0 0 0, .ptr 1 0 0, .ptr 3 0 0, .any, .any, .any, .ptr 0 0 0, .sl (m_0.Places.map GVector.cells), .own 2, .agg [.own 2, .nils], .ptr 0 0 1, .sl (m_0.Triangles.map (cL (cI .i64))), .i .i64 (m_0.Triangles.length : Int), .i .i64 (x_l0 + 1), .any, .any, .any, .any, .any, .any, .any, .any, .any, .any, .any, .any, .any], [.box 42 [.sl (m_0.Places.map GVector.cells), .sl (m_0.Triangles.map (cL (cI .i64)))], .box 42 [.nils, .nils], .vec 44 3 (([] : List (List AV)) ++ (m_0.Places.map GVector.cells)) false, .box 42 [.own 2, .own 4], .nest 52 ((r4_l1 ++ [(([] : List Int) ++ (m_0.Triangles.getD x_l0.toNat default))]).map fun l => l.map (cI .i64)) false]⟩ from (by simp [GVector.cells, cL])) (ih (x_l0 + 1) (r4_l1 ++ [(([] : List Int) ++ (m_0.Triangles.getD x_l0.toNat default))]) (show 0 ≤ (x_l0 + 1) from (by first | assumption | omega | (have q := (OkTris.at hp3 hv_impl_copyMesh_1_0 (of_decide_eq_true (by assumption))).1; omega) | (simp_all <;> omega))) (show ((r4_l1 ++ [(([] : List Int) ++ (m_0.Triangles.getD x_l0.toNat default))]).length : Int) = (x_l0 + 1) from (by first | assumption | omega | (have q := (OkTris.at hp3 hv_impl_copyMesh_1_0 (of_decide_eq_true (by assumption))).1; omega) | (simp_all <;> omega))) (by first | assumption | omega | (have q := (OkTris.at hp3 hv_impl_copyMesh_1_0 (of_decide_eq_true (by assumption))).1; omega) | (simp_all <;> omega)))
  | false =>
   have gh_0 := of_decide_eq_false h_0
   have e : lo_impl_copyMesh_1 m_0 (k + 1) x_l0 r4_l1 = r4_l1 := by simp only [lo_impl_copyMesh_1, h_0, cond_false]
   rw [e]
   exact outR (e := (.exit 0)) E0Ok hMixed [] mk_impl_copyMesh_1_1 [0, 1, 3, 2, 4] (sB h_0 <| sN) (by kernel_rfl) (by intro h; cases h)

def lr_impl_copyMesh_1_0 (m_0 : GMesh) : (List (List Int)) := (lo_impl_copyMesh_1 m_0 (((m_0.Triangles.length : Int) - 0).toNat + 1) 0 ([] : List (List Int)))

def v_impl_copyMesh (m_0 : GMesh) : GMesh := (⟨(([] : List GVector) ++ m_0.Places), (lr_impl_copyMesh_1_0 m_0)⟩ : GMesh)

theorem t_impl_copyMesh (m_0 : GMesh) (hp0 : m_0.Places.length ≤ 1073741824) (hp1 : m_0.Triangles.length ≤ 1073741824) (hp2 : ∀ t ∈ m_0.Triangles, t.length ≤ 1073741824) (hp3 : OkTris m_0.Places.length m_0.Triangles)  : Fn prog 100 [.agg [.sl (m_0.Places.map GVector.cells), .sl (m_0.Triangles.map (cL (cI .i64)))]] (.agg [.own 0, .own 1]) [.vec 44 3 (((v_impl_copyMesh m_0).Places).map GVector.cells) false, .nest 52 (((v_impl_copyMesh m_0).Triangles).map fun l => l.map (cI .i64)) false] := by
 have y0 : ([] : List GVector).length + m_0.Places.length ≤ 1073741824 := (by first | assumption | omega | (have q := (OkTris.at hp3 hv_impl_copyMesh_1_0 (of_decide_eq_true (by assumption))).1; omega) | (simp_all <;> omega))
 refine fnS E0Ok hMixed (c := bodyOf f100) [] (.agg [.own 0, .own 1]) [.vec 44 3 (([] : List (List AV)) ++ (m_0.Places.map GVector.cells)) false, .nest 52 ((lr_impl_copyMesh_1_0 m_0).map fun l => l.map (cI .i64)) false] func100 (sC (show ([] : List (List AV)).length + (m_0.Places.map GVector.cells).length ≤ 1073741824 from (by simpa using y0)) <| sC (show (m_0.Places.map GVector.cells).all (fun cs => cs.length == 3 && cs.all isS) = true from (src_ok (fun _ => rfl))) <| sZ (cL (cI .i64)) m_0.Triangles <| sL mk_impl_copyMesh_1_0 4 (Lp.nil (st := ⟨[.agg [.sl (m_0.Places.map GVector.cells), .sl (m_0.Triangles.map (cL (cI .i64)))], .ptr 0 0 0, .ptr 1 0 0, .ptr 3 0 0, .any, .any, .any, .ptr 0 0 0, .sl (m_0.Places.map GVector.cells), .own 2, .agg [.own 2, .nils], .ptr 0 0 1, .sl (m_0.Triangles.map (cL (cI .i64))), .i .i64 (m_0.Triangles.length : Int), .i .i64 0, .any, .any, .any, .any, .any, .any, .any, .any, .any, .any, .any, .any, .any], [.box 42 [.sl (m_0.Places.map GVector.cells), .sl (m_0.Triangles.map (cL (cI .i64)))], .box 42 [.nils, .nils], .vec 44 3 (([] : List (List AV)) ++ (m_0.Places.map GVector.cells)) false, .box 42 [.own 2, .nils]]⟩) (st2 := ⟨[.agg [.sl (m_0.Places.map GVector.cells), .sl (m_0.Triangles.map (cL (cI .i64)))], .ptr 0 0 0, .ptr 1 0 0, .ptr 3 0 0, .any, .any, .any, .ptr 0 0 0, .sl (m_0.Places.map GVector.cells), .own 2, .agg [.own 2, .nils], .ptr 0 0 1, .sl (m_0.Triangles.map (cL (cI .i64))), .i .i64 (m_0.Triangles.length : Int), .i .i64 0, .any, .any, .any, .any, .any, .any, .any, .any, .any, .any, .any, .any, .any], [.box 42 [.sl (m_0.Places.map GVector.cells), .sl (m_0.Triangles.map (cL (cI .i64)))], .box 42 [.nils, .nils], .vec 44 3 (([] : List (List AV)) ++ (m_0.Places.map GVector.cells)) false, .box 42 [.own 2, .own 4], .nest 52 [] false]⟩) (ps := [(.row 3 1, .nest 52 [] false)]) rfl (lp_cast (st2 := ⟨[.agg [.sl (m_0.Places.map GVector.cells), .sl (m_0.Triangles.map (cL (cI .i64)))], .ptr 0 0 0, .ptr 1 0 0, .ptr 3 0 0, .any, .any, .any, .ptr 0 0 0, .sl (m_0.Places.map GVector.cells), .own 2, .agg [.own 2, .nils], .ptr 0 0 1, .sl (m_0.Triangles.map (cL (cI .i64))), .i .i64 (m_0.Triangles.length : Int), .i .i64 0, .any, .any, .any, .any, .any, .any, .any, .any, .any, .any, .any, .any, .any], [.box 42 [.sl (m_0.Places.map GVector.cells), .sl (m_0.Triangles.map (cL (cI .i64)))], .box 42 [.nils, .nils], .vec 44 3 (([] : List (List AV)) ++ (m_0.Places.map GVector.cells)) false, .box 42 [.own 2, .own 4], .nest 52 [] false]⟩) (lp_val (ls_impl_copyMesh_1 m_0) (x := (lr_impl_copyMesh_1_0 m_0)) (lp_impl_copyMesh_1 m_0 hp0 hp1 hp2 hp3 (((m_0.Triangles.length : Int) - 0).toNat + 1) 0 ([] : List (List Int)) (show 0 ≤ 0 from (by first | assumption | omega | (have q := (OkTris.at hp3 hv_impl_copyMesh_1_0 (of_decide_eq_true (by assumption))).1; omega) | (simp_all <;> omega))) (show (([] : List (List Int)).length : Int) = 0 from (by simp)) (Nat.lt_succ_self _)) rfl) (by simp [hd_impl_copyMesh_1, GVector.cells, cL]))) <| sK [3, 4] sN) rfl (by kernel_rfl) (by kernel_rfl) rfl ?_ ?_
 · rfl
 · simp [v_impl_copyMesh, GVector.cells]

@[simp] theorem eq_copyMesh (m : GMesh) : v_impl_copyMesh m = m := by
  unfold v_impl_copyMesh lr_impl_copyMesh_1_0
  rw [app_loop (f := fun i => (m.Triangles.getD i.toNat default)) (n := (m.Triangles.length : Int)) (lo := lo_impl_copyMesh_1 m) (fun k i r => rfl) _ _ _ (Nat.lt_succ_self _)]
  simp [getD_range2]

theorem i_impl_copyMesh (m_0 : GMesh) (hp0 : m_0.Places.length ≤ 1073741824) (hp1 : m_0.Triangles.length ≤ 1073741824) (hp2 : ∀ t ∈ m_0.Triangles, t.length ≤ 1073741824) (hp3 : OkTris m_0.Places.length m_0.Triangles) : Fn prog 100 [.agg [.sl (m_0.Places.map GVector.cells), .sl (m_0.Triangles.map (cL (cI .i64)))]] (.agg [.own 0, .own 1]) [.vec 44 3 (m_0.Places.map GVector.cells) false, .nest 52 (m_0.Triangles.map fun l => l.map (cI .i64)) false] := by
 simpa only [eq_copyMesh] using t_impl_copyMesh  m_0 hp0 hp1 hp2 hp3

def v_impl_copyBody (b_0 : GBody) : GBody := (⟨b_0.Mesh, (([] : List GSpring) ++ b_0.Springs), b_0.Film, b_0.Bend, (([] : List Nat) ++ b_0.Weights), b_0.Fall⟩ : GBody)

theorem t_impl_copyBody (b_0 : GBody) (hp0 : b_0.Mesh.Places.length ≤ 1073741824) (hp1 : b_0.Mesh.Triangles.length ≤ 1073741824) (hp2 : ∀ t ∈ b_0.Mesh.Triangles, t.length ≤ 1073741824) (hp3 : b_0.Springs.length ≤ 1073741824) (hp4 : b_0.Weights.length ≤ 1073741824) (hp5 : OkTris b_0.Mesh.Places.length b_0.Mesh.Triangles)  : Fn prog 127 [.agg [.sl (b_0.Mesh.Places.map GVector.cells), .sl (b_0.Mesh.Triangles.map (cL (cI .i64))), .sl (b_0.Springs.map GSpring.cells), .f .f32 b_0.Film, .f .f32 b_0.Bend, .sl (b_0.Weights.map (cF .f32)), .f .f32 b_0.Fall.X, .f .f32 b_0.Fall.Y, .f .f32 b_0.Fall.Z]] (.agg [.own 0, .own 1, .own 2, .f .f32 ((v_impl_copyBody b_0).Film), .f .f32 ((v_impl_copyBody b_0).Bend), .own 3, .f .f32 ((v_impl_copyBody b_0).Fall.X), .f .f32 ((v_impl_copyBody b_0).Fall.Y), .f .f32 ((v_impl_copyBody b_0).Fall.Z)]) [.vec 44 3 (((v_impl_copyBody b_0).Mesh.Places).map GVector.cells) false, .nest 52 (((v_impl_copyBody b_0).Mesh.Triangles).map fun l => l.map (cI .i64)) false, .vec 105 4 (((v_impl_copyBody b_0).Springs).map GSpring.cells) false, .vec 22 1 (((v_impl_copyBody b_0).Weights).map (cF .f32)) false] := by
 have y0 : ([] : List GSpring).length + b_0.Springs.length ≤ 1073741824 := (by first | assumption | omega | (simp_all <;> omega))
 have y1 : ([] : List Nat).length + b_0.Weights.length ≤ 1073741824 := (by first | assumption | omega | (simp_all <;> omega))
 refine fnS E0Ok hMixed (c := bodyOf f127) [] (.agg [.own 0, .own 1, .own 2, .f .f32 b_0.Film, .f .f32 b_0.Bend, .own 3, .f .f32 b_0.Fall.X, .f .f32 b_0.Fall.Y, .f .f32 b_0.Fall.Z]) [.vec 44 3 (b_0.Mesh.Places.map GVector.cells) false, .nest 52 (b_0.Mesh.Triangles.map fun l => l.map (cI .i64)) false, .vec 105 4 (([] : List (List AV)) ++ (b_0.Springs.map GSpring.cells)) false, .vec 22 1 (([] : List (List AV)) ++ (b_0.Weights.map (cF .f32))) false] func127 (sF (i_impl_copyMesh b_0.Mesh hp0 hp1 hp2 hp5) <| sC (show ([] : List (List AV)).length + (b_0.Springs.map GSpring.cells).length ≤ 1073741824 from (by simpa using y0)) <| sC (show (b_0.Springs.map GSpring.cells).all (fun cs => cs.length == 4 && cs.all isS) = true from (src_ok (fun _ => rfl))) <| sC (show ([] : List (List AV)).length + (b_0.Weights.map (cF .f32)).length ≤ 1073741824 from (by simpa using y1)) <| sC (show (b_0.Weights.map (cF .f32)).all (fun cs => cs.length == 1 && cs.all isS) = true from (src_ok (fun _ => rfl))) <| sK [2, 3, 4, 5] sN) rfl (by kernel_rfl) (by kernel_rfl) rfl ?_ ?_
 · rfl
 · simp [v_impl_copyBody, GSpring.cells, cF]

@[simp] theorem eq_copyBody (b : GBody) : v_impl_copyBody b = b := by simp [v_impl_copyBody]

theorem i_impl_copyBody (b_0 : GBody) (hp0 : b_0.Mesh.Places.length ≤ 1073741824) (hp1 : b_0.Mesh.Triangles.length ≤ 1073741824) (hp2 : ∀ t ∈ b_0.Mesh.Triangles, t.length ≤ 1073741824) (hp3 : b_0.Springs.length ≤ 1073741824) (hp4 : b_0.Weights.length ≤ 1073741824) (hp5 : OkTris b_0.Mesh.Places.length b_0.Mesh.Triangles) : Fn prog 127 [.agg [.sl (b_0.Mesh.Places.map GVector.cells), .sl (b_0.Mesh.Triangles.map (cL (cI .i64))), .sl (b_0.Springs.map GSpring.cells), .f .f32 b_0.Film, .f .f32 b_0.Bend, .sl (b_0.Weights.map (cF .f32)), .f .f32 b_0.Fall.X, .f .f32 b_0.Fall.Y, .f .f32 b_0.Fall.Z]] (.agg [.own 0, .own 1, .own 2, .f .f32 b_0.Film, .f .f32 b_0.Bend, .own 3, .f .f32 b_0.Fall.X, .f .f32 b_0.Fall.Y, .f .f32 b_0.Fall.Z]) [.vec 44 3 (b_0.Mesh.Places.map GVector.cells) false, .nest 52 (b_0.Mesh.Triangles.map fun l => l.map (cI .i64)) false, .vec 105 4 (b_0.Springs.map GSpring.cells) false, .vec 22 1 (b_0.Weights.map (cF .f32)) false] := by
 simpa only [eq_copyBody] using t_impl_copyBody  b_0 hp0 hp1 hp2 hp3 hp4 hp5

def v_impl_ScaleVector (v_0 : GVector) (by_1 : Nat) : GVector := (⟨(fop .mul .f32 v_0.X by_1), (fop .mul .f32 v_0.Y by_1), (fop .mul .f32 v_0.Z by_1)⟩ : GVector)

theorem t_impl_ScaleVector (v_0 : GVector) (by_1 : Nat)   : Fn prog 122 [.agg [.f .f32 v_0.X, .f .f32 v_0.Y, .f .f32 v_0.Z], .f .f32 by_1] (.agg [.f .f32 ((v_impl_ScaleVector v_0 by_1).X), .f .f32 ((v_impl_ScaleVector v_0 by_1).Y), .f .f32 ((v_impl_ScaleVector v_0 by_1).Z)]) [] := by
 refine fnS E0Ok hMixed (c := bodyOf f122) [] (.agg [.f .f32 (fop .mul .f32 v_0.X by_1), .f .f32 (fop .mul .f32 v_0.Y by_1), .f .f32 (fop .mul .f32 v_0.Z by_1)]) [] func122 (sK [] sN) rfl (by kernel_rfl) (by kernel_rfl) rfl ?_ ?_
 · rfl
 · rfl

def v_impl_AddVectors (a_0 : GVector) (b_1 : GVector) : GVector := (⟨(fop .add .f32 a_0.X b_1.X), (fop .add .f32 a_0.Y b_1.Y), (fop .add .f32 a_0.Z b_1.Z)⟩ : GVector)

theorem t_impl_AddVectors (a_0 : GVector) (b_1 : GVector)   : Fn prog 121 [.agg [.f .f32 a_0.X, .f .f32 a_0.Y, .f .f32 a_0.Z], .agg [.f .f32 b_1.X, .f .f32 b_1.Y, .f .f32 b_1.Z]] (.agg [.f .f32 ((v_impl_AddVectors a_0 b_1).X), .f .f32 ((v_impl_AddVectors a_0 b_1).Y), .f .f32 ((v_impl_AddVectors a_0 b_1).Z)]) [] := by
 refine fnS E0Ok hMixed (c := bodyOf f121) [] (.agg [.f .f32 (fop .add .f32 a_0.X b_1.X), .f .f32 (fop .add .f32 a_0.Y b_1.Y), .f .f32 (fop .add .f32 a_0.Z b_1.Z)]) [] func121 (sK [] sN) rfl (by kernel_rfl) (by kernel_rfl) rfl ?_ ?_
 · rfl
 · rfl

def lo_impl_moved_1 (b_0 : GBody) (by_1 : (List GVector)) (share_2 : Nat) : Nat → Int → (List GVector) → (List GVector)
  | 0, _, _ => default
  | k + 1, x_l0, r2_l1 => (cond (decide (x_l0 < (by_1.length : Int)))
    (lo_impl_moved_1 b_0 by_1 share_2 k (x_l0 + 1) (r2_l1.set x_l0.toNat (v_impl_AddVectors (r2_l1.getD x_l0.toNat default) (v_impl_ScaleVector (by_1.getD x_l0.toNat default) share_2))))
    r2_l1)

def ls_impl_moved_1 (b_0 : GBody) (by_1 : (List GVector)) (share_2 : Nat) (r : (List GVector)) : Ex × St := ((.exit 0), ⟨[.agg [.sl (b_0.Mesh.Places.map GVector.cells), .sl (b_0.Mesh.Triangles.map (cL (cI .i64))), .sl (b_0.Springs.map GSpring.cells), .f .f32 b_0.Film, .f .f32 b_0.Bend, .sl (b_0.Weights.map (cF .f32)), .f .f32 b_0.Fall.X, .f .f32 b_0.Fall.Y, .f .f32 b_0.Fall.Z], .sl (by_1.map GVector.cells), .any, .ptr 0 0 0, .any, .any, .ptr 1 0 0, .ptr 2 0 0, .any, .any, .agg [.sl (b_0.Mesh.Places.map GVector.cells), .sl (b_0.Mesh.Triangles.map (cL (cI .i64))), .sl (b_0.Springs.map GSpring.cells), .f .f32 b_0.Film, .f .f32 b_0.Bend, .sl (b_0.Weights.map (cF .f32)), .f .f32 b_0.Fall.X, .f .f32 b_0.Fall.Y, .f .f32 b_0.Fall.Z], .agg [.own 3, .own 4, .own 5, .f .f32 b_0.Film, .f .f32 b_0.Bend, .own 6, .f .f32 b_0.Fall.X, .f .f32 b_0.Fall.Y, .f .f32 b_0.Fall.Z], .sl (by_1.map GVector.cells), .any, .any, .any, .any, .any, .any, .any, .any, .any, .any, .any, .any, .any, .any, .any, .any, .any, .any, .any, .any, .any, .any, .any], [.box 46 [.sl (b_0.Mesh.Places.map GVector.cells), .sl (b_0.Mesh.Triangles.map (cL (cI .i64))), .sl (b_0.Springs.map GSpring.cells), .f .f32 b_0.Film, .f .f32 b_0.Bend, .sl (b_0.Weights.map (cF .f32)), .f .f32 b_0.Fall.X, .f .f32 b_0.Fall.Y, .f .f32 b_0.Fall.Z], .box 46 [.nils, .nils, .nils, .f .f32 0, .f .f32 0, .nils, .f .f32 0, .f .f32 0, .f .f32 0], .box 46 [.own 3, .own 4, .own 5, .f .f32 b_0.Film, .f .f32 b_0.Bend, .own 6, .f .f32 b_0.Fall.X, .f .f32 b_0.Fall.Y, .f .f32 b_0.Fall.Z], .vec 44 3 (r.map GVector.cells) false, .nest 52 (b_0.Mesh.Triangles.map fun l => l.map (cI .i64)) false, .vec 105 4 (b_0.Springs.map GSpring.cells) false, .vec 22 1 (b_0.Weights.map (cF .f32)) false]⟩)

def hd_impl_moved_1 (b_0 : GBody) (by_1 : (List GVector)) (share_2 : Nat) (x_l0 : Int) (r2_l1 : (List GVector)) : St := ⟨[.agg [.sl (b_0.Mesh.Places.map GVector.cells), .sl (b_0.Mesh.Triangles.map (cL (cI .i64))), .sl (b_0.Springs.map GSpring.cells), .f .f32 b_0.Film, .f .f32 b_0.Bend, .sl (b_0.Weights.map (cF .f32)), .f .f32 b_0.Fall.X, .f .f32 b_0.Fall.Y, .f .f32 b_0.Fall.Z], .sl (by_1.map GVector.cells), .f .f32 share_2, .ptr 0 0 0, .any, .any, .ptr 1 0 0, .ptr 6 0 0, .any, .any, .agg [.sl (b_0.Mesh.Places.map GVector.cells), .sl (b_0.Mesh.Triangles.map (cL (cI .i64))), .sl (b_0.Springs.map GSpring.cells), .f .f32 b_0.Film, .f .f32 b_0.Bend, .sl (b_0.Weights.map (cF .f32)), .f .f32 b_0.Fall.X, .f .f32 b_0.Fall.Y, .f .f32 b_0.Fall.Z], .agg [.own 2, .own 3, .own 4, .f .f32 b_0.Film, .f .f32 b_0.Bend, .own 5, .f .f32 b_0.Fall.X, .f .f32 b_0.Fall.Y, .f .f32 b_0.Fall.Z], .sl (by_1.map GVector.cells), .i .i64 (by_1.length : Int), .i .i64 x_l0, .any, .any, .any, .any, .any, .any, .any, .any, .any, .any, .any, .any, .any, .any, .any, .any, .any, .any, .any, .any, .any], [.box 46 [.sl (b_0.Mesh.Places.map GVector.cells), .sl (b_0.Mesh.Triangles.map (cL (cI .i64))), .sl (b_0.Springs.map GSpring.cells), .f .f32 b_0.Film, .f .f32 b_0.Bend, .sl (b_0.Weights.map (cF .f32)), .f .f32 b_0.Fall.X, .f .f32 b_0.Fall.Y, .f .f32 b_0.Fall.Z], .box 46 [.nils, .nils, .nils, .f .f32 0, .f .f32 0, .nils, .f .f32 0, .f .f32 0, .f .f32 0], .vec 44 3 (r2_l1.map GVector.cells) false, .nest 52 (b_0.Mesh.Triangles.map fun l => l.map (cI .i64)) false, .vec 105 4 (b_0.Springs.map GSpring.cells) false, .vec 22 1 (b_0.Weights.map (cF .f32)) false, .box 46 [.own 2, .own 3, .own 4, .f .f32 b_0.Film, .f .f32 b_0.Bend, .own 5, .f .f32 b_0.Fall.X, .f .f32 b_0.Fall.Y, .f .f32 b_0.Fall.Z]]⟩

def mk_impl_moved_1_0 : List Bool := [true, true, true, true, false, false, true, true, false, false, true, true, true, true, true, false, false, false, false, false, false, false, false, false, false, false, false, false, false, false, false, false, false, false, false, false]

def mk_impl_moved_1_1 : List Bool := [true, true, false, true, false, false, true, true, false, false, true, true, true, false, false, false, false, false, false, false, false, false, false, false, false, false, false, false, false, false, false, false, false, false, false, false]

theorem lp_impl_moved_1 (b_0 : GBody) (by_1 : (List GVector)) (share_2 : Nat) (hp0 : b_0.Mesh.Places.length ≤ 1073741824) (hp1 : b_0.Mesh.Triangles.length ≤ 1073741824) (hp2 : ∀ t ∈ b_0.Mesh.Triangles, t.length ≤ 1073741824) (hp3 : b_0.Springs.length ≤ 1073741824) (hp4 : b_0.Weights.length ≤ 1073741824) (hp5 : by_1.length ≤ 1073741824) (hp6 : OkTris b_0.Mesh.Places.length b_0.Mesh.Triangles) (hp7 : by_1.length ≤ b_0.Mesh.Places.length) : ∀ (k : Nat) (x_l0 : Int) (r2_l1 : (List GVector)) (hv_impl_moved_1_0 : 0 ≤ x_l0) (hv_impl_moved_1_1 : r2_l1.length = b_0.Mesh.Places.length) (hk : ((by_1.length : Int) - x_l0).toNat < k), Lp prog 0 (sub (bodyOf f129) [1, 1, 0, 1, 0, 0]) (hd_impl_moved_1 b_0 by_1 share_2 x_l0 r2_l1) (ls_impl_moved_1 b_0 by_1 share_2 (lo_impl_moved_1 b_0 by_1 share_2 k x_l0 r2_l1)).1 (ls_impl_moved_1 b_0 by_1 share_2 (lo_impl_moved_1 b_0 by_1 share_2 k x_l0 r2_l1)).2 := by
 intro k
 induction k with
 | zero => intro x_l0 r2_l1 hv_impl_moved_1_0 hv_impl_moved_1_1 hk; exact absurd hk (Nat.not_lt_zero _)
 | succ k ih =>
  intro x_l0 r2_l1 hv_impl_moved_1_0 hv_impl_moved_1_1 hk
  cases h_0 : (decide (x_l0 < (by_1.length : Int))) with
  | true =>
   have gh_0 := of_decide_eq_true h_0
   have y_0 : (0 : Int) ≤ x_l0 := (by first | assumption | omega | (simp_all <;> omega))
   have y_1 : x_l0 < (by_1.length : Int) := (by first | assumption | omega | (simp_all <;> omega))
   have y_2 : x_l0 < (r2_l1.length : Int) := (by first | assumption | omega | (simp_all <;> omega))
   have y_3 : x_l0.toNat < r2_l1.length := (by first | assumption | omega | (simp_all <;> omega))
   have y_4 : (-9223372036854775808 : Int) ≤ (x_l0 + 1) := (by first | assumption | omega | (simp_all <;> omega))
   have y_5 : (x_l0 + 1) ≤ (9223372036854775807 : Int) := (by first | assumption | omega | (simp_all <;> omega))
   have e : lo_impl_moved_1 b_0 by_1 share_2 (k + 1) x_l0 r2_l1 = (lo_impl_moved_1 b_0 by_1 share_2 k (x_l0 + 1) (r2_l1.set x_l0.toNat (v_impl_AddVectors (r2_l1.getD x_l0.toNat default) (v_impl_ScaleVector (by_1.getD x_l0.toNat default) share_2)))) := by simp only [lo_impl_moved_1, h_0, cond_true]
   rw [e]
   exact nextS E0Ok hMixed [] mk_impl_moved_1_0 [0, 1, 2, 3, 4, 5, 6] (⟨[.agg [.sl (b_0.Mesh.Places.map GVector.cells), .sl (b_0.Mesh.Triangles.map (cL (cI .i64))), .sl (b_0.Springs.map GSpring.cells), .f .f32 b_0.Film, .f .f32 b_0.Bend, .sl (b_0.Weights.map (cF .f32)), .f .f32 b_0.Fall.X, .f .f32 b_0.Fall.Y, .f .f32 b_0.Fall.Z], .sl (by_1.map GVector.cells), .f .f32 share_2, .ptr 0 0 0, .any, .any, .ptr 1 0 0, .ptr 6 0 0, .any, .any, .agg [.sl (b_0.Mesh.Places.map GVector.cells), .sl (b_0.Mesh.Triangles.map (cL (cI .i64))), .sl (b_0.Springs.map GSpring.cells), .f .f32 b_0.Film, .f .f32 b_0.Bend, .sl (b_0.Weights.map (cF .f32)), .f .f32 b_0.Fall.X, .f .f32 b_0.Fall.Y, .f .f32 b_0.Fall.Z], .agg [.own 2, .own 3, .own 4, .f .f32 b_0.Film, .f .f32 b_0.Bend, .own 5, .f .f32 b_0.Fall.X, .f .f32 b_0.Fall.Y, .f .f32 b_0.Fall.Z], .sl (by_1.map GVector.cells), .i .i64 (by_1.length : Int), .i .i64 (x_l0 + 1), .any, .any, .any, .any, .any, .any, .any, .any, .any, .any, .any, .any, .any, .any, .any, .any, .any, .any, .any, .any, .any], [.box 46 [.sl (b_0.Mesh.Places.map GVector.cells), .sl (b_0.Mesh.Triangles.map (cL (cI .i64))), .sl (b_0.Springs.map GSpring.cells), .f .f32 b_0.Film, .f .f32 b_0.Bend, .sl (b_0.Weights.map (cF .f32)), .f .f32 b_0.Fall.X, .f .f32 b_0.Fall.Y, .f .f32 b_0.Fall.Z], .box 46 [.nils, .nils, .nils, .f .f32 0, .f .f32 0, .nils, .f .f32 0, .f .f32 0, .f .f32 0], .vec 44 3 ((r2_l1.map GVector.cells).set x_l0.toNat [.f .f32 ((v_impl_AddVectors (r2_l1.getD x_l0.toNat default) (v_impl_ScaleVector (by_1.getD x_l0.toNat default) share_2)).X), .f .f32 ((v_impl_AddVectors (r2_l1.getD x_l0.toNat default) (v_impl_ScaleVector (by_1.getD x_l0.toNat default) share_2)).Y), .f .f32 ((v_impl_AddVectors (r2_l1.getD x_l0.toNat default) (v_impl_ScaleVector (by_1.getD x_l0.toNat default) share_2)).Z)]) false, .nest 52 (b_0.Mesh.Triangles.map fun l => l.map (cI .i64)) false, .vec 105 4 (b_0.Springs.map GSpring.cells) false, .vec 22 1 (b_0.Weights.map (cF .f32)) false, .box 46 [.own 2, .own 3, .own 4, .f .f32 b_0.Film, .f .f32 b_0.Bend, .own 5, .f .f32 b_0.Fall.X, .f .f32 b_0.Fall.Y, .f .f32 b_0.Fall.Z]]⟩) (sB h_0 <| sG GVector.cells by_1 x_l0 y_0 y_1 <| sK [14, 14] <| sX GVector.cells r2_l1 x_l0 y_0 y_2 <| sV GVector.cells r2_l1 x_l0.toNat y_3 <| sF (t_impl_ScaleVector (by_1.getD x_l0.toNat default) share_2) <| sF (t_impl_AddVectors (r2_l1.getD x_l0.toNat default) (v_impl_ScaleVector (by_1.getD x_l0.toNat default) share_2)) <| sX GVector.cells r2_l1 x_l0 y_0 y_2 <| sC (maplt (c := GVector.cells) (l := r2_l1) y_3) <| sI (x_l0 + 1) y_4 y_5 <| sN) (by kernel_rfl) (show _ = ⟨[.agg [.sl (b_0.Mesh.Places.map GVector.cells), .sl (b_0.Mesh.Triangles.map (cL (cI .i64))), .sl (b_0.Springs.map GSpring.cells), .f .f32 b_0.Film, .f .f32 b_0.Bend, .sl (b_0.Weights.map (cF .f32)), .f .f32 b_0.Fall.X, .f .f32 b_0.Fall.Y, .f .f32 b_0.Fall.Z], .sl (by_1.map GVector.cells), .f .f32 share_2, .ptr 0 0 0, .any, .any, .ptr 1 0 0, .ptr 6 0 0, .any, .any, .agg [.sl (b_0.Mesh.Places.map GVector.cells), .sl (b_0.Mesh.Triangles.map (cL (cI .i64))), .sl (b_0.Springs.map GSpring.cells), .f .f32 b_0.Film, .f .f32 b_0.Bend, .sl (b_0.Weights.map (cF .f32)), .f .f32 b_0.Fall.X, .f .f32 b_0.Fall.Y, .f .f32 b_0.Fall.Z], .agg [.own 2, .own 3, .own 4, .f .f32 b_0.Film, .f .f32 b_0.Bend, .own 5, .f .f32 b_0.Fall.X, .f .f32 b_0.Fall.Y, .f .f32 b_0.Fall.Z], .sl (by_1.map GVector.cells), .i .i64 (by_1.length : Int), .i .i64 (x_l0 + 1), .any, .any, .any, .any, .any, .any, .any, .any, .any, .any, .any, .any, .any, .any, .any, .any, .any, .any, .any, .any, .any], [.box 46 [.sl (b_0.Mesh.Places.map GVector.cells), .sl (b_0.Mesh.Triangles.map (cL (cI .i64))), .sl (b_0.Springs.map GSpring.cells), .f .f32 b_0.Film, .f .f32 b_0.Bend, .sl (b_0.Weights.map (cF .f32)), .f .f32 b_0.Fall.X, .f .f32 b_0.Fall.Y, .f .f32 b_0.Fall.Z], .box 46 [.nils, .nils, .nils, .f .f32 0, .f .f32 0, .nils, .f .f32 0, .f .f32 0, .f .f32 0], .vec 44 3 ((r2_l1.set x_l0.toNat (v_impl_AddVectors (r2_l1.getD x_l0.toNat default) (v_impl_ScaleVector (by_1.getD x_l0.toNat default) share_2))).map GVector.cells) false, .nest 52 (b_0.Mesh.Triangles.map fun l => l.map (cI .i64)) false, .vec 105 4 (b_0.Springs.map GSpring.cells) false, .vec 22 1 (b_0.Weights.map (cF .f32)) false, .box 46 [.own 2, .own 3, .own 4, .f .f32 b_0.Film, .f .f32 b_0.Bend, .own 5, .f .f32 b_0.Fall.X, .f .f32 b_0.Fall.Y, .f .f32 b_0.Fall.Z]]⟩ from (by simp [List.map_set, GVector.cells])) (ih (x_l0 + 1) (r2_l1.set x_l0.toNat (v_impl_AddVectors (r2_l1.getD x_l0.toNat default) (v_impl_ScaleVector (by_1.getD x_l0.toNat default) share_2))) (show 0 ≤ (x_l0 + 1) from (by first | assumption | omega | (simp_all <;> omega))) (show (r2_l1.set x_l0.toNat (v_impl_AddVectors (r2_l1.getD x_l0.toNat default) (v_impl_ScaleVector (by_1.getD x_l0.toNat default) share_2))).length = b_0.Mesh.Places.length from (by first | assumption | omega | (simp_all <;> omega))) (by first | assumption | omega | (simp_all <;> omega)))
  | false =>
   have gh_0 := of_decide_eq_false h_0
   have e : lo_impl_moved_1 b_0 by_1 share_2 (k + 1) x_l0 r2_l1 = r2_l1 := by simp only [lo_impl_moved_1, h_0, cond_false]
   rw [e]
   exact outR (e := (.exit 0)) E0Ok hMixed [] mk_impl_moved_1_1 [0, 1, 6, 2, 3, 4, 5] (sB h_0 <| sN) (by kernel_rfl) (by intro h; cases h)

end Go.Ab
