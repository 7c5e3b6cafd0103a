/- The functions of this seat as plain Lean, and that the program's are these. Printed by a program of the prover's own. -/
import Derived.Test.YtiiijolkhbnblaaB6
set_option linter.unusedVariables false
set_option linter.unusedSimpArgs false
set_option maxRecDepth 100000
namespace Go.Ab
open Go.RowKit Go.Proofs.Try

def lo_laws_heldInt64SS_1 (a_0 : (List (List Int))) (k_1 : Int) : Nat → Int → Int → (Unit) ⊕ (Int)
  | 0, _, _ => .inl default
  | k + 1, k_l0, i_l1 => (cond (decide (i_l1 < (a_0.length : Int)))
    (cond (decide ((v_laws_heldInt64S (a_0.getD i_l1.toNat default) k_l0) < 0))
      (.inl ())
      (lo_laws_heldInt64SS_1 a_0 k_1 k (v_laws_heldInt64S (a_0.getD i_l1.toNat default) k_l0) (i_l1 + 1)))
    (.inr k_l0))

def ls_laws_heldInt64SS_1 (a_0 : (List (List Int))) (k_1 : Int) : (Unit) ⊕ (Int) → Ex × St
  | .inl r => (.ret, ⟨[.any, .any, .any, .any, .i .i64 (-1), .any, .any, .any, .any, .any, .any, .any, .any, .any, .any, .any, .any, .any, .any, .any, .any], []⟩)
  | .inr r => ((.exit 0), ⟨[.any, .i .i64 r, .any, .any, .any, .any, .any, .any, .any, .any, .any, .any, .any, .any, .any, .any, .any, .any, .any, .any, .any], []⟩)

def hd_laws_heldInt64SS_1 (a_0 : (List (List Int))) (k_1 : Int) (k_l0 : Int) (i_l1 : Int) : St := ⟨[.sl (a_0.map (cL (cI .i64))), .i .i64 k_l0, .any, .any, .any, .i .i64 i_l1, .any, .any, .any, .any, .any, .any, .any, .any, .any, .any, .any, .any, .any, .any, .any], []⟩

def mk_laws_heldInt64SS_1_0 : List Bool := [true, true, false, false, false, true, false, false, false, false, false, false, false, false, false, false, false, false, false, false, false]

def mk_laws_heldInt64SS_1_1 : List Bool := [false, false, false, false, true, false, false, false, false, false, false, false, false, false, false, false, false, false, false, false, false]

def mk_laws_heldInt64SS_1_2 : List Bool := [false, true, false, false, false, false, false, false, false, false, false, false, false, false, false, false, false, false, false, false, false]

theorem lp_laws_heldInt64SS_1 (a_0 : (List (List Int))) (k_1 : Int) (hp0 : a_0.length ≤ 1073741824) (hp1 : ∀ t ∈ a_0, t.length ≤ 1073741824) : ∀ (k : Nat) (k_l0 : Int) (i_l1 : Int) (hv_laws_heldInt64SS_1_0 : 0 ≤ i_l1) (hk : ((a_0.length : Int) - i_l1).toNat < k), Lp prog 0 (sub (bodyOf f63) [1, 0, 1, 0, 0]) (hd_laws_heldInt64SS_1 a_0 k_1 k_l0 i_l1) (ls_laws_heldInt64SS_1 a_0 k_1 (lo_laws_heldInt64SS_1 a_0 k_1 k k_l0 i_l1)).1 (ls_laws_heldInt64SS_1 a_0 k_1 (lo_laws_heldInt64SS_1 a_0 k_1 k k_l0 i_l1)).2 := by
 intro k
 induction k with
 | zero => intro k_l0 i_l1 hv_laws_heldInt64SS_1_0 hk; exact absurd hk (Nat.not_lt_zero _)
 | succ k ih =>
  intro k_l0 i_l1 hv_laws_heldInt64SS_1_0 hk
  have p {a C} (s : Scr a C) := sZ (cL (cI .i64)) a_0 <| s
  cases h_0 : (decide (i_l1 < (a_0.length : Int))) with
  | true =>
   have gh_0 := of_decide_eq_true h_0
   have y_0 : (0 : Int) ≤ i_l1 := by clear p; exact (by first | assumption | omega | (simp_all <;> omega))
   have y_1 : i_l1 < (a_0.length : Int) := by clear p; exact (by first | assumption | omega | (simp_all <;> omega))
   have y_2 : (a_0.getD i_l1.toNat default).length ≤ 1073741824 := by clear p; exact (by first | assumption | omega | (simp_all <;> omega))
   have q {a C} (s : Scr a C) := p (sB h_0 <| sG (cL (cI .i64)) a_0 i_l1 y_0 y_1 <| sF (t_laws_heldInt64S (a_0.getD i_l1.toNat default) k_l0 y_2) <| s)
   clear p
   cases h_1 : (decide ((v_laws_heldInt64S (a_0.getD i_l1.toNat default) k_l0) < 0)) with
   | true =>
    have gh_1 := of_decide_eq_true h_1
    have e : lo_laws_heldInt64SS_1 a_0 k_1 (k + 1) k_l0 i_l1 = (.inl ()) := by simp only [lo_laws_heldInt64SS_1, h_0, h_1, cond_true]
    rw [e]
    exact outR (e := .ret) E0Ok hMixed [] mk_laws_heldInt64SS_1_1 [] (q (sB h_1 <| sN)) (by kernel_rfl) (by intro h; cases h)
   | false =>
    have gh_1 := of_decide_eq_false h_1
    have y_3 : (-9223372036854775808 : Int) ≤ (i_l1 + 1) := by clear q; exact (by first | assumption | omega | (simp_all <;> omega))
    have y_4 : (i_l1 + 1) ≤ (9223372036854775807 : Int) := by clear q; exact (by first | assumption | omega | (simp_all <;> omega))
    have e : lo_laws_heldInt64SS_1 a_0 k_1 (k + 1) k_l0 i_l1 = (lo_laws_heldInt64SS_1 a_0 k_1 k (v_laws_heldInt64S (a_0.getD i_l1.toNat default) k_l0) (i_l1 + 1)) := by simp only [lo_laws_heldInt64SS_1, h_0, h_1, cond_true, cond_false]
    rw [e]
    exact nextR E0Ok hMixed [] mk_laws_heldInt64SS_1_0 [] (ih (v_laws_heldInt64S (a_0.getD i_l1.toNat default) k_l0) (i_l1 + 1) (show 0 ≤ (i_l1 + 1) from (by first | assumption | omega | (simp_all <;> omega))) (by first | assumption | omega | (simp_all <;> omega))) (q (sB h_1 <| sI (i_l1 + 1) y_3 y_4 <| sN)) (by kernel_rfl)
  | false =>
   have gh_0 := of_decide_eq_false h_0
   have e : lo_laws_heldInt64SS_1 a_0 k_1 (k + 1) k_l0 i_l1 = (.inr k_l0) := by simp only [lo_laws_heldInt64SS_1, h_0, cond_false]
   rw [e]
   exact outR (e := (.exit 0)) E0Ok hMixed [] mk_laws_heldInt64SS_1_2 [] (p (sB h_0 <| sN)) (by kernel_rfl) (by intro h; cases h)

def lr_laws_heldInt64SS_1_0 (a_0 : (List (List Int))) (k_1 : Int) : (Unit) ⊕ (Int) := (lo_laws_heldInt64SS_1 a_0 k_1 (((a_0.length : Int) - 0).toNat + 1) k_1 0)

def v_laws_heldInt64SS (a_0 : (List (List Int))) (k_1 : Int) : Int := (match (lr_laws_heldInt64SS_1_0 a_0 k_1) with
  | .inl r1 => (-1)
  | .inr r1 => r1)

theorem t_laws_heldInt64SS (a_0 : (List (List Int))) (k_1 : Int) (hp0 : a_0.length ≤ 1073741824) (hp1 : ∀ t ∈ a_0, t.length ≤ 1073741824)  : Fn prog 63 [.sl (a_0.map (cL (cI .i64))), .i .i64 k_1] (.i .i64 (v_laws_heldInt64SS a_0 k_1)) [] := by
 cases h0 : (lr_laws_heldInt64SS_1_0 a_0 k_1) with
 | inl r1 =>
  refine fnS E0Ok hMixed (c := bodyOf f63) [] (.i .i64 (-1)) [] func63 (sL mk_laws_heldInt64SS_1_0 0 (lp_val (ls_laws_heldInt64SS_1 a_0 k_1) (x := (lr_laws_heldInt64SS_1_0 a_0 k_1)) (lp_laws_heldInt64SS_1 a_0 k_1 hp0 hp1 (((a_0.length : Int) - 0).toNat + 1) k_1 0 (show 0 ≤ 0 from (by first | assumption | omega | (simp_all <;> omega))) (Nat.lt_succ_self _)) h0) <| sK [] sN) rfl (by kernel_rfl) (by kernel_rfl) rfl ?_ ?_
  · simp only [v_laws_heldInt64SS, h0]
  · rfl
 | inr r1 =>
  refine fnS E0Ok hMixed (c := bodyOf f63) [] (.i .i64 r1) [] func63 (sL mk_laws_heldInt64SS_1_0 0 (lp_val (ls_laws_heldInt64SS_1 a_0 k_1) (x := (lr_laws_heldInt64SS_1_0 a_0 k_1)) (lp_laws_heldInt64SS_1 a_0 k_1 hp0 hp1 (((a_0.length : Int) - 0).toNat + 1) k_1 0 (show 0 ≤ 0 from (by first | assumption | omega | (simp_all <;> omega))) (Nat.lt_succ_self _)) h0) <| sK [] sN) rfl (by kernel_rfl) (by kernel_rfl) rfl ?_ ?_
  · simp only [v_laws_heldInt64SS, h0]
  · rfl

theorem hdeq_Int64SS (a : List (List Int)) (c : Int) : v_laws_heldInt64SS a c = match hdL (fun x c => !(decide (v_laws_heldInt64S x c < 0))) v_laws_heldInt64S a c with
    | some c' => c'
    | none => -1 := by
  unfold v_laws_heldInt64SS lr_laws_heldInt64SS_1_0
  rw [held_loop (p := fun x c => !(decide (v_laws_heldInt64S x c < 0))) (q := v_laws_heldInt64S) (a := a) (x := ()) (lo := lo_laws_heldInt64SS_1 a c) (fun k c i => by
    rw [lo_laws_heldInt64SS_1]
    cases decide (i < (a.length : Int)) <;> cases decide (v_laws_heldInt64S (a.getD i.toNat default) c < 0) <;> rfl) _ _ _ (Int.le_refl 0) (Nat.lt_succ_self _)]
  simp only [Int.toNat_zero, List.drop_zero]
  cases hdL (fun x c => !(decide (v_laws_heldInt64S x c < 0))) v_laws_heldInt64S a c <;> rfl

def v_laws_heldMesh (a_0 : GMesh) (k_1 : Int) : Int := (cond (decide ((v_laws_heldVectorS a_0.Places k_1) < 0))
  (-1)
  (cond (decide ((v_laws_heldInt64SS a_0.Triangles (v_laws_heldVectorS a_0.Places k_1)) < 0))
    (-1)
    (v_laws_heldInt64SS a_0.Triangles (v_laws_heldVectorS a_0.Places k_1))))

theorem t_laws_heldMesh (a_0 : GMesh) (k_1 : Int) (hp0 : a_0.Places.length ≤ 1073741824) (hp1 : a_0.Triangles.length ≤ 1073741824) (hp2 : ∀ t ∈ a_0.Triangles, t.length ≤ 1073741824)  : Fn prog 49 [.agg [.sl (a_0.Places.map GVector.cells), .sl (a_0.Triangles.map (cL (cI .i64)))], .i .i64 k_1] (.i .i64 (v_laws_heldMesh a_0 k_1)) [] := by
 have p {a C} (s : Scr a C) := sF (t_laws_heldVectorS a_0.Places k_1 hp0) <| s
 cases h0 : (decide ((v_laws_heldVectorS a_0.Places k_1) < 0)) with
 | true =>
  have gh0 := of_decide_eq_true h0
  refine fnS E0Ok hMixed (c := bodyOf f49) [] (.i .i64 (-1)) [] func49 (p (sB h0 <| sK [] sN)) rfl (by kernel_rfl) (by kernel_rfl) rfl ?_ ?_
  · simp only [v_laws_heldMesh, h0, cond_true]
  · rfl
 | false =>
  have gh0 := of_decide_eq_false h0
  have q {a C} (s : Scr a C) := p (sB h0 <| sF (t_laws_heldInt64SS a_0.Triangles (v_laws_heldVectorS a_0.Places k_1) hp1 hp2) <| s)
  clear p
  cases h1 : (decide ((v_laws_heldInt64SS a_0.Triangles (v_laws_heldVectorS a_0.Places k_1)) < 0)) with
  | true =>
   have gh1 := of_decide_eq_true h1
   refine fnS E0Ok hMixed (c := bodyOf f49) [] (.i .i64 (-1)) [] func49 (q (sB h1 <| sK [] sN)) rfl (by kernel_rfl) (by kernel_rfl) rfl ?_ ?_
   · simp only [v_laws_heldMesh, h0, h1, cond_true, cond_false]
   · rfl
  | false =>
   have gh1 := of_decide_eq_false h1
   refine fnS E0Ok hMixed (c := bodyOf f49) [] (.i .i64 (v_laws_heldInt64SS a_0.Triangles (v_laws_heldVectorS a_0.Places k_1))) [] func49 (q (sB h1 <| sK [] sN)) rfl (by kernel_rfl) (by kernel_rfl) rfl ?_ ?_
   · simp only [v_laws_heldMesh, h0, h1, cond_false]
   · rfl

def lo_laws_heldSpringS_1 (a_0 : (List GSpring)) (k_1 : Int) : Nat → Int → Int → (Unit) ⊕ (Int)
  | 0, _, _ => .inl default
  | k + 1, k_l0, i_l1 => (cond (decide (i_l1 < (a_0.length : Int)))
    (cond ((a_0.getD i_l1.toNat default).A != k_l0)
      (.inl ())
      (cond ((a_0.getD i_l1.toNat default).B != (IntKind.wrap .i64 (k_l0 + 1)))
        (.inl ())
        (cond (fcmp .neq .f32 ((a_0.getD i_l1.toNat default).Long) (ofInt .f32 (IntKind.wrap .i64 ((IntKind.wrap .i64 (k_l0 + 1)) + 1))))
          (.inl ())
          (cond (fcmp .neq .f32 ((a_0.getD i_l1.toNat default).Stiff) (ofInt .f32 (IntKind.wrap .i64 ((IntKind.wrap .i64 ((IntKind.wrap .i64 (k_l0 + 1)) + 1)) + 1))))
            (.inl ())
            (lo_laws_heldSpringS_1 a_0 k_1 k (IntKind.wrap .i64 ((IntKind.wrap .i64 ((IntKind.wrap .i64 ((IntKind.wrap .i64 (k_l0 + 1)) + 1)) + 1)) + 1)) (i_l1 + 1))))))
    (.inr k_l0))

def ls_laws_heldSpringS_1 (a_0 : (List GSpring)) (k_1 : Int) : (Unit) ⊕ (Int) → Ex × St
  | .inl r => (.ret, ⟨[.any, .any, .any, .any, .i .i64 (-1), .any, .any, .any, .any, .any, .any, .any, .any, .any, .any, .any, .any, .any, .any, .any, .any, .any, .any, .any, .any, .any, .any, .any, .any, .any, .any, .any, .any, .any, .any, .any, .any, .any, .any, .any, .any, .any, .any, .any, .any, .any, .any, .any, .any, .any, .any], []⟩)
  | .inr r => ((.exit 0), ⟨[.any, .i .i64 r, .any, .any, .any, .any, .any, .any, .any, .any, .any, .any, .any, .any, .any, .any, .any, .any, .any, .any, .any, .any, .any, .any, .any, .any, .any, .any, .any, .any, .any, .any, .any, .any, .any, .any, .any, .any, .any, .any, .any, .any, .any, .any, .any, .any, .any, .any, .any, .any, .any], []⟩)

def hd_laws_heldSpringS_1 (a_0 : (List GSpring)) (k_1 : Int) (k_l0 : Int) (i_l1 : Int) : St := ⟨[.sl (a_0.map GSpring.cells), .i .i64 k_l0, .any, .any, .any, .i .i64 i_l1, .any, .any, .any, .any, .any, .any, .any, .any, .any, .any, .any, .any, .any, .any, .any, .any, .any, .any, .any, .any, .any, .any, .any, .any, .any, .any, .any, .any, .any, .any, .any, .any, .any, .any, .any, .any, .any, .any, .any, .any, .any, .any, .any, .any, .any], []⟩

def mk_laws_heldSpringS_1_0 : List Bool := [true, true, false, false, false, true, false, false, false, false, false, false, false, false, false, false, false, false, false, false, false, false, false, false, false, false, false, false, false, false, false, false, false, false, false, false, false, false, false, false, false, false, false, false, false, false, false, false, false, false, false]

def mk_laws_heldSpringS_1_1 : List Bool := [false, false, false, false, true, false, false, false, false, false, false, false, false, false, false, false, false, false, false, false, false, false, false, false, false, false, false, false, false, false, false, false, false, false, false, false, false, false, false, false, false, false, false, false, false, false, false, false, false, false, false]

def mk_laws_heldSpringS_1_2 : List Bool := [false, true, false, false, false, false, false, false, false, false, false, false, false, false, false, false, false, false, false, false, false, false, false, false, false, false, false, false, false, false, false, false, false, false, false, false, false, false, false, false, false, false, false, false, false, false, false, false, false, false, false]

theorem lp_laws_heldSpringS_1 (a_0 : (List GSpring)) (k_1 : Int) (hp0 : a_0.length ≤ 1073741824) : ∀ (k : Nat) (k_l0 : Int) (i_l1 : Int) (hv_laws_heldSpringS_1_0 : 0 ≤ i_l1) (hk : ((a_0.length : Int) - i_l1).toNat < k), Lp prog 0 (sub (bodyOf f103) [1, 0, 1, 0, 0]) (hd_laws_heldSpringS_1 a_0 k_1 k_l0 i_l1) (ls_laws_heldSpringS_1 a_0 k_1 (lo_laws_heldSpringS_1 a_0 k_1 k k_l0 i_l1)).1 (ls_laws_heldSpringS_1 a_0 k_1 (lo_laws_heldSpringS_1 a_0 k_1 k k_l0 i_l1)).2 := by
 intro k
 induction k with
 | zero => intro k_l0 i_l1 hv_laws_heldSpringS_1_0 hk; exact absurd hk (Nat.not_lt_zero _)
 | succ k ih =>
  intro k_l0 i_l1 hv_laws_heldSpringS_1_0 hk
  have p {a C} (s : Scr a C) := sZ GSpring.cells a_0 <| s
  cases h_0 : (decide (i_l1 < (a_0.length : Int))) with
  | true =>
   have gh_0 := of_decide_eq_true h_0
   have y_0 : (0 : Int) ≤ i_l1 := by clear p; exact (by first | assumption | omega | (simp_all <;> omega))
   have y_1 : i_l1 < (a_0.length : Int) := by clear p; exact (by first | assumption | omega | (simp_all <;> omega))
   have q {a C} (s : Scr a C) := p (sB h_0 <| sG GSpring.cells a_0 i_l1 y_0 y_1 <| s)
   clear p
   cases h_1 : ((a_0.getD i_l1.toNat default).A != k_l0) with
   | true =>
    have gh_1 := bne_iff_ne.1 h_1
    have e : lo_laws_heldSpringS_1 a_0 k_1 (k + 1) k_l0 i_l1 = (.inl ()) := by simp only [lo_laws_heldSpringS_1, h_0, h_1, cond_true]
    rw [e]
    exact outR (e := .ret) E0Ok hMixed [] mk_laws_heldSpringS_1_1 [] (q (sB h_1 <| sN)) (by kernel_rfl) (by intro h; cases h)
   | false =>
    have gh_1 := bne_eq_false_iff_eq.1 h_1
    have p {a C} (s : Scr a C) := q (sB h_1 <| sW .i64 (k_l0 + 1) <| sG GSpring.cells a_0 i_l1 y_0 y_1 <| s)
    clear q
    cases h_2 : ((a_0.getD i_l1.toNat default).B != (IntKind.wrap .i64 (k_l0 + 1))) with
    | true =>
     have gh_2 := bne_iff_ne.1 h_2
     have e : lo_laws_heldSpringS_1 a_0 k_1 (k + 1) k_l0 i_l1 = (.inl ()) := by simp only [lo_laws_heldSpringS_1, h_0, h_1, h_2, cond_true, cond_false]
     rw [e]
     exact outR (e := .ret) E0Ok hMixed [] mk_laws_heldSpringS_1_1 [] (p (sB h_2 <| sN)) (by kernel_rfl) (by intro h; cases h)
    | false =>
     have gh_2 := bne_eq_false_iff_eq.1 h_2
     have q {a C} (s : Scr a C) := p (sB h_2 <| sW .i64 ((IntKind.wrap .i64 (k_l0 + 1)) + 1) <| sG GSpring.cells a_0 i_l1 y_0 y_1 <| s)
     clear p
     cases h_3 : (fcmp .neq .f32 ((a_0.getD i_l1.toNat default).Long) (ofInt .f32 (IntKind.wrap .i64 ((IntKind.wrap .i64 (k_l0 + 1)) + 1)))) with
     | true =>
      have e : lo_laws_heldSpringS_1 a_0 k_1 (k + 1) k_l0 i_l1 = (.inl ()) := by simp only [lo_laws_heldSpringS_1, h_0, h_1, h_2, h_3, cond_true, cond_false]
      rw [e]
      exact outR (e := .ret) E0Ok hMixed [] mk_laws_heldSpringS_1_1 [] (q (sB h_3 <| sN)) (by kernel_rfl) (by intro h; cases h)
     | false =>
      have p {a C} (s : Scr a C) := q (sB h_3 <| sW .i64 ((IntKind.wrap .i64 ((IntKind.wrap .i64 (k_l0 + 1)) + 1)) + 1) <| sG GSpring.cells a_0 i_l1 y_0 y_1 <| s)
      clear q
      cases h_4 : (fcmp .neq .f32 ((a_0.getD i_l1.toNat default).Stiff) (ofInt .f32 (IntKind.wrap .i64 ((IntKind.wrap .i64 ((IntKind.wrap .i64 (k_l0 + 1)) + 1)) + 1)))) with
      | true =>
       have e : lo_laws_heldSpringS_1 a_0 k_1 (k + 1) k_l0 i_l1 = (.inl ()) := by simp only [lo_laws_heldSpringS_1, h_0, h_1, h_2, h_3, h_4, cond_true, cond_false]
       rw [e]
       exact outR (e := .ret) E0Ok hMixed [] mk_laws_heldSpringS_1_1 [] (p (sB h_4 <| sN)) (by kernel_rfl) (by intro h; cases h)
      | false =>
       have y_2 : (-9223372036854775808 : Int) ≤ (i_l1 + 1) := by clear p; exact (by first | assumption | omega | (simp_all <;> omega))
       have y_3 : (i_l1 + 1) ≤ (9223372036854775807 : Int) := by clear p; exact (by first | assumption | omega | (simp_all <;> omega))
       have e : lo_laws_heldSpringS_1 a_0 k_1 (k + 1) k_l0 i_l1 = (lo_laws_heldSpringS_1 a_0 k_1 k (IntKind.wrap .i64 ((IntKind.wrap .i64 ((IntKind.wrap .i64 ((IntKind.wrap .i64 (k_l0 + 1)) + 1)) + 1)) + 1)) (i_l1 + 1)) := by simp only [lo_laws_heldSpringS_1, h_0, h_1, h_2, h_3, h_4, cond_true, cond_false]
       rw [e]
       exact nextR E0Ok hMixed [] mk_laws_heldSpringS_1_0 [] (ih (IntKind.wrap .i64 ((IntKind.wrap .i64 ((IntKind.wrap .i64 ((IntKind.wrap .i64 (k_l0 + 1)) + 1)) + 1)) + 1)) (i_l1 + 1) (show 0 ≤ (i_l1 + 1) from (by first | assumption | omega | (simp_all <;> omega))) (by first | assumption | omega | (simp_all <;> omega))) (p (sB h_4 <| sW .i64 ((IntKind.wrap .i64 ((IntKind.wrap .i64 ((IntKind.wrap .i64 (k_l0 + 1)) + 1)) + 1)) + 1) <| sI (i_l1 + 1) y_2 y_3 <| sN)) (by kernel_rfl)
  | false =>
   have gh_0 := of_decide_eq_false h_0
   have e : lo_laws_heldSpringS_1 a_0 k_1 (k + 1) k_l0 i_l1 = (.inr k_l0) := by simp only [lo_laws_heldSpringS_1, h_0, cond_false]
   rw [e]
   exact outR (e := (.exit 0)) E0Ok hMixed [] mk_laws_heldSpringS_1_2 [] (p (sB h_0 <| sN)) (by kernel_rfl) (by intro h; cases h)

def lr_laws_heldSpringS_1_0 (a_0 : (List GSpring)) (k_1 : Int) : (Unit) ⊕ (Int) := (lo_laws_heldSpringS_1 a_0 k_1 (((a_0.length : Int) - 0).toNat + 1) k_1 0)

def v_laws_heldSpringS (a_0 : (List GSpring)) (k_1 : Int) : Int := (match (lr_laws_heldSpringS_1_0 a_0 k_1) with
  | .inl r1 => (-1)
  | .inr r1 => r1)

theorem t_laws_heldSpringS (a_0 : (List GSpring)) (k_1 : Int) (hp0 : a_0.length ≤ 1073741824)  : Fn prog 103 [.sl (a_0.map GSpring.cells), .i .i64 k_1] (.i .i64 (v_laws_heldSpringS a_0 k_1)) [] := by
 cases h0 : (lr_laws_heldSpringS_1_0 a_0 k_1) with
 | inl r1 =>
  refine fnS E0Ok hMixed (c := bodyOf f103) [] (.i .i64 (-1)) [] func103 (sL mk_laws_heldSpringS_1_0 0 (lp_val (ls_laws_heldSpringS_1 a_0 k_1) (x := (lr_laws_heldSpringS_1_0 a_0 k_1)) (lp_laws_heldSpringS_1 a_0 k_1 hp0 (((a_0.length : Int) - 0).toNat + 1) k_1 0 (show 0 ≤ 0 from (by first | assumption | omega | (simp_all <;> omega))) (Nat.lt_succ_self _)) h0) <| sK [] sN) rfl (by kernel_rfl) (by kernel_rfl) rfl ?_ ?_
  · simp only [v_laws_heldSpringS, h0]
  · rfl
 | inr r1 =>
  refine fnS E0Ok hMixed (c := bodyOf f103) [] (.i .i64 r1) [] func103 (sL mk_laws_heldSpringS_1_0 0 (lp_val (ls_laws_heldSpringS_1 a_0 k_1) (x := (lr_laws_heldSpringS_1_0 a_0 k_1)) (lp_laws_heldSpringS_1 a_0 k_1 hp0 (((a_0.length : Int) - 0).toNat + 1) k_1 0 (show 0 ≤ 0 from (by first | assumption | omega | (simp_all <;> omega))) (Nat.lt_succ_self _)) h0) <| sK [] sN) rfl (by kernel_rfl) (by kernel_rfl) rfl ?_ ?_
  · simp only [v_laws_heldSpringS, h0]
  · rfl

def hp_Spring (x : GSpring) (c : Int) : Bool := (!(x.A != c)) && (!(x.B != (IntKind.wrap .i64 (c + 1)))) && (!(fcmp .neq .f32 x.Long (ofInt .f32 (IntKind.wrap .i64 ((IntKind.wrap .i64 (c + 1)) + 1))))) && (!(fcmp .neq .f32 x.Stiff (ofInt .f32 (IntKind.wrap .i64 ((IntKind.wrap .i64 ((IntKind.wrap .i64 (c + 1)) + 1)) + 1)))))
def hq_Spring (_ : GSpring) (c : Int) : Int := (IntKind.wrap .i64 ((IntKind.wrap .i64 ((IntKind.wrap .i64 ((IntKind.wrap .i64 (c + 1)) + 1)) + 1)) + 1))
theorem hdeq_Spring (a : List GSpring) (c : Int) : v_laws_heldSpringS a c = match hdL hp_Spring hq_Spring a c with
    | some c' => c'
    | none => -1 := by
  unfold v_laws_heldSpringS lr_laws_heldSpringS_1_0
  rw [held_loop (p := hp_Spring) (q := hq_Spring) (a := a) (x := ()) (lo := lo_laws_heldSpringS_1 a c) (fun k c i => by
    rw [lo_laws_heldSpringS_1]
    unfold hp_Spring hq_Spring
    generalize a.getD i.toNat default = x
    cases decide (i < (a.length : Int)) <;> cases (x.A != c) <;> cases (x.B != (IntKind.wrap .i64 (c + 1))) <;> cases fcmp .neq .f32 x.Long (ofInt .f32 (IntKind.wrap .i64 ((IntKind.wrap .i64 (c + 1)) + 1))) <;> cases fcmp .neq .f32 x.Stiff (ofInt .f32 (IntKind.wrap .i64 ((IntKind.wrap .i64 ((IntKind.wrap .i64 (c + 1)) + 1)) + 1))) <;> rfl) _ _ _ (Int.le_refl 0) (Nat.lt_succ_self _)]
  simp only [Int.toNat_zero, List.drop_zero]
  cases hdL hp_Spring hq_Spring a c <;> rfl

def lo_laws_heldFloat32S_1 (a_0 : (List Nat)) (k_1 : Int) : Nat → Int → Int → (Unit) ⊕ (Int)
  | 0, _, _ => .inl default
  | k + 1, k_l0, i_l1 => (cond (decide (i_l1 < (a_0.length : Int)))
    (cond (fcmp .neq .f32 (a_0.getD i_l1.toNat default) (ofInt .f32 k_l0))
      (.inl ())
      (lo_laws_heldFloat32S_1 a_0 k_1 k (IntKind.wrap .i64 (k_l0 + 1)) (i_l1 + 1)))
    (.inr k_l0))

def ls_laws_heldFloat32S_1 (a_0 : (List Nat)) (k_1 : Int) : (Unit) ⊕ (Int) → Ex × St
  | .inl r => (.ret, ⟨[.any, .any, .any, .any, .i .i64 (-1), .any, .any, .any, .any, .any, .any, .any, .any, .any, .any, .any, .any, .any, .any, .any, .any, .any], []⟩)
  | .inr r => ((.exit 0), ⟨[.any, .i .i64 r, .any, .any, .any, .any, .any, .any, .any, .any, .any, .any, .any, .any, .any, .any, .any, .any, .any, .any, .any, .any], []⟩)

def hd_laws_heldFloat32S_1 (a_0 : (List Nat)) (k_1 : Int) (k_l0 : Int) (i_l1 : Int) : St := ⟨[.sl (a_0.map (cF .f32)), .i .i64 k_l0, .any, .any, .any, .i .i64 i_l1, .any, .any, .any, .any, .any, .any, .any, .any, .any, .any, .any, .any, .any, .any, .any, .any], []⟩

def mk_laws_heldFloat32S_1_0 : List Bool := [true, true, false, false, false, true, false, false, false, false, false, false, false, false, false, false, false, false, false, false, false, false]

def mk_laws_heldFloat32S_1_1 : List Bool := [false, false, false, false, true, false, false, false, false, false, false, false, false, false, false, false, false, false, false, false, false, false]

def mk_laws_heldFloat32S_1_2 : List Bool := [false, true, false, false, false, false, false, false, false, false, false, false, false, false, false, false, false, false, false, false, false, false]

theorem lp_laws_heldFloat32S_1 (a_0 : (List Nat)) (k_1 : Int) (hp0 : a_0.length ≤ 1073741824) : ∀ (k : Nat) (k_l0 : Int) (i_l1 : Int) (hv_laws_heldFloat32S_1_0 : 0 ≤ i_l1) (hk : ((a_0.length : Int) - i_l1).toNat < k), Lp prog 0 (sub (bodyOf f104) [1, 0, 1, 0, 0]) (hd_laws_heldFloat32S_1 a_0 k_1 k_l0 i_l1) (ls_laws_heldFloat32S_1 a_0 k_1 (lo_laws_heldFloat32S_1 a_0 k_1 k k_l0 i_l1)).1 (ls_laws_heldFloat32S_1 a_0 k_1 (lo_laws_heldFloat32S_1 a_0 k_1 k k_l0 i_l1)).2 := by
 intro k
 induction k with
 | zero => intro k_l0 i_l1 hv_laws_heldFloat32S_1_0 hk; exact absurd hk (Nat.not_lt_zero _)
 | succ k ih =>
  intro k_l0 i_l1 hv_laws_heldFloat32S_1_0 hk
  have p {a C} (s : Scr a C) := sZ (cF .f32) a_0 <| s
  cases h_0 : (decide (i_l1 < (a_0.length : Int))) with
  | true =>
   have gh_0 := of_decide_eq_true h_0
   have y_0 : (0 : Int) ≤ i_l1 := by clear p; exact (by first | assumption | omega | (simp_all <;> omega))
   have y_1 : i_l1 < (a_0.length : Int) := by clear p; exact (by first | assumption | omega | (simp_all <;> omega))
   have q {a C} (s : Scr a C) := p (sB h_0 <| sG (cF .f32) a_0 i_l1 y_0 y_1 <| s)
   clear p
   cases h_1 : (fcmp .neq .f32 (a_0.getD i_l1.toNat default) (ofInt .f32 k_l0)) with
   | true =>
    have e : lo_laws_heldFloat32S_1 a_0 k_1 (k + 1) k_l0 i_l1 = (.inl ()) := by simp only [lo_laws_heldFloat32S_1, h_0, h_1, cond_true]
    rw [e]
    exact outR (e := .ret) E0Ok hMixed [] mk_laws_heldFloat32S_1_1 [] (q (sB h_1 <| sN)) (by kernel_rfl) (by intro h; cases h)
   | false =>
    have y_2 : (-9223372036854775808 : Int) ≤ (i_l1 + 1) := by clear q; exact (by first | assumption | omega | (simp_all <;> omega))
    have y_3 : (i_l1 + 1) ≤ (9223372036854775807 : Int) := by clear q; exact (by first | assumption | omega | (simp_all <;> omega))
    have e : lo_laws_heldFloat32S_1 a_0 k_1 (k + 1) k_l0 i_l1 = (lo_laws_heldFloat32S_1 a_0 k_1 k (IntKind.wrap .i64 (k_l0 + 1)) (i_l1 + 1)) := by simp only [lo_laws_heldFloat32S_1, h_0, h_1, cond_true, cond_false]
    rw [e]
    exact nextR E0Ok hMixed [] mk_laws_heldFloat32S_1_0 [] (ih (IntKind.wrap .i64 (k_l0 + 1)) (i_l1 + 1) (show 0 ≤ (i_l1 + 1) from (by first | assumption | omega | (simp_all <;> omega))) (by first | assumption | omega | (simp_all <;> omega))) (q (sB h_1 <| sW .i64 (k_l0 + 1) <| sI (i_l1 + 1) y_2 y_3 <| sN)) (by kernel_rfl)
  | false =>
   have gh_0 := of_decide_eq_false h_0
   have e : lo_laws_heldFloat32S_1 a_0 k_1 (k + 1) k_l0 i_l1 = (.inr k_l0) := by simp only [lo_laws_heldFloat32S_1, h_0, cond_false]
   rw [e]
   exact outR (e := (.exit 0)) E0Ok hMixed [] mk_laws_heldFloat32S_1_2 [] (p (sB h_0 <| sN)) (by kernel_rfl) (by intro h; cases h)

def lr_laws_heldFloat32S_1_0 (a_0 : (List Nat)) (k_1 : Int) : (Unit) ⊕ (Int) := (lo_laws_heldFloat32S_1 a_0 k_1 (((a_0.length : Int) - 0).toNat + 1) k_1 0)

def v_laws_heldFloat32S (a_0 : (List Nat)) (k_1 : Int) : Int := (match (lr_laws_heldFloat32S_1_0 a_0 k_1) with
  | .inl r1 => (-1)
  | .inr r1 => r1)

theorem t_laws_heldFloat32S (a_0 : (List Nat)) (k_1 : Int) (hp0 : a_0.length ≤ 1073741824)  : Fn prog 104 [.sl (a_0.map (cF .f32)), .i .i64 k_1] (.i .i64 (v_laws_heldFloat32S a_0 k_1)) [] := by
 cases h0 : (lr_laws_heldFloat32S_1_0 a_0 k_1) with
 | inl r1 =>
  refine fnS E0Ok hMixed (c := bodyOf f104) [] (.i .i64 (-1)) [] func104 (sL mk_laws_heldFloat32S_1_0 0 (lp_val (ls_laws_heldFloat32S_1 a_0 k_1) (x := (lr_laws_heldFloat32S_1_0 a_0 k_1)) (lp_laws_heldFloat32S_1 a_0 k_1 hp0 (((a_0.length : Int) - 0).toNat + 1) k_1 0 (show 0 ≤ 0 from (by first | assumption | omega | (simp_all <;> omega))) (Nat.lt_succ_self _)) h0) <| sK [] sN) rfl (by kernel_rfl) (by kernel_rfl) rfl ?_ ?_
  · simp only [v_laws_heldFloat32S, h0]
  · rfl
 | inr r1 =>
  refine fnS E0Ok hMixed (c := bodyOf f104) [] (.i .i64 r1) [] func104 (sL mk_laws_heldFloat32S_1_0 0 (lp_val (ls_laws_heldFloat32S_1 a_0 k_1) (x := (lr_laws_heldFloat32S_1_0 a_0 k_1)) (lp_laws_heldFloat32S_1 a_0 k_1 hp0 (((a_0.length : Int) - 0).toNat + 1) k_1 0 (show 0 ≤ 0 from (by first | assumption | omega | (simp_all <;> omega))) (Nat.lt_succ_self _)) h0) <| sK [] sN) rfl (by kernel_rfl) (by kernel_rfl) rfl ?_ ?_
  · simp only [v_laws_heldFloat32S, h0]
  · rfl

def hp_Float32 (x : Nat) (c : Int) : Bool := (!(fcmp .neq .f32 x (ofInt .f32 c)))
def hq_Float32 (_ : Nat) (c : Int) : Int := (IntKind.wrap .i64 (c + 1))
theorem hdeq_Float32 (a : List Nat) (c : Int) : v_laws_heldFloat32S a c = match hdL hp_Float32 hq_Float32 a c with
    | some c' => c'
    | none => -1 := by
  unfold v_laws_heldFloat32S lr_laws_heldFloat32S_1_0
  rw [held_loop (p := hp_Float32) (q := hq_Float32) (a := a) (x := ()) (lo := lo_laws_heldFloat32S_1 a c) (fun k c i => by
    rw [lo_laws_heldFloat32S_1]
    unfold hp_Float32 hq_Float32
    generalize a.getD i.toNat default = x
    cases decide (i < (a.length : Int)) <;> cases fcmp .neq .f32 x (ofInt .f32 c) <;> rfl) _ _ _ (Int.le_refl 0) (Nat.lt_succ_self _)]
  simp only [Int.toNat_zero, List.drop_zero]
  cases hdL hp_Float32 hq_Float32 a c <;> rfl

def v_laws_heldBody (a_0 : GBody) (k_1 : Int) : Int := (cond (decide ((v_laws_heldMesh a_0.Mesh k_1) < 0))
  (-1)
  (cond (decide ((v_laws_heldSpringS a_0.Springs (v_laws_heldMesh a_0.Mesh k_1)) < 0))
    (-1)
    (cond (decide ((v_laws_heldFloat32S a_0.Weights (v_laws_heldSpringS a_0.Springs (v_laws_heldMesh a_0.Mesh k_1))) < 0))
      (-1)
      (v_laws_heldFloat32S a_0.Weights (v_laws_heldSpringS a_0.Springs (v_laws_heldMesh a_0.Mesh k_1))))))

theorem t_laws_heldBody (a_0 : GBody) (k_1 : Int) (hp0 : a_0.Mesh.Places.length ≤ 1073741824) (hp1 : a_0.Mesh.Triangles.length ≤ 1073741824) (hp2 : ∀ t ∈ a_0.Mesh.Triangles, t.length ≤ 1073741824) (hp3 : a_0.Springs.length ≤ 1073741824) (hp4 : a_0.Weights.length ≤ 1073741824)  : Fn prog 46 [.agg [.sl (a_0.Mesh.Places.map GVector.cells), .sl (a_0.Mesh.Triangles.map (cL (cI .i64))), .sl (a_0.Springs.map GSpring.cells), .f .f32 a_0.Film, .f .f32 a_0.Bend, .sl (a_0.Weights.map (cF .f32)), .f .f32 a_0.Fall.X, .f .f32 a_0.Fall.Y, .f .f32 a_0.Fall.Z], .i .i64 k_1] (.i .i64 (v_laws_heldBody a_0 k_1)) [] := by
 have p {a C} (s : Scr a C) := sF (t_laws_heldMesh a_0.Mesh k_1 hp0 hp1 hp2) <| s
 cases h0 : (decide ((v_laws_heldMesh a_0.Mesh k_1) < 0)) with
 | true =>
  have gh0 := of_decide_eq_true h0
  refine fnS E0Ok hMixed (c := bodyOf f46) [] (.i .i64 (-1)) [] func46 (p (sB h0 <| sK [] sN)) rfl (by kernel_rfl) (by kernel_rfl) rfl ?_ ?_
  · simp only [v_laws_heldBody, h0, cond_true]
  · rfl
 | false =>
  have gh0 := of_decide_eq_false h0
  have q {a C} (s : Scr a C) := p (sB h0 <| sF (t_laws_heldSpringS a_0.Springs (v_laws_heldMesh a_0.Mesh k_1) hp3) <| s)
  clear p
  cases h1 : (decide ((v_laws_heldSpringS a_0.Springs (v_laws_heldMesh a_0.Mesh k_1)) < 0)) with
  | true =>
   have gh1 := of_decide_eq_true h1
   refine fnS E0Ok hMixed (c := bodyOf f46) [] (.i .i64 (-1)) [] func46 (q (sB h1 <| sK [] sN)) rfl (by kernel_rfl) (by kernel_rfl) rfl ?_ ?_
   · simp only [v_laws_heldBody, h0, h1, cond_true, cond_false]
   · rfl
  | false =>
   have gh1 := of_decide_eq_false h1
   have p {a C} (s : Scr a C) := q (sB h1 <| sF (t_laws_heldFloat32S a_0.Weights (v_laws_heldSpringS a_0.Springs (v_laws_heldMesh a_0.Mesh k_1)) hp4) <| s)
   clear q
   cases h2 : (decide ((v_laws_heldFloat32S a_0.Weights (v_laws_heldSpringS a_0.Springs (v_laws_heldMesh a_0.Mesh k_1))) < 0)) with
   | true =>
    have gh2 := of_decide_eq_true h2
    refine fnS E0Ok hMixed (c := bodyOf f46) [] (.i .i64 (-1)) [] func46 (p (sB h2 <| sK [] sN)) rfl (by kernel_rfl) (by kernel_rfl) rfl ?_ ?_
    · simp only [v_laws_heldBody, h0, h1, h2, cond_true, cond_false]
    · rfl
   | false =>
    have gh2 := of_decide_eq_false h2
    refine fnS E0Ok hMixed (c := bodyOf f46) [] (.i .i64 (v_laws_heldFloat32S a_0.Weights (v_laws_heldSpringS a_0.Springs (v_laws_heldMesh a_0.Mesh k_1)))) [] func46 (p (sB h2 <| sK [] sN)) rfl (by kernel_rfl) (by kernel_rfl) rfl ?_ ?_
    · simp only [v_laws_heldBody, h0, h1, h2, cond_false]
    · rfl

def v_laws_heldMotion (a_0 : GMotion) (k_1 : Int) : Int := (cond (decide ((v_laws_heldBody a_0.Body k_1) < 0))
  (-1)
  (cond (decide ((v_laws_heldVectorS a_0.Speeds (v_laws_heldBody a_0.Body k_1)) < 0))
    (-1)
    (v_laws_heldVectorS a_0.Speeds (v_laws_heldBody a_0.Body k_1))))

theorem t_laws_heldMotion (a_0 : GMotion) (k_1 : Int) (hp0 : a_0.Body.Mesh.Places.length ≤ 1073741824) (hp1 : a_0.Body.Mesh.Triangles.length ≤ 1073741824) (hp2 : ∀ t ∈ a_0.Body.Mesh.Triangles, t.length ≤ 1073741824) (hp3 : a_0.Body.Springs.length ≤ 1073741824) (hp4 : a_0.Body.Weights.length ≤ 1073741824) (hp5 : a_0.Speeds.length ≤ 1073741824)  : Fn prog 56 [.agg [.sl (a_0.Body.Mesh.Places.map GVector.cells), .sl (a_0.Body.Mesh.Triangles.map (cL (cI .i64))), .sl (a_0.Body.Springs.map GSpring.cells), .f .f32 a_0.Body.Film, .f .f32 a_0.Body.Bend, .sl (a_0.Body.Weights.map (cF .f32)), .f .f32 a_0.Body.Fall.X, .f .f32 a_0.Body.Fall.Y, .f .f32 a_0.Body.Fall.Z, .sl (a_0.Speeds.map GVector.cells)], .i .i64 k_1] (.i .i64 (v_laws_heldMotion a_0 k_1)) [] := by
 have p {a C} (s : Scr a C) := sF (t_laws_heldBody a_0.Body k_1 hp0 hp1 hp2 hp3 hp4) <| s
 cases h0 : (decide ((v_laws_heldBody a_0.Body k_1) < 0)) with
 | true =>
  have gh0 := of_decide_eq_true h0
  refine fnS E0Ok hMixed (c := bodyOf f56) [] (.i .i64 (-1)) [] func56 (p (sB h0 <| sK [] sN)) rfl (by kernel_rfl) (by kernel_rfl) rfl ?_ ?_
  · simp only [v_laws_heldMotion, h0, cond_true]
  · rfl
 | false =>
  have gh0 := of_decide_eq_false h0
  have q {a C} (s : Scr a C) := p (sB h0 <| sF (t_laws_heldVectorS a_0.Speeds (v_laws_heldBody a_0.Body k_1) hp5) <| s)
  clear p
  cases h1 : (decide ((v_laws_heldVectorS a_0.Speeds (v_laws_heldBody a_0.Body k_1)) < 0)) with
  | true =>
   have gh1 := of_decide_eq_true h1
   refine fnS E0Ok hMixed (c := bodyOf f56) [] (.i .i64 (-1)) [] func56 (q (sB h1 <| sK [] sN)) rfl (by kernel_rfl) (by kernel_rfl) rfl ?_ ?_
   · simp only [v_laws_heldMotion, h0, h1, cond_true, cond_false]
   · rfl
  | false =>
   have gh1 := of_decide_eq_false h1
   refine fnS E0Ok hMixed (c := bodyOf f56) [] (.i .i64 (v_laws_heldVectorS a_0.Speeds (v_laws_heldBody a_0.Body k_1))) [] func56 (q (sB h1 <| sK [] sN)) rfl (by kernel_rfl) (by kernel_rfl) rfl ?_ ?_
   · simp only [v_laws_heldMotion, h0, h1, cond_false]
   · rfl

def nd_laws_FnExactStillMotion_0 (aB_0 : GBody) : Int := (v_laws_heldMotion (⟨(⟨(⟨(v_laws_markMotion_mAooonnonnnoZn ((v_impl_StillMotion aB_0).1) 1).2.1, (v_laws_markMotion_mAooonnonnnoZn ((v_impl_StillMotion aB_0).1) 1).2.2.1⟩ : GMesh), (v_laws_markMotion_mAooonnonnnoZn ((v_impl_StillMotion aB_0).1) 1).2.2.2.1, (v_impl_StillMotion aB_0).1.Body.Film, (v_impl_StillMotion aB_0).1.Body.Bend, (v_laws_markMotion_mAooonnonnnoZn ((v_impl_StillMotion aB_0).1) 1).2.2.2.2.1, (v_impl_StillMotion aB_0).1.Body.Fall⟩ : GBody), (v_laws_markMotion_mAooonnonnnoZn ((v_impl_StillMotion aB_0).1) 1).2.2.2.2.2⟩ : GMotion) 1)

def v_laws_FnExactStillMotion (aB_0 : GBody) : Bool := (cond (decide ((v_laws_szBody aB_0 1048576) < 0))
  true
  (cond (v_laws_eqMotion ((v_impl_StillMotion aB_0).1) ((v_spec_StillMotion aB_0).1))
    (cond ((v_impl_StillMotion aB_0).2 == (v_spec_StillMotion aB_0).2)
      (cond (v_laws_eqBody aB_0 aB_0)
        (cond (decide ((v_laws_markBody_mAooonnonnnZn aB_0 1).1 < 0))
          false
          (cond (decide ((nd_laws_FnExactStillMotion_0 aB_0) < 0))
            false
            (cond ((nd_laws_FnExactStillMotion_0 aB_0) != (v_laws_markMotion_mAooonnonnnoZn ((v_impl_StillMotion aB_0).1) 1).1)
              false
              true)))
        false)
      false)
    false))

set_option maxHeartbeats 1000000 in
theorem t_laws_FnExactStillMotion (aB_0 : GBody) (hp0 : aB_0.Mesh.Places.length ≤ 9223372036854775807) (hp1 : aB_0.Mesh.Triangles.length ≤ 9223372036854775807) (hp2 : ∀ t ∈ aB_0.Mesh.Triangles, t.length ≤ 9223372036854775807) (hp3 : aB_0.Springs.length ≤ 9223372036854775807) (hp4 : aB_0.Weights.length ≤ 9223372036854775807)  : Fn prog 10 [.agg [.sl (aB_0.Mesh.Places.map GVector.cells), .sl (aB_0.Mesh.Triangles.map (cL (cI .i64))), .sl (aB_0.Springs.map GSpring.cells), .f .f32 aB_0.Film, .f .f32 aB_0.Bend, .sl (aB_0.Weights.map (cF .f32)), .f .f32 aB_0.Fall.X, .f .f32 aB_0.Fall.Y, .f .f32 aB_0.Fall.Z]] (.b (v_laws_FnExactStillMotion aB_0)) [] := by
 have z0 := (ok_laws_szBody aB_0 1048576 (by omega) (by omega) (by assumption) (by omega) (by omega) (by omega) (by omega))
 have p {a C} (s : Scr a C) := sF (t_laws_szBody aB_0 1048576 hp0 hp1 hp2 hp3 hp4) <| s
 cases h0 : (decide ((v_laws_szBody aB_0 1048576) < 0)) with
 | true =>
  have gh0 := of_decide_eq_true h0
  refine fnS E0Ok hMixed (c := bodyOf f10) [] (.b true) [] func10 (p (sB h0 <| sK [] sN)) rfl (by kernel_rfl) (by kernel_rfl) rfl ?_ ?_
  · simp only [v_laws_FnExactStillMotion, h0, cond_true]
  · rfl
 | false =>
  have gh0 := of_decide_eq_false h0
  have y0 : aB_0.Mesh.Places.length ≤ 1073741824 := by clear p; exact (by first | assumption | omega | (simp_all <;> omega))
  have y1 : aB_0.Mesh.Triangles.length ≤ 1073741824 := by clear p; exact (by first | assumption | omega | (simp_all <;> omega))
  have y2 : ∀ t ∈ aB_0.Mesh.Triangles, t.length ≤ 1073741824 := by clear p; exact (by first | assumption | (intro t ht; first | (have q := z0.2.2.2.2.2.2 t ht; omega)) | omega | (simp_all <;> omega))
  have y3 : aB_0.Springs.length ≤ 1073741824 := by clear p; exact (by first | assumption | omega | (simp_all <;> omega))
  have y4 : aB_0.Weights.length ≤ 1073741824 := by clear p; exact (by first | assumption | omega | (simp_all <;> omega))
  have l1 := (leP_spec_StillMotion aB_0)
  have l2 := (leT_spec_StillMotion aB_0)
  have l3 := (leW_spec_StillMotion aB_0)
  have l4 := (leS_spec_StillMotion aB_0)
  have l5 := (leV_spec_StillMotion aB_0)
  have l6 := (leP_impl_StillMotion aB_0)
  have l7 := (leT_impl_StillMotion aB_0)
  have l8 := (leW_impl_StillMotion aB_0)
  have l9 := (leS_impl_StillMotion aB_0)
  have l10 := (leV_impl_StillMotion aB_0)
  have y5 : ((v_impl_StillMotion aB_0).1).Body.Mesh.Places.length ≤ 1073741824 := by clear p; exact (by first | assumption | omega | (simp_all <;> omega))
  have y6 : ((v_impl_StillMotion aB_0).1).Body.Mesh.Triangles.length ≤ 1073741824 := by clear p; exact (by first | assumption | omega | (simp_all <;> omega))
  have y7 : ∀ t ∈ ((v_impl_StillMotion aB_0).1).Body.Mesh.Triangles, t.length ≤ 1073741824 := by clear p; exact (by first | assumption | (intro t ht; first | (have q := z0.2.2.2.2.2.2 t ht; omega) | (have q := z0.2.2.2.2.2.2 t (mem_impl_StillMotion aB_0 t ht); omega)) | omega | (simp_all <;> omega))
  have y8 : ((v_impl_StillMotion aB_0).1).Body.Springs.length ≤ 1073741824 := by clear p; exact (by first | assumption | omega | (simp_all <;> omega))
  have y9 : ((v_impl_StillMotion aB_0).1).Body.Weights.length ≤ 1073741824 := by clear p; exact (by first | assumption | omega | (simp_all <;> omega))
  have y10 : ((v_impl_StillMotion aB_0).1).Speeds.length ≤ 1073741824 := by clear p; exact (by first | assumption | omega | (simp_all <;> omega))
  have y11 : ((v_spec_StillMotion aB_0).1).Body.Mesh.Places.length ≤ 1073741824 := by clear p; exact (by first | assumption | omega | (simp_all <;> omega))
  have y12 : ((v_spec_StillMotion aB_0).1).Body.Mesh.Triangles.length ≤ 1073741824 := by clear p; exact (by first | assumption | omega | (simp_all <;> omega))
  have y13 : ∀ t ∈ ((v_spec_StillMotion aB_0).1).Body.Mesh.Triangles, t.length ≤ 1073741824 := by clear p; exact (by first | assumption | (intro t ht; first | (have q := z0.2.2.2.2.2.2 t ht; omega) | (have q := z0.2.2.2.2.2.2 t (mem_spec_StillMotion aB_0 t ht); omega)) | omega | (simp_all <;> omega))
  have y14 : ((v_spec_StillMotion aB_0).1).Body.Springs.length ≤ 1073741824 := by clear p; exact (by first | assumption | omega | (simp_all <;> omega))
  have y15 : ((v_spec_StillMotion aB_0).1).Body.Weights.length ≤ 1073741824 := by clear p; exact (by first | assumption | omega | (simp_all <;> omega))
  have y16 : ((v_spec_StillMotion aB_0).1).Speeds.length ≤ 1073741824 := by clear p; exact (by first | assumption | omega | (simp_all <;> omega))
  have q {a C} (s : Scr a C) := p (sB h0 <| sF (i_laws_toBody aB_0 y0 y1 y2 y3 y4) <| sF (Fn.castA (args' := [.agg [.sl (aB_0.Mesh.Places.map GVector.cells), .sl ((aB_0.Mesh.Triangles.map fun l => l.map (cI .i64)).map fun l => [.sl l]), .sl (aB_0.Springs.map GSpring.cells), .f .f32 aB_0.Film, .f .f32 aB_0.Bend, .sl (aB_0.Weights.map (cF .f32)), .f .f32 aB_0.Fall.X, .f .f32 aB_0.Fall.Y, .f .f32 aB_0.Fall.Z]]) (t_spec_StillMotion aB_0 y0 y1 y2 y3 y4) (by simp [cL, Function.comp_def])) <| sF (i_laws_toBody aB_0 y0 y1 y2 y3 y4) <| sF (Fn.castA (args' := [.agg [.sl (aB_0.Mesh.Places.map GVector.cells), .sl ((aB_0.Mesh.Triangles.map fun l => l.map (cI .i64)).map fun l => [.sl l]), .sl (aB_0.Springs.map GSpring.cells), .f .f32 aB_0.Film, .f .f32 aB_0.Bend, .sl (aB_0.Weights.map (cF .f32)), .f .f32 aB_0.Fall.X, .f .f32 aB_0.Fall.Y, .f .f32 aB_0.Fall.Z]]) (t_impl_StillMotion aB_0 y0 y1 y2 y3 y4) (by simp [cL, Function.comp_def])) <| sF (Fn.castA (args' := [.agg [.sl (((v_impl_StillMotion aB_0).1.Body.Mesh.Places).map GVector.cells), .sl ((((v_impl_StillMotion aB_0).1.Body.Mesh.Triangles).map fun l => l.map (cI .i64)).map fun l => [.sl l]), .sl (((v_impl_StillMotion aB_0).1.Body.Springs).map GSpring.cells), .f .f32 ((v_impl_StillMotion aB_0).1.Body.Film), .f .f32 ((v_impl_StillMotion aB_0).1.Body.Bend), .sl (((v_impl_StillMotion aB_0).1.Body.Weights).map (cF .f32)), .f .f32 ((v_impl_StillMotion aB_0).1.Body.Fall.X), .f .f32 ((v_impl_StillMotion aB_0).1.Body.Fall.Y), .f .f32 ((v_impl_StillMotion aB_0).1.Body.Fall.Z), .sl (((v_impl_StillMotion aB_0).1.Speeds).map GVector.cells)], .agg [.sl (((v_spec_StillMotion aB_0).1.Body.Mesh.Places).map GVector.cells), .sl ((((v_spec_StillMotion aB_0).1.Body.Mesh.Triangles).map fun l => l.map (cI .i64)).map fun l => [.sl l]), .sl (((v_spec_StillMotion aB_0).1.Body.Springs).map GSpring.cells), .f .f32 ((v_spec_StillMotion aB_0).1.Body.Film), .f .f32 ((v_spec_StillMotion aB_0).1.Body.Bend), .sl (((v_spec_StillMotion aB_0).1.Body.Weights).map (cF .f32)), .f .f32 ((v_spec_StillMotion aB_0).1.Body.Fall.X), .f .f32 ((v_spec_StillMotion aB_0).1.Body.Fall.Y), .f .f32 ((v_spec_StillMotion aB_0).1.Body.Fall.Z), .sl (((v_spec_StillMotion aB_0).1.Speeds).map GVector.cells)]]) (t_laws_eqMotion ((v_impl_StillMotion aB_0).1) ((v_spec_StillMotion aB_0).1) y5 y6 y7 y8 y9 y10 y11 y12 y13 y14 y15 y16) (by simp [cL, Function.comp_def])) <| s)
  clear p
  cases h1 : (v_laws_eqMotion ((v_impl_StillMotion aB_0).1) ((v_spec_StillMotion aB_0).1)) with
  | true =>
   have p {a C} (s : Scr a C) := q (sB' h1 <| sB' h1 <| sB' h1 <| sB' h1 <| s)
   clear q
   cases h2 : ((v_impl_StillMotion aB_0).2 == (v_spec_StillMotion aB_0).2) with
   | true =>
    have gh2 := eq_of_beq h2
    have q {a C} (s : Scr a C) := p (sB' h2 <| sK [3, 3] <| sF (i_laws_toBody aB_0 y0 y1 y2 y3 y4) <| sF (Fn.castA (args' := [.agg [.sl (aB_0.Mesh.Places.map GVector.cells), .sl ((aB_0.Mesh.Triangles.map fun l => l.map (cI .i64)).map fun l => [.sl l]), .sl (aB_0.Springs.map GSpring.cells), .f .f32 aB_0.Film, .f .f32 aB_0.Bend, .sl (aB_0.Weights.map (cF .f32)), .f .f32 aB_0.Fall.X, .f .f32 aB_0.Fall.Y, .f .f32 aB_0.Fall.Z], .agg [.sl (aB_0.Mesh.Places.map GVector.cells), .sl ((aB_0.Mesh.Triangles.map fun l => l.map (cI .i64)).map fun l => [.sl l]), .sl (aB_0.Springs.map GSpring.cells), .f .f32 aB_0.Film, .f .f32 aB_0.Bend, .sl (aB_0.Weights.map (cF .f32)), .f .f32 aB_0.Fall.X, .f .f32 aB_0.Fall.Y, .f .f32 aB_0.Fall.Z]]) (t_laws_eqBody aB_0 aB_0 y0 y1 y2 y3 y4 y0 y1 y2 y3 y4) (by simp [cL, Function.comp_def])) <| s)
    clear p
    cases h3 : (v_laws_eqBody aB_0 aB_0) with
    | true =>
     have p {a C} (s : Scr a C) := q (sB' h3 <| sS (CallSt.frame (t_laws_markBody_mAooonnonnnZn aB_0 1 y0 y1 y2 y3 y4) [11, 12, 13, 14] (R := [.box 37 [.sl (aB_0.Mesh.Places.map GVector.cells), .sl (aB_0.Mesh.Triangles.map (cL (cI .i64))), .sl (aB_0.Springs.map GSpring.cells), .f .f32 aB_0.Film, .f .f32 aB_0.Bend, .sl (aB_0.Weights.map (cF .f32)), .f .f32 aB_0.Fall.X, .f .f32 aB_0.Fall.Y, .f .f32 aB_0.Fall.Z], .vec 44 3 (aB_0.Mesh.Places.map GVector.cells) false, .nest 52 (aB_0.Mesh.Triangles.map fun l => l.map (cI .i64)) false, .vec 105 4 (aB_0.Springs.map GSpring.cells) false, .vec 22 1 (aB_0.Weights.map (cF .f32)) false, .vec 44 3 (((v_spec_StillMotion aB_0).1.Body.Mesh.Places).map GVector.cells) false, .nest 52 (((v_spec_StillMotion aB_0).1.Body.Mesh.Triangles).map fun l => l.map (cI .i64)) false, .vec 105 4 (((v_spec_StillMotion aB_0).1.Body.Springs).map GSpring.cells) false, .vec 22 1 (((v_spec_StillMotion aB_0).1.Body.Weights).map (cF .f32)) false, .vec 44 3 (((v_spec_StillMotion aB_0).1.Speeds).map GVector.cells) false, .box 81 [.own 5, .own 6, .own 7, .f .f32 ((v_spec_StillMotion aB_0).1.Body.Film), .f .f32 ((v_spec_StillMotion aB_0).1.Body.Bend), .own 8, .f .f32 ((v_spec_StillMotion aB_0).1.Body.Fall.X), .f .f32 ((v_spec_StillMotion aB_0).1.Body.Fall.Y), .f .f32 ((v_spec_StillMotion aB_0).1.Body.Fall.Z), .own 9], .vec 44 3 (aB_0.Mesh.Places.map GVector.cells) false, .nest 52 (aB_0.Mesh.Triangles.map fun l => l.map (cI .i64)) false, .vec 105 4 (aB_0.Springs.map GSpring.cells) false, .vec 22 1 (aB_0.Weights.map (cF .f32)) false, .box 46 [.own 11, .own 12, .own 13, .f .f32 aB_0.Film, .f .f32 aB_0.Bend, .own 14, .f .f32 aB_0.Fall.X, .f .f32 aB_0.Fall.Y, .f .f32 aB_0.Fall.Z], .vec 44 3 (((v_impl_StillMotion aB_0).1.Body.Mesh.Places).map GVector.cells) false, .nest 52 (((v_impl_StillMotion aB_0).1.Body.Mesh.Triangles).map fun l => l.map (cI .i64)) false, .vec 105 4 (((v_impl_StillMotion aB_0).1.Body.Springs).map GSpring.cells) false, .vec 22 1 (((v_impl_StillMotion aB_0).1.Body.Weights).map (cF .f32)) false, .vec 44 3 (((v_impl_StillMotion aB_0).1.Speeds).map GVector.cells) false, .box 81 [.own 16, .own 17, .own 18, .f .f32 ((v_impl_StillMotion aB_0).1.Body.Film), .f .f32 ((v_impl_StillMotion aB_0).1.Body.Bend), .own 19, .f .f32 ((v_impl_StillMotion aB_0).1.Body.Fall.X), .f .f32 ((v_impl_StillMotion aB_0).1.Body.Fall.Y), .f .f32 ((v_impl_StillMotion aB_0).1.Body.Fall.Z), .own 20], .vec 44 3 (aB_0.Mesh.Places.map GVector.cells) false, .nest 52 (aB_0.Mesh.Triangles.map fun l => l.map (cI .i64)) false, .vec 105 4 (aB_0.Springs.map GSpring.cells) false, .vec 22 1 (aB_0.Weights.map (cF .f32)) false]) (args' := [.agg [.own 11, .own 12, .own 13, .f .f32 aB_0.Film, .f .f32 aB_0.Bend, .own 14, .f .f32 aB_0.Fall.X, .f .f32 aB_0.Fall.Y, .f .f32 aB_0.Fall.Z], .i .i64 1]) rfl rfl rfl rfl rfl rfl) <| s)
     clear q
     cases h4 : (decide ((v_laws_markBody_mAooonnonnnZn aB_0 1).1 < 0)) with
     | true =>
      have gh4 := of_decide_eq_true h4
      refine fnS E0Ok hMixed (c := bodyOf f10) [] (.b false) [] func10 (p (sB h4 <| sB h4 <| sB h4 <| sB h4 <| sB h4 <| sB (show true = true from rfl) <| sB (show true = true from rfl) <| sB (show true = true from rfl) <| sB (show true = true from rfl) <| sB (show true = true from rfl) <| sK [] sN)) rfl (by kernel_rfl) (by kernel_rfl) rfl ?_ ?_
      · simp only [v_laws_FnExactStillMotion, h0, h1, h2, h3, h4, cond_true, cond_false]
      · rfl
     | false =>
      have gh4 := of_decide_eq_false h4
      have y17 : (⟨(⟨(⟨(v_laws_markMotion_mAooonnonnnoZn ((v_impl_StillMotion aB_0).1) 1).2.1, (v_laws_markMotion_mAooonnonnnoZn ((v_impl_StillMotion aB_0).1) 1).2.2.1⟩ : GMesh), (v_laws_markMotion_mAooonnonnnoZn ((v_impl_StillMotion aB_0).1) 1).2.2.2.1, (v_impl_StillMotion aB_0).1.Body.Film, (v_impl_StillMotion aB_0).1.Body.Bend, (v_laws_markMotion_mAooonnonnnoZn ((v_impl_StillMotion aB_0).1) 1).2.2.2.2.1, (v_impl_StillMotion aB_0).1.Body.Fall⟩ : GBody), (v_laws_markMotion_mAooonnonnnoZn ((v_impl_StillMotion aB_0).1) 1).2.2.2.2.2⟩ : GMotion).Body.Mesh.Places.length ≤ 1073741824 := by clear p; exact (by first | assumption | omega | (simp_all <;> omega))
      have y18 : (⟨(⟨(⟨(v_laws_markMotion_mAooonnonnnoZn ((v_impl_StillMotion aB_0).1) 1).2.1, (v_laws_markMotion_mAooonnonnnoZn ((v_impl_StillMotion aB_0).1) 1).2.2.1⟩ : GMesh), (v_laws_markMotion_mAooonnonnnoZn ((v_impl_StillMotion aB_0).1) 1).2.2.2.1, (v_impl_StillMotion aB_0).1.Body.Film, (v_impl_StillMotion aB_0).1.Body.Bend, (v_laws_markMotion_mAooonnonnnoZn ((v_impl_StillMotion aB_0).1) 1).2.2.2.2.1, (v_impl_StillMotion aB_0).1.Body.Fall⟩ : GBody), (v_laws_markMotion_mAooonnonnnoZn ((v_impl_StillMotion aB_0).1) 1).2.2.2.2.2⟩ : GMotion).Body.Mesh.Triangles.length ≤ 1073741824 := by clear p; exact (by first | assumption | omega | (simp_all <;> omega))
      have y19 : ∀ t ∈ (⟨(⟨(⟨(v_laws_markMotion_mAooonnonnnoZn ((v_impl_StillMotion aB_0).1) 1).2.1, (v_laws_markMotion_mAooonnonnnoZn ((v_impl_StillMotion aB_0).1) 1).2.2.1⟩ : GMesh), (v_laws_markMotion_mAooonnonnnoZn ((v_impl_StillMotion aB_0).1) 1).2.2.2.1, (v_impl_StillMotion aB_0).1.Body.Film, (v_impl_StillMotion aB_0).1.Body.Bend, (v_laws_markMotion_mAooonnonnnoZn ((v_impl_StillMotion aB_0).1) 1).2.2.2.2.1, (v_impl_StillMotion aB_0).1.Body.Fall⟩ : GBody), (v_laws_markMotion_mAooonnonnnoZn ((v_impl_StillMotion aB_0).1) 1).2.2.2.2.2⟩ : GMotion).Body.Mesh.Triangles, t.length ≤ 1073741824 := by clear p; exact (by first | assumption | exact mlen_Motion_mAooonnonnnoZn _ _ _ (by assumption))
      have y20 : (⟨(⟨(⟨(v_laws_markMotion_mAooonnonnnoZn ((v_impl_StillMotion aB_0).1) 1).2.1, (v_laws_markMotion_mAooonnonnnoZn ((v_impl_StillMotion aB_0).1) 1).2.2.1⟩ : GMesh), (v_laws_markMotion_mAooonnonnnoZn ((v_impl_StillMotion aB_0).1) 1).2.2.2.1, (v_impl_StillMotion aB_0).1.Body.Film, (v_impl_StillMotion aB_0).1.Body.Bend, (v_laws_markMotion_mAooonnonnnoZn ((v_impl_StillMotion aB_0).1) 1).2.2.2.2.1, (v_impl_StillMotion aB_0).1.Body.Fall⟩ : GBody), (v_laws_markMotion_mAooonnonnnoZn ((v_impl_StillMotion aB_0).1) 1).2.2.2.2.2⟩ : GMotion).Body.Springs.length ≤ 1073741824 := by clear p; exact (by first | assumption | omega | (simp_all <;> omega))
      have y21 : (⟨(⟨(⟨(v_laws_markMotion_mAooonnonnnoZn ((v_impl_StillMotion aB_0).1) 1).2.1, (v_laws_markMotion_mAooonnonnnoZn ((v_impl_StillMotion aB_0).1) 1).2.2.1⟩ : GMesh), (v_laws_markMotion_mAooonnonnnoZn ((v_impl_StillMotion aB_0).1) 1).2.2.2.1, (v_impl_StillMotion aB_0).1.Body.Film, (v_impl_StillMotion aB_0).1.Body.Bend, (v_laws_markMotion_mAooonnonnnoZn ((v_impl_StillMotion aB_0).1) 1).2.2.2.2.1, (v_impl_StillMotion aB_0).1.Body.Fall⟩ : GBody), (v_laws_markMotion_mAooonnonnnoZn ((v_impl_StillMotion aB_0).1) 1).2.2.2.2.2⟩ : GMotion).Body.Weights.length ≤ 1073741824 := by clear p; exact (by first | assumption | omega | (simp_all <;> omega))
      have y22 : (⟨(⟨(⟨(v_laws_markMotion_mAooonnonnnoZn ((v_impl_StillMotion aB_0).1) 1).2.1, (v_laws_markMotion_mAooonnonnnoZn ((v_impl_StillMotion aB_0).1) 1).2.2.1⟩ : GMesh), (v_laws_markMotion_mAooonnonnnoZn ((v_impl_StillMotion aB_0).1) 1).2.2.2.1, (v_impl_StillMotion aB_0).1.Body.Film, (v_impl_StillMotion aB_0).1.Body.Bend, (v_laws_markMotion_mAooonnonnnoZn ((v_impl_StillMotion aB_0).1) 1).2.2.2.2.1, (v_impl_StillMotion aB_0).1.Body.Fall⟩ : GBody), (v_laws_markMotion_mAooonnonnnoZn ((v_impl_StillMotion aB_0).1) 1).2.2.2.2.2⟩ : GMotion).Speeds.length ≤ 1073741824 := by clear p; exact (by first | assumption | omega | (simp_all <;> omega))
      have q {a C} (s : Scr a C) := p (sB h4 <| sB h4 <| sB h4 <| sF (Fn.castA (args' := [.agg [.sl (((v_impl_StillMotion aB_0).1.Body.Mesh.Places).map GVector.cells), .sl ((((v_impl_StillMotion aB_0).1.Body.Mesh.Triangles).map fun l => l.map (cI .i64)).map fun l => [.sl l]), .sl (((v_impl_StillMotion aB_0).1.Body.Springs).map GSpring.cells), .f .f32 ((v_impl_StillMotion aB_0).1.Body.Film), .f .f32 ((v_impl_StillMotion aB_0).1.Body.Bend), .sl (((v_impl_StillMotion aB_0).1.Body.Weights).map (cF .f32)), .f .f32 ((v_impl_StillMotion aB_0).1.Body.Fall.X), .f .f32 ((v_impl_StillMotion aB_0).1.Body.Fall.Y), .f .f32 ((v_impl_StillMotion aB_0).1.Body.Fall.Z), .sl (((v_impl_StillMotion aB_0).1.Speeds).map GVector.cells)], .agg [.sl (((v_spec_StillMotion aB_0).1.Body.Mesh.Places).map GVector.cells), .sl ((((v_spec_StillMotion aB_0).1.Body.Mesh.Triangles).map fun l => l.map (cI .i64)).map fun l => [.sl l]), .sl (((v_spec_StillMotion aB_0).1.Body.Springs).map GSpring.cells), .f .f32 ((v_spec_StillMotion aB_0).1.Body.Film), .f .f32 ((v_spec_StillMotion aB_0).1.Body.Bend), .sl (((v_spec_StillMotion aB_0).1.Body.Weights).map (cF .f32)), .f .f32 ((v_spec_StillMotion aB_0).1.Body.Fall.X), .f .f32 ((v_spec_StillMotion aB_0).1.Body.Fall.Y), .f .f32 ((v_spec_StillMotion aB_0).1.Body.Fall.Z), .sl (((v_spec_StillMotion aB_0).1.Speeds).map GVector.cells)]]) (t_laws_eqMotion ((v_impl_StillMotion aB_0).1) ((v_spec_StillMotion aB_0).1) y5 y6 y7 y8 y9 y10 y11 y12 y13 y14 y15 y16) (by simp [cL, Function.comp_def])) <| sB h4 <| sB h4 <| sB' h1 <| sB' h1 <| sB' h1 <| sB' h1 <| sB' h2 <| sS (CallSt.frame (t_laws_markMotion_mAooonnonnnoZn ((v_impl_StillMotion aB_0).1) 1 y5 y6 y7 y8 y9 y10) [16, 17, 18, 19, 20] (R := [.box 37 [.sl (aB_0.Mesh.Places.map GVector.cells), .sl (aB_0.Mesh.Triangles.map (cL (cI .i64))), .sl (aB_0.Springs.map GSpring.cells), .f .f32 aB_0.Film, .f .f32 aB_0.Bend, .sl (aB_0.Weights.map (cF .f32)), .f .f32 aB_0.Fall.X, .f .f32 aB_0.Fall.Y, .f .f32 aB_0.Fall.Z], .vec 44 3 (aB_0.Mesh.Places.map GVector.cells) false, .nest 52 (aB_0.Mesh.Triangles.map fun l => l.map (cI .i64)) false, .vec 105 4 (aB_0.Springs.map GSpring.cells) false, .vec 22 1 (aB_0.Weights.map (cF .f32)) false, .vec 44 3 (((v_spec_StillMotion aB_0).1.Body.Mesh.Places).map GVector.cells) false, .nest 52 (((v_spec_StillMotion aB_0).1.Body.Mesh.Triangles).map fun l => l.map (cI .i64)) false, .vec 105 4 (((v_spec_StillMotion aB_0).1.Body.Springs).map GSpring.cells) false, .vec 22 1 (((v_spec_StillMotion aB_0).1.Body.Weights).map (cF .f32)) false, .vec 44 3 (((v_spec_StillMotion aB_0).1.Speeds).map GVector.cells) false, .box 81 [.own 5, .own 6, .own 7, .f .f32 ((v_spec_StillMotion aB_0).1.Body.Film), .f .f32 ((v_spec_StillMotion aB_0).1.Body.Bend), .own 8, .f .f32 ((v_spec_StillMotion aB_0).1.Body.Fall.X), .f .f32 ((v_spec_StillMotion aB_0).1.Body.Fall.Y), .f .f32 ((v_spec_StillMotion aB_0).1.Body.Fall.Z), .own 9], .vec 44 3 (((v_laws_markBody_mAooonnonnnZn aB_0 1).2.1).map GVector.cells) false, .nest 52 (((v_laws_markBody_mAooonnonnnZn aB_0 1).2.2.1).map fun l => l.map (cI .i64)) false, .vec 105 4 (((v_laws_markBody_mAooonnonnnZn aB_0 1).2.2.2.1).map GSpring.cells) false, .vec 22 1 (((v_laws_markBody_mAooonnonnnZn aB_0 1).2.2.2.2).map (cF .f32)) false, .box 46 [.own 11, .own 12, .own 13, .f .f32 aB_0.Film, .f .f32 aB_0.Bend, .own 14, .f .f32 aB_0.Fall.X, .f .f32 aB_0.Fall.Y, .f .f32 aB_0.Fall.Z], .vec 44 3 (((v_impl_StillMotion aB_0).1.Body.Mesh.Places).map GVector.cells) false, .nest 52 (((v_impl_StillMotion aB_0).1.Body.Mesh.Triangles).map fun l => l.map (cI .i64)) false, .vec 105 4 (((v_impl_StillMotion aB_0).1.Body.Springs).map GSpring.cells) false, .vec 22 1 (((v_impl_StillMotion aB_0).1.Body.Weights).map (cF .f32)) false, .vec 44 3 (((v_impl_StillMotion aB_0).1.Speeds).map GVector.cells) false, .box 81 [.own 16, .own 17, .own 18, .f .f32 ((v_impl_StillMotion aB_0).1.Body.Film), .f .f32 ((v_impl_StillMotion aB_0).1.Body.Bend), .own 19, .f .f32 ((v_impl_StillMotion aB_0).1.Body.Fall.X), .f .f32 ((v_impl_StillMotion aB_0).1.Body.Fall.Y), .f .f32 ((v_impl_StillMotion aB_0).1.Body.Fall.Z), .own 20], .vec 44 3 (aB_0.Mesh.Places.map GVector.cells) false, .nest 52 (aB_0.Mesh.Triangles.map fun l => l.map (cI .i64)) false, .vec 105 4 (aB_0.Springs.map GSpring.cells) false, .vec 22 1 (aB_0.Weights.map (cF .f32)) false]) (args' := [.agg [.own 16, .own 17, .own 18, .f .f32 ((v_impl_StillMotion aB_0).1.Body.Film), .f .f32 ((v_impl_StillMotion aB_0).1.Body.Bend), .own 19, .f .f32 ((v_impl_StillMotion aB_0).1.Body.Fall.X), .f .f32 ((v_impl_StillMotion aB_0).1.Body.Fall.Y), .f .f32 ((v_impl_StillMotion aB_0).1.Body.Fall.Z), .own 20], .i .i64 1]) rfl rfl rfl rfl rfl rfl) <| sF (Fn.castA (args' := [.agg [.sl (((v_laws_markMotion_mAooonnonnnoZn ((v_impl_StillMotion aB_0).1) 1).2.1).map GVector.cells), .sl ((((v_laws_markMotion_mAooonnonnnoZn ((v_impl_StillMotion aB_0).1) 1).2.2.1).map fun l => l.map (cI .i64)).map fun l => [.sl l]), .sl (((v_laws_markMotion_mAooonnonnnoZn ((v_impl_StillMotion aB_0).1) 1).2.2.2.1).map GSpring.cells), .f .f32 ((v_impl_StillMotion aB_0).1.Body.Film), .f .f32 ((v_impl_StillMotion aB_0).1.Body.Bend), .sl (((v_laws_markMotion_mAooonnonnnoZn ((v_impl_StillMotion aB_0).1) 1).2.2.2.2.1).map (cF .f32)), .f .f32 ((v_impl_StillMotion aB_0).1.Body.Fall.X), .f .f32 ((v_impl_StillMotion aB_0).1.Body.Fall.Y), .f .f32 ((v_impl_StillMotion aB_0).1.Body.Fall.Z), .sl (((v_laws_markMotion_mAooonnonnnoZn ((v_impl_StillMotion aB_0).1) 1).2.2.2.2.2).map GVector.cells)], .i .i64 1]) (t_laws_heldMotion (⟨(⟨(⟨(v_laws_markMotion_mAooonnonnnoZn ((v_impl_StillMotion aB_0).1) 1).2.1, (v_laws_markMotion_mAooonnonnnoZn ((v_impl_StillMotion aB_0).1) 1).2.2.1⟩ : GMesh), (v_laws_markMotion_mAooonnonnnoZn ((v_impl_StillMotion aB_0).1) 1).2.2.2.1, (v_impl_StillMotion aB_0).1.Body.Film, (v_impl_StillMotion aB_0).1.Body.Bend, (v_laws_markMotion_mAooonnonnnoZn ((v_impl_StillMotion aB_0).1) 1).2.2.2.2.1, (v_impl_StillMotion aB_0).1.Body.Fall⟩ : GBody), (v_laws_markMotion_mAooonnonnnoZn ((v_impl_StillMotion aB_0).1) 1).2.2.2.2.2⟩ : GMotion) 1 y17 y18 y19 y20 y21 y22) (by simp [cL, Function.comp_def])) <| s)
      clear p
      cases h5 : (decide ((nd_laws_FnExactStillMotion_0 aB_0) < 0)) with
      | true =>
       have gh5 := of_decide_eq_true h5
       refine fnS E0Ok hMixed (c := bodyOf f10) [] (.b false) [] func10 (q (sB h5 <| sK [] sN)) rfl (by kernel_rfl) (by kernel_rfl) rfl ?_ ?_
       · simp only [v_laws_FnExactStillMotion, h0, h1, h2, h3, h4, h5, cond_true, cond_false]
       · rfl
      | false =>
       have gh5 := of_decide_eq_false h5
       have p {a C} (s : Scr a C) := q (sB h5 <| s)
       clear q
       cases h6 : ((nd_laws_FnExactStillMotion_0 aB_0) != (v_laws_markMotion_mAooonnonnnoZn ((v_impl_StillMotion aB_0).1) 1).1) with
       | true =>
        have gh6 := bne_iff_ne.1 h6
        refine fnS E0Ok hMixed (c := bodyOf f10) [] (.b false) [] func10 (p (sB h6 <| sK [] sN)) rfl (by kernel_rfl) (by kernel_rfl) rfl ?_ ?_
        · simp only [v_laws_FnExactStillMotion, h0, h1, h2, h3, h4, h5, h6, cond_true, cond_false]
        · rfl
       | false =>
        have gh6 := bne_eq_false_iff_eq.1 h6
        refine fnS E0Ok hMixed (c := bodyOf f10) [] (.b true) [] func10 (p (sB h6 <| sF (i_laws_toBody aB_0 y0 y1 y2 y3 y4) <| sF (Fn.castA (args' := [.agg [.sl (aB_0.Mesh.Places.map GVector.cells), .sl ((aB_0.Mesh.Triangles.map fun l => l.map (cI .i64)).map fun l => [.sl l]), .sl (aB_0.Springs.map GSpring.cells), .f .f32 aB_0.Film, .f .f32 aB_0.Bend, .sl (aB_0.Weights.map (cF .f32)), .f .f32 aB_0.Fall.X, .f .f32 aB_0.Fall.Y, .f .f32 aB_0.Fall.Z]]) (t_impl_StillMotion aB_0 y0 y1 y2 y3 y4) (by simp [cL, Function.comp_def])) <| sF (Fn.castA (args' := [.agg [.sl (((v_impl_StillMotion aB_0).1.Body.Mesh.Places).map GVector.cells), .sl ((((v_impl_StillMotion aB_0).1.Body.Mesh.Triangles).map fun l => l.map (cI .i64)).map fun l => [.sl l]), .sl (((v_impl_StillMotion aB_0).1.Body.Springs).map GSpring.cells), .f .f32 ((v_impl_StillMotion aB_0).1.Body.Film), .f .f32 ((v_impl_StillMotion aB_0).1.Body.Bend), .sl (((v_impl_StillMotion aB_0).1.Body.Weights).map (cF .f32)), .f .f32 ((v_impl_StillMotion aB_0).1.Body.Fall.X), .f .f32 ((v_impl_StillMotion aB_0).1.Body.Fall.Y), .f .f32 ((v_impl_StillMotion aB_0).1.Body.Fall.Z), .sl (((v_impl_StillMotion aB_0).1.Speeds).map GVector.cells)], .agg [.sl (((v_spec_StillMotion aB_0).1.Body.Mesh.Places).map GVector.cells), .sl ((((v_spec_StillMotion aB_0).1.Body.Mesh.Triangles).map fun l => l.map (cI .i64)).map fun l => [.sl l]), .sl (((v_spec_StillMotion aB_0).1.Body.Springs).map GSpring.cells), .f .f32 ((v_spec_StillMotion aB_0).1.Body.Film), .f .f32 ((v_spec_StillMotion aB_0).1.Body.Bend), .sl (((v_spec_StillMotion aB_0).1.Body.Weights).map (cF .f32)), .f .f32 ((v_spec_StillMotion aB_0).1.Body.Fall.X), .f .f32 ((v_spec_StillMotion aB_0).1.Body.Fall.Y), .f .f32 ((v_spec_StillMotion aB_0).1.Body.Fall.Z), .sl (((v_spec_StillMotion aB_0).1.Speeds).map GVector.cells)]]) (t_laws_eqMotion ((v_impl_StillMotion aB_0).1) ((v_spec_StillMotion aB_0).1) y5 y6 y7 y8 y9 y10 y11 y12 y13 y14 y15 y16) (by simp [cL, Function.comp_def])) <| sB' h1 <| sB' h1 <| sB' h1 <| sB' h1 <| sB' h2 <| sF (Fn.castA (args' := [.agg [.sl (((v_laws_markMotion_mAooonnonnnoZn ((v_impl_StillMotion aB_0).1) 1).2.1).map GVector.cells), .sl ((((v_laws_markMotion_mAooonnonnnoZn ((v_impl_StillMotion aB_0).1) 1).2.2.1).map fun l => l.map (cI .i64)).map fun l => [.sl l]), .sl (((v_laws_markMotion_mAooonnonnnoZn ((v_impl_StillMotion aB_0).1) 1).2.2.2.1).map GSpring.cells), .f .f32 ((v_impl_StillMotion aB_0).1.Body.Film), .f .f32 ((v_impl_StillMotion aB_0).1.Body.Bend), .sl (((v_laws_markMotion_mAooonnonnnoZn ((v_impl_StillMotion aB_0).1) 1).2.2.2.2.1).map (cF .f32)), .f .f32 ((v_impl_StillMotion aB_0).1.Body.Fall.X), .f .f32 ((v_impl_StillMotion aB_0).1.Body.Fall.Y), .f .f32 ((v_impl_StillMotion aB_0).1.Body.Fall.Z), .sl (((v_laws_markMotion_mAooonnonnnoZn ((v_impl_StillMotion aB_0).1) 1).2.2.2.2.2).map GVector.cells)], .i .i64 1]) (t_laws_heldMotion (⟨(⟨(⟨(v_laws_markMotion_mAooonnonnnoZn ((v_impl_StillMotion aB_0).1) 1).2.1, (v_laws_markMotion_mAooonnonnnoZn ((v_impl_StillMotion aB_0).1) 1).2.2.1⟩ : GMesh), (v_laws_markMotion_mAooonnonnnoZn ((v_impl_StillMotion aB_0).1) 1).2.2.2.1, (v_impl_StillMotion aB_0).1.Body.Film, (v_impl_StillMotion aB_0).1.Body.Bend, (v_laws_markMotion_mAooonnonnnoZn ((v_impl_StillMotion aB_0).1) 1).2.2.2.2.1, (v_impl_StillMotion aB_0).1.Body.Fall⟩ : GBody), (v_laws_markMotion_mAooonnonnnoZn ((v_impl_StillMotion aB_0).1) 1).2.2.2.2.2⟩ : GMotion) 1 y17 y18 y19 y20 y21 y22) (by simp [cL, Function.comp_def])) <| sB h5 <| sB h6 <| sK [] sN)) rfl (by kernel_rfl) (by kernel_rfl) rfl ?_ ?_
        · simp only [v_laws_FnExactStillMotion, h0, h1, h2, h3, h4, h5, h6, cond_true, cond_false]
        · rfl
    | false =>
     refine fnS E0Ok hMixed (c := bodyOf f10) [] (.b false) [] func10 (q (sB' h3 <| sK [] sN)) rfl (by kernel_rfl) (by kernel_rfl) rfl ?_ ?_
     · simp only [v_laws_FnExactStillMotion, h0, h1, h2, h3, cond_true, cond_false]
     · rfl
   | false =>
    have gh2 := ne_of_beq_false h2
    refine fnS E0Ok hMixed (c := bodyOf f10) [] (.b false) [] func10 (p (sB' h2 <| sK [] sN)) rfl (by kernel_rfl) (by kernel_rfl) rfl ?_ ?_
    · simp only [v_laws_FnExactStillMotion, h0, h1, h2, cond_true, cond_false]
    · rfl
  | false =>
   refine fnS E0Ok hMixed (c := bodyOf f10) [] (.b false) [] func10 (q (sB' h1 <| sB' h1 <| sB' h1 <| sB' h1 <| sB (show true = true from rfl) <| sK [] sN)) rfl (by kernel_rfl) (by kernel_rfl) rfl ?_ ?_
   · simp only [v_laws_FnExactStillMotion, h0, h1, cond_false]
   · rfl

end Go.Ab
