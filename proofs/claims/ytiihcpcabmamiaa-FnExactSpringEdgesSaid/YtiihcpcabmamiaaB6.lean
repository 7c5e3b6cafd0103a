/- The functions of this seat as plain Lean, and that the program's are these. Printed by a program of the prover's own. -/
import Derived.Test.YtiihcpcabmamiaaB5
set_option linter.unusedVariables false
set_option linter.unusedSimpArgs false
set_option maxRecDepth 100000
namespace Go.Ab
open Go.RowKit Go.Proofs.Try

def hp_Int64 (x : Int) (c : Int) : Bool := (!(x != c))
def hq_Int64 (_ : Int) (c : Int) : Int := (IntKind.wrap .i64 (c + 1))
theorem hdeq_Int64 (a : List Int) (c : Int) : v_laws_heldInt64S a c = match hdL hp_Int64 hq_Int64 a c with
    | some c' => c'
    | none => -1 := by
  unfold v_laws_heldInt64S lr_laws_heldInt64S_1_0
  rw [held_loop (p := hp_Int64) (q := hq_Int64) (a := a) (x := ()) (lo := lo_laws_heldInt64S_1 a c) (fun k c i => by
    rw [lo_laws_heldInt64S_1]
    unfold hp_Int64 hq_Int64
    generalize a.getD i.toNat default = x
    cases decide (i < (a.length : Int)) <;> cases (x != c) <;> rfl) _ _ _ (Int.le_refl 0) (Nat.lt_succ_self _)]
  simp only [Int.toNat_zero, List.drop_zero]
  cases hdL hp_Int64 hq_Int64 a c <;> rfl

def lo_laws_heldInt64SS_1 (a_0 : (List (List Int))) (k_1 : Int) : Nat → Int → Int → (Unit) ⊕ (Int)
  | 0, _, _ => .inl default
  | k + 1, k_l0, i_l1 => (cond (decide (i_l1 < (a_0.length : Int)))
    (cond (decide ((v_laws_heldInt64S (a_0.getD i_l1.toNat default) k_l0) < 0))
      (.inl ())
      (lo_laws_heldInt64SS_1 a_0 k_1 k (v_laws_heldInt64S (a_0.getD i_l1.toNat default) k_l0) (i_l1 + 1)))
    (.inr k_l0))

def ls_laws_heldInt64SS_1 (a_0 : (List (List Int))) (k_1 : Int) : (Unit) ⊕ (Int) → Ex × St
  | .inl r => (.ret, ⟨[.any, .any, .any, .any, .i .i64 (-1), .any, .any, .any, .any, .any, .any, .any, .any, .any, .any, .any, .any, .any, .any, .any, .any], []⟩)
  | .inr r => ((.exit 0), ⟨[.any, .i .i64 r, .any, .any, .any, .any, .any, .any, .any, .any, .any, .any, .any, .any, .any, .any, .any, .any, .any, .any, .any], []⟩)

def hd_laws_heldInt64SS_1 (a_0 : (List (List Int))) (k_1 : Int) (k_l0 : Int) (i_l1 : Int) : St := ⟨[.sl (a_0.map (cL (cI .i64))), .i .i64 k_l0, .any, .any, .any, .i .i64 i_l1, .any, .any, .any, .any, .any, .any, .any, .any, .any, .any, .any, .any, .any, .any, .any], []⟩

def mk_laws_heldInt64SS_1_0 : List Bool := [true, true, false, false, false, true, false, false, false, false, false, false, false, false, false, false, false, false, false, false, false]

def mk_laws_heldInt64SS_1_1 : List Bool := [false, false, false, false, true, false, false, false, false, false, false, false, false, false, false, false, false, false, false, false, false]

def mk_laws_heldInt64SS_1_2 : List Bool := [false, true, false, false, false, false, false, false, false, false, false, false, false, false, false, false, false, false, false, false, false]

theorem lp_laws_heldInt64SS_1 (a_0 : (List (List Int))) (k_1 : Int) (hp0 : a_0.length ≤ 1073741824) (hp1 : ∀ t ∈ a_0, t.length ≤ 1073741824) : ∀ (k : Nat) (k_l0 : Int) (i_l1 : Int) (hv_laws_heldInt64SS_1_0 : 0 ≤ i_l1) (hk : ((a_0.length : Int) - i_l1).toNat < k), Lp prog 0 (sub (bodyOf f19) [1, 0, 1, 0, 0]) (hd_laws_heldInt64SS_1 a_0 k_1 k_l0 i_l1) (ls_laws_heldInt64SS_1 a_0 k_1 (lo_laws_heldInt64SS_1 a_0 k_1 k k_l0 i_l1)).1 (ls_laws_heldInt64SS_1 a_0 k_1 (lo_laws_heldInt64SS_1 a_0 k_1 k k_l0 i_l1)).2 := by
 intro k
 induction k with
 | zero => intro k_l0 i_l1 hv_laws_heldInt64SS_1_0 hk; exact absurd hk (Nat.not_lt_zero _)
 | succ k ih =>
  intro k_l0 i_l1 hv_laws_heldInt64SS_1_0 hk
  have p {a C} (s : Scr a C) := sZ (cL (cI .i64)) a_0 <| s
  cases h_0 : (decide (i_l1 < (a_0.length : Int))) with
  | true =>
   have gh_0 := of_decide_eq_true h_0
   have y_0 : (0 : Int) ≤ i_l1 := by clear p; exact (by first | assumption | omega | (simp_all <;> omega))
   have y_1 : i_l1 < (a_0.length : Int) := by clear p; exact (by first | assumption | omega | (simp_all <;> omega))
   have y_2 : (a_0.getD i_l1.toNat default).length ≤ 1073741824 := by clear p; exact (by first | assumption | omega | (simp_all <;> omega))
   have q {a C} (s : Scr a C) := p (sB h_0 <| sG (cL (cI .i64)) a_0 i_l1 y_0 y_1 <| sF (t_laws_heldInt64S (a_0.getD i_l1.toNat default) k_l0 y_2) <| s)
   clear p
   cases h_1 : (decide ((v_laws_heldInt64S (a_0.getD i_l1.toNat default) k_l0) < 0)) with
   | true =>
    have gh_1 := of_decide_eq_true h_1
    have e : lo_laws_heldInt64SS_1 a_0 k_1 (k + 1) k_l0 i_l1 = (.inl ()) := by simp only [lo_laws_heldInt64SS_1, h_0, h_1, cond_true]
    rw [e]
    exact outR (e := .ret) E0Ok hMixed [] mk_laws_heldInt64SS_1_1 [] (q (sB h_1 <| sN)) (by kernel_rfl) (by intro h; cases h)
   | false =>
    have gh_1 := of_decide_eq_false h_1
    have y_3 : (-9223372036854775808 : Int) ≤ (i_l1 + 1) := by clear q; exact (by first | assumption | omega | (simp_all <;> omega))
    have y_4 : (i_l1 + 1) ≤ (9223372036854775807 : Int) := by clear q; exact (by first | assumption | omega | (simp_all <;> omega))
    have e : lo_laws_heldInt64SS_1 a_0 k_1 (k + 1) k_l0 i_l1 = (lo_laws_heldInt64SS_1 a_0 k_1 k (v_laws_heldInt64S (a_0.getD i_l1.toNat default) k_l0) (i_l1 + 1)) := by simp only [lo_laws_heldInt64SS_1, h_0, h_1, cond_true, cond_false]
    rw [e]
    exact nextR E0Ok hMixed [] mk_laws_heldInt64SS_1_0 [] (ih (v_laws_heldInt64S (a_0.getD i_l1.toNat default) k_l0) (i_l1 + 1) (show 0 ≤ (i_l1 + 1) from (by first | assumption | omega | (simp_all <;> omega))) (by first | assumption | omega | (simp_all <;> omega))) (q (sB h_1 <| sI (i_l1 + 1) y_3 y_4 <| sN)) (by kernel_rfl)
  | false =>
   have gh_0 := of_decide_eq_false h_0
   have e : lo_laws_heldInt64SS_1 a_0 k_1 (k + 1) k_l0 i_l1 = (.inr k_l0) := by simp only [lo_laws_heldInt64SS_1, h_0, cond_false]
   rw [e]
   exact outR (e := (.exit 0)) E0Ok hMixed [] mk_laws_heldInt64SS_1_2 [] (p (sB h_0 <| sN)) (by kernel_rfl) (by intro h; cases h)

def lr_laws_heldInt64SS_1_0 (a_0 : (List (List Int))) (k_1 : Int) : (Unit) ⊕ (Int) := (lo_laws_heldInt64SS_1 a_0 k_1 (((a_0.length : Int) - 0).toNat + 1) k_1 0)

def v_laws_heldInt64SS (a_0 : (List (List Int))) (k_1 : Int) : Int := (match (lr_laws_heldInt64SS_1_0 a_0 k_1) with
  | .inl r1 => (-1)
  | .inr r1 => r1)

theorem t_laws_heldInt64SS (a_0 : (List (List Int))) (k_1 : Int) (hp0 : a_0.length ≤ 1073741824) (hp1 : ∀ t ∈ a_0, t.length ≤ 1073741824)  : Fn prog 19 [.sl (a_0.map (cL (cI .i64))), .i .i64 k_1] (.i .i64 (v_laws_heldInt64SS a_0 k_1)) [] := by
 cases h0 : (lr_laws_heldInt64SS_1_0 a_0 k_1) with
 | inl r1 =>
  refine fnS E0Ok hMixed (c := bodyOf f19) [] (.i .i64 (-1)) [] func19 (sL mk_laws_heldInt64SS_1_0 0 (lp_val (ls_laws_heldInt64SS_1 a_0 k_1) (x := (lr_laws_heldInt64SS_1_0 a_0 k_1)) (lp_laws_heldInt64SS_1 a_0 k_1 hp0 hp1 (((a_0.length : Int) - 0).toNat + 1) k_1 0 (show 0 ≤ 0 from (by first | assumption | omega | (simp_all <;> omega))) (Nat.lt_succ_self _)) h0) <| sK [] sN) rfl (by kernel_rfl) (by kernel_rfl) rfl ?_ ?_
  · simp only [v_laws_heldInt64SS, h0]
  · rfl
 | inr r1 =>
  refine fnS E0Ok hMixed (c := bodyOf f19) [] (.i .i64 r1) [] func19 (sL mk_laws_heldInt64SS_1_0 0 (lp_val (ls_laws_heldInt64SS_1 a_0 k_1) (x := (lr_laws_heldInt64SS_1_0 a_0 k_1)) (lp_laws_heldInt64SS_1 a_0 k_1 hp0 hp1 (((a_0.length : Int) - 0).toNat + 1) k_1 0 (show 0 ≤ 0 from (by first | assumption | omega | (simp_all <;> omega))) (Nat.lt_succ_self _)) h0) <| sK [] sN) rfl (by kernel_rfl) (by kernel_rfl) rfl ?_ ?_
  · simp only [v_laws_heldInt64SS, h0]
  · rfl

theorem hdeq_Int64SS (a : List (List Int)) (c : Int) : v_laws_heldInt64SS a c = match hdL (fun x c => !(decide (v_laws_heldInt64S x c < 0))) v_laws_heldInt64S a c with
    | some c' => c'
    | none => -1 := by
  unfold v_laws_heldInt64SS lr_laws_heldInt64SS_1_0
  rw [held_loop (p := fun x c => !(decide (v_laws_heldInt64S x c < 0))) (q := v_laws_heldInt64S) (a := a) (x := ()) (lo := lo_laws_heldInt64SS_1 a c) (fun k c i => by
    rw [lo_laws_heldInt64SS_1]
    cases decide (i < (a.length : Int)) <;> cases decide (v_laws_heldInt64S (a.getD i.toNat default) c < 0) <;> rfl) _ _ _ (Int.le_refl 0) (Nat.lt_succ_self _)]
  simp only [Int.toNat_zero, List.drop_zero]
  cases hdL (fun x c => !(decide (v_laws_heldInt64S x c < 0))) v_laws_heldInt64S a c <;> rfl

def v_laws_heldMesh (a_0 : GMesh) (k_1 : Int) : Int := (cond (decide ((v_laws_heldVectorS a_0.Places k_1) < 0))
  (-1)
  (cond (decide ((v_laws_heldInt64SS a_0.Triangles (v_laws_heldVectorS a_0.Places k_1)) < 0))
    (-1)
    (v_laws_heldInt64SS a_0.Triangles (v_laws_heldVectorS a_0.Places k_1))))

theorem t_laws_heldMesh (a_0 : GMesh) (k_1 : Int) (hp0 : a_0.Places.length ≤ 1073741824) (hp1 : a_0.Triangles.length ≤ 1073741824) (hp2 : ∀ t ∈ a_0.Triangles, t.length ≤ 1073741824)  : Fn prog 22 [.agg [.sl (a_0.Places.map GVector.cells), .sl (a_0.Triangles.map (cL (cI .i64)))], .i .i64 k_1] (.i .i64 (v_laws_heldMesh a_0 k_1)) [] := by
 have p {a C} (s : Scr a C) := sF (t_laws_heldVectorS a_0.Places k_1 hp0) <| s
 cases h0 : (decide ((v_laws_heldVectorS a_0.Places k_1) < 0)) with
 | true =>
  have gh0 := of_decide_eq_true h0
  refine fnS E0Ok hMixed (c := bodyOf f22) [] (.i .i64 (-1)) [] func22 (p (sB h0 <| sK [] sN)) rfl (by kernel_rfl) (by kernel_rfl) rfl ?_ ?_
  · simp only [v_laws_heldMesh, h0, cond_true]
  · rfl
 | false =>
  have gh0 := of_decide_eq_false h0
  have q {a C} (s : Scr a C) := p (sB h0 <| sF (t_laws_heldInt64SS a_0.Triangles (v_laws_heldVectorS a_0.Places k_1) hp1 hp2) <| s)
  clear p
  cases h1 : (decide ((v_laws_heldInt64SS a_0.Triangles (v_laws_heldVectorS a_0.Places k_1)) < 0)) with
  | true =>
   have gh1 := of_decide_eq_true h1
   refine fnS E0Ok hMixed (c := bodyOf f22) [] (.i .i64 (-1)) [] func22 (q (sB h1 <| sK [] sN)) rfl (by kernel_rfl) (by kernel_rfl) rfl ?_ ?_
   · simp only [v_laws_heldMesh, h0, h1, cond_true, cond_false]
   · rfl
  | false =>
   have gh1 := of_decide_eq_false h1
   refine fnS E0Ok hMixed (c := bodyOf f22) [] (.i .i64 (v_laws_heldInt64SS a_0.Triangles (v_laws_heldVectorS a_0.Places k_1))) [] func22 (q (sB h1 <| sK [] sN)) rfl (by kernel_rfl) (by kernel_rfl) rfl ?_ ?_
   · simp only [v_laws_heldMesh, h0, h1, cond_false]
   · rfl

def lo_laws_heldSpringS_1 (a_0 : (List GSpring)) (k_1 : Int) : Nat → Int → Int → (Unit) ⊕ (Int)
  | 0, _, _ => .inl default
  | k + 1, k_l0, i_l1 => (cond (decide (i_l1 < (a_0.length : Int)))
    (cond ((a_0.getD i_l1.toNat default).A != k_l0)
      (.inl ())
      (cond ((a_0.getD i_l1.toNat default).B != (IntKind.wrap .i64 (k_l0 + 1)))
        (.inl ())
        (cond (fcmp .neq .f32 ((a_0.getD i_l1.toNat default).Long) (ofInt .f32 (IntKind.wrap .i64 ((IntKind.wrap .i64 (k_l0 + 1)) + 1))))
          (.inl ())
          (cond (fcmp .neq .f32 ((a_0.getD i_l1.toNat default).Stiff) (ofInt .f32 (IntKind.wrap .i64 ((IntKind.wrap .i64 ((IntKind.wrap .i64 (k_l0 + 1)) + 1)) + 1))))
            (.inl ())
            (lo_laws_heldSpringS_1 a_0 k_1 k (IntKind.wrap .i64 ((IntKind.wrap .i64 ((IntKind.wrap .i64 ((IntKind.wrap .i64 (k_l0 + 1)) + 1)) + 1)) + 1)) (i_l1 + 1))))))
    (.inr k_l0))

def ls_laws_heldSpringS_1 (a_0 : (List GSpring)) (k_1 : Int) : (Unit) ⊕ (Int) → Ex × St
  | .inl r => (.ret, ⟨[.any, .any, .any, .any, .i .i64 (-1), .any, .any, .any, .any, .any, .any, .any, .any, .any, .any, .any, .any, .any, .any, .any, .any, .any, .any, .any, .any, .any, .any, .any, .any, .any, .any, .any, .any, .any, .any, .any, .any, .any, .any, .any, .any, .any, .any, .any, .any, .any, .any, .any, .any, .any, .any], []⟩)
  | .inr r => ((.exit 0), ⟨[.any, .i .i64 r, .any, .any, .any, .any, .any, .any, .any, .any, .any, .any, .any, .any, .any, .any, .any, .any, .any, .any, .any, .any, .any, .any, .any, .any, .any, .any, .any, .any, .any, .any, .any, .any, .any, .any, .any, .any, .any, .any, .any, .any, .any, .any, .any, .any, .any, .any, .any, .any, .any], []⟩)

def hd_laws_heldSpringS_1 (a_0 : (List GSpring)) (k_1 : Int) (k_l0 : Int) (i_l1 : Int) : St := ⟨[.sl (a_0.map GSpring.cells), .i .i64 k_l0, .any, .any, .any, .i .i64 i_l1, .any, .any, .any, .any, .any, .any, .any, .any, .any, .any, .any, .any, .any, .any, .any, .any, .any, .any, .any, .any, .any, .any, .any, .any, .any, .any, .any, .any, .any, .any, .any, .any, .any, .any, .any, .any, .any, .any, .any, .any, .any, .any, .any, .any, .any], []⟩

def mk_laws_heldSpringS_1_0 : List Bool := [true, true, false, false, false, true, false, false, false, false, false, false, false, false, false, false, false, false, false, false, false, false, false, false, false, false, false, false, false, false, false, false, false, false, false, false, false, false, false, false, false, false, false, false, false, false, false, false, false, false, false]

def mk_laws_heldSpringS_1_1 : List Bool := [false, false, false, false, true, false, false, false, false, false, false, false, false, false, false, false, false, false, false, false, false, false, false, false, false, false, false, false, false, false, false, false, false, false, false, false, false, false, false, false, false, false, false, false, false, false, false, false, false, false, false]

def mk_laws_heldSpringS_1_2 : List Bool := [false, true, false, false, false, false, false, false, false, false, false, false, false, false, false, false, false, false, false, false, false, false, false, false, false, false, false, false, false, false, false, false, false, false, false, false, false, false, false, false, false, false, false, false, false, false, false, false, false, false, false]

theorem lp_laws_heldSpringS_1 (a_0 : (List GSpring)) (k_1 : Int) (hp0 : a_0.length ≤ 1073741824) : ∀ (k : Nat) (k_l0 : Int) (i_l1 : Int) (hv_laws_heldSpringS_1_0 : 0 ≤ i_l1) (hk : ((a_0.length : Int) - i_l1).toNat < k), Lp prog 0 (sub (bodyOf f100) [1, 0, 1, 0, 0]) (hd_laws_heldSpringS_1 a_0 k_1 k_l0 i_l1) (ls_laws_heldSpringS_1 a_0 k_1 (lo_laws_heldSpringS_1 a_0 k_1 k k_l0 i_l1)).1 (ls_laws_heldSpringS_1 a_0 k_1 (lo_laws_heldSpringS_1 a_0 k_1 k k_l0 i_l1)).2 := by
 intro k
 induction k with
 | zero => intro k_l0 i_l1 hv_laws_heldSpringS_1_0 hk; exact absurd hk (Nat.not_lt_zero _)
 | succ k ih =>
  intro k_l0 i_l1 hv_laws_heldSpringS_1_0 hk
  have p {a C} (s : Scr a C) := sZ GSpring.cells a_0 <| s
  cases h_0 : (decide (i_l1 < (a_0.length : Int))) with
  | true =>
   have gh_0 := of_decide_eq_true h_0
   have y_0 : (0 : Int) ≤ i_l1 := by clear p; exact (by first | assumption | omega | (simp_all <;> omega))
   have y_1 : i_l1 < (a_0.length : Int) := by clear p; exact (by first | assumption | omega | (simp_all <;> omega))
   have q {a C} (s : Scr a C) := p (sB h_0 <| sG GSpring.cells a_0 i_l1 y_0 y_1 <| s)
   clear p
   cases h_1 : ((a_0.getD i_l1.toNat default).A != k_l0) with
   | true =>
    have gh_1 := bne_iff_ne.1 h_1
    have e : lo_laws_heldSpringS_1 a_0 k_1 (k + 1) k_l0 i_l1 = (.inl ()) := by simp only [lo_laws_heldSpringS_1, h_0, h_1, cond_true]
    rw [e]
    exact outR (e := .ret) E0Ok hMixed [] mk_laws_heldSpringS_1_1 [] (q (sB h_1 <| sN)) (by kernel_rfl) (by intro h; cases h)
   | false =>
    have gh_1 := bne_eq_false_iff_eq.1 h_1
    have p {a C} (s : Scr a C) := q (sB h_1 <| sW .i64 (k_l0 + 1) <| sG GSpring.cells a_0 i_l1 y_0 y_1 <| s)
    clear q
    cases h_2 : ((a_0.getD i_l1.toNat default).B != (IntKind.wrap .i64 (k_l0 + 1))) with
    | true =>
     have gh_2 := bne_iff_ne.1 h_2
     have e : lo_laws_heldSpringS_1 a_0 k_1 (k + 1) k_l0 i_l1 = (.inl ()) := by simp only [lo_laws_heldSpringS_1, h_0, h_1, h_2, cond_true, cond_false]
     rw [e]
     exact outR (e := .ret) E0Ok hMixed [] mk_laws_heldSpringS_1_1 [] (p (sB h_2 <| sN)) (by kernel_rfl) (by intro h; cases h)
    | false =>
     have gh_2 := bne_eq_false_iff_eq.1 h_2
     have q {a C} (s : Scr a C) := p (sB h_2 <| sW .i64 ((IntKind.wrap .i64 (k_l0 + 1)) + 1) <| sG GSpring.cells a_0 i_l1 y_0 y_1 <| s)
     clear p
     cases h_3 : (fcmp .neq .f32 ((a_0.getD i_l1.toNat default).Long) (ofInt .f32 (IntKind.wrap .i64 ((IntKind.wrap .i64 (k_l0 + 1)) + 1)))) with
     | true =>
      have e : lo_laws_heldSpringS_1 a_0 k_1 (k + 1) k_l0 i_l1 = (.inl ()) := by simp only [lo_laws_heldSpringS_1, h_0, h_1, h_2, h_3, cond_true, cond_false]
      rw [e]
      exact outR (e := .ret) E0Ok hMixed [] mk_laws_heldSpringS_1_1 [] (q (sB h_3 <| sN)) (by kernel_rfl) (by intro h; cases h)
     | false =>
      have p {a C} (s : Scr a C) := q (sB h_3 <| sW .i64 ((IntKind.wrap .i64 ((IntKind.wrap .i64 (k_l0 + 1)) + 1)) + 1) <| sG GSpring.cells a_0 i_l1 y_0 y_1 <| s)
      clear q
      cases h_4 : (fcmp .neq .f32 ((a_0.getD i_l1.toNat default).Stiff) (ofInt .f32 (IntKind.wrap .i64 ((IntKind.wrap .i64 ((IntKind.wrap .i64 (k_l0 + 1)) + 1)) + 1)))) with
      | true =>
       have e : lo_laws_heldSpringS_1 a_0 k_1 (k + 1) k_l0 i_l1 = (.inl ()) := by simp only [lo_laws_heldSpringS_1, h_0, h_1, h_2, h_3, h_4, cond_true, cond_false]
       rw [e]
       exact outR (e := .ret) E0Ok hMixed [] mk_laws_heldSpringS_1_1 [] (p (sB h_4 <| sN)) (by kernel_rfl) (by intro h; cases h)
      | false =>
       have y_2 : (-9223372036854775808 : Int) ≤ (i_l1 + 1) := by clear p; exact (by first | assumption | omega | (simp_all <;> omega))
       have y_3 : (i_l1 + 1) ≤ (9223372036854775807 : Int) := by clear p; exact (by first | assumption | omega | (simp_all <;> omega))
       have e : lo_laws_heldSpringS_1 a_0 k_1 (k + 1) k_l0 i_l1 = (lo_laws_heldSpringS_1 a_0 k_1 k (IntKind.wrap .i64 ((IntKind.wrap .i64 ((IntKind.wrap .i64 ((IntKind.wrap .i64 (k_l0 + 1)) + 1)) + 1)) + 1)) (i_l1 + 1)) := by simp only [lo_laws_heldSpringS_1, h_0, h_1, h_2, h_3, h_4, cond_true, cond_false]
       rw [e]
       exact nextR E0Ok hMixed [] mk_laws_heldSpringS_1_0 [] (ih (IntKind.wrap .i64 ((IntKind.wrap .i64 ((IntKind.wrap .i64 ((IntKind.wrap .i64 (k_l0 + 1)) + 1)) + 1)) + 1)) (i_l1 + 1) (show 0 ≤ (i_l1 + 1) from (by first | assumption | omega | (simp_all <;> omega))) (by first | assumption | omega | (simp_all <;> omega))) (p (sB h_4 <| sW .i64 ((IntKind.wrap .i64 ((IntKind.wrap .i64 ((IntKind.wrap .i64 (k_l0 + 1)) + 1)) + 1)) + 1) <| sI (i_l1 + 1) y_2 y_3 <| sN)) (by kernel_rfl)
  | false =>
   have gh_0 := of_decide_eq_false h_0
   have e : lo_laws_heldSpringS_1 a_0 k_1 (k + 1) k_l0 i_l1 = (.inr k_l0) := by simp only [lo_laws_heldSpringS_1, h_0, cond_false]
   rw [e]
   exact outR (e := (.exit 0)) E0Ok hMixed [] mk_laws_heldSpringS_1_2 [] (p (sB h_0 <| sN)) (by kernel_rfl) (by intro h; cases h)

def lr_laws_heldSpringS_1_0 (a_0 : (List GSpring)) (k_1 : Int) : (Unit) ⊕ (Int) := (lo_laws_heldSpringS_1 a_0 k_1 (((a_0.length : Int) - 0).toNat + 1) k_1 0)

def v_laws_heldSpringS (a_0 : (List GSpring)) (k_1 : Int) : Int := (match (lr_laws_heldSpringS_1_0 a_0 k_1) with
  | .inl r1 => (-1)
  | .inr r1 => r1)

theorem t_laws_heldSpringS (a_0 : (List GSpring)) (k_1 : Int) (hp0 : a_0.length ≤ 1073741824)  : Fn prog 100 [.sl (a_0.map GSpring.cells), .i .i64 k_1] (.i .i64 (v_laws_heldSpringS a_0 k_1)) [] := by
 cases h0 : (lr_laws_heldSpringS_1_0 a_0 k_1) with
 | inl r1 =>
  refine fnS E0Ok hMixed (c := bodyOf f100) [] (.i .i64 (-1)) [] func100 (sL mk_laws_heldSpringS_1_0 0 (lp_val (ls_laws_heldSpringS_1 a_0 k_1) (x := (lr_laws_heldSpringS_1_0 a_0 k_1)) (lp_laws_heldSpringS_1 a_0 k_1 hp0 (((a_0.length : Int) - 0).toNat + 1) k_1 0 (show 0 ≤ 0 from (by first | assumption | omega | (simp_all <;> omega))) (Nat.lt_succ_self _)) h0) <| sK [] sN) rfl (by kernel_rfl) (by kernel_rfl) rfl ?_ ?_
  · simp only [v_laws_heldSpringS, h0]
  · rfl
 | inr r1 =>
  refine fnS E0Ok hMixed (c := bodyOf f100) [] (.i .i64 r1) [] func100 (sL mk_laws_heldSpringS_1_0 0 (lp_val (ls_laws_heldSpringS_1 a_0 k_1) (x := (lr_laws_heldSpringS_1_0 a_0 k_1)) (lp_laws_heldSpringS_1 a_0 k_1 hp0 (((a_0.length : Int) - 0).toNat + 1) k_1 0 (show 0 ≤ 0 from (by first | assumption | omega | (simp_all <;> omega))) (Nat.lt_succ_self _)) h0) <| sK [] sN) rfl (by kernel_rfl) (by kernel_rfl) rfl ?_ ?_
  · simp only [v_laws_heldSpringS, h0]
  · rfl

def hp_Spring (x : GSpring) (c : Int) : Bool := (!(x.A != c)) && (!(x.B != (IntKind.wrap .i64 (c + 1)))) && (!(fcmp .neq .f32 x.Long (ofInt .f32 (IntKind.wrap .i64 ((IntKind.wrap .i64 (c + 1)) + 1))))) && (!(fcmp .neq .f32 x.Stiff (ofInt .f32 (IntKind.wrap .i64 ((IntKind.wrap .i64 ((IntKind.wrap .i64 (c + 1)) + 1)) + 1)))))
def hq_Spring (_ : GSpring) (c : Int) : Int := (IntKind.wrap .i64 ((IntKind.wrap .i64 ((IntKind.wrap .i64 ((IntKind.wrap .i64 (c + 1)) + 1)) + 1)) + 1))
theorem hdeq_Spring (a : List GSpring) (c : Int) : v_laws_heldSpringS a c = match hdL hp_Spring hq_Spring a c with
    | some c' => c'
    | none => -1 := by
  unfold v_laws_heldSpringS lr_laws_heldSpringS_1_0
  rw [held_loop (p := hp_Spring) (q := hq_Spring) (a := a) (x := ()) (lo := lo_laws_heldSpringS_1 a c) (fun k c i => by
    rw [lo_laws_heldSpringS_1]
    unfold hp_Spring hq_Spring
    generalize a.getD i.toNat default = x
    cases decide (i < (a.length : Int)) <;> cases (x.A != c) <;> cases (x.B != (IntKind.wrap .i64 (c + 1))) <;> cases fcmp .neq .f32 x.Long (ofInt .f32 (IntKind.wrap .i64 ((IntKind.wrap .i64 (c + 1)) + 1))) <;> cases fcmp .neq .f32 x.Stiff (ofInt .f32 (IntKind.wrap .i64 ((IntKind.wrap .i64 ((IntKind.wrap .i64 (c + 1)) + 1)) + 1))) <;> rfl) _ _ _ (Int.le_refl 0) (Nat.lt_succ_self _)]
  simp only [Int.toNat_zero, List.drop_zero]
  cases hdL hp_Spring hq_Spring a c <;> rfl

def lo_laws_heldFloat32S_1 (a_0 : (List Nat)) (k_1 : Int) : Nat → Int → Int → (Unit) ⊕ (Int)
  | 0, _, _ => .inl default
  | k + 1, k_l0, i_l1 => (cond (decide (i_l1 < (a_0.length : Int)))
    (cond (fcmp .neq .f32 (a_0.getD i_l1.toNat default) (ofInt .f32 k_l0))
      (.inl ())
      (lo_laws_heldFloat32S_1 a_0 k_1 k (IntKind.wrap .i64 (k_l0 + 1)) (i_l1 + 1)))
    (.inr k_l0))

def ls_laws_heldFloat32S_1 (a_0 : (List Nat)) (k_1 : Int) : (Unit) ⊕ (Int) → Ex × St
  | .inl r => (.ret, ⟨[.any, .any, .any, .any, .i .i64 (-1), .any, .any, .any, .any, .any, .any, .any, .any, .any, .any, .any, .any, .any, .any, .any, .any, .any], []⟩)
  | .inr r => ((.exit 0), ⟨[.any, .i .i64 r, .any, .any, .any, .any, .any, .any, .any, .any, .any, .any, .any, .any, .any, .any, .any, .any, .any, .any, .any, .any], []⟩)

def hd_laws_heldFloat32S_1 (a_0 : (List Nat)) (k_1 : Int) (k_l0 : Int) (i_l1 : Int) : St := ⟨[.sl (a_0.map (cF .f32)), .i .i64 k_l0, .any, .any, .any, .i .i64 i_l1, .any, .any, .any, .any, .any, .any, .any, .any, .any, .any, .any, .any, .any, .any, .any, .any], []⟩

def mk_laws_heldFloat32S_1_0 : List Bool := [true, true, false, false, false, true, false, false, false, false, false, false, false, false, false, false, false, false, false, false, false, false]

def mk_laws_heldFloat32S_1_1 : List Bool := [false, false, false, false, true, false, false, false, false, false, false, false, false, false, false, false, false, false, false, false, false, false]

def mk_laws_heldFloat32S_1_2 : List Bool := [false, true, false, false, false, false, false, false, false, false, false, false, false, false, false, false, false, false, false, false, false, false]

theorem lp_laws_heldFloat32S_1 (a_0 : (List Nat)) (k_1 : Int) (hp0 : a_0.length ≤ 1073741824) : ∀ (k : Nat) (k_l0 : Int) (i_l1 : Int) (hv_laws_heldFloat32S_1_0 : 0 ≤ i_l1) (hk : ((a_0.length : Int) - i_l1).toNat < k), Lp prog 0 (sub (bodyOf f27) [1, 0, 1, 0, 0]) (hd_laws_heldFloat32S_1 a_0 k_1 k_l0 i_l1) (ls_laws_heldFloat32S_1 a_0 k_1 (lo_laws_heldFloat32S_1 a_0 k_1 k k_l0 i_l1)).1 (ls_laws_heldFloat32S_1 a_0 k_1 (lo_laws_heldFloat32S_1 a_0 k_1 k k_l0 i_l1)).2 := by
 intro k
 induction k with
 | zero => intro k_l0 i_l1 hv_laws_heldFloat32S_1_0 hk; exact absurd hk (Nat.not_lt_zero _)
 | succ k ih =>
  intro k_l0 i_l1 hv_laws_heldFloat32S_1_0 hk
  have p {a C} (s : Scr a C) := sZ (cF .f32) a_0 <| s
  cases h_0 : (decide (i_l1 < (a_0.length : Int))) with
  | true =>
   have gh_0 := of_decide_eq_true h_0
   have y_0 : (0 : Int) ≤ i_l1 := by clear p; exact (by first | assumption | omega | (simp_all <;> omega))
   have y_1 : i_l1 < (a_0.length : Int) := by clear p; exact (by first | assumption | omega | (simp_all <;> omega))
   have q {a C} (s : Scr a C) := p (sB h_0 <| sG (cF .f32) a_0 i_l1 y_0 y_1 <| s)
   clear p
   cases h_1 : (fcmp .neq .f32 (a_0.getD i_l1.toNat default) (ofInt .f32 k_l0)) with
   | true =>
    have e : lo_laws_heldFloat32S_1 a_0 k_1 (k + 1) k_l0 i_l1 = (.inl ()) := by simp only [lo_laws_heldFloat32S_1, h_0, h_1, cond_true]
    rw [e]
    exact outR (e := .ret) E0Ok hMixed [] mk_laws_heldFloat32S_1_1 [] (q (sB h_1 <| sN)) (by kernel_rfl) (by intro h; cases h)
   | false =>
    have y_2 : (-9223372036854775808 : Int) ≤ (i_l1 + 1) := by clear q; exact (by first | assumption | omega | (simp_all <;> omega))
    have y_3 : (i_l1 + 1) ≤ (9223372036854775807 : Int) := by clear q; exact (by first | assumption | omega | (simp_all <;> omega))
    have e : lo_laws_heldFloat32S_1 a_0 k_1 (k + 1) k_l0 i_l1 = (lo_laws_heldFloat32S_1 a_0 k_1 k (IntKind.wrap .i64 (k_l0 + 1)) (i_l1 + 1)) := by simp only [lo_laws_heldFloat32S_1, h_0, h_1, cond_true, cond_false]
    rw [e]
    exact nextR E0Ok hMixed [] mk_laws_heldFloat32S_1_0 [] (ih (IntKind.wrap .i64 (k_l0 + 1)) (i_l1 + 1) (show 0 ≤ (i_l1 + 1) from (by first | assumption | omega | (simp_all <;> omega))) (by first | assumption | omega | (simp_all <;> omega))) (q (sB h_1 <| sW .i64 (k_l0 + 1) <| sI (i_l1 + 1) y_2 y_3 <| sN)) (by kernel_rfl)
  | false =>
   have gh_0 := of_decide_eq_false h_0
   have e : lo_laws_heldFloat32S_1 a_0 k_1 (k + 1) k_l0 i_l1 = (.inr k_l0) := by simp only [lo_laws_heldFloat32S_1, h_0, cond_false]
   rw [e]
   exact outR (e := (.exit 0)) E0Ok hMixed [] mk_laws_heldFloat32S_1_2 [] (p (sB h_0 <| sN)) (by kernel_rfl) (by intro h; cases h)

def lr_laws_heldFloat32S_1_0 (a_0 : (List Nat)) (k_1 : Int) : (Unit) ⊕ (Int) := (lo_laws_heldFloat32S_1 a_0 k_1 (((a_0.length : Int) - 0).toNat + 1) k_1 0)

def v_laws_heldFloat32S (a_0 : (List Nat)) (k_1 : Int) : Int := (match (lr_laws_heldFloat32S_1_0 a_0 k_1) with
  | .inl r1 => (-1)
  | .inr r1 => r1)

theorem t_laws_heldFloat32S (a_0 : (List Nat)) (k_1 : Int) (hp0 : a_0.length ≤ 1073741824)  : Fn prog 27 [.sl (a_0.map (cF .f32)), .i .i64 k_1] (.i .i64 (v_laws_heldFloat32S a_0 k_1)) [] := by
 cases h0 : (lr_laws_heldFloat32S_1_0 a_0 k_1) with
 | inl r1 =>
  refine fnS E0Ok hMixed (c := bodyOf f27) [] (.i .i64 (-1)) [] func27 (sL mk_laws_heldFloat32S_1_0 0 (lp_val (ls_laws_heldFloat32S_1 a_0 k_1) (x := (lr_laws_heldFloat32S_1_0 a_0 k_1)) (lp_laws_heldFloat32S_1 a_0 k_1 hp0 (((a_0.length : Int) - 0).toNat + 1) k_1 0 (show 0 ≤ 0 from (by first | assumption | omega | (simp_all <;> omega))) (Nat.lt_succ_self _)) h0) <| sK [] sN) rfl (by kernel_rfl) (by kernel_rfl) rfl ?_ ?_
  · simp only [v_laws_heldFloat32S, h0]
  · rfl
 | inr r1 =>
  refine fnS E0Ok hMixed (c := bodyOf f27) [] (.i .i64 r1) [] func27 (sL mk_laws_heldFloat32S_1_0 0 (lp_val (ls_laws_heldFloat32S_1 a_0 k_1) (x := (lr_laws_heldFloat32S_1_0 a_0 k_1)) (lp_laws_heldFloat32S_1 a_0 k_1 hp0 (((a_0.length : Int) - 0).toNat + 1) k_1 0 (show 0 ≤ 0 from (by first | assumption | omega | (simp_all <;> omega))) (Nat.lt_succ_self _)) h0) <| sK [] sN) rfl (by kernel_rfl) (by kernel_rfl) rfl ?_ ?_
  · simp only [v_laws_heldFloat32S, h0]
  · rfl

def hp_Float32 (x : Nat) (c : Int) : Bool := (!(fcmp .neq .f32 x (ofInt .f32 c)))
def hq_Float32 (_ : Nat) (c : Int) : Int := (IntKind.wrap .i64 (c + 1))
theorem hdeq_Float32 (a : List Nat) (c : Int) : v_laws_heldFloat32S a c = match hdL hp_Float32 hq_Float32 a c with
    | some c' => c'
    | none => -1 := by
  unfold v_laws_heldFloat32S lr_laws_heldFloat32S_1_0
  rw [held_loop (p := hp_Float32) (q := hq_Float32) (a := a) (x := ()) (lo := lo_laws_heldFloat32S_1 a c) (fun k c i => by
    rw [lo_laws_heldFloat32S_1]
    unfold hp_Float32 hq_Float32
    generalize a.getD i.toNat default = x
    cases decide (i < (a.length : Int)) <;> cases fcmp .neq .f32 x (ofInt .f32 c) <;> rfl) _ _ _ (Int.le_refl 0) (Nat.lt_succ_self _)]
  simp only [Int.toNat_zero, List.drop_zero]
  cases hdL hp_Float32 hq_Float32 a c <;> rfl

def v_laws_heldBody (a_0 : GBody) (k_1 : Int) : Int := (cond (decide ((v_laws_heldMesh a_0.Mesh k_1) < 0))
  (-1)
  (cond (decide ((v_laws_heldSpringS a_0.Springs (v_laws_heldMesh a_0.Mesh k_1)) < 0))
    (-1)
    (cond (decide ((v_laws_heldFloat32S a_0.Weights (v_laws_heldSpringS a_0.Springs (v_laws_heldMesh a_0.Mesh k_1))) < 0))
      (-1)
      (v_laws_heldFloat32S a_0.Weights (v_laws_heldSpringS a_0.Springs (v_laws_heldMesh a_0.Mesh k_1))))))

theorem t_laws_heldBody (a_0 : GBody) (k_1 : Int) (hp0 : a_0.Mesh.Places.length ≤ 1073741824) (hp1 : a_0.Mesh.Triangles.length ≤ 1073741824) (hp2 : ∀ t ∈ a_0.Mesh.Triangles, t.length ≤ 1073741824) (hp3 : a_0.Springs.length ≤ 1073741824) (hp4 : a_0.Weights.length ≤ 1073741824)  : Fn prog 47 [.agg [.sl (a_0.Mesh.Places.map GVector.cells), .sl (a_0.Mesh.Triangles.map (cL (cI .i64))), .sl (a_0.Springs.map GSpring.cells), .f .f32 a_0.Film, .f .f32 a_0.Bend, .sl (a_0.Weights.map (cF .f32)), .f .f32 a_0.Fall.X, .f .f32 a_0.Fall.Y, .f .f32 a_0.Fall.Z], .i .i64 k_1] (.i .i64 (v_laws_heldBody a_0 k_1)) [] := by
 have p {a C} (s : Scr a C) := sF (t_laws_heldMesh a_0.Mesh k_1 hp0 hp1 hp2) <| s
 cases h0 : (decide ((v_laws_heldMesh a_0.Mesh k_1) < 0)) with
 | true =>
  have gh0 := of_decide_eq_true h0
  refine fnS E0Ok hMixed (c := bodyOf f47) [] (.i .i64 (-1)) [] func47 (p (sB h0 <| sK [] sN)) rfl (by kernel_rfl) (by kernel_rfl) rfl ?_ ?_
  · simp only [v_laws_heldBody, h0, cond_true]
  · rfl
 | false =>
  have gh0 := of_decide_eq_false h0
  have q {a C} (s : Scr a C) := p (sB h0 <| sF (t_laws_heldSpringS a_0.Springs (v_laws_heldMesh a_0.Mesh k_1) hp3) <| s)
  clear p
  cases h1 : (decide ((v_laws_heldSpringS a_0.Springs (v_laws_heldMesh a_0.Mesh k_1)) < 0)) with
  | true =>
   have gh1 := of_decide_eq_true h1
   refine fnS E0Ok hMixed (c := bodyOf f47) [] (.i .i64 (-1)) [] func47 (q (sB h1 <| sK [] sN)) rfl (by kernel_rfl) (by kernel_rfl) rfl ?_ ?_
   · simp only [v_laws_heldBody, h0, h1, cond_true, cond_false]
   · rfl
  | false =>
   have gh1 := of_decide_eq_false h1
   have p {a C} (s : Scr a C) := q (sB h1 <| sF (t_laws_heldFloat32S a_0.Weights (v_laws_heldSpringS a_0.Springs (v_laws_heldMesh a_0.Mesh k_1)) hp4) <| s)
   clear q
   cases h2 : (decide ((v_laws_heldFloat32S a_0.Weights (v_laws_heldSpringS a_0.Springs (v_laws_heldMesh a_0.Mesh k_1))) < 0)) with
   | true =>
    have gh2 := of_decide_eq_true h2
    refine fnS E0Ok hMixed (c := bodyOf f47) [] (.i .i64 (-1)) [] func47 (p (sB h2 <| sK [] sN)) rfl (by kernel_rfl) (by kernel_rfl) rfl ?_ ?_
    · simp only [v_laws_heldBody, h0, h1, h2, cond_true, cond_false]
    · rfl
   | false =>
    have gh2 := of_decide_eq_false h2
    refine fnS E0Ok hMixed (c := bodyOf f47) [] (.i .i64 (v_laws_heldFloat32S a_0.Weights (v_laws_heldSpringS a_0.Springs (v_laws_heldMesh a_0.Mesh k_1)))) [] func47 (p (sB h2 <| sK [] sN)) rfl (by kernel_rfl) (by kernel_rfl) rfl ?_ ?_
    · simp only [v_laws_heldBody, h0, h1, h2, cond_false]
    · rfl

def nd_laws_FnExactSpringEdges_0 (aM_0 : GMesh) (aStiff_1 : Nat) : Int := (v_laws_heldBody (⟨(⟨(v_laws_markBody_mAooonnonnnZn ((v_impl_SpringEdges aM_0 aStiff_1).1) 1).2.1, (v_laws_markBody_mAooonnonnnZn ((v_impl_SpringEdges aM_0 aStiff_1).1) 1).2.2.1⟩ : GMesh), (v_laws_markBody_mAooonnonnnZn ((v_impl_SpringEdges aM_0 aStiff_1).1) 1).2.2.2.1, (v_impl_SpringEdges aM_0 aStiff_1).1.Film, (v_impl_SpringEdges aM_0 aStiff_1).1.Bend, (v_laws_markBody_mAooonnonnnZn ((v_impl_SpringEdges aM_0 aStiff_1).1) 1).2.2.2.2, (v_impl_SpringEdges aM_0 aStiff_1).1.Fall⟩ : GBody) 1)

def v_laws_FnExactSpringEdges (aM_0 : GMesh) (aStiff_1 : Nat) : Bool := (cond (decide ((v_laws_szMesh aM_0 1048576) < 0))
  true
  (cond (v_laws_eqBody ((v_impl_SpringEdges aM_0 aStiff_1).1) ((v_spec_SpringEdges aM_0 aStiff_1).1))
    (cond ((v_impl_SpringEdges aM_0 aStiff_1).2 == (v_spec_SpringEdges aM_0 aStiff_1).2)
      (cond (v_laws_eqMesh aM_0 aM_0)
        (cond (decide ((v_laws_markMesh_mAooZn aM_0 1).1 < 0))
          false
          (cond (decide ((nd_laws_FnExactSpringEdges_0 aM_0 aStiff_1) < 0))
            false
            (cond ((nd_laws_FnExactSpringEdges_0 aM_0 aStiff_1) != (v_laws_markBody_mAooonnonnnZn ((v_impl_SpringEdges aM_0 aStiff_1).1) 1).1)
              false
              true)))
        false)
      false)
    false))

set_option maxHeartbeats 1000000 in
theorem t_laws_FnExactSpringEdges (aM_0 : GMesh) (aStiff_1 : Nat) (hp0 : aM_0.Places.length ≤ 9223372036854775807) (hp1 : aM_0.Triangles.length ≤ 9223372036854775807) (hp2 : ∀ t ∈ aM_0.Triangles, t.length ≤ 9223372036854775807)  : Fn prog 9 [.agg [.sl (aM_0.Places.map GVector.cells), .sl (aM_0.Triangles.map (cL (cI .i64)))], .f .f32 aStiff_1] (.b (v_laws_FnExactSpringEdges aM_0 aStiff_1)) [] := by
 have z0 := (ok_laws_szMesh aM_0 1048576 (by omega) (by omega) (by assumption) (by omega) (by omega))
 have p {a C} (s : Scr a C) := sF (t_laws_szMesh aM_0 1048576 hp0 hp1 hp2) <| s
 cases h0 : (decide ((v_laws_szMesh aM_0 1048576) < 0)) with
 | true =>
  have gh0 := of_decide_eq_true h0
  refine fnS E0Ok hMixed (c := bodyOf f9) [] (.b true) [] func9 (p (sB h0 <| sK [] sN)) rfl (by kernel_rfl) (by kernel_rfl) rfl ?_ ?_
  · simp only [v_laws_FnExactSpringEdges, h0, cond_true]
  · rfl
 | false =>
  have gh0 := of_decide_eq_false h0
  have y0 : aM_0.Places.length ≤ 1073741824 := by clear p; exact (by first | assumption | omega | (simp_all <;> omega))
  have y1 : aM_0.Triangles.length ≤ 1073741824 := by clear p; exact (by first | assumption | omega | (simp_all <;> omega))
  have y2 : ∀ t ∈ aM_0.Triangles, t.length ≤ 1073741824 := by clear p; exact (by first | assumption | (intro t ht; first | (have q := z0.2.2.2.2 t ht; omega)) | omega | (simp_all <;> omega))
  have l1 := (leP_spec_SpringEdges aM_0 aStiff_1)
  have l2 := (leT_spec_SpringEdges aM_0 aStiff_1)
  have l3 := (leW_spec_SpringEdges aM_0 aStiff_1)
  have l4 := (leS_spec_SpringEdges aM_0 aStiff_1)
  have l5 := (leP_impl_SpringEdges aM_0 aStiff_1)
  have l6 := (leT_impl_SpringEdges aM_0 aStiff_1)
  have l7 := (leW_impl_SpringEdges aM_0 aStiff_1)
  have l8 := (leS_impl_SpringEdges aM_0 aStiff_1)
  have y3 : ((v_impl_SpringEdges aM_0 aStiff_1).1).Mesh.Places.length ≤ 1073741824 := by clear p; exact (by first | assumption | omega | (simp_all <;> omega))
  have y4 : ((v_impl_SpringEdges aM_0 aStiff_1).1).Mesh.Triangles.length ≤ 1073741824 := by clear p; exact (by first | assumption | omega | (simp_all <;> omega))
  have y5 : ∀ t ∈ ((v_impl_SpringEdges aM_0 aStiff_1).1).Mesh.Triangles, t.length ≤ 1073741824 := by clear p; exact (by first | assumption | (intro t ht; first | (have q := z0.2.2.2.2 t ht; omega) | (have q := z0.2.2.2.2 t (mem_impl_SpringEdges aM_0 aStiff_1 t ht); omega)) | omega | (simp_all <;> omega))
  have y6 : ((v_impl_SpringEdges aM_0 aStiff_1).1).Springs.length ≤ 1073741824 := by clear p; exact (by first | assumption | omega | (simp_all <;> omega))
  have y7 : ((v_impl_SpringEdges aM_0 aStiff_1).1).Weights.length ≤ 1073741824 := by clear p; exact (by first | assumption | omega | (simp_all <;> omega))
  have y8 : ((v_spec_SpringEdges aM_0 aStiff_1).1).Mesh.Places.length ≤ 1073741824 := by clear p; exact (by first | assumption | omega | (simp_all <;> omega))
  have y9 : ((v_spec_SpringEdges aM_0 aStiff_1).1).Mesh.Triangles.length ≤ 1073741824 := by clear p; exact (by first | assumption | omega | (simp_all <;> omega))
  have y10 : ∀ t ∈ ((v_spec_SpringEdges aM_0 aStiff_1).1).Mesh.Triangles, t.length ≤ 1073741824 := by clear p; exact (by first | assumption | (intro t ht; first | (have q := z0.2.2.2.2 t ht; omega) | (have q := z0.2.2.2.2 t (mem_spec_SpringEdges aM_0 aStiff_1 t ht); omega)) | omega | (simp_all <;> omega))
  have y11 : ((v_spec_SpringEdges aM_0 aStiff_1).1).Springs.length ≤ 1073741824 := by clear p; exact (by first | assumption | omega | (simp_all <;> omega))
  have y12 : ((v_spec_SpringEdges aM_0 aStiff_1).1).Weights.length ≤ 1073741824 := by clear p; exact (by first | assumption | omega | (simp_all <;> omega))
  have q {a C} (s : Scr a C) := p (sB h0 <| sF (i_laws_toMesh aM_0 y0 y1 y2) <| sF (Fn.castA (args' := [.agg [.sl (aM_0.Places.map GVector.cells), .sl ((aM_0.Triangles.map fun l => l.map (cI .i64)).map fun l => [.sl l])], .f .f32 aStiff_1]) (t_spec_SpringEdges aM_0 aStiff_1 y0 y1 y2) (by first | (simp [cL, Function.comp_def]; done) | (simp [cL, Function.comp_def]; rfl))) <| sF (i_laws_toMesh aM_0 y0 y1 y2) <| sF (Fn.castA (args' := [.agg [.sl (aM_0.Places.map GVector.cells), .sl ((aM_0.Triangles.map fun l => l.map (cI .i64)).map fun l => [.sl l])], .f .f32 aStiff_1]) (t_impl_SpringEdges aM_0 aStiff_1 y0 y1 y2) (by first | (simp [cL, Function.comp_def]; done) | (simp [cL, Function.comp_def]; rfl))) <| sF (Fn.castA (args' := [.agg [.sl (((v_impl_SpringEdges aM_0 aStiff_1).1.Mesh.Places).map GVector.cells), .sl ((((v_impl_SpringEdges aM_0 aStiff_1).1.Mesh.Triangles).map fun l => l.map (cI .i64)).map fun l => [.sl l]), .sl (((v_impl_SpringEdges aM_0 aStiff_1).1.Springs).map GSpring.cells), .f .f32 ((v_impl_SpringEdges aM_0 aStiff_1).1.Film), .f .f32 ((v_impl_SpringEdges aM_0 aStiff_1).1.Bend), .sl (((v_impl_SpringEdges aM_0 aStiff_1).1.Weights).map (cF .f32)), .f .f32 ((v_impl_SpringEdges aM_0 aStiff_1).1.Fall.X), .f .f32 ((v_impl_SpringEdges aM_0 aStiff_1).1.Fall.Y), .f .f32 ((v_impl_SpringEdges aM_0 aStiff_1).1.Fall.Z)], .agg [.sl (((v_spec_SpringEdges aM_0 aStiff_1).1.Mesh.Places).map GVector.cells), .sl ((((v_spec_SpringEdges aM_0 aStiff_1).1.Mesh.Triangles).map fun l => l.map (cI .i64)).map fun l => [.sl l]), .sl (((v_spec_SpringEdges aM_0 aStiff_1).1.Springs).map GSpring.cells), .f .f32 ((v_spec_SpringEdges aM_0 aStiff_1).1.Film), .f .f32 ((v_spec_SpringEdges aM_0 aStiff_1).1.Bend), .sl (((v_spec_SpringEdges aM_0 aStiff_1).1.Weights).map (cF .f32)), .f .f32 ((v_spec_SpringEdges aM_0 aStiff_1).1.Fall.X), .f .f32 ((v_spec_SpringEdges aM_0 aStiff_1).1.Fall.Y), .f .f32 ((v_spec_SpringEdges aM_0 aStiff_1).1.Fall.Z)]]) (t_laws_eqBody ((v_impl_SpringEdges aM_0 aStiff_1).1) ((v_spec_SpringEdges aM_0 aStiff_1).1) y3 y4 y5 y6 y7 y8 y9 y10 y11 y12) (by first | (simp [cL, Function.comp_def]; done) | (simp [cL, Function.comp_def]; rfl))) <| s)
  clear p
  cases h1 : (v_laws_eqBody ((v_impl_SpringEdges aM_0 aStiff_1).1) ((v_spec_SpringEdges aM_0 aStiff_1).1)) with
  | true =>
   have p {a C} (s : Scr a C) := q (sB' h1 <| sB' h1 <| sB' h1 <| sB' h1 <| s)
   clear q
   cases h2 : ((v_impl_SpringEdges aM_0 aStiff_1).2 == (v_spec_SpringEdges aM_0 aStiff_1).2) with
   | true =>
    have gh2 := eq_of_beq h2
    have q {a C} (s : Scr a C) := p (sB' h2 <| sK [3, 3] <| sF (i_laws_toMesh aM_0 y0 y1 y2) <| sF (Fn.castA (args' := [.agg [.sl (aM_0.Places.map GVector.cells), .sl ((aM_0.Triangles.map fun l => l.map (cI .i64)).map fun l => [.sl l])], .agg [.sl (aM_0.Places.map GVector.cells), .sl ((aM_0.Triangles.map fun l => l.map (cI .i64)).map fun l => [.sl l])]]) (t_laws_eqMesh aM_0 aM_0 y0 y1 y2 y0 y1 y2) (by first | (simp [cL, Function.comp_def]; done) | (simp [cL, Function.comp_def]; rfl))) <| s)
    clear p
    cases h3 : (v_laws_eqMesh aM_0 aM_0) with
    | true =>
     have p {a C} (s : Scr a C) := q (sB' h3 <| sS (CallSt.frame (t_laws_markMesh_mAooZn aM_0 1 y0 y1 y2) [8, 9] (R := [.box 25 [.sl (aM_0.Places.map GVector.cells), .sl (aM_0.Triangles.map (cL (cI .i64)))], .vec 67 3 (aM_0.Places.map GVector.cells) false, .nest 52 (aM_0.Triangles.map fun l => l.map (cI .i64)) false, .vec 67 3 (((v_spec_SpringEdges aM_0 aStiff_1).1.Mesh.Places).map GVector.cells) false, .nest 52 (((v_spec_SpringEdges aM_0 aStiff_1).1.Mesh.Triangles).map fun l => l.map (cI .i64)) false, .vec 132 4 (((v_spec_SpringEdges aM_0 aStiff_1).1.Springs).map GSpring.cells) false, .vec 38 1 (((v_spec_SpringEdges aM_0 aStiff_1).1.Weights).map (cF .f32)) false, .box 69 [.own 3, .own 4, .own 5, .f .f32 ((v_spec_SpringEdges aM_0 aStiff_1).1.Film), .f .f32 ((v_spec_SpringEdges aM_0 aStiff_1).1.Bend), .own 6, .f .f32 ((v_spec_SpringEdges aM_0 aStiff_1).1.Fall.X), .f .f32 ((v_spec_SpringEdges aM_0 aStiff_1).1.Fall.Y), .f .f32 ((v_spec_SpringEdges aM_0 aStiff_1).1.Fall.Z)], .vec 67 3 (aM_0.Places.map GVector.cells) false, .nest 52 (aM_0.Triangles.map fun l => l.map (cI .i64)) false, .box 31 [.own 8, .own 9], .vec 67 3 (((v_impl_SpringEdges aM_0 aStiff_1).1.Mesh.Places).map GVector.cells) false, .nest 52 (((v_impl_SpringEdges aM_0 aStiff_1).1.Mesh.Triangles).map fun l => l.map (cI .i64)) false, .vec 132 4 (((v_impl_SpringEdges aM_0 aStiff_1).1.Springs).map GSpring.cells) false, .vec 38 1 (((v_impl_SpringEdges aM_0 aStiff_1).1.Weights).map (cF .f32)) false, .box 69 [.own 11, .own 12, .own 13, .f .f32 ((v_impl_SpringEdges aM_0 aStiff_1).1.Film), .f .f32 ((v_impl_SpringEdges aM_0 aStiff_1).1.Bend), .own 14, .f .f32 ((v_impl_SpringEdges aM_0 aStiff_1).1.Fall.X), .f .f32 ((v_impl_SpringEdges aM_0 aStiff_1).1.Fall.Y), .f .f32 ((v_impl_SpringEdges aM_0 aStiff_1).1.Fall.Z)], .vec 67 3 (aM_0.Places.map GVector.cells) false, .nest 52 (aM_0.Triangles.map fun l => l.map (cI .i64)) false]) (args' := [.agg [.own 8, .own 9], .i .i64 1]) rfl rfl rfl rfl rfl rfl) <| s)
     clear q
     cases h4 : (decide ((v_laws_markMesh_mAooZn aM_0 1).1 < 0)) with
     | true =>
      have gh4 := of_decide_eq_true h4
      refine fnS E0Ok hMixed (c := bodyOf f9) [] (.b false) [] func9 (p (sB h4 <| sB h4 <| sB h4 <| sB h4 <| sB h4 <| sB (show true = true from rfl) <| sB (show true = true from rfl) <| sB (show true = true from rfl) <| sB (show true = true from rfl) <| sB (show true = true from rfl) <| sK [] sN)) rfl (by kernel_rfl) (by kernel_rfl) rfl ?_ ?_
      · simp only [v_laws_FnExactSpringEdges, h0, h1, h2, h3, h4, cond_true, cond_false]
      · rfl
     | false =>
      have gh4 := of_decide_eq_false h4
      have y13 : (⟨(⟨(v_laws_markBody_mAooonnonnnZn ((v_impl_SpringEdges aM_0 aStiff_1).1) 1).2.1, (v_laws_markBody_mAooonnonnnZn ((v_impl_SpringEdges aM_0 aStiff_1).1) 1).2.2.1⟩ : GMesh), (v_laws_markBody_mAooonnonnnZn ((v_impl_SpringEdges aM_0 aStiff_1).1) 1).2.2.2.1, (v_impl_SpringEdges aM_0 aStiff_1).1.Film, (v_impl_SpringEdges aM_0 aStiff_1).1.Bend, (v_laws_markBody_mAooonnonnnZn ((v_impl_SpringEdges aM_0 aStiff_1).1) 1).2.2.2.2, (v_impl_SpringEdges aM_0 aStiff_1).1.Fall⟩ : GBody).Mesh.Places.length ≤ 1073741824 := by clear p; exact (by first | assumption | omega | (simp_all <;> omega))
      have y14 : (⟨(⟨(v_laws_markBody_mAooonnonnnZn ((v_impl_SpringEdges aM_0 aStiff_1).1) 1).2.1, (v_laws_markBody_mAooonnonnnZn ((v_impl_SpringEdges aM_0 aStiff_1).1) 1).2.2.1⟩ : GMesh), (v_laws_markBody_mAooonnonnnZn ((v_impl_SpringEdges aM_0 aStiff_1).1) 1).2.2.2.1, (v_impl_SpringEdges aM_0 aStiff_1).1.Film, (v_impl_SpringEdges aM_0 aStiff_1).1.Bend, (v_laws_markBody_mAooonnonnnZn ((v_impl_SpringEdges aM_0 aStiff_1).1) 1).2.2.2.2, (v_impl_SpringEdges aM_0 aStiff_1).1.Fall⟩ : GBody).Mesh.Triangles.length ≤ 1073741824 := by clear p; exact (by first | assumption | omega | (simp_all <;> omega))
      have y15 : ∀ t ∈ (⟨(⟨(v_laws_markBody_mAooonnonnnZn ((v_impl_SpringEdges aM_0 aStiff_1).1) 1).2.1, (v_laws_markBody_mAooonnonnnZn ((v_impl_SpringEdges aM_0 aStiff_1).1) 1).2.2.1⟩ : GMesh), (v_laws_markBody_mAooonnonnnZn ((v_impl_SpringEdges aM_0 aStiff_1).1) 1).2.2.2.1, (v_impl_SpringEdges aM_0 aStiff_1).1.Film, (v_impl_SpringEdges aM_0 aStiff_1).1.Bend, (v_laws_markBody_mAooonnonnnZn ((v_impl_SpringEdges aM_0 aStiff_1).1) 1).2.2.2.2, (v_impl_SpringEdges aM_0 aStiff_1).1.Fall⟩ : GBody).Mesh.Triangles, t.length ≤ 1073741824 := by clear p; exact (by first | assumption | exact mlen_Body_mAooonnonnnZn _ _ _ (by assumption))
      have y16 : (⟨(⟨(v_laws_markBody_mAooonnonnnZn ((v_impl_SpringEdges aM_0 aStiff_1).1) 1).2.1, (v_laws_markBody_mAooonnonnnZn ((v_impl_SpringEdges aM_0 aStiff_1).1) 1).2.2.1⟩ : GMesh), (v_laws_markBody_mAooonnonnnZn ((v_impl_SpringEdges aM_0 aStiff_1).1) 1).2.2.2.1, (v_impl_SpringEdges aM_0 aStiff_1).1.Film, (v_impl_SpringEdges aM_0 aStiff_1).1.Bend, (v_laws_markBody_mAooonnonnnZn ((v_impl_SpringEdges aM_0 aStiff_1).1) 1).2.2.2.2, (v_impl_SpringEdges aM_0 aStiff_1).1.Fall⟩ : GBody).Springs.length ≤ 1073741824 := by clear p; exact (by first | assumption | omega | (simp_all <;> omega))
      have y17 : (⟨(⟨(v_laws_markBody_mAooonnonnnZn ((v_impl_SpringEdges aM_0 aStiff_1).1) 1).2.1, (v_laws_markBody_mAooonnonnnZn ((v_impl_SpringEdges aM_0 aStiff_1).1) 1).2.2.1⟩ : GMesh), (v_laws_markBody_mAooonnonnnZn ((v_impl_SpringEdges aM_0 aStiff_1).1) 1).2.2.2.1, (v_impl_SpringEdges aM_0 aStiff_1).1.Film, (v_impl_SpringEdges aM_0 aStiff_1).1.Bend, (v_laws_markBody_mAooonnonnnZn ((v_impl_SpringEdges aM_0 aStiff_1).1) 1).2.2.2.2, (v_impl_SpringEdges aM_0 aStiff_1).1.Fall⟩ : GBody).Weights.length ≤ 1073741824 := by clear p; exact (by first | assumption | omega | (simp_all <;> omega))
      have q {a C} (s : Scr a C) := p (sB h4 <| sB h4 <| sB h4 <| sF (Fn.castA (args' := [.agg [.sl (((v_impl_SpringEdges aM_0 aStiff_1).1.Mesh.Places).map GVector.cells), .sl ((((v_impl_SpringEdges aM_0 aStiff_1).1.Mesh.Triangles).map fun l => l.map (cI .i64)).map fun l => [.sl l]), .sl (((v_impl_SpringEdges aM_0 aStiff_1).1.Springs).map GSpring.cells), .f .f32 ((v_impl_SpringEdges aM_0 aStiff_1).1.Film), .f .f32 ((v_impl_SpringEdges aM_0 aStiff_1).1.Bend), .sl (((v_impl_SpringEdges aM_0 aStiff_1).1.Weights).map (cF .f32)), .f .f32 ((v_impl_SpringEdges aM_0 aStiff_1).1.Fall.X), .f .f32 ((v_impl_SpringEdges aM_0 aStiff_1).1.Fall.Y), .f .f32 ((v_impl_SpringEdges aM_0 aStiff_1).1.Fall.Z)], .agg [.sl (((v_spec_SpringEdges aM_0 aStiff_1).1.Mesh.Places).map GVector.cells), .sl ((((v_spec_SpringEdges aM_0 aStiff_1).1.Mesh.Triangles).map fun l => l.map (cI .i64)).map fun l => [.sl l]), .sl (((v_spec_SpringEdges aM_0 aStiff_1).1.Springs).map GSpring.cells), .f .f32 ((v_spec_SpringEdges aM_0 aStiff_1).1.Film), .f .f32 ((v_spec_SpringEdges aM_0 aStiff_1).1.Bend), .sl (((v_spec_SpringEdges aM_0 aStiff_1).1.Weights).map (cF .f32)), .f .f32 ((v_spec_SpringEdges aM_0 aStiff_1).1.Fall.X), .f .f32 ((v_spec_SpringEdges aM_0 aStiff_1).1.Fall.Y), .f .f32 ((v_spec_SpringEdges aM_0 aStiff_1).1.Fall.Z)]]) (t_laws_eqBody ((v_impl_SpringEdges aM_0 aStiff_1).1) ((v_spec_SpringEdges aM_0 aStiff_1).1) y3 y4 y5 y6 y7 y8 y9 y10 y11 y12) (by first | (simp [cL, Function.comp_def]; done) | (simp [cL, Function.comp_def]; rfl))) <| sB h4 <| sB h4 <| sB' h1 <| sB' h1 <| sB' h1 <| sB' h1 <| sB' h2 <| sS (CallSt.frame (t_laws_markBody_mAooonnonnnZn ((v_impl_SpringEdges aM_0 aStiff_1).1) 1 y3 y4 y5 y6 y7) [11, 12, 13, 14] (R := [.box 25 [.sl (aM_0.Places.map GVector.cells), .sl (aM_0.Triangles.map (cL (cI .i64)))], .vec 67 3 (aM_0.Places.map GVector.cells) false, .nest 52 (aM_0.Triangles.map fun l => l.map (cI .i64)) false, .vec 67 3 (((v_spec_SpringEdges aM_0 aStiff_1).1.Mesh.Places).map GVector.cells) false, .nest 52 (((v_spec_SpringEdges aM_0 aStiff_1).1.Mesh.Triangles).map fun l => l.map (cI .i64)) false, .vec 132 4 (((v_spec_SpringEdges aM_0 aStiff_1).1.Springs).map GSpring.cells) false, .vec 38 1 (((v_spec_SpringEdges aM_0 aStiff_1).1.Weights).map (cF .f32)) false, .box 69 [.own 3, .own 4, .own 5, .f .f32 ((v_spec_SpringEdges aM_0 aStiff_1).1.Film), .f .f32 ((v_spec_SpringEdges aM_0 aStiff_1).1.Bend), .own 6, .f .f32 ((v_spec_SpringEdges aM_0 aStiff_1).1.Fall.X), .f .f32 ((v_spec_SpringEdges aM_0 aStiff_1).1.Fall.Y), .f .f32 ((v_spec_SpringEdges aM_0 aStiff_1).1.Fall.Z)], .vec 67 3 (((v_laws_markMesh_mAooZn aM_0 1).2.1).map GVector.cells) false, .nest 52 (((v_laws_markMesh_mAooZn aM_0 1).2.2).map fun l => l.map (cI .i64)) false, .box 31 [.own 8, .own 9], .vec 67 3 (((v_impl_SpringEdges aM_0 aStiff_1).1.Mesh.Places).map GVector.cells) false, .nest 52 (((v_impl_SpringEdges aM_0 aStiff_1).1.Mesh.Triangles).map fun l => l.map (cI .i64)) false, .vec 132 4 (((v_impl_SpringEdges aM_0 aStiff_1).1.Springs).map GSpring.cells) false, .vec 38 1 (((v_impl_SpringEdges aM_0 aStiff_1).1.Weights).map (cF .f32)) false, .box 69 [.own 11, .own 12, .own 13, .f .f32 ((v_impl_SpringEdges aM_0 aStiff_1).1.Film), .f .f32 ((v_impl_SpringEdges aM_0 aStiff_1).1.Bend), .own 14, .f .f32 ((v_impl_SpringEdges aM_0 aStiff_1).1.Fall.X), .f .f32 ((v_impl_SpringEdges aM_0 aStiff_1).1.Fall.Y), .f .f32 ((v_impl_SpringEdges aM_0 aStiff_1).1.Fall.Z)], .vec 67 3 (aM_0.Places.map GVector.cells) false, .nest 52 (aM_0.Triangles.map fun l => l.map (cI .i64)) false]) (args' := [.agg [.own 11, .own 12, .own 13, .f .f32 ((v_impl_SpringEdges aM_0 aStiff_1).1.Film), .f .f32 ((v_impl_SpringEdges aM_0 aStiff_1).1.Bend), .own 14, .f .f32 ((v_impl_SpringEdges aM_0 aStiff_1).1.Fall.X), .f .f32 ((v_impl_SpringEdges aM_0 aStiff_1).1.Fall.Y), .f .f32 ((v_impl_SpringEdges aM_0 aStiff_1).1.Fall.Z)], .i .i64 1]) rfl rfl rfl rfl rfl rfl) <| sF (Fn.castA (args' := [.agg [.sl (((v_laws_markBody_mAooonnonnnZn ((v_impl_SpringEdges aM_0 aStiff_1).1) 1).2.1).map GVector.cells), .sl ((((v_laws_markBody_mAooonnonnnZn ((v_impl_SpringEdges aM_0 aStiff_1).1) 1).2.2.1).map fun l => l.map (cI .i64)).map fun l => [.sl l]), .sl (((v_laws_markBody_mAooonnonnnZn ((v_impl_SpringEdges aM_0 aStiff_1).1) 1).2.2.2.1).map GSpring.cells), .f .f32 ((v_impl_SpringEdges aM_0 aStiff_1).1.Film), .f .f32 ((v_impl_SpringEdges aM_0 aStiff_1).1.Bend), .sl (((v_laws_markBody_mAooonnonnnZn ((v_impl_SpringEdges aM_0 aStiff_1).1) 1).2.2.2.2).map (cF .f32)), .f .f32 ((v_impl_SpringEdges aM_0 aStiff_1).1.Fall.X), .f .f32 ((v_impl_SpringEdges aM_0 aStiff_1).1.Fall.Y), .f .f32 ((v_impl_SpringEdges aM_0 aStiff_1).1.Fall.Z)], .i .i64 1]) (t_laws_heldBody (⟨(⟨(v_laws_markBody_mAooonnonnnZn ((v_impl_SpringEdges aM_0 aStiff_1).1) 1).2.1, (v_laws_markBody_mAooonnonnnZn ((v_impl_SpringEdges aM_0 aStiff_1).1) 1).2.2.1⟩ : GMesh), (v_laws_markBody_mAooonnonnnZn ((v_impl_SpringEdges aM_0 aStiff_1).1) 1).2.2.2.1, (v_impl_SpringEdges aM_0 aStiff_1).1.Film, (v_impl_SpringEdges aM_0 aStiff_1).1.Bend, (v_laws_markBody_mAooonnonnnZn ((v_impl_SpringEdges aM_0 aStiff_1).1) 1).2.2.2.2, (v_impl_SpringEdges aM_0 aStiff_1).1.Fall⟩ : GBody) 1 y13 y14 y15 y16 y17) (by first | (simp [cL, Function.comp_def]; done) | (simp [cL, Function.comp_def]; rfl))) <| s)
      clear p
      cases h5 : (decide ((nd_laws_FnExactSpringEdges_0 aM_0 aStiff_1) < 0)) with
      | true =>
       have gh5 := of_decide_eq_true h5
       refine fnS E0Ok hMixed (c := bodyOf f9) [] (.b false) [] func9 (q (sB h5 <| sK [] sN)) rfl (by kernel_rfl) (by kernel_rfl) rfl ?_ ?_
       · simp only [v_laws_FnExactSpringEdges, h0, h1, h2, h3, h4, h5, cond_true, cond_false]
       · rfl
      | false =>
       have gh5 := of_decide_eq_false h5
       have p {a C} (s : Scr a C) := q (sB h5 <| s)
       clear q
       cases h6 : ((nd_laws_FnExactSpringEdges_0 aM_0 aStiff_1) != (v_laws_markBody_mAooonnonnnZn ((v_impl_SpringEdges aM_0 aStiff_1).1) 1).1) with
       | true =>
        have gh6 := bne_iff_ne.1 h6
        refine fnS E0Ok hMixed (c := bodyOf f9) [] (.b false) [] func9 (p (sB h6 <| sK [] sN)) rfl (by kernel_rfl) (by kernel_rfl) rfl ?_ ?_
        · simp only [v_laws_FnExactSpringEdges, h0, h1, h2, h3, h4, h5, h6, cond_true, cond_false]
        · rfl
       | false =>
        have gh6 := bne_eq_false_iff_eq.1 h6
        refine fnS E0Ok hMixed (c := bodyOf f9) [] (.b true) [] func9 (p (sB h6 <| sF (i_laws_toMesh aM_0 y0 y1 y2) <| sF (Fn.castA (args' := [.agg [.sl (aM_0.Places.map GVector.cells), .sl ((aM_0.Triangles.map fun l => l.map (cI .i64)).map fun l => [.sl l])], .f .f32 aStiff_1]) (t_impl_SpringEdges aM_0 aStiff_1 y0 y1 y2) (by first | (simp [cL, Function.comp_def]; done) | (simp [cL, Function.comp_def]; rfl))) <| sF (Fn.castA (args' := [.agg [.sl (((v_impl_SpringEdges aM_0 aStiff_1).1.Mesh.Places).map GVector.cells), .sl ((((v_impl_SpringEdges aM_0 aStiff_1).1.Mesh.Triangles).map fun l => l.map (cI .i64)).map fun l => [.sl l]), .sl (((v_impl_SpringEdges aM_0 aStiff_1).1.Springs).map GSpring.cells), .f .f32 ((v_impl_SpringEdges aM_0 aStiff_1).1.Film), .f .f32 ((v_impl_SpringEdges aM_0 aStiff_1).1.Bend), .sl (((v_impl_SpringEdges aM_0 aStiff_1).1.Weights).map (cF .f32)), .f .f32 ((v_impl_SpringEdges aM_0 aStiff_1).1.Fall.X), .f .f32 ((v_impl_SpringEdges aM_0 aStiff_1).1.Fall.Y), .f .f32 ((v_impl_SpringEdges aM_0 aStiff_1).1.Fall.Z)], .agg [.sl (((v_spec_SpringEdges aM_0 aStiff_1).1.Mesh.Places).map GVector.cells), .sl ((((v_spec_SpringEdges aM_0 aStiff_1).1.Mesh.Triangles).map fun l => l.map (cI .i64)).map fun l => [.sl l]), .sl (((v_spec_SpringEdges aM_0 aStiff_1).1.Springs).map GSpring.cells), .f .f32 ((v_spec_SpringEdges aM_0 aStiff_1).1.Film), .f .f32 ((v_spec_SpringEdges aM_0 aStiff_1).1.Bend), .sl (((v_spec_SpringEdges aM_0 aStiff_1).1.Weights).map (cF .f32)), .f .f32 ((v_spec_SpringEdges aM_0 aStiff_1).1.Fall.X), .f .f32 ((v_spec_SpringEdges aM_0 aStiff_1).1.Fall.Y), .f .f32 ((v_spec_SpringEdges aM_0 aStiff_1).1.Fall.Z)]]) (t_laws_eqBody ((v_impl_SpringEdges aM_0 aStiff_1).1) ((v_spec_SpringEdges aM_0 aStiff_1).1) y3 y4 y5 y6 y7 y8 y9 y10 y11 y12) (by first | (simp [cL, Function.comp_def]; done) | (simp [cL, Function.comp_def]; rfl))) <| sB' h1 <| sB' h1 <| sB' h1 <| sB' h1 <| sB' h2 <| sF (Fn.castA (args' := [.agg [.sl (((v_laws_markBody_mAooonnonnnZn ((v_impl_SpringEdges aM_0 aStiff_1).1) 1).2.1).map GVector.cells), .sl ((((v_laws_markBody_mAooonnonnnZn ((v_impl_SpringEdges aM_0 aStiff_1).1) 1).2.2.1).map fun l => l.map (cI .i64)).map fun l => [.sl l]), .sl (((v_laws_markBody_mAooonnonnnZn ((v_impl_SpringEdges aM_0 aStiff_1).1) 1).2.2.2.1).map GSpring.cells), .f .f32 ((v_impl_SpringEdges aM_0 aStiff_1).1.Film), .f .f32 ((v_impl_SpringEdges aM_0 aStiff_1).1.Bend), .sl (((v_laws_markBody_mAooonnonnnZn ((v_impl_SpringEdges aM_0 aStiff_1).1) 1).2.2.2.2).map (cF .f32)), .f .f32 ((v_impl_SpringEdges aM_0 aStiff_1).1.Fall.X), .f .f32 ((v_impl_SpringEdges aM_0 aStiff_1).1.Fall.Y), .f .f32 ((v_impl_SpringEdges aM_0 aStiff_1).1.Fall.Z)], .i .i64 1]) (t_laws_heldBody (⟨(⟨(v_laws_markBody_mAooonnonnnZn ((v_impl_SpringEdges aM_0 aStiff_1).1) 1).2.1, (v_laws_markBody_mAooonnonnnZn ((v_impl_SpringEdges aM_0 aStiff_1).1) 1).2.2.1⟩ : GMesh), (v_laws_markBody_mAooonnonnnZn ((v_impl_SpringEdges aM_0 aStiff_1).1) 1).2.2.2.1, (v_impl_SpringEdges aM_0 aStiff_1).1.Film, (v_impl_SpringEdges aM_0 aStiff_1).1.Bend, (v_laws_markBody_mAooonnonnnZn ((v_impl_SpringEdges aM_0 aStiff_1).1) 1).2.2.2.2, (v_impl_SpringEdges aM_0 aStiff_1).1.Fall⟩ : GBody) 1 y13 y14 y15 y16 y17) (by first | (simp [cL, Function.comp_def]; done) | (simp [cL, Function.comp_def]; rfl))) <| sB h5 <| sB h6 <| sK [] sN)) rfl (by kernel_rfl) (by kernel_rfl) rfl ?_ ?_
        · simp only [v_laws_FnExactSpringEdges, h0, h1, h2, h3, h4, h5, h6, cond_true, cond_false]
        · rfl
    | false =>
     refine fnS E0Ok hMixed (c := bodyOf f9) [] (.b false) [] func9 (q (sB' h3 <| sK [] sN)) rfl (by kernel_rfl) (by kernel_rfl) rfl ?_ ?_
     · simp only [v_laws_FnExactSpringEdges, h0, h1, h2, h3, cond_true, cond_false]
     · rfl
   | false =>
    have gh2 := ne_of_beq_false h2
    refine fnS E0Ok hMixed (c := bodyOf f9) [] (.b false) [] func9 (p (sB' h2 <| sK [] sN)) rfl (by kernel_rfl) (by kernel_rfl) rfl ?_ ?_
    · simp only [v_laws_FnExactSpringEdges, h0, h1, h2, cond_true, cond_false]
    · rfl
  | false =>
   refine fnS E0Ok hMixed (c := bodyOf f9) [] (.b false) [] func9 (q (sB' h1 <| sB' h1 <| sB' h1 <| sB' h1 <| sB (show true = true from rfl) <| sK [] sN)) rfl (by kernel_rfl) (by kernel_rfl) rfl ?_ ?_
   · simp only [v_laws_FnExactSpringEdges, h0, h1, cond_false]
   · rfl

theorem held_Vector_mon (a : List GVector) (c : Int) : v_laws_heldVectorS (v_laws_markVectorS_mon a c).2 c = (v_laws_markVectorS_mon a c).1 := by
  rw [hdeq_Vector, mkeq_Vector_mon, hdL_mkL (fun x c => by simp [hp_Vector, mk_Vector_mon, ofInt_self]) (fun x c => rfl)]

theorem held_Int64_min (a : List Int) (c : Int) : v_laws_heldInt64S (v_laws_markInt64S_min a c).2 c = (v_laws_markInt64S_min a c).1 := by
  rw [hdeq_Int64, mkeq_Int64_min, hdL_mkL (fun x c => by simp [hp_Int64, mk_Int64_min, ofInt_self]) (fun x c => rfl)]

theorem held_Int64SS_mon (a : List (List Int)) (c : Int) (g0 : a.length ≤ 1073741824) (g1 : ∀ t ∈ a, t.length ≤ 1073741824) (h0 : 0 ≤ c) (h1 : c ≤ 3458764513820540928) : v_laws_heldInt64SS (v_laws_markInt64SS_mon a c).2 c = (v_laws_markInt64SS_mon a c).1 := by
  rw [hdeq_Int64SS, mkeq_Int64SS, hdL_mkL_b (W := 1073741824) (M := 4611686018427387904) a c (fun x hx c k0 k1 => by
    have q := markge_Int64_min x c (g1 x hx) k0 (by omega)
    have q2 := held_Int64_min x c
    refine ⟨?_, q2, q.1, q.2⟩
    rw [q2]
    simp; omega) h0 (by omega)]

theorem held_Mesh_mAooZn (a : GMesh) (c : Int) (g0 : a.Places.length ≤ 1073741824) (g1 : a.Triangles.length ≤ 1073741824) (g2 : ∀ t ∈ a.Triangles, t.length ≤ 1073741824) (h0 : 0 ≤ c) (h1 : c ≤ 1152921504606846976) : v_laws_heldMesh ⟨(v_laws_markMesh_mAooZn a c).2.1, (v_laws_markMesh_mAooZn a c).2.2⟩ c = (v_laws_markMesh_mAooZn a c).1 := by
  have p0 := markge_Vector_mon a.Places c g0 (by omega) (by omega)
  have q0 := held_Vector_mon a.Places c
  have p1 := markge_Int64SS_mon a.Triangles ((v_laws_markVectorS_mon a.Places c).1) g1 g2 (by omega) (by omega)
  have q1 := held_Int64SS_mon a.Triangles ((v_laws_markVectorS_mon a.Places c).1) g1 g2 (by omega) (by omega)
  unfold v_laws_heldMesh
  simp only [v_laws_markMesh_mAooZn, true_and] at *
  simp only [q0, q1]
  repeat (first | rw [decide_eq_false (by omega), cond_false])
  try rfl

theorem held_Spring_mon (a : List GSpring) (c : Int) : v_laws_heldSpringS (v_laws_markSpringS_mon a c).2 c = (v_laws_markSpringS_mon a c).1 := by
  rw [hdeq_Spring, mkeq_Spring_mon, hdL_mkL (fun x c => by simp [hp_Spring, mk_Spring_mon, ofInt_self]) (fun x c => rfl)]

theorem held_Float32_mon (a : List Nat) (c : Int) : v_laws_heldFloat32S (v_laws_markFloat32S_mon a c).2 c = (v_laws_markFloat32S_mon a c).1 := by
  rw [hdeq_Float32, mkeq_Float32_mon, hdL_mkL (fun x c => by simp [hp_Float32, mk_Float32_mon, ofInt_self]) (fun x c => rfl)]

theorem held_Body_mAooonnonnnZn (a : GBody) (c : Int) (g0 : a.Mesh.Places.length ≤ 1073741824) (g1 : a.Mesh.Triangles.length ≤ 1073741824) (g2 : ∀ t ∈ a.Mesh.Triangles, t.length ≤ 1073741824) (g3 : a.Springs.length ≤ 1073741824) (g4 : a.Weights.length ≤ 1073741824) (h0 : 0 ≤ c) (h1 : c ≤ 1152921504606846976) : v_laws_heldBody ⟨⟨(v_laws_markBody_mAooonnonnnZn a c).2.1, (v_laws_markBody_mAooonnonnnZn a c).2.2.1⟩, (v_laws_markBody_mAooonnonnnZn a c).2.2.2.1, a.Film, a.Bend, (v_laws_markBody_mAooonnonnnZn a c).2.2.2.2, a.Fall⟩ c = (v_laws_markBody_mAooonnonnnZn a c).1 := by
  have p0 := markge_Mesh_mAooZn a.Mesh c g0 g1 g2 (by omega) (by omega)
  have q0 := held_Mesh_mAooZn a.Mesh c g0 g1 g2 (by omega) (by omega)
  have p1 := markge_Spring_mon a.Springs ((v_laws_markMesh_mAooZn a.Mesh c).1) g3 (by omega) (by omega)
  have q1 := held_Spring_mon a.Springs ((v_laws_markMesh_mAooZn a.Mesh c).1)
  have p2 := markge_Float32_mon a.Weights ((v_laws_markSpringS_mon a.Springs ((v_laws_markMesh_mAooZn a.Mesh c).1)).1) g4 (by omega) (by omega)
  have q2 := held_Float32_mon a.Weights ((v_laws_markSpringS_mon a.Springs ((v_laws_markMesh_mAooZn a.Mesh c).1)).1)
  unfold v_laws_heldBody
  simp only [v_laws_markBody_mAooonnonnnZn, v_laws_markMesh_mAooZn] at *
  simp only [q0, q1, q2]
  repeat (first | rw [decide_eq_false (by omega), cond_false])
  try rfl

theorem true_laws_FnExactSpringEdges (a : GMesh) (s : Nat) (h0_0 : a.Places.length ≤ 9223372036854775807) (h0_1 : a.Triangles.length ≤ 9223372036854775807) (h0_2 : ∀ t ∈ a.Triangles, t.length ≤ 9223372036854775807) : v_laws_FnExactSpringEdges a s = true := by
  unfold v_laws_FnExactSpringEdges
  have z0 := ok_laws_szMesh a 1048576 h0_0 h0_1 h0_2 (by omega) (by omega)
  cases hc0 : decide (v_laws_szMesh a 1048576 < 0) with
  | true => rfl
  | false =>
    simp only [decide_eq_false_iff_not] at hc0
    have hm0 := markge_Mesh_mAooZn a 1 (by omega) (by omega) (fun t ht => by have q := z0.2.2.2.2 t ht; omega) (by omega) (by omega)
    have l0 := leP_impl_SpringEdges a s
    have l1 := leT_impl_SpringEdges a s
    have l2 := leW_impl_SpringEdges a s
    have l3 := leS_impl_SpringEdges a s
    have v0 := markge_Body_mAooonnonnnZn (v_impl_SpringEdges a s).1 1 (by omega) (by omega) (fun t ht => by have q := z0.2.2.2.2 t (mem_impl_SpringEdges a s t ht); omega) (by omega) (by omega) (by omega) (by omega)
    have w0 := held_Body_mAooonnonnnZn (v_impl_SpringEdges a s).1 1 (by omega) (by omega) (fun t ht => by have q := z0.2.2.2.2 t (mem_impl_SpringEdges a s t ht); omega) (by omega) (by omega) (by omega) (by omega)
    simp only [nd_laws_FnExactSpringEdges_0, eq_SpringEdges] at *
    simp only [eqMesh_self, same_self, eqBody_self, w0, beq_self_eq_true, Bool.not_true, cond_true, cond_false, bne_self_eq_false]
    rw [decide_eq_false (by omega)]
    rw [decide_eq_false (by omega)]
    rfl

end Go.Ab
