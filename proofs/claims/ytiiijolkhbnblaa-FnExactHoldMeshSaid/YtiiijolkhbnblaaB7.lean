/- The functions of this seat as plain Lean, and that the program's are these. Printed by a program of the prover's own. -/
import Derived.Test.YtiiijolkhbnblaaB6
set_option linter.unusedVariables false
set_option linter.unusedSimpArgs false
set_option maxRecDepth 100000
namespace Go.Ab
open Go.RowKit Go.Proofs.Try

def lr_laws_heldVectorS_1_0 (a_0 : (List GVector)) (k_1 : Int) : (Unit) ⊕ (Int) := (lo_laws_heldVectorS_1 a_0 k_1 (((a_0.length : Int) - 0).toNat + 1) k_1 0)

def v_laws_heldVectorS (a_0 : (List GVector)) (k_1 : Int) : Int := (match (lr_laws_heldVectorS_1_0 a_0 k_1) with
  | .inl r1 => (-1)
  | .inr r1 => r1)

theorem t_laws_heldVectorS (a_0 : (List GVector)) (k_1 : Int) (hp0 : a_0.length ≤ 1073741824)  : Fn prog 42 [.sl (a_0.map GVector.cells), .i .i64 k_1] (.i .i64 (v_laws_heldVectorS a_0 k_1)) [] := by
 cases h0 : (lr_laws_heldVectorS_1_0 a_0 k_1) with
 | inl r1 =>
  refine fnS E0Ok hMixed (c := bodyOf f42) [] (.i .i64 (-1)) [] func42 (sL mk_laws_heldVectorS_1_0 0 (lp_val (ls_laws_heldVectorS_1 a_0 k_1) (x := (lr_laws_heldVectorS_1_0 a_0 k_1)) (lp_laws_heldVectorS_1 a_0 k_1 hp0 (((a_0.length : Int) - 0).toNat + 1) k_1 0 (show 0 ≤ 0 from (by first | assumption | omega | (simp_all <;> omega))) (Nat.lt_succ_self _)) h0) <| sK [] sN) rfl (by kernel_rfl) (by kernel_rfl) rfl ?_ ?_
  · simp only [v_laws_heldVectorS, h0]
  · rfl
 | inr r1 =>
  refine fnS E0Ok hMixed (c := bodyOf f42) [] (.i .i64 r1) [] func42 (sL mk_laws_heldVectorS_1_0 0 (lp_val (ls_laws_heldVectorS_1 a_0 k_1) (x := (lr_laws_heldVectorS_1_0 a_0 k_1)) (lp_laws_heldVectorS_1 a_0 k_1 hp0 (((a_0.length : Int) - 0).toNat + 1) k_1 0 (show 0 ≤ 0 from (by first | assumption | omega | (simp_all <;> omega))) (Nat.lt_succ_self _)) h0) <| sK [] sN) rfl (by kernel_rfl) (by kernel_rfl) rfl ?_ ?_
  · simp only [v_laws_heldVectorS, h0]
  · rfl

def hp_Vector (x : GVector) (c : Int) : Bool := (!(fcmp .neq .f32 x.X (ofInt .f32 c))) && (!(fcmp .neq .f32 x.Y (ofInt .f32 (IntKind.wrap .i64 (c + 1))))) && (!(fcmp .neq .f32 x.Z (ofInt .f32 (IntKind.wrap .i64 ((IntKind.wrap .i64 (c + 1)) + 1)))))
def hq_Vector (_ : GVector) (c : Int) : Int := (IntKind.wrap .i64 ((IntKind.wrap .i64 ((IntKind.wrap .i64 (c + 1)) + 1)) + 1))
theorem hdeq_Vector (a : List GVector) (c : Int) : v_laws_heldVectorS a c = match hdL hp_Vector hq_Vector a c with
    | some c' => c'
    | none => -1 := by
  unfold v_laws_heldVectorS lr_laws_heldVectorS_1_0
  rw [held_loop (p := hp_Vector) (q := hq_Vector) (a := a) (x := ()) (lo := lo_laws_heldVectorS_1 a c) (fun k c i => by
    rw [lo_laws_heldVectorS_1]
    unfold hp_Vector hq_Vector
    generalize a.getD i.toNat default = x
    cases decide (i < (a.length : Int)) <;> cases fcmp .neq .f32 x.X (ofInt .f32 c) <;> cases fcmp .neq .f32 x.Y (ofInt .f32 (IntKind.wrap .i64 (c + 1))) <;> cases fcmp .neq .f32 x.Z (ofInt .f32 (IntKind.wrap .i64 ((IntKind.wrap .i64 (c + 1)) + 1))) <;> rfl) _ _ _ (Int.le_refl 0) (Nat.lt_succ_self _)]
  simp only [Int.toNat_zero, List.drop_zero]
  cases hdL hp_Vector hq_Vector a c <;> rfl

def lo_laws_heldInt64S_1 (a_0 : (List Int)) (k_1 : Int) : Nat → Int → Int → (Unit) ⊕ (Int)
  | 0, _, _ => .inl default
  | k + 1, k_l0, i_l1 => (cond (decide (i_l1 < (a_0.length : Int)))
    (cond ((a_0.getD i_l1.toNat default) != k_l0)
      (.inl ())
      (lo_laws_heldInt64S_1 a_0 k_1 k (IntKind.wrap .i64 (k_l0 + 1)) (i_l1 + 1)))
    (.inr k_l0))

def ls_laws_heldInt64S_1 (a_0 : (List Int)) (k_1 : Int) : (Unit) ⊕ (Int) → Ex × St
  | .inl r => (.ret, ⟨[.any, .any, .any, .any, .i .i64 (-1), .any, .any, .any, .any, .any, .any, .any, .any, .any, .any, .any, .any, .any, .any, .any, .any], []⟩)
  | .inr r => ((.exit 0), ⟨[.any, .i .i64 r, .any, .any, .any, .any, .any, .any, .any, .any, .any, .any, .any, .any, .any, .any, .any, .any, .any, .any, .any], []⟩)

def hd_laws_heldInt64S_1 (a_0 : (List Int)) (k_1 : Int) (k_l0 : Int) (i_l1 : Int) : St := ⟨[.sl (a_0.map (cI .i64)), .i .i64 k_l0, .any, .any, .any, .i .i64 i_l1, .any, .any, .any, .any, .any, .any, .any, .any, .any, .any, .any, .any, .any, .any, .any], []⟩

def mk_laws_heldInt64S_1_0 : List Bool := [true, true, false, false, false, true, false, false, false, false, false, false, false, false, false, false, false, false, false, false, false]

def mk_laws_heldInt64S_1_1 : List Bool := [false, false, false, false, true, false, false, false, false, false, false, false, false, false, false, false, false, false, false, false, false]

def mk_laws_heldInt64S_1_2 : List Bool := [false, true, false, false, false, false, false, false, false, false, false, false, false, false, false, false, false, false, false, false, false]

theorem lp_laws_heldInt64S_1 (a_0 : (List Int)) (k_1 : Int) (hp0 : a_0.length ≤ 1073741824) : ∀ (k : Nat) (k_l0 : Int) (i_l1 : Int) (hv_laws_heldInt64S_1_0 : 0 ≤ i_l1) (hk : ((a_0.length : Int) - i_l1).toNat < k), Lp prog 0 (sub (bodyOf f35) [1, 0, 1, 0, 0]) (hd_laws_heldInt64S_1 a_0 k_1 k_l0 i_l1) (ls_laws_heldInt64S_1 a_0 k_1 (lo_laws_heldInt64S_1 a_0 k_1 k k_l0 i_l1)).1 (ls_laws_heldInt64S_1 a_0 k_1 (lo_laws_heldInt64S_1 a_0 k_1 k k_l0 i_l1)).2 := by
 intro k
 induction k with
 | zero => intro k_l0 i_l1 hv_laws_heldInt64S_1_0 hk; exact absurd hk (Nat.not_lt_zero _)
 | succ k ih =>
  intro k_l0 i_l1 hv_laws_heldInt64S_1_0 hk
  have p {a C} (s : Scr a C) := sZ (cI .i64) a_0 <| s
  cases h_0 : (decide (i_l1 < (a_0.length : Int))) with
  | true =>
   have gh_0 := of_decide_eq_true h_0
   have y_0 : (0 : Int) ≤ i_l1 := by clear p; exact (by first | assumption | omega | (simp_all <;> omega))
   have y_1 : i_l1 < (a_0.length : Int) := by clear p; exact (by first | assumption | omega | (simp_all <;> omega))
   have q {a C} (s : Scr a C) := p (sB h_0 <| sG (cI .i64) a_0 i_l1 y_0 y_1 <| s)
   clear p
   cases h_1 : ((a_0.getD i_l1.toNat default) != k_l0) with
   | true =>
    have gh_1 := bne_iff_ne.1 h_1
    have e : lo_laws_heldInt64S_1 a_0 k_1 (k + 1) k_l0 i_l1 = (.inl ()) := by simp only [lo_laws_heldInt64S_1, h_0, h_1, cond_true]
    rw [e]
    exact outR (e := .ret) E0Ok hMixed [] mk_laws_heldInt64S_1_1 [] (q (sB h_1 <| sN)) (by kernel_rfl) (by intro h; cases h)
   | false =>
    have gh_1 := bne_eq_false_iff_eq.1 h_1
    have y_2 : (-9223372036854775808 : Int) ≤ (i_l1 + 1) := by clear q; exact (by first | assumption | omega | (simp_all <;> omega))
    have y_3 : (i_l1 + 1) ≤ (9223372036854775807 : Int) := by clear q; exact (by first | assumption | omega | (simp_all <;> omega))
    have e : lo_laws_heldInt64S_1 a_0 k_1 (k + 1) k_l0 i_l1 = (lo_laws_heldInt64S_1 a_0 k_1 k (IntKind.wrap .i64 (k_l0 + 1)) (i_l1 + 1)) := by simp only [lo_laws_heldInt64S_1, h_0, h_1, cond_true, cond_false]
    rw [e]
    exact nextR E0Ok hMixed [] mk_laws_heldInt64S_1_0 [] (ih (IntKind.wrap .i64 (k_l0 + 1)) (i_l1 + 1) (show 0 ≤ (i_l1 + 1) from (by first | assumption | omega | (simp_all <;> omega))) (by first | assumption | omega | (simp_all <;> omega))) (q (sB h_1 <| sW .i64 (k_l0 + 1) <| sI (i_l1 + 1) y_2 y_3 <| sN)) (by kernel_rfl)
  | false =>
   have gh_0 := of_decide_eq_false h_0
   have e : lo_laws_heldInt64S_1 a_0 k_1 (k + 1) k_l0 i_l1 = (.inr k_l0) := by simp only [lo_laws_heldInt64S_1, h_0, cond_false]
   rw [e]
   exact outR (e := (.exit 0)) E0Ok hMixed [] mk_laws_heldInt64S_1_2 [] (p (sB h_0 <| sN)) (by kernel_rfl) (by intro h; cases h)

def lr_laws_heldInt64S_1_0 (a_0 : (List Int)) (k_1 : Int) : (Unit) ⊕ (Int) := (lo_laws_heldInt64S_1 a_0 k_1 (((a_0.length : Int) - 0).toNat + 1) k_1 0)

def v_laws_heldInt64S (a_0 : (List Int)) (k_1 : Int) : Int := (match (lr_laws_heldInt64S_1_0 a_0 k_1) with
  | .inl r1 => (-1)
  | .inr r1 => r1)

theorem t_laws_heldInt64S (a_0 : (List Int)) (k_1 : Int) (hp0 : a_0.length ≤ 1073741824)  : Fn prog 35 [.sl (a_0.map (cI .i64)), .i .i64 k_1] (.i .i64 (v_laws_heldInt64S a_0 k_1)) [] := by
 cases h0 : (lr_laws_heldInt64S_1_0 a_0 k_1) with
 | inl r1 =>
  refine fnS E0Ok hMixed (c := bodyOf f35) [] (.i .i64 (-1)) [] func35 (sL mk_laws_heldInt64S_1_0 0 (lp_val (ls_laws_heldInt64S_1 a_0 k_1) (x := (lr_laws_heldInt64S_1_0 a_0 k_1)) (lp_laws_heldInt64S_1 a_0 k_1 hp0 (((a_0.length : Int) - 0).toNat + 1) k_1 0 (show 0 ≤ 0 from (by first | assumption | omega | (simp_all <;> omega))) (Nat.lt_succ_self _)) h0) <| sK [] sN) rfl (by kernel_rfl) (by kernel_rfl) rfl ?_ ?_
  · simp only [v_laws_heldInt64S, h0]
  · rfl
 | inr r1 =>
  refine fnS E0Ok hMixed (c := bodyOf f35) [] (.i .i64 r1) [] func35 (sL mk_laws_heldInt64S_1_0 0 (lp_val (ls_laws_heldInt64S_1 a_0 k_1) (x := (lr_laws_heldInt64S_1_0 a_0 k_1)) (lp_laws_heldInt64S_1 a_0 k_1 hp0 (((a_0.length : Int) - 0).toNat + 1) k_1 0 (show 0 ≤ 0 from (by first | assumption | omega | (simp_all <;> omega))) (Nat.lt_succ_self _)) h0) <| sK [] sN) rfl (by kernel_rfl) (by kernel_rfl) rfl ?_ ?_
  · simp only [v_laws_heldInt64S, h0]
  · rfl

def hp_Int64 (x : Int) (c : Int) : Bool := (!(x != c))
def hq_Int64 (_ : Int) (c : Int) : Int := (IntKind.wrap .i64 (c + 1))
theorem hdeq_Int64 (a : List Int) (c : Int) : v_laws_heldInt64S a c = match hdL hp_Int64 hq_Int64 a c with
    | some c' => c'
    | none => -1 := by
  unfold v_laws_heldInt64S lr_laws_heldInt64S_1_0
  rw [held_loop (p := hp_Int64) (q := hq_Int64) (a := a) (x := ()) (lo := lo_laws_heldInt64S_1 a c) (fun k c i => by
    rw [lo_laws_heldInt64S_1]
    unfold hp_Int64 hq_Int64
    generalize a.getD i.toNat default = x
    cases decide (i < (a.length : Int)) <;> cases (x != c) <;> rfl) _ _ _ (Int.le_refl 0) (Nat.lt_succ_self _)]
  simp only [Int.toNat_zero, List.drop_zero]
  cases hdL hp_Int64 hq_Int64 a c <;> rfl

def lo_laws_heldInt64SS_1 (a_0 : (List (List Int))) (k_1 : Int) : Nat → Int → Int → (Unit) ⊕ (Int)
  | 0, _, _ => .inl default
  | k + 1, k_l0, i_l1 => (cond (decide (i_l1 < (a_0.length : Int)))
    (cond (decide ((v_laws_heldInt64S (a_0.getD i_l1.toNat default) k_l0) < 0))
      (.inl ())
      (lo_laws_heldInt64SS_1 a_0 k_1 k (v_laws_heldInt64S (a_0.getD i_l1.toNat default) k_l0) (i_l1 + 1)))
    (.inr k_l0))

def ls_laws_heldInt64SS_1 (a_0 : (List (List Int))) (k_1 : Int) : (Unit) ⊕ (Int) → Ex × St
  | .inl r => (.ret, ⟨[.any, .any, .any, .any, .i .i64 (-1), .any, .any, .any, .any, .any, .any, .any, .any, .any, .any, .any, .any, .any, .any, .any, .any], []⟩)
  | .inr r => ((.exit 0), ⟨[.any, .i .i64 r, .any, .any, .any, .any, .any, .any, .any, .any, .any, .any, .any, .any, .any, .any, .any, .any, .any, .any, .any], []⟩)

def hd_laws_heldInt64SS_1 (a_0 : (List (List Int))) (k_1 : Int) (k_l0 : Int) (i_l1 : Int) : St := ⟨[.sl (a_0.map (cL (cI .i64))), .i .i64 k_l0, .any, .any, .any, .i .i64 i_l1, .any, .any, .any, .any, .any, .any, .any, .any, .any, .any, .any, .any, .any, .any, .any], []⟩

def mk_laws_heldInt64SS_1_0 : List Bool := [true, true, false, false, false, true, false, false, false, false, false, false, false, false, false, false, false, false, false, false, false]

def mk_laws_heldInt64SS_1_1 : List Bool := [false, false, false, false, true, false, false, false, false, false, false, false, false, false, false, false, false, false, false, false, false]

def mk_laws_heldInt64SS_1_2 : List Bool := [false, true, false, false, false, false, false, false, false, false, false, false, false, false, false, false, false, false, false, false, false]

theorem lp_laws_heldInt64SS_1 (a_0 : (List (List Int))) (k_1 : Int) (hp0 : a_0.length ≤ 1073741824) (hp1 : ∀ t ∈ a_0, t.length ≤ 1073741824) : ∀ (k : Nat) (k_l0 : Int) (i_l1 : Int) (hv_laws_heldInt64SS_1_0 : 0 ≤ i_l1) (hk : ((a_0.length : Int) - i_l1).toNat < k), Lp prog 0 (sub (bodyOf f63) [1, 0, 1, 0, 0]) (hd_laws_heldInt64SS_1 a_0 k_1 k_l0 i_l1) (ls_laws_heldInt64SS_1 a_0 k_1 (lo_laws_heldInt64SS_1 a_0 k_1 k k_l0 i_l1)).1 (ls_laws_heldInt64SS_1 a_0 k_1 (lo_laws_heldInt64SS_1 a_0 k_1 k k_l0 i_l1)).2 := by
 intro k
 induction k with
 | zero => intro k_l0 i_l1 hv_laws_heldInt64SS_1_0 hk; exact absurd hk (Nat.not_lt_zero _)
 | succ k ih =>
  intro k_l0 i_l1 hv_laws_heldInt64SS_1_0 hk
  have p {a C} (s : Scr a C) := sZ (cL (cI .i64)) a_0 <| s
  cases h_0 : (decide (i_l1 < (a_0.length : Int))) with
  | true =>
   have gh_0 := of_decide_eq_true h_0
   have y_0 : (0 : Int) ≤ i_l1 := by clear p; exact (by first | assumption | omega | (simp_all <;> omega))
   have y_1 : i_l1 < (a_0.length : Int) := by clear p; exact (by first | assumption | omega | (simp_all <;> omega))
   have y_2 : (a_0.getD i_l1.toNat default).length ≤ 1073741824 := by clear p; exact (by first | assumption | omega | (simp_all <;> omega))
   have q {a C} (s : Scr a C) := p (sB h_0 <| sG (cL (cI .i64)) a_0 i_l1 y_0 y_1 <| sF (t_laws_heldInt64S (a_0.getD i_l1.toNat default) k_l0 y_2) <| s)
   clear p
   cases h_1 : (decide ((v_laws_heldInt64S (a_0.getD i_l1.toNat default) k_l0) < 0)) with
   | true =>
    have gh_1 := of_decide_eq_true h_1
    have e : lo_laws_heldInt64SS_1 a_0 k_1 (k + 1) k_l0 i_l1 = (.inl ()) := by simp only [lo_laws_heldInt64SS_1, h_0, h_1, cond_true]
    rw [e]
    exact outR (e := .ret) E0Ok hMixed [] mk_laws_heldInt64SS_1_1 [] (q (sB h_1 <| sN)) (by kernel_rfl) (by intro h; cases h)
   | false =>
    have gh_1 := of_decide_eq_false h_1
    have y_3 : (-9223372036854775808 : Int) ≤ (i_l1 + 1) := by clear q; exact (by first | assumption | omega | (simp_all <;> omega))
    have y_4 : (i_l1 + 1) ≤ (9223372036854775807 : Int) := by clear q; exact (by first | assumption | omega | (simp_all <;> omega))
    have e : lo_laws_heldInt64SS_1 a_0 k_1 (k + 1) k_l0 i_l1 = (lo_laws_heldInt64SS_1 a_0 k_1 k (v_laws_heldInt64S (a_0.getD i_l1.toNat default) k_l0) (i_l1 + 1)) := by simp only [lo_laws_heldInt64SS_1, h_0, h_1, cond_true, cond_false]
    rw [e]
    exact nextR E0Ok hMixed [] mk_laws_heldInt64SS_1_0 [] (ih (v_laws_heldInt64S (a_0.getD i_l1.toNat default) k_l0) (i_l1 + 1) (show 0 ≤ (i_l1 + 1) from (by first | assumption | omega | (simp_all <;> omega))) (by first | assumption | omega | (simp_all <;> omega))) (q (sB h_1 <| sI (i_l1 + 1) y_3 y_4 <| sN)) (by kernel_rfl)
  | false =>
   have gh_0 := of_decide_eq_false h_0
   have e : lo_laws_heldInt64SS_1 a_0 k_1 (k + 1) k_l0 i_l1 = (.inr k_l0) := by simp only [lo_laws_heldInt64SS_1, h_0, cond_false]
   rw [e]
   exact outR (e := (.exit 0)) E0Ok hMixed [] mk_laws_heldInt64SS_1_2 [] (p (sB h_0 <| sN)) (by kernel_rfl) (by intro h; cases h)

def lr_laws_heldInt64SS_1_0 (a_0 : (List (List Int))) (k_1 : Int) : (Unit) ⊕ (Int) := (lo_laws_heldInt64SS_1 a_0 k_1 (((a_0.length : Int) - 0).toNat + 1) k_1 0)

def v_laws_heldInt64SS (a_0 : (List (List Int))) (k_1 : Int) : Int := (match (lr_laws_heldInt64SS_1_0 a_0 k_1) with
  | .inl r1 => (-1)
  | .inr r1 => r1)

theorem t_laws_heldInt64SS (a_0 : (List (List Int))) (k_1 : Int) (hp0 : a_0.length ≤ 1073741824) (hp1 : ∀ t ∈ a_0, t.length ≤ 1073741824)  : Fn prog 63 [.sl (a_0.map (cL (cI .i64))), .i .i64 k_1] (.i .i64 (v_laws_heldInt64SS a_0 k_1)) [] := by
 cases h0 : (lr_laws_heldInt64SS_1_0 a_0 k_1) with
 | inl r1 =>
  refine fnS E0Ok hMixed (c := bodyOf f63) [] (.i .i64 (-1)) [] func63 (sL mk_laws_heldInt64SS_1_0 0 (lp_val (ls_laws_heldInt64SS_1 a_0 k_1) (x := (lr_laws_heldInt64SS_1_0 a_0 k_1)) (lp_laws_heldInt64SS_1 a_0 k_1 hp0 hp1 (((a_0.length : Int) - 0).toNat + 1) k_1 0 (show 0 ≤ 0 from (by first | assumption | omega | (simp_all <;> omega))) (Nat.lt_succ_self _)) h0) <| sK [] sN) rfl (by kernel_rfl) (by kernel_rfl) rfl ?_ ?_
  · simp only [v_laws_heldInt64SS, h0]
  · rfl
 | inr r1 =>
  refine fnS E0Ok hMixed (c := bodyOf f63) [] (.i .i64 r1) [] func63 (sL mk_laws_heldInt64SS_1_0 0 (lp_val (ls_laws_heldInt64SS_1 a_0 k_1) (x := (lr_laws_heldInt64SS_1_0 a_0 k_1)) (lp_laws_heldInt64SS_1 a_0 k_1 hp0 hp1 (((a_0.length : Int) - 0).toNat + 1) k_1 0 (show 0 ≤ 0 from (by first | assumption | omega | (simp_all <;> omega))) (Nat.lt_succ_self _)) h0) <| sK [] sN) rfl (by kernel_rfl) (by kernel_rfl) rfl ?_ ?_
  · simp only [v_laws_heldInt64SS, h0]
  · rfl

theorem hdeq_Int64SS (a : List (List Int)) (c : Int) : v_laws_heldInt64SS a c = match hdL (fun x c => !(decide (v_laws_heldInt64S x c < 0))) v_laws_heldInt64S a c with
    | some c' => c'
    | none => -1 := by
  unfold v_laws_heldInt64SS lr_laws_heldInt64SS_1_0
  rw [held_loop (p := fun x c => !(decide (v_laws_heldInt64S x c < 0))) (q := v_laws_heldInt64S) (a := a) (x := ()) (lo := lo_laws_heldInt64SS_1 a c) (fun k c i => by
    rw [lo_laws_heldInt64SS_1]
    cases decide (i < (a.length : Int)) <;> cases decide (v_laws_heldInt64S (a.getD i.toNat default) c < 0) <;> rfl) _ _ _ (Int.le_refl 0) (Nat.lt_succ_self _)]
  simp only [Int.toNat_zero, List.drop_zero]
  cases hdL (fun x c => !(decide (v_laws_heldInt64S x c < 0))) v_laws_heldInt64S a c <;> rfl

def v_laws_heldMesh (a_0 : GMesh) (k_1 : Int) : Int := (cond (decide ((v_laws_heldVectorS a_0.Places k_1) < 0))
  (-1)
  (cond (decide ((v_laws_heldInt64SS a_0.Triangles (v_laws_heldVectorS a_0.Places k_1)) < 0))
    (-1)
    (v_laws_heldInt64SS a_0.Triangles (v_laws_heldVectorS a_0.Places k_1))))

theorem t_laws_heldMesh (a_0 : GMesh) (k_1 : Int) (hp0 : a_0.Places.length ≤ 1073741824) (hp1 : a_0.Triangles.length ≤ 1073741824) (hp2 : ∀ t ∈ a_0.Triangles, t.length ≤ 1073741824)  : Fn prog 49 [.agg [.sl (a_0.Places.map GVector.cells), .sl (a_0.Triangles.map (cL (cI .i64)))], .i .i64 k_1] (.i .i64 (v_laws_heldMesh a_0 k_1)) [] := by
 have p {a C} (s : Scr a C) := sF (t_laws_heldVectorS a_0.Places k_1 hp0) <| s
 cases h0 : (decide ((v_laws_heldVectorS a_0.Places k_1) < 0)) with
 | true =>
  have gh0 := of_decide_eq_true h0
  refine fnS E0Ok hMixed (c := bodyOf f49) [] (.i .i64 (-1)) [] func49 (p (sB h0 <| sK [] sN)) rfl (by kernel_rfl) (by kernel_rfl) rfl ?_ ?_
  · simp only [v_laws_heldMesh, h0, cond_true]
  · rfl
 | false =>
  have gh0 := of_decide_eq_false h0
  have q {a C} (s : Scr a C) := p (sB h0 <| sF (t_laws_heldInt64SS a_0.Triangles (v_laws_heldVectorS a_0.Places k_1) hp1 hp2) <| s)
  clear p
  cases h1 : (decide ((v_laws_heldInt64SS a_0.Triangles (v_laws_heldVectorS a_0.Places k_1)) < 0)) with
  | true =>
   have gh1 := of_decide_eq_true h1
   refine fnS E0Ok hMixed (c := bodyOf f49) [] (.i .i64 (-1)) [] func49 (q (sB h1 <| sK [] sN)) rfl (by kernel_rfl) (by kernel_rfl) rfl ?_ ?_
   · simp only [v_laws_heldMesh, h0, h1, cond_true, cond_false]
   · rfl
  | false =>
   have gh1 := of_decide_eq_false h1
   refine fnS E0Ok hMixed (c := bodyOf f49) [] (.i .i64 (v_laws_heldInt64SS a_0.Triangles (v_laws_heldVectorS a_0.Places k_1))) [] func49 (q (sB h1 <| sK [] sN)) rfl (by kernel_rfl) (by kernel_rfl) rfl ?_ ?_
   · simp only [v_laws_heldMesh, h0, h1, cond_false]
   · rfl

def nd_laws_FnExactHoldMesh_0 (aM_0 : GMesh) (aHolds_1 : (List GHold)) : Int := (v_laws_heldMesh (⟨(v_laws_markMesh_mAooZn ((v_impl_HoldMesh aM_0 aHolds_1).1) 1).2.1, (v_laws_markMesh_mAooZn ((v_impl_HoldMesh aM_0 aHolds_1).1) 1).2.2⟩ : GMesh) 1)

def v_laws_FnExactHoldMesh (aM_0 : GMesh) (aHolds_1 : (List GHold)) : Bool := (cond (decide ((v_laws_szMesh aM_0 1048576) < 0))
  true
  (cond (decide ((v_laws_szHoldS aHolds_1 (v_laws_szMesh aM_0 1048576)) < 0))
    true
    (cond (v_laws_eqMesh ((v_impl_HoldMesh aM_0 aHolds_1).1) ((v_spec_HoldMesh aM_0 aHolds_1).1))
      (cond ((v_impl_HoldMesh aM_0 aHolds_1).2 == (v_spec_HoldMesh aM_0 aHolds_1).2)
        (cond (v_laws_eqMesh aM_0 aM_0)
          (cond (v_laws_eqHoldS aHolds_1 aHolds_1)
            (cond (decide ((v_laws_markHoldS_mon aHolds_1 ((v_laws_markMesh_mAooZn aM_0 1).1)).1 < 0))
              false
              (cond (decide ((nd_laws_FnExactHoldMesh_0 aM_0 aHolds_1) < 0))
                false
                (cond ((nd_laws_FnExactHoldMesh_0 aM_0 aHolds_1) != (v_laws_markMesh_mAooZn ((v_impl_HoldMesh aM_0 aHolds_1).1) 1).1)
                  false
                  true)))
            false)
          false)
        false)
      false)))

set_option maxHeartbeats 1000000 in
theorem t_laws_FnExactHoldMesh (aM_0 : GMesh) (aHolds_1 : (List GHold)) (hp0 : aM_0.Places.length ≤ 9223372036854775807) (hp1 : aM_0.Triangles.length ≤ 9223372036854775807) (hp2 : ∀ t ∈ aM_0.Triangles, t.length ≤ 9223372036854775807) (hp3 : aHolds_1.length ≤ 9223372036854775807)  : Fn prog 8 [.agg [.sl (aM_0.Places.map GVector.cells), .sl (aM_0.Triangles.map (cL (cI .i64)))], .sl (aHolds_1.map GHold.cells)] (.b (v_laws_FnExactHoldMesh aM_0 aHolds_1)) [] := by
 have z0 := (ok_laws_szMesh aM_0 1048576 (by omega) (by omega) (by assumption) (by omega) (by omega))
 have z1 := (ok_laws_szHoldS aHolds_1 (v_laws_szMesh aM_0 1048576) (by omega) (by omega) (by omega))
 have p {a C} (s : Scr a C) := sF (t_laws_szMesh aM_0 1048576 hp0 hp1 hp2) <| s
 cases h0 : (decide ((v_laws_szMesh aM_0 1048576) < 0)) with
 | true =>
  have gh0 := of_decide_eq_true h0
  refine fnS E0Ok hMixed (c := bodyOf f8) [] (.b true) [] func8 (p (sB h0 <| sK [] sN)) rfl (by kernel_rfl) (by kernel_rfl) rfl ?_ ?_
  · simp only [v_laws_FnExactHoldMesh, h0, cond_true]
  · rfl
 | false =>
  have gh0 := of_decide_eq_false h0
  have q {a C} (s : Scr a C) := p (sB h0 <| sF (t_laws_szHoldS aHolds_1 (v_laws_szMesh aM_0 1048576) hp3) <| s)
  clear p
  cases h1 : (decide ((v_laws_szHoldS aHolds_1 (v_laws_szMesh aM_0 1048576)) < 0)) with
  | true =>
   have gh1 := of_decide_eq_true h1
   refine fnS E0Ok hMixed (c := bodyOf f8) [] (.b true) [] func8 (q (sB h1 <| sK [] sN)) rfl (by kernel_rfl) (by kernel_rfl) rfl ?_ ?_
   · simp only [v_laws_FnExactHoldMesh, h0, h1, cond_true, cond_false]
   · rfl
  | false =>
   have gh1 := of_decide_eq_false h1
   have y0 : aM_0.Places.length ≤ 1073741824 := by clear q; exact (by first | assumption | omega | (simp_all <;> omega))
   have y1 : aM_0.Triangles.length ≤ 1073741824 := by clear q; exact (by first | assumption | omega | (simp_all <;> omega))
   have y2 : ∀ t ∈ aM_0.Triangles, t.length ≤ 1073741824 := by clear q; exact (by first | assumption | (intro t ht; first | (have q := z0.2.2.2.2 t ht; omega)) | omega | (simp_all <;> omega))
   have y3 : aHolds_1.length ≤ 1073741824 := by clear q; exact (by first | assumption | omega | (simp_all <;> omega))
   have l1 := (leP_spec_HoldMesh aM_0 aHolds_1)
   have l2 := (leT_spec_HoldMesh aM_0 aHolds_1)
   have l3 := (leP_impl_HoldMesh aM_0 aHolds_1)
   have l4 := (leT_impl_HoldMesh aM_0 aHolds_1)
   have y4 : ((v_impl_HoldMesh aM_0 aHolds_1).1).Places.length ≤ 1073741824 := by clear q; exact (by first | assumption | omega | (simp_all <;> omega))
   have y5 : ((v_impl_HoldMesh aM_0 aHolds_1).1).Triangles.length ≤ 1073741824 := by clear q; exact (by first | assumption | omega | (simp_all <;> omega))
   have y6 : ∀ t ∈ ((v_impl_HoldMesh aM_0 aHolds_1).1).Triangles, t.length ≤ 1073741824 := by clear q; exact (by first | assumption | (intro t ht; first | (have q := z0.2.2.2.2 t ht; omega) | (have q := z0.2.2.2.2 t (mem_impl_HoldMesh aM_0 aHolds_1 t ht); omega)) | omega | (simp_all <;> omega))
   have y7 : ((v_spec_HoldMesh aM_0 aHolds_1).1).Places.length ≤ 1073741824 := by clear q; exact (by first | assumption | omega | (simp_all <;> omega))
   have y8 : ((v_spec_HoldMesh aM_0 aHolds_1).1).Triangles.length ≤ 1073741824 := by clear q; exact (by first | assumption | omega | (simp_all <;> omega))
   have y9 : ∀ t ∈ ((v_spec_HoldMesh aM_0 aHolds_1).1).Triangles, t.length ≤ 1073741824 := by clear q; exact (by first | assumption | (intro t ht; first | (have q := z0.2.2.2.2 t ht; omega) | (have q := z0.2.2.2.2 t (mem_spec_HoldMesh aM_0 aHolds_1 t ht); omega)) | omega | (simp_all <;> omega))
   have p {a C} (s : Scr a C) := q (sB h1 <| sF (i_laws_toMesh aM_0 y0 y1 y2) <| sF (i_laws_toHoldS aHolds_1 y3) <| sF (Fn.castA (args' := [.agg [.sl (aM_0.Places.map GVector.cells), .sl ((aM_0.Triangles.map fun l => l.map (cI .i64)).map fun l => [.sl l])], .sl (aHolds_1.map GHold.cells)]) (t_spec_HoldMesh aM_0 aHolds_1 y0 y1 y2 y3) (by simp [cL, Function.comp_def])) <| sF (i_laws_toMesh aM_0 y0 y1 y2) <| sF (i_laws_toHoldS aHolds_1 y3) <| sF (Fn.castA (args' := [.agg [.sl (aM_0.Places.map GVector.cells), .sl ((aM_0.Triangles.map fun l => l.map (cI .i64)).map fun l => [.sl l])], .sl (aHolds_1.map GHold.cells)]) (t_impl_HoldMesh aM_0 aHolds_1 y0 y1 y2 y3) (by simp [cL, Function.comp_def])) <| sF (Fn.castA (args' := [.agg [.sl (((v_impl_HoldMesh aM_0 aHolds_1).1.Places).map GVector.cells), .sl ((((v_impl_HoldMesh aM_0 aHolds_1).1.Triangles).map fun l => l.map (cI .i64)).map fun l => [.sl l])], .agg [.sl (((v_spec_HoldMesh aM_0 aHolds_1).1.Places).map GVector.cells), .sl ((((v_spec_HoldMesh aM_0 aHolds_1).1.Triangles).map fun l => l.map (cI .i64)).map fun l => [.sl l])]]) (t_laws_eqMesh ((v_impl_HoldMesh aM_0 aHolds_1).1) ((v_spec_HoldMesh aM_0 aHolds_1).1) y4 y5 y6 y7 y8 y9) (by simp [cL, Function.comp_def])) <| s)
   clear q
   cases h2 : (v_laws_eqMesh ((v_impl_HoldMesh aM_0 aHolds_1).1) ((v_spec_HoldMesh aM_0 aHolds_1).1)) with
   | true =>
    have q {a C} (s : Scr a C) := p (sB' h2 <| sB' h2 <| sB' h2 <| sB' h2 <| s)
    clear p
    cases h3 : ((v_impl_HoldMesh aM_0 aHolds_1).2 == (v_spec_HoldMesh aM_0 aHolds_1).2) with
    | true =>
     have gh3 := eq_of_beq h3
     have p {a C} (s : Scr a C) := q (sB' h3 <| sK [3, 3] <| sF (i_laws_toMesh aM_0 y0 y1 y2) <| sF (Fn.castA (args' := [.agg [.sl (aM_0.Places.map GVector.cells), .sl ((aM_0.Triangles.map fun l => l.map (cI .i64)).map fun l => [.sl l])], .agg [.sl (aM_0.Places.map GVector.cells), .sl ((aM_0.Triangles.map fun l => l.map (cI .i64)).map fun l => [.sl l])]]) (t_laws_eqMesh aM_0 aM_0 y0 y1 y2 y0 y1 y2) (by simp [cL, Function.comp_def])) <| s)
     clear q
     cases h4 : (v_laws_eqMesh aM_0 aM_0) with
     | true =>
      have q {a C} (s : Scr a C) := p (sB' h4 <| sF (i_laws_toHoldS aHolds_1 y3) <| sF (t_laws_eqHoldS aHolds_1 aHolds_1 y3 y3) <| s)
      clear p
      cases h5 : (v_laws_eqHoldS aHolds_1 aHolds_1) with
      | true =>
       have p {a C} (s : Scr a C) := q (sB' h5 <| sS (CallSt.frame (t_laws_markMesh_mAooZn aM_0 1 y0 y1 y2) [7, 8] (R := [.box 31 [.sl (aM_0.Places.map GVector.cells), .sl (aM_0.Triangles.map (cL (cI .i64)))], .vec 44 3 (aM_0.Places.map GVector.cells) false, .nest 52 (aM_0.Triangles.map fun l => l.map (cI .i64)) false, .vec 114 8 (aHolds_1.map GHold.cells) false, .vec 44 3 (((v_spec_HoldMesh aM_0 aHolds_1).1.Places).map GVector.cells) false, .nest 52 (((v_spec_HoldMesh aM_0 aHolds_1).1.Triangles).map fun l => l.map (cI .i64)) false, .box 42 [.own 4, .own 5], .vec 44 3 (aM_0.Places.map GVector.cells) false, .nest 52 (aM_0.Triangles.map fun l => l.map (cI .i64)) false, .box 42 [.own 7, .own 8], .vec 114 8 (aHolds_1.map GHold.cells) false, .vec 44 3 (((v_impl_HoldMesh aM_0 aHolds_1).1.Places).map GVector.cells) false, .nest 52 (((v_impl_HoldMesh aM_0 aHolds_1).1.Triangles).map fun l => l.map (cI .i64)) false, .box 42 [.own 11, .own 12], .vec 44 3 (aM_0.Places.map GVector.cells) false, .nest 52 (aM_0.Triangles.map fun l => l.map (cI .i64)) false, .vec 114 8 (aHolds_1.map GHold.cells) false]) (args' := [.agg [.own 7, .own 8], .i .i64 1]) rfl rfl rfl rfl rfl rfl) <| sS (CallSt.frame (t_laws_markHoldS_mon aHolds_1 ((v_laws_markMesh_mAooZn aM_0 1).1) y3) [10] (R := [.box 31 [.sl (aM_0.Places.map GVector.cells), .sl (aM_0.Triangles.map (cL (cI .i64)))], .vec 44 3 (aM_0.Places.map GVector.cells) false, .nest 52 (aM_0.Triangles.map fun l => l.map (cI .i64)) false, .vec 114 8 (aHolds_1.map GHold.cells) false, .vec 44 3 (((v_spec_HoldMesh aM_0 aHolds_1).1.Places).map GVector.cells) false, .nest 52 (((v_spec_HoldMesh aM_0 aHolds_1).1.Triangles).map fun l => l.map (cI .i64)) false, .box 42 [.own 4, .own 5], .vec 44 3 (((v_laws_markMesh_mAooZn aM_0 1).2.1).map GVector.cells) false, .nest 52 (((v_laws_markMesh_mAooZn aM_0 1).2.2).map fun l => l.map (cI .i64)) false, .box 42 [.own 7, .own 8], .vec 114 8 (aHolds_1.map GHold.cells) false, .vec 44 3 (((v_impl_HoldMesh aM_0 aHolds_1).1.Places).map GVector.cells) false, .nest 52 (((v_impl_HoldMesh aM_0 aHolds_1).1.Triangles).map fun l => l.map (cI .i64)) false, .box 42 [.own 11, .own 12], .vec 44 3 (aM_0.Places.map GVector.cells) false, .nest 52 (aM_0.Triangles.map fun l => l.map (cI .i64)) false, .vec 114 8 (aHolds_1.map GHold.cells) false]) (args' := [.own 10, .i .i64 ((v_laws_markMesh_mAooZn aM_0 1).1)]) rfl rfl rfl rfl rfl rfl) <| s)
       clear q
       cases h6 : (decide ((v_laws_markHoldS_mon aHolds_1 ((v_laws_markMesh_mAooZn aM_0 1).1)).1 < 0)) with
       | true =>
        have gh6 := of_decide_eq_true h6
        refine fnS E0Ok hMixed (c := bodyOf f8) [] (.b false) [] func8 (p (sB h6 <| sB h6 <| sB h6 <| sB h6 <| sB h6 <| sB (show true = true from rfl) <| sB (show true = true from rfl) <| sB (show true = true from rfl) <| sB (show true = true from rfl) <| sB (show true = true from rfl) <| sK [] sN)) rfl (by kernel_rfl) (by kernel_rfl) rfl ?_ ?_
        · simp only [v_laws_FnExactHoldMesh, h0, h1, h2, h3, h4, h5, h6, cond_true, cond_false]
        · rfl
       | false =>
        have gh6 := of_decide_eq_false h6
        have y10 : (⟨(v_laws_markMesh_mAooZn ((v_impl_HoldMesh aM_0 aHolds_1).1) 1).2.1, (v_laws_markMesh_mAooZn ((v_impl_HoldMesh aM_0 aHolds_1).1) 1).2.2⟩ : GMesh).Places.length ≤ 1073741824 := by clear p; exact (by first | assumption | omega | (simp_all <;> omega))
        have y11 : (⟨(v_laws_markMesh_mAooZn ((v_impl_HoldMesh aM_0 aHolds_1).1) 1).2.1, (v_laws_markMesh_mAooZn ((v_impl_HoldMesh aM_0 aHolds_1).1) 1).2.2⟩ : GMesh).Triangles.length ≤ 1073741824 := by clear p; exact (by first | assumption | omega | (simp_all <;> omega))
        have y12 : ∀ t ∈ (⟨(v_laws_markMesh_mAooZn ((v_impl_HoldMesh aM_0 aHolds_1).1) 1).2.1, (v_laws_markMesh_mAooZn ((v_impl_HoldMesh aM_0 aHolds_1).1) 1).2.2⟩ : GMesh).Triangles, t.length ≤ 1073741824 := by clear p; exact (by first | assumption | exact mlen_Mesh_mAooZn _ _ _ (by assumption))
        have q {a C} (s : Scr a C) := p (sB h6 <| sB h6 <| sB h6 <| sF (Fn.castA (args' := [.agg [.sl (((v_impl_HoldMesh aM_0 aHolds_1).1.Places).map GVector.cells), .sl ((((v_impl_HoldMesh aM_0 aHolds_1).1.Triangles).map fun l => l.map (cI .i64)).map fun l => [.sl l])], .agg [.sl (((v_spec_HoldMesh aM_0 aHolds_1).1.Places).map GVector.cells), .sl ((((v_spec_HoldMesh aM_0 aHolds_1).1.Triangles).map fun l => l.map (cI .i64)).map fun l => [.sl l])]]) (t_laws_eqMesh ((v_impl_HoldMesh aM_0 aHolds_1).1) ((v_spec_HoldMesh aM_0 aHolds_1).1) y4 y5 y6 y7 y8 y9) (by simp [cL, Function.comp_def])) <| sB h6 <| sB h6 <| sB' h2 <| sB' h2 <| sB' h2 <| sB' h2 <| sB' h3 <| sS (CallSt.frame (t_laws_markMesh_mAooZn ((v_impl_HoldMesh aM_0 aHolds_1).1) 1 y4 y5 y6) [11, 12] (R := [.box 31 [.sl (aM_0.Places.map GVector.cells), .sl (aM_0.Triangles.map (cL (cI .i64)))], .vec 44 3 (aM_0.Places.map GVector.cells) false, .nest 52 (aM_0.Triangles.map fun l => l.map (cI .i64)) false, .vec 114 8 (aHolds_1.map GHold.cells) false, .vec 44 3 (((v_spec_HoldMesh aM_0 aHolds_1).1.Places).map GVector.cells) false, .nest 52 (((v_spec_HoldMesh aM_0 aHolds_1).1.Triangles).map fun l => l.map (cI .i64)) false, .box 42 [.own 4, .own 5], .vec 44 3 (((v_laws_markMesh_mAooZn aM_0 1).2.1).map GVector.cells) false, .nest 52 (((v_laws_markMesh_mAooZn aM_0 1).2.2).map fun l => l.map (cI .i64)) false, .box 42 [.own 7, .own 8], .vec 114 8 (((v_laws_markHoldS_mon aHolds_1 ((v_laws_markMesh_mAooZn aM_0 1).1)).2).map GHold.cells) false, .vec 44 3 (((v_impl_HoldMesh aM_0 aHolds_1).1.Places).map GVector.cells) false, .nest 52 (((v_impl_HoldMesh aM_0 aHolds_1).1.Triangles).map fun l => l.map (cI .i64)) false, .box 42 [.own 11, .own 12], .vec 44 3 (aM_0.Places.map GVector.cells) false, .nest 52 (aM_0.Triangles.map fun l => l.map (cI .i64)) false, .vec 114 8 (aHolds_1.map GHold.cells) false]) (args' := [.agg [.own 11, .own 12], .i .i64 1]) rfl rfl rfl rfl rfl rfl) <| sF (Fn.castA (args' := [.agg [.sl (((v_laws_markMesh_mAooZn ((v_impl_HoldMesh aM_0 aHolds_1).1) 1).2.1).map GVector.cells), .sl ((((v_laws_markMesh_mAooZn ((v_impl_HoldMesh aM_0 aHolds_1).1) 1).2.2).map fun l => l.map (cI .i64)).map fun l => [.sl l])], .i .i64 1]) (t_laws_heldMesh (⟨(v_laws_markMesh_mAooZn ((v_impl_HoldMesh aM_0 aHolds_1).1) 1).2.1, (v_laws_markMesh_mAooZn ((v_impl_HoldMesh aM_0 aHolds_1).1) 1).2.2⟩ : GMesh) 1 y10 y11 y12) (by simp [cL, Function.comp_def])) <| s)
        clear p
        cases h7 : (decide ((nd_laws_FnExactHoldMesh_0 aM_0 aHolds_1) < 0)) with
        | true =>
         have gh7 := of_decide_eq_true h7
         refine fnS E0Ok hMixed (c := bodyOf f8) [] (.b false) [] func8 (q (sB h7 <| sK [] sN)) rfl (by kernel_rfl) (by kernel_rfl) rfl ?_ ?_
         · simp only [v_laws_FnExactHoldMesh, h0, h1, h2, h3, h4, h5, h6, h7, cond_true, cond_false]
         · rfl
        | false =>
         have gh7 := of_decide_eq_false h7
         have p {a C} (s : Scr a C) := q (sB h7 <| s)
         clear q
         cases h8 : ((nd_laws_FnExactHoldMesh_0 aM_0 aHolds_1) != (v_laws_markMesh_mAooZn ((v_impl_HoldMesh aM_0 aHolds_1).1) 1).1) with
         | true =>
          have gh8 := bne_iff_ne.1 h8
          refine fnS E0Ok hMixed (c := bodyOf f8) [] (.b false) [] func8 (p (sB h8 <| sK [] sN)) rfl (by kernel_rfl) (by kernel_rfl) rfl ?_ ?_
          · simp only [v_laws_FnExactHoldMesh, h0, h1, h2, h3, h4, h5, h6, h7, h8, cond_true, cond_false]
          · rfl
         | false =>
          have gh8 := bne_eq_false_iff_eq.1 h8
          refine fnS E0Ok hMixed (c := bodyOf f8) [] (.b true) [] func8 (p (sB h8 <| sF (i_laws_toMesh aM_0 y0 y1 y2) <| sF (i_laws_toHoldS aHolds_1 y3) <| sF (Fn.castA (args' := [.agg [.sl (aM_0.Places.map GVector.cells), .sl ((aM_0.Triangles.map fun l => l.map (cI .i64)).map fun l => [.sl l])], .sl (aHolds_1.map GHold.cells)]) (t_impl_HoldMesh aM_0 aHolds_1 y0 y1 y2 y3) (by simp [cL, Function.comp_def])) <| sF (Fn.castA (args' := [.agg [.sl (((v_impl_HoldMesh aM_0 aHolds_1).1.Places).map GVector.cells), .sl ((((v_impl_HoldMesh aM_0 aHolds_1).1.Triangles).map fun l => l.map (cI .i64)).map fun l => [.sl l])], .agg [.sl (((v_spec_HoldMesh aM_0 aHolds_1).1.Places).map GVector.cells), .sl ((((v_spec_HoldMesh aM_0 aHolds_1).1.Triangles).map fun l => l.map (cI .i64)).map fun l => [.sl l])]]) (t_laws_eqMesh ((v_impl_HoldMesh aM_0 aHolds_1).1) ((v_spec_HoldMesh aM_0 aHolds_1).1) y4 y5 y6 y7 y8 y9) (by simp [cL, Function.comp_def])) <| sB' h2 <| sB' h2 <| sB' h2 <| sB' h2 <| sB' h3 <| sF (Fn.castA (args' := [.agg [.sl (((v_laws_markMesh_mAooZn ((v_impl_HoldMesh aM_0 aHolds_1).1) 1).2.1).map GVector.cells), .sl ((((v_laws_markMesh_mAooZn ((v_impl_HoldMesh aM_0 aHolds_1).1) 1).2.2).map fun l => l.map (cI .i64)).map fun l => [.sl l])], .i .i64 1]) (t_laws_heldMesh (⟨(v_laws_markMesh_mAooZn ((v_impl_HoldMesh aM_0 aHolds_1).1) 1).2.1, (v_laws_markMesh_mAooZn ((v_impl_HoldMesh aM_0 aHolds_1).1) 1).2.2⟩ : GMesh) 1 y10 y11 y12) (by simp [cL, Function.comp_def])) <| sB h7 <| sB h8 <| sK [] sN)) rfl (by kernel_rfl) (by kernel_rfl) rfl ?_ ?_
          · simp only [v_laws_FnExactHoldMesh, h0, h1, h2, h3, h4, h5, h6, h7, h8, cond_true, cond_false]
          · rfl
      | false =>
       refine fnS E0Ok hMixed (c := bodyOf f8) [] (.b false) [] func8 (q (sB' h5 <| sK [] sN)) rfl (by kernel_rfl) (by kernel_rfl) rfl ?_ ?_
       · simp only [v_laws_FnExactHoldMesh, h0, h1, h2, h3, h4, h5, cond_true, cond_false]
       · rfl
     | false =>
      refine fnS E0Ok hMixed (c := bodyOf f8) [] (.b false) [] func8 (p (sB' h4 <| sK [] sN)) rfl (by kernel_rfl) (by kernel_rfl) rfl ?_ ?_
      · simp only [v_laws_FnExactHoldMesh, h0, h1, h2, h3, h4, cond_true, cond_false]
      · rfl
    | false =>
     have gh3 := ne_of_beq_false h3
     refine fnS E0Ok hMixed (c := bodyOf f8) [] (.b false) [] func8 (q (sB' h3 <| sK [] sN)) rfl (by kernel_rfl) (by kernel_rfl) rfl ?_ ?_
     · simp only [v_laws_FnExactHoldMesh, h0, h1, h2, h3, cond_true, cond_false]
     · rfl
   | false =>
    refine fnS E0Ok hMixed (c := bodyOf f8) [] (.b false) [] func8 (p (sB' h2 <| sB' h2 <| sB' h2 <| sB' h2 <| sB (show true = true from rfl) <| sK [] sN)) rfl (by kernel_rfl) (by kernel_rfl) rfl ?_ ?_
    · simp only [v_laws_FnExactHoldMesh, h0, h1, h2, cond_false]
    · rfl

theorem held_Vector_mon (a : List GVector) (c : Int) : v_laws_heldVectorS (v_laws_markVectorS_mon a c).2 c = (v_laws_markVectorS_mon a c).1 := by
  rw [hdeq_Vector, mkeq_Vector_mon, hdL_mkL (fun x c => by simp [hp_Vector, mk_Vector_mon, ofInt_self]) (fun x c => rfl)]

theorem held_Int64_min (a : List Int) (c : Int) : v_laws_heldInt64S (v_laws_markInt64S_min a c).2 c = (v_laws_markInt64S_min a c).1 := by
  rw [hdeq_Int64, mkeq_Int64_min, hdL_mkL (fun x c => by simp [hp_Int64, mk_Int64_min, ofInt_self]) (fun x c => rfl)]

theorem held_Int64SS_mon (a : List (List Int)) (c : Int) (g0 : a.length ≤ 1073741824) (g1 : ∀ t ∈ a, t.length ≤ 1073741824) (h0 : 0 ≤ c) (h1 : c ≤ 3458764513820540928) : v_laws_heldInt64SS (v_laws_markInt64SS_mon a c).2 c = (v_laws_markInt64SS_mon a c).1 := by
  rw [hdeq_Int64SS, mkeq_Int64SS, hdL_mkL_b (W := 1073741824) (M := 4611686018427387904) a c (fun x hx c k0 k1 => by
    have q := markge_Int64_min x c (g1 x hx) k0 (by omega)
    have q2 := held_Int64_min x c
    refine ⟨?_, q2, q.1, q.2⟩
    rw [q2]
    simp; omega) h0 (by omega)]

theorem held_Mesh_mAooZn (a : GMesh) (c : Int) (g0 : a.Places.length ≤ 1073741824) (g1 : a.Triangles.length ≤ 1073741824) (g2 : ∀ t ∈ a.Triangles, t.length ≤ 1073741824) (h0 : 0 ≤ c) (h1 : c ≤ 1152921504606846976) : v_laws_heldMesh ⟨(v_laws_markMesh_mAooZn a c).2.1, (v_laws_markMesh_mAooZn a c).2.2⟩ c = (v_laws_markMesh_mAooZn a c).1 := by
  have p0 := markge_Vector_mon a.Places c g0 (by omega) (by omega)
  have q0 := held_Vector_mon a.Places c
  have p1 := markge_Int64SS_mon a.Triangles ((v_laws_markVectorS_mon a.Places c).1) g1 g2 (by omega) (by omega)
  have q1 := held_Int64SS_mon a.Triangles ((v_laws_markVectorS_mon a.Places c).1) g1 g2 (by omega) (by omega)
  unfold v_laws_heldMesh
  simp only [v_laws_markMesh_mAooZn, true_and] at *
  simp only [q0, q1]
  repeat (first | rw [decide_eq_false (by omega), cond_false])
  try rfl

theorem kind_of_is4 (h : GHold) (hs : v_spec_l04Is h = true) : h.Kind = 0 ∨ h.Kind = 1 ∨ h.Kind = 2 := by
  cases hk : v_spec_l00In h.Kind 0 2 with
  | false => simp [v_spec_l04Is, hk] at hs
  | true => simp [v_spec_l00In] at hk; omega
theorem holdPlace_eq4 (h : GHold) (p : GVector) (hs : v_spec_l04Is h = true) : v_impl_holdPlace h p = v_spec_l04Put h p := by
  rcases kind_of_is4 h hs with hk | hk | hk <;> simp [v_impl_holdPlace, v_spec_l04Put, hk] <;> rfl
theorem lo_HoldMesh (m : GMesh) (hs : List GHold) (h : ∀ x ∈ hs, v_spec_l04Is x = true) : ∀ k i r, 0 ≤ i → lo_impl_HoldMesh_1 m hs k i r = lo_spec_l04Mesh_1 m hs k i r := by
  intro k
  induction k with
  | zero => intros; rfl
  | succ k ih =>
    intro i r h0
    rw [lo_impl_HoldMesh_1, lo_spec_l04Mesh_1]
    by_cases hi : i < (hs.length : Int)
    · have hx : v_spec_l04Is (hs.getD i.toNat default) = true := by
        have hn : i.toNat < hs.length := by omega
        rw [List.getD_eq_getElem?_getD, List.getElem?_eq_getElem hn]; exact h _ (List.getElem_mem hn)
      rw [decide_eq_true hi, cond_true, cond_true, ih _ _ (by omega), holdPlace_eq4 _ _ hx]
    · rw [decide_eq_false hi]; rfl
theorem eq_HoldMesh (m : GMesh) (hs : List GHold) : v_impl_HoldMesh m hs = v_spec_HoldMesh m hs := by
  unfold v_impl_HoldMesh v_spec_HoldMesh
  rw [eq_AreHolds]
  cases h : v_spec_l04Are m hs with
  | false => rfl
  | true =>
    unfold v_spec_l04Mesh lr_impl_HoldMesh_1_0 lr_spec_l04Mesh_1_0
    rw [lo_HoldMesh m hs (okH_is m hs h).2.2 _ _ _ (Int.le_refl 0)]
    simp

theorem true_laws_FnExactHoldMesh (a : GMesh) (hs : (List GHold)) (h0_0 : a.Places.length ≤ 9223372036854775807) (h0_1 : a.Triangles.length ≤ 9223372036854775807) (h0_2 : ∀ t ∈ a.Triangles, t.length ≤ 9223372036854775807) (h1_0 : hs.length ≤ 9223372036854775807) : v_laws_FnExactHoldMesh a hs = true := by
  unfold v_laws_FnExactHoldMesh
  have z0 := ok_laws_szMesh a 1048576 h0_0 h0_1 h0_2 (by omega) (by omega)
  cases hc0 : decide (v_laws_szMesh a 1048576 < 0) with
  | true => rfl
  | false =>
    simp only [decide_eq_false_iff_not] at hc0
    have z1 := ok_laws_szHoldS hs (v_laws_szMesh a 1048576) h1_0 (by omega) (by omega)
    cases hc1 : decide (v_laws_szHoldS hs (v_laws_szMesh a 1048576) < 0) with
    | true => rfl
    | false =>
      simp only [decide_eq_false_iff_not] at hc1
      have hm0 := markge_Mesh_mAooZn a 1 (by omega) (by omega) (fun t ht => by have q := z0.2.2.2.2 t ht; omega) (by omega) (by omega)
      have hm1 := markge_Hold_mon hs ((v_laws_markMesh_mAooZn a 1).1) (by omega) (by omega) (by omega)
      have l0 := leP_impl_HoldMesh a hs
      have l1 := leT_impl_HoldMesh a hs
      have v0 := markge_Mesh_mAooZn (v_impl_HoldMesh a hs).1 1 (by omega) (by omega) (fun t ht => by have q := z0.2.2.2.2 t (mem_impl_HoldMesh a hs t ht); omega) (by omega) (by omega)
      have w0 := held_Mesh_mAooZn (v_impl_HoldMesh a hs).1 1 (by omega) (by omega) (fun t ht => by have q := z0.2.2.2.2 t (mem_impl_HoldMesh a hs t ht); omega) (by omega) (by omega)
      simp only [nd_laws_FnExactHoldMesh_0, eq_HoldMesh] at *
      simp only [eqMesh_self, eqHoldS_self, w0, beq_self_eq_true, Bool.not_true, cond_true, cond_false, bne_self_eq_false]
      rw [decide_eq_false (by omega)]
      rw [decide_eq_false (by omega)]
      rfl

end Go.Ab
