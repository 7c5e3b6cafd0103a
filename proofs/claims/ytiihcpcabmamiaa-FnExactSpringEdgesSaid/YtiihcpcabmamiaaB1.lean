/- The functions of this seat as plain Lean, and that the program's are these. Printed by a program of the prover's own. -/
import Derived.Test.YtiihcpcabmamiaaB0
set_option linter.unusedVariables false
set_option linter.unusedSimpArgs false
set_option maxRecDepth 100000
namespace Go.Ab
open Go.RowKit Go.Proofs.Try

def v_laws_szVectorS (a_0 : (List GVector)) (left_1 : Int) : Int := (cond (decide ((IntKind.wrap .i64 (left_1 - (a_0.length : Int))) < 0))
  (-1)
  (IntKind.wrap .i64 (left_1 - (a_0.length : Int))))

theorem t_laws_szVectorS (a_0 : (List GVector)) (left_1 : Int) (hp0 : a_0.length ≤ 9223372036854775807)  : Fn prog 50 [.sl (a_0.map GVector.cells), .i .i64 left_1] (.i .i64 (v_laws_szVectorS a_0 left_1)) [] := by
 have p {a C} (s : Scr a C) := sZ GVector.cells a_0 <| sW .i64 (left_1 - (a_0.length : Int)) <| s
 cases h0 : (decide ((IntKind.wrap .i64 (left_1 - (a_0.length : Int))) < 0)) with
 | true =>
  have gh0 := of_decide_eq_true h0
  refine fnS E0Ok hMixed (c := bodyOf f50) [] (.i .i64 (-1)) [] func50 (p (sB h0 <| sK [] sN)) rfl (by kernel_rfl) (by kernel_rfl) rfl ?_ ?_
  · simp only [v_laws_szVectorS, h0, cond_true]
  · rfl
 | false =>
  have gh0 := of_decide_eq_false h0
  refine fnS E0Ok hMixed (c := bodyOf f50) [] (.i .i64 (IntKind.wrap .i64 (left_1 - (a_0.length : Int)))) [] func50 (p (sB h0 <| sK [] sN)) rfl (by kernel_rfl) (by kernel_rfl) rfl ?_ ?_
  · simp only [v_laws_szVectorS, h0, cond_false]
  · rfl

theorem ok_laws_szVectorS (a : List GVector) (left : Int) (h0 : a.length ≤ 9223372036854775807) (h1 : -1 ≤ left) (h2 : left ≤ 1048576) : -1 ≤ v_laws_szVectorS a left ∧ v_laws_szVectorS a left ≤ left ∧ (v_laws_szVectorS a left < 0 ∨ (a.length : Int) ≤ left) := by
  unfold v_laws_szVectorS
  rw [wrap_sub (by omega) (by omega)]
  by_cases h : left - (a.length : Int) < 0
  · simp [h]; omega
  · simp [h]; omega

def v_laws_szInt64S (a_0 : (List Int)) (left_1 : Int) : Int := (cond (decide ((IntKind.wrap .i64 (left_1 - (a_0.length : Int))) < 0))
  (-1)
  (IntKind.wrap .i64 (left_1 - (a_0.length : Int))))

theorem t_laws_szInt64S (a_0 : (List Int)) (left_1 : Int) (hp0 : a_0.length ≤ 9223372036854775807)  : Fn prog 103 [.sl (a_0.map (cI .i64)), .i .i64 left_1] (.i .i64 (v_laws_szInt64S a_0 left_1)) [] := by
 have p {a C} (s : Scr a C) := sZ (cI .i64) a_0 <| sW .i64 (left_1 - (a_0.length : Int)) <| s
 cases h0 : (decide ((IntKind.wrap .i64 (left_1 - (a_0.length : Int))) < 0)) with
 | true =>
  have gh0 := of_decide_eq_true h0
  refine fnS E0Ok hMixed (c := bodyOf f103) [] (.i .i64 (-1)) [] func103 (p (sB h0 <| sK [] sN)) rfl (by kernel_rfl) (by kernel_rfl) rfl ?_ ?_
  · simp only [v_laws_szInt64S, h0, cond_true]
  · rfl
 | false =>
  have gh0 := of_decide_eq_false h0
  refine fnS E0Ok hMixed (c := bodyOf f103) [] (.i .i64 (IntKind.wrap .i64 (left_1 - (a_0.length : Int)))) [] func103 (p (sB h0 <| sK [] sN)) rfl (by kernel_rfl) (by kernel_rfl) rfl ?_ ?_
  · simp only [v_laws_szInt64S, h0, cond_false]
  · rfl

theorem ok_laws_szInt64S (a : List Int) (left : Int) (h0 : a.length ≤ 9223372036854775807) (h1 : -1 ≤ left) (h2 : left ≤ 1048576) : -1 ≤ v_laws_szInt64S a left ∧ v_laws_szInt64S a left ≤ left ∧ (v_laws_szInt64S a left < 0 ∨ (a.length : Int) ≤ left) := by
  unfold v_laws_szInt64S
  rw [wrap_sub (by omega) (by omega)]
  by_cases h : left - (a.length : Int) < 0
  · simp [h]; omega
  · simp [h]; omega

def lo_laws_szInt64SS_1 (a_0 : (List (List Int))) (left_1 : Int) : Nat → Int → Int → (Unit) ⊕ (Int)
  | 0, _, _ => .inl default
  | k + 1, left_l0, i_l1 => (cond (decide (i_l1 < (a_0.length : Int)))
    (cond (decide ((v_laws_szInt64S (a_0.getD i_l1.toNat default) left_l0) < 0))
      (.inl ())
      (lo_laws_szInt64SS_1 a_0 left_1 k (v_laws_szInt64S (a_0.getD i_l1.toNat default) left_l0) (i_l1 + 1)))
    (.inr left_l0))

def ls_laws_szInt64SS_1 (a_0 : (List (List Int))) (left_1 : Int) : (Unit) ⊕ (Int) → Ex × St
  | .inl r => (.ret, ⟨[.any, .any, .any, .any, .i .i64 (-1), .any, .any, .any, .any, .any, .any, .any, .any, .any, .any, .any, .any, .any, .any, .any, .any, .any, .any, .any, .any, .any, .any], []⟩)
  | .inr r => ((.exit 0), ⟨[.sl (a_0.map (cL (cI .i64))), .i .i64 r, .any, .any, .any, .any, .i .i64 left_1, .sl (a_0.map (cL (cI .i64))), .i .i64 (a_0.length : Int), .i .i64 (IntKind.wrap .i64 (left_1 - (a_0.length : Int))), .i .i64 (IntKind.wrap .i64 (left_1 - (a_0.length : Int))), .b (decide ((IntKind.wrap .i64 (left_1 - (a_0.length : Int))) < 0)), .any, .any, .any, .any, .any, .any, .any, .any, .any, .any, .any, .any, .any, .any, .any], []⟩)

def hd_laws_szInt64SS_1 (a_0 : (List (List Int))) (left_1 : Int) (left_l0 : Int) (i_l1 : Int) : St := ⟨[.sl (a_0.map (cL (cI .i64))), .i .i64 left_l0, .any, .any, .any, .i .i64 i_l1, .i .i64 left_1, .sl (a_0.map (cL (cI .i64))), .i .i64 (a_0.length : Int), .i .i64 (IntKind.wrap .i64 (left_1 - (a_0.length : Int))), .i .i64 (IntKind.wrap .i64 (left_1 - (a_0.length : Int))), .b (decide ((IntKind.wrap .i64 (left_1 - (a_0.length : Int))) < 0)), .any, .any, .any, .any, .any, .any, .any, .any, .any, .any, .any, .any, .any, .any, .any], []⟩

def mk_laws_szInt64SS_1_0 : List Bool := [true, true, false, false, false, true, true, true, true, true, true, true, false, false, false, false, false, false, false, false, false, false, false, false, false, false, false]

def mk_laws_szInt64SS_1_1 : List Bool := [false, false, false, false, true, false, false, false, false, false, false, false, false, false, false, false, false, false, false, false, false, false, false, false, false, false, false]

def mk_laws_szInt64SS_1_2 : List Bool := [true, true, false, false, false, false, true, true, true, true, true, true, false, false, false, false, false, false, false, false, false, false, false, false, false, false, false]

theorem lp_laws_szInt64SS_1 (a_0 : (List (List Int))) (left_1 : Int) (hp0 : a_0.length ≤ 9223372036854775807) (hp1 : ∀ t ∈ a_0, t.length ≤ 9223372036854775807) (hf_laws_szInt64SS_1_0 : (decide ((IntKind.wrap .i64 (left_1 - (a_0.length : Int))) < 0)) = false) : ∀ (k : Nat) (left_l0 : Int) (i_l1 : Int) (hv_laws_szInt64SS_1_0 : 0 ≤ i_l1) (hk : ((a_0.length : Int) - i_l1).toNat < k), Lp prog 0 (sub (bodyOf f51) [1, 1, 1, 0, 1, 0, 0]) (hd_laws_szInt64SS_1 a_0 left_1 left_l0 i_l1) (ls_laws_szInt64SS_1 a_0 left_1 (lo_laws_szInt64SS_1 a_0 left_1 k left_l0 i_l1)).1 (ls_laws_szInt64SS_1 a_0 left_1 (lo_laws_szInt64SS_1 a_0 left_1 k left_l0 i_l1)).2 := by
 intro k
 induction k with
 | zero => intro left_l0 i_l1 hv_laws_szInt64SS_1_0 hk; exact absurd hk (Nat.not_lt_zero _)
 | succ k ih =>
  intro left_l0 i_l1 hv_laws_szInt64SS_1_0 hk
  have p {a C} (s : Scr a C) := sZ (cL (cI .i64)) a_0 <| s
  cases h_0 : (decide (i_l1 < (a_0.length : Int))) with
  | true =>
   have gh_0 := of_decide_eq_true h_0
   have y_0 : (0 : Int) ≤ i_l1 := by clear p; exact (by first | assumption | omega | (simp_all <;> omega))
   have y_1 : i_l1 < (a_0.length : Int) := by clear p; exact (by first | assumption | omega | (simp_all <;> omega))
   have y_2 : (a_0.getD i_l1.toNat default).length ≤ 9223372036854775807 := by clear p; exact (by first | assumption | omega | (simp_all <;> omega))
   have q {a C} (s : Scr a C) := p (sB h_0 <| sG (cL (cI .i64)) a_0 i_l1 y_0 y_1 <| sF (t_laws_szInt64S (a_0.getD i_l1.toNat default) left_l0 y_2) <| s)
   clear p
   cases h_1 : (decide ((v_laws_szInt64S (a_0.getD i_l1.toNat default) left_l0) < 0)) with
   | true =>
    have gh_1 := of_decide_eq_true h_1
    have e : lo_laws_szInt64SS_1 a_0 left_1 (k + 1) left_l0 i_l1 = (.inl ()) := by simp only [lo_laws_szInt64SS_1, h_0, h_1, cond_true]
    rw [e]
    exact outR (e := .ret) E0Ok hMixed [] mk_laws_szInt64SS_1_1 [] (q (sB h_1 <| sN)) (by kernel_rfl) (by intro h; cases h)
   | false =>
    have gh_1 := of_decide_eq_false h_1
    have y_3 : (-9223372036854775808 : Int) ≤ (i_l1 + 1) := by clear q; exact (by first | assumption | omega | (simp_all <;> omega))
    have y_4 : (i_l1 + 1) ≤ (9223372036854775807 : Int) := by clear q; exact (by first | assumption | omega | (simp_all <;> omega))
    have e : lo_laws_szInt64SS_1 a_0 left_1 (k + 1) left_l0 i_l1 = (lo_laws_szInt64SS_1 a_0 left_1 k (v_laws_szInt64S (a_0.getD i_l1.toNat default) left_l0) (i_l1 + 1)) := by simp only [lo_laws_szInt64SS_1, h_0, h_1, cond_true, cond_false]
    rw [e]
    exact nextR E0Ok hMixed [] mk_laws_szInt64SS_1_0 [] (ih (v_laws_szInt64S (a_0.getD i_l1.toNat default) left_l0) (i_l1 + 1) (show 0 ≤ (i_l1 + 1) from (by first | assumption | omega | (simp_all <;> omega))) (by first | assumption | omega | (simp_all <;> omega))) (q (sB h_1 <| sI (i_l1 + 1) y_3 y_4 <| sN)) (by kernel_rfl)
  | false =>
   have gh_0 := of_decide_eq_false h_0
   have e : lo_laws_szInt64SS_1 a_0 left_1 (k + 1) left_l0 i_l1 = (.inr left_l0) := by simp only [lo_laws_szInt64SS_1, h_0, cond_false]
   rw [e]
   exact outR (e := (.exit 0)) E0Ok hMixed [] mk_laws_szInt64SS_1_2 [] (p (sB h_0 <| sN)) (by kernel_rfl) (by intro h; cases h)

def lr_laws_szInt64SS_1_0 (a_0 : (List (List Int))) (left_1 : Int) : (Unit) ⊕ (Int) := (lo_laws_szInt64SS_1 a_0 left_1 (((a_0.length : Int) - 0).toNat + 1) (IntKind.wrap .i64 (left_1 - (a_0.length : Int))) 0)

def v_laws_szInt64SS (a_0 : (List (List Int))) (left_1 : Int) : Int := (cond (decide ((IntKind.wrap .i64 (left_1 - (a_0.length : Int))) < 0))
  (-1)
  (match (lr_laws_szInt64SS_1_0 a_0 left_1) with
    | .inl r2 => (-1)
    | .inr r2 => r2))

theorem t_laws_szInt64SS (a_0 : (List (List Int))) (left_1 : Int) (hp0 : a_0.length ≤ 9223372036854775807) (hp1 : ∀ t ∈ a_0, t.length ≤ 9223372036854775807)  : Fn prog 51 [.sl (a_0.map (cL (cI .i64))), .i .i64 left_1] (.i .i64 (v_laws_szInt64SS a_0 left_1)) [] := by
 have p {a C} (s : Scr a C) := sZ (cL (cI .i64)) a_0 <| sW .i64 (left_1 - (a_0.length : Int)) <| s
 cases h0 : (decide ((IntKind.wrap .i64 (left_1 - (a_0.length : Int))) < 0)) with
 | true =>
  have gh0 := of_decide_eq_true h0
  refine fnS E0Ok hMixed (c := bodyOf f51) [] (.i .i64 (-1)) [] func51 (p (sB h0 <| sK [] sN)) rfl (by kernel_rfl) (by kernel_rfl) rfl ?_ ?_
  · simp only [v_laws_szInt64SS, h0, cond_true]
  · rfl
 | false =>
  have gh0 := of_decide_eq_false h0
  have q {a C} (s : Scr a C) := p (sB h0 <| s)
  clear p
  cases h1 : (lr_laws_szInt64SS_1_0 a_0 left_1) with
  | inl r2 =>
   refine fnS E0Ok hMixed (c := bodyOf f51) [] (.i .i64 (-1)) [] func51 (q (sL mk_laws_szInt64SS_1_0 0 (lp_val (ls_laws_szInt64SS_1 a_0 left_1) (x := (lr_laws_szInt64SS_1_0 a_0 left_1)) (lp_laws_szInt64SS_1 a_0 left_1 hp0 hp1 h0 (((a_0.length : Int) - 0).toNat + 1) (IntKind.wrap .i64 (left_1 - (a_0.length : Int))) 0 (show 0 ≤ 0 from (by first | assumption | omega | (simp_all <;> omega))) (Nat.lt_succ_self _)) h1) <| sK [] sN)) rfl (by kernel_rfl) (by kernel_rfl) rfl ?_ ?_
   · simp only [v_laws_szInt64SS, h0, h1, cond_false]
   · rfl
  | inr r2 =>
   refine fnS E0Ok hMixed (c := bodyOf f51) [] (.i .i64 r2) [] func51 (q (sL mk_laws_szInt64SS_1_0 0 (lp_val (ls_laws_szInt64SS_1 a_0 left_1) (x := (lr_laws_szInt64SS_1_0 a_0 left_1)) (lp_laws_szInt64SS_1 a_0 left_1 hp0 hp1 h0 (((a_0.length : Int) - 0).toNat + 1) (IntKind.wrap .i64 (left_1 - (a_0.length : Int))) 0 (show 0 ≤ 0 from (by first | assumption | omega | (simp_all <;> omega))) (Nat.lt_succ_self _)) h1) <| sK [] sN)) rfl (by kernel_rfl) (by kernel_rfl) rfl ?_ ?_
   · simp only [v_laws_szInt64SS, h0, h1, cond_false]
   · rfl

theorem lo_szInt64SS (a : List (List Int)) (left : Int) (hb : ∀ t ∈ a, t.length ≤ 9223372036854775807) : ∀ (k : Nat) (l i : Int), 0 ≤ i → ((a.length : Int) - i).toNat < k → -1 ≤ l → l ≤ 1048576 →
    lo_laws_szInt64SS_1 a left k l i = .inl () ∨ ∃ r, lo_laws_szInt64SS_1 a left k l i = .inr r ∧ -1 ≤ r ∧ r ≤ l ∧ ∀ j, i.toNat ≤ j → j < a.length → ((a.getD j default).length : Int) ≤ l := by
  intro k
  induction k with
  | zero => intro l i h0 hk; exact absurd hk (Nat.not_lt_zero _)
  | succ k ih =>
    intro l i h0 hk h1 h2
    rw [lo_laws_szInt64SS_1]
    by_cases hi : i < (a.length : Int)
    · have hn : i.toNat < a.length := by omega
      rw [decide_eq_true hi, cond_true]
      have hm : (a.getD i.toNat default) ∈ a := by rw [List.getD_eq_getElem?_getD, List.getElem?_eq_getElem hn]; exact List.getElem_mem hn
      obtain ⟨q1, q2, q3⟩ := ok_laws_szInt64S (a.getD i.toNat default) l (hb _ hm) h1 h2
      cases hc : decide (v_laws_szInt64S (a.getD i.toNat default) l < 0) with
      | true => left; rfl
      | false =>
        simp only [decide_eq_false_iff_not] at hc
        rw [cond_false]
        rcases ih (v_laws_szInt64S (a.getD i.toNat default) l) (i + 1) (by omega) (by omega) q1 (by omega) with e | ⟨r, e, r1, r2, r3⟩
        · left; exact e
        · right
          refine ⟨r, e, r1, by omega, fun j hj hjl => ?_⟩
          by_cases hji : j = i.toNat
          · subst hji; omega
          · have := r3 j (by omega) hjl; omega
    · rw [decide_eq_false hi, cond_false]
      exact .inr ⟨l, rfl, h1, Int.le_refl _, fun j hj hjl => by omega⟩
theorem ok_laws_szInt64SS (a : List (List Int)) (left : Int) (h0 : a.length ≤ 9223372036854775807) (hb : ∀ t ∈ a, t.length ≤ 9223372036854775807) (h1 : -1 ≤ left) (h2 : left ≤ 1048576) :
    -1 ≤ v_laws_szInt64SS a left ∧ v_laws_szInt64SS a left ≤ left ∧ (v_laws_szInt64SS a left < 0 ∨ ((a.length : Int) ≤ left ∧ ∀ t ∈ a, (t.length : Int) ≤ left)) := by
  unfold v_laws_szInt64SS lr_laws_szInt64SS_1_0
  rw [wrap_sub (by omega) (by omega)]
  cases h : decide (left - (a.length : Int) < 0) with
  | true => simp only [decide_eq_true_eq] at h; rw [cond_true]; omega
  | false =>
    simp only [decide_eq_false_iff_not] at h
    rw [cond_false]
    rcases lo_szInt64SS a left hb _ (left - (a.length : Int)) 0 (Int.le_refl _) (Nat.lt_succ_self _) (by omega) (by omega) with e | ⟨r, e, r1, r2, r3⟩
    · rw [e]; simp only; omega
    · rw [e]; simp only
      refine ⟨r1, by omega, .inr ⟨by omega, fun t ht => ?_⟩⟩
      obtain ⟨j, hj, rfl⟩ := List.getElem_of_mem ht
      have := r3 j (by simp) hj
      rw [List.getD_eq_getElem?_getD, List.getElem?_eq_getElem hj, Option.getD_some] at this
      omega

def v_laws_szMesh (a_0 : GMesh) (left_1 : Int) : Int := (cond (decide ((v_laws_szVectorS a_0.Places left_1) < 0))
  (-1)
  (cond (decide ((v_laws_szInt64SS a_0.Triangles (v_laws_szVectorS a_0.Places left_1)) < 0))
    (-1)
    (v_laws_szInt64SS a_0.Triangles (v_laws_szVectorS a_0.Places left_1))))

theorem t_laws_szMesh (a_0 : GMesh) (left_1 : Int) (hp0 : a_0.Places.length ≤ 9223372036854775807) (hp1 : a_0.Triangles.length ≤ 9223372036854775807) (hp2 : ∀ t ∈ a_0.Triangles, t.length ≤ 9223372036854775807)  : Fn prog 11 [.agg [.sl (a_0.Places.map GVector.cells), .sl (a_0.Triangles.map (cL (cI .i64)))], .i .i64 left_1] (.i .i64 (v_laws_szMesh a_0 left_1)) [] := by
 have p {a C} (s : Scr a C) := sF (t_laws_szVectorS a_0.Places left_1 hp0) <| s
 cases h0 : (decide ((v_laws_szVectorS a_0.Places left_1) < 0)) with
 | true =>
  have gh0 := of_decide_eq_true h0
  refine fnS E0Ok hMixed (c := bodyOf f11) [] (.i .i64 (-1)) [] func11 (p (sB h0 <| sK [] sN)) rfl (by kernel_rfl) (by kernel_rfl) rfl ?_ ?_
  · simp only [v_laws_szMesh, h0, cond_true]
  · rfl
 | false =>
  have gh0 := of_decide_eq_false h0
  have q {a C} (s : Scr a C) := p (sB h0 <| sF (t_laws_szInt64SS a_0.Triangles (v_laws_szVectorS a_0.Places left_1) hp1 hp2) <| s)
  clear p
  cases h1 : (decide ((v_laws_szInt64SS a_0.Triangles (v_laws_szVectorS a_0.Places left_1)) < 0)) with
  | true =>
   have gh1 := of_decide_eq_true h1
   refine fnS E0Ok hMixed (c := bodyOf f11) [] (.i .i64 (-1)) [] func11 (q (sB h1 <| sK [] sN)) rfl (by kernel_rfl) (by kernel_rfl) rfl ?_ ?_
   · simp only [v_laws_szMesh, h0, h1, cond_true, cond_false]
   · rfl
  | false =>
   have gh1 := of_decide_eq_false h1
   refine fnS E0Ok hMixed (c := bodyOf f11) [] (.i .i64 (v_laws_szInt64SS a_0.Triangles (v_laws_szVectorS a_0.Places left_1))) [] func11 (q (sB h1 <| sK [] sN)) rfl (by kernel_rfl) (by kernel_rfl) rfl ?_ ?_
   · simp only [v_laws_szMesh, h0, h1, cond_false]
   · rfl

theorem ok_laws_szMesh (a : GMesh) (left : Int) (h0 : a.Places.length ≤ 9223372036854775807) (h3 : a.Triangles.length ≤ 9223372036854775807) (hb : ∀ t ∈ a.Triangles, t.length ≤ 9223372036854775807) (h1 : -1 ≤ left) (h2 : left ≤ 1048576) :
    -1 ≤ v_laws_szMesh a left ∧ v_laws_szMesh a left ≤ left ∧ (v_laws_szMesh a left < 0 ∨ (a.Places.length : Int) ≤ left) ∧ (v_laws_szMesh a left < 0 ∨ (a.Triangles.length : Int) ≤ left) ∧ ∀ t ∈ a.Triangles, v_laws_szMesh a left < 0 ∨ (t.length : Int) ≤ left := by
  have key : -1 ≤ v_laws_szMesh a left ∧ v_laws_szMesh a left ≤ left ∧ (v_laws_szMesh a left < 0 ∨ ((a.Places.length : Int) ≤ left ∧ (a.Triangles.length : Int) ≤ left ∧ ∀ t ∈ a.Triangles, (t.length : Int) ≤ left)) := by
    unfold v_laws_szMesh
    obtain ⟨p1, p2, p3⟩ := ok_laws_szVectorS a.Places left h0 h1 h2
    cases h : decide (v_laws_szVectorS a.Places left < 0) with
    | true => simp only [decide_eq_true_eq] at h; rw [cond_true]; refine ⟨by omega, by omega, .inl (by omega)⟩
    | false =>
      simp only [decide_eq_false_iff_not] at h
      rw [cond_false]
      obtain ⟨q1, q2, q3⟩ := ok_laws_szInt64SS a.Triangles (v_laws_szVectorS a.Places left) h3 hb p1 (by omega)
      cases h' : decide (v_laws_szInt64SS a.Triangles (v_laws_szVectorS a.Places left) < 0) with
      | true => rw [cond_true]; exact ⟨by omega, by omega, .inl (by omega)⟩
      | false =>
        simp only [decide_eq_false_iff_not] at h'
        rw [cond_false]
        rcases q3 with q | ⟨qa, qb⟩
        · omega
        · exact ⟨q1, by omega, .inr ⟨by omega, by omega, fun t ht => by have := qb t ht; omega⟩⟩
  obtain ⟨k1, k2, k3⟩ := key
  rcases k3 with k3 | ⟨ka, kb, kc⟩
  · exact ⟨k1, k2, .inl k3, .inl k3, fun t ht => .inl k3⟩
  · exact ⟨k1, k2, .inr ka, .inr kb, fun t ht => .inr (kc t ht)⟩

def v_laws_toVector (a_0 : GVector) : GVector := a_0

theorem t_laws_toVector (a_0 : GVector)   : Fn prog 92 [.agg [.f .f32 a_0.X, .f .f32 a_0.Y, .f .f32 a_0.Z]] (.agg [.f .f32 ((v_laws_toVector a_0).X), .f .f32 ((v_laws_toVector a_0).Y), .f .f32 ((v_laws_toVector a_0).Z)]) [] := by
 refine fnS E0Ok hMixed (c := bodyOf f92) [] (.agg [.f .f32 a_0.X, .f .f32 a_0.Y, .f .f32 a_0.Z]) [] func92 (sK [] sN) rfl (by kernel_rfl) (by kernel_rfl) rfl ?_ ?_
 · rfl
 · rfl

@[simp] theorem eq_laws_toVector (a : GVector) : v_laws_toVector a = a := rfl

theorem i_laws_toVector (a_0 : GVector)  : Fn prog 92 [.agg [.f .f32 a_0.X, .f .f32 a_0.Y, .f .f32 a_0.Z]] (.agg [.f .f32 a_0.X, .f .f32 a_0.Y, .f .f32 a_0.Z]) [] := by
 simpa only [eq_laws_toVector] using t_laws_toVector  a_0 

def lo_laws_toVectorS_1 (a_0 : (List GVector)) : Nat → Int → (List GVector) → (List GVector)
  | 0, _, _ => default
  | k + 1, i_l0, r0_l1 => (cond (decide (i_l0 < (a_0.length : Int)))
    (lo_laws_toVectorS_1 a_0 k (i_l0 + 1) (r0_l1.set i_l0.toNat (a_0.getD i_l0.toNat default)))
    r0_l1)

def ls_laws_toVectorS_1 (a_0 : (List GVector)) (r : (List GVector)) : Ex × St := ((.exit 0), ⟨[.sl (a_0.map GVector.cells), .any, .nils, .own 0, .any, .sl (a_0.map GVector.cells), .i .i64 (a_0.length : Int), .own 0, .any, .any, .any, .any, .any, .any, .any, .any, .any, .any, .any, .any, .any, .any, .any], [.vec 67 3 (r.map GVector.cells) false]⟩)

def hd_laws_toVectorS_1 (a_0 : (List GVector)) (i_l0 : Int) (r0_l1 : (List GVector)) : St := ⟨[.sl (a_0.map GVector.cells), .any, .nils, .own 0, .i .i64 i_l0, .sl (a_0.map GVector.cells), .i .i64 (a_0.length : Int), .own 0, .any, .any, .any, .any, .any, .any, .any, .any, .any, .any, .any, .any, .any, .any, .any], [.vec 67 3 (r0_l1.map GVector.cells) false]⟩

def mk_laws_toVectorS_1_0 : List Bool := [true, false, true, true, true, true, true, true, false, false, false, false, false, false, false, false, false, false, false, false, false, false, false]

def mk_laws_toVectorS_1_1 : List Bool := [true, false, true, true, false, true, true, true, false, false, false, false, false, false, false, false, false, false, false, false, false, false, false]

theorem lp_laws_toVectorS_1 (a_0 : (List GVector)) (hp0 : a_0.length ≤ 1073741824) : ∀ (k : Nat) (i_l0 : Int) (r0_l1 : (List GVector)) (hv_laws_toVectorS_1_0 : 0 ≤ i_l0) (hv_laws_toVectorS_1_1 : r0_l1.length = a_0.length) (hk : ((a_0.length : Int) - i_l0).toNat < k), Lp prog 0 (sub (bodyOf f54) [1, 1, 0, 1, 0, 0]) (hd_laws_toVectorS_1 a_0 i_l0 r0_l1) (ls_laws_toVectorS_1 a_0 (lo_laws_toVectorS_1 a_0 k i_l0 r0_l1)).1 (ls_laws_toVectorS_1 a_0 (lo_laws_toVectorS_1 a_0 k i_l0 r0_l1)).2 := by
 intro k
 induction k with
 | zero => intro i_l0 r0_l1 hv_laws_toVectorS_1_0 hv_laws_toVectorS_1_1 hk; exact absurd hk (Nat.not_lt_zero _)
 | succ k ih =>
  intro i_l0 r0_l1 hv_laws_toVectorS_1_0 hv_laws_toVectorS_1_1 hk
  have p {a C} (s : Scr a C) := sZ GVector.cells a_0 <| s
  cases h_0 : (decide (i_l0 < (a_0.length : Int))) with
  | true =>
   have gh_0 := of_decide_eq_true h_0
   have y_0 : (0 : Int) ≤ i_l0 := by clear p; exact (by first | assumption | omega | (simp_all <;> omega))
   have y_1 : i_l0 < (a_0.length : Int) := by clear p; exact (by first | assumption | omega | (simp_all <;> omega))
   have y_2 : i_l0 < (r0_l1.length : Int) := by clear p; exact (by first | assumption | omega | (simp_all <;> omega))
   have y_3 : i_l0.toNat < r0_l1.length := by clear p; exact (by first | assumption | omega | (simp_all <;> omega))
   have y_4 : (-9223372036854775808 : Int) ≤ (i_l0 + 1) := by clear p; exact (by first | assumption | omega | (simp_all <;> omega))
   have y_5 : (i_l0 + 1) ≤ (9223372036854775807 : Int) := by clear p; exact (by first | assumption | omega | (simp_all <;> omega))
   have e : lo_laws_toVectorS_1 a_0 (k + 1) i_l0 r0_l1 = (lo_laws_toVectorS_1 a_0 k (i_l0 + 1) (r0_l1.set i_l0.toNat (a_0.getD i_l0.toNat default))) := by simp only [lo_laws_toVectorS_1, h_0, cond_true]
   rw [e]
   exact nextS E0Ok hMixed [] mk_laws_toVectorS_1_0 [0] (⟨[.sl (a_0.map GVector.cells), .any, .nils, .own 0, .i .i64 (i_l0 + 1), .sl (a_0.map GVector.cells), .i .i64 (a_0.length : Int), .own 0, .any, .any, .any, .any, .any, .any, .any, .any, .any, .any, .any, .any, .any, .any, .any], [.vec 67 3 ((r0_l1.map GVector.cells).set i_l0.toNat [.f .f32 ((a_0.getD i_l0.toNat default).X), .f .f32 ((a_0.getD i_l0.toNat default).Y), .f .f32 ((a_0.getD i_l0.toNat default).Z)]) false]⟩) (p (sB h_0 <| sG GVector.cells a_0 i_l0 y_0 y_1 <| sF (i_laws_toVector (a_0.getD i_l0.toNat default)) <| sX GVector.cells r0_l1 i_l0 y_0 y_2 <| sC (maplt (c := GVector.cells) (l := r0_l1) y_3) <| sI (i_l0 + 1) y_4 y_5 <| sN)) (by kernel_rfl) (show _ = ⟨[.sl (a_0.map GVector.cells), .any, .nils, .own 0, .i .i64 (i_l0 + 1), .sl (a_0.map GVector.cells), .i .i64 (a_0.length : Int), .own 0, .any, .any, .any, .any, .any, .any, .any, .any, .any, .any, .any, .any, .any, .any, .any], [.vec 67 3 ((r0_l1.set i_l0.toNat (a_0.getD i_l0.toNat default)).map GVector.cells) false]⟩ from (by simp [List.map_set, GVector.cells])) (ih (i_l0 + 1) (r0_l1.set i_l0.toNat (a_0.getD i_l0.toNat default)) (show 0 ≤ (i_l0 + 1) from (by first | assumption | omega | (simp_all <;> omega))) (show (r0_l1.set i_l0.toNat (a_0.getD i_l0.toNat default)).length = a_0.length from (by first | assumption | omega | (simp_all <;> omega))) (by first | assumption | omega | (simp_all <;> omega)))
  | false =>
   have gh_0 := of_decide_eq_false h_0
   have e : lo_laws_toVectorS_1 a_0 (k + 1) i_l0 r0_l1 = r0_l1 := by simp only [lo_laws_toVectorS_1, h_0, cond_false]
   rw [e]
   exact outR (e := (.exit 0)) E0Ok hMixed [] mk_laws_toVectorS_1_1 [0] (p (sB h_0 <| sN)) (by kernel_rfl) (by intro h; cases h)

theorem ln_laws_toVectorS_1_0 (a_0 : (List GVector)) : ∀ (k : Nat) (i_l0 : Int) (r0_l1 : (List GVector)) (hk : ((a_0.length : Int) - i_l0).toNat < k), (lo_laws_toVectorS_1 a_0 k i_l0 r0_l1).length = r0_l1.length := by
  intro k
  induction k with
  | zero => intro i_l0 r0_l1 hk; exact absurd hk (Nat.not_lt_zero _)
  | succ k ih =>
    intro i_l0 r0_l1 hk
    cases h_0 : (decide (i_l0 < (a_0.length : Int))) with
    | true =>
      have e : lo_laws_toVectorS_1 a_0 (k + 1) i_l0 r0_l1 = (lo_laws_toVectorS_1 a_0 k (i_l0 + 1) (r0_l1.set i_l0.toNat (a_0.getD i_l0.toNat default))) := by simp only [lo_laws_toVectorS_1, h_0, cond_true]
      rw [e, ih (i_l0 + 1) (r0_l1.set i_l0.toNat (a_0.getD i_l0.toNat default)) (by first | assumption | omega | (simp_all <;> omega))]; simp
    | false =>
      have e : lo_laws_toVectorS_1 a_0 (k + 1) i_l0 r0_l1 = r0_l1 := by simp only [lo_laws_toVectorS_1, h_0, cond_false]
      first | (rw [e]; done) | (rw [e]; rfl)

def lr_laws_toVectorS_1_0 (a_0 : (List GVector)) : (List GVector) := (lo_laws_toVectorS_1 a_0 (((a_0.length : Int) - 0).toNat + 1) 0 (List.replicate (a_0.length : Int).toNat (⟨0, 0, 0⟩ : GVector)))

@[simp] theorem len_lr_laws_toVectorS_1_0_0 (a_0 : (List GVector)) : (lr_laws_toVectorS_1_0 a_0).length = ((List.replicate (a_0.length : Int).toNat (⟨0, 0, 0⟩ : GVector)) : (List GVector)).length := ln_laws_toVectorS_1_0 a_0 (((a_0.length : Int) - 0).toNat + 1) 0 (List.replicate (a_0.length : Int).toNat (⟨0, 0, 0⟩ : GVector)) (by first | exact Nat.lt_succ_self _ | simp)

def v_laws_toVectorS (a_0 : (List GVector)) : (List GVector) := (lr_laws_toVectorS_1_0 a_0)

@[simp] theorem len_v_laws_toVectorS_0 (a_0 : (List GVector)) : (v_laws_toVectorS a_0).length = a_0.length := by
  first | (simp [v_laws_toVectorS]; done)

theorem t_laws_toVectorS (a_0 : (List GVector)) (hp0 : a_0.length ≤ 1073741824)  : Fn prog 54 [.sl (a_0.map GVector.cells)] (.own 0) [.vec 67 3 ((v_laws_toVectorS a_0).map GVector.cells) false] := by
 have y0 : (0 : Int) ≤ (a_0.length : Int) := (by first | assumption | omega | (simp_all <;> omega))
 have y1 : ((a_0.length : Int) : Int) ≤ 2147483648 := (by first | assumption | omega | (simp_all <;> omega))
 refine fnS E0Ok hMixed (c := bodyOf f54) [] (.own 0) [.vec 67 3 ((lr_laws_toVectorS_1_0 a_0).map GVector.cells) false] func54 (sZ GVector.cells a_0 <| sC (show (a_0.length : Int) = (a_0.length : Int) from rfl) <| sC y0 <| sC y1 <| sL mk_laws_toVectorS_1_0 1 (lp_cast (st2 := ⟨[.sl (a_0.map GVector.cells), .any, .nils, .own 0, .i .i64 0, .sl (a_0.map GVector.cells), .i .i64 (a_0.length : Int), .own 0, .any, .any, .any, .any, .any, .any, .any, .any, .any, .any, .any, .any, .any, .any, .any], [.vec 67 3 (List.replicate (Int.toNat (a_0.length : Int)) [.f .f32 0, .f .f32 0, .f .f32 0]) false]⟩) (lp_val (ls_laws_toVectorS_1 a_0) (x := (lr_laws_toVectorS_1_0 a_0)) (lp_laws_toVectorS_1 a_0 hp0 (((a_0.length : Int) - 0).toNat + 1) 0 (List.replicate (a_0.length : Int).toNat (⟨0, 0, 0⟩ : GVector)) (show 0 ≤ 0 from (by first | assumption | omega | (simp_all <;> omega))) (show (List.replicate (a_0.length : Int).toNat (⟨0, 0, 0⟩ : GVector)).length = a_0.length from (by simp)) (Nat.lt_succ_self _)) rfl) (by simp [hd_laws_toVectorS_1, GVector.cells])) <| sK [0] sN) rfl (by kernel_rfl) (by kernel_rfl) rfl ?_ ?_
 · rfl
 · simp [v_laws_toVectorS]

@[simp] theorem eq_laws_toVectorS (a : List GVector) : v_laws_toVectorS a = a := by
  unfold v_laws_toVectorS lr_laws_toVectorS_1_0
  rw [copy_all (f := id) (a := a) (lo := lo_laws_toVectorS_1 a) (fun k i r => rfl)]
  exact List.map_id a

theorem i_laws_toVectorS (a_0 : (List GVector)) (hp0 : a_0.length ≤ 1073741824) : Fn prog 54 [.sl (a_0.map GVector.cells)] (.own 0) [.vec 67 3 (a_0.map GVector.cells) false] := by
 simpa only [eq_laws_toVectorS] using t_laws_toVectorS  a_0 hp0

def lo_laws_toInt64S_1 (a_0 : (List Int)) : Nat → Int → (List Int) → (List Int)
  | 0, _, _ => default
  | k + 1, i_l0, r0_l1 => (cond (decide (i_l0 < (a_0.length : Int)))
    (lo_laws_toInt64S_1 a_0 k (i_l0 + 1) (r0_l1.set i_l0.toNat (a_0.getD i_l0.toNat default)))
    r0_l1)

def ls_laws_toInt64S_1 (a_0 : (List Int)) (r : (List Int)) : Ex × St := ((.exit 0), ⟨[.sl (a_0.map (cI .i64)), .any, .nils, .own 0, .any, .sl (a_0.map (cI .i64)), .i .i64 (a_0.length : Int), .own 0, .any, .any, .any, .any, .any, .any, .any, .any, .any, .any, .any, .any, .any, .any], [.vec 2 1 (r.map (cI .i64)) false]⟩)

def hd_laws_toInt64S_1 (a_0 : (List Int)) (i_l0 : Int) (r0_l1 : (List Int)) : St := ⟨[.sl (a_0.map (cI .i64)), .any, .nils, .own 0, .i .i64 i_l0, .sl (a_0.map (cI .i64)), .i .i64 (a_0.length : Int), .own 0, .any, .any, .any, .any, .any, .any, .any, .any, .any, .any, .any, .any, .any, .any], [.vec 2 1 (r0_l1.map (cI .i64)) false]⟩

def mk_laws_toInt64S_1_0 : List Bool := [true, false, true, true, true, true, true, true, false, false, false, false, false, false, false, false, false, false, false, false, false, false]

def mk_laws_toInt64S_1_1 : List Bool := [true, false, true, true, false, true, true, true, false, false, false, false, false, false, false, false, false, false, false, false, false, false]

theorem lp_laws_toInt64S_1 (a_0 : (List Int)) (hp0 : a_0.length ≤ 1073741824) : ∀ (k : Nat) (i_l0 : Int) (r0_l1 : (List Int)) (hv_laws_toInt64S_1_0 : 0 ≤ i_l0) (hv_laws_toInt64S_1_1 : r0_l1.length = a_0.length) (hk : ((a_0.length : Int) - i_l0).toNat < k), Lp prog 0 (sub (bodyOf f106) [1, 1, 0, 1, 0, 0]) (hd_laws_toInt64S_1 a_0 i_l0 r0_l1) (ls_laws_toInt64S_1 a_0 (lo_laws_toInt64S_1 a_0 k i_l0 r0_l1)).1 (ls_laws_toInt64S_1 a_0 (lo_laws_toInt64S_1 a_0 k i_l0 r0_l1)).2 := by
 intro k
 induction k with
 | zero => intro i_l0 r0_l1 hv_laws_toInt64S_1_0 hv_laws_toInt64S_1_1 hk; exact absurd hk (Nat.not_lt_zero _)
 | succ k ih =>
  intro i_l0 r0_l1 hv_laws_toInt64S_1_0 hv_laws_toInt64S_1_1 hk
  have p {a C} (s : Scr a C) := sZ (cI .i64) a_0 <| s
  cases h_0 : (decide (i_l0 < (a_0.length : Int))) with
  | true =>
   have gh_0 := of_decide_eq_true h_0
   have y_0 : (0 : Int) ≤ i_l0 := by clear p; exact (by first | assumption | omega | (simp_all <;> omega))
   have y_1 : i_l0 < (a_0.length : Int) := by clear p; exact (by first | assumption | omega | (simp_all <;> omega))
   have y_2 : i_l0 < (r0_l1.length : Int) := by clear p; exact (by first | assumption | omega | (simp_all <;> omega))
   have y_3 : i_l0.toNat < r0_l1.length := by clear p; exact (by first | assumption | omega | (simp_all <;> omega))
   have y_4 : (-9223372036854775808 : Int) ≤ (i_l0 + 1) := by clear p; exact (by first | assumption | omega | (simp_all <;> omega))
   have y_5 : (i_l0 + 1) ≤ (9223372036854775807 : Int) := by clear p; exact (by first | assumption | omega | (simp_all <;> omega))
   have e : lo_laws_toInt64S_1 a_0 (k + 1) i_l0 r0_l1 = (lo_laws_toInt64S_1 a_0 k (i_l0 + 1) (r0_l1.set i_l0.toNat (a_0.getD i_l0.toNat default))) := by simp only [lo_laws_toInt64S_1, h_0, cond_true]
   rw [e]
   exact nextS E0Ok hMixed [] mk_laws_toInt64S_1_0 [0] (⟨[.sl (a_0.map (cI .i64)), .any, .nils, .own 0, .i .i64 (i_l0 + 1), .sl (a_0.map (cI .i64)), .i .i64 (a_0.length : Int), .own 0, .any, .any, .any, .any, .any, .any, .any, .any, .any, .any, .any, .any, .any, .any], [.vec 2 1 ((r0_l1.map (cI .i64)).set i_l0.toNat [.i .i64 (a_0.getD i_l0.toNat default)]) false]⟩) (p (sB h_0 <| sG (cI .i64) a_0 i_l0 y_0 y_1 <| sX (cI .i64) r0_l1 i_l0 y_0 y_2 <| sC (maplt (c := (cI .i64)) (l := r0_l1) y_3) <| sI (i_l0 + 1) y_4 y_5 <| sN)) (by kernel_rfl) (show _ = ⟨[.sl (a_0.map (cI .i64)), .any, .nils, .own 0, .i .i64 (i_l0 + 1), .sl (a_0.map (cI .i64)), .i .i64 (a_0.length : Int), .own 0, .any, .any, .any, .any, .any, .any, .any, .any, .any, .any, .any, .any, .any, .any], [.vec 2 1 ((r0_l1.set i_l0.toNat (a_0.getD i_l0.toNat default)).map (cI .i64)) false]⟩ from (by simp [List.map_set, cI])) (ih (i_l0 + 1) (r0_l1.set i_l0.toNat (a_0.getD i_l0.toNat default)) (show 0 ≤ (i_l0 + 1) from (by first | assumption | omega | (simp_all <;> omega))) (show (r0_l1.set i_l0.toNat (a_0.getD i_l0.toNat default)).length = a_0.length from (by first | assumption | omega | (simp_all <;> omega))) (by first | assumption | omega | (simp_all <;> omega)))
  | false =>
   have gh_0 := of_decide_eq_false h_0
   have e : lo_laws_toInt64S_1 a_0 (k + 1) i_l0 r0_l1 = r0_l1 := by simp only [lo_laws_toInt64S_1, h_0, cond_false]
   rw [e]
   exact outR (e := (.exit 0)) E0Ok hMixed [] mk_laws_toInt64S_1_1 [0] (p (sB h_0 <| sN)) (by kernel_rfl) (by intro h; cases h)

theorem ln_laws_toInt64S_1_0 (a_0 : (List Int)) : ∀ (k : Nat) (i_l0 : Int) (r0_l1 : (List Int)) (hk : ((a_0.length : Int) - i_l0).toNat < k), (lo_laws_toInt64S_1 a_0 k i_l0 r0_l1).length = r0_l1.length := by
  intro k
  induction k with
  | zero => intro i_l0 r0_l1 hk; exact absurd hk (Nat.not_lt_zero _)
  | succ k ih =>
    intro i_l0 r0_l1 hk
    cases h_0 : (decide (i_l0 < (a_0.length : Int))) with
    | true =>
      have e : lo_laws_toInt64S_1 a_0 (k + 1) i_l0 r0_l1 = (lo_laws_toInt64S_1 a_0 k (i_l0 + 1) (r0_l1.set i_l0.toNat (a_0.getD i_l0.toNat default))) := by simp only [lo_laws_toInt64S_1, h_0, cond_true]
      rw [e, ih (i_l0 + 1) (r0_l1.set i_l0.toNat (a_0.getD i_l0.toNat default)) (by first | assumption | omega | (simp_all <;> omega))]; simp
    | false =>
      have e : lo_laws_toInt64S_1 a_0 (k + 1) i_l0 r0_l1 = r0_l1 := by simp only [lo_laws_toInt64S_1, h_0, cond_false]
      first | (rw [e]; done) | (rw [e]; rfl)

def lr_laws_toInt64S_1_0 (a_0 : (List Int)) : (List Int) := (lo_laws_toInt64S_1 a_0 (((a_0.length : Int) - 0).toNat + 1) 0 (List.replicate (a_0.length : Int).toNat 0))

@[simp] theorem len_lr_laws_toInt64S_1_0_0 (a_0 : (List Int)) : (lr_laws_toInt64S_1_0 a_0).length = ((List.replicate (a_0.length : Int).toNat 0) : (List Int)).length := ln_laws_toInt64S_1_0 a_0 (((a_0.length : Int) - 0).toNat + 1) 0 (List.replicate (a_0.length : Int).toNat 0) (by first | exact Nat.lt_succ_self _ | simp)

def v_laws_toInt64S (a_0 : (List Int)) : (List Int) := (lr_laws_toInt64S_1_0 a_0)

@[simp] theorem len_v_laws_toInt64S_0 (a_0 : (List Int)) : (v_laws_toInt64S a_0).length = a_0.length := by
  first | (simp [v_laws_toInt64S]; done)

theorem t_laws_toInt64S (a_0 : (List Int)) (hp0 : a_0.length ≤ 1073741824)  : Fn prog 106 [.sl (a_0.map (cI .i64))] (.own 0) [.vec 2 1 ((v_laws_toInt64S a_0).map (cI .i64)) false] := by
 have y0 : (0 : Int) ≤ (a_0.length : Int) := (by first | assumption | omega | (simp_all <;> omega))
 have y1 : ((a_0.length : Int) : Int) ≤ 2147483648 := (by first | assumption | omega | (simp_all <;> omega))
 refine fnS E0Ok hMixed (c := bodyOf f106) [] (.own 0) [.vec 2 1 ((lr_laws_toInt64S_1_0 a_0).map (cI .i64)) false] func106 (sZ (cI .i64) a_0 <| sC (show (a_0.length : Int) = (a_0.length : Int) from rfl) <| sC y0 <| sC y1 <| sL mk_laws_toInt64S_1_0 1 (lp_cast (st2 := ⟨[.sl (a_0.map (cI .i64)), .any, .nils, .own 0, .i .i64 0, .sl (a_0.map (cI .i64)), .i .i64 (a_0.length : Int), .own 0, .any, .any, .any, .any, .any, .any, .any, .any, .any, .any, .any, .any, .any, .any], [.vec 2 1 (List.replicate (Int.toNat (a_0.length : Int)) [.i .i64 0]) false]⟩) (lp_val (ls_laws_toInt64S_1 a_0) (x := (lr_laws_toInt64S_1_0 a_0)) (lp_laws_toInt64S_1 a_0 hp0 (((a_0.length : Int) - 0).toNat + 1) 0 (List.replicate (a_0.length : Int).toNat 0) (show 0 ≤ 0 from (by first | assumption | omega | (simp_all <;> omega))) (show (List.replicate (a_0.length : Int).toNat 0).length = a_0.length from (by simp)) (Nat.lt_succ_self _)) rfl) (by simp [hd_laws_toInt64S_1, cI])) <| sK [0] sN) rfl (by kernel_rfl) (by kernel_rfl) rfl ?_ ?_
 · rfl
 · simp [v_laws_toInt64S]

@[simp] theorem eq_laws_toInt64S (a : List Int) : v_laws_toInt64S a = a := by
  unfold v_laws_toInt64S lr_laws_toInt64S_1_0
  rw [copy_all (f := id) (a := a) (lo := lo_laws_toInt64S_1 a) (fun k i r => rfl)]
  exact List.map_id a

theorem i_laws_toInt64S (a_0 : (List Int)) (hp0 : a_0.length ≤ 1073741824) : Fn prog 106 [.sl (a_0.map (cI .i64))] (.own 0) [.vec 2 1 (a_0.map (cI .i64)) false] := by
 simpa only [eq_laws_toInt64S] using t_laws_toInt64S  a_0 hp0

def lo_laws_toInt64SS_1 (a_0 : (List (List Int))) : Nat → Int → (List (List Int)) → (List (List Int))
  | 0, _, _ => default
  | k + 1, i_l0, r0_l1 => (cond (decide (i_l0 < (a_0.length : Int)))
    (lo_laws_toInt64SS_1 a_0 k (i_l0 + 1) (r0_l1.set i_l0.toNat (a_0.getD i_l0.toNat default)))
    r0_l1)

def ls_laws_toInt64SS_1 (a_0 : (List (List Int))) (r : (List (List Int))) : Ex × St := ((.exit 0), ⟨[.sl (a_0.map (cL (cI .i64))), .any, .nils, .own 0, .any, .sl (a_0.map (cL (cI .i64))), .i .i64 (a_0.length : Int), .own 0, .any, .any, .any, .any, .any, .any, .any, .any, .any, .any, .any, .any, .any, .any, .any], [.nest 52 (r.map fun l => l.map (cI .i64)) false]⟩)

def hd_laws_toInt64SS_1 (a_0 : (List (List Int))) (i_l0 : Int) (r0_l1 : (List (List Int))) : St := ⟨[.sl (a_0.map (cL (cI .i64))), .any, .nils, .own 0, .i .i64 i_l0, .sl (a_0.map (cL (cI .i64))), .i .i64 (a_0.length : Int), .own 0, .any, .any, .any, .any, .any, .any, .any, .any, .any, .any, .any, .any, .any, .any, .any], [.nest 52 (r0_l1.map fun l => l.map (cI .i64)) false]⟩

def mk_laws_toInt64SS_1_0 : List Bool := [true, false, true, true, true, true, true, true, false, false, false, false, false, false, false, false, false, false, false, false, false, false, false]

def mk_laws_toInt64SS_1_1 : List Bool := [true, false, true, true, false, true, true, true, false, false, false, false, false, false, false, false, false, false, false, false, false, false, false]

theorem lp_laws_toInt64SS_1 (a_0 : (List (List Int))) (hp0 : a_0.length ≤ 1073741824) (hp1 : ∀ t ∈ a_0, t.length ≤ 1073741824) : ∀ (k : Nat) (i_l0 : Int) (r0_l1 : (List (List Int))) (hv_laws_toInt64SS_1_0 : 0 ≤ i_l0) (hv_laws_toInt64SS_1_1 : r0_l1.length = a_0.length) (hk : ((a_0.length : Int) - i_l0).toNat < k), Lp prog 0 (sub (bodyOf f55) [1, 1, 0, 1, 0, 0]) (hd_laws_toInt64SS_1 a_0 i_l0 r0_l1) (ls_laws_toInt64SS_1 a_0 (lo_laws_toInt64SS_1 a_0 k i_l0 r0_l1)).1 (ls_laws_toInt64SS_1 a_0 (lo_laws_toInt64SS_1 a_0 k i_l0 r0_l1)).2 := by
 intro k
 induction k with
 | zero => intro i_l0 r0_l1 hv_laws_toInt64SS_1_0 hv_laws_toInt64SS_1_1 hk; exact absurd hk (Nat.not_lt_zero _)
 | succ k ih =>
  intro i_l0 r0_l1 hv_laws_toInt64SS_1_0 hv_laws_toInt64SS_1_1 hk
  have p {a C} (s : Scr a C) := sZ (cL (cI .i64)) a_0 <| s
  cases h_0 : (decide (i_l0 < (a_0.length : Int))) with
  | true =>
   have gh_0 := of_decide_eq_true h_0
   have y_0 : (0 : Int) ≤ i_l0 := by clear p; exact (by first | assumption | omega | (simp_all <;> omega))
   have y_1 : i_l0 < (a_0.length : Int) := by clear p; exact (by first | assumption | omega | (simp_all <;> omega))
   have y_2 : (a_0.getD i_l0.toNat default).length ≤ 1073741824 := by clear p; exact (by first | assumption | omega | (simp_all <;> omega))
   have y_3 : Int.toNat i_l0 < r0_l1.length := by clear p; exact (by first | assumption | omega | (simp_all <;> omega))
   have y_4 : i_l0.toNat < r0_l1.length := by clear p; exact (by first | assumption | omega | (simp_all <;> omega))
   have y_5 : (-9223372036854775808 : Int) ≤ (i_l0 + 1) := by clear p; exact (by first | assumption | omega | (simp_all <;> omega))
   have y_6 : (i_l0 + 1) ≤ (9223372036854775807 : Int) := by clear p; exact (by first | assumption | omega | (simp_all <;> omega))
   have e : lo_laws_toInt64SS_1 a_0 (k + 1) i_l0 r0_l1 = (lo_laws_toInt64SS_1 a_0 k (i_l0 + 1) (r0_l1.set i_l0.toNat (a_0.getD i_l0.toNat default))) := by simp only [lo_laws_toInt64SS_1, h_0, cond_true]
   rw [e]
   exact nextS E0Ok hMixed [] mk_laws_toInt64SS_1_0 [0] (⟨[.sl (a_0.map (cL (cI .i64))), .any, .nils, .own 0, .i .i64 (i_l0 + 1), .sl (a_0.map (cL (cI .i64))), .i .i64 (a_0.length : Int), .own 0, .any, .any, .any, .any, .any, .any, .any, .any, .any, .any, .any, .any, .any, .any, .any], [.nest 52 ((r0_l1.map fun l => l.map (cI .i64)).set i_l0.toNat ((a_0.getD i_l0.toNat default).map (cI .i64))) false]⟩) (p (sB h_0 <| sG (cL (cI .i64)) a_0 i_l0 y_0 y_1 <| sF (i_laws_toInt64S (a_0.getD i_l0.toNat default) y_2) <| sC (nestix (c := (cI .i64)) (l := r0_l1) (i := i_l0) y_0 y_3) <| sC (show i_l0.toNat < (r0_l1.map fun l => l.map (cI .i64)).length from (by simpa using y_4)) <| sI (i_l0 + 1) y_5 y_6 <| sN)) (by kernel_rfl) (show _ = ⟨[.sl (a_0.map (cL (cI .i64))), .any, .nils, .own 0, .i .i64 (i_l0 + 1), .sl (a_0.map (cL (cI .i64))), .i .i64 (a_0.length : Int), .own 0, .any, .any, .any, .any, .any, .any, .any, .any, .any, .any, .any, .any, .any, .any, .any], [.nest 52 ((r0_l1.set i_l0.toNat (a_0.getD i_l0.toNat default)).map fun l => l.map (cI .i64)) false]⟩ from (by simp [List.map_set, cL, cI])) (ih (i_l0 + 1) (r0_l1.set i_l0.toNat (a_0.getD i_l0.toNat default)) (show 0 ≤ (i_l0 + 1) from (by first | assumption | omega | (simp_all <;> omega))) (show (r0_l1.set i_l0.toNat (a_0.getD i_l0.toNat default)).length = a_0.length from (by first | assumption | omega | (simp_all <;> omega))) (by first | assumption | omega | (simp_all <;> omega)))
  | false =>
   have gh_0 := of_decide_eq_false h_0
   have e : lo_laws_toInt64SS_1 a_0 (k + 1) i_l0 r0_l1 = r0_l1 := by simp only [lo_laws_toInt64SS_1, h_0, cond_false]
   rw [e]
   exact outR (e := (.exit 0)) E0Ok hMixed [] mk_laws_toInt64SS_1_1 [0] (p (sB h_0 <| sN)) (by kernel_rfl) (by intro h; cases h)

theorem ln_laws_toInt64SS_1_0 (a_0 : (List (List Int))) : ∀ (k : Nat) (i_l0 : Int) (r0_l1 : (List (List Int))) (hk : ((a_0.length : Int) - i_l0).toNat < k), (lo_laws_toInt64SS_1 a_0 k i_l0 r0_l1).length = r0_l1.length := by
  intro k
  induction k with
  | zero => intro i_l0 r0_l1 hk; exact absurd hk (Nat.not_lt_zero _)
  | succ k ih =>
    intro i_l0 r0_l1 hk
    cases h_0 : (decide (i_l0 < (a_0.length : Int))) with
    | true =>
      have e : lo_laws_toInt64SS_1 a_0 (k + 1) i_l0 r0_l1 = (lo_laws_toInt64SS_1 a_0 k (i_l0 + 1) (r0_l1.set i_l0.toNat (a_0.getD i_l0.toNat default))) := by simp only [lo_laws_toInt64SS_1, h_0, cond_true]
      rw [e, ih (i_l0 + 1) (r0_l1.set i_l0.toNat (a_0.getD i_l0.toNat default)) (by first | assumption | omega | (simp_all <;> omega))]; simp
    | false =>
      have e : lo_laws_toInt64SS_1 a_0 (k + 1) i_l0 r0_l1 = r0_l1 := by simp only [lo_laws_toInt64SS_1, h_0, cond_false]
      first | (rw [e]; done) | (rw [e]; rfl)

def lr_laws_toInt64SS_1_0 (a_0 : (List (List Int))) : (List (List Int)) := (lo_laws_toInt64SS_1 a_0 (((a_0.length : Int) - 0).toNat + 1) 0 (List.replicate (a_0.length : Int).toNat ([] : (List Int))))

@[simp] theorem len_lr_laws_toInt64SS_1_0_0 (a_0 : (List (List Int))) : (lr_laws_toInt64SS_1_0 a_0).length = ((List.replicate (a_0.length : Int).toNat ([] : (List Int))) : (List (List Int))).length := ln_laws_toInt64SS_1_0 a_0 (((a_0.length : Int) - 0).toNat + 1) 0 (List.replicate (a_0.length : Int).toNat ([] : (List Int))) (by first | exact Nat.lt_succ_self _ | simp)

def v_laws_toInt64SS (a_0 : (List (List Int))) : (List (List Int)) := (lr_laws_toInt64SS_1_0 a_0)

@[simp] theorem len_v_laws_toInt64SS_0 (a_0 : (List (List Int))) : (v_laws_toInt64SS a_0).length = a_0.length := by
  first | (simp [v_laws_toInt64SS]; done)

theorem t_laws_toInt64SS (a_0 : (List (List Int))) (hp0 : a_0.length ≤ 1073741824) (hp1 : ∀ t ∈ a_0, t.length ≤ 1073741824)  : Fn prog 55 [.sl (a_0.map (cL (cI .i64)))] (.own 0) [.nest 52 ((v_laws_toInt64SS a_0).map fun l => l.map (cI .i64)) false] := by
 have y0 : (0 : Int) ≤ (a_0.length : Int) := (by first | assumption | omega | (simp_all <;> omega))
 have y1 : ((a_0.length : Int) : Int) ≤ 2147483648 := (by first | assumption | omega | (simp_all <;> omega))
 refine fnS E0Ok hMixed (c := bodyOf f55) [] (.own 0) [.nest 52 ((lr_laws_toInt64SS_1_0 a_0).map fun l => l.map (cI .i64)) false] func55 (sZ (cL (cI .i64)) a_0 <| sC (show (a_0.length : Int) = (a_0.length : Int) from rfl) <| sC y0 <| sC y1 <| sL mk_laws_toInt64SS_1_0 1 (lp_cast (st2 := ⟨[.sl (a_0.map (cL (cI .i64))), .any, .nils, .own 0, .i .i64 0, .sl (a_0.map (cL (cI .i64))), .i .i64 (a_0.length : Int), .own 0, .any, .any, .any, .any, .any, .any, .any, .any, .any, .any, .any, .any, .any, .any, .any], [.nest 52 (List.replicate (a_0.length : Int).toNat []) false]⟩) (lp_val (ls_laws_toInt64SS_1 a_0) (x := (lr_laws_toInt64SS_1_0 a_0)) (lp_laws_toInt64SS_1 a_0 hp0 hp1 (((a_0.length : Int) - 0).toNat + 1) 0 (List.replicate (a_0.length : Int).toNat ([] : (List Int))) (show 0 ≤ 0 from (by first | assumption | omega | (simp_all <;> omega))) (show (List.replicate (a_0.length : Int).toNat ([] : (List Int))).length = a_0.length from (by simp)) (Nat.lt_succ_self _)) rfl) (by simp [hd_laws_toInt64SS_1, cL, cI])) <| sK [0] sN) rfl (by kernel_rfl) (by kernel_rfl) rfl ?_ ?_
 · rfl
 · simp [v_laws_toInt64SS]

@[simp] theorem eq_laws_toInt64SS (a : List (List Int)) : v_laws_toInt64SS a = a := by
  unfold v_laws_toInt64SS lr_laws_toInt64SS_1_0
  rw [copy_all (f := id) (a := a) (lo := lo_laws_toInt64SS_1 a) (fun k i r => rfl)]
  exact List.map_id a

theorem i_laws_toInt64SS (a_0 : (List (List Int))) (hp0 : a_0.length ≤ 1073741824) (hp1 : ∀ t ∈ a_0, t.length ≤ 1073741824) : Fn prog 55 [.sl (a_0.map (cL (cI .i64)))] (.own 0) [.nest 52 (a_0.map fun l => l.map (cI .i64)) false] := by
 simpa only [eq_laws_toInt64SS] using t_laws_toInt64SS  a_0 hp0 hp1

def v_laws_toMesh (a_0 : GMesh) : GMesh := a_0

theorem t_laws_toMesh (a_0 : GMesh) (hp0 : a_0.Places.length ≤ 1073741824) (hp1 : a_0.Triangles.length ≤ 1073741824) (hp2 : ∀ t ∈ a_0.Triangles, t.length ≤ 1073741824)  : Fn prog 13 [.agg [.sl (a_0.Places.map GVector.cells), .sl (a_0.Triangles.map (cL (cI .i64)))]] (.agg [.own 0, .own 1]) [.vec 67 3 (((v_laws_toMesh a_0).Places).map GVector.cells) false, .nest 52 (((v_laws_toMesh a_0).Triangles).map fun l => l.map (cI .i64)) false] := by
 refine fnS E0Ok hMixed (c := bodyOf f13) [] (.agg [.own 0, .own 1]) [.vec 67 3 (a_0.Places.map GVector.cells) false, .nest 52 (a_0.Triangles.map fun l => l.map (cI .i64)) false] func13 (sF (i_laws_toVectorS a_0.Places hp0) <| sF (i_laws_toInt64SS a_0.Triangles hp1 hp2) <| sK [3, 4] sN) rfl (by kernel_rfl) (by kernel_rfl) rfl ?_ ?_
 · rfl
 · simp [v_laws_toMesh]

@[simp] theorem eq_laws_toMesh (a : GMesh) : v_laws_toMesh a = a := by
  simp [v_laws_toMesh]

theorem i_laws_toMesh (a_0 : GMesh) (hp0 : a_0.Places.length ≤ 1073741824) (hp1 : a_0.Triangles.length ≤ 1073741824) (hp2 : ∀ t ∈ a_0.Triangles, t.length ≤ 1073741824) : Fn prog 13 [.agg [.sl (a_0.Places.map GVector.cells), .sl (a_0.Triangles.map (cL (cI .i64)))]] (.agg [.own 0, .own 1]) [.vec 67 3 (a_0.Places.map GVector.cells) false, .nest 52 (a_0.Triangles.map fun l => l.map (cI .i64)) false] := by
 simpa only [eq_laws_toMesh] using t_laws_toMesh  a_0 hp0 hp1 hp2

def v_spec_l00In (n_0 : Int) (low_1 : Int) (high_2 : Int) : Bool := (cond (decide (n_0 ≥ low_1))
  (decide (n_0 ≤ high_2))
  false)

theorem t_spec_l00In (n_0 : Int) (low_1 : Int) (high_2 : Int)   : Fn prog 60 [.i .i64 n_0, .i .i64 low_1, .i .i64 high_2] (.b (v_spec_l00In n_0 low_1 high_2)) [] := by
 cases h0 : (decide (n_0 ≥ low_1)) with
 | true =>
  have gh0 := of_decide_eq_true h0
  refine fnS E0Ok hMixed (c := bodyOf f60) [] (.b (decide (n_0 ≤ high_2))) [] func60 (sB h0 <| sB h0 <| sB h0 <| sB h0 <| sK [] sN) rfl (by kernel_rfl) (by kernel_rfl) rfl ?_ ?_
  · simp only [v_spec_l00In, h0, cond_true]
  · rfl
 | false =>
  have gh0 := of_decide_eq_false h0
  refine fnS E0Ok hMixed (c := bodyOf f60) [] (.b false) [] func60 (sB h0 <| sB h0 <| sB h0 <| sB h0 <| sK [] sN) rfl (by kernel_rfl) (by kernel_rfl) rfl ?_ ?_
  · simp only [v_spec_l00In, h0, cond_false]
  · rfl

theorem in_ok {x : Int} {n : Nat} (hn : n ≤ 9223372036854775807) (h : v_spec_l00In x 0 (IntKind.wrap .i64 ((n : Int) - 1)) = true) : 0 ≤ x ∧ x < (n : Int) := by
  unfold v_spec_l00In at h
  rw [wrap_id (n := (n : Int) - 1) (by omega) (by omega)] at h
  by_cases h1 : x ≥ 0 <;> simp [h1] at h
  omega

def v_spec_l02Triangle (t_0 : (List Int)) (n_1 : Int) : Bool := (cond ((t_0.length : Int) != 3)
  false
  (cond ((t_0.getD 0 default) == (t_0.getD 1 default))
    false
    (cond ((t_0.getD 1 default) == (t_0.getD 2 default))
      false
      (cond ((t_0.getD 0 default) == (t_0.getD 2 default))
        false
        (cond (v_spec_l00In (t_0.getD 0 default) 0 (IntKind.wrap .i64 (n_1 - 1)))
          (cond (v_spec_l00In (t_0.getD 1 default) 0 (IntKind.wrap .i64 (n_1 - 1)))
            (v_spec_l00In (t_0.getD 2 default) 0 (IntKind.wrap .i64 (n_1 - 1)))
            false)
          false)))))

theorem t_spec_l02Triangle (t_0 : (List Int)) (n_1 : Int) (hp0 : t_0.length ≤ 1073741824)  : Fn prog 104 [.sl (t_0.map (cI .i64)), .i .i64 n_1] (.b (v_spec_l02Triangle t_0 n_1)) [] := by
 have p {a C} (s : Scr a C) := sK [28, 28] <| sZ (cI .i64) t_0 <| s
 cases h0 : ((t_0.length : Int) != 3) with
 | true =>
  have gh0 := bne_iff_ne.1 h0
  refine fnS E0Ok hMixed (c := bodyOf f104) [] (.b false) [] func104 (p (sB h0 <| sB h0 <| sB h0 <| sB h0 <| sB h0 <| sB h0 <| sB h0 <| sB h0 <| sB (show true = true from rfl) <| sB (show true = true from rfl) <| sB (show true = true from rfl) <| sB (show true = true from rfl) <| sB (show true = true from rfl) <| sB (show true = true from rfl) <| sB (show true = true from rfl) <| sB (show true = true from rfl) <| sB (show true = true from rfl) <| sB (show true = true from rfl) <| sB (show true = true from rfl) <| sB (show true = true from rfl) <| sB (show true = true from rfl) <| sB (show true = true from rfl) <| sB (show true = true from rfl) <| sB (show true = true from rfl) <| sB (show true = true from rfl) <| sK [] sN)) rfl (by kernel_rfl) (by kernel_rfl) rfl ?_ ?_
  · simp only [v_spec_l02Triangle, h0, cond_true]
  · rfl
 | false =>
  have gh0 := bne_eq_false_iff_eq.1 h0
  have y0 : (0 : Int) ≤ 0 := by clear p; exact (by first | assumption | omega | (simp_all <;> omega))
  have y1 : 0 < (t_0.length : Int) := by clear p; exact (by first | assumption | omega | (simp_all <;> omega))
  have y2 : (0 : Int) ≤ 1 := by clear p; exact (by first | assumption | omega | (simp_all <;> omega))
  have y3 : 1 < (t_0.length : Int) := by clear p; exact (by first | assumption | omega | (simp_all <;> omega))
  have q {a C} (s : Scr a C) := p (sB h0 <| sB h0 <| sG (cI .i64) t_0 0 y0 y1 <| sB h0 <| sB h0 <| sB h0 <| sG (cI .i64) t_0 1 y2 y3 <| sB h0 <| sB h0 <| sB h0 <| s)
  clear p
  cases h1 : ((t_0.getD 0 default) == (t_0.getD 1 default)) with
  | true =>
   have gh1 := eq_of_beq h1
   refine fnS E0Ok hMixed (c := bodyOf f104) [] (.b false) [] func104 (q (sB h1 <| sB h1 <| sB h1 <| sB h1 <| sB h1 <| sB h1 <| sB h1 <| sB h1 <| sB (show true = true from rfl) <| sB (show true = true from rfl) <| sB (show true = true from rfl) <| sB (show true = true from rfl) <| sB (show true = true from rfl) <| sB (show true = true from rfl) <| sB (show true = true from rfl) <| sB (show true = true from rfl) <| sB (show true = true from rfl) <| sK [] sN)) rfl (by kernel_rfl) (by kernel_rfl) rfl ?_ ?_
   · simp only [v_spec_l02Triangle, h0, h1, cond_true, cond_false]
   · rfl
  | false =>
   have gh1 := ne_of_beq_false h1
   have y4 : (0 : Int) ≤ 2 := by clear q; exact (by first | assumption | omega | (simp_all <;> omega))
   have y5 : 2 < (t_0.length : Int) := by clear q; exact (by first | assumption | omega | (simp_all <;> omega))
   have p {a C} (s : Scr a C) := q (sB h1 <| sB h1 <| sG (cI .i64) t_0 1 y2 y3 <| sB h1 <| sB h1 <| sB h1 <| sG (cI .i64) t_0 2 y4 y5 <| sB h1 <| sB h1 <| sB h1 <| s)
   clear q
   cases h2 : ((t_0.getD 1 default) == (t_0.getD 2 default)) with
   | true =>
    have gh2 := eq_of_beq h2
    refine fnS E0Ok hMixed (c := bodyOf f104) [] (.b false) [] func104 (p (sB h2 <| sB h2 <| sB h2 <| sB h2 <| sB h2 <| sB h2 <| sB h2 <| sB h2 <| sB (show true = true from rfl) <| sK [] sN)) rfl (by kernel_rfl) (by kernel_rfl) rfl ?_ ?_
    · simp only [v_spec_l02Triangle, h0, h1, h2, cond_true, cond_false]
    · rfl
   | false =>
    have gh2 := ne_of_beq_false h2
    have q {a C} (s : Scr a C) := p (sB h2 <| sB h2 <| sG (cI .i64) t_0 0 y0 y1 <| sB h2 <| sB h2 <| sB h2 <| sG (cI .i64) t_0 2 y4 y5 <| sB h2 <| sB h2 <| sB h2 <| s)
    clear p
    cases h3 : ((t_0.getD 0 default) == (t_0.getD 2 default)) with
    | true =>
     have gh3 := eq_of_beq h3
     refine fnS E0Ok hMixed (c := bodyOf f104) [] (.b false) [] func104 (q (sB h3 <| sK [] sN)) rfl (by kernel_rfl) (by kernel_rfl) rfl ?_ ?_
     · simp only [v_spec_l02Triangle, h0, h1, h2, h3, cond_true, cond_false]
     · rfl
    | false =>
     have gh3 := ne_of_beq_false h3
     have p {a C} (s : Scr a C) := q (sB h3 <| sG (cI .i64) t_0 0 y0 y1 <| sW .i64 (n_1 - 1) <| sF (t_spec_l00In (t_0.getD 0 default) 0 (IntKind.wrap .i64 (n_1 - 1))) <| s)
     clear q
     cases h4 : (v_spec_l00In (t_0.getD 0 default) 0 (IntKind.wrap .i64 (n_1 - 1))) with
     | true =>
      have q {a C} (s : Scr a C) := p (sB h4 <| sB h4 <| sG (cI .i64) t_0 1 y2 y3 <| sB h4 <| sB h4 <| sB h4 <| sW .i64 (n_1 - 1) <| sB h4 <| sF (t_spec_l00In (t_0.getD 1 default) 0 (IntKind.wrap .i64 (n_1 - 1))) <| sB h4 <| s)
      clear p
      cases h5 : (v_spec_l00In (t_0.getD 1 default) 0 (IntKind.wrap .i64 (n_1 - 1))) with
      | true =>
       refine fnS E0Ok hMixed (c := bodyOf f104) [] (.b (v_spec_l00In (t_0.getD 2 default) 0 (IntKind.wrap .i64 (n_1 - 1)))) [] func104 (q (sB h5 <| sB h5 <| sG (cI .i64) t_0 2 y4 y5 <| sB h5 <| sB h5 <| sB h5 <| sW .i64 (n_1 - 1) <| sB h5 <| sF (t_spec_l00In (t_0.getD 2 default) 0 (IntKind.wrap .i64 (n_1 - 1))) <| sB h5 <| sK [] sN)) rfl (by kernel_rfl) (by kernel_rfl) rfl ?_ ?_
       · simp only [v_spec_l02Triangle, h0, h1, h2, h3, h4, h5, cond_true, cond_false]
       · rfl
      | false =>
       refine fnS E0Ok hMixed (c := bodyOf f104) [] (.b false) [] func104 (q (sB h5 <| sB h5 <| sB h5 <| sB h5 <| sB h5 <| sB h5 <| sB h5 <| sK [] sN)) rfl (by kernel_rfl) (by kernel_rfl) rfl ?_ ?_
       · simp only [v_spec_l02Triangle, h0, h1, h2, h3, h4, h5, cond_true, cond_false]
       · rfl
     | false =>
      refine fnS E0Ok hMixed (c := bodyOf f104) [] (.b false) [] func104 (p (sB h4 <| sB h4 <| sB h4 <| sB h4 <| sB h4 <| sB h4 <| sB h4 <| sB (show false = false from rfl) <| sB (show false = false from rfl) <| sB (show false = false from rfl) <| sB (show false = false from rfl) <| sB (show false = false from rfl) <| sB (show false = false from rfl) <| sB (show false = false from rfl) <| sK [] sN)) rfl (by kernel_rfl) (by kernel_rfl) rfl ?_ ?_
      · simp only [v_spec_l02Triangle, h0, h1, h2, h3, h4, cond_false]
      · rfl

def lo_spec_l02Is_1 (m_0 : GMesh) : Nat → Int → (Unit) ⊕ (Unit)
  | 0, _ => .inl default
  | k + 1, i_l0 => (cond (decide (i_l0 < (m_0.Triangles.length : Int)))
    (cond (v_spec_l02Triangle (m_0.Triangles.getD i_l0.toNat default) (m_0.Places.length : Int))
      (lo_spec_l02Is_1 m_0 k (i_l0 + 1))
      (.inl ()))
    (.inr ()))

def ls_spec_l02Is_1 (m_0 : GMesh) : (Unit) ⊕ (Unit) → Ex × St
  | .inl r => (.ret, ⟨[.any, .any, .b false, .any, .any, .any, .any, .any, .any, .any, .any, .any, .any, .any, .any, .any, .any, .any, .any, .any, .any, .any, .any, .any, .any, .any, .any, .any, .any, .any, .any, .any, .any, .any, .any, .any, .any, .any, .any, .any, .any], []⟩)
  | .inr r => ((.exit 0), ⟨[.ref (GMesh.cells m_0) 0, .any, .any, .any, .ref (GMesh.cells m_0) 0, .ref (GMesh.cells m_0) 0, .ref (GMesh.cells m_0) 0, .sl (m_0.Places.map GVector.cells), .i .i64 (m_0.Places.length : Int), .b (decide ((m_0.Places.length : Int) > 64)), .b (decide ((m_0.Places.length : Int) > 64)), .ref (GMesh.cells m_0) 0, .ref (GMesh.cells m_0) 0, .ref (GMesh.cells m_0) 1, .sl (m_0.Triangles.map (cL (cI .i64))), .i .i64 (m_0.Triangles.length : Int), .b (decide ((m_0.Triangles.length : Int) > 128)), .b (decide ((m_0.Triangles.length : Int) > 128)), .any, .any, .any, .any, .any, .any, .any, .any, .any, .any, .any, .any, .any, .any, .any, .any, .any, .any, .any, .any, .any, .any, .any], []⟩)

def hd_spec_l02Is_1 (m_0 : GMesh) (i_l0 : Int) : St := ⟨[.ref (GMesh.cells m_0) 0, .any, .any, .i .i64 i_l0, .ref (GMesh.cells m_0) 0, .ref (GMesh.cells m_0) 0, .ref (GMesh.cells m_0) 0, .sl (m_0.Places.map GVector.cells), .i .i64 (m_0.Places.length : Int), .b (decide ((m_0.Places.length : Int) > 64)), .b (decide ((m_0.Places.length : Int) > 64)), .ref (GMesh.cells m_0) 0, .ref (GMesh.cells m_0) 0, .ref (GMesh.cells m_0) 1, .sl (m_0.Triangles.map (cL (cI .i64))), .i .i64 (m_0.Triangles.length : Int), .b (decide ((m_0.Triangles.length : Int) > 128)), .b (decide ((m_0.Triangles.length : Int) > 128)), .any, .any, .any, .any, .any, .any, .any, .any, .any, .any, .any, .any, .any, .any, .any, .any, .any, .any, .any, .any, .any, .any, .any], []⟩

def mk_spec_l02Is_1_0 : List Bool := [true, false, false, true, true, true, true, true, true, true, true, true, true, true, true, true, true, true, false, false, false, false, false, false, false, false, false, false, false, false, false, false, false, false, false, false, false, false, false, false, false]

def mk_spec_l02Is_1_1 : List Bool := [false, false, true, false, false, false, false, false, false, false, false, false, false, false, false, false, false, false, false, false, false, false, false, false, false, false, false, false, false, false, false, false, false, false, false, false, false, false, false, false, false]

def mk_spec_l02Is_1_2 : List Bool := [true, false, false, false, true, true, true, true, true, true, true, true, true, true, true, true, true, true, false, false, false, false, false, false, false, false, false, false, false, false, false, false, false, false, false, false, false, false, false, false, false]

theorem lp_spec_l02Is_1 (m_0 : GMesh) (hp0 : m_0.Places.length ≤ 1073741824) (hp1 : m_0.Triangles.length ≤ 1073741824) (hp2 : ∀ t ∈ m_0.Triangles, t.length ≤ 1073741824) (hf_spec_l02Is_1_0 : (decide ((m_0.Places.length : Int) > 64)) = false) (hf_spec_l02Is_1_1 : (decide ((m_0.Triangles.length : Int) > 128)) = false) : ∀ (k : Nat) (i_l0 : Int) (hv_spec_l02Is_1_0 : 0 ≤ i_l0) (hk : ((m_0.Triangles.length : Int) - i_l0).toNat < k), Lp prog 0 (sub (bodyOf f52) [1, 1, 0, 1, 0, 0]) (hd_spec_l02Is_1 m_0 i_l0) (ls_spec_l02Is_1 m_0 (lo_spec_l02Is_1 m_0 k i_l0)).1 (ls_spec_l02Is_1 m_0 (lo_spec_l02Is_1 m_0 k i_l0)).2 := by
 intro k
 induction k with
 | zero => intro i_l0 hv_spec_l02Is_1_0 hk; exact absurd hk (Nat.not_lt_zero _)
 | succ k ih =>
  intro i_l0 hv_spec_l02Is_1_0 hk
  have p {a C} (s : Scr a C) := sZ (cL (cI .i64)) m_0.Triangles <| s
  cases h_0 : (decide (i_l0 < (m_0.Triangles.length : Int))) with
  | true =>
   have gh_0 := of_decide_eq_true h_0
   have y_0 : (0 : Int) ≤ i_l0 := by clear p; exact (by first | assumption | omega | (simp_all <;> omega))
   have y_1 : i_l0 < (m_0.Triangles.length : Int) := by clear p; exact (by first | assumption | omega | (simp_all <;> omega))
   have y_2 : (m_0.Triangles.getD i_l0.toNat default).length ≤ 1073741824 := by clear p; exact (by first | assumption | omega | (simp_all <;> omega))
   have q {a C} (s : Scr a C) := p (sB h_0 <| sK [12, 12] <| sG (cL (cI .i64)) m_0.Triangles i_l0 y_0 y_1 <| sZ GVector.cells m_0.Places <| sF (t_spec_l02Triangle (m_0.Triangles.getD i_l0.toNat default) (m_0.Places.length : Int) y_2) <| s)
   clear p
   cases h_1 : (v_spec_l02Triangle (m_0.Triangles.getD i_l0.toNat default) (m_0.Places.length : Int)) with
   | true =>
    have y_3 : (-9223372036854775808 : Int) ≤ (i_l0 + 1) := by clear q; exact (by first | assumption | omega | (simp_all <;> omega))
    have y_4 : (i_l0 + 1) ≤ (9223372036854775807 : Int) := by clear q; exact (by first | assumption | omega | (simp_all <;> omega))
    have e : lo_spec_l02Is_1 m_0 (k + 1) i_l0 = (lo_spec_l02Is_1 m_0 k (i_l0 + 1)) := by simp only [lo_spec_l02Is_1, h_0, h_1, cond_true]
    rw [e]
    exact nextR E0Ok hMixed [] mk_spec_l02Is_1_0 [] (ih (i_l0 + 1) (show 0 ≤ (i_l0 + 1) from (by first | assumption | omega | (simp_all <;> omega))) (by first | assumption | omega | (simp_all <;> omega))) (q (sB' h_1 <| sI (i_l0 + 1) y_3 y_4 <| sN)) (by kernel_rfl)
   | false =>
    have e : lo_spec_l02Is_1 m_0 (k + 1) i_l0 = (.inl ()) := by simp only [lo_spec_l02Is_1, h_0, h_1, cond_true, cond_false]
    rw [e]
    exact outR (e := .ret) E0Ok hMixed [] mk_spec_l02Is_1_1 [] (q (sB' h_1 <| sN)) (by kernel_rfl) (by intro h; cases h)
  | false =>
   have gh_0 := of_decide_eq_false h_0
   have e : lo_spec_l02Is_1 m_0 (k + 1) i_l0 = (.inr ()) := by simp only [lo_spec_l02Is_1, h_0, cond_false]
   rw [e]
   exact outR (e := (.exit 0)) E0Ok hMixed [] mk_spec_l02Is_1_2 [] (p (sB h_0 <| sN)) (by kernel_rfl) (by intro h; cases h)

def lr_spec_l02Is_1_0 (m_0 : GMesh) : (Unit) ⊕ (Unit) := (lo_spec_l02Is_1 m_0 (((m_0.Triangles.length : Int) - 0).toNat + 1) 0)

def v_spec_l02Is (m_0 : GMesh) : Bool := (cond (decide ((m_0.Places.length : Int) > 64))
  false
  (cond (decide ((m_0.Triangles.length : Int) > 128))
    false
    (match (lr_spec_l02Is_1_0 m_0) with
      | .inl r3 => false
      | .inr r3 => true)))

theorem t_spec_l02Is (m_0 : GMesh) (hp0 : m_0.Places.length ≤ 1073741824) (hp1 : m_0.Triangles.length ≤ 1073741824) (hp2 : ∀ t ∈ m_0.Triangles, t.length ≤ 1073741824)  : Fn prog 52 [.ref (GMesh.cells m_0) 0] (.b (v_spec_l02Is m_0)) [] := by
 have p {a C} (s : Scr a C) := sZ GVector.cells m_0.Places <| s
 cases h0 : (decide ((m_0.Places.length : Int) > 64)) with
 | true =>
  have gh0 := of_decide_eq_true h0
  refine fnS E0Ok hMixed (c := bodyOf f52) [] (.b false) [] func52 (p (sB h0 <| sB h0 <| sB h0 <| sB h0 <| sB h0 <| sB h0 <| sB h0 <| sB (show true = true from rfl) <| sK [] sN)) rfl (by kernel_rfl) (by kernel_rfl) rfl ?_ ?_
  · simp only [v_spec_l02Is, h0, cond_true]
  · rfl
 | false =>
  have gh0 := of_decide_eq_false h0
  have q {a C} (s : Scr a C) := p (sB h0 <| sB h0 <| sB h0 <| sB h0 <| sB h0 <| sZ (cL (cI .i64)) m_0.Triangles <| sB h0 <| sB h0 <| s)
  clear p
  cases h1 : (decide ((m_0.Triangles.length : Int) > 128)) with
  | true =>
   have gh1 := of_decide_eq_true h1
   refine fnS E0Ok hMixed (c := bodyOf f52) [] (.b false) [] func52 (q (sB h1 <| sK [] sN)) rfl (by kernel_rfl) (by kernel_rfl) rfl ?_ ?_
   · simp only [v_spec_l02Is, h0, h1, cond_true, cond_false]
   · rfl
  | false =>
   have gh1 := of_decide_eq_false h1
   have p {a C} (s : Scr a C) := q (sB h1 <| s)
   clear q
   cases h2 : (lr_spec_l02Is_1_0 m_0) with
   | inl r3 =>
    refine fnS E0Ok hMixed (c := bodyOf f52) [] (.b false) [] func52 (p (sL mk_spec_l02Is_1_0 0 (lp_val (ls_spec_l02Is_1 m_0) (x := (lr_spec_l02Is_1_0 m_0)) (lp_spec_l02Is_1 m_0 hp0 hp1 hp2 h0 h1 (((m_0.Triangles.length : Int) - 0).toNat + 1) 0 (show 0 ≤ 0 from (by first | assumption | omega | (simp_all <;> omega))) (Nat.lt_succ_self _)) h2) <| sK [] sN)) rfl (by kernel_rfl) (by kernel_rfl) rfl ?_ ?_
    · simp only [v_spec_l02Is, h0, h1, h2, cond_false]
    · rfl
   | inr r3 =>
    refine fnS E0Ok hMixed (c := bodyOf f52) [] (.b true) [] func52 (p (sL mk_spec_l02Is_1_0 0 (lp_val (ls_spec_l02Is_1 m_0) (x := (lr_spec_l02Is_1_0 m_0)) (lp_spec_l02Is_1 m_0 hp0 hp1 hp2 h0 h1 (((m_0.Triangles.length : Int) - 0).toNat + 1) 0 (show 0 ≤ 0 from (by first | assumption | omega | (simp_all <;> omega))) (Nat.lt_succ_self _)) h2) <| sK [] sN)) rfl (by kernel_rfl) (by kernel_rfl) rfl ?_ ?_
    · simp only [v_spec_l02Is, h0, h1, h2, cond_false]
    · rfl

theorem l02Is_eq (m : GMesh) : v_spec_l02Is m = cond (decide ((m.Places.length : Int) > 64)) false (cond (decide ((m.Triangles.length : Int) > 128)) false (m.Triangles.all fun t => v_spec_l02Triangle t (m.Places.length : Int))) := by
  unfold v_spec_l02Is lr_spec_l02Is_1_0
  rw [all_from (a := m.Triangles) (p := fun t => v_spec_l02Triangle t (m.Places.length : Int)) (lo := lo_spec_l02Is_1 m) (x := ()) (y := ()) (fun k i => rfl)]
  cases (m.Triangles.all fun t => v_spec_l02Triangle t (m.Places.length : Int)) <;> rfl
theorem tri_ok {t : List Int} {n : Int} (h0 : 0 ≤ n) (h1 : n ≤ 64) (h : v_spec_l02Triangle t n = true) : t.length = 3 ∧ ∀ x ∈ t, 0 ≤ x ∧ x < n := by
  unfold v_spec_l02Triangle at h
  rw [wrap_sub (by omega) (by omega)] at h
  cases hl : ((t.length : Int) != 3) with
  | true => rw [hl] at h; cases h
  | false =>
    rw [hl, cond_false] at h
    have hl3 : t.length = 3 := by simp at hl; omega
    match t, hl3 with
    | [a, b, c], _ =>
      refine ⟨rfl, ?_⟩
      simp only [List.getD_cons_zero, List.getD_cons_succ, v_spec_l00In] at h
      cases e1 : (a == b) <;> rw [e1] at h <;> (try (cases h; done))
      cases e2 : (b == c) <;> rw [e2] at h <;> (try (cases h; done))
      cases e3 : (a == c) <;> rw [e3] at h <;> (try (cases h; done))
      simp only [cond_false] at h
      cases f1 : decide (a ≥ 0) <;> rw [f1] at h <;> (try (cases h; done))
      cases f2 : decide (a ≤ n - 1) <;> rw [f2] at h <;> (try (cases h; done))
      cases f3 : decide (b ≥ 0) <;> rw [f3] at h <;> (try (cases h; done))
      cases f4 : decide (b ≤ n - 1) <;> rw [f4] at h <;> (try (cases h; done))
      cases f5 : decide (c ≥ 0) <;> rw [f5] at h <;> (try (cases h; done))
      simp only [cond_true, decide_eq_true_eq] at h f1 f2 f3 f4 f5
      intro x hx
      simp only [List.mem_cons, List.not_mem_nil, or_false] at hx
      rcases hx with rfl | rfl | rfl <;> omega
theorem okTris_is (m : GMesh) (h : v_spec_l02Is m = true) : OkTris m.Places.length m.Triangles := by
  rw [l02Is_eq] at h
  cases h1 : decide ((m.Places.length : Int) > 64) <;> rw [h1] at h <;> (try (cases h; done))
  cases h2 : decide ((m.Triangles.length : Int) > 128) <;> rw [h2] at h <;> (try (cases h; done))
  simp only [cond_false, List.all_eq_true, decide_eq_false_iff_not] at h h1
  intro t ht
  exact tri_ok (by omega) (by omega) (h t ht)
theorem okE_is (m : GMesh) (h : v_spec_l02Is m = true) : OkE m.Places.length m.Triangles := by
  have h0 := okTris_is m h
  rw [l02Is_eq] at h
  cases h1 : decide ((m.Places.length : Int) > 64) <;> rw [h1] at h <;> (try (cases h; done))
  cases h2 : decide ((m.Triangles.length : Int) > 128) <;> rw [h2] at h <;> (try (cases h; done))
  simp only [cond_false, List.all_eq_true, decide_eq_false_iff_not] at h h1 h2
  refine ⟨by omega, by omega, fun t ht => ?_⟩
  have h3 := h t ht
  obtain ⟨hl, hx⟩ := h0 t ht
  match t, hl with
  | [a, b, c], _ =>
    unfold v_spec_l02Triangle at h3
    simp only [List.getD_cons_zero, List.getD_cons_succ] at h3
    cases e0 : ((([a, b, c] : List Int).length : Int) != 3) <;> rw [e0] at h3 <;> (try (cases h3; done))
    cases e1 : (a == b) <;> rw [e1] at h3 <;> (try (cases h3; done))
    cases e2 : (b == c) <;> rw [e2] at h3 <;> (try (cases h3; done))
    cases e3 : (a == c) <;> rw [e3] at h3 <;> (try (cases h3; done))
    exact ⟨a, b, c, rfl, hx a (by simp), hx b (by simp), hx c (by simp), beq_eq_false_iff_ne.1 e1, beq_eq_false_iff_ne.1 e2, beq_eq_false_iff_ne.1 e3⟩

def v_spec_l00Own (list_0 : (List Int)) : (List Int) := (([] : List Int) ++ list_0)

theorem t_spec_l00Own (list_0 : (List Int)) (hp0 : list_0.length ≤ 1073741824)  : Fn prog 139 [.sl (list_0.map (cI .i64))] (.own 0) [.vec 2 1 ((v_spec_l00Own list_0).map (cI .i64)) false] := by
 have y0 : ([] : List Int).length + list_0.length ≤ 1073741824 := (by first | assumption | omega | (simp_all <;> omega))
 refine fnS E0Ok hMixed (c := bodyOf f139) [] (.own 0) [.vec 2 1 (([] : List (List AV)) ++ (list_0.map (cI .i64))) false] func139 (sC (show ([] : List (List AV)).length + (list_0.map (cI .i64)).length ≤ 1073741824 from (by simpa using y0)) <| sC (show (list_0.map (cI .i64)).all (fun cs => cs.length == 1 && cs.all isS) = true from (src_ok (fun _ => rfl))) <| sK [0] sN) rfl (by kernel_rfl) (by kernel_rfl) rfl ?_ ?_
 · rfl
 · simp [v_spec_l00Own, cI]

@[simp] theorem eq_l00Own (l : List Int) : v_spec_l00Own l = l := by simp [v_spec_l00Own]

theorem i_spec_l00Own (list_0 : (List Int)) (hp0 : list_0.length ≤ 1073741824) : Fn prog 139 [.sl (list_0.map (cI .i64))] (.own 0) [.vec 2 1 (list_0.map (cI .i64)) false] := by
 simpa only [eq_l00Own] using t_spec_l00Own  list_0 hp0

def lo_spec_l02Own_1 (m_0 : GMesh) : Nat → Int → (List (List Int)) → (List (List Int))
  | 0, _, _ => default
  | k + 1, i_l0, r2_l1 => (cond (decide (i_l0 < (m_0.Triangles.length : Int)))
    (lo_spec_l02Own_1 m_0 k (i_l0 + 1) (r2_l1 ++ [(m_0.Triangles.getD i_l0.toNat default)]))
    r2_l1)

def ls_spec_l02Own_1 (m_0 : GMesh) (r : (List (List Int))) : Ex × St := ((.exit 0), ⟨[.ref (GMesh.cells m_0) 0, .any, .ptr 0 0 0, .ptr 1 0 0, .any, .any, .ref (GMesh.cells m_0) 0, .ref (GMesh.cells m_0) 0, .ref (GMesh.cells m_0) 0, .sl (m_0.Places.map GVector.cells), .own 2, .any, .any, .any, .any, .any, .any, .any, .any, .any, .any, .any, .any, .any, .any, .any, .any, .any, .any, .any, .any, .any, .any, .any, .any, .any], [.box 31 [.nils, .nils], .box 31 [.own 2, .own 3], .vec 67 3 (([] : List (List AV)) ++ (m_0.Places.map GVector.cells)) false, .nest 52 (r.map fun l => l.map (cI .i64)) false]⟩)

def hd_spec_l02Own_1 (m_0 : GMesh) (i_l0 : Int) (r2_l1 : (List (List Int))) : St := ⟨[.ref (GMesh.cells m_0) 0, .any, .ptr 0 0 0, .ptr 3 0 0, .i .i64 i_l0, .any, .ref (GMesh.cells m_0) 0, .ref (GMesh.cells m_0) 0, .ref (GMesh.cells m_0) 0, .sl (m_0.Places.map GVector.cells), .own 1, .any, .any, .any, .any, .any, .any, .any, .any, .any, .any, .any, .any, .any, .any, .any, .any, .any, .any, .any, .any, .any, .any, .any, .any, .any], [.box 31 [.nils, .nils], .vec 67 3 (([] : List (List AV)) ++ (m_0.Places.map GVector.cells)) false, .nest 52 (r2_l1.map fun l => l.map (cI .i64)) false, .box 31 [.own 1, .own 2]]⟩

def mk_spec_l02Own_1_0 : List Bool := [true, false, true, true, true, false, true, true, true, true, true, false, false, false, false, false, false, false, false, false, false, false, false, false, false, false, false, false, false, false, false, false, false, false, false, false]

def mk_spec_l02Own_1_1 : List Bool := [true, false, true, true, false, false, true, true, true, true, true, false, false, false, false, false, false, false, false, false, false, false, false, false, false, false, false, false, false, false, false, false, false, false, false, false]

theorem lp_spec_l02Own_1 (m_0 : GMesh) (hp0 : m_0.Places.length ≤ 1073741824) (hp1 : m_0.Triangles.length ≤ 1073741824) (hp2 : ∀ t ∈ m_0.Triangles, t.length ≤ 1073741824) : ∀ (k : Nat) (i_l0 : Int) (r2_l1 : (List (List Int))) (hv_spec_l02Own_1_0 : 0 ≤ i_l0) (hv_spec_l02Own_1_1 : (r2_l1.length : Int) = i_l0) (hk : ((m_0.Triangles.length : Int) - i_l0).toNat < k), Lp prog 0 (sub (bodyOf f109) [1, 1, 0, 1, 0, 0]) (hd_spec_l02Own_1 m_0 i_l0 r2_l1) (ls_spec_l02Own_1 m_0 (lo_spec_l02Own_1 m_0 k i_l0 r2_l1)).1 (ls_spec_l02Own_1 m_0 (lo_spec_l02Own_1 m_0 k i_l0 r2_l1)).2 := by
 intro k
 induction k with
 | zero => intro i_l0 r2_l1 hv_spec_l02Own_1_0 hv_spec_l02Own_1_1 hk; exact absurd hk (Nat.not_lt_zero _)
 | succ k ih =>
  intro i_l0 r2_l1 hv_spec_l02Own_1_0 hv_spec_l02Own_1_1 hk
  have p {a C} (s : Scr a C) := sZ (cL (cI .i64)) m_0.Triangles <| s
  cases h_0 : (decide (i_l0 < (m_0.Triangles.length : Int))) with
  | true =>
   have gh_0 := of_decide_eq_true h_0
   have y_0 : (0 : Int) ≤ i_l0 := by clear p; exact (by first | assumption | omega | (simp_all <;> omega))
   have y_1 : i_l0 < (m_0.Triangles.length : Int) := by clear p; exact (by first | assumption | omega | (simp_all <;> omega))
   have y_2 : (m_0.Triangles.getD i_l0.toNat default).length ≤ 1073741824 := by clear p; exact (by first | assumption | omega | (simp_all <;> omega))
   have y_3 : r2_l1.length + [(m_0.Triangles.getD i_l0.toNat default)].length ≤ 1073741824 := by clear p; exact (by first | assumption | omega | (simp_all <;> omega))
   have y_4 : (-9223372036854775808 : Int) ≤ (i_l0 + 1) := by clear p; exact (by first | assumption | omega | (simp_all <;> omega))
   have y_5 : (i_l0 + 1) ≤ (9223372036854775807 : Int) := by clear p; exact (by first | assumption | omega | (simp_all <;> omega))
   have e : lo_spec_l02Own_1 m_0 (k + 1) i_l0 r2_l1 = (lo_spec_l02Own_1 m_0 k (i_l0 + 1) (r2_l1 ++ [(m_0.Triangles.getD i_l0.toNat default)])) := by simp only [lo_spec_l02Own_1, h_0, cond_true]
   rw [e]
   exact nextS E0Ok hMixed [] mk_spec_l02Own_1_0 [0, 1, 2, 3] (⟨[.ref (GMesh.cells m_0) 0, .any, .ptr 0 0 0, .ptr 3 0 0, .i .i64 (i_l0 + 1), .any, .ref (GMesh.cells m_0) 0, .ref (GMesh.cells m_0) 0, .ref (GMesh.cells m_0) 0, .sl (m_0.Places.map GVector.cells), .own 1, .any, .any, .any, .any, .any, .any, .any, .any, .any, .any, .any, .any, .any, .any, .any, .any, .any, .any, .any, .any, .any, .any, .any, .any, .any], [.box 31 [.nils, .nils], .vec 67 3 (([] : List (List AV)) ++ (m_0.Places.map GVector.cells)) false, .nest 52 ((r2_l1.map fun l => l.map (cI .i64)) ++ [((m_0.Triangles.getD i_l0.toNat default).map (cI .i64))]) false, .box 31 [.own 1, .own 2]]⟩) (p (sB h_0 <| sK [11, 11] <| sG (cL (cI .i64)) m_0.Triangles i_l0 y_0 y_1 <| sF (i_spec_l00Own (m_0.Triangles.getD i_l0.toNat default) y_2) <| sC (show (r2_l1.map fun l => l.map (cI .i64)).length + [((m_0.Triangles.getD i_l0.toNat default).map (cI .i64))].length ≤ 1073741824 from (by simpa using y_3)) <| sI (i_l0 + 1) y_4 y_5 <| sN)) (by kernel_rfl) (show _ = ⟨[.ref (GMesh.cells m_0) 0, .any, .ptr 0 0 0, .ptr 3 0 0, .i .i64 (i_l0 + 1), .any, .ref (GMesh.cells m_0) 0, .ref (GMesh.cells m_0) 0, .ref (GMesh.cells m_0) 0, .sl (m_0.Places.map GVector.cells), .own 1, .any, .any, .any, .any, .any, .any, .any, .any, .any, .any, .any, .any, .any, .any, .any, .any, .any, .any, .any, .any, .any, .any, .any, .any, .any], [.box 31 [.nils, .nils], .vec 67 3 (([] : List (List AV)) ++ (m_0.Places.map GVector.cells)) false, .nest 52 ((r2_l1 ++ [(m_0.Triangles.getD i_l0.toNat default)]).map fun l => l.map (cI .i64)) false, .box 31 [.own 1, .own 2]]⟩ from (by simp [GVector.cells, cL, cI])) (ih (i_l0 + 1) (r2_l1 ++ [(m_0.Triangles.getD i_l0.toNat default)]) (show 0 ≤ (i_l0 + 1) from (by first | assumption | omega | (simp_all <;> omega))) (show ((r2_l1 ++ [(m_0.Triangles.getD i_l0.toNat default)]).length : Int) = (i_l0 + 1) from (by first | assumption | omega | (simp_all <;> omega))) (by first | assumption | omega | (simp_all <;> omega)))
  | false =>
   have gh_0 := of_decide_eq_false h_0
   have e : lo_spec_l02Own_1 m_0 (k + 1) i_l0 r2_l1 = r2_l1 := by simp only [lo_spec_l02Own_1, h_0, cond_false]
   rw [e]
   exact outR (e := (.exit 0)) E0Ok hMixed [] mk_spec_l02Own_1_1 [0, 3, 1, 2] (p (sB h_0 <| sN)) (by kernel_rfl) (by intro h; cases h)

def lr_spec_l02Own_1_0 (m_0 : GMesh) : (List (List Int)) := (lo_spec_l02Own_1 m_0 (((m_0.Triangles.length : Int) - 0).toNat + 1) 0 ([] : List (List Int)))

def v_spec_l02Own (m_0 : GMesh) : GMesh := (⟨(([] : List GVector) ++ m_0.Places), (lr_spec_l02Own_1_0 m_0)⟩ : GMesh)

theorem t_spec_l02Own (m_0 : GMesh) (hp0 : m_0.Places.length ≤ 1073741824) (hp1 : m_0.Triangles.length ≤ 1073741824) (hp2 : ∀ t ∈ m_0.Triangles, t.length ≤ 1073741824)  : Fn prog 109 [.ref (GMesh.cells m_0) 0] (.agg [.own 0, .own 1]) [.vec 67 3 (((v_spec_l02Own m_0).Places).map GVector.cells) false, .nest 52 (((v_spec_l02Own m_0).Triangles).map fun l => l.map (cI .i64)) false] := by
 have y0 : ([] : List GVector).length + m_0.Places.length ≤ 1073741824 := (by first | assumption | omega | (simp_all <;> omega))
 refine fnS E0Ok hMixed (c := bodyOf f109) [] (.agg [.own 0, .own 1]) [.vec 67 3 (([] : List (List AV)) ++ (m_0.Places.map GVector.cells)) false, .nest 52 ((lr_spec_l02Own_1_0 m_0).map fun l => l.map (cI .i64)) false] func109 (sC (show ([] : List (List AV)).length + (m_0.Places.map GVector.cells).length ≤ 1073741824 from (by simpa using y0)) <| sC (show (m_0.Places.map GVector.cells).all (fun cs => cs.length == 3 && cs.all isS) = true from (src_ok (fun _ => rfl))) <| sL mk_spec_l02Own_1_0 4 (lp_cast (st2 := ⟨[.ref (GMesh.cells m_0) 0, .any, .ptr 0 0 0, .ptr 3 0 0, .i .i64 0, .any, .ref (GMesh.cells m_0) 0, .ref (GMesh.cells m_0) 0, .ref (GMesh.cells m_0) 0, .sl (m_0.Places.map GVector.cells), .own 1, .any, .any, .any, .any, .any, .any, .any, .any, .any, .any, .any, .any, .any, .any, .any, .any, .any, .any, .any, .any, .any, .any, .any, .any, .any], [.box 31 [.nils, .nils], .vec 67 3 (([] : List (List AV)) ++ (m_0.Places.map GVector.cells)) false, .nest 52 [] false, .box 31 [.own 1, .own 2]]⟩) (lp_val (ls_spec_l02Own_1 m_0) (x := (lr_spec_l02Own_1_0 m_0)) (lp_spec_l02Own_1 m_0 hp0 hp1 hp2 (((m_0.Triangles.length : Int) - 0).toNat + 1) 0 ([] : List (List Int)) (show 0 ≤ 0 from (by first | assumption | omega | (simp_all <;> omega))) (show (([] : List (List Int)).length : Int) = 0 from (by simp)) (Nat.lt_succ_self _)) rfl) (by simp [hd_spec_l02Own_1, GVector.cells, cL, cI])) <| sK [2, 3] sN) rfl (by kernel_rfl) (by kernel_rfl) rfl ?_ ?_
 · rfl
 · simp [v_spec_l02Own, GVector.cells]

@[simp] theorem eq_l02Own (m : GMesh) : v_spec_l02Own m = m := by
  unfold v_spec_l02Own lr_spec_l02Own_1_0
  rw [app_loop (f := fun i => (m.Triangles.getD i.toNat default)) (n := (m.Triangles.length : Int)) (lo := lo_spec_l02Own_1 m) (fun k i r => rfl) _ _ _ (Nat.lt_succ_self _)]
  simp [getD_range2]

theorem i_spec_l02Own (m_0 : GMesh) (hp0 : m_0.Places.length ≤ 1073741824) (hp1 : m_0.Triangles.length ≤ 1073741824) (hp2 : ∀ t ∈ m_0.Triangles, t.length ≤ 1073741824) : Fn prog 109 [.ref (GMesh.cells m_0) 0] (.agg [.own 0, .own 1]) [.vec 67 3 (m_0.Places.map GVector.cells) false, .nest 52 (m_0.Triangles.map fun l => l.map (cI .i64)) false] := by
 simpa only [eq_l02Own] using t_spec_l02Own  m_0 hp0 hp1 hp2

def v_spec_l03Bare (m_0 : GMesh) : GBody := (⟨m_0, ([] : List GSpring), 0, 0, (List.replicate (m_0.Places.length : Int).toNat 0), (⟨0, 0, 0⟩ : GVector)⟩ : GBody)

theorem leP_spec_l03Bare (m : GMesh) : (v_spec_l03Bare m).Mesh.Places.length ≤ m.Places.length := by
  unfold v_spec_l03Bare
  simp

theorem leT_spec_l03Bare (m : GMesh) : (v_spec_l03Bare m).Mesh.Triangles.length ≤ m.Triangles.length := by
  unfold v_spec_l03Bare
  simp

theorem leW_spec_l03Bare (m : GMesh) : (v_spec_l03Bare m).Weights.length ≤ m.Places.length := by
  unfold v_spec_l03Bare
  simp

theorem leS_spec_l03Bare (m : GMesh) : (v_spec_l03Bare m).Springs.length ≤ 0 := by
  unfold v_spec_l03Bare
  simp

theorem mem_spec_l03Bare (m : GMesh) : ∀ t ∈ (v_spec_l03Bare m).Mesh.Triangles, t ∈ m.Triangles := by
  unfold v_spec_l03Bare
  simp

theorem t_spec_l03Bare (m_0 : GMesh) (hp0 : m_0.Places.length ≤ 1073741824) (hp1 : m_0.Triangles.length ≤ 1073741824) (hp2 : ∀ t ∈ m_0.Triangles, t.length ≤ 1073741824)  : Fn prog 97 [.ref (GMesh.cells m_0) 0] (.agg [.own 0, .own 1, .own 2, .f .f32 ((v_spec_l03Bare m_0).Film), .f .f32 ((v_spec_l03Bare m_0).Bend), .own 3, .f .f32 ((v_spec_l03Bare m_0).Fall.X), .f .f32 ((v_spec_l03Bare m_0).Fall.Y), .f .f32 ((v_spec_l03Bare m_0).Fall.Z)]) [.vec 67 3 (((v_spec_l03Bare m_0).Mesh.Places).map GVector.cells) false, .nest 52 (((v_spec_l03Bare m_0).Mesh.Triangles).map fun l => l.map (cI .i64)) false, .vec 132 4 (((v_spec_l03Bare m_0).Springs).map GSpring.cells) false, .vec 38 1 (((v_spec_l03Bare m_0).Weights).map (cF .f32)) false] := by
 have y0 : (0 : Int) ≤ (m_0.Places.length : Int) := (by first | assumption | omega | (simp_all <;> omega))
 have y1 : ((m_0.Places.length : Int) : Int) ≤ 2147483648 := (by first | assumption | omega | (simp_all <;> omega))
 refine fnS E0Ok hMixed (c := bodyOf f97) [] (.agg [.own 0, .own 1, .own 2, .f .f32 0, .f .f32 0, .own 3, .f .f32 0, .f .f32 0, .f .f32 0]) [.vec 67 3 (m_0.Places.map GVector.cells) false, .nest 52 (m_0.Triangles.map fun l => l.map (cI .i64)) false, .vec 132 4 ([] : List (List AV)) false, .vec 38 1 (List.replicate (Int.toNat (m_0.Places.length : Int)) [.f .f32 0]) false] func97 (sK [9, 9] <| sF (i_spec_l02Own m_0 hp0 hp1 hp2) <| sZ GVector.cells m_0.Places <| sC (show (m_0.Places.length : Int) = (m_0.Places.length : Int) from rfl) <| sC y0 <| sC y1 <| sK [1, 2, 3, 4] sN) rfl (by kernel_rfl) (by kernel_rfl) rfl ?_ ?_
 · rfl
 · simp [v_spec_l03Bare, GSpring.cells, cF]

def v_spec_l00Min (a_0 : Int) (b_1 : Int) : Int := (cond (decide (a_0 < b_1))
  a_0
  b_1)

theorem t_spec_l00Min (a_0 : Int) (b_1 : Int)   : Fn prog 118 [.i .i64 a_0, .i .i64 b_1] (.i .i64 (v_spec_l00Min a_0 b_1)) [] := by
 cases h0 : (decide (a_0 < b_1)) with
 | true =>
  have gh0 := of_decide_eq_true h0
  refine fnS E0Ok hMixed (c := bodyOf f118) [] (.i .i64 a_0) [] func118 (sB h0 <| sK [] sN) rfl (by kernel_rfl) (by kernel_rfl) rfl ?_ ?_
  · simp only [v_spec_l00Min, h0, cond_true]
  · rfl
 | false =>
  have gh0 := of_decide_eq_false h0
  refine fnS E0Ok hMixed (c := bodyOf f118) [] (.i .i64 b_1) [] func118 (sB h0 <| sK [] sN) rfl (by kernel_rfl) (by kernel_rfl) rfl ?_ ?_
  · simp only [v_spec_l00Min, h0, cond_false]
  · rfl

theorem min_bd {a b n : Int} (h1 : 0 ≤ a ∧ a < n) (h2 : 0 ≤ b ∧ b < n) : 0 ≤ v_spec_l00Min a b ∧ v_spec_l00Min a b < n := by
  unfold v_spec_l00Min; cases decide (a < b) <;> simp only [cond_true, cond_false] <;> omega

def v_spec_l00Max (a_0 : Int) (b_1 : Int) : Int := (cond (decide (a_0 > b_1))
  a_0
  b_1)

theorem t_spec_l00Max (a_0 : Int) (b_1 : Int)   : Fn prog 119 [.i .i64 a_0, .i .i64 b_1] (.i .i64 (v_spec_l00Max a_0 b_1)) [] := by
 cases h0 : (decide (a_0 > b_1)) with
 | true =>
  have gh0 := of_decide_eq_true h0
  refine fnS E0Ok hMixed (c := bodyOf f119) [] (.i .i64 a_0) [] func119 (sB h0 <| sK [] sN) rfl (by kernel_rfl) (by kernel_rfl) rfl ?_ ?_
  · simp only [v_spec_l00Max, h0, cond_true]
  · rfl
 | false =>
  have gh0 := of_decide_eq_false h0
  refine fnS E0Ok hMixed (c := bodyOf f119) [] (.i .i64 b_1) [] func119 (sB h0 <| sK [] sN) rfl (by kernel_rfl) (by kernel_rfl) rfl ?_ ?_
  · simp only [v_spec_l00Max, h0, cond_false]
  · rfl

theorem max_bd {a b n : Int} (h1 : 0 ≤ a ∧ a < n) (h2 : 0 ≤ b ∧ b < n) : 0 ≤ v_spec_l00Max a b ∧ v_spec_l00Max a b < n := by
  unfold v_spec_l00Max; cases decide (a > b) <;> simp only [cond_true, cond_false] <;> omega
theorem mkE_minmax (a b : Int) : (⟨v_spec_l00Min a b, v_spec_l00Max a b⟩ : Gedge) = mkE a b := by
  unfold v_spec_l00Min v_spec_l00Max mkE
  by_cases h : a < b
  · rw [decide_eq_true h, decide_eq_false (by omega), if_pos (by omega)]; rfl
  · rw [decide_eq_false h]
    by_cases h2 : a > b
    · rw [decide_eq_true h2, if_neg (by omega)]; rfl
    · rw [decide_eq_false h2, show a = b from by omega, if_pos (by omega)]; rfl

def nd_spec_l02Edges_0 (m_0 : GMesh) (i_l0 : Int) (k_l0 : Int) : Int := (v_spec_l00Min ((m_0.Triangles.getD i_l0.toNat default).getD k_l0.toNat default) ((m_0.Triangles.getD i_l0.toNat default).getD (Int.tmod (k_l0 + 1) 3).toNat default))

def nd_spec_l02Edges_1 (m_0 : GMesh) (i_l0 : Int) (k_l0 : Int) : Int := (v_spec_l00Max ((m_0.Triangles.getD i_l0.toNat default).getD k_l0.toNat default) ((m_0.Triangles.getD i_l0.toNat default).getD (Int.tmod (k_l0 + 1) 3).toNat default))

def lo_spec_l02Edges_2 (m_0 : GMesh) (i_l0 : Int) (r0_l1 : (List Bool)) : Nat → Int → (List Bool) → (List Bool)
  | 0, _, _ => default
  | k + 1, k_l0, r0_l1_1 => (cond (decide (k_l0 < 3))
    (lo_spec_l02Edges_2 m_0 i_l0 r0_l1 k (k_l0 + 1) (r0_l1_1.set ((IntKind.wrap .i64 ((IntKind.wrap .i64 ((nd_spec_l02Edges_0 m_0 i_l0 k_l0) * (m_0.Places.length : Int))) + (nd_spec_l02Edges_1 m_0 i_l0 k_l0))).toNat) true))
    r0_l1_1)

def ls_spec_l02Edges_2 (m_0 : GMesh) (i_l0 : Int) (r0_l1 : (List Bool)) (r : (List Bool)) : Ex × St := ((.exit 2), ⟨[.ref (GMesh.cells m_0) 0, .any, .nils, .i .i64 (m_0.Places.length : Int), .own 0, .i .i64 i_l0, .any, .any, .any, .any, .any, .any, .any, .ref (GMesh.cells m_0) 0, .ref (GMesh.cells m_0) 0, .ref (GMesh.cells m_0) 0, .sl (m_0.Places.map GVector.cells), .i .i64 (m_0.Places.length : Int), .i .i64 (m_0.Places.length : Int), .i .i64 (m_0.Places.length : Int), .i .i64 (IntKind.wrap .i64 ((m_0.Places.length : Int) * (m_0.Places.length : Int))), .own 0, .i .i64 i_l0, .ref (GMesh.cells m_0) 0, .ref (GMesh.cells m_0) 0, .ref (GMesh.cells m_0) 1, .sl (m_0.Triangles.map (cL (cI .i64))), .i .i64 (m_0.Triangles.length : Int), .b (decide (i_l0 < (m_0.Triangles.length : Int))), .any, .any, .ref (GMesh.cells m_0) 0, .ref (GMesh.cells m_0) 0, .ref (GMesh.cells m_0) 1, .sl (m_0.Triangles.map (cL (cI .i64))), .i .i64 i_l0, .ref [.sl ((m_0.Triangles.getD i_l0.toNat default).map (cI .i64))] 0, .sl ((m_0.Triangles.getD i_l0.toNat default).map (cI .i64)), .any, .any, .any, .any, .any, .any, .any, .any, .any, .any, .any, .any, .any, .any, .any, .any, .any, .any, .any, .any, .any, .any, .any, .any, .any, .any, .any, .any, .any, .any, .any, .any, .any, .any, .any, .any, .any, .any, .any, .any, .any, .any, .any, .any, .any, .any, .any, .any, .any, .any, .any, .any, .any], [.vec 4 1 (r.map cB) false]⟩)

def hd_spec_l02Edges_2 (m_0 : GMesh) (i_l0 : Int) (r0_l1 : (List Bool)) (k_l0 : Int) (r0_l1_1 : (List Bool)) : St := ⟨[.ref (GMesh.cells m_0) 0, .any, .nils, .i .i64 (m_0.Places.length : Int), .own 0, .i .i64 i_l0, .sl ((m_0.Triangles.getD i_l0.toNat default).map (cI .i64)), .i .i64 k_l0, .any, .any, .any, .any, .any, .ref (GMesh.cells m_0) 0, .ref (GMesh.cells m_0) 0, .ref (GMesh.cells m_0) 0, .sl (m_0.Places.map GVector.cells), .i .i64 (m_0.Places.length : Int), .i .i64 (m_0.Places.length : Int), .i .i64 (m_0.Places.length : Int), .i .i64 (IntKind.wrap .i64 ((m_0.Places.length : Int) * (m_0.Places.length : Int))), .own 0, .i .i64 i_l0, .ref (GMesh.cells m_0) 0, .ref (GMesh.cells m_0) 0, .ref (GMesh.cells m_0) 1, .sl (m_0.Triangles.map (cL (cI .i64))), .i .i64 (m_0.Triangles.length : Int), .b (decide (i_l0 < (m_0.Triangles.length : Int))), .any, .any, .ref (GMesh.cells m_0) 0, .ref (GMesh.cells m_0) 0, .ref (GMesh.cells m_0) 1, .sl (m_0.Triangles.map (cL (cI .i64))), .i .i64 i_l0, .ref [.sl ((m_0.Triangles.getD i_l0.toNat default).map (cI .i64))] 0, .sl ((m_0.Triangles.getD i_l0.toNat default).map (cI .i64)), .any, .any, .any, .any, .any, .any, .any, .any, .any, .any, .any, .any, .any, .any, .any, .any, .any, .any, .any, .any, .any, .any, .any, .any, .any, .any, .any, .any, .any, .any, .any, .any, .any, .any, .any, .any, .any, .any, .any, .any, .any, .any, .any, .any, .any, .any, .any, .any, .any, .any, .any, .any, .any], [.vec 4 1 (r0_l1_1.map cB) false]⟩

def mk_spec_l02Edges_2_0 : List Bool := [true, false, true, true, true, true, true, true, false, false, false, false, false, true, true, true, true, true, true, true, true, true, true, true, true, true, true, true, true, false, false, true, true, true, true, true, true, true, false, false, false, false, false, false, false, false, false, false, false, false, false, false, false, false, false, false, false, false, false, false, false, false, false, false, false, false, false, false, false, false, false, false, false, false, false, false, false, false, false, false, false, false, false, false, false, false, false, false, false, false, false]

def mk_spec_l02Edges_2_1 : List Bool := [true, false, true, true, true, true, false, false, false, false, false, false, false, true, true, true, true, true, true, true, true, true, true, true, true, true, true, true, true, false, false, true, true, true, true, true, true, true, false, false, false, false, false, false, false, false, false, false, false, false, false, false, false, false, false, false, false, false, false, false, false, false, false, false, false, false, false, false, false, false, false, false, false, false, false, false, false, false, false, false, false, false, false, false, false, false, false, false, false, false, false]

theorem lp_spec_l02Edges_2 (m_0 : GMesh) (i_l0 : Int) (r0_l1 : (List Bool)) (hp0 : m_0.Places.length ≤ 1073741824) (hp1 : m_0.Triangles.length ≤ 1073741824) (hp2 : ∀ t ∈ m_0.Triangles, t.length ≤ 1073741824) (hp3 : OkE m_0.Places.length m_0.Triangles) (hv_spec_l02Edges_1_0 : 0 ≤ i_l0) (hv_spec_l02Edges_1_1 : r0_l1.length = (IntKind.wrap .i64 ((m_0.Places.length : Int) * (m_0.Places.length : Int))).toNat) (hf_spec_l02Edges_2_0 : (decide (i_l0 < (m_0.Triangles.length : Int))) = true) : ∀ (k : Nat) (k_l0 : Int) (r0_l1_1 : (List Bool)) (hv_spec_l02Edges_2_0 : 0 ≤ k_l0) (hv_spec_l02Edges_2_1 : r0_l1_1.length = r0_l1.length) (hk : ((3 : Int) - k_l0).toNat < k), Lp prog 0 (sub (bodyOf f73) [1, 1, 1, 0, 1, 0, 0, 1, 0, 0, 1, 1, 0, 0]) (hd_spec_l02Edges_2 m_0 i_l0 r0_l1 k_l0 r0_l1_1) (ls_spec_l02Edges_2 m_0 i_l0 r0_l1 (lo_spec_l02Edges_2 m_0 i_l0 r0_l1 k k_l0 r0_l1_1)).1 (ls_spec_l02Edges_2 m_0 i_l0 r0_l1 (lo_spec_l02Edges_2 m_0 i_l0 r0_l1 k k_l0 r0_l1_1)).2 := by
 intro k
 induction k with
 | zero => intro k_l0 r0_l1_1 hv_spec_l02Edges_2_0 hv_spec_l02Edges_2_1 hk; exact absurd hk (Nat.not_lt_zero _)
 | succ k ih =>
  intro k_l0 r0_l1_1 hv_spec_l02Edges_2_0 hv_spec_l02Edges_2_1 hk
  cases h__0 : (decide (k_l0 < 3)) with
  | true =>
   have gh__0 := of_decide_eq_true h__0
   have y__0 : (0 : Int) ≤ k_l0 := (by first | assumption | omega | (first | (have q := OkE.at (by assumption) hv_spec_l02Edges_1_0 (of_decide_eq_true (by assumption)) hv_spec_l02Edges_2_0 (of_decide_eq_true (by assumption)); have q2 := ix2F q.2.2.2.2.2.1 (min_bd q.2.2.2.1 q.2.2.2.2.1).1 (min_bd q.2.2.2.1 q.2.2.2.2.1).2 (max_bd q.2.2.2.1 q.2.2.2.2.1).1 (max_bd q.2.2.2.1 q.2.2.2.2.1).2; unfold nd_spec_l02Edges_0 nd_spec_l02Edges_1; omega) | (have q := OkE.at (by assumption) hv_spec_l02Edges_1_0 (of_decide_eq_true (by assumption)) hv_spec_l02Edges_2_0 (of_decide_eq_true (by assumption)); omega) | (have := hp3.1; have g4 := of_decide_eq_true hf_spec_l02Edges_4_0; first | omega | (have q2 := ix2F (n := (m_0.Places.length : Int)) (a := a_l0) (b := b_l0) (by omega) (by omega) (by omega) (by omega) (by omega); first | omega | (simp only [len_lr_spec_l02Edges_1_1_0, List.length_replicate]; omega)) | (simp only [List.length_append, List.length_cons, List.length_nil]; omega)) | (have := hp3.1; have g4 := of_decide_eq_true h_0; have q := lo4_len m_0 a_l0 r1_l1 (((m_0.Places.length : Int) - (a_l0 + 1)).toNat + 1) (a_l0 + 1) r1_l1; unfold lr_spec_l02Edges_4_2; omega) | (have q2 := ixN hp3.1; omega)) | (simp_all <;> omega))
   have y__1 : k_l0 < ((m_0.Triangles.getD i_l0.toNat default).length : Int) := (by first | assumption | omega | (first | (have q := OkE.at (by assumption) hv_spec_l02Edges_1_0 (of_decide_eq_true (by assumption)) hv_spec_l02Edges_2_0 (of_decide_eq_true (by assumption)); have q2 := ix2F q.2.2.2.2.2.1 (min_bd q.2.2.2.1 q.2.2.2.2.1).1 (min_bd q.2.2.2.1 q.2.2.2.2.1).2 (max_bd q.2.2.2.1 q.2.2.2.2.1).1 (max_bd q.2.2.2.1 q.2.2.2.2.1).2; unfold nd_spec_l02Edges_0 nd_spec_l02Edges_1; omega) | (have q := OkE.at (by assumption) hv_spec_l02Edges_1_0 (of_decide_eq_true (by assumption)) hv_spec_l02Edges_2_0 (of_decide_eq_true (by assumption)); omega) | (have := hp3.1; have g4 := of_decide_eq_true hf_spec_l02Edges_4_0; first | omega | (have q2 := ix2F (n := (m_0.Places.length : Int)) (a := a_l0) (b := b_l0) (by omega) (by omega) (by omega) (by omega) (by omega); first | omega | (simp only [len_lr_spec_l02Edges_1_1_0, List.length_replicate]; omega)) | (simp only [List.length_append, List.length_cons, List.length_nil]; omega)) | (have := hp3.1; have g4 := of_decide_eq_true h_0; have q := lo4_len m_0 a_l0 r1_l1 (((m_0.Places.length : Int) - (a_l0 + 1)).toNat + 1) (a_l0 + 1) r1_l1; unfold lr_spec_l02Edges_4_2; omega) | (have q2 := ixN hp3.1; omega)) | (simp_all <;> omega))
   have y__2 : (-9223372036854775808 : Int) ≤ (k_l0 + 1) := (by first | assumption | omega | (first | (have q := OkE.at (by assumption) hv_spec_l02Edges_1_0 (of_decide_eq_true (by assumption)) hv_spec_l02Edges_2_0 (of_decide_eq_true (by assumption)); have q2 := ix2F q.2.2.2.2.2.1 (min_bd q.2.2.2.1 q.2.2.2.2.1).1 (min_bd q.2.2.2.1 q.2.2.2.2.1).2 (max_bd q.2.2.2.1 q.2.2.2.2.1).1 (max_bd q.2.2.2.1 q.2.2.2.2.1).2; unfold nd_spec_l02Edges_0 nd_spec_l02Edges_1; omega) | (have q := OkE.at (by assumption) hv_spec_l02Edges_1_0 (of_decide_eq_true (by assumption)) hv_spec_l02Edges_2_0 (of_decide_eq_true (by assumption)); omega) | (have := hp3.1; have g4 := of_decide_eq_true hf_spec_l02Edges_4_0; first | omega | (have q2 := ix2F (n := (m_0.Places.length : Int)) (a := a_l0) (b := b_l0) (by omega) (by omega) (by omega) (by omega) (by omega); first | omega | (simp only [len_lr_spec_l02Edges_1_1_0, List.length_replicate]; omega)) | (simp only [List.length_append, List.length_cons, List.length_nil]; omega)) | (have := hp3.1; have g4 := of_decide_eq_true h_0; have q := lo4_len m_0 a_l0 r1_l1 (((m_0.Places.length : Int) - (a_l0 + 1)).toNat + 1) (a_l0 + 1) r1_l1; unfold lr_spec_l02Edges_4_2; omega) | (have q2 := ixN hp3.1; omega)) | (simp_all <;> omega))
   have y__3 : (k_l0 + 1) ≤ (9223372036854775807 : Int) := (by first | assumption | omega | (first | (have q := OkE.at (by assumption) hv_spec_l02Edges_1_0 (of_decide_eq_true (by assumption)) hv_spec_l02Edges_2_0 (of_decide_eq_true (by assumption)); have q2 := ix2F q.2.2.2.2.2.1 (min_bd q.2.2.2.1 q.2.2.2.2.1).1 (min_bd q.2.2.2.1 q.2.2.2.2.1).2 (max_bd q.2.2.2.1 q.2.2.2.2.1).1 (max_bd q.2.2.2.1 q.2.2.2.2.1).2; unfold nd_spec_l02Edges_0 nd_spec_l02Edges_1; omega) | (have q := OkE.at (by assumption) hv_spec_l02Edges_1_0 (of_decide_eq_true (by assumption)) hv_spec_l02Edges_2_0 (of_decide_eq_true (by assumption)); omega) | (have := hp3.1; have g4 := of_decide_eq_true hf_spec_l02Edges_4_0; first | omega | (have q2 := ix2F (n := (m_0.Places.length : Int)) (a := a_l0) (b := b_l0) (by omega) (by omega) (by omega) (by omega) (by omega); first | omega | (simp only [len_lr_spec_l02Edges_1_1_0, List.length_replicate]; omega)) | (simp only [List.length_append, List.length_cons, List.length_nil]; omega)) | (have := hp3.1; have g4 := of_decide_eq_true h_0; have q := lo4_len m_0 a_l0 r1_l1 (((m_0.Places.length : Int) - (a_l0 + 1)).toNat + 1) (a_l0 + 1) r1_l1; unfold lr_spec_l02Edges_4_2; omega) | (have q2 := ixN hp3.1; omega)) | (simp_all <;> omega))
   have y__4 : (0 : Int) ≤ (Int.tmod (k_l0 + 1) 3) := (by first | assumption | omega | (first | (have q := OkE.at (by assumption) hv_spec_l02Edges_1_0 (of_decide_eq_true (by assumption)) hv_spec_l02Edges_2_0 (of_decide_eq_true (by assumption)); have q2 := ix2F q.2.2.2.2.2.1 (min_bd q.2.2.2.1 q.2.2.2.2.1).1 (min_bd q.2.2.2.1 q.2.2.2.2.1).2 (max_bd q.2.2.2.1 q.2.2.2.2.1).1 (max_bd q.2.2.2.1 q.2.2.2.2.1).2; unfold nd_spec_l02Edges_0 nd_spec_l02Edges_1; omega) | (have q := OkE.at (by assumption) hv_spec_l02Edges_1_0 (of_decide_eq_true (by assumption)) hv_spec_l02Edges_2_0 (of_decide_eq_true (by assumption)); omega) | (have := hp3.1; have g4 := of_decide_eq_true hf_spec_l02Edges_4_0; first | omega | (have q2 := ix2F (n := (m_0.Places.length : Int)) (a := a_l0) (b := b_l0) (by omega) (by omega) (by omega) (by omega) (by omega); first | omega | (simp only [len_lr_spec_l02Edges_1_1_0, List.length_replicate]; omega)) | (simp only [List.length_append, List.length_cons, List.length_nil]; omega)) | (have := hp3.1; have g4 := of_decide_eq_true h_0; have q := lo4_len m_0 a_l0 r1_l1 (((m_0.Places.length : Int) - (a_l0 + 1)).toNat + 1) (a_l0 + 1) r1_l1; unfold lr_spec_l02Edges_4_2; omega) | (have q2 := ixN hp3.1; omega)) | (simp_all <;> omega))
   have y__5 : (Int.tmod (k_l0 + 1) 3) < ((m_0.Triangles.getD i_l0.toNat default).length : Int) := (by first | assumption | omega | (first | (have q := OkE.at (by assumption) hv_spec_l02Edges_1_0 (of_decide_eq_true (by assumption)) hv_spec_l02Edges_2_0 (of_decide_eq_true (by assumption)); have q2 := ix2F q.2.2.2.2.2.1 (min_bd q.2.2.2.1 q.2.2.2.2.1).1 (min_bd q.2.2.2.1 q.2.2.2.2.1).2 (max_bd q.2.2.2.1 q.2.2.2.2.1).1 (max_bd q.2.2.2.1 q.2.2.2.2.1).2; unfold nd_spec_l02Edges_0 nd_spec_l02Edges_1; omega) | (have q := OkE.at (by assumption) hv_spec_l02Edges_1_0 (of_decide_eq_true (by assumption)) hv_spec_l02Edges_2_0 (of_decide_eq_true (by assumption)); omega) | (have := hp3.1; have g4 := of_decide_eq_true hf_spec_l02Edges_4_0; first | omega | (have q2 := ix2F (n := (m_0.Places.length : Int)) (a := a_l0) (b := b_l0) (by omega) (by omega) (by omega) (by omega) (by omega); first | omega | (simp only [len_lr_spec_l02Edges_1_1_0, List.length_replicate]; omega)) | (simp only [List.length_append, List.length_cons, List.length_nil]; omega)) | (have := hp3.1; have g4 := of_decide_eq_true h_0; have q := lo4_len m_0 a_l0 r1_l1 (((m_0.Places.length : Int) - (a_l0 + 1)).toNat + 1) (a_l0 + 1) r1_l1; unfold lr_spec_l02Edges_4_2; omega) | (have q2 := ixN hp3.1; omega)) | (simp_all <;> omega))
   have y__6 : (0 : Int) ≤ (IntKind.wrap .i64 ((IntKind.wrap .i64 ((nd_spec_l02Edges_0 m_0 i_l0 k_l0) * (m_0.Places.length : Int))) + (nd_spec_l02Edges_1 m_0 i_l0 k_l0))) := (by first | assumption | omega | (first | (have q := OkE.at (by assumption) hv_spec_l02Edges_1_0 (of_decide_eq_true (by assumption)) hv_spec_l02Edges_2_0 (of_decide_eq_true (by assumption)); have q2 := ix2F q.2.2.2.2.2.1 (min_bd q.2.2.2.1 q.2.2.2.2.1).1 (min_bd q.2.2.2.1 q.2.2.2.2.1).2 (max_bd q.2.2.2.1 q.2.2.2.2.1).1 (max_bd q.2.2.2.1 q.2.2.2.2.1).2; unfold nd_spec_l02Edges_0 nd_spec_l02Edges_1; omega) | (have q := OkE.at (by assumption) hv_spec_l02Edges_1_0 (of_decide_eq_true (by assumption)) hv_spec_l02Edges_2_0 (of_decide_eq_true (by assumption)); omega) | (have := hp3.1; have g4 := of_decide_eq_true hf_spec_l02Edges_4_0; first | omega | (have q2 := ix2F (n := (m_0.Places.length : Int)) (a := a_l0) (b := b_l0) (by omega) (by omega) (by omega) (by omega) (by omega); first | omega | (simp only [len_lr_spec_l02Edges_1_1_0, List.length_replicate]; omega)) | (simp only [List.length_append, List.length_cons, List.length_nil]; omega)) | (have := hp3.1; have g4 := of_decide_eq_true h_0; have q := lo4_len m_0 a_l0 r1_l1 (((m_0.Places.length : Int) - (a_l0 + 1)).toNat + 1) (a_l0 + 1) r1_l1; unfold lr_spec_l02Edges_4_2; omega) | (have q2 := ixN hp3.1; omega)) | (simp_all <;> omega))
   have y__7 : (IntKind.wrap .i64 ((IntKind.wrap .i64 ((nd_spec_l02Edges_0 m_0 i_l0 k_l0) * (m_0.Places.length : Int))) + (nd_spec_l02Edges_1 m_0 i_l0 k_l0))) < (r0_l1_1.length : Int) := (by first | assumption | omega | (first | (have q := OkE.at (by assumption) hv_spec_l02Edges_1_0 (of_decide_eq_true (by assumption)) hv_spec_l02Edges_2_0 (of_decide_eq_true (by assumption)); have q2 := ix2F q.2.2.2.2.2.1 (min_bd q.2.2.2.1 q.2.2.2.2.1).1 (min_bd q.2.2.2.1 q.2.2.2.2.1).2 (max_bd q.2.2.2.1 q.2.2.2.2.1).1 (max_bd q.2.2.2.1 q.2.2.2.2.1).2; unfold nd_spec_l02Edges_0 nd_spec_l02Edges_1; omega) | (have q := OkE.at (by assumption) hv_spec_l02Edges_1_0 (of_decide_eq_true (by assumption)) hv_spec_l02Edges_2_0 (of_decide_eq_true (by assumption)); omega) | (have := hp3.1; have g4 := of_decide_eq_true hf_spec_l02Edges_4_0; first | omega | (have q2 := ix2F (n := (m_0.Places.length : Int)) (a := a_l0) (b := b_l0) (by omega) (by omega) (by omega) (by omega) (by omega); first | omega | (simp only [len_lr_spec_l02Edges_1_1_0, List.length_replicate]; omega)) | (simp only [List.length_append, List.length_cons, List.length_nil]; omega)) | (have := hp3.1; have g4 := of_decide_eq_true h_0; have q := lo4_len m_0 a_l0 r1_l1 (((m_0.Places.length : Int) - (a_l0 + 1)).toNat + 1) (a_l0 + 1) r1_l1; unfold lr_spec_l02Edges_4_2; omega) | (have q2 := ixN hp3.1; omega)) | (simp_all <;> omega))
   have y__8 : (IntKind.wrap .i64 ((IntKind.wrap .i64 ((nd_spec_l02Edges_0 m_0 i_l0 k_l0) * (m_0.Places.length : Int))) + (nd_spec_l02Edges_1 m_0 i_l0 k_l0))).toNat < r0_l1_1.length := (by first | assumption | omega | (first | (have q := OkE.at (by assumption) hv_spec_l02Edges_1_0 (of_decide_eq_true (by assumption)) hv_spec_l02Edges_2_0 (of_decide_eq_true (by assumption)); have q2 := ix2F q.2.2.2.2.2.1 (min_bd q.2.2.2.1 q.2.2.2.2.1).1 (min_bd q.2.2.2.1 q.2.2.2.2.1).2 (max_bd q.2.2.2.1 q.2.2.2.2.1).1 (max_bd q.2.2.2.1 q.2.2.2.2.1).2; unfold nd_spec_l02Edges_0 nd_spec_l02Edges_1; omega) | (have q := OkE.at (by assumption) hv_spec_l02Edges_1_0 (of_decide_eq_true (by assumption)) hv_spec_l02Edges_2_0 (of_decide_eq_true (by assumption)); omega) | (have := hp3.1; have g4 := of_decide_eq_true hf_spec_l02Edges_4_0; first | omega | (have q2 := ix2F (n := (m_0.Places.length : Int)) (a := a_l0) (b := b_l0) (by omega) (by omega) (by omega) (by omega) (by omega); first | omega | (simp only [len_lr_spec_l02Edges_1_1_0, List.length_replicate]; omega)) | (simp only [List.length_append, List.length_cons, List.length_nil]; omega)) | (have := hp3.1; have g4 := of_decide_eq_true h_0; have q := lo4_len m_0 a_l0 r1_l1 (((m_0.Places.length : Int) - (a_l0 + 1)).toNat + 1) (a_l0 + 1) r1_l1; unfold lr_spec_l02Edges_4_2; omega) | (have q2 := ixN hp3.1; omega)) | (simp_all <;> omega))
   have e : lo_spec_l02Edges_2 m_0 i_l0 r0_l1 (k + 1) k_l0 r0_l1_1 = (lo_spec_l02Edges_2 m_0 i_l0 r0_l1 k (k_l0 + 1) (r0_l1_1.set ((IntKind.wrap .i64 ((IntKind.wrap .i64 ((nd_spec_l02Edges_0 m_0 i_l0 k_l0) * (m_0.Places.length : Int))) + (nd_spec_l02Edges_1 m_0 i_l0 k_l0))).toNat) true)) := by simp only [lo_spec_l02Edges_2, h__0, cond_true]
   rw [e]
   exact nextS E0Ok hMixed [] mk_spec_l02Edges_2_0 [0] (⟨[.ref (GMesh.cells m_0) 0, .any, .nils, .i .i64 (m_0.Places.length : Int), .own 0, .i .i64 i_l0, .sl ((m_0.Triangles.getD i_l0.toNat default).map (cI .i64)), .i .i64 (k_l0 + 1), .any, .any, .any, .any, .any, .ref (GMesh.cells m_0) 0, .ref (GMesh.cells m_0) 0, .ref (GMesh.cells m_0) 0, .sl (m_0.Places.map GVector.cells), .i .i64 (m_0.Places.length : Int), .i .i64 (m_0.Places.length : Int), .i .i64 (m_0.Places.length : Int), .i .i64 (IntKind.wrap .i64 ((m_0.Places.length : Int) * (m_0.Places.length : Int))), .own 0, .i .i64 i_l0, .ref (GMesh.cells m_0) 0, .ref (GMesh.cells m_0) 0, .ref (GMesh.cells m_0) 1, .sl (m_0.Triangles.map (cL (cI .i64))), .i .i64 (m_0.Triangles.length : Int), .b (decide (i_l0 < (m_0.Triangles.length : Int))), .any, .any, .ref (GMesh.cells m_0) 0, .ref (GMesh.cells m_0) 0, .ref (GMesh.cells m_0) 1, .sl (m_0.Triangles.map (cL (cI .i64))), .i .i64 i_l0, .ref [.sl ((m_0.Triangles.getD i_l0.toNat default).map (cI .i64))] 0, .sl ((m_0.Triangles.getD i_l0.toNat default).map (cI .i64)), .any, .any, .any, .any, .any, .any, .any, .any, .any, .any, .any, .any, .any, .any, .any, .any, .any, .any, .any, .any, .any, .any, .any, .any, .any, .any, .any, .any, .any, .any, .any, .any, .any, .any, .any, .any, .any, .any, .any, .any, .any, .any, .any, .any, .any, .any, .any, .any, .any, .any, .any, .any, .any], [.vec 4 1 ((r0_l1_1.map cB).set ((IntKind.wrap .i64 ((IntKind.wrap .i64 ((nd_spec_l02Edges_0 m_0 i_l0 k_l0) * (m_0.Places.length : Int))) + (nd_spec_l02Edges_1 m_0 i_l0 k_l0))).toNat) [.b true]) false]⟩) (sB h__0 <| sG (cI .i64) (m_0.Triangles.getD i_l0.toNat default) k_l0 y__0 y__1 <| sI (k_l0 + 1) y__2 y__3 <| sC (show (3 : Int) ≠ 0 from (by decide)) <| sQ (Int.tmod (k_l0 + 1) 3) <| sG (cI .i64) (m_0.Triangles.getD i_l0.toNat default) (Int.tmod (k_l0 + 1) 3) y__4 y__5 <| sF (t_spec_l00Min ((m_0.Triangles.getD i_l0.toNat default).getD k_l0.toNat default) ((m_0.Triangles.getD i_l0.toNat default).getD (Int.tmod (k_l0 + 1) 3).toNat default)) <| sW .i64 ((nd_spec_l02Edges_0 m_0 i_l0 k_l0) * (m_0.Places.length : Int)) <| sF (t_spec_l00Max ((m_0.Triangles.getD i_l0.toNat default).getD k_l0.toNat default) ((m_0.Triangles.getD i_l0.toNat default).getD (Int.tmod (k_l0 + 1) 3).toNat default)) <| sW .i64 ((IntKind.wrap .i64 ((nd_spec_l02Edges_0 m_0 i_l0 k_l0) * (m_0.Places.length : Int))) + (nd_spec_l02Edges_1 m_0 i_l0 k_l0)) <| sX cB r0_l1_1 (IntKind.wrap .i64 ((IntKind.wrap .i64 ((nd_spec_l02Edges_0 m_0 i_l0 k_l0) * (m_0.Places.length : Int))) + (nd_spec_l02Edges_1 m_0 i_l0 k_l0))) y__6 y__7 <| sC (maplt (c := cB) (l := r0_l1_1) y__8) <| sI (k_l0 + 1) y__2 y__3 <| sN) (by kernel_rfl) (show _ = ⟨[.ref (GMesh.cells m_0) 0, .any, .nils, .i .i64 (m_0.Places.length : Int), .own 0, .i .i64 i_l0, .sl ((m_0.Triangles.getD i_l0.toNat default).map (cI .i64)), .i .i64 (k_l0 + 1), .any, .any, .any, .any, .any, .ref (GMesh.cells m_0) 0, .ref (GMesh.cells m_0) 0, .ref (GMesh.cells m_0) 0, .sl (m_0.Places.map GVector.cells), .i .i64 (m_0.Places.length : Int), .i .i64 (m_0.Places.length : Int), .i .i64 (m_0.Places.length : Int), .i .i64 (IntKind.wrap .i64 ((m_0.Places.length : Int) * (m_0.Places.length : Int))), .own 0, .i .i64 i_l0, .ref (GMesh.cells m_0) 0, .ref (GMesh.cells m_0) 0, .ref (GMesh.cells m_0) 1, .sl (m_0.Triangles.map (cL (cI .i64))), .i .i64 (m_0.Triangles.length : Int), .b (decide (i_l0 < (m_0.Triangles.length : Int))), .any, .any, .ref (GMesh.cells m_0) 0, .ref (GMesh.cells m_0) 0, .ref (GMesh.cells m_0) 1, .sl (m_0.Triangles.map (cL (cI .i64))), .i .i64 i_l0, .ref [.sl ((m_0.Triangles.getD i_l0.toNat default).map (cI .i64))] 0, .sl ((m_0.Triangles.getD i_l0.toNat default).map (cI .i64)), .any, .any, .any, .any, .any, .any, .any, .any, .any, .any, .any, .any, .any, .any, .any, .any, .any, .any, .any, .any, .any, .any, .any, .any, .any, .any, .any, .any, .any, .any, .any, .any, .any, .any, .any, .any, .any, .any, .any, .any, .any, .any, .any, .any, .any, .any, .any, .any, .any, .any, .any, .any, .any], [.vec 4 1 ((r0_l1_1.set ((IntKind.wrap .i64 ((IntKind.wrap .i64 ((nd_spec_l02Edges_0 m_0 i_l0 k_l0) * (m_0.Places.length : Int))) + (nd_spec_l02Edges_1 m_0 i_l0 k_l0))).toNat) true).map cB) false]⟩ from (by simp [cL, cI, cB])) (ih (k_l0 + 1) (r0_l1_1.set ((IntKind.wrap .i64 ((IntKind.wrap .i64 ((nd_spec_l02Edges_0 m_0 i_l0 k_l0) * (m_0.Places.length : Int))) + (nd_spec_l02Edges_1 m_0 i_l0 k_l0))).toNat) true) (show 0 ≤ (k_l0 + 1) from (by first | assumption | omega | (first | (have q := OkE.at (by assumption) hv_spec_l02Edges_1_0 (of_decide_eq_true (by assumption)) hv_spec_l02Edges_2_0 (of_decide_eq_true (by assumption)); have q2 := ix2F q.2.2.2.2.2.1 (min_bd q.2.2.2.1 q.2.2.2.2.1).1 (min_bd q.2.2.2.1 q.2.2.2.2.1).2 (max_bd q.2.2.2.1 q.2.2.2.2.1).1 (max_bd q.2.2.2.1 q.2.2.2.2.1).2; unfold nd_spec_l02Edges_0 nd_spec_l02Edges_1; omega) | (have q := OkE.at (by assumption) hv_spec_l02Edges_1_0 (of_decide_eq_true (by assumption)) hv_spec_l02Edges_2_0 (of_decide_eq_true (by assumption)); omega) | (have := hp3.1; have g4 := of_decide_eq_true hf_spec_l02Edges_4_0; first | omega | (have q2 := ix2F (n := (m_0.Places.length : Int)) (a := a_l0) (b := b_l0) (by omega) (by omega) (by omega) (by omega) (by omega); first | omega | (simp only [len_lr_spec_l02Edges_1_1_0, List.length_replicate]; omega)) | (simp only [List.length_append, List.length_cons, List.length_nil]; omega)) | (have := hp3.1; have g4 := of_decide_eq_true h_0; have q := lo4_len m_0 a_l0 r1_l1 (((m_0.Places.length : Int) - (a_l0 + 1)).toNat + 1) (a_l0 + 1) r1_l1; unfold lr_spec_l02Edges_4_2; omega) | (have q2 := ixN hp3.1; omega)) | (simp_all <;> omega))) (show (r0_l1_1.set ((IntKind.wrap .i64 ((IntKind.wrap .i64 ((nd_spec_l02Edges_0 m_0 i_l0 k_l0) * (m_0.Places.length : Int))) + (nd_spec_l02Edges_1 m_0 i_l0 k_l0))).toNat) true).length = r0_l1.length from (by first | assumption | omega | (first | (have q := OkE.at (by assumption) hv_spec_l02Edges_1_0 (of_decide_eq_true (by assumption)) hv_spec_l02Edges_2_0 (of_decide_eq_true (by assumption)); have q2 := ix2F q.2.2.2.2.2.1 (min_bd q.2.2.2.1 q.2.2.2.2.1).1 (min_bd q.2.2.2.1 q.2.2.2.2.1).2 (max_bd q.2.2.2.1 q.2.2.2.2.1).1 (max_bd q.2.2.2.1 q.2.2.2.2.1).2; unfold nd_spec_l02Edges_0 nd_spec_l02Edges_1; omega) | (have q := OkE.at (by assumption) hv_spec_l02Edges_1_0 (of_decide_eq_true (by assumption)) hv_spec_l02Edges_2_0 (of_decide_eq_true (by assumption)); omega) | (have := hp3.1; have g4 := of_decide_eq_true hf_spec_l02Edges_4_0; first | omega | (have q2 := ix2F (n := (m_0.Places.length : Int)) (a := a_l0) (b := b_l0) (by omega) (by omega) (by omega) (by omega) (by omega); first | omega | (simp only [len_lr_spec_l02Edges_1_1_0, List.length_replicate]; omega)) | (simp only [List.length_append, List.length_cons, List.length_nil]; omega)) | (have := hp3.1; have g4 := of_decide_eq_true h_0; have q := lo4_len m_0 a_l0 r1_l1 (((m_0.Places.length : Int) - (a_l0 + 1)).toNat + 1) (a_l0 + 1) r1_l1; unfold lr_spec_l02Edges_4_2; omega) | (have q2 := ixN hp3.1; omega)) | (simp_all <;> omega))) (by first | assumption | omega | (first | (have q := OkE.at (by assumption) hv_spec_l02Edges_1_0 (of_decide_eq_true (by assumption)) hv_spec_l02Edges_2_0 (of_decide_eq_true (by assumption)); have q2 := ix2F q.2.2.2.2.2.1 (min_bd q.2.2.2.1 q.2.2.2.2.1).1 (min_bd q.2.2.2.1 q.2.2.2.2.1).2 (max_bd q.2.2.2.1 q.2.2.2.2.1).1 (max_bd q.2.2.2.1 q.2.2.2.2.1).2; unfold nd_spec_l02Edges_0 nd_spec_l02Edges_1; omega) | (have q := OkE.at (by assumption) hv_spec_l02Edges_1_0 (of_decide_eq_true (by assumption)) hv_spec_l02Edges_2_0 (of_decide_eq_true (by assumption)); omega) | (have := hp3.1; have g4 := of_decide_eq_true hf_spec_l02Edges_4_0; first | omega | (have q2 := ix2F (n := (m_0.Places.length : Int)) (a := a_l0) (b := b_l0) (by omega) (by omega) (by omega) (by omega) (by omega); first | omega | (simp only [len_lr_spec_l02Edges_1_1_0, List.length_replicate]; omega)) | (simp only [List.length_append, List.length_cons, List.length_nil]; omega)) | (have := hp3.1; have g4 := of_decide_eq_true h_0; have q := lo4_len m_0 a_l0 r1_l1 (((m_0.Places.length : Int) - (a_l0 + 1)).toNat + 1) (a_l0 + 1) r1_l1; unfold lr_spec_l02Edges_4_2; omega) | (have q2 := ixN hp3.1; omega)) | (simp_all <;> omega)))
  | false =>
   have gh__0 := of_decide_eq_false h__0
   have e : lo_spec_l02Edges_2 m_0 i_l0 r0_l1 (k + 1) k_l0 r0_l1_1 = r0_l1_1 := by simp only [lo_spec_l02Edges_2, h__0, cond_false]
   rw [e]
   exact outR (e := (.exit 2)) E0Ok hMixed [] mk_spec_l02Edges_2_1 [0] (sB h__0 <| sN) (by kernel_rfl) (by intro h; cases h)

theorem ln_spec_l02Edges_2_0 (m_0 : GMesh) (i_l0 : Int) (r0_l1 : (List Bool)) : ∀ (k : Nat) (k_l0 : Int) (r0_l1_1 : (List Bool)) (hk : ((3 : Int) - k_l0).toNat < k), (lo_spec_l02Edges_2 m_0 i_l0 r0_l1 k k_l0 r0_l1_1).length = r0_l1_1.length := by
  intro k
  induction k with
  | zero => intro k_l0 r0_l1_1 hk; exact absurd hk (Nat.not_lt_zero _)
  | succ k ih =>
    intro k_l0 r0_l1_1 hk
    cases h__0 : (decide (k_l0 < 3)) with
    | true =>
      have e : lo_spec_l02Edges_2 m_0 i_l0 r0_l1 (k + 1) k_l0 r0_l1_1 = (lo_spec_l02Edges_2 m_0 i_l0 r0_l1 k (k_l0 + 1) (r0_l1_1.set ((IntKind.wrap .i64 ((IntKind.wrap .i64 ((nd_spec_l02Edges_0 m_0 i_l0 k_l0) * (m_0.Places.length : Int))) + (nd_spec_l02Edges_1 m_0 i_l0 k_l0))).toNat) true)) := by simp only [lo_spec_l02Edges_2, h__0, cond_true]
      rw [e, ih (k_l0 + 1) (r0_l1_1.set ((IntKind.wrap .i64 ((IntKind.wrap .i64 ((nd_spec_l02Edges_0 m_0 i_l0 k_l0) * (m_0.Places.length : Int))) + (nd_spec_l02Edges_1 m_0 i_l0 k_l0))).toNat) true) (by first | assumption | omega | (first | (have q := OkE.at (by assumption) hv_spec_l02Edges_1_0 (of_decide_eq_true (by assumption)) hv_spec_l02Edges_2_0 (of_decide_eq_true (by assumption)); have q2 := ix2F q.2.2.2.2.2.1 (min_bd q.2.2.2.1 q.2.2.2.2.1).1 (min_bd q.2.2.2.1 q.2.2.2.2.1).2 (max_bd q.2.2.2.1 q.2.2.2.2.1).1 (max_bd q.2.2.2.1 q.2.2.2.2.1).2; unfold nd_spec_l02Edges_0 nd_spec_l02Edges_1; omega) | (have q := OkE.at (by assumption) hv_spec_l02Edges_1_0 (of_decide_eq_true (by assumption)) hv_spec_l02Edges_2_0 (of_decide_eq_true (by assumption)); omega) | (have := hp3.1; have g4 := of_decide_eq_true hf_spec_l02Edges_4_0; first | omega | (have q2 := ix2F (n := (m_0.Places.length : Int)) (a := a_l0) (b := b_l0) (by omega) (by omega) (by omega) (by omega) (by omega); first | omega | (simp only [len_lr_spec_l02Edges_1_1_0, List.length_replicate]; omega)) | (simp only [List.length_append, List.length_cons, List.length_nil]; omega)) | (have := hp3.1; have g4 := of_decide_eq_true h_0; have q := lo4_len m_0 a_l0 r1_l1 (((m_0.Places.length : Int) - (a_l0 + 1)).toNat + 1) (a_l0 + 1) r1_l1; unfold lr_spec_l02Edges_4_2; omega) | (have q2 := ixN hp3.1; omega)) | (simp_all <;> omega))]; simp
    | false =>
      have e : lo_spec_l02Edges_2 m_0 i_l0 r0_l1 (k + 1) k_l0 r0_l1_1 = r0_l1_1 := by simp only [lo_spec_l02Edges_2, h__0, cond_false]
      first | (rw [e]; done) | (rw [e]; rfl)

end Go.Ab
