/- The functions of this seat as plain Lean, and that the program's are these. Printed by a program of the prover's own. -/
import Derived.Test.YtiiijolkhbnblaaB0
set_option linter.unusedVariables false
set_option linter.unusedSimpArgs false
set_option maxRecDepth 100000
namespace Go.Ab
open Go.RowKit Go.Proofs.Try

def v_laws_szVectorS (a_0 : (List GVector)) (left_1 : Int) : Int := (cond (decide ((IntKind.wrap .i64 (left_1 - (a_0.length : Int))) < 0))
  (-1)
  (IntKind.wrap .i64 (left_1 - (a_0.length : Int))))

theorem t_laws_szVectorS (a_0 : (List GVector)) (left_1 : Int) (hp0 : a_0.length ≤ 9223372036854775807)  : Fn prog 36 [.sl (a_0.map GVector.cells), .i .i64 left_1] (.i .i64 (v_laws_szVectorS a_0 left_1)) [] := by
 have p {a C} (s : Scr a C) := sZ GVector.cells a_0 <| sW .i64 (left_1 - (a_0.length : Int)) <| s
 cases h0 : (decide ((IntKind.wrap .i64 (left_1 - (a_0.length : Int))) < 0)) with
 | true =>
  have gh0 := of_decide_eq_true h0
  refine fnS E0Ok hMixed (c := bodyOf f36) [] (.i .i64 (-1)) [] func36 (p (sB h0 <| sK [] sN)) rfl (by kernel_rfl) (by kernel_rfl) rfl ?_ ?_
  · simp only [v_laws_szVectorS, h0, cond_true]
  · rfl
 | false =>
  have gh0 := of_decide_eq_false h0
  refine fnS E0Ok hMixed (c := bodyOf f36) [] (.i .i64 (IntKind.wrap .i64 (left_1 - (a_0.length : Int)))) [] func36 (p (sB h0 <| sK [] sN)) rfl (by kernel_rfl) (by kernel_rfl) rfl ?_ ?_
  · simp only [v_laws_szVectorS, h0, cond_false]
  · rfl

theorem ok_laws_szVectorS (a : List GVector) (left : Int) (h0 : a.length ≤ 9223372036854775807) (h1 : -1 ≤ left) (h2 : left ≤ 1048576) : -1 ≤ v_laws_szVectorS a left ∧ v_laws_szVectorS a left ≤ left ∧ (v_laws_szVectorS a left < 0 ∨ (a.length : Int) ≤ left) := by
  unfold v_laws_szVectorS
  rw [wrap_sub (by omega) (by omega)]
  by_cases h : left - (a.length : Int) < 0
  · simp [h]; omega
  · simp [h]; omega

def v_laws_szInt64S (a_0 : (List Int)) (left_1 : Int) : Int := (cond (decide ((IntKind.wrap .i64 (left_1 - (a_0.length : Int))) < 0))
  (-1)
  (IntKind.wrap .i64 (left_1 - (a_0.length : Int))))

theorem t_laws_szInt64S (a_0 : (List Int)) (left_1 : Int) (hp0 : a_0.length ≤ 9223372036854775807)  : Fn prog 151 [.sl (a_0.map (cI .i64)), .i .i64 left_1] (.i .i64 (v_laws_szInt64S a_0 left_1)) [] := by
 have p {a C} (s : Scr a C) := sZ (cI .i64) a_0 <| sW .i64 (left_1 - (a_0.length : Int)) <| s
 cases h0 : (decide ((IntKind.wrap .i64 (left_1 - (a_0.length : Int))) < 0)) with
 | true =>
  have gh0 := of_decide_eq_true h0
  refine fnS E0Ok hMixed (c := bodyOf f151) [] (.i .i64 (-1)) [] func151 (p (sB h0 <| sK [] sN)) rfl (by kernel_rfl) (by kernel_rfl) rfl ?_ ?_
  · simp only [v_laws_szInt64S, h0, cond_true]
  · rfl
 | false =>
  have gh0 := of_decide_eq_false h0
  refine fnS E0Ok hMixed (c := bodyOf f151) [] (.i .i64 (IntKind.wrap .i64 (left_1 - (a_0.length : Int)))) [] func151 (p (sB h0 <| sK [] sN)) rfl (by kernel_rfl) (by kernel_rfl) rfl ?_ ?_
  · simp only [v_laws_szInt64S, h0, cond_false]
  · rfl

theorem ok_laws_szInt64S (a : List Int) (left : Int) (h0 : a.length ≤ 9223372036854775807) (h1 : -1 ≤ left) (h2 : left ≤ 1048576) : -1 ≤ v_laws_szInt64S a left ∧ v_laws_szInt64S a left ≤ left ∧ (v_laws_szInt64S a left < 0 ∨ (a.length : Int) ≤ left) := by
  unfold v_laws_szInt64S
  rw [wrap_sub (by omega) (by omega)]
  by_cases h : left - (a.length : Int) < 0
  · simp [h]; omega
  · simp [h]; omega

def lo_laws_szInt64SS_1 (a_0 : (List (List Int))) (left_1 : Int) : Nat → Int → Int → (Unit) ⊕ (Int)
  | 0, _, _ => .inl default
  | k + 1, left_l0, i_l1 => (cond (decide (i_l1 < (a_0.length : Int)))
    (cond (decide ((v_laws_szInt64S (a_0.getD i_l1.toNat default) left_l0) < 0))
      (.inl ())
      (lo_laws_szInt64SS_1 a_0 left_1 k (v_laws_szInt64S (a_0.getD i_l1.toNat default) left_l0) (i_l1 + 1)))
    (.inr left_l0))

def ls_laws_szInt64SS_1 (a_0 : (List (List Int))) (left_1 : Int) : (Unit) ⊕ (Int) → Ex × St
  | .inl r => (.ret, ⟨[.any, .any, .any, .any, .i .i64 (-1), .any, .any, .any, .any, .any, .any, .any, .any, .any, .any, .any, .any, .any, .any, .any, .any, .any, .any, .any, .any, .any, .any], []⟩)
  | .inr r => ((.exit 0), ⟨[.sl (a_0.map (cL (cI .i64))), .i .i64 r, .any, .any, .any, .any, .i .i64 left_1, .sl (a_0.map (cL (cI .i64))), .i .i64 (a_0.length : Int), .i .i64 (IntKind.wrap .i64 (left_1 - (a_0.length : Int))), .i .i64 (IntKind.wrap .i64 (left_1 - (a_0.length : Int))), .b (decide ((IntKind.wrap .i64 (left_1 - (a_0.length : Int))) < 0)), .any, .any, .any, .any, .any, .any, .any, .any, .any, .any, .any, .any, .any, .any, .any], []⟩)

def hd_laws_szInt64SS_1 (a_0 : (List (List Int))) (left_1 : Int) (left_l0 : Int) (i_l1 : Int) : St := ⟨[.sl (a_0.map (cL (cI .i64))), .i .i64 left_l0, .any, .any, .any, .i .i64 i_l1, .i .i64 left_1, .sl (a_0.map (cL (cI .i64))), .i .i64 (a_0.length : Int), .i .i64 (IntKind.wrap .i64 (left_1 - (a_0.length : Int))), .i .i64 (IntKind.wrap .i64 (left_1 - (a_0.length : Int))), .b (decide ((IntKind.wrap .i64 (left_1 - (a_0.length : Int))) < 0)), .any, .any, .any, .any, .any, .any, .any, .any, .any, .any, .any, .any, .any, .any, .any], []⟩

def mk_laws_szInt64SS_1_0 : List Bool := [true, true, false, false, false, true, true, true, true, true, true, true, false, false, false, false, false, false, false, false, false, false, false, false, false, false, false]

def mk_laws_szInt64SS_1_1 : List Bool := [false, false, false, false, true, false, false, false, false, false, false, false, false, false, false, false, false, false, false, false, false, false, false, false, false, false, false]

def mk_laws_szInt64SS_1_2 : List Bool := [true, true, false, false, false, false, true, true, true, true, true, true, false, false, false, false, false, false, false, false, false, false, false, false, false, false, false]

theorem lp_laws_szInt64SS_1 (a_0 : (List (List Int))) (left_1 : Int) (hp0 : a_0.length ≤ 9223372036854775807) (hp1 : ∀ t ∈ a_0, t.length ≤ 9223372036854775807) (hf_laws_szInt64SS_1_0 : (decide ((IntKind.wrap .i64 (left_1 - (a_0.length : Int))) < 0)) = false) : ∀ (k : Nat) (left_l0 : Int) (i_l1 : Int) (hv_laws_szInt64SS_1_0 : 0 ≤ i_l1) (hk : ((a_0.length : Int) - i_l1).toNat < k), Lp prog 0 (sub (bodyOf f88) [1, 1, 1, 0, 1, 0, 0]) (hd_laws_szInt64SS_1 a_0 left_1 left_l0 i_l1) (ls_laws_szInt64SS_1 a_0 left_1 (lo_laws_szInt64SS_1 a_0 left_1 k left_l0 i_l1)).1 (ls_laws_szInt64SS_1 a_0 left_1 (lo_laws_szInt64SS_1 a_0 left_1 k left_l0 i_l1)).2 := by
 intro k
 induction k with
 | zero => intro left_l0 i_l1 hv_laws_szInt64SS_1_0 hk; exact absurd hk (Nat.not_lt_zero _)
 | succ k ih =>
  intro left_l0 i_l1 hv_laws_szInt64SS_1_0 hk
  have p {a C} (s : Scr a C) := sZ (cL (cI .i64)) a_0 <| s
  cases h_0 : (decide (i_l1 < (a_0.length : Int))) with
  | true =>
   have gh_0 := of_decide_eq_true h_0
   have y_0 : (0 : Int) ≤ i_l1 := by clear p; exact (by first | assumption | omega | (simp_all <;> omega))
   have y_1 : i_l1 < (a_0.length : Int) := by clear p; exact (by first | assumption | omega | (simp_all <;> omega))
   have y_2 : (a_0.getD i_l1.toNat default).length ≤ 9223372036854775807 := by clear p; exact (by first | assumption | omega | (simp_all <;> omega))
   have q {a C} (s : Scr a C) := p (sB h_0 <| sG (cL (cI .i64)) a_0 i_l1 y_0 y_1 <| sF (t_laws_szInt64S (a_0.getD i_l1.toNat default) left_l0 y_2) <| s)
   clear p
   cases h_1 : (decide ((v_laws_szInt64S (a_0.getD i_l1.toNat default) left_l0) < 0)) with
   | true =>
    have gh_1 := of_decide_eq_true h_1
    have e : lo_laws_szInt64SS_1 a_0 left_1 (k + 1) left_l0 i_l1 = (.inl ()) := by simp only [lo_laws_szInt64SS_1, h_0, h_1, cond_true]
    rw [e]
    exact outR (e := .ret) E0Ok hMixed [] mk_laws_szInt64SS_1_1 [] (q (sB h_1 <| sN)) (by kernel_rfl) (by intro h; cases h)
   | false =>
    have gh_1 := of_decide_eq_false h_1
    have y_3 : (-9223372036854775808 : Int) ≤ (i_l1 + 1) := by clear q; exact (by first | assumption | omega | (simp_all <;> omega))
    have y_4 : (i_l1 + 1) ≤ (9223372036854775807 : Int) := by clear q; exact (by first | assumption | omega | (simp_all <;> omega))
    have e : lo_laws_szInt64SS_1 a_0 left_1 (k + 1) left_l0 i_l1 = (lo_laws_szInt64SS_1 a_0 left_1 k (v_laws_szInt64S (a_0.getD i_l1.toNat default) left_l0) (i_l1 + 1)) := by simp only [lo_laws_szInt64SS_1, h_0, h_1, cond_true, cond_false]
    rw [e]
    exact nextR E0Ok hMixed [] mk_laws_szInt64SS_1_0 [] (ih (v_laws_szInt64S (a_0.getD i_l1.toNat default) left_l0) (i_l1 + 1) (show 0 ≤ (i_l1 + 1) from (by first | assumption | omega | (simp_all <;> omega))) (by first | assumption | omega | (simp_all <;> omega))) (q (sB h_1 <| sI (i_l1 + 1) y_3 y_4 <| sN)) (by kernel_rfl)
  | false =>
   have gh_0 := of_decide_eq_false h_0
   have e : lo_laws_szInt64SS_1 a_0 left_1 (k + 1) left_l0 i_l1 = (.inr left_l0) := by simp only [lo_laws_szInt64SS_1, h_0, cond_false]
   rw [e]
   exact outR (e := (.exit 0)) E0Ok hMixed [] mk_laws_szInt64SS_1_2 [] (p (sB h_0 <| sN)) (by kernel_rfl) (by intro h; cases h)

def lr_laws_szInt64SS_1_0 (a_0 : (List (List Int))) (left_1 : Int) : (Unit) ⊕ (Int) := (lo_laws_szInt64SS_1 a_0 left_1 (((a_0.length : Int) - 0).toNat + 1) (IntKind.wrap .i64 (left_1 - (a_0.length : Int))) 0)

def v_laws_szInt64SS (a_0 : (List (List Int))) (left_1 : Int) : Int := (cond (decide ((IntKind.wrap .i64 (left_1 - (a_0.length : Int))) < 0))
  (-1)
  (match (lr_laws_szInt64SS_1_0 a_0 left_1) with
    | .inl r2 => (-1)
    | .inr r2 => r2))

theorem t_laws_szInt64SS (a_0 : (List (List Int))) (left_1 : Int) (hp0 : a_0.length ≤ 9223372036854775807) (hp1 : ∀ t ∈ a_0, t.length ≤ 9223372036854775807)  : Fn prog 88 [.sl (a_0.map (cL (cI .i64))), .i .i64 left_1] (.i .i64 (v_laws_szInt64SS a_0 left_1)) [] := by
 have p {a C} (s : Scr a C) := sZ (cL (cI .i64)) a_0 <| sW .i64 (left_1 - (a_0.length : Int)) <| s
 cases h0 : (decide ((IntKind.wrap .i64 (left_1 - (a_0.length : Int))) < 0)) with
 | true =>
  have gh0 := of_decide_eq_true h0
  refine fnS E0Ok hMixed (c := bodyOf f88) [] (.i .i64 (-1)) [] func88 (p (sB h0 <| sK [] sN)) rfl (by kernel_rfl) (by kernel_rfl) rfl ?_ ?_
  · simp only [v_laws_szInt64SS, h0, cond_true]
  · rfl
 | false =>
  have gh0 := of_decide_eq_false h0
  have q {a C} (s : Scr a C) := p (sB h0 <| s)
  clear p
  cases h1 : (lr_laws_szInt64SS_1_0 a_0 left_1) with
  | inl r2 =>
   refine fnS E0Ok hMixed (c := bodyOf f88) [] (.i .i64 (-1)) [] func88 (q (sL mk_laws_szInt64SS_1_0 0 (lp_val (ls_laws_szInt64SS_1 a_0 left_1) (x := (lr_laws_szInt64SS_1_0 a_0 left_1)) (lp_laws_szInt64SS_1 a_0 left_1 hp0 hp1 h0 (((a_0.length : Int) - 0).toNat + 1) (IntKind.wrap .i64 (left_1 - (a_0.length : Int))) 0 (show 0 ≤ 0 from (by first | assumption | omega | (simp_all <;> omega))) (Nat.lt_succ_self _)) h1) <| sK [] sN)) rfl (by kernel_rfl) (by kernel_rfl) rfl ?_ ?_
   · simp only [v_laws_szInt64SS, h0, h1, cond_false]
   · rfl
  | inr r2 =>
   refine fnS E0Ok hMixed (c := bodyOf f88) [] (.i .i64 r2) [] func88 (q (sL mk_laws_szInt64SS_1_0 0 (lp_val (ls_laws_szInt64SS_1 a_0 left_1) (x := (lr_laws_szInt64SS_1_0 a_0 left_1)) (lp_laws_szInt64SS_1 a_0 left_1 hp0 hp1 h0 (((a_0.length : Int) - 0).toNat + 1) (IntKind.wrap .i64 (left_1 - (a_0.length : Int))) 0 (show 0 ≤ 0 from (by first | assumption | omega | (simp_all <;> omega))) (Nat.lt_succ_self _)) h1) <| sK [] sN)) rfl (by kernel_rfl) (by kernel_rfl) rfl ?_ ?_
   · simp only [v_laws_szInt64SS, h0, h1, cond_false]
   · rfl

theorem lo_szInt64SS (a : List (List Int)) (left : Int) (hb : ∀ t ∈ a, t.length ≤ 9223372036854775807) : ∀ (k : Nat) (l i : Int), 0 ≤ i → ((a.length : Int) - i).toNat < k → -1 ≤ l → l ≤ 1048576 →
    lo_laws_szInt64SS_1 a left k l i = .inl () ∨ ∃ r, lo_laws_szInt64SS_1 a left k l i = .inr r ∧ -1 ≤ r ∧ r ≤ l ∧ ∀ j, i.toNat ≤ j → j < a.length → ((a.getD j default).length : Int) ≤ l := by
  intro k
  induction k with
  | zero => intro l i h0 hk; exact absurd hk (Nat.not_lt_zero _)
  | succ k ih =>
    intro l i h0 hk h1 h2
    rw [lo_laws_szInt64SS_1]
    by_cases hi : i < (a.length : Int)
    · have hn : i.toNat < a.length := by omega
      rw [decide_eq_true hi, cond_true]
      have hm : (a.getD i.toNat default) ∈ a := by rw [List.getD_eq_getElem?_getD, List.getElem?_eq_getElem hn]; exact List.getElem_mem hn
      obtain ⟨q1, q2, q3⟩ := ok_laws_szInt64S (a.getD i.toNat default) l (hb _ hm) h1 h2
      cases hc : decide (v_laws_szInt64S (a.getD i.toNat default) l < 0) with
      | true => left; rfl
      | false =>
        simp only [decide_eq_false_iff_not] at hc
        rw [cond_false]
        rcases ih (v_laws_szInt64S (a.getD i.toNat default) l) (i + 1) (by omega) (by omega) q1 (by omega) with e | ⟨r, e, r1, r2, r3⟩
        · left; exact e
        · right
          refine ⟨r, e, r1, by omega, fun j hj hjl => ?_⟩
          by_cases hji : j = i.toNat
          · subst hji; omega
          · have := r3 j (by omega) hjl; omega
    · rw [decide_eq_false hi, cond_false]
      exact .inr ⟨l, rfl, h1, Int.le_refl _, fun j hj hjl => by omega⟩
theorem ok_laws_szInt64SS (a : List (List Int)) (left : Int) (h0 : a.length ≤ 9223372036854775807) (hb : ∀ t ∈ a, t.length ≤ 9223372036854775807) (h1 : -1 ≤ left) (h2 : left ≤ 1048576) :
    -1 ≤ v_laws_szInt64SS a left ∧ v_laws_szInt64SS a left ≤ left ∧ (v_laws_szInt64SS a left < 0 ∨ ((a.length : Int) ≤ left ∧ ∀ t ∈ a, (t.length : Int) ≤ left)) := by
  unfold v_laws_szInt64SS lr_laws_szInt64SS_1_0
  rw [wrap_sub (by omega) (by omega)]
  cases h : decide (left - (a.length : Int) < 0) with
  | true => simp only [decide_eq_true_eq] at h; rw [cond_true]; omega
  | false =>
    simp only [decide_eq_false_iff_not] at h
    rw [cond_false]
    rcases lo_szInt64SS a left hb _ (left - (a.length : Int)) 0 (Int.le_refl _) (Nat.lt_succ_self _) (by omega) (by omega) with e | ⟨r, e, r1, r2, r3⟩
    · rw [e]; simp only; omega
    · rw [e]; simp only
      refine ⟨r1, by omega, .inr ⟨by omega, fun t ht => ?_⟩⟩
      obtain ⟨j, hj, rfl⟩ := List.getElem_of_mem ht
      have := r3 j (by simp) hj
      rw [List.getD_eq_getElem?_getD, List.getElem?_eq_getElem hj, Option.getD_some] at this
      omega

def v_laws_szMesh (a_0 : GMesh) (left_1 : Int) : Int := (cond (decide ((v_laws_szVectorS a_0.Places left_1) < 0))
  (-1)
  (cond (decide ((v_laws_szInt64SS a_0.Triangles (v_laws_szVectorS a_0.Places left_1)) < 0))
    (-1)
    (v_laws_szInt64SS a_0.Triangles (v_laws_szVectorS a_0.Places left_1))))

theorem t_laws_szMesh (a_0 : GMesh) (left_1 : Int) (hp0 : a_0.Places.length ≤ 9223372036854775807) (hp1 : a_0.Triangles.length ≤ 9223372036854775807) (hp2 : ∀ t ∈ a_0.Triangles, t.length ≤ 9223372036854775807)  : Fn prog 23 [.agg [.sl (a_0.Places.map GVector.cells), .sl (a_0.Triangles.map (cL (cI .i64)))], .i .i64 left_1] (.i .i64 (v_laws_szMesh a_0 left_1)) [] := by
 have p {a C} (s : Scr a C) := sF (t_laws_szVectorS a_0.Places left_1 hp0) <| s
 cases h0 : (decide ((v_laws_szVectorS a_0.Places left_1) < 0)) with
 | true =>
  have gh0 := of_decide_eq_true h0
  refine fnS E0Ok hMixed (c := bodyOf f23) [] (.i .i64 (-1)) [] func23 (p (sB h0 <| sK [] sN)) rfl (by kernel_rfl) (by kernel_rfl) rfl ?_ ?_
  · simp only [v_laws_szMesh, h0, cond_true]
  · rfl
 | false =>
  have gh0 := of_decide_eq_false h0
  have q {a C} (s : Scr a C) := p (sB h0 <| sF (t_laws_szInt64SS a_0.Triangles (v_laws_szVectorS a_0.Places left_1) hp1 hp2) <| s)
  clear p
  cases h1 : (decide ((v_laws_szInt64SS a_0.Triangles (v_laws_szVectorS a_0.Places left_1)) < 0)) with
  | true =>
   have gh1 := of_decide_eq_true h1
   refine fnS E0Ok hMixed (c := bodyOf f23) [] (.i .i64 (-1)) [] func23 (q (sB h1 <| sK [] sN)) rfl (by kernel_rfl) (by kernel_rfl) rfl ?_ ?_
   · simp only [v_laws_szMesh, h0, h1, cond_true, cond_false]
   · rfl
  | false =>
   have gh1 := of_decide_eq_false h1
   refine fnS E0Ok hMixed (c := bodyOf f23) [] (.i .i64 (v_laws_szInt64SS a_0.Triangles (v_laws_szVectorS a_0.Places left_1))) [] func23 (q (sB h1 <| sK [] sN)) rfl (by kernel_rfl) (by kernel_rfl) rfl ?_ ?_
   · simp only [v_laws_szMesh, h0, h1, cond_false]
   · rfl

theorem ok_laws_szMesh (a : GMesh) (left : Int) (h0 : a.Places.length ≤ 9223372036854775807) (h3 : a.Triangles.length ≤ 9223372036854775807) (hb : ∀ t ∈ a.Triangles, t.length ≤ 9223372036854775807) (h1 : -1 ≤ left) (h2 : left ≤ 1048576) :
    -1 ≤ v_laws_szMesh a left ∧ v_laws_szMesh a left ≤ left ∧ (v_laws_szMesh a left < 0 ∨ (a.Places.length : Int) ≤ left) ∧ (v_laws_szMesh a left < 0 ∨ (a.Triangles.length : Int) ≤ left) ∧ ∀ t ∈ a.Triangles, v_laws_szMesh a left < 0 ∨ (t.length : Int) ≤ left := by
  have key : -1 ≤ v_laws_szMesh a left ∧ v_laws_szMesh a left ≤ left ∧ (v_laws_szMesh a left < 0 ∨ ((a.Places.length : Int) ≤ left ∧ (a.Triangles.length : Int) ≤ left ∧ ∀ t ∈ a.Triangles, (t.length : Int) ≤ left)) := by
    unfold v_laws_szMesh
    obtain ⟨p1, p2, p3⟩ := ok_laws_szVectorS a.Places left h0 h1 h2
    cases h : decide (v_laws_szVectorS a.Places left < 0) with
    | true => simp only [decide_eq_true_eq] at h; rw [cond_true]; refine ⟨by omega, by omega, .inl (by omega)⟩
    | false =>
      simp only [decide_eq_false_iff_not] at h
      rw [cond_false]
      obtain ⟨q1, q2, q3⟩ := ok_laws_szInt64SS a.Triangles (v_laws_szVectorS a.Places left) h3 hb p1 (by omega)
      cases h' : decide (v_laws_szInt64SS a.Triangles (v_laws_szVectorS a.Places left) < 0) with
      | true => rw [cond_true]; exact ⟨by omega, by omega, .inl (by omega)⟩
      | false =>
        simp only [decide_eq_false_iff_not] at h'
        rw [cond_false]
        rcases q3 with q | ⟨qa, qb⟩
        · omega
        · exact ⟨q1, by omega, .inr ⟨by omega, by omega, fun t ht => by have := qb t ht; omega⟩⟩
  obtain ⟨k1, k2, k3⟩ := key
  rcases k3 with k3 | ⟨ka, kb, kc⟩
  · exact ⟨k1, k2, .inl k3, .inl k3, fun t ht => .inl k3⟩
  · exact ⟨k1, k2, .inr ka, .inr kb, fun t ht => .inr (kc t ht)⟩

def v_laws_szSpringS (a_0 : (List GSpring)) (left_1 : Int) : Int := (cond (decide ((IntKind.wrap .i64 (left_1 - (a_0.length : Int))) < 0))
  (-1)
  (IntKind.wrap .i64 (left_1 - (a_0.length : Int))))

theorem t_laws_szSpringS (a_0 : (List GSpring)) (left_1 : Int) (hp0 : a_0.length ≤ 9223372036854775807)  : Fn prog 73 [.sl (a_0.map GSpring.cells), .i .i64 left_1] (.i .i64 (v_laws_szSpringS a_0 left_1)) [] := by
 have p {a C} (s : Scr a C) := sZ GSpring.cells a_0 <| sW .i64 (left_1 - (a_0.length : Int)) <| s
 cases h0 : (decide ((IntKind.wrap .i64 (left_1 - (a_0.length : Int))) < 0)) with
 | true =>
  have gh0 := of_decide_eq_true h0
  refine fnS E0Ok hMixed (c := bodyOf f73) [] (.i .i64 (-1)) [] func73 (p (sB h0 <| sK [] sN)) rfl (by kernel_rfl) (by kernel_rfl) rfl ?_ ?_
  · simp only [v_laws_szSpringS, h0, cond_true]
  · rfl
 | false =>
  have gh0 := of_decide_eq_false h0
  refine fnS E0Ok hMixed (c := bodyOf f73) [] (.i .i64 (IntKind.wrap .i64 (left_1 - (a_0.length : Int)))) [] func73 (p (sB h0 <| sK [] sN)) rfl (by kernel_rfl) (by kernel_rfl) rfl ?_ ?_
  · simp only [v_laws_szSpringS, h0, cond_false]
  · rfl

theorem ok_laws_szSpringS (a : List GSpring) (left : Int) (h0 : a.length ≤ 9223372036854775807) (h1 : -1 ≤ left) (h2 : left ≤ 1048576) : -1 ≤ v_laws_szSpringS a left ∧ v_laws_szSpringS a left ≤ left ∧ (v_laws_szSpringS a left < 0 ∨ (a.length : Int) ≤ left) := by
  unfold v_laws_szSpringS
  rw [wrap_sub (by omega) (by omega)]
  by_cases h : left - (a.length : Int) < 0
  · simp [h]; omega
  · simp [h]; omega

def v_laws_szFloat32S (a_0 : (List Nat)) (left_1 : Int) : Int := (cond (decide ((IntKind.wrap .i64 (left_1 - (a_0.length : Int))) < 0))
  (-1)
  (IntKind.wrap .i64 (left_1 - (a_0.length : Int))))

theorem t_laws_szFloat32S (a_0 : (List Nat)) (left_1 : Int) (hp0 : a_0.length ≤ 9223372036854775807)  : Fn prog 74 [.sl (a_0.map (cF .f32)), .i .i64 left_1] (.i .i64 (v_laws_szFloat32S a_0 left_1)) [] := by
 have p {a C} (s : Scr a C) := sZ (cF .f32) a_0 <| sW .i64 (left_1 - (a_0.length : Int)) <| s
 cases h0 : (decide ((IntKind.wrap .i64 (left_1 - (a_0.length : Int))) < 0)) with
 | true =>
  have gh0 := of_decide_eq_true h0
  refine fnS E0Ok hMixed (c := bodyOf f74) [] (.i .i64 (-1)) [] func74 (p (sB h0 <| sK [] sN)) rfl (by kernel_rfl) (by kernel_rfl) rfl ?_ ?_
  · simp only [v_laws_szFloat32S, h0, cond_true]
  · rfl
 | false =>
  have gh0 := of_decide_eq_false h0
  refine fnS E0Ok hMixed (c := bodyOf f74) [] (.i .i64 (IntKind.wrap .i64 (left_1 - (a_0.length : Int)))) [] func74 (p (sB h0 <| sK [] sN)) rfl (by kernel_rfl) (by kernel_rfl) rfl ?_ ?_
  · simp only [v_laws_szFloat32S, h0, cond_false]
  · rfl

theorem ok_laws_szFloat32S (a : List Nat) (left : Int) (h0 : a.length ≤ 9223372036854775807) (h1 : -1 ≤ left) (h2 : left ≤ 1048576) : -1 ≤ v_laws_szFloat32S a left ∧ v_laws_szFloat32S a left ≤ left ∧ (v_laws_szFloat32S a left < 0 ∨ (a.length : Int) ≤ left) := by
  unfold v_laws_szFloat32S
  rw [wrap_sub (by omega) (by omega)]
  by_cases h : left - (a.length : Int) < 0
  · simp [h]; omega
  · simp [h]; omega

def v_laws_szBody (a_0 : GBody) (left_1 : Int) : Int := (cond (decide ((v_laws_szMesh a_0.Mesh left_1) < 0))
  (-1)
  (cond (decide ((v_laws_szSpringS a_0.Springs (v_laws_szMesh a_0.Mesh left_1)) < 0))
    (-1)
    (cond (decide ((v_laws_szFloat32S a_0.Weights (v_laws_szSpringS a_0.Springs (v_laws_szMesh a_0.Mesh left_1))) < 0))
      (-1)
      (v_laws_szFloat32S a_0.Weights (v_laws_szSpringS a_0.Springs (v_laws_szMesh a_0.Mesh left_1))))))

theorem t_laws_szBody (a_0 : GBody) (left_1 : Int) (hp0 : a_0.Mesh.Places.length ≤ 9223372036854775807) (hp1 : a_0.Mesh.Triangles.length ≤ 9223372036854775807) (hp2 : ∀ t ∈ a_0.Mesh.Triangles, t.length ≤ 9223372036854775807) (hp3 : a_0.Springs.length ≤ 9223372036854775807) (hp4 : a_0.Weights.length ≤ 9223372036854775807)  : Fn prog 18 [.agg [.sl (a_0.Mesh.Places.map GVector.cells), .sl (a_0.Mesh.Triangles.map (cL (cI .i64))), .sl (a_0.Springs.map GSpring.cells), .f .f32 a_0.Film, .f .f32 a_0.Bend, .sl (a_0.Weights.map (cF .f32)), .f .f32 a_0.Fall.X, .f .f32 a_0.Fall.Y, .f .f32 a_0.Fall.Z], .i .i64 left_1] (.i .i64 (v_laws_szBody a_0 left_1)) [] := by
 have p {a C} (s : Scr a C) := sF (t_laws_szMesh a_0.Mesh left_1 hp0 hp1 hp2) <| s
 cases h0 : (decide ((v_laws_szMesh a_0.Mesh left_1) < 0)) with
 | true =>
  have gh0 := of_decide_eq_true h0
  refine fnS E0Ok hMixed (c := bodyOf f18) [] (.i .i64 (-1)) [] func18 (p (sB h0 <| sK [] sN)) rfl (by kernel_rfl) (by kernel_rfl) rfl ?_ ?_
  · simp only [v_laws_szBody, h0, cond_true]
  · rfl
 | false =>
  have gh0 := of_decide_eq_false h0
  have q {a C} (s : Scr a C) := p (sB h0 <| sF (t_laws_szSpringS a_0.Springs (v_laws_szMesh a_0.Mesh left_1) hp3) <| s)
  clear p
  cases h1 : (decide ((v_laws_szSpringS a_0.Springs (v_laws_szMesh a_0.Mesh left_1)) < 0)) with
  | true =>
   have gh1 := of_decide_eq_true h1
   refine fnS E0Ok hMixed (c := bodyOf f18) [] (.i .i64 (-1)) [] func18 (q (sB h1 <| sK [] sN)) rfl (by kernel_rfl) (by kernel_rfl) rfl ?_ ?_
   · simp only [v_laws_szBody, h0, h1, cond_true, cond_false]
   · rfl
  | false =>
   have gh1 := of_decide_eq_false h1
   have p {a C} (s : Scr a C) := q (sB h1 <| sF (t_laws_szFloat32S a_0.Weights (v_laws_szSpringS a_0.Springs (v_laws_szMesh a_0.Mesh left_1)) hp4) <| s)
   clear q
   cases h2 : (decide ((v_laws_szFloat32S a_0.Weights (v_laws_szSpringS a_0.Springs (v_laws_szMesh a_0.Mesh left_1))) < 0)) with
   | true =>
    have gh2 := of_decide_eq_true h2
    refine fnS E0Ok hMixed (c := bodyOf f18) [] (.i .i64 (-1)) [] func18 (p (sB h2 <| sK [] sN)) rfl (by kernel_rfl) (by kernel_rfl) rfl ?_ ?_
    · simp only [v_laws_szBody, h0, h1, h2, cond_true, cond_false]
    · rfl
   | false =>
    have gh2 := of_decide_eq_false h2
    refine fnS E0Ok hMixed (c := bodyOf f18) [] (.i .i64 (v_laws_szFloat32S a_0.Weights (v_laws_szSpringS a_0.Springs (v_laws_szMesh a_0.Mesh left_1)))) [] func18 (p (sB h2 <| sK [] sN)) rfl (by kernel_rfl) (by kernel_rfl) rfl ?_ ?_
    · simp only [v_laws_szBody, h0, h1, h2, cond_false]
    · rfl

theorem ok_laws_szBody (a : GBody) (left : Int) (g0 : a.Mesh.Places.length ≤ 9223372036854775807) (g1 : a.Mesh.Triangles.length ≤ 9223372036854775807) (g2 : ∀ t ∈ a.Mesh.Triangles, t.length ≤ 9223372036854775807) (g3 : a.Springs.length ≤ 9223372036854775807) (g4 : a.Weights.length ≤ 9223372036854775807) (h1 : -1 ≤ left) (h2 : left ≤ 1048576) : -1 ≤ v_laws_szBody a left ∧ v_laws_szBody a left ≤ left ∧ (v_laws_szBody a left < 0 ∨ (a.Mesh.Places.length : Int) ≤ left) ∧ (v_laws_szBody a left < 0 ∨ (a.Mesh.Triangles.length : Int) ≤ left) ∧ (v_laws_szBody a left < 0 ∨ (a.Springs.length : Int) ≤ left) ∧ (v_laws_szBody a left < 0 ∨ (a.Weights.length : Int) ≤ left) ∧ ∀ t ∈ a.Mesh.Triangles, v_laws_szBody a left < 0 ∨ (t.length : Int) ≤ left := by
  unfold v_laws_szBody
  have p0 := ok_laws_szMesh a.Mesh left g0 g1 g2 (by omega) (by omega)
  cases hc0 : decide (v_laws_szMesh a.Mesh left < 0) with
  | true =>
    simp only [decide_eq_true_eq] at hc0; rw [cond_true]; refine ⟨by omega, by omega, .inl (by omega), .inl (by omega), .inl (by omega), .inl (by omega), fun t ht => .inl (by omega)⟩
  | false =>
    simp only [decide_eq_false_iff_not] at hc0; rw [cond_false]
    have p1 := ok_laws_szSpringS a.Springs (v_laws_szMesh a.Mesh left) g3 (by omega) (by omega)
    cases hc1 : decide (v_laws_szSpringS a.Springs (v_laws_szMesh a.Mesh left) < 0) with
    | true =>
      simp only [decide_eq_true_eq] at hc1; rw [cond_true]; refine ⟨by omega, by omega, .inl (by omega), .inl (by omega), .inl (by omega), .inl (by omega), fun t ht => .inl (by omega)⟩
    | false =>
      simp only [decide_eq_false_iff_not] at hc1; rw [cond_false]
      have p2 := ok_laws_szFloat32S a.Weights (v_laws_szSpringS a.Springs (v_laws_szMesh a.Mesh left)) g4 (by omega) (by omega)
      cases hc2 : decide (v_laws_szFloat32S a.Weights (v_laws_szSpringS a.Springs (v_laws_szMesh a.Mesh left)) < 0) with
      | true =>
        simp only [decide_eq_true_eq] at hc2; rw [cond_true]; refine ⟨by omega, by omega, .inl (by omega), .inl (by omega), .inl (by omega), .inl (by omega), fun t ht => .inl (by omega)⟩
      | false =>
        simp only [decide_eq_false_iff_not] at hc2; rw [cond_false]
        refine ⟨by omega, by omega, .inr (by omega), .inr (by omega), .inr (by omega), .inr (by omega), fun t ht => .inr (by have q := p0.2.2.2.2 t ht; omega)⟩

def v_laws_toVector (a_0 : GVector) : GVector := a_0

theorem t_laws_toVector (a_0 : GVector)   : Fn prog 78 [.agg [.f .f32 a_0.X, .f .f32 a_0.Y, .f .f32 a_0.Z]] (.agg [.f .f32 ((v_laws_toVector a_0).X), .f .f32 ((v_laws_toVector a_0).Y), .f .f32 ((v_laws_toVector a_0).Z)]) [] := by
 refine fnS E0Ok hMixed (c := bodyOf f78) [] (.agg [.f .f32 a_0.X, .f .f32 a_0.Y, .f .f32 a_0.Z]) [] func78 (sK [] sN) rfl (by kernel_rfl) (by kernel_rfl) rfl ?_ ?_
 · rfl
 · rfl

@[simp] theorem eq_laws_toVector (a : GVector) : v_laws_toVector a = a := rfl

theorem i_laws_toVector (a_0 : GVector)  : Fn prog 78 [.agg [.f .f32 a_0.X, .f .f32 a_0.Y, .f .f32 a_0.Z]] (.agg [.f .f32 a_0.X, .f .f32 a_0.Y, .f .f32 a_0.Z]) [] := by
 simpa only [eq_laws_toVector] using t_laws_toVector  a_0 

def lo_laws_toVectorS_1 (a_0 : (List GVector)) : Nat → Int → (List GVector) → (List GVector)
  | 0, _, _ => default
  | k + 1, i_l0, r0_l1 => (cond (decide (i_l0 < (a_0.length : Int)))
    (lo_laws_toVectorS_1 a_0 k (i_l0 + 1) (r0_l1.set i_l0.toNat (a_0.getD i_l0.toNat default)))
    r0_l1)

def ls_laws_toVectorS_1 (a_0 : (List GVector)) (r : (List GVector)) : Ex × St := ((.exit 0), ⟨[.sl (a_0.map GVector.cells), .any, .nils, .own 0, .any, .sl (a_0.map GVector.cells), .i .i64 (a_0.length : Int), .own 0, .any, .any, .any, .any, .any, .any, .any, .any, .any, .any, .any, .any, .any, .any, .any], [.vec 44 3 (r.map GVector.cells) false]⟩)

def hd_laws_toVectorS_1 (a_0 : (List GVector)) (i_l0 : Int) (r0_l1 : (List GVector)) : St := ⟨[.sl (a_0.map GVector.cells), .any, .nils, .own 0, .i .i64 i_l0, .sl (a_0.map GVector.cells), .i .i64 (a_0.length : Int), .own 0, .any, .any, .any, .any, .any, .any, .any, .any, .any, .any, .any, .any, .any, .any, .any], [.vec 44 3 (r0_l1.map GVector.cells) false]⟩

def mk_laws_toVectorS_1_0 : List Bool := [true, false, true, true, true, true, true, true, false, false, false, false, false, false, false, false, false, false, false, false, false, false, false]

def mk_laws_toVectorS_1_1 : List Bool := [true, false, true, true, false, true, true, true, false, false, false, false, false, false, false, false, false, false, false, false, false, false, false]

theorem lp_laws_toVectorS_1 (a_0 : (List GVector)) (hp0 : a_0.length ≤ 1073741824) : ∀ (k : Nat) (i_l0 : Int) (r0_l1 : (List GVector)) (hv_laws_toVectorS_1_0 : 0 ≤ i_l0) (hv_laws_toVectorS_1_1 : r0_l1.length = a_0.length) (hk : ((a_0.length : Int) - i_l0).toNat < k), Lp prog 0 (sub (bodyOf f38) [1, 1, 0, 1, 0, 0]) (hd_laws_toVectorS_1 a_0 i_l0 r0_l1) (ls_laws_toVectorS_1 a_0 (lo_laws_toVectorS_1 a_0 k i_l0 r0_l1)).1 (ls_laws_toVectorS_1 a_0 (lo_laws_toVectorS_1 a_0 k i_l0 r0_l1)).2 := by
 intro k
 induction k with
 | zero => intro i_l0 r0_l1 hv_laws_toVectorS_1_0 hv_laws_toVectorS_1_1 hk; exact absurd hk (Nat.not_lt_zero _)
 | succ k ih =>
  intro i_l0 r0_l1 hv_laws_toVectorS_1_0 hv_laws_toVectorS_1_1 hk
  have p {a C} (s : Scr a C) := sZ GVector.cells a_0 <| s
  cases h_0 : (decide (i_l0 < (a_0.length : Int))) with
  | true =>
   have gh_0 := of_decide_eq_true h_0
   have y_0 : (0 : Int) ≤ i_l0 := by clear p; exact (by first | assumption | omega | (simp_all <;> omega))
   have y_1 : i_l0 < (a_0.length : Int) := by clear p; exact (by first | assumption | omega | (simp_all <;> omega))
   have y_2 : i_l0 < (r0_l1.length : Int) := by clear p; exact (by first | assumption | omega | (simp_all <;> omega))
   have y_3 : i_l0.toNat < r0_l1.length := by clear p; exact (by first | assumption | omega | (simp_all <;> omega))
   have y_4 : (-9223372036854775808 : Int) ≤ (i_l0 + 1) := by clear p; exact (by first | assumption | omega | (simp_all <;> omega))
   have y_5 : (i_l0 + 1) ≤ (9223372036854775807 : Int) := by clear p; exact (by first | assumption | omega | (simp_all <;> omega))
   have e : lo_laws_toVectorS_1 a_0 (k + 1) i_l0 r0_l1 = (lo_laws_toVectorS_1 a_0 k (i_l0 + 1) (r0_l1.set i_l0.toNat (a_0.getD i_l0.toNat default))) := by simp only [lo_laws_toVectorS_1, h_0, cond_true]
   rw [e]
   exact nextS E0Ok hMixed [] mk_laws_toVectorS_1_0 [0] (⟨[.sl (a_0.map GVector.cells), .any, .nils, .own 0, .i .i64 (i_l0 + 1), .sl (a_0.map GVector.cells), .i .i64 (a_0.length : Int), .own 0, .any, .any, .any, .any, .any, .any, .any, .any, .any, .any, .any, .any, .any, .any, .any], [.vec 44 3 ((r0_l1.map GVector.cells).set i_l0.toNat [.f .f32 ((a_0.getD i_l0.toNat default).X), .f .f32 ((a_0.getD i_l0.toNat default).Y), .f .f32 ((a_0.getD i_l0.toNat default).Z)]) false]⟩) (p (sB h_0 <| sG GVector.cells a_0 i_l0 y_0 y_1 <| sF (i_laws_toVector (a_0.getD i_l0.toNat default)) <| sX GVector.cells r0_l1 i_l0 y_0 y_2 <| sC (maplt (c := GVector.cells) (l := r0_l1) y_3) <| sI (i_l0 + 1) y_4 y_5 <| sN)) (by kernel_rfl) (show _ = ⟨[.sl (a_0.map GVector.cells), .any, .nils, .own 0, .i .i64 (i_l0 + 1), .sl (a_0.map GVector.cells), .i .i64 (a_0.length : Int), .own 0, .any, .any, .any, .any, .any, .any, .any, .any, .any, .any, .any, .any, .any, .any, .any], [.vec 44 3 ((r0_l1.set i_l0.toNat (a_0.getD i_l0.toNat default)).map GVector.cells) false]⟩ from (by simp [List.map_set, GVector.cells])) (ih (i_l0 + 1) (r0_l1.set i_l0.toNat (a_0.getD i_l0.toNat default)) (show 0 ≤ (i_l0 + 1) from (by first | assumption | omega | (simp_all <;> omega))) (show (r0_l1.set i_l0.toNat (a_0.getD i_l0.toNat default)).length = a_0.length from (by first | assumption | omega | (simp_all <;> omega))) (by first | assumption | omega | (simp_all <;> omega)))
  | false =>
   have gh_0 := of_decide_eq_false h_0
   have e : lo_laws_toVectorS_1 a_0 (k + 1) i_l0 r0_l1 = r0_l1 := by simp only [lo_laws_toVectorS_1, h_0, cond_false]
   rw [e]
   exact outR (e := (.exit 0)) E0Ok hMixed [] mk_laws_toVectorS_1_1 [0] (p (sB h_0 <| sN)) (by kernel_rfl) (by intro h; cases h)

theorem ln_laws_toVectorS_1_0 (a_0 : (List GVector)) : ∀ (k : Nat) (i_l0 : Int) (r0_l1 : (List GVector)) (hk : ((a_0.length : Int) - i_l0).toNat < k), (lo_laws_toVectorS_1 a_0 k i_l0 r0_l1).length = r0_l1.length := by
  intro k
  induction k with
  | zero => intro i_l0 r0_l1 hk; exact absurd hk (Nat.not_lt_zero _)
  | succ k ih =>
    intro i_l0 r0_l1 hk
    cases h_0 : (decide (i_l0 < (a_0.length : Int))) with
    | true =>
      have e : lo_laws_toVectorS_1 a_0 (k + 1) i_l0 r0_l1 = (lo_laws_toVectorS_1 a_0 k (i_l0 + 1) (r0_l1.set i_l0.toNat (a_0.getD i_l0.toNat default))) := by simp only [lo_laws_toVectorS_1, h_0, cond_true]
      rw [e, ih (i_l0 + 1) (r0_l1.set i_l0.toNat (a_0.getD i_l0.toNat default)) (by first | assumption | omega | (simp_all <;> omega))]; simp
    | false =>
      have e : lo_laws_toVectorS_1 a_0 (k + 1) i_l0 r0_l1 = r0_l1 := by simp only [lo_laws_toVectorS_1, h_0, cond_false]
      first | (rw [e]; done) | (rw [e]; rfl)

def lr_laws_toVectorS_1_0 (a_0 : (List GVector)) : (List GVector) := (lo_laws_toVectorS_1 a_0 (((a_0.length : Int) - 0).toNat + 1) 0 (List.replicate (a_0.length : Int).toNat (⟨0, 0, 0⟩ : GVector)))

@[simp] theorem len_lr_laws_toVectorS_1_0_0 (a_0 : (List GVector)) : (lr_laws_toVectorS_1_0 a_0).length = ((List.replicate (a_0.length : Int).toNat (⟨0, 0, 0⟩ : GVector)) : (List GVector)).length := ln_laws_toVectorS_1_0 a_0 (((a_0.length : Int) - 0).toNat + 1) 0 (List.replicate (a_0.length : Int).toNat (⟨0, 0, 0⟩ : GVector)) (by first | exact Nat.lt_succ_self _ | simp)

def v_laws_toVectorS (a_0 : (List GVector)) : (List GVector) := (lr_laws_toVectorS_1_0 a_0)

@[simp] theorem len_v_laws_toVectorS_0 (a_0 : (List GVector)) : (v_laws_toVectorS a_0).length = a_0.length := by
  first | (simp [v_laws_toVectorS]; done)

theorem t_laws_toVectorS (a_0 : (List GVector)) (hp0 : a_0.length ≤ 1073741824)  : Fn prog 38 [.sl (a_0.map GVector.cells)] (.own 0) [.vec 44 3 ((v_laws_toVectorS a_0).map GVector.cells) false] := by
 have y0 : (0 : Int) ≤ (a_0.length : Int) := (by first | assumption | omega | (simp_all <;> omega))
 have y1 : ((a_0.length : Int) : Int) ≤ 2147483648 := (by first | assumption | omega | (simp_all <;> omega))
 refine fnS E0Ok hMixed (c := bodyOf f38) [] (.own 0) [.vec 44 3 ((lr_laws_toVectorS_1_0 a_0).map GVector.cells) false] func38 (sZ GVector.cells a_0 <| sC (show (a_0.length : Int) = (a_0.length : Int) from rfl) <| sC y0 <| sC y1 <| sL mk_laws_toVectorS_1_0 1 (lp_cast (st2 := ⟨[.sl (a_0.map GVector.cells), .any, .nils, .own 0, .i .i64 0, .sl (a_0.map GVector.cells), .i .i64 (a_0.length : Int), .own 0, .any, .any, .any, .any, .any, .any, .any, .any, .any, .any, .any, .any, .any, .any, .any], [.vec 44 3 (List.replicate (Int.toNat (a_0.length : Int)) [.f .f32 0, .f .f32 0, .f .f32 0]) false]⟩) (lp_val (ls_laws_toVectorS_1 a_0) (x := (lr_laws_toVectorS_1_0 a_0)) (lp_laws_toVectorS_1 a_0 hp0 (((a_0.length : Int) - 0).toNat + 1) 0 (List.replicate (a_0.length : Int).toNat (⟨0, 0, 0⟩ : GVector)) (show 0 ≤ 0 from (by first | assumption | omega | (simp_all <;> omega))) (show (List.replicate (a_0.length : Int).toNat (⟨0, 0, 0⟩ : GVector)).length = a_0.length from (by simp)) (Nat.lt_succ_self _)) rfl) (by simp [hd_laws_toVectorS_1, GVector.cells])) <| sK [0] sN) rfl (by kernel_rfl) (by kernel_rfl) rfl ?_ ?_
 · rfl
 · simp [v_laws_toVectorS]

@[simp] theorem eq_laws_toVectorS (a : List GVector) : v_laws_toVectorS a = a := by
  unfold v_laws_toVectorS lr_laws_toVectorS_1_0
  rw [copy_all (f := id) (a := a) (lo := lo_laws_toVectorS_1 a) (fun k i r => rfl)]
  exact List.map_id a

theorem i_laws_toVectorS (a_0 : (List GVector)) (hp0 : a_0.length ≤ 1073741824) : Fn prog 38 [.sl (a_0.map GVector.cells)] (.own 0) [.vec 44 3 (a_0.map GVector.cells) false] := by
 simpa only [eq_laws_toVectorS] using t_laws_toVectorS  a_0 hp0

def lo_laws_toInt64S_1 (a_0 : (List Int)) : Nat → Int → (List Int) → (List Int)
  | 0, _, _ => default
  | k + 1, i_l0, r0_l1 => (cond (decide (i_l0 < (a_0.length : Int)))
    (lo_laws_toInt64S_1 a_0 k (i_l0 + 1) (r0_l1.set i_l0.toNat (a_0.getD i_l0.toNat default)))
    r0_l1)

def ls_laws_toInt64S_1 (a_0 : (List Int)) (r : (List Int)) : Ex × St := ((.exit 0), ⟨[.sl (a_0.map (cI .i64)), .any, .nils, .own 0, .any, .sl (a_0.map (cI .i64)), .i .i64 (a_0.length : Int), .own 0, .any, .any, .any, .any, .any, .any, .any, .any, .any, .any, .any, .any, .any, .any], [.vec 2 1 (r.map (cI .i64)) false]⟩)

def hd_laws_toInt64S_1 (a_0 : (List Int)) (i_l0 : Int) (r0_l1 : (List Int)) : St := ⟨[.sl (a_0.map (cI .i64)), .any, .nils, .own 0, .i .i64 i_l0, .sl (a_0.map (cI .i64)), .i .i64 (a_0.length : Int), .own 0, .any, .any, .any, .any, .any, .any, .any, .any, .any, .any, .any, .any, .any, .any], [.vec 2 1 (r0_l1.map (cI .i64)) false]⟩

def mk_laws_toInt64S_1_0 : List Bool := [true, false, true, true, true, true, true, true, false, false, false, false, false, false, false, false, false, false, false, false, false, false]

def mk_laws_toInt64S_1_1 : List Bool := [true, false, true, true, false, true, true, true, false, false, false, false, false, false, false, false, false, false, false, false, false, false]

theorem lp_laws_toInt64S_1 (a_0 : (List Int)) (hp0 : a_0.length ≤ 1073741824) : ∀ (k : Nat) (i_l0 : Int) (r0_l1 : (List Int)) (hv_laws_toInt64S_1_0 : 0 ≤ i_l0) (hv_laws_toInt64S_1_1 : r0_l1.length = a_0.length) (hk : ((a_0.length : Int) - i_l0).toNat < k), Lp prog 0 (sub (bodyOf f154) [1, 1, 0, 1, 0, 0]) (hd_laws_toInt64S_1 a_0 i_l0 r0_l1) (ls_laws_toInt64S_1 a_0 (lo_laws_toInt64S_1 a_0 k i_l0 r0_l1)).1 (ls_laws_toInt64S_1 a_0 (lo_laws_toInt64S_1 a_0 k i_l0 r0_l1)).2 := by
 intro k
 induction k with
 | zero => intro i_l0 r0_l1 hv_laws_toInt64S_1_0 hv_laws_toInt64S_1_1 hk; exact absurd hk (Nat.not_lt_zero _)
 | succ k ih =>
  intro i_l0 r0_l1 hv_laws_toInt64S_1_0 hv_laws_toInt64S_1_1 hk
  have p {a C} (s : Scr a C) := sZ (cI .i64) a_0 <| s
  cases h_0 : (decide (i_l0 < (a_0.length : Int))) with
  | true =>
   have gh_0 := of_decide_eq_true h_0
   have y_0 : (0 : Int) ≤ i_l0 := by clear p; exact (by first | assumption | omega | (simp_all <;> omega))
   have y_1 : i_l0 < (a_0.length : Int) := by clear p; exact (by first | assumption | omega | (simp_all <;> omega))
   have y_2 : i_l0 < (r0_l1.length : Int) := by clear p; exact (by first | assumption | omega | (simp_all <;> omega))
   have y_3 : i_l0.toNat < r0_l1.length := by clear p; exact (by first | assumption | omega | (simp_all <;> omega))
   have y_4 : (-9223372036854775808 : Int) ≤ (i_l0 + 1) := by clear p; exact (by first | assumption | omega | (simp_all <;> omega))
   have y_5 : (i_l0 + 1) ≤ (9223372036854775807 : Int) := by clear p; exact (by first | assumption | omega | (simp_all <;> omega))
   have e : lo_laws_toInt64S_1 a_0 (k + 1) i_l0 r0_l1 = (lo_laws_toInt64S_1 a_0 k (i_l0 + 1) (r0_l1.set i_l0.toNat (a_0.getD i_l0.toNat default))) := by simp only [lo_laws_toInt64S_1, h_0, cond_true]
   rw [e]
   exact nextS E0Ok hMixed [] mk_laws_toInt64S_1_0 [0] (⟨[.sl (a_0.map (cI .i64)), .any, .nils, .own 0, .i .i64 (i_l0 + 1), .sl (a_0.map (cI .i64)), .i .i64 (a_0.length : Int), .own 0, .any, .any, .any, .any, .any, .any, .any, .any, .any, .any, .any, .any, .any, .any], [.vec 2 1 ((r0_l1.map (cI .i64)).set i_l0.toNat [.i .i64 (a_0.getD i_l0.toNat default)]) false]⟩) (p (sB h_0 <| sG (cI .i64) a_0 i_l0 y_0 y_1 <| sX (cI .i64) r0_l1 i_l0 y_0 y_2 <| sC (maplt (c := (cI .i64)) (l := r0_l1) y_3) <| sI (i_l0 + 1) y_4 y_5 <| sN)) (by kernel_rfl) (show _ = ⟨[.sl (a_0.map (cI .i64)), .any, .nils, .own 0, .i .i64 (i_l0 + 1), .sl (a_0.map (cI .i64)), .i .i64 (a_0.length : Int), .own 0, .any, .any, .any, .any, .any, .any, .any, .any, .any, .any, .any, .any, .any, .any], [.vec 2 1 ((r0_l1.set i_l0.toNat (a_0.getD i_l0.toNat default)).map (cI .i64)) false]⟩ from (by simp [List.map_set, cI])) (ih (i_l0 + 1) (r0_l1.set i_l0.toNat (a_0.getD i_l0.toNat default)) (show 0 ≤ (i_l0 + 1) from (by first | assumption | omega | (simp_all <;> omega))) (show (r0_l1.set i_l0.toNat (a_0.getD i_l0.toNat default)).length = a_0.length from (by first | assumption | omega | (simp_all <;> omega))) (by first | assumption | omega | (simp_all <;> omega)))
  | false =>
   have gh_0 := of_decide_eq_false h_0
   have e : lo_laws_toInt64S_1 a_0 (k + 1) i_l0 r0_l1 = r0_l1 := by simp only [lo_laws_toInt64S_1, h_0, cond_false]
   rw [e]
   exact outR (e := (.exit 0)) E0Ok hMixed [] mk_laws_toInt64S_1_1 [0] (p (sB h_0 <| sN)) (by kernel_rfl) (by intro h; cases h)

theorem ln_laws_toInt64S_1_0 (a_0 : (List Int)) : ∀ (k : Nat) (i_l0 : Int) (r0_l1 : (List Int)) (hk : ((a_0.length : Int) - i_l0).toNat < k), (lo_laws_toInt64S_1 a_0 k i_l0 r0_l1).length = r0_l1.length := by
  intro k
  induction k with
  | zero => intro i_l0 r0_l1 hk; exact absurd hk (Nat.not_lt_zero _)
  | succ k ih =>
    intro i_l0 r0_l1 hk
    cases h_0 : (decide (i_l0 < (a_0.length : Int))) with
    | true =>
      have e : lo_laws_toInt64S_1 a_0 (k + 1) i_l0 r0_l1 = (lo_laws_toInt64S_1 a_0 k (i_l0 + 1) (r0_l1.set i_l0.toNat (a_0.getD i_l0.toNat default))) := by simp only [lo_laws_toInt64S_1, h_0, cond_true]
      rw [e, ih (i_l0 + 1) (r0_l1.set i_l0.toNat (a_0.getD i_l0.toNat default)) (by first | assumption | omega | (simp_all <;> omega))]; simp
    | false =>
      have e : lo_laws_toInt64S_1 a_0 (k + 1) i_l0 r0_l1 = r0_l1 := by simp only [lo_laws_toInt64S_1, h_0, cond_false]
      first | (rw [e]; done) | (rw [e]; rfl)

def lr_laws_toInt64S_1_0 (a_0 : (List Int)) : (List Int) := (lo_laws_toInt64S_1 a_0 (((a_0.length : Int) - 0).toNat + 1) 0 (List.replicate (a_0.length : Int).toNat 0))

@[simp] theorem len_lr_laws_toInt64S_1_0_0 (a_0 : (List Int)) : (lr_laws_toInt64S_1_0 a_0).length = ((List.replicate (a_0.length : Int).toNat 0) : (List Int)).length := ln_laws_toInt64S_1_0 a_0 (((a_0.length : Int) - 0).toNat + 1) 0 (List.replicate (a_0.length : Int).toNat 0) (by first | exact Nat.lt_succ_self _ | simp)

def v_laws_toInt64S (a_0 : (List Int)) : (List Int) := (lr_laws_toInt64S_1_0 a_0)

@[simp] theorem len_v_laws_toInt64S_0 (a_0 : (List Int)) : (v_laws_toInt64S a_0).length = a_0.length := by
  first | (simp [v_laws_toInt64S]; done)

theorem t_laws_toInt64S (a_0 : (List Int)) (hp0 : a_0.length ≤ 1073741824)  : Fn prog 154 [.sl (a_0.map (cI .i64))] (.own 0) [.vec 2 1 ((v_laws_toInt64S a_0).map (cI .i64)) false] := by
 have y0 : (0 : Int) ≤ (a_0.length : Int) := (by first | assumption | omega | (simp_all <;> omega))
 have y1 : ((a_0.length : Int) : Int) ≤ 2147483648 := (by first | assumption | omega | (simp_all <;> omega))
 refine fnS E0Ok hMixed (c := bodyOf f154) [] (.own 0) [.vec 2 1 ((lr_laws_toInt64S_1_0 a_0).map (cI .i64)) false] func154 (sZ (cI .i64) a_0 <| sC (show (a_0.length : Int) = (a_0.length : Int) from rfl) <| sC y0 <| sC y1 <| sL mk_laws_toInt64S_1_0 1 (lp_cast (st2 := ⟨[.sl (a_0.map (cI .i64)), .any, .nils, .own 0, .i .i64 0, .sl (a_0.map (cI .i64)), .i .i64 (a_0.length : Int), .own 0, .any, .any, .any, .any, .any, .any, .any, .any, .any, .any, .any, .any, .any, .any], [.vec 2 1 (List.replicate (Int.toNat (a_0.length : Int)) [.i .i64 0]) false]⟩) (lp_val (ls_laws_toInt64S_1 a_0) (x := (lr_laws_toInt64S_1_0 a_0)) (lp_laws_toInt64S_1 a_0 hp0 (((a_0.length : Int) - 0).toNat + 1) 0 (List.replicate (a_0.length : Int).toNat 0) (show 0 ≤ 0 from (by first | assumption | omega | (simp_all <;> omega))) (show (List.replicate (a_0.length : Int).toNat 0).length = a_0.length from (by simp)) (Nat.lt_succ_self _)) rfl) (by simp [hd_laws_toInt64S_1, cI])) <| sK [0] sN) rfl (by kernel_rfl) (by kernel_rfl) rfl ?_ ?_
 · rfl
 · simp [v_laws_toInt64S]

@[simp] theorem eq_laws_toInt64S (a : List Int) : v_laws_toInt64S a = a := by
  unfold v_laws_toInt64S lr_laws_toInt64S_1_0
  rw [copy_all (f := id) (a := a) (lo := lo_laws_toInt64S_1 a) (fun k i r => rfl)]
  exact List.map_id a

theorem i_laws_toInt64S (a_0 : (List Int)) (hp0 : a_0.length ≤ 1073741824) : Fn prog 154 [.sl (a_0.map (cI .i64))] (.own 0) [.vec 2 1 (a_0.map (cI .i64)) false] := by
 simpa only [eq_laws_toInt64S] using t_laws_toInt64S  a_0 hp0

def lo_laws_toInt64SS_1 (a_0 : (List (List Int))) : Nat → Int → (List (List Int)) → (List (List Int))
  | 0, _, _ => default
  | k + 1, i_l0, r0_l1 => (cond (decide (i_l0 < (a_0.length : Int)))
    (lo_laws_toInt64SS_1 a_0 k (i_l0 + 1) (r0_l1.set i_l0.toNat (a_0.getD i_l0.toNat default)))
    r0_l1)

def ls_laws_toInt64SS_1 (a_0 : (List (List Int))) (r : (List (List Int))) : Ex × St := ((.exit 0), ⟨[.sl (a_0.map (cL (cI .i64))), .any, .nils, .own 0, .any, .sl (a_0.map (cL (cI .i64))), .i .i64 (a_0.length : Int), .own 0, .any, .any, .any, .any, .any, .any, .any, .any, .any, .any, .any, .any, .any, .any, .any], [.nest 52 (r.map fun l => l.map (cI .i64)) false]⟩)

def hd_laws_toInt64SS_1 (a_0 : (List (List Int))) (i_l0 : Int) (r0_l1 : (List (List Int))) : St := ⟨[.sl (a_0.map (cL (cI .i64))), .any, .nils, .own 0, .i .i64 i_l0, .sl (a_0.map (cL (cI .i64))), .i .i64 (a_0.length : Int), .own 0, .any, .any, .any, .any, .any, .any, .any, .any, .any, .any, .any, .any, .any, .any, .any], [.nest 52 (r0_l1.map fun l => l.map (cI .i64)) false]⟩

def mk_laws_toInt64SS_1_0 : List Bool := [true, false, true, true, true, true, true, true, false, false, false, false, false, false, false, false, false, false, false, false, false, false, false]

def mk_laws_toInt64SS_1_1 : List Bool := [true, false, true, true, false, true, true, true, false, false, false, false, false, false, false, false, false, false, false, false, false, false, false]

theorem lp_laws_toInt64SS_1 (a_0 : (List (List Int))) (hp0 : a_0.length ≤ 1073741824) (hp1 : ∀ t ∈ a_0, t.length ≤ 1073741824) : ∀ (k : Nat) (i_l0 : Int) (r0_l1 : (List (List Int))) (hv_laws_toInt64SS_1_0 : 0 ≤ i_l0) (hv_laws_toInt64SS_1_1 : r0_l1.length = a_0.length) (hk : ((a_0.length : Int) - i_l0).toNat < k), Lp prog 0 (sub (bodyOf f91) [1, 1, 0, 1, 0, 0]) (hd_laws_toInt64SS_1 a_0 i_l0 r0_l1) (ls_laws_toInt64SS_1 a_0 (lo_laws_toInt64SS_1 a_0 k i_l0 r0_l1)).1 (ls_laws_toInt64SS_1 a_0 (lo_laws_toInt64SS_1 a_0 k i_l0 r0_l1)).2 := by
 intro k
 induction k with
 | zero => intro i_l0 r0_l1 hv_laws_toInt64SS_1_0 hv_laws_toInt64SS_1_1 hk; exact absurd hk (Nat.not_lt_zero _)
 | succ k ih =>
  intro i_l0 r0_l1 hv_laws_toInt64SS_1_0 hv_laws_toInt64SS_1_1 hk
  have p {a C} (s : Scr a C) := sZ (cL (cI .i64)) a_0 <| s
  cases h_0 : (decide (i_l0 < (a_0.length : Int))) with
  | true =>
   have gh_0 := of_decide_eq_true h_0
   have y_0 : (0 : Int) ≤ i_l0 := by clear p; exact (by first | assumption | omega | (simp_all <;> omega))
   have y_1 : i_l0 < (a_0.length : Int) := by clear p; exact (by first | assumption | omega | (simp_all <;> omega))
   have y_2 : (a_0.getD i_l0.toNat default).length ≤ 1073741824 := by clear p; exact (by first | assumption | omega | (simp_all <;> omega))
   have y_3 : Int.toNat i_l0 < r0_l1.length := by clear p; exact (by first | assumption | omega | (simp_all <;> omega))
   have y_4 : i_l0.toNat < r0_l1.length := by clear p; exact (by first | assumption | omega | (simp_all <;> omega))
   have y_5 : (-9223372036854775808 : Int) ≤ (i_l0 + 1) := by clear p; exact (by first | assumption | omega | (simp_all <;> omega))
   have y_6 : (i_l0 + 1) ≤ (9223372036854775807 : Int) := by clear p; exact (by first | assumption | omega | (simp_all <;> omega))
   have e : lo_laws_toInt64SS_1 a_0 (k + 1) i_l0 r0_l1 = (lo_laws_toInt64SS_1 a_0 k (i_l0 + 1) (r0_l1.set i_l0.toNat (a_0.getD i_l0.toNat default))) := by simp only [lo_laws_toInt64SS_1, h_0, cond_true]
   rw [e]
   exact nextS E0Ok hMixed [] mk_laws_toInt64SS_1_0 [0] (⟨[.sl (a_0.map (cL (cI .i64))), .any, .nils, .own 0, .i .i64 (i_l0 + 1), .sl (a_0.map (cL (cI .i64))), .i .i64 (a_0.length : Int), .own 0, .any, .any, .any, .any, .any, .any, .any, .any, .any, .any, .any, .any, .any, .any, .any], [.nest 52 ((r0_l1.map fun l => l.map (cI .i64)).set i_l0.toNat ((a_0.getD i_l0.toNat default).map (cI .i64))) false]⟩) (p (sB h_0 <| sG (cL (cI .i64)) a_0 i_l0 y_0 y_1 <| sF (i_laws_toInt64S (a_0.getD i_l0.toNat default) y_2) <| sC (nestix (c := (cI .i64)) (l := r0_l1) (i := i_l0) y_0 y_3) <| sC (show i_l0.toNat < (r0_l1.map fun l => l.map (cI .i64)).length from (by simpa using y_4)) <| sI (i_l0 + 1) y_5 y_6 <| sN)) (by kernel_rfl) (show _ = ⟨[.sl (a_0.map (cL (cI .i64))), .any, .nils, .own 0, .i .i64 (i_l0 + 1), .sl (a_0.map (cL (cI .i64))), .i .i64 (a_0.length : Int), .own 0, .any, .any, .any, .any, .any, .any, .any, .any, .any, .any, .any, .any, .any, .any, .any], [.nest 52 ((r0_l1.set i_l0.toNat (a_0.getD i_l0.toNat default)).map fun l => l.map (cI .i64)) false]⟩ from (by simp [List.map_set, cL, cI])) (ih (i_l0 + 1) (r0_l1.set i_l0.toNat (a_0.getD i_l0.toNat default)) (show 0 ≤ (i_l0 + 1) from (by first | assumption | omega | (simp_all <;> omega))) (show (r0_l1.set i_l0.toNat (a_0.getD i_l0.toNat default)).length = a_0.length from (by first | assumption | omega | (simp_all <;> omega))) (by first | assumption | omega | (simp_all <;> omega)))
  | false =>
   have gh_0 := of_decide_eq_false h_0
   have e : lo_laws_toInt64SS_1 a_0 (k + 1) i_l0 r0_l1 = r0_l1 := by simp only [lo_laws_toInt64SS_1, h_0, cond_false]
   rw [e]
   exact outR (e := (.exit 0)) E0Ok hMixed [] mk_laws_toInt64SS_1_1 [0] (p (sB h_0 <| sN)) (by kernel_rfl) (by intro h; cases h)

theorem ln_laws_toInt64SS_1_0 (a_0 : (List (List Int))) : ∀ (k : Nat) (i_l0 : Int) (r0_l1 : (List (List Int))) (hk : ((a_0.length : Int) - i_l0).toNat < k), (lo_laws_toInt64SS_1 a_0 k i_l0 r0_l1).length = r0_l1.length := by
  intro k
  induction k with
  | zero => intro i_l0 r0_l1 hk; exact absurd hk (Nat.not_lt_zero _)
  | succ k ih =>
    intro i_l0 r0_l1 hk
    cases h_0 : (decide (i_l0 < (a_0.length : Int))) with
    | true =>
      have e : lo_laws_toInt64SS_1 a_0 (k + 1) i_l0 r0_l1 = (lo_laws_toInt64SS_1 a_0 k (i_l0 + 1) (r0_l1.set i_l0.toNat (a_0.getD i_l0.toNat default))) := by simp only [lo_laws_toInt64SS_1, h_0, cond_true]
      rw [e, ih (i_l0 + 1) (r0_l1.set i_l0.toNat (a_0.getD i_l0.toNat default)) (by first | assumption | omega | (simp_all <;> omega))]; simp
    | false =>
      have e : lo_laws_toInt64SS_1 a_0 (k + 1) i_l0 r0_l1 = r0_l1 := by simp only [lo_laws_toInt64SS_1, h_0, cond_false]
      first | (rw [e]; done) | (rw [e]; rfl)

def lr_laws_toInt64SS_1_0 (a_0 : (List (List Int))) : (List (List Int)) := (lo_laws_toInt64SS_1 a_0 (((a_0.length : Int) - 0).toNat + 1) 0 (List.replicate (a_0.length : Int).toNat ([] : (List Int))))

@[simp] theorem len_lr_laws_toInt64SS_1_0_0 (a_0 : (List (List Int))) : (lr_laws_toInt64SS_1_0 a_0).length = ((List.replicate (a_0.length : Int).toNat ([] : (List Int))) : (List (List Int))).length := ln_laws_toInt64SS_1_0 a_0 (((a_0.length : Int) - 0).toNat + 1) 0 (List.replicate (a_0.length : Int).toNat ([] : (List Int))) (by first | exact Nat.lt_succ_self _ | simp)

def v_laws_toInt64SS (a_0 : (List (List Int))) : (List (List Int)) := (lr_laws_toInt64SS_1_0 a_0)

@[simp] theorem len_v_laws_toInt64SS_0 (a_0 : (List (List Int))) : (v_laws_toInt64SS a_0).length = a_0.length := by
  first | (simp [v_laws_toInt64SS]; done)

theorem t_laws_toInt64SS (a_0 : (List (List Int))) (hp0 : a_0.length ≤ 1073741824) (hp1 : ∀ t ∈ a_0, t.length ≤ 1073741824)  : Fn prog 91 [.sl (a_0.map (cL (cI .i64)))] (.own 0) [.nest 52 ((v_laws_toInt64SS a_0).map fun l => l.map (cI .i64)) false] := by
 have y0 : (0 : Int) ≤ (a_0.length : Int) := (by first | assumption | omega | (simp_all <;> omega))
 have y1 : ((a_0.length : Int) : Int) ≤ 2147483648 := (by first | assumption | omega | (simp_all <;> omega))
 refine fnS E0Ok hMixed (c := bodyOf f91) [] (.own 0) [.nest 52 ((lr_laws_toInt64SS_1_0 a_0).map fun l => l.map (cI .i64)) false] func91 (sZ (cL (cI .i64)) a_0 <| sC (show (a_0.length : Int) = (a_0.length : Int) from rfl) <| sC y0 <| sC y1 <| sL mk_laws_toInt64SS_1_0 1 (lp_cast (st2 := ⟨[.sl (a_0.map (cL (cI .i64))), .any, .nils, .own 0, .i .i64 0, .sl (a_0.map (cL (cI .i64))), .i .i64 (a_0.length : Int), .own 0, .any, .any, .any, .any, .any, .any, .any, .any, .any, .any, .any, .any, .any, .any, .any], [.nest 52 (List.replicate (a_0.length : Int).toNat []) false]⟩) (lp_val (ls_laws_toInt64SS_1 a_0) (x := (lr_laws_toInt64SS_1_0 a_0)) (lp_laws_toInt64SS_1 a_0 hp0 hp1 (((a_0.length : Int) - 0).toNat + 1) 0 (List.replicate (a_0.length : Int).toNat ([] : (List Int))) (show 0 ≤ 0 from (by first | assumption | omega | (simp_all <;> omega))) (show (List.replicate (a_0.length : Int).toNat ([] : (List Int))).length = a_0.length from (by simp)) (Nat.lt_succ_self _)) rfl) (by simp [hd_laws_toInt64SS_1, cL, cI])) <| sK [0] sN) rfl (by kernel_rfl) (by kernel_rfl) rfl ?_ ?_
 · rfl
 · simp [v_laws_toInt64SS]

@[simp] theorem eq_laws_toInt64SS (a : List (List Int)) : v_laws_toInt64SS a = a := by
  unfold v_laws_toInt64SS lr_laws_toInt64SS_1_0
  rw [copy_all (f := id) (a := a) (lo := lo_laws_toInt64SS_1 a) (fun k i r => rfl)]
  exact List.map_id a

theorem i_laws_toInt64SS (a_0 : (List (List Int))) (hp0 : a_0.length ≤ 1073741824) (hp1 : ∀ t ∈ a_0, t.length ≤ 1073741824) : Fn prog 91 [.sl (a_0.map (cL (cI .i64)))] (.own 0) [.nest 52 (a_0.map fun l => l.map (cI .i64)) false] := by
 simpa only [eq_laws_toInt64SS] using t_laws_toInt64SS  a_0 hp0 hp1

def v_laws_toMesh (a_0 : GMesh) : GMesh := a_0

theorem t_laws_toMesh (a_0 : GMesh) (hp0 : a_0.Places.length ≤ 1073741824) (hp1 : a_0.Triangles.length ≤ 1073741824) (hp2 : ∀ t ∈ a_0.Triangles, t.length ≤ 1073741824)  : Fn prog 26 [.agg [.sl (a_0.Places.map GVector.cells), .sl (a_0.Triangles.map (cL (cI .i64)))]] (.agg [.own 0, .own 1]) [.vec 44 3 (((v_laws_toMesh a_0).Places).map GVector.cells) false, .nest 52 (((v_laws_toMesh a_0).Triangles).map fun l => l.map (cI .i64)) false] := by
 refine fnS E0Ok hMixed (c := bodyOf f26) [] (.agg [.own 0, .own 1]) [.vec 44 3 (a_0.Places.map GVector.cells) false, .nest 52 (a_0.Triangles.map fun l => l.map (cI .i64)) false] func26 (sF (i_laws_toVectorS a_0.Places hp0) <| sF (i_laws_toInt64SS a_0.Triangles hp1 hp2) <| sK [3, 4] sN) rfl (by kernel_rfl) (by kernel_rfl) rfl ?_ ?_
 · rfl
 · simp [v_laws_toMesh]

@[simp] theorem eq_laws_toMesh (a : GMesh) : v_laws_toMesh a = a := by
  simp [v_laws_toMesh]

theorem i_laws_toMesh (a_0 : GMesh) (hp0 : a_0.Places.length ≤ 1073741824) (hp1 : a_0.Triangles.length ≤ 1073741824) (hp2 : ∀ t ∈ a_0.Triangles, t.length ≤ 1073741824) : Fn prog 26 [.agg [.sl (a_0.Places.map GVector.cells), .sl (a_0.Triangles.map (cL (cI .i64)))]] (.agg [.own 0, .own 1]) [.vec 44 3 (a_0.Places.map GVector.cells) false, .nest 52 (a_0.Triangles.map fun l => l.map (cI .i64)) false] := by
 simpa only [eq_laws_toMesh] using t_laws_toMesh  a_0 hp0 hp1 hp2

def v_laws_toSpring (a_0 : GSpring) : GSpring := a_0

theorem t_laws_toSpring (a_0 : GSpring)   : Fn prog 146 [.agg [.i .i64 a_0.A, .i .i64 a_0.B, .f .f32 a_0.Long, .f .f32 a_0.Stiff]] (.agg [.i .i64 ((v_laws_toSpring a_0).A), .i .i64 ((v_laws_toSpring a_0).B), .f .f32 ((v_laws_toSpring a_0).Long), .f .f32 ((v_laws_toSpring a_0).Stiff)]) [] := by
 refine fnS E0Ok hMixed (c := bodyOf f146) [] (.agg [.i .i64 a_0.A, .i .i64 a_0.B, .f .f32 a_0.Long, .f .f32 a_0.Stiff]) [] func146 (sK [] sN) rfl (by kernel_rfl) (by kernel_rfl) rfl ?_ ?_
 · rfl
 · rfl

@[simp] theorem eq_laws_toSpring (a : GSpring) : v_laws_toSpring a = a := rfl

theorem i_laws_toSpring (a_0 : GSpring)  : Fn prog 146 [.agg [.i .i64 a_0.A, .i .i64 a_0.B, .f .f32 a_0.Long, .f .f32 a_0.Stiff]] (.agg [.i .i64 a_0.A, .i .i64 a_0.B, .f .f32 a_0.Long, .f .f32 a_0.Stiff]) [] := by
 simpa only [eq_laws_toSpring] using t_laws_toSpring  a_0 

def lo_laws_toSpringS_1 (a_0 : (List GSpring)) : Nat → Int → (List GSpring) → (List GSpring)
  | 0, _, _ => default
  | k + 1, i_l0, r0_l1 => (cond (decide (i_l0 < (a_0.length : Int)))
    (lo_laws_toSpringS_1 a_0 k (i_l0 + 1) (r0_l1.set i_l0.toNat (a_0.getD i_l0.toNat default)))
    r0_l1)

def ls_laws_toSpringS_1 (a_0 : (List GSpring)) (r : (List GSpring)) : Ex × St := ((.exit 0), ⟨[.sl (a_0.map GSpring.cells), .any, .nils, .own 0, .any, .sl (a_0.map GSpring.cells), .i .i64 (a_0.length : Int), .own 0, .any, .any, .any, .any, .any, .any, .any, .any, .any, .any, .any, .any, .any, .any, .any], [.vec 105 4 (r.map GSpring.cells) false]⟩)

def hd_laws_toSpringS_1 (a_0 : (List GSpring)) (i_l0 : Int) (r0_l1 : (List GSpring)) : St := ⟨[.sl (a_0.map GSpring.cells), .any, .nils, .own 0, .i .i64 i_l0, .sl (a_0.map GSpring.cells), .i .i64 (a_0.length : Int), .own 0, .any, .any, .any, .any, .any, .any, .any, .any, .any, .any, .any, .any, .any, .any, .any], [.vec 105 4 (r0_l1.map GSpring.cells) false]⟩

def mk_laws_toSpringS_1_0 : List Bool := [true, false, true, true, true, true, true, true, false, false, false, false, false, false, false, false, false, false, false, false, false, false, false]

def mk_laws_toSpringS_1_1 : List Bool := [true, false, true, true, false, true, true, true, false, false, false, false, false, false, false, false, false, false, false, false, false, false, false]

theorem lp_laws_toSpringS_1 (a_0 : (List GSpring)) (hp0 : a_0.length ≤ 1073741824) : ∀ (k : Nat) (i_l0 : Int) (r0_l1 : (List GSpring)) (hv_laws_toSpringS_1_0 : 0 ≤ i_l0) (hv_laws_toSpringS_1_1 : r0_l1.length = a_0.length) (hk : ((a_0.length : Int) - i_l0).toNat < k), Lp prog 0 (sub (bodyOf f76) [1, 1, 0, 1, 0, 0]) (hd_laws_toSpringS_1 a_0 i_l0 r0_l1) (ls_laws_toSpringS_1 a_0 (lo_laws_toSpringS_1 a_0 k i_l0 r0_l1)).1 (ls_laws_toSpringS_1 a_0 (lo_laws_toSpringS_1 a_0 k i_l0 r0_l1)).2 := by
 intro k
 induction k with
 | zero => intro i_l0 r0_l1 hv_laws_toSpringS_1_0 hv_laws_toSpringS_1_1 hk; exact absurd hk (Nat.not_lt_zero _)
 | succ k ih =>
  intro i_l0 r0_l1 hv_laws_toSpringS_1_0 hv_laws_toSpringS_1_1 hk
  have p {a C} (s : Scr a C) := sZ GSpring.cells a_0 <| s
  cases h_0 : (decide (i_l0 < (a_0.length : Int))) with
  | true =>
   have gh_0 := of_decide_eq_true h_0
   have y_0 : (0 : Int) ≤ i_l0 := by clear p; exact (by first | assumption | omega | (simp_all <;> omega))
   have y_1 : i_l0 < (a_0.length : Int) := by clear p; exact (by first | assumption | omega | (simp_all <;> omega))
   have y_2 : i_l0 < (r0_l1.length : Int) := by clear p; exact (by first | assumption | omega | (simp_all <;> omega))
   have y_3 : i_l0.toNat < r0_l1.length := by clear p; exact (by first | assumption | omega | (simp_all <;> omega))
   have y_4 : (-9223372036854775808 : Int) ≤ (i_l0 + 1) := by clear p; exact (by first | assumption | omega | (simp_all <;> omega))
   have y_5 : (i_l0 + 1) ≤ (9223372036854775807 : Int) := by clear p; exact (by first | assumption | omega | (simp_all <;> omega))
   have e : lo_laws_toSpringS_1 a_0 (k + 1) i_l0 r0_l1 = (lo_laws_toSpringS_1 a_0 k (i_l0 + 1) (r0_l1.set i_l0.toNat (a_0.getD i_l0.toNat default))) := by simp only [lo_laws_toSpringS_1, h_0, cond_true]
   rw [e]
   exact nextS E0Ok hMixed [] mk_laws_toSpringS_1_0 [0] (⟨[.sl (a_0.map GSpring.cells), .any, .nils, .own 0, .i .i64 (i_l0 + 1), .sl (a_0.map GSpring.cells), .i .i64 (a_0.length : Int), .own 0, .any, .any, .any, .any, .any, .any, .any, .any, .any, .any, .any, .any, .any, .any, .any], [.vec 105 4 ((r0_l1.map GSpring.cells).set i_l0.toNat [.i .i64 ((a_0.getD i_l0.toNat default).A), .i .i64 ((a_0.getD i_l0.toNat default).B), .f .f32 ((a_0.getD i_l0.toNat default).Long), .f .f32 ((a_0.getD i_l0.toNat default).Stiff)]) false]⟩) (p (sB h_0 <| sG GSpring.cells a_0 i_l0 y_0 y_1 <| sF (i_laws_toSpring (a_0.getD i_l0.toNat default)) <| sX GSpring.cells r0_l1 i_l0 y_0 y_2 <| sC (maplt (c := GSpring.cells) (l := r0_l1) y_3) <| sI (i_l0 + 1) y_4 y_5 <| sN)) (by kernel_rfl) (show _ = ⟨[.sl (a_0.map GSpring.cells), .any, .nils, .own 0, .i .i64 (i_l0 + 1), .sl (a_0.map GSpring.cells), .i .i64 (a_0.length : Int), .own 0, .any, .any, .any, .any, .any, .any, .any, .any, .any, .any, .any, .any, .any, .any, .any], [.vec 105 4 ((r0_l1.set i_l0.toNat (a_0.getD i_l0.toNat default)).map GSpring.cells) false]⟩ from (by simp [List.map_set, GSpring.cells])) (ih (i_l0 + 1) (r0_l1.set i_l0.toNat (a_0.getD i_l0.toNat default)) (show 0 ≤ (i_l0 + 1) from (by first | assumption | omega | (simp_all <;> omega))) (show (r0_l1.set i_l0.toNat (a_0.getD i_l0.toNat default)).length = a_0.length from (by first | assumption | omega | (simp_all <;> omega))) (by first | assumption | omega | (simp_all <;> omega)))
  | false =>
   have gh_0 := of_decide_eq_false h_0
   have e : lo_laws_toSpringS_1 a_0 (k + 1) i_l0 r0_l1 = r0_l1 := by simp only [lo_laws_toSpringS_1, h_0, cond_false]
   rw [e]
   exact outR (e := (.exit 0)) E0Ok hMixed [] mk_laws_toSpringS_1_1 [0] (p (sB h_0 <| sN)) (by kernel_rfl) (by intro h; cases h)

theorem ln_laws_toSpringS_1_0 (a_0 : (List GSpring)) : ∀ (k : Nat) (i_l0 : Int) (r0_l1 : (List GSpring)) (hk : ((a_0.length : Int) - i_l0).toNat < k), (lo_laws_toSpringS_1 a_0 k i_l0 r0_l1).length = r0_l1.length := by
  intro k
  induction k with
  | zero => intro i_l0 r0_l1 hk; exact absurd hk (Nat.not_lt_zero _)
  | succ k ih =>
    intro i_l0 r0_l1 hk
    cases h_0 : (decide (i_l0 < (a_0.length : Int))) with
    | true =>
      have e : lo_laws_toSpringS_1 a_0 (k + 1) i_l0 r0_l1 = (lo_laws_toSpringS_1 a_0 k (i_l0 + 1) (r0_l1.set i_l0.toNat (a_0.getD i_l0.toNat default))) := by simp only [lo_laws_toSpringS_1, h_0, cond_true]
      rw [e, ih (i_l0 + 1) (r0_l1.set i_l0.toNat (a_0.getD i_l0.toNat default)) (by first | assumption | omega | (simp_all <;> omega))]; simp
    | false =>
      have e : lo_laws_toSpringS_1 a_0 (k + 1) i_l0 r0_l1 = r0_l1 := by simp only [lo_laws_toSpringS_1, h_0, cond_false]
      first | (rw [e]; done) | (rw [e]; rfl)

def lr_laws_toSpringS_1_0 (a_0 : (List GSpring)) : (List GSpring) := (lo_laws_toSpringS_1 a_0 (((a_0.length : Int) - 0).toNat + 1) 0 (List.replicate (a_0.length : Int).toNat (⟨0, 0, 0, 0⟩ : GSpring)))

@[simp] theorem len_lr_laws_toSpringS_1_0_0 (a_0 : (List GSpring)) : (lr_laws_toSpringS_1_0 a_0).length = ((List.replicate (a_0.length : Int).toNat (⟨0, 0, 0, 0⟩ : GSpring)) : (List GSpring)).length := ln_laws_toSpringS_1_0 a_0 (((a_0.length : Int) - 0).toNat + 1) 0 (List.replicate (a_0.length : Int).toNat (⟨0, 0, 0, 0⟩ : GSpring)) (by first | exact Nat.lt_succ_self _ | simp)

def v_laws_toSpringS (a_0 : (List GSpring)) : (List GSpring) := (lr_laws_toSpringS_1_0 a_0)

@[simp] theorem len_v_laws_toSpringS_0 (a_0 : (List GSpring)) : (v_laws_toSpringS a_0).length = a_0.length := by
  first | (simp [v_laws_toSpringS]; done)

theorem t_laws_toSpringS (a_0 : (List GSpring)) (hp0 : a_0.length ≤ 1073741824)  : Fn prog 76 [.sl (a_0.map GSpring.cells)] (.own 0) [.vec 105 4 ((v_laws_toSpringS a_0).map GSpring.cells) false] := by
 have y0 : (0 : Int) ≤ (a_0.length : Int) := (by first | assumption | omega | (simp_all <;> omega))
 have y1 : ((a_0.length : Int) : Int) ≤ 2147483648 := (by first | assumption | omega | (simp_all <;> omega))
 refine fnS E0Ok hMixed (c := bodyOf f76) [] (.own 0) [.vec 105 4 ((lr_laws_toSpringS_1_0 a_0).map GSpring.cells) false] func76 (sZ GSpring.cells a_0 <| sC (show (a_0.length : Int) = (a_0.length : Int) from rfl) <| sC y0 <| sC y1 <| sL mk_laws_toSpringS_1_0 1 (lp_cast (st2 := ⟨[.sl (a_0.map GSpring.cells), .any, .nils, .own 0, .i .i64 0, .sl (a_0.map GSpring.cells), .i .i64 (a_0.length : Int), .own 0, .any, .any, .any, .any, .any, .any, .any, .any, .any, .any, .any, .any, .any, .any, .any], [.vec 105 4 (List.replicate (Int.toNat (a_0.length : Int)) [.i .i64 0, .i .i64 0, .f .f32 0, .f .f32 0]) false]⟩) (lp_val (ls_laws_toSpringS_1 a_0) (x := (lr_laws_toSpringS_1_0 a_0)) (lp_laws_toSpringS_1 a_0 hp0 (((a_0.length : Int) - 0).toNat + 1) 0 (List.replicate (a_0.length : Int).toNat (⟨0, 0, 0, 0⟩ : GSpring)) (show 0 ≤ 0 from (by first | assumption | omega | (simp_all <;> omega))) (show (List.replicate (a_0.length : Int).toNat (⟨0, 0, 0, 0⟩ : GSpring)).length = a_0.length from (by simp)) (Nat.lt_succ_self _)) rfl) (by simp [hd_laws_toSpringS_1, GSpring.cells])) <| sK [0] sN) rfl (by kernel_rfl) (by kernel_rfl) rfl ?_ ?_
 · rfl
 · simp [v_laws_toSpringS]

@[simp] theorem eq_laws_toSpringS (a : List GSpring) : v_laws_toSpringS a = a := by
  unfold v_laws_toSpringS lr_laws_toSpringS_1_0
  rw [copy_all (f := id) (a := a) (lo := lo_laws_toSpringS_1 a) (fun k i r => rfl)]
  exact List.map_id a

theorem i_laws_toSpringS (a_0 : (List GSpring)) (hp0 : a_0.length ≤ 1073741824) : Fn prog 76 [.sl (a_0.map GSpring.cells)] (.own 0) [.vec 105 4 (a_0.map GSpring.cells) false] := by
 simpa only [eq_laws_toSpringS] using t_laws_toSpringS  a_0 hp0

def lo_laws_toFloat32S_1 (a_0 : (List Nat)) : Nat → Int → (List Nat) → (List Nat)
  | 0, _, _ => default
  | k + 1, i_l0, r0_l1 => (cond (decide (i_l0 < (a_0.length : Int)))
    (lo_laws_toFloat32S_1 a_0 k (i_l0 + 1) (r0_l1.set i_l0.toNat (a_0.getD i_l0.toNat default)))
    r0_l1)

def ls_laws_toFloat32S_1 (a_0 : (List Nat)) (r : (List Nat)) : Ex × St := ((.exit 0), ⟨[.sl (a_0.map (cF .f32)), .any, .nils, .own 0, .any, .sl (a_0.map (cF .f32)), .i .i64 (a_0.length : Int), .own 0, .any, .any, .any, .any, .any, .any, .any, .any, .any, .any, .any, .any, .any, .any], [.vec 22 1 (r.map (cF .f32)) false]⟩)

def hd_laws_toFloat32S_1 (a_0 : (List Nat)) (i_l0 : Int) (r0_l1 : (List Nat)) : St := ⟨[.sl (a_0.map (cF .f32)), .any, .nils, .own 0, .i .i64 i_l0, .sl (a_0.map (cF .f32)), .i .i64 (a_0.length : Int), .own 0, .any, .any, .any, .any, .any, .any, .any, .any, .any, .any, .any, .any, .any, .any], [.vec 22 1 (r0_l1.map (cF .f32)) false]⟩

def mk_laws_toFloat32S_1_0 : List Bool := [true, false, true, true, true, true, true, true, false, false, false, false, false, false, false, false, false, false, false, false, false, false]

def mk_laws_toFloat32S_1_1 : List Bool := [true, false, true, true, false, true, true, true, false, false, false, false, false, false, false, false, false, false, false, false, false, false]

theorem lp_laws_toFloat32S_1 (a_0 : (List Nat)) (hp0 : a_0.length ≤ 1073741824) : ∀ (k : Nat) (i_l0 : Int) (r0_l1 : (List Nat)) (hv_laws_toFloat32S_1_0 : 0 ≤ i_l0) (hv_laws_toFloat32S_1_1 : r0_l1.length = a_0.length) (hk : ((a_0.length : Int) - i_l0).toNat < k), Lp prog 0 (sub (bodyOf f77) [1, 1, 0, 1, 0, 0]) (hd_laws_toFloat32S_1 a_0 i_l0 r0_l1) (ls_laws_toFloat32S_1 a_0 (lo_laws_toFloat32S_1 a_0 k i_l0 r0_l1)).1 (ls_laws_toFloat32S_1 a_0 (lo_laws_toFloat32S_1 a_0 k i_l0 r0_l1)).2 := by
 intro k
 induction k with
 | zero => intro i_l0 r0_l1 hv_laws_toFloat32S_1_0 hv_laws_toFloat32S_1_1 hk; exact absurd hk (Nat.not_lt_zero _)
 | succ k ih =>
  intro i_l0 r0_l1 hv_laws_toFloat32S_1_0 hv_laws_toFloat32S_1_1 hk
  have p {a C} (s : Scr a C) := sZ (cF .f32) a_0 <| s
  cases h_0 : (decide (i_l0 < (a_0.length : Int))) with
  | true =>
   have gh_0 := of_decide_eq_true h_0
   have y_0 : (0 : Int) ≤ i_l0 := by clear p; exact (by first | assumption | omega | (simp_all <;> omega))
   have y_1 : i_l0 < (a_0.length : Int) := by clear p; exact (by first | assumption | omega | (simp_all <;> omega))
   have y_2 : i_l0 < (r0_l1.length : Int) := by clear p; exact (by first | assumption | omega | (simp_all <;> omega))
   have y_3 : i_l0.toNat < r0_l1.length := by clear p; exact (by first | assumption | omega | (simp_all <;> omega))
   have y_4 : (-9223372036854775808 : Int) ≤ (i_l0 + 1) := by clear p; exact (by first | assumption | omega | (simp_all <;> omega))
   have y_5 : (i_l0 + 1) ≤ (9223372036854775807 : Int) := by clear p; exact (by first | assumption | omega | (simp_all <;> omega))
   have e : lo_laws_toFloat32S_1 a_0 (k + 1) i_l0 r0_l1 = (lo_laws_toFloat32S_1 a_0 k (i_l0 + 1) (r0_l1.set i_l0.toNat (a_0.getD i_l0.toNat default))) := by simp only [lo_laws_toFloat32S_1, h_0, cond_true]
   rw [e]
   exact nextS E0Ok hMixed [] mk_laws_toFloat32S_1_0 [0] (⟨[.sl (a_0.map (cF .f32)), .any, .nils, .own 0, .i .i64 (i_l0 + 1), .sl (a_0.map (cF .f32)), .i .i64 (a_0.length : Int), .own 0, .any, .any, .any, .any, .any, .any, .any, .any, .any, .any, .any, .any, .any, .any], [.vec 22 1 ((r0_l1.map (cF .f32)).set i_l0.toNat [.f .f32 (a_0.getD i_l0.toNat default)]) false]⟩) (p (sB h_0 <| sG (cF .f32) a_0 i_l0 y_0 y_1 <| sX (cF .f32) r0_l1 i_l0 y_0 y_2 <| sC (maplt (c := (cF .f32)) (l := r0_l1) y_3) <| sI (i_l0 + 1) y_4 y_5 <| sN)) (by kernel_rfl) (show _ = ⟨[.sl (a_0.map (cF .f32)), .any, .nils, .own 0, .i .i64 (i_l0 + 1), .sl (a_0.map (cF .f32)), .i .i64 (a_0.length : Int), .own 0, .any, .any, .any, .any, .any, .any, .any, .any, .any, .any, .any, .any, .any, .any], [.vec 22 1 ((r0_l1.set i_l0.toNat (a_0.getD i_l0.toNat default)).map (cF .f32)) false]⟩ from (by simp [List.map_set, cF])) (ih (i_l0 + 1) (r0_l1.set i_l0.toNat (a_0.getD i_l0.toNat default)) (show 0 ≤ (i_l0 + 1) from (by first | assumption | omega | (simp_all <;> omega))) (show (r0_l1.set i_l0.toNat (a_0.getD i_l0.toNat default)).length = a_0.length from (by first | assumption | omega | (simp_all <;> omega))) (by first | assumption | omega | (simp_all <;> omega)))
  | false =>
   have gh_0 := of_decide_eq_false h_0
   have e : lo_laws_toFloat32S_1 a_0 (k + 1) i_l0 r0_l1 = r0_l1 := by simp only [lo_laws_toFloat32S_1, h_0, cond_false]
   rw [e]
   exact outR (e := (.exit 0)) E0Ok hMixed [] mk_laws_toFloat32S_1_1 [0] (p (sB h_0 <| sN)) (by kernel_rfl) (by intro h; cases h)

theorem ln_laws_toFloat32S_1_0 (a_0 : (List Nat)) : ∀ (k : Nat) (i_l0 : Int) (r0_l1 : (List Nat)) (hk : ((a_0.length : Int) - i_l0).toNat < k), (lo_laws_toFloat32S_1 a_0 k i_l0 r0_l1).length = r0_l1.length := by
  intro k
  induction k with
  | zero => intro i_l0 r0_l1 hk; exact absurd hk (Nat.not_lt_zero _)
  | succ k ih =>
    intro i_l0 r0_l1 hk
    cases h_0 : (decide (i_l0 < (a_0.length : Int))) with
    | true =>
      have e : lo_laws_toFloat32S_1 a_0 (k + 1) i_l0 r0_l1 = (lo_laws_toFloat32S_1 a_0 k (i_l0 + 1) (r0_l1.set i_l0.toNat (a_0.getD i_l0.toNat default))) := by simp only [lo_laws_toFloat32S_1, h_0, cond_true]
      rw [e, ih (i_l0 + 1) (r0_l1.set i_l0.toNat (a_0.getD i_l0.toNat default)) (by first | assumption | omega | (simp_all <;> omega))]; simp
    | false =>
      have e : lo_laws_toFloat32S_1 a_0 (k + 1) i_l0 r0_l1 = r0_l1 := by simp only [lo_laws_toFloat32S_1, h_0, cond_false]
      first | (rw [e]; done) | (rw [e]; rfl)

def lr_laws_toFloat32S_1_0 (a_0 : (List Nat)) : (List Nat) := (lo_laws_toFloat32S_1 a_0 (((a_0.length : Int) - 0).toNat + 1) 0 (List.replicate (a_0.length : Int).toNat 0))

@[simp] theorem len_lr_laws_toFloat32S_1_0_0 (a_0 : (List Nat)) : (lr_laws_toFloat32S_1_0 a_0).length = ((List.replicate (a_0.length : Int).toNat 0) : (List Nat)).length := ln_laws_toFloat32S_1_0 a_0 (((a_0.length : Int) - 0).toNat + 1) 0 (List.replicate (a_0.length : Int).toNat 0) (by first | exact Nat.lt_succ_self _ | simp)

def v_laws_toFloat32S (a_0 : (List Nat)) : (List Nat) := (lr_laws_toFloat32S_1_0 a_0)

@[simp] theorem len_v_laws_toFloat32S_0 (a_0 : (List Nat)) : (v_laws_toFloat32S a_0).length = a_0.length := by
  first | (simp [v_laws_toFloat32S]; done)

theorem t_laws_toFloat32S (a_0 : (List Nat)) (hp0 : a_0.length ≤ 1073741824)  : Fn prog 77 [.sl (a_0.map (cF .f32))] (.own 0) [.vec 22 1 ((v_laws_toFloat32S a_0).map (cF .f32)) false] := by
 have y0 : (0 : Int) ≤ (a_0.length : Int) := (by first | assumption | omega | (simp_all <;> omega))
 have y1 : ((a_0.length : Int) : Int) ≤ 2147483648 := (by first | assumption | omega | (simp_all <;> omega))
 refine fnS E0Ok hMixed (c := bodyOf f77) [] (.own 0) [.vec 22 1 ((lr_laws_toFloat32S_1_0 a_0).map (cF .f32)) false] func77 (sZ (cF .f32) a_0 <| sC (show (a_0.length : Int) = (a_0.length : Int) from rfl) <| sC y0 <| sC y1 <| sL mk_laws_toFloat32S_1_0 1 (lp_cast (st2 := ⟨[.sl (a_0.map (cF .f32)), .any, .nils, .own 0, .i .i64 0, .sl (a_0.map (cF .f32)), .i .i64 (a_0.length : Int), .own 0, .any, .any, .any, .any, .any, .any, .any, .any, .any, .any, .any, .any, .any, .any], [.vec 22 1 (List.replicate (Int.toNat (a_0.length : Int)) [.f .f32 0]) false]⟩) (lp_val (ls_laws_toFloat32S_1 a_0) (x := (lr_laws_toFloat32S_1_0 a_0)) (lp_laws_toFloat32S_1 a_0 hp0 (((a_0.length : Int) - 0).toNat + 1) 0 (List.replicate (a_0.length : Int).toNat 0) (show 0 ≤ 0 from (by first | assumption | omega | (simp_all <;> omega))) (show (List.replicate (a_0.length : Int).toNat 0).length = a_0.length from (by simp)) (Nat.lt_succ_self _)) rfl) (by simp [hd_laws_toFloat32S_1, cF])) <| sK [0] sN) rfl (by kernel_rfl) (by kernel_rfl) rfl ?_ ?_
 · rfl
 · simp [v_laws_toFloat32S]

@[simp] theorem eq_laws_toFloat32S (a : List Nat) : v_laws_toFloat32S a = a := by
  unfold v_laws_toFloat32S lr_laws_toFloat32S_1_0
  rw [copy_all (f := id) (a := a) (lo := lo_laws_toFloat32S_1 a) (fun k i r => rfl)]
  exact List.map_id a

theorem i_laws_toFloat32S (a_0 : (List Nat)) (hp0 : a_0.length ≤ 1073741824) : Fn prog 77 [.sl (a_0.map (cF .f32))] (.own 0) [.vec 22 1 (a_0.map (cF .f32)) false] := by
 simpa only [eq_laws_toFloat32S] using t_laws_toFloat32S  a_0 hp0

def v_laws_toBody (a_0 : GBody) : GBody := a_0

theorem t_laws_toBody (a_0 : GBody) (hp0 : a_0.Mesh.Places.length ≤ 1073741824) (hp1 : a_0.Mesh.Triangles.length ≤ 1073741824) (hp2 : ∀ t ∈ a_0.Mesh.Triangles, t.length ≤ 1073741824) (hp3 : a_0.Springs.length ≤ 1073741824) (hp4 : a_0.Weights.length ≤ 1073741824)  : Fn prog 20 [.agg [.sl (a_0.Mesh.Places.map GVector.cells), .sl (a_0.Mesh.Triangles.map (cL (cI .i64))), .sl (a_0.Springs.map GSpring.cells), .f .f32 a_0.Film, .f .f32 a_0.Bend, .sl (a_0.Weights.map (cF .f32)), .f .f32 a_0.Fall.X, .f .f32 a_0.Fall.Y, .f .f32 a_0.Fall.Z]] (.agg [.own 0, .own 1, .own 2, .f .f32 ((v_laws_toBody a_0).Film), .f .f32 ((v_laws_toBody a_0).Bend), .own 3, .f .f32 ((v_laws_toBody a_0).Fall.X), .f .f32 ((v_laws_toBody a_0).Fall.Y), .f .f32 ((v_laws_toBody a_0).Fall.Z)]) [.vec 44 3 (((v_laws_toBody a_0).Mesh.Places).map GVector.cells) false, .nest 52 (((v_laws_toBody a_0).Mesh.Triangles).map fun l => l.map (cI .i64)) false, .vec 105 4 (((v_laws_toBody a_0).Springs).map GSpring.cells) false, .vec 22 1 (((v_laws_toBody a_0).Weights).map (cF .f32)) false] := by
 refine fnS E0Ok hMixed (c := bodyOf f20) [] (.agg [.own 0, .own 1, .own 2, .f .f32 a_0.Film, .f .f32 a_0.Bend, .own 3, .f .f32 a_0.Fall.X, .f .f32 a_0.Fall.Y, .f .f32 a_0.Fall.Z]) [.vec 44 3 (a_0.Mesh.Places.map GVector.cells) false, .nest 52 (a_0.Mesh.Triangles.map fun l => l.map (cI .i64)) false, .vec 105 4 (a_0.Springs.map GSpring.cells) false, .vec 22 1 (a_0.Weights.map (cF .f32)) false] func20 (sF (i_laws_toMesh a_0.Mesh hp0 hp1 hp2) <| sF (i_laws_toSpringS a_0.Springs hp3) <| sF (i_laws_toFloat32S a_0.Weights hp4) <| sF (i_laws_toVector a_0.Fall) <| sK [3, 4, 5, 6] sN) rfl (by kernel_rfl) (by kernel_rfl) rfl ?_ ?_
 · rfl
 · simp [v_laws_toBody]

@[simp] theorem eq_laws_toBody (a : GBody) : v_laws_toBody a = a := by
  simp [v_laws_toBody]

theorem i_laws_toBody (a_0 : GBody) (hp0 : a_0.Mesh.Places.length ≤ 1073741824) (hp1 : a_0.Mesh.Triangles.length ≤ 1073741824) (hp2 : ∀ t ∈ a_0.Mesh.Triangles, t.length ≤ 1073741824) (hp3 : a_0.Springs.length ≤ 1073741824) (hp4 : a_0.Weights.length ≤ 1073741824) : Fn prog 20 [.agg [.sl (a_0.Mesh.Places.map GVector.cells), .sl (a_0.Mesh.Triangles.map (cL (cI .i64))), .sl (a_0.Springs.map GSpring.cells), .f .f32 a_0.Film, .f .f32 a_0.Bend, .sl (a_0.Weights.map (cF .f32)), .f .f32 a_0.Fall.X, .f .f32 a_0.Fall.Y, .f .f32 a_0.Fall.Z]] (.agg [.own 0, .own 1, .own 2, .f .f32 a_0.Film, .f .f32 a_0.Bend, .own 3, .f .f32 a_0.Fall.X, .f .f32 a_0.Fall.Y, .f .f32 a_0.Fall.Z]) [.vec 44 3 (a_0.Mesh.Places.map GVector.cells) false, .nest 52 (a_0.Mesh.Triangles.map fun l => l.map (cI .i64)) false, .vec 105 4 (a_0.Springs.map GSpring.cells) false, .vec 22 1 (a_0.Weights.map (cF .f32)) false] := by
 simpa only [eq_laws_toBody] using t_laws_toBody  a_0 hp0 hp1 hp2 hp3 hp4

def v_spec_l01Bits (x_0 : Nat) : Int := (cond (fcmp .neq .f32 x_0 x_0)
  2143289344
  (IntKind.wrap .i64 ((x_0 : Nat) : Int)))

theorem t_spec_l01Bits (x_0 : Nat)   : Fn prog 182 [.f .f32 x_0] (.i .i64 (v_spec_l01Bits x_0)) [] := by
 cases h0 : (fcmp .neq .f32 x_0 x_0) with
 | true =>
  refine fnS E0Ok hMixed (c := bodyOf f182) [] (.i .i64 2143289344) [] func182 (sB h0 <| sK [] sN) rfl (by kernel_rfl) (by kernel_rfl) rfl ?_ ?_
  · simp only [v_spec_l01Bits, h0, cond_true]
  · rfl
 | false =>
  refine fnS E0Ok hMixed (c := bodyOf f182) [] (.i .i64 (IntKind.wrap .i64 ((x_0 : Nat) : Int))) [] func182 (sB h0 <| sC (show isNaN .f32 x_0 = false from (by rw [← neq_self]; assumption)) <| sW .i64 ((x_0 : Nat) : Int) <| sK [] sN) rfl (by kernel_rfl) (by kernel_rfl) rfl ?_ ?_
  · simp only [v_spec_l01Bits, h0, cond_false]
  · rfl

def v_spec_l01Same (a_0 : Nat) (b_1 : Nat) : Bool := ((v_spec_l01Bits a_0) == (v_spec_l01Bits b_1))

theorem t_spec_l01Same (a_0 : Nat) (b_1 : Nat)   : Fn prog 144 [.f .f32 a_0, .f .f32 b_1] (.b (v_spec_l01Same a_0 b_1)) [] := by
 refine fnS E0Ok hMixed (c := bodyOf f144) [] (.b ((v_spec_l01Bits a_0) == (v_spec_l01Bits b_1))) [] func144 (sF (t_spec_l01Bits a_0) <| sF (t_spec_l01Bits b_1) <| sK [] sN) rfl (by kernel_rfl) (by kernel_rfl) rfl ?_ ?_
 · rfl
 · rfl

def v_spec_l01VSame (a_0 : GVector) (b_1 : GVector) : Bool := (cond (v_spec_l01Same a_0.X b_1.X)
  (cond (v_spec_l01Same a_0.Y b_1.Y)
    (v_spec_l01Same a_0.Z b_1.Z)
    false)
  false)

theorem t_spec_l01VSame (a_0 : GVector) (b_1 : GVector)   : Fn prog 145 [.agg [.f .f32 a_0.X, .f .f32 a_0.Y, .f .f32 a_0.Z], .agg [.f .f32 b_1.X, .f .f32 b_1.Y, .f .f32 b_1.Z]] (.b (v_spec_l01VSame a_0 b_1)) [] := by
 have p {a C} (s : Scr a C) := sF (t_spec_l01Same a_0.X b_1.X) <| s
 cases h0 : (v_spec_l01Same a_0.X b_1.X) with
 | true =>
  have q {a C} (s : Scr a C) := p (sB h0 <| sB h0 <| sB h0 <| sB h0 <| sB h0 <| sF (t_spec_l01Same a_0.Y b_1.Y) <| sB h0 <| s)
  clear p
  cases h1 : (v_spec_l01Same a_0.Y b_1.Y) with
  | true =>
   refine fnS E0Ok hMixed (c := bodyOf f145) [] (.b (v_spec_l01Same a_0.Z b_1.Z)) [] func145 (q (sB h1 <| sB h1 <| sB h1 <| sB h1 <| sB h1 <| sF (t_spec_l01Same a_0.Z b_1.Z) <| sB h1 <| sK [] sN)) rfl (by kernel_rfl) (by kernel_rfl) rfl ?_ ?_
   · simp only [v_spec_l01VSame, h0, h1, cond_true]
   · rfl
  | false =>
   refine fnS E0Ok hMixed (c := bodyOf f145) [] (.b false) [] func145 (q (sB h1 <| sB h1 <| sB h1 <| sB h1 <| sB h1 <| sB h1 <| sK [] sN)) rfl (by kernel_rfl) (by kernel_rfl) rfl ?_ ?_
   · simp only [v_spec_l01VSame, h0, h1, cond_true, cond_false]
   · rfl
 | false =>
  refine fnS E0Ok hMixed (c := bodyOf f145) [] (.b false) [] func145 (p (sB h0 <| sB h0 <| sB h0 <| sB h0 <| sB h0 <| sB h0 <| sB (show false = false from rfl) <| sB (show false = false from rfl) <| sB (show false = false from rfl) <| sB (show false = false from rfl) <| sB (show false = false from rfl) <| sB (show false = false from rfl) <| sK [] sN)) rfl (by kernel_rfl) (by kernel_rfl) rfl ?_ ?_
  · simp only [v_spec_l01VSame, h0, cond_false]
  · rfl

def lo_spec_l00Same_1 (a_0 : (List Int)) (b_1 : (List Int)) : Nat → Int → (Unit) ⊕ (Unit)
  | 0, _ => .inl default
  | k + 1, i_l0 => (cond (decide (i_l0 < (a_0.length : Int)))
    (cond ((a_0.getD i_l0.toNat default) != (b_1.getD i_l0.toNat default))
      (.inl ())
      (lo_spec_l00Same_1 a_0 b_1 k (i_l0 + 1)))
    (.inr ()))

def ls_spec_l00Same_1 (a_0 : (List Int)) (b_1 : (List Int)) : (Unit) ⊕ (Unit) → Ex × St
  | .inl r => (.ret, ⟨[.any, .any, .any, .any, .b false, .any, .any, .any, .any, .any, .any, .any, .any, .any, .any, .any, .any, .any, .any, .any, .any, .any, .any, .any, .any, .any], []⟩)
  | .inr r => ((.exit 0), ⟨[.sl (a_0.map (cI .i64)), .sl (b_1.map (cI .i64)), .any, .any, .any, .any, .sl (a_0.map (cI .i64)), .i .i64 (a_0.length : Int), .sl (b_1.map (cI .i64)), .i .i64 (b_1.length : Int), .b ((a_0.length : Int) != (b_1.length : Int)), .any, .any, .any, .any, .any, .any, .any, .any, .any, .any, .any, .any, .any, .any, .any], []⟩)

def hd_spec_l00Same_1 (a_0 : (List Int)) (b_1 : (List Int)) (i_l0 : Int) : St := ⟨[.sl (a_0.map (cI .i64)), .sl (b_1.map (cI .i64)), .any, .any, .any, .i .i64 i_l0, .sl (a_0.map (cI .i64)), .i .i64 (a_0.length : Int), .sl (b_1.map (cI .i64)), .i .i64 (b_1.length : Int), .b ((a_0.length : Int) != (b_1.length : Int)), .any, .any, .any, .any, .any, .any, .any, .any, .any, .any, .any, .any, .any, .any, .any], []⟩

def mk_spec_l00Same_1_0 : List Bool := [true, true, false, false, false, true, true, true, true, true, true, false, false, false, false, false, false, false, false, false, false, false, false, false, false, false]

def mk_spec_l00Same_1_1 : List Bool := [false, false, false, false, true, false, false, false, false, false, false, false, false, false, false, false, false, false, false, false, false, false, false, false, false, false]

def mk_spec_l00Same_1_2 : List Bool := [true, true, false, false, false, false, true, true, true, true, true, false, false, false, false, false, false, false, false, false, false, false, false, false, false, false]

theorem lp_spec_l00Same_1 (a_0 : (List Int)) (b_1 : (List Int)) (hp0 : a_0.length ≤ 1073741824) (hp1 : b_1.length ≤ 1073741824) (hf_spec_l00Same_1_0 : ((a_0.length : Int) != (b_1.length : Int)) = false) : ∀ (k : Nat) (i_l0 : Int) (hv_spec_l00Same_1_0 : 0 ≤ i_l0) (hk : ((a_0.length : Int) - i_l0).toNat < k), Lp prog 0 (sub (bodyOf f181) [1, 1, 0, 1, 0, 0]) (hd_spec_l00Same_1 a_0 b_1 i_l0) (ls_spec_l00Same_1 a_0 b_1 (lo_spec_l00Same_1 a_0 b_1 k i_l0)).1 (ls_spec_l00Same_1 a_0 b_1 (lo_spec_l00Same_1 a_0 b_1 k i_l0)).2 := by
 intro k
 induction k with
 | zero => intro i_l0 hv_spec_l00Same_1_0 hk; exact absurd hk (Nat.not_lt_zero _)
 | succ k ih =>
  intro i_l0 hv_spec_l00Same_1_0 hk
  have p {a C} (s : Scr a C) := sZ (cI .i64) a_0 <| s
  cases h_0 : (decide (i_l0 < (a_0.length : Int))) with
  | true =>
   have gh_0 := of_decide_eq_true h_0
   have y_0 : (0 : Int) ≤ i_l0 := by clear p; exact (by first | assumption | omega | (simp_all <;> omega))
   have y_1 : i_l0 < (a_0.length : Int) := by clear p; exact (by first | assumption | omega | (simp_all <;> omega))
   have y_2 : i_l0 < (b_1.length : Int) := by clear p; exact (by first | assumption | omega | (simp_all <;> omega))
   have q {a C} (s : Scr a C) := p (sB h_0 <| sK [8, 8] <| sG (cI .i64) a_0 i_l0 y_0 y_1 <| sG (cI .i64) b_1 i_l0 y_0 y_2 <| s)
   clear p
   cases h_1 : ((a_0.getD i_l0.toNat default) != (b_1.getD i_l0.toNat default)) with
   | true =>
    have gh_1 := bne_iff_ne.1 h_1
    have e : lo_spec_l00Same_1 a_0 b_1 (k + 1) i_l0 = (.inl ()) := by simp only [lo_spec_l00Same_1, h_0, h_1, cond_true]
    rw [e]
    exact outR (e := .ret) E0Ok hMixed [] mk_spec_l00Same_1_1 [] (q (sB h_1 <| sN)) (by kernel_rfl) (by intro h; cases h)
   | false =>
    have gh_1 := bne_eq_false_iff_eq.1 h_1
    have y_3 : (-9223372036854775808 : Int) ≤ (i_l0 + 1) := by clear q; exact (by first | assumption | omega | (simp_all <;> omega))
    have y_4 : (i_l0 + 1) ≤ (9223372036854775807 : Int) := by clear q; exact (by first | assumption | omega | (simp_all <;> omega))
    have e : lo_spec_l00Same_1 a_0 b_1 (k + 1) i_l0 = (lo_spec_l00Same_1 a_0 b_1 k (i_l0 + 1)) := by simp only [lo_spec_l00Same_1, h_0, h_1, cond_true, cond_false]
    rw [e]
    exact nextR E0Ok hMixed [] mk_spec_l00Same_1_0 [] (ih (i_l0 + 1) (show 0 ≤ (i_l0 + 1) from (by first | assumption | omega | (simp_all <;> omega))) (by first | assumption | omega | (simp_all <;> omega))) (q (sB h_1 <| sI (i_l0 + 1) y_3 y_4 <| sN)) (by kernel_rfl)
  | false =>
   have gh_0 := of_decide_eq_false h_0
   have e : lo_spec_l00Same_1 a_0 b_1 (k + 1) i_l0 = (.inr ()) := by simp only [lo_spec_l00Same_1, h_0, cond_false]
   rw [e]
   exact outR (e := (.exit 0)) E0Ok hMixed [] mk_spec_l00Same_1_2 [] (p (sB h_0 <| sN)) (by kernel_rfl) (by intro h; cases h)

def lr_spec_l00Same_1_0 (a_0 : (List Int)) (b_1 : (List Int)) : (Unit) ⊕ (Unit) := (lo_spec_l00Same_1 a_0 b_1 (((a_0.length : Int) - 0).toNat + 1) 0)

def v_spec_l00Same (a_0 : (List Int)) (b_1 : (List Int)) : Bool := (cond ((a_0.length : Int) != (b_1.length : Int))
  false
  (match (lr_spec_l00Same_1_0 a_0 b_1) with
    | .inl r2 => false
    | .inr r2 => true))

theorem t_spec_l00Same (a_0 : (List Int)) (b_1 : (List Int)) (hp0 : a_0.length ≤ 1073741824) (hp1 : b_1.length ≤ 1073741824)  : Fn prog 181 [.sl (a_0.map (cI .i64)), .sl (b_1.map (cI .i64))] (.b (v_spec_l00Same a_0 b_1)) [] := by
 have p {a C} (s : Scr a C) := sZ (cI .i64) a_0 <| sZ (cI .i64) b_1 <| s
 cases h0 : ((a_0.length : Int) != (b_1.length : Int)) with
 | true =>
  have gh0 := bne_iff_ne.1 h0
  refine fnS E0Ok hMixed (c := bodyOf f181) [] (.b false) [] func181 (p (sB h0 <| sK [] sN)) rfl (by kernel_rfl) (by kernel_rfl) rfl ?_ ?_
  · simp only [v_spec_l00Same, h0, cond_true]
  · rfl
 | false =>
  have gh0 := bne_eq_false_iff_eq.1 h0
  have q {a C} (s : Scr a C) := p (sB h0 <| s)
  clear p
  cases h1 : (lr_spec_l00Same_1_0 a_0 b_1) with
  | inl r2 =>
   refine fnS E0Ok hMixed (c := bodyOf f181) [] (.b false) [] func181 (q (sL mk_spec_l00Same_1_0 0 (lp_val (ls_spec_l00Same_1 a_0 b_1) (x := (lr_spec_l00Same_1_0 a_0 b_1)) (lp_spec_l00Same_1 a_0 b_1 hp0 hp1 h0 (((a_0.length : Int) - 0).toNat + 1) 0 (show 0 ≤ 0 from (by first | assumption | omega | (simp_all <;> omega))) (Nat.lt_succ_self _)) h1) <| sK [] sN)) rfl (by kernel_rfl) (by kernel_rfl) rfl ?_ ?_
   · simp only [v_spec_l00Same, h0, h1, cond_false]
   · rfl
  | inr r2 =>
   refine fnS E0Ok hMixed (c := bodyOf f181) [] (.b true) [] func181 (q (sL mk_spec_l00Same_1_0 0 (lp_val (ls_spec_l00Same_1 a_0 b_1) (x := (lr_spec_l00Same_1_0 a_0 b_1)) (lp_spec_l00Same_1 a_0 b_1 hp0 hp1 h0 (((a_0.length : Int) - 0).toNat + 1) 0 (show 0 ≤ 0 from (by first | assumption | omega | (simp_all <;> omega))) (Nat.lt_succ_self _)) h1) <| sK [] sN)) rfl (by kernel_rfl) (by kernel_rfl) rfl ?_ ?_
   · simp only [v_spec_l00Same, h0, h1, cond_false]
   · rfl

def lo_spec_SameMesh_1 (a_0 : GMesh) (b_1 : GMesh) : Nat → Int → (Unit) ⊕ (Unit)
  | 0, _ => .inl default
  | k + 1, i_l0 => (cond (decide (i_l0 < (a_0.Places.length : Int)))
    (cond (v_spec_l01VSame (a_0.Places.getD i_l0.toNat default) (b_1.Places.getD i_l0.toNat default))
      (lo_spec_SameMesh_1 a_0 b_1 k (i_l0 + 1))
      (.inl ()))
    (.inr ()))

def ls_spec_SameMesh_1 (a_0 : GMesh) (b_1 : GMesh) : (Unit) ⊕ (Unit) → Ex × St
  | .inl r => (.ret, ⟨[.any, .any, .any, .any, .b false, .any, .any, .any, .any, .any, .any, .any, .any, .any, .any, .any, .any, .any, .any, .any, .any, .any, .any, .any, .any, .any, .any, .any, .any, .any, .any, .any, .any, .any, .any, .any, .any, .any, .any, .any, .any, .any, .any, .any, .any, .any, .any, .any, .any, .any, .any, .any, .any, .any, .any, .any, .any, .any, .any, .any, .any], []⟩)
  | .inr r => ((.exit 0), ⟨[.agg [.sl (a_0.Places.map GVector.cells), .sl (a_0.Triangles.map (cL (cI .i64)))], .agg [.sl (b_1.Places.map GVector.cells), .sl (b_1.Triangles.map (cL (cI .i64)))], .ptr 0 0 0, .ptr 1 0 0, .any, .any, .any, .ptr 0 0 0, .sl (a_0.Places.map GVector.cells), .i .i64 (a_0.Places.length : Int), .ptr 1 0 0, .sl (b_1.Places.map GVector.cells), .i .i64 (b_1.Places.length : Int), .b ((a_0.Places.length : Int) != (b_1.Places.length : Int)), .b ((a_0.Places.length : Int) != (b_1.Places.length : Int)), .ptr 0 0 1, .sl (a_0.Triangles.map (cL (cI .i64))), .i .i64 (a_0.Triangles.length : Int), .ptr 1 0 1, .sl (b_1.Triangles.map (cL (cI .i64))), .i .i64 (b_1.Triangles.length : Int), .b ((a_0.Triangles.length : Int) != (b_1.Triangles.length : Int)), .b ((a_0.Triangles.length : Int) != (b_1.Triangles.length : Int)), .any, .any, .any, .any, .any, .any, .any, .any, .any, .any, .any, .any, .any, .any, .any, .any, .any, .any, .any, .any, .any, .any, .any, .any, .any, .any, .any, .any, .any, .any, .any, .any, .any, .any, .any, .any, .any, .any], [.box 42 [.sl (a_0.Places.map GVector.cells), .sl (a_0.Triangles.map (cL (cI .i64)))], .box 42 [.sl (b_1.Places.map GVector.cells), .sl (b_1.Triangles.map (cL (cI .i64)))]]⟩)

def hd_spec_SameMesh_1 (a_0 : GMesh) (b_1 : GMesh) (i_l0 : Int) : St := ⟨[.agg [.sl (a_0.Places.map GVector.cells), .sl (a_0.Triangles.map (cL (cI .i64)))], .agg [.sl (b_1.Places.map GVector.cells), .sl (b_1.Triangles.map (cL (cI .i64)))], .ptr 0 0 0, .ptr 1 0 0, .any, .i .i64 i_l0, .any, .ptr 0 0 0, .sl (a_0.Places.map GVector.cells), .i .i64 (a_0.Places.length : Int), .ptr 1 0 0, .sl (b_1.Places.map GVector.cells), .i .i64 (b_1.Places.length : Int), .b ((a_0.Places.length : Int) != (b_1.Places.length : Int)), .b ((a_0.Places.length : Int) != (b_1.Places.length : Int)), .ptr 0 0 1, .sl (a_0.Triangles.map (cL (cI .i64))), .i .i64 (a_0.Triangles.length : Int), .ptr 1 0 1, .sl (b_1.Triangles.map (cL (cI .i64))), .i .i64 (b_1.Triangles.length : Int), .b ((a_0.Triangles.length : Int) != (b_1.Triangles.length : Int)), .b ((a_0.Triangles.length : Int) != (b_1.Triangles.length : Int)), .any, .any, .any, .any, .any, .any, .any, .any, .any, .any, .any, .any, .any, .any, .any, .any, .any, .any, .any, .any, .any, .any, .any, .any, .any, .any, .any, .any, .any, .any, .any, .any, .any, .any, .any, .any, .any, .any], [.box 42 [.sl (a_0.Places.map GVector.cells), .sl (a_0.Triangles.map (cL (cI .i64)))], .box 42 [.sl (b_1.Places.map GVector.cells), .sl (b_1.Triangles.map (cL (cI .i64)))]]⟩

def mk_spec_SameMesh_1_0 : List Bool := [true, true, true, true, false, true, false, true, true, true, true, true, true, true, true, true, true, true, true, true, true, true, true, false, false, false, false, false, false, false, false, false, false, false, false, false, false, false, false, false, false, false, false, false, false, false, false, false, false, false, false, false, false, false, false, false, false, false, false, false, false]

def mk_spec_SameMesh_1_1 : List Bool := [false, false, false, false, true, false, false, false, false, false, false, false, false, false, false, false, false, false, false, false, false, false, false, false, false, false, false, false, false, false, false, false, false, false, false, false, false, false, false, false, false, false, false, false, false, false, false, false, false, false, false, false, false, false, false, false, false, false, false, false, false]

def mk_spec_SameMesh_1_2 : List Bool := [true, true, true, true, false, false, false, true, true, true, true, true, true, true, true, true, true, true, true, true, true, true, true, false, false, false, false, false, false, false, false, false, false, false, false, false, false, false, false, false, false, false, false, false, false, false, false, false, false, false, false, false, false, false, false, false, false, false, false, false, false]

theorem lp_spec_SameMesh_1 (a_0 : GMesh) (b_1 : GMesh) (hp0 : a_0.Places.length ≤ 1073741824) (hp1 : a_0.Triangles.length ≤ 1073741824) (hp2 : ∀ t ∈ a_0.Triangles, t.length ≤ 1073741824) (hp3 : b_1.Places.length ≤ 1073741824) (hp4 : b_1.Triangles.length ≤ 1073741824) (hp5 : ∀ t ∈ b_1.Triangles, t.length ≤ 1073741824) (hf_spec_SameMesh_1_0 : ((a_0.Places.length : Int) != (b_1.Places.length : Int)) = false) (hf_spec_SameMesh_1_1 : ((a_0.Triangles.length : Int) != (b_1.Triangles.length : Int)) = false) : ∀ (k : Nat) (i_l0 : Int) (hv_spec_SameMesh_1_0 : 0 ≤ i_l0) (hk : ((a_0.Places.length : Int) - i_l0).toNat < k), Lp prog 0 (sub (bodyOf f142) [1, 1, 0, 1, 0, 0]) (hd_spec_SameMesh_1 a_0 b_1 i_l0) (ls_spec_SameMesh_1 a_0 b_1 (lo_spec_SameMesh_1 a_0 b_1 k i_l0)).1 (ls_spec_SameMesh_1 a_0 b_1 (lo_spec_SameMesh_1 a_0 b_1 k i_l0)).2 := by
 intro k
 induction k with
 | zero => intro i_l0 hv_spec_SameMesh_1_0 hk; exact absurd hk (Nat.not_lt_zero _)
 | succ k ih =>
  intro i_l0 hv_spec_SameMesh_1_0 hk
  have p {a C} (s : Scr a C) := sZ GVector.cells a_0.Places <| s
  cases h_0 : (decide (i_l0 < (a_0.Places.length : Int))) with
  | true =>
   have gh_0 := of_decide_eq_true h_0
   have y_0 : (0 : Int) ≤ i_l0 := by clear p; exact (by first | assumption | omega | (simp_all <;> omega))
   have y_1 : i_l0 < (a_0.Places.length : Int) := by clear p; exact (by first | assumption | omega | (simp_all <;> omega))
   have y_2 : i_l0 < (b_1.Places.length : Int) := by clear p; exact (by first | assumption | omega | (simp_all <;> omega))
   have q {a C} (s : Scr a C) := p (sB h_0 <| sK [10, 10] <| sG GVector.cells a_0.Places i_l0 y_0 y_1 <| sG GVector.cells b_1.Places i_l0 y_0 y_2 <| sF (t_spec_l01VSame (a_0.Places.getD i_l0.toNat default) (b_1.Places.getD i_l0.toNat default)) <| s)
   clear p
   cases h_1 : (v_spec_l01VSame (a_0.Places.getD i_l0.toNat default) (b_1.Places.getD i_l0.toNat default)) with
   | true =>
    have y_3 : (-9223372036854775808 : Int) ≤ (i_l0 + 1) := by clear q; exact (by first | assumption | omega | (simp_all <;> omega))
    have y_4 : (i_l0 + 1) ≤ (9223372036854775807 : Int) := by clear q; exact (by first | assumption | omega | (simp_all <;> omega))
    have e : lo_spec_SameMesh_1 a_0 b_1 (k + 1) i_l0 = (lo_spec_SameMesh_1 a_0 b_1 k (i_l0 + 1)) := by simp only [lo_spec_SameMesh_1, h_0, h_1, cond_true]
    rw [e]
    exact nextR E0Ok hMixed [] mk_spec_SameMesh_1_0 [0, 1] (ih (i_l0 + 1) (show 0 ≤ (i_l0 + 1) from (by first | assumption | omega | (simp_all <;> omega))) (by first | assumption | omega | (simp_all <;> omega))) (q (sB' h_1 <| sI (i_l0 + 1) y_3 y_4 <| sN)) (by kernel_rfl)
   | false =>
    have e : lo_spec_SameMesh_1 a_0 b_1 (k + 1) i_l0 = (.inl ()) := by simp only [lo_spec_SameMesh_1, h_0, h_1, cond_true, cond_false]
    rw [e]
    exact outR (e := .ret) E0Ok hMixed [] mk_spec_SameMesh_1_1 [] (q (sB' h_1 <| sN)) (by kernel_rfl) (by intro h; cases h)
  | false =>
   have gh_0 := of_decide_eq_false h_0
   have e : lo_spec_SameMesh_1 a_0 b_1 (k + 1) i_l0 = (.inr ()) := by simp only [lo_spec_SameMesh_1, h_0, cond_false]
   rw [e]
   exact outR (e := (.exit 0)) E0Ok hMixed [] mk_spec_SameMesh_1_2 [0, 1] (p (sB h_0 <| sN)) (by kernel_rfl) (by intro h; cases h)

def lr_spec_SameMesh_1_0 (a_0 : GMesh) (b_1 : GMesh) : (Unit) ⊕ (Unit) := (lo_spec_SameMesh_1 a_0 b_1 (((a_0.Places.length : Int) - 0).toNat + 1) 0)

def lo_spec_SameMesh_2 (a_0 : GMesh) (b_1 : GMesh) : Nat → Int → (Unit) ⊕ (Unit)
  | 0, _ => .inl default
  | k + 1, i_l0 => (cond (decide (i_l0 < (a_0.Triangles.length : Int)))
    (cond (v_spec_l00Same (a_0.Triangles.getD i_l0.toNat default) (b_1.Triangles.getD i_l0.toNat default))
      (lo_spec_SameMesh_2 a_0 b_1 k (i_l0 + 1))
      (.inl ()))
    (.inr ()))

def ls_spec_SameMesh_2 (a_0 : GMesh) (b_1 : GMesh) : (Unit) ⊕ (Unit) → Ex × St
  | .inl r => (.ret, ⟨[.any, .any, .any, .any, .b false, .any, .any, .any, .any, .any, .any, .any, .any, .any, .any, .any, .any, .any, .any, .any, .any, .any, .any, .any, .any, .any, .any, .any, .any, .any, .any, .any, .any, .any, .any, .any, .any, .any, .any, .any, .any, .any, .any, .any, .any, .any, .any, .any, .any, .any, .any, .any, .any, .any, .any, .any, .any, .any, .any, .any, .any], []⟩)
  | .inr r => ((.exit 2), ⟨[.agg [.sl (a_0.Places.map GVector.cells), .sl (a_0.Triangles.map (cL (cI .i64)))], .agg [.sl (b_1.Places.map GVector.cells), .sl (b_1.Triangles.map (cL (cI .i64)))], .ptr 0 0 0, .ptr 1 0 0, .any, .any, .any, .ptr 0 0 0, .sl (a_0.Places.map GVector.cells), .i .i64 (a_0.Places.length : Int), .ptr 1 0 0, .sl (b_1.Places.map GVector.cells), .i .i64 (b_1.Places.length : Int), .b ((a_0.Places.length : Int) != (b_1.Places.length : Int)), .b ((a_0.Places.length : Int) != (b_1.Places.length : Int)), .ptr 0 0 1, .sl (a_0.Triangles.map (cL (cI .i64))), .i .i64 (a_0.Triangles.length : Int), .ptr 1 0 1, .sl (b_1.Triangles.map (cL (cI .i64))), .i .i64 (b_1.Triangles.length : Int), .b ((a_0.Triangles.length : Int) != (b_1.Triangles.length : Int)), .b ((a_0.Triangles.length : Int) != (b_1.Triangles.length : Int)), .any, .any, .any, .any, .any, .any, .any, .any, .any, .any, .any, .any, .any, .any, .any, .any, .any, .any, .any, .any, .any, .any, .any, .any, .any, .any, .any, .any, .any, .any, .any, .any, .any, .any, .any, .any, .any, .any], [.box 42 [.sl (a_0.Places.map GVector.cells), .sl (a_0.Triangles.map (cL (cI .i64)))], .box 42 [.sl (b_1.Places.map GVector.cells), .sl (b_1.Triangles.map (cL (cI .i64)))]]⟩)

def hd_spec_SameMesh_2 (a_0 : GMesh) (b_1 : GMesh) (i_l0 : Int) : St := ⟨[.agg [.sl (a_0.Places.map GVector.cells), .sl (a_0.Triangles.map (cL (cI .i64)))], .agg [.sl (b_1.Places.map GVector.cells), .sl (b_1.Triangles.map (cL (cI .i64)))], .ptr 0 0 0, .ptr 1 0 0, .any, .any, .i .i64 i_l0, .ptr 0 0 0, .sl (a_0.Places.map GVector.cells), .i .i64 (a_0.Places.length : Int), .ptr 1 0 0, .sl (b_1.Places.map GVector.cells), .i .i64 (b_1.Places.length : Int), .b ((a_0.Places.length : Int) != (b_1.Places.length : Int)), .b ((a_0.Places.length : Int) != (b_1.Places.length : Int)), .ptr 0 0 1, .sl (a_0.Triangles.map (cL (cI .i64))), .i .i64 (a_0.Triangles.length : Int), .ptr 1 0 1, .sl (b_1.Triangles.map (cL (cI .i64))), .i .i64 (b_1.Triangles.length : Int), .b ((a_0.Triangles.length : Int) != (b_1.Triangles.length : Int)), .b ((a_0.Triangles.length : Int) != (b_1.Triangles.length : Int)), .any, .any, .any, .any, .any, .any, .any, .any, .any, .any, .any, .any, .any, .any, .any, .any, .any, .any, .any, .any, .any, .any, .any, .any, .any, .any, .any, .any, .any, .any, .any, .any, .any, .any, .any, .any, .any, .any], [.box 42 [.sl (a_0.Places.map GVector.cells), .sl (a_0.Triangles.map (cL (cI .i64)))], .box 42 [.sl (b_1.Places.map GVector.cells), .sl (b_1.Triangles.map (cL (cI .i64)))]]⟩

def mk_spec_SameMesh_2_0 : List Bool := [true, true, true, true, false, false, true, true, true, true, true, true, true, true, true, true, true, true, true, true, true, true, true, false, false, false, false, false, false, false, false, false, false, false, false, false, false, false, false, false, false, false, false, false, false, false, false, false, false, false, false, false, false, false, false, false, false, false, false, false, false]

def mk_spec_SameMesh_2_1 : List Bool := [false, false, false, false, true, false, false, false, false, false, false, false, false, false, false, false, false, false, false, false, false, false, false, false, false, false, false, false, false, false, false, false, false, false, false, false, false, false, false, false, false, false, false, false, false, false, false, false, false, false, false, false, false, false, false, false, false, false, false, false, false]

def mk_spec_SameMesh_2_2 : List Bool := [true, true, true, true, false, false, false, true, true, true, true, true, true, true, true, true, true, true, true, true, true, true, true, false, false, false, false, false, false, false, false, false, false, false, false, false, false, false, false, false, false, false, false, false, false, false, false, false, false, false, false, false, false, false, false, false, false, false, false, false, false]

theorem lp_spec_SameMesh_2 (a_0 : GMesh) (b_1 : GMesh) (hp0 : a_0.Places.length ≤ 1073741824) (hp1 : a_0.Triangles.length ≤ 1073741824) (hp2 : ∀ t ∈ a_0.Triangles, t.length ≤ 1073741824) (hp3 : b_1.Places.length ≤ 1073741824) (hp4 : b_1.Triangles.length ≤ 1073741824) (hp5 : ∀ t ∈ b_1.Triangles, t.length ≤ 1073741824) (hf_spec_SameMesh_2_0 : ((a_0.Places.length : Int) != (b_1.Places.length : Int)) = false) (hf_spec_SameMesh_2_1 : ((a_0.Triangles.length : Int) != (b_1.Triangles.length : Int)) = false) : ∀ (k : Nat) (i_l0 : Int) (hv_spec_SameMesh_2_0 : 0 ≤ i_l0) (hk : ((a_0.Triangles.length : Int) - i_l0).toNat < k), Lp prog 0 (sub (bodyOf f142) [1, 1, 1, 0, 1, 0, 0]) (hd_spec_SameMesh_2 a_0 b_1 i_l0) (ls_spec_SameMesh_2 a_0 b_1 (lo_spec_SameMesh_2 a_0 b_1 k i_l0)).1 (ls_spec_SameMesh_2 a_0 b_1 (lo_spec_SameMesh_2 a_0 b_1 k i_l0)).2 := by
 intro k
 induction k with
 | zero => intro i_l0 hv_spec_SameMesh_2_0 hk; exact absurd hk (Nat.not_lt_zero _)
 | succ k ih =>
  intro i_l0 hv_spec_SameMesh_2_0 hk
  have p {a C} (s : Scr a C) := sZ (cL (cI .i64)) a_0.Triangles <| s
  cases h_0 : (decide (i_l0 < (a_0.Triangles.length : Int))) with
  | true =>
   have gh_0 := of_decide_eq_true h_0
   have y_0 : (0 : Int) ≤ i_l0 := by clear p; exact (by first | assumption | omega | (simp_all <;> omega))
   have y_1 : i_l0 < (a_0.Triangles.length : Int) := by clear p; exact (by first | assumption | omega | (simp_all <;> omega))
   have y_2 : i_l0 < (b_1.Triangles.length : Int) := by clear p; exact (by first | assumption | omega | (simp_all <;> omega))
   have y_3 : (a_0.Triangles.getD i_l0.toNat default).length ≤ 1073741824 := by clear p; exact (by first | assumption | omega | (simp_all <;> omega))
   have y_4 : (b_1.Triangles.getD i_l0.toNat default).length ≤ 1073741824 := by clear p; exact (by first | assumption | omega | (simp_all <;> omega))
   have q {a C} (s : Scr a C) := p (sB h_0 <| sK [10, 10] <| sG (cL (cI .i64)) a_0.Triangles i_l0 y_0 y_1 <| sG (cL (cI .i64)) b_1.Triangles i_l0 y_0 y_2 <| sF (t_spec_l00Same (a_0.Triangles.getD i_l0.toNat default) (b_1.Triangles.getD i_l0.toNat default) y_3 y_4) <| s)
   clear p
   cases h_1 : (v_spec_l00Same (a_0.Triangles.getD i_l0.toNat default) (b_1.Triangles.getD i_l0.toNat default)) with
   | true =>
    have y_5 : (-9223372036854775808 : Int) ≤ (i_l0 + 1) := by clear q; exact (by first | assumption | omega | (simp_all <;> omega))
    have y_6 : (i_l0 + 1) ≤ (9223372036854775807 : Int) := by clear q; exact (by first | assumption | omega | (simp_all <;> omega))
    have e : lo_spec_SameMesh_2 a_0 b_1 (k + 1) i_l0 = (lo_spec_SameMesh_2 a_0 b_1 k (i_l0 + 1)) := by simp only [lo_spec_SameMesh_2, h_0, h_1, cond_true]
    rw [e]
    exact nextR E0Ok hMixed [] mk_spec_SameMesh_2_0 [0, 1] (ih (i_l0 + 1) (show 0 ≤ (i_l0 + 1) from (by first | assumption | omega | (simp_all <;> omega))) (by first | assumption | omega | (simp_all <;> omega))) (q (sB' h_1 <| sI (i_l0 + 1) y_5 y_6 <| sN)) (by kernel_rfl)
   | false =>
    have e : lo_spec_SameMesh_2 a_0 b_1 (k + 1) i_l0 = (.inl ()) := by simp only [lo_spec_SameMesh_2, h_0, h_1, cond_true, cond_false]
    rw [e]
    exact outR (e := .ret) E0Ok hMixed [] mk_spec_SameMesh_2_1 [] (q (sB' h_1 <| sN)) (by kernel_rfl) (by intro h; cases h)
  | false =>
   have gh_0 := of_decide_eq_false h_0
   have e : lo_spec_SameMesh_2 a_0 b_1 (k + 1) i_l0 = (.inr ()) := by simp only [lo_spec_SameMesh_2, h_0, cond_false]
   rw [e]
   exact outR (e := (.exit 2)) E0Ok hMixed [] mk_spec_SameMesh_2_2 [0, 1] (p (sB h_0 <| sN)) (by kernel_rfl) (by intro h; cases h)

def lr_spec_SameMesh_2_1 (a_0 : GMesh) (b_1 : GMesh) : (Unit) ⊕ (Unit) := (lo_spec_SameMesh_2 a_0 b_1 (((a_0.Triangles.length : Int) - 0).toNat + 1) 0)

def v_spec_SameMesh (a_0 : GMesh) (b_1 : GMesh) : Bool := (cond ((a_0.Places.length : Int) != (b_1.Places.length : Int))
  false
  (cond ((a_0.Triangles.length : Int) != (b_1.Triangles.length : Int))
    false
    (match (lr_spec_SameMesh_1_0 a_0 b_1) with
      | .inl r3 => false
      | .inr r3 => (match (lr_spec_SameMesh_2_1 a_0 b_1) with
        | .inl r4 => false
        | .inr r4 => true))))

theorem t_spec_SameMesh (a_0 : GMesh) (b_1 : GMesh) (hp0 : a_0.Places.length ≤ 1073741824) (hp1 : a_0.Triangles.length ≤ 1073741824) (hp2 : ∀ t ∈ a_0.Triangles, t.length ≤ 1073741824) (hp3 : b_1.Places.length ≤ 1073741824) (hp4 : b_1.Triangles.length ≤ 1073741824) (hp5 : ∀ t ∈ b_1.Triangles, t.length ≤ 1073741824)  : Fn prog 142 [.agg [.sl (a_0.Places.map GVector.cells), .sl (a_0.Triangles.map (cL (cI .i64)))], .agg [.sl (b_1.Places.map GVector.cells), .sl (b_1.Triangles.map (cL (cI .i64)))]] (.b (v_spec_SameMesh a_0 b_1)) [] := by
 have p {a C} (s : Scr a C) := sZ GVector.cells a_0.Places <| sZ GVector.cells b_1.Places <| s
 cases h0 : ((a_0.Places.length : Int) != (b_1.Places.length : Int)) with
 | true =>
  have gh0 := bne_iff_ne.1 h0
  refine fnS E0Ok hMixed (c := bodyOf f142) [] (.b false) [] func142 (p (sB h0 <| sB h0 <| sB h0 <| sB h0 <| sB h0 <| sB h0 <| sB h0 <| sB h0 <| sB (show true = true from rfl) <| sK [] sN)) rfl (by kernel_rfl) (by kernel_rfl) rfl ?_ ?_
  · simp only [v_spec_SameMesh, h0, cond_true]
  · rfl
 | false =>
  have gh0 := bne_eq_false_iff_eq.1 h0
  have q {a C} (s : Scr a C) := p (sB h0 <| sB h0 <| sB h0 <| sZ (cL (cI .i64)) a_0.Triangles <| sB h0 <| sB h0 <| sB h0 <| sZ (cL (cI .i64)) b_1.Triangles <| sB h0 <| sB h0 <| s)
  clear p
  cases h1 : ((a_0.Triangles.length : Int) != (b_1.Triangles.length : Int)) with
  | true =>
   have gh1 := bne_iff_ne.1 h1
   refine fnS E0Ok hMixed (c := bodyOf f142) [] (.b false) [] func142 (q (sB h1 <| sK [] sN)) rfl (by kernel_rfl) (by kernel_rfl) rfl ?_ ?_
   · simp only [v_spec_SameMesh, h0, h1, cond_true, cond_false]
   · rfl
  | false =>
   have gh1 := bne_eq_false_iff_eq.1 h1
   have p {a C} (s : Scr a C) := q (sB h1 <| s)
   clear q
   cases h2 : (lr_spec_SameMesh_1_0 a_0 b_1) with
   | inl r3 =>
    refine fnS E0Ok hMixed (c := bodyOf f142) [] (.b false) [] func142 (p (sL mk_spec_SameMesh_1_0 2 (lp_val (ls_spec_SameMesh_1 a_0 b_1) (x := (lr_spec_SameMesh_1_0 a_0 b_1)) (lp_spec_SameMesh_1 a_0 b_1 hp0 hp1 hp2 hp3 hp4 hp5 h0 h1 (((a_0.Places.length : Int) - 0).toNat + 1) 0 (show 0 ≤ 0 from (by first | assumption | omega | (simp_all <;> omega))) (Nat.lt_succ_self _)) h2) <| sK [] sN)) rfl (by kernel_rfl) (by kernel_rfl) rfl ?_ ?_
    · simp only [v_spec_SameMesh, h0, h1, h2, cond_false]
    · rfl
   | inr r3 =>
    have q {a C} (s : Scr a C) := p (sL mk_spec_SameMesh_1_0 2 (lp_val (ls_spec_SameMesh_1 a_0 b_1) (x := (lr_spec_SameMesh_1_0 a_0 b_1)) (lp_spec_SameMesh_1 a_0 b_1 hp0 hp1 hp2 hp3 hp4 hp5 h0 h1 (((a_0.Places.length : Int) - 0).toNat + 1) 0 (show 0 ≤ 0 from (by first | assumption | omega | (simp_all <;> omega))) (Nat.lt_succ_self _)) h2) <| s)
    clear p
    cases h3 : (lr_spec_SameMesh_2_1 a_0 b_1) with
    | inl r4 =>
     refine fnS E0Ok hMixed (c := bodyOf f142) [] (.b false) [] func142 (q (sL mk_spec_SameMesh_2_0 2 (lp_val (ls_spec_SameMesh_2 a_0 b_1) (x := (lr_spec_SameMesh_2_1 a_0 b_1)) (lp_spec_SameMesh_2 a_0 b_1 hp0 hp1 hp2 hp3 hp4 hp5 h0 h1 (((a_0.Triangles.length : Int) - 0).toNat + 1) 0 (show 0 ≤ 0 from (by first | assumption | omega | (simp_all <;> omega))) (Nat.lt_succ_self _)) h3) <| sK [] sN)) rfl (by kernel_rfl) (by kernel_rfl) rfl ?_ ?_
     · simp only [v_spec_SameMesh, h0, h1, h2, h3, cond_false]
     · rfl
    | inr r4 =>
     refine fnS E0Ok hMixed (c := bodyOf f142) [] (.b true) [] func142 (q (sL mk_spec_SameMesh_2_0 2 (lp_val (ls_spec_SameMesh_2 a_0 b_1) (x := (lr_spec_SameMesh_2_1 a_0 b_1)) (lp_spec_SameMesh_2 a_0 b_1 hp0 hp1 hp2 hp3 hp4 hp5 h0 h1 (((a_0.Triangles.length : Int) - 0).toNat + 1) 0 (show 0 ≤ 0 from (by first | assumption | omega | (simp_all <;> omega))) (Nat.lt_succ_self _)) h3) <| sK [] sN)) rfl (by kernel_rfl) (by kernel_rfl) rfl ?_ ?_
     · simp only [v_spec_SameMesh, h0, h1, h2, h3, cond_false]
     · rfl

def lo_spec_l01SameAll_1 (a_0 : (List Nat)) (b_1 : (List Nat)) : Nat → Int → (Unit) ⊕ (Unit)
  | 0, _ => .inl default
  | k + 1, i_l0 => (cond (decide (i_l0 < (a_0.length : Int)))
    (cond (v_spec_l01Same (a_0.getD i_l0.toNat default) (b_1.getD i_l0.toNat default))
      (lo_spec_l01SameAll_1 a_0 b_1 k (i_l0 + 1))
      (.inl ()))
    (.inr ()))

def ls_spec_l01SameAll_1 (a_0 : (List Nat)) (b_1 : (List Nat)) : (Unit) ⊕ (Unit) → Ex × St
  | .inl r => (.ret, ⟨[.any, .any, .any, .any, .b false, .any, .any, .any, .any, .any, .any, .any, .any, .any, .any, .any, .any, .any, .any, .any, .any, .any, .any, .any, .any, .any, .any], []⟩)
  | .inr r => ((.exit 0), ⟨[.sl (a_0.map (cF .f32)), .sl (b_1.map (cF .f32)), .any, .any, .any, .any, .sl (a_0.map (cF .f32)), .i .i64 (a_0.length : Int), .sl (b_1.map (cF .f32)), .i .i64 (b_1.length : Int), .b ((a_0.length : Int) != (b_1.length : Int)), .any, .any, .any, .any, .any, .any, .any, .any, .any, .any, .any, .any, .any, .any, .any, .any], []⟩)

def hd_spec_l01SameAll_1 (a_0 : (List Nat)) (b_1 : (List Nat)) (i_l0 : Int) : St := ⟨[.sl (a_0.map (cF .f32)), .sl (b_1.map (cF .f32)), .any, .any, .any, .i .i64 i_l0, .sl (a_0.map (cF .f32)), .i .i64 (a_0.length : Int), .sl (b_1.map (cF .f32)), .i .i64 (b_1.length : Int), .b ((a_0.length : Int) != (b_1.length : Int)), .any, .any, .any, .any, .any, .any, .any, .any, .any, .any, .any, .any, .any, .any, .any, .any], []⟩

def mk_spec_l01SameAll_1_0 : List Bool := [true, true, false, false, false, true, true, true, true, true, true, false, false, false, false, false, false, false, false, false, false, false, false, false, false, false, false]

def mk_spec_l01SameAll_1_1 : List Bool := [false, false, false, false, true, false, false, false, false, false, false, false, false, false, false, false, false, false, false, false, false, false, false, false, false, false, false]

def mk_spec_l01SameAll_1_2 : List Bool := [true, true, false, false, false, false, true, true, true, true, true, false, false, false, false, false, false, false, false, false, false, false, false, false, false, false, false]

theorem lp_spec_l01SameAll_1 (a_0 : (List Nat)) (b_1 : (List Nat)) (hp0 : a_0.length ≤ 1073741824) (hp1 : b_1.length ≤ 1073741824) (hf_spec_l01SameAll_1_0 : ((a_0.length : Int) != (b_1.length : Int)) = false) : ∀ (k : Nat) (i_l0 : Int) (hv_spec_l01SameAll_1_0 : 0 ≤ i_l0) (hk : ((a_0.length : Int) - i_l0).toNat < k), Lp prog 0 (sub (bodyOf f143) [1, 1, 0, 1, 0, 0]) (hd_spec_l01SameAll_1 a_0 b_1 i_l0) (ls_spec_l01SameAll_1 a_0 b_1 (lo_spec_l01SameAll_1 a_0 b_1 k i_l0)).1 (ls_spec_l01SameAll_1 a_0 b_1 (lo_spec_l01SameAll_1 a_0 b_1 k i_l0)).2 := by
 intro k
 induction k with
 | zero => intro i_l0 hv_spec_l01SameAll_1_0 hk; exact absurd hk (Nat.not_lt_zero _)
 | succ k ih =>
  intro i_l0 hv_spec_l01SameAll_1_0 hk
  have p {a C} (s : Scr a C) := sZ (cF .f32) a_0 <| s
  cases h_0 : (decide (i_l0 < (a_0.length : Int))) with
  | true =>
   have gh_0 := of_decide_eq_true h_0
   have y_0 : (0 : Int) ≤ i_l0 := by clear p; exact (by first | assumption | omega | (simp_all <;> omega))
   have y_1 : i_l0 < (a_0.length : Int) := by clear p; exact (by first | assumption | omega | (simp_all <;> omega))
   have y_2 : i_l0 < (b_1.length : Int) := by clear p; exact (by first | assumption | omega | (simp_all <;> omega))
   have q {a C} (s : Scr a C) := p (sB h_0 <| sK [8, 8] <| sG (cF .f32) a_0 i_l0 y_0 y_1 <| sG (cF .f32) b_1 i_l0 y_0 y_2 <| sF (t_spec_l01Same (a_0.getD i_l0.toNat default) (b_1.getD i_l0.toNat default)) <| s)
   clear p
   cases h_1 : (v_spec_l01Same (a_0.getD i_l0.toNat default) (b_1.getD i_l0.toNat default)) with
   | true =>
    have y_3 : (-9223372036854775808 : Int) ≤ (i_l0 + 1) := by clear q; exact (by first | assumption | omega | (simp_all <;> omega))
    have y_4 : (i_l0 + 1) ≤ (9223372036854775807 : Int) := by clear q; exact (by first | assumption | omega | (simp_all <;> omega))
    have e : lo_spec_l01SameAll_1 a_0 b_1 (k + 1) i_l0 = (lo_spec_l01SameAll_1 a_0 b_1 k (i_l0 + 1)) := by simp only [lo_spec_l01SameAll_1, h_0, h_1, cond_true]
    rw [e]
    exact nextR E0Ok hMixed [] mk_spec_l01SameAll_1_0 [] (ih (i_l0 + 1) (show 0 ≤ (i_l0 + 1) from (by first | assumption | omega | (simp_all <;> omega))) (by first | assumption | omega | (simp_all <;> omega))) (q (sB' h_1 <| sI (i_l0 + 1) y_3 y_4 <| sN)) (by kernel_rfl)
   | false =>
    have e : lo_spec_l01SameAll_1 a_0 b_1 (k + 1) i_l0 = (.inl ()) := by simp only [lo_spec_l01SameAll_1, h_0, h_1, cond_true, cond_false]
    rw [e]
    exact outR (e := .ret) E0Ok hMixed [] mk_spec_l01SameAll_1_1 [] (q (sB' h_1 <| sN)) (by kernel_rfl) (by intro h; cases h)
  | false =>
   have gh_0 := of_decide_eq_false h_0
   have e : lo_spec_l01SameAll_1 a_0 b_1 (k + 1) i_l0 = (.inr ()) := by simp only [lo_spec_l01SameAll_1, h_0, cond_false]
   rw [e]
   exact outR (e := (.exit 0)) E0Ok hMixed [] mk_spec_l01SameAll_1_2 [] (p (sB h_0 <| sN)) (by kernel_rfl) (by intro h; cases h)

end Go.Ab
