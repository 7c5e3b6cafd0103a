/- The functions of this seat as plain Lean, and that the program's are these. Printed by a program of the prover's own. -/
import Derived.Test.YtpndflbllggeiaaGreatB0
set_option linter.unusedVariables false
set_option linter.unusedSimpArgs false
set_option maxRecDepth 100000
namespace Go.Ab
open Go.RowKit Go.Proofs.Tryz
def ZZ (a_0 : (List GVector)) (left_1 : Int) : Int := (cond (decide ((IntKind.wrap .i64 (left_1 - (a_0.length : Int))) < 0))
  (-1)
  (IntKind.wrap .i64 (left_1 - (a_0.length : Int))))
theorem Z8I (a_0 : (List GVector)) (left_1 : Int) (hp0 : a_0.length ≤ 9223372036854775807)  : Fn prog 75 [.sl (a_0.map GVector.cells), .i .i64 left_1] (.i .i64 (ZZ a_0 left_1)) [] := by
 have p {a C} (s : Scr a C) := sZ GVector.cells a_0 <| sW .i64 (left_1 - (a_0.length : Int)) <| s
 cases h0 : (decide ((IntKind.wrap .i64 (left_1 - (a_0.length : Int))) < 0)) with
 | true =>
  have gh0 := of_decide_eq_true h0
  refine fnS E0Ok Z3 (c := bodyOf f75) [] (.i .i64 (-1)) [] func75 (p (sB h0 <| sK [] sN)) rfl (by kernel_rfl) (by kernel_rfl) rfl ?_ ?_
  · simp only [ZZ, h0, cond_true]
  · rfl
 | false =>
  have gh0 := of_decide_eq_false h0
  refine fnS E0Ok Z3 (c := bodyOf f75) [] (.i .i64 (IntKind.wrap .i64 (left_1 - (a_0.length : Int)))) [] func75 (p (sB h0 <| sK [] sN)) rfl (by kernel_rfl) (by kernel_rfl) rfl ?_ ?_
  · simp only [ZZ, h0, cond_false]
  · rfl
theorem Z8q (a : List GVector) (left : Int) (h0 : a.length ≤ 9223372036854775807) (h1 : -1 ≤ left) (h2 : left ≤ 1048576) : -1 ≤ ZZ a left ∧ ZZ a left ≤ left ∧ (ZZ a left < 0 ∨ (a.length : Int) ≤ left) := by
  unfold ZZ
  rw [wrap_sub (by omega) (by omega)]
  by_cases h : left - (a.length : Int) < 0
  · simp [h]; omega
  · simp [h]; omega
def Z1u (a_0 : (List Int)) (left_1 : Int) : Int := (cond (decide ((IntKind.wrap .i64 (left_1 - (a_0.length : Int))) < 0))
  (-1)
  (IntKind.wrap .i64 (left_1 - (a_0.length : Int))))
theorem Z9a (a_0 : (List Int)) (left_1 : Int) (hp0 : a_0.length ≤ 9223372036854775807)  : Fn prog 134 [.sl (a_0.map (cI .i64)), .i .i64 left_1] (.i .i64 (Z1u a_0 left_1)) [] := by
 have p {a C} (s : Scr a C) := sZ (cI .i64) a_0 <| sW .i64 (left_1 - (a_0.length : Int)) <| s
 cases h0 : (decide ((IntKind.wrap .i64 (left_1 - (a_0.length : Int))) < 0)) with
 | true =>
  have gh0 := of_decide_eq_true h0
  refine fnS E0Ok Z3 (c := bodyOf f134) [] (.i .i64 (-1)) [] func134 (p (sB h0 <| sK [] sN)) rfl (by kernel_rfl) (by kernel_rfl) rfl ?_ ?_
  · simp only [Z1u, h0, cond_true]
  · rfl
 | false =>
  have gh0 := of_decide_eq_false h0
  refine fnS E0Ok Z3 (c := bodyOf f134) [] (.i .i64 (IntKind.wrap .i64 (left_1 - (a_0.length : Int)))) [] func134 (p (sB h0 <| sK [] sN)) rfl (by kernel_rfl) (by kernel_rfl) rfl ?_ ?_
  · simp only [Z1u, h0, cond_false]
  · rfl
theorem Z8J (a : List Int) (left : Int) (h0 : a.length ≤ 9223372036854775807) (h1 : -1 ≤ left) (h2 : left ≤ 1048576) : -1 ≤ Z1u a left ∧ Z1u a left ≤ left ∧ (Z1u a left < 0 ∨ (a.length : Int) ≤ left) := by
  unfold Z1u
  rw [wrap_sub (by omega) (by omega)]
  by_cases h : left - (a.length : Int) < 0
  · simp [h]; omega
  · simp [h]; omega
def Z13 (a_0 : (List (List Int))) (left_1 : Int) : Nat → Int → Int → (Unit) ⊕ (Int)
  | 0, _, _ => .inl default
  | k + 1, left_l0, i_l1 => (cond (decide (i_l1 < (a_0.length : Int)))
    (cond (decide ((Z1u (a_0.getD i_l1.toNat default) left_l0) < 0))
      (.inl ())
      (Z13 a_0 left_1 k (Z1u (a_0.getD i_l1.toNat default) left_l0) (i_l1 + 1)))
    (.inr left_l0))
def Z3F (a_0 : (List (List Int))) (left_1 : Int) : (Unit) ⊕ (Int) → Ex × St
  | .inl r => (.ret, ⟨an 4 (.i .i64 (-1) :: an 22 []), []⟩)
  | .inr r => ((.exit 0), ⟨.sl (a_0.map (cL (cI .i64))) :: .i .i64 r :: an 4 (.i .i64 left_1 :: .sl (a_0.map (cL (cI .i64))) :: .i .i64 (a_0.length : Int) :: .i .i64 (IntKind.wrap .i64 (left_1 - (a_0.length : Int))) :: .i .i64 (IntKind.wrap .i64 (left_1 - (a_0.length : Int))) :: .b (decide ((IntKind.wrap .i64 (left_1 - (a_0.length : Int))) < 0)) :: an 15 []), []⟩)
def Z7B (a_0 : (List (List Int))) (left_1 : Int) (left_l0 : Int) (i_l1 : Int) : St := ⟨.sl (a_0.map (cL (cI .i64))) :: .i .i64 left_l0 :: .any :: .any :: .any :: .i .i64 i_l1 :: .i .i64 left_1 :: .sl (a_0.map (cL (cI .i64))) :: .i .i64 (a_0.length : Int) :: .i .i64 (IntKind.wrap .i64 (left_1 - (a_0.length : Int))) :: .i .i64 (IntKind.wrap .i64 (left_1 - (a_0.length : Int))) :: .b (decide ((IntKind.wrap .i64 (left_1 - (a_0.length : Int))) < 0)) :: an 15 [], []⟩
theorem Z5X (a_0 : (List (List Int))) (left_1 : Int) (hp0 : a_0.length ≤ 9223372036854775807) (hp1 : ∀ t ∈ a_0, t.length ≤ 9223372036854775807) (ZaB : (decide ((IntKind.wrap .i64 (left_1 - (a_0.length : Int))) < 0)) = false) : ∀ (k : Nat) (left_l0 : Int) (i_l1 : Int) (Z53 : 0 ≤ i_l1) (hk : ((a_0.length : Int) - i_l1).toNat < k), Lp prog 0 (sub (bodyOf f93) [1, 1, 1, 0, 1, 0, 0]) (Z7B a_0 left_1 left_l0 i_l1) (Z3F a_0 left_1 (Z13 a_0 left_1 k left_l0 i_l1)).1 (Z3F a_0 left_1 (Z13 a_0 left_1 k left_l0 i_l1)).2 := by
 intro k
 induction k with
 | zero => intro left_l0 i_l1 Z53 hk; exact absurd hk (Nat.not_lt_zero _)
 | succ k ih =>
  intro left_l0 i_l1 Z53 hk
  have p {a C} (s : Scr a C) := sZ (cL (cI .i64)) a_0 <| s
  cases h_0 : (decide (i_l1 < (a_0.length : Int))) with
  | true =>
   have gh_0 := of_decide_eq_true h_0
   have y_0 : (0 : Int) ≤ i_l1 := by clear p; exact (by assumption)
   have y_1 : i_l1 < (a_0.length : Int) := by clear p; exact (by assumption)
   have y_2 : (a_0.getD i_l1.toNat default).length ≤ 9223372036854775807 := by clear p; exact (by simp_all <;> omega)
   have q {a C} (s : Scr a C) := p (sB h_0 <| sG (cL (cI .i64)) a_0 i_l1 y_0 y_1 <| sF (Z9a (a_0.getD i_l1.toNat default) left_l0 y_2) <| s)
   clear p
   cases h_1 : (decide ((Z1u (a_0.getD i_l1.toNat default) left_l0) < 0)) with
   | true =>
    have gh_1 := of_decide_eq_true h_1
    have e : Z13 a_0 left_1 (k + 1) left_l0 i_l1 = (.inl ()) := by simp only [Z13, h_0, h_1, cond_true]
    rw [e]
    exact outR (e := .ret) E0Ok Z3 [] (mR false [4, 1, 22]) [] (q (sB h_1 <| sN)) (by kernel_rfl) (by intro h; cases h)
   | false =>
    have gh_1 := of_decide_eq_false h_1
    have y_3 : (-9223372036854775808 : Int) ≤ (i_l1 + 1) := by clear q; exact (by omega)
    have y_4 : (i_l1 + 1) ≤ (9223372036854775807 : Int) := by clear q; exact (by omega)
    have e : Z13 a_0 left_1 (k + 1) left_l0 i_l1 = (Z13 a_0 left_1 k (Z1u (a_0.getD i_l1.toNat default) left_l0) (i_l1 + 1)) := by simp only [Z13, h_0, h_1, cond_true, cond_false]
    rw [e]
    exact nextR E0Ok Z3 [] (mR false [0, 2, 3, 7, 15]) [] (ih (Z1u (a_0.getD i_l1.toNat default) left_l0) (i_l1 + 1) (show 0 ≤ (i_l1 + 1) from (by omega)) (by omega)) (q (sB h_1 <| sI (i_l1 + 1) y_3 y_4 <| sN)) (by kernel_rfl)
  | false =>
   have gh_0 := of_decide_eq_false h_0
   have e : Z13 a_0 left_1 (k + 1) left_l0 i_l1 = (.inr left_l0) := by simp only [Z13, h_0, cond_false]
   rw [e]
   exact outR (e := (.exit 0)) E0Ok Z3 [] (mR false [0, 2, 4, 6, 15]) [] (p (sB h_0 <| sN)) (by kernel_rfl) (by intro h; cases h)
def Z2T (a_0 : (List (List Int))) (left_1 : Int) : (Unit) ⊕ (Int) := (Z13 a_0 left_1 (((a_0.length : Int) - 0).toNat + 1) (IntKind.wrap .i64 (left_1 - (a_0.length : Int))) 0)
def Z1v (a_0 : (List (List Int))) (left_1 : Int) : Int := (cond (decide ((IntKind.wrap .i64 (left_1 - (a_0.length : Int))) < 0))
  (-1)
  (match (Z2T a_0 left_1) with
    | .inl r2 => (-1)
    | .inr r2 => r2))
theorem Z8K (a_0 : (List (List Int))) (left_1 : Int) (hp0 : a_0.length ≤ 9223372036854775807) (hp1 : ∀ t ∈ a_0, t.length ≤ 9223372036854775807)  : Fn prog 93 [.sl (a_0.map (cL (cI .i64))), .i .i64 left_1] (.i .i64 (Z1v a_0 left_1)) [] := by
 have p {a C} (s : Scr a C) := sZ (cL (cI .i64)) a_0 <| sW .i64 (left_1 - (a_0.length : Int)) <| s
 cases h0 : (decide ((IntKind.wrap .i64 (left_1 - (a_0.length : Int))) < 0)) with
 | true =>
  have gh0 := of_decide_eq_true h0
  refine fnS E0Ok Z3 (c := bodyOf f93) [] (.i .i64 (-1)) [] func93 (p (sB h0 <| sK [] sN)) rfl (by kernel_rfl) (by kernel_rfl) rfl ?_ ?_
  · simp only [Z1v, h0, cond_true]
  · rfl
 | false =>
  have gh0 := of_decide_eq_false h0
  have q {a C} (s : Scr a C) := p (sB h0 <| s)
  clear p
  cases h1 : (Z2T a_0 left_1) with
  | inl r2 =>
   refine fnS E0Ok Z3 (c := bodyOf f93) [] (.i .i64 (-1)) [] func93 (q (sL (mR false [0, 2, 3, 7, 15]) 0 (lp_val (Z3F a_0 left_1) (x := (Z2T a_0 left_1)) (Z5X a_0 left_1 hp0 hp1 h0 (((a_0.length : Int) - 0).toNat + 1) (IntKind.wrap .i64 (left_1 - (a_0.length : Int))) 0 (show 0 ≤ 0 from (by omega)) (Nat.lt_succ_self _)) h1) <| sK [] sN)) rfl (by kernel_rfl) (by kernel_rfl) rfl ?_ ?_
   · simp only [Z1v, h0, h1, cond_false]
   · rfl
  | inr r2 =>
   refine fnS E0Ok Z3 (c := bodyOf f93) [] (.i .i64 r2) [] func93 (q (sL (mR false [0, 2, 3, 7, 15]) 0 (lp_val (Z3F a_0 left_1) (x := (Z2T a_0 left_1)) (Z5X a_0 left_1 hp0 hp1 h0 (((a_0.length : Int) - 0).toNat + 1) (IntKind.wrap .i64 (left_1 - (a_0.length : Int))) 0 (show 0 ≤ 0 from (by omega)) (Nat.lt_succ_self _)) h1) <| sK [] sN)) rfl (by kernel_rfl) (by kernel_rfl) rfl ?_ ?_
   · simp only [Z1v, h0, h1, cond_false]
   · rfl
theorem Zad (a : List (List Int)) (left : Int) (hb : ∀ t ∈ a, t.length ≤ 9223372036854775807) : ∀ (k : Nat) (l i : Int), 0 ≤ i → ((a.length : Int) - i).toNat < k → -1 ≤ l → l ≤ 1048576 →
    Z13 a left k l i = .inl () ∨ ∃ r, Z13 a left k l i = .inr r ∧ -1 ≤ r ∧ r ≤ l ∧ ∀ j, i.toNat ≤ j → j < a.length → ((a.getD j default).length : Int) ≤ l := by
  intro k
  induction k with
  | zero => intro l i h0 hk; exact absurd hk (Nat.not_lt_zero _)
  | succ k ih =>
    intro l i h0 hk h1 h2
    rw [Z13]
    by_cases hi : i < (a.length : Int)
    · have hn : i.toNat < a.length := by omega
      rw [decide_eq_true hi, cond_true]
      have hm : (a.getD i.toNat default) ∈ a := by rw [List.getD_eq_getElem?_getD, List.getElem?_eq_getElem hn]; exact List.getElem_mem hn
      obtain ⟨q1, q2, q3⟩ := Z8J (a.getD i.toNat default) l (hb _ hm) h1 h2
      cases hc : decide (Z1u (a.getD i.toNat default) l < 0) with
      | true => left; rfl
      | false =>
        simp only [decide_eq_false_iff_not] at hc
        rw [cond_false]
        rcases ih (Z1u (a.getD i.toNat default) l) (i + 1) (by omega) (by omega) q1 (by omega) with e | ⟨r, e, r1, r2, r3⟩
        · left; exact e
        · right
          refine ⟨r, e, r1, by omega, fun j hj hjl => ?_⟩
          by_cases hji : j = i.toNat
          · subst hji; omega
          · have := r3 j (by omega) hjl; omega
    · rw [decide_eq_false hi, cond_false]
      exact .inr ⟨l, rfl, h1, Int.le_refl _, fun j hj hjl => by omega⟩
theorem Z8r (a : List (List Int)) (left : Int) (h0 : a.length ≤ 9223372036854775807) (hb : ∀ t ∈ a, t.length ≤ 9223372036854775807) (h1 : -1 ≤ left) (h2 : left ≤ 1048576) :
    -1 ≤ Z1v a left ∧ Z1v a left ≤ left ∧ (Z1v a left < 0 ∨ ((a.length : Int) ≤ left ∧ ∀ t ∈ a, (t.length : Int) ≤ left)) := by
  unfold Z1v Z2T
  rw [wrap_sub (by omega) (by omega)]
  cases h : decide (left - (a.length : Int) < 0) with
  | true => simp only [decide_eq_true_eq] at h; rw [cond_true]; omega
  | false =>
    simp only [decide_eq_false_iff_not] at h
    rw [cond_false]
    rcases Zad a left hb _ (left - (a.length : Int)) 0 (Int.le_refl _) (Nat.lt_succ_self _) (by omega) (by omega) with e | ⟨r, e, r1, r2, r3⟩
    · rw [e]; simp only; omega
    · rw [e]; simp only
      refine ⟨r1, by omega, .inr ⟨by omega, fun t ht => ?_⟩⟩
      obtain ⟨j, hj, rfl⟩ := List.getElem_of_mem ht
      have := r3 j (by simp) hj
      rw [List.getD_eq_getElem?_getD, List.getElem?_eq_getElem hj, Option.getD_some] at this
      omega
def Zy (a_0 : GMesh) (left_1 : Int) : Int := (cond (decide ((ZZ a_0.Places left_1) < 0))
  (-1)
  (cond (decide ((Z1v a_0.Triangles (ZZ a_0.Places left_1)) < 0))
    (-1)
    (Z1v a_0.Triangles (ZZ a_0.Places left_1))))
theorem Z9O (a_0 : GMesh) (left_1 : Int) (hp0 : a_0.Places.length ≤ 9223372036854775807) (hp1 : a_0.Triangles.length ≤ 9223372036854775807) (hp2 : ∀ t ∈ a_0.Triangles, t.length ≤ 9223372036854775807)  : Fn prog 47 [.agg [.sl (a_0.Places.map GVector.cells), .sl (a_0.Triangles.map (cL (cI .i64)))], .i .i64 left_1] (.i .i64 (Zy a_0 left_1)) [] := by
 have p {a C} (s : Scr a C) := sF (Z8I a_0.Places left_1 hp0) <| s
 cases h0 : (decide ((ZZ a_0.Places left_1) < 0)) with
 | true =>
  have gh0 := of_decide_eq_true h0
  refine fnS E0Ok Z3 (c := bodyOf f47) [] (.i .i64 (-1)) [] func47 (p (sB h0 <| sK [] sN)) rfl (by kernel_rfl) (by kernel_rfl) rfl ?_ ?_
  · simp only [Zy, h0, cond_true]
  · rfl
 | false =>
  have gh0 := of_decide_eq_false h0
  have q {a C} (s : Scr a C) := p (sB h0 <| sF (Z8K a_0.Triangles (ZZ a_0.Places left_1) hp1 hp2) <| s)
  clear p
  cases h1 : (decide ((Z1v a_0.Triangles (ZZ a_0.Places left_1)) < 0)) with
  | true =>
   have gh1 := of_decide_eq_true h1
   refine fnS E0Ok Z3 (c := bodyOf f47) [] (.i .i64 (-1)) [] func47 (q (sB h1 <| sK [] sN)) rfl (by kernel_rfl) (by kernel_rfl) rfl ?_ ?_
   · simp only [Zy, h0, h1, cond_true, cond_false]
   · rfl
  | false =>
   have gh1 := of_decide_eq_false h1
   refine fnS E0Ok Z3 (c := bodyOf f47) [] (.i .i64 (Z1v a_0.Triangles (ZZ a_0.Places left_1))) [] func47 (q (sB h1 <| sK [] sN)) rfl (by kernel_rfl) (by kernel_rfl) rfl ?_ ?_
   · simp only [Zy, h0, h1, cond_false]
   · rfl
theorem Z9q (a : GMesh) (left : Int) (h0 : a.Places.length ≤ 9223372036854775807) (h3 : a.Triangles.length ≤ 9223372036854775807) (hb : ∀ t ∈ a.Triangles, t.length ≤ 9223372036854775807) (h1 : -1 ≤ left) (h2 : left ≤ 1048576) :
    -1 ≤ Zy a left ∧ Zy a left ≤ left ∧ (Zy a left < 0 ∨ (a.Places.length : Int) ≤ left) ∧ (Zy a left < 0 ∨ (a.Triangles.length : Int) ≤ left) ∧ ∀ t ∈ a.Triangles, Zy a left < 0 ∨ (t.length : Int) ≤ left := by
  have key : -1 ≤ Zy a left ∧ Zy a left ≤ left ∧ (Zy a left < 0 ∨ ((a.Places.length : Int) ≤ left ∧ (a.Triangles.length : Int) ≤ left ∧ ∀ t ∈ a.Triangles, (t.length : Int) ≤ left)) := by
    unfold Zy
    obtain ⟨p1, p2, p3⟩ := Z8q a.Places left h0 h1 h2
    cases h : decide (ZZ a.Places left < 0) with
    | true => simp only [decide_eq_true_eq] at h; rw [cond_true]; refine ⟨by omega, by omega, .inl (by omega)⟩
    | false =>
      simp only [decide_eq_false_iff_not] at h
      rw [cond_false]
      obtain ⟨q1, q2, q3⟩ := Z8r a.Triangles (ZZ a.Places left) h3 hb p1 (by omega)
      cases h' : decide (Z1v a.Triangles (ZZ a.Places left) < 0) with
      | true => rw [cond_true]; exact ⟨by omega, by omega, .inl (by omega)⟩
      | false =>
        simp only [decide_eq_false_iff_not] at h'
        rw [cond_false]
        rcases q3 with q | ⟨qa, qb⟩
        · omega
        · exact ⟨q1, by omega, .inr ⟨by omega, by omega, fun t ht => by have := qb t ht; omega⟩⟩
  obtain ⟨k1, k2, k3⟩ := key
  rcases k3 with k3 | ⟨ka, kb, kc⟩
  · exact ⟨k1, k2, .inl k3, .inl k3, fun t ht => .inl k3⟩
  · exact ⟨k1, k2, .inr ka, .inr kb, fun t ht => .inr (kc t ht)⟩
def Z10 (a_0 : (List GSpring)) (left_1 : Int) : Int := (cond (decide ((IntKind.wrap .i64 (left_1 - (a_0.length : Int))) < 0))
  (-1)
  (IntKind.wrap .i64 (left_1 - (a_0.length : Int))))
theorem Z8L (a_0 : (List GSpring)) (left_1 : Int) (hp0 : a_0.length ≤ 9223372036854775807)  : Fn prog 48 [.sl (a_0.map GSpring.cells), .i .i64 left_1] (.i .i64 (Z10 a_0 left_1)) [] := by
 have p {a C} (s : Scr a C) := sZ GSpring.cells a_0 <| sW .i64 (left_1 - (a_0.length : Int)) <| s
 cases h0 : (decide ((IntKind.wrap .i64 (left_1 - (a_0.length : Int))) < 0)) with
 | true =>
  have gh0 := of_decide_eq_true h0
  refine fnS E0Ok Z3 (c := bodyOf f48) [] (.i .i64 (-1)) [] func48 (p (sB h0 <| sK [] sN)) rfl (by kernel_rfl) (by kernel_rfl) rfl ?_ ?_
  · simp only [Z10, h0, cond_true]
  · rfl
 | false =>
  have gh0 := of_decide_eq_false h0
  refine fnS E0Ok Z3 (c := bodyOf f48) [] (.i .i64 (IntKind.wrap .i64 (left_1 - (a_0.length : Int)))) [] func48 (p (sB h0 <| sK [] sN)) rfl (by kernel_rfl) (by kernel_rfl) rfl ?_ ?_
  · simp only [Z10, h0, cond_false]
  · rfl
theorem Z8s (a : List GSpring) (left : Int) (h0 : a.length ≤ 9223372036854775807) (h1 : -1 ≤ left) (h2 : left ≤ 1048576) : -1 ≤ Z10 a left ∧ Z10 a left ≤ left ∧ (Z10 a left < 0 ∨ (a.length : Int) ≤ left) := by
  unfold Z10
  rw [wrap_sub (by omega) (by omega)]
  by_cases h : left - (a.length : Int) < 0
  · simp [h]; omega
  · simp [h]; omega
def Z1y (a_0 : (List Nat)) (left_1 : Int) : Int := (cond (decide ((IntKind.wrap .i64 (left_1 - (a_0.length : Int))) < 0))
  (-1)
  (IntKind.wrap .i64 (left_1 - (a_0.length : Int))))
theorem Z8t (a_0 : (List Nat)) (left_1 : Int) (hp0 : a_0.length ≤ 9223372036854775807)  : Fn prog 49 [.sl (a_0.map (cF .f32)), .i .i64 left_1] (.i .i64 (Z1y a_0 left_1)) [] := by
 have p {a C} (s : Scr a C) := sZ (cF .f32) a_0 <| sW .i64 (left_1 - (a_0.length : Int)) <| s
 cases h0 : (decide ((IntKind.wrap .i64 (left_1 - (a_0.length : Int))) < 0)) with
 | true =>
  have gh0 := of_decide_eq_true h0
  refine fnS E0Ok Z3 (c := bodyOf f49) [] (.i .i64 (-1)) [] func49 (p (sB h0 <| sK [] sN)) rfl (by kernel_rfl) (by kernel_rfl) rfl ?_ ?_
  · simp only [Z1y, h0, cond_true]
  · rfl
 | false =>
  have gh0 := of_decide_eq_false h0
  refine fnS E0Ok Z3 (c := bodyOf f49) [] (.i .i64 (IntKind.wrap .i64 (left_1 - (a_0.length : Int)))) [] func49 (p (sB h0 <| sK [] sN)) rfl (by kernel_rfl) (by kernel_rfl) rfl ?_ ?_
  · simp only [Z1y, h0, cond_false]
  · rfl
theorem Z7Y (a : List Nat) (left : Int) (h0 : a.length ≤ 9223372036854775807) (h1 : -1 ≤ left) (h2 : left ≤ 1048576) : -1 ≤ Z1y a left ∧ Z1y a left ≤ left ∧ (Z1y a left < 0 ∨ (a.length : Int) ≤ left) := by
  unfold Z1y
  rw [wrap_sub (by omega) (by omega)]
  by_cases h : left - (a.length : Int) < 0
  · simp [h]; omega
  · simp [h]; omega
def Z1M (a_0 : GBody) (left_1 : Int) : Int := (cond (decide ((Zy a_0.Mesh left_1) < 0))
  (-1)
  (cond (decide ((Z10 a_0.Springs (Zy a_0.Mesh left_1)) < 0))
    (-1)
    (cond (decide ((Z1y a_0.Weights (Z10 a_0.Springs (Zy a_0.Mesh left_1))) < 0))
      (-1)
      (Z1y a_0.Weights (Z10 a_0.Springs (Zy a_0.Mesh left_1))))))
theorem Z9P (a_0 : GBody) (left_1 : Int) (hp0 : a_0.Mesh.Places.length ≤ 9223372036854775807) (hp1 : a_0.Mesh.Triangles.length ≤ 9223372036854775807) (hp2 : ∀ t ∈ a_0.Mesh.Triangles, t.length ≤ 9223372036854775807) (hp3 : a_0.Springs.length ≤ 9223372036854775807) (hp4 : a_0.Weights.length ≤ 9223372036854775807)  : Fn prog 11 [.agg [.sl (a_0.Mesh.Places.map GVector.cells), .sl (a_0.Mesh.Triangles.map (cL (cI .i64))), .sl (a_0.Springs.map GSpring.cells), .f .f32 a_0.Film, .f .f32 a_0.Bend, .sl (a_0.Weights.map (cF .f32)), .f .f32 a_0.Fall.X, .f .f32 a_0.Fall.Y, .f .f32 a_0.Fall.Z], .i .i64 left_1] (.i .i64 (Z1M a_0 left_1)) [] := by
 have p {a C} (s : Scr a C) := sF (Z9O a_0.Mesh left_1 hp0 hp1 hp2) <| s
 cases h0 : (decide ((Zy a_0.Mesh left_1) < 0)) with
 | true =>
  have gh0 := of_decide_eq_true h0
  refine fnS E0Ok Z3 (c := bodyOf f11) [] (.i .i64 (-1)) [] func11 (p (sB h0 <| sK [] sN)) rfl (by kernel_rfl) (by kernel_rfl) rfl ?_ ?_
  · simp only [Z1M, h0, cond_true]
  · rfl
 | false =>
  have gh0 := of_decide_eq_false h0
  have q {a C} (s : Scr a C) := p (sB h0 <| sF (Z8L a_0.Springs (Zy a_0.Mesh left_1) hp3) <| s)
  clear p
  cases h1 : (decide ((Z10 a_0.Springs (Zy a_0.Mesh left_1)) < 0)) with
  | true =>
   have gh1 := of_decide_eq_true h1
   refine fnS E0Ok Z3 (c := bodyOf f11) [] (.i .i64 (-1)) [] func11 (q (sB h1 <| sK [] sN)) rfl (by kernel_rfl) (by kernel_rfl) rfl ?_ ?_
   · simp only [Z1M, h0, h1, cond_true, cond_false]
   · rfl
  | false =>
   have gh1 := of_decide_eq_false h1
   have p {a C} (s : Scr a C) := q (sB h1 <| sF (Z8t a_0.Weights (Z10 a_0.Springs (Zy a_0.Mesh left_1)) hp4) <| s)
   clear q
   cases h2 : (decide ((Z1y a_0.Weights (Z10 a_0.Springs (Zy a_0.Mesh left_1))) < 0)) with
   | true =>
    have gh2 := of_decide_eq_true h2
    refine fnS E0Ok Z3 (c := bodyOf f11) [] (.i .i64 (-1)) [] func11 (p (sB h2 <| sK [] sN)) rfl (by kernel_rfl) (by kernel_rfl) rfl ?_ ?_
    · simp only [Z1M, h0, h1, h2, cond_true, cond_false]
    · rfl
   | false =>
    have gh2 := of_decide_eq_false h2
    refine fnS E0Ok Z3 (c := bodyOf f11) [] (.i .i64 (Z1y a_0.Weights (Z10 a_0.Springs (Zy a_0.Mesh left_1)))) [] func11 (p (sB h2 <| sK [] sN)) rfl (by kernel_rfl) (by kernel_rfl) rfl ?_ ?_
    · simp only [Z1M, h0, h1, h2, cond_false]
    · rfl
theorem Z9r (a : GBody) (left : Int) (g0 : a.Mesh.Places.length ≤ 9223372036854775807) (g1 : a.Mesh.Triangles.length ≤ 9223372036854775807) (g2 : ∀ t ∈ a.Mesh.Triangles, t.length ≤ 9223372036854775807) (g3 : a.Springs.length ≤ 9223372036854775807) (g4 : a.Weights.length ≤ 9223372036854775807) (h1 : -1 ≤ left) (h2 : left ≤ 1048576) : -1 ≤ Z1M a left ∧ Z1M a left ≤ left ∧ (Z1M a left < 0 ∨ (a.Mesh.Places.length : Int) ≤ left) ∧ (Z1M a left < 0 ∨ (a.Mesh.Triangles.length : Int) ≤ left) ∧ (Z1M a left < 0 ∨ (a.Springs.length : Int) ≤ left) ∧ (Z1M a left < 0 ∨ (a.Weights.length : Int) ≤ left) ∧ ∀ t ∈ a.Mesh.Triangles, Z1M a left < 0 ∨ (t.length : Int) ≤ left := by
  unfold Z1M
  have p0 := Z9q a.Mesh left g0 g1 g2 (by omega) (by omega)
  cases hc0 : decide (Zy a.Mesh left < 0) with
  | true =>
    simp only [decide_eq_true_eq] at hc0; rw [cond_true]; refine ⟨by omega, by omega, .inl (by omega), .inl (by omega), .inl (by omega), .inl (by omega), fun t ht => .inl (by omega)⟩
  | false =>
    simp only [decide_eq_false_iff_not] at hc0; rw [cond_false]
    have p1 := Z8s a.Springs (Zy a.Mesh left) g3 (by omega) (by omega)
    cases hc1 : decide (Z10 a.Springs (Zy a.Mesh left) < 0) with
    | true =>
      simp only [decide_eq_true_eq] at hc1; rw [cond_true]; refine ⟨by omega, by omega, .inl (by omega), .inl (by omega), .inl (by omega), .inl (by omega), fun t ht => .inl (by omega)⟩
    | false =>
      simp only [decide_eq_false_iff_not] at hc1; rw [cond_false]
      have p2 := Z7Y a.Weights (Z10 a.Springs (Zy a.Mesh left)) g4 (by omega) (by omega)
      cases hc2 : decide (Z1y a.Weights (Z10 a.Springs (Zy a.Mesh left)) < 0) with
      | true =>
        simp only [decide_eq_true_eq] at hc2; rw [cond_true]; refine ⟨by omega, by omega, .inl (by omega), .inl (by omega), .inl (by omega), .inl (by omega), fun t ht => .inl (by omega)⟩
      | false =>
        simp only [decide_eq_false_iff_not] at hc2; rw [cond_false]
        refine ⟨by omega, by omega, .inr (by omega), .inr (by omega), .inr (by omega), .inr (by omega), fun t ht => .inr (by have q := p0.2.2.2.2 t ht; omega)⟩
def Z4u (a_0 : GVector) : GVector := a_0
theorem Z9b (a_0 : GVector)   : Fn prog 55 [.agg [.f .f32 a_0.X, .f .f32 a_0.Y, .f .f32 a_0.Z]] (.agg [.f .f32 ((Z4u a_0).X), .f .f32 ((Z4u a_0).Y), .f .f32 ((Z4u a_0).Z)]) [] := by
 refine fnS E0Ok Z3 (c := bodyOf f55) [] (.agg [.f .f32 a_0.X, .f .f32 a_0.Y, .f .f32 a_0.Z]) [] func55 (sK [] sN) rfl (by kernel_rfl) (by kernel_rfl) rfl ?_ ?_
 · rfl
 · rfl
@[simp] theorem Z8M (a : GVector) : Z4u a = a := rfl
theorem Z6O (a_0 : GVector)  : Fn prog 55 [.agg [.f .f32 a_0.X, .f .f32 a_0.Y, .f .f32 a_0.Z]] (.agg [.f .f32 a_0.X, .f .f32 a_0.Y, .f .f32 a_0.Z]) [] := by
 simpa only [Z8M] using Z9b  a_0 
def Z1I (a_0 : (List GVector)) : Nat → Int → (List GVector) → (List GVector)
  | 0, _, _ => default
  | k + 1, i_l0, r0_l1 => (cond (decide (i_l0 < (a_0.length : Int)))
    (Z1I a_0 k (i_l0 + 1) (r0_l1.set i_l0.toNat (a_0.getD i_l0.toNat default)))
    r0_l1)
def Z4i (a_0 : (List GVector)) (r : (List GVector)) : Ex × St := ((.exit 0), ⟨.sl (a_0.map GVector.cells) :: .any :: .nils :: .own 0 :: .any :: .sl (a_0.map GVector.cells) :: .i .i64 (a_0.length : Int) :: .own 0 :: an 15 [], [.vec 40 3 (r.map GVector.cells) false]⟩)
def Z5Y (a_0 : (List GVector)) (i_l0 : Int) (r0_l1 : (List GVector)) : St := ⟨.sl (a_0.map GVector.cells) :: .any :: .nils :: .own 0 :: .i .i64 i_l0 :: .sl (a_0.map GVector.cells) :: .i .i64 (a_0.length : Int) :: .own 0 :: an 15 [], [.vec 40 3 (r0_l1.map GVector.cells) false]⟩
theorem Z7C (a_0 : (List GVector)) (hp0 : a_0.length ≤ 1073741824) : ∀ (k : Nat) (i_l0 : Int) (r0_l1 : (List GVector)) (Z54 : 0 ≤ i_l0) (Z55 : r0_l1.length = a_0.length) (hk : ((a_0.length : Int) - i_l0).toNat < k), Lp prog 0 (sub (bodyOf f78) [1, 1, 0, 1, 0, 0]) (Z5Y a_0 i_l0 r0_l1) (Z4i a_0 (Z1I a_0 k i_l0 r0_l1)).1 (Z4i a_0 (Z1I a_0 k i_l0 r0_l1)).2 := by
 intro k
 induction k with
 | zero => intro i_l0 r0_l1 Z54 Z55 hk; exact absurd hk (Nat.not_lt_zero _)
 | succ k ih =>
  intro i_l0 r0_l1 Z54 Z55 hk
  have p {a C} (s : Scr a C) := sZ GVector.cells a_0 <| s
  cases h_0 : (decide (i_l0 < (a_0.length : Int))) with
  | true =>
   have gh_0 := of_decide_eq_true h_0
   have y_0 : (0 : Int) ≤ i_l0 := by clear p; exact (by assumption)
   have y_1 : i_l0 < (a_0.length : Int) := by clear p; exact (by assumption)
   have y_2 : i_l0 < (r0_l1.length : Int) := by clear p; exact (by omega)
   have y_3 : i_l0.toNat < r0_l1.length := by clear p; exact (by omega)
   have y_4 : (-9223372036854775808 : Int) ≤ (i_l0 + 1) := by clear p; exact (by omega)
   have y_5 : (i_l0 + 1) ≤ (9223372036854775807 : Int) := by clear p; exact (by omega)
   have e : Z1I a_0 (k + 1) i_l0 r0_l1 = (Z1I a_0 k (i_l0 + 1) (r0_l1.set i_l0.toNat (a_0.getD i_l0.toNat default))) := by simp only [Z1I, h_0, cond_true]
   rw [e]
   exact nextS E0Ok Z3 [] (mR false [0, 1, 1, 6, 15]) [0] (⟨.sl (a_0.map GVector.cells) :: .any :: .nils :: .own 0 :: .i .i64 (i_l0 + 1) :: .sl (a_0.map GVector.cells) :: .i .i64 (a_0.length : Int) :: .own 0 :: an 15 [], [.vec 40 3 ((r0_l1.map GVector.cells).set i_l0.toNat [.f .f32 ((a_0.getD i_l0.toNat default).X), .f .f32 ((a_0.getD i_l0.toNat default).Y), .f .f32 ((a_0.getD i_l0.toNat default).Z)]) false]⟩) (p (sB h_0 <| sG GVector.cells a_0 i_l0 y_0 y_1 <| sF (Z6O (a_0.getD i_l0.toNat default)) <| sX GVector.cells r0_l1 i_l0 y_0 y_2 <| sC (maplt (c := GVector.cells) (l := r0_l1) y_3) <| sI (i_l0 + 1) y_4 y_5 <| sN)) (by kernel_rfl) (show _ = ⟨.sl (a_0.map GVector.cells) :: .any :: .nils :: .own 0 :: .i .i64 (i_l0 + 1) :: .sl (a_0.map GVector.cells) :: .i .i64 (a_0.length : Int) :: .own 0 :: an 15 [], [.vec 40 3 ((r0_l1.set i_l0.toNat (a_0.getD i_l0.toNat default)).map GVector.cells) false]⟩ from (by simp [List.map_set, GVector.cells])) (ih (i_l0 + 1) (r0_l1.set i_l0.toNat (a_0.getD i_l0.toNat default)) (show 0 ≤ (i_l0 + 1) from (by omega)) (show (r0_l1.set i_l0.toNat (a_0.getD i_l0.toNat default)).length = a_0.length from (by simp_all <;> omega)) (by omega))
  | false =>
   have gh_0 := of_decide_eq_false h_0
   have e : Z1I a_0 (k + 1) i_l0 r0_l1 = r0_l1 := by simp only [Z1I, h_0, cond_false]
   rw [e]
   exact outR (e := (.exit 0)) E0Ok Z3 [] (mR false [0, 1, 1, 2, 1, 3, 15]) [0] (p (sB h_0 <| sN)) (by kernel_rfl) (by intro h; cases h)
def Z3h (a_0 : (List GVector)) : (List GVector) := (Z1I a_0 (((a_0.length : Int) - 0).toNat + 1) 0 (List.replicate (a_0.length : Int).toNat (⟨0, 0, 0⟩ : GVector)))
def Z45 (a_0 : (List GVector)) : (List GVector) := (Z3h a_0)
theorem Z8N (a_0 : (List GVector)) (hp0 : a_0.length ≤ 1073741824)  : Fn prog 78 [.sl (a_0.map GVector.cells)] (.own 0) [.vec 40 3 ((Z45 a_0).map GVector.cells) false] := by
 have y0 : (0 : Int) ≤ (a_0.length : Int) := (by omega)
 have y1 : ((a_0.length : Int) : Int) ≤ 2147483648 := (by omega)
 refine fnS E0Ok Z3 (c := bodyOf f78) [] (.own 0) [.vec 40 3 ((Z3h a_0).map GVector.cells) false] func78 (sZ GVector.cells a_0 <| sC (show (a_0.length : Int) = (a_0.length : Int) from rfl) <| sC y0 <| sC y1 <| sL (mR false [0, 1, 1, 6, 15]) 1 (lp_cast (st2 := ⟨.sl (a_0.map GVector.cells) :: .any :: .nils :: .own 0 :: .i .i64 0 :: .sl (a_0.map GVector.cells) :: .i .i64 (a_0.length : Int) :: .own 0 :: an 15 [], [.vec 40 3 (List.replicate (Int.toNat (a_0.length : Int)) [.f .f32 0, .f .f32 0, .f .f32 0]) false]⟩) (lp_val (Z4i a_0) (x := (Z3h a_0)) (Z7C a_0 hp0 (((a_0.length : Int) - 0).toNat + 1) 0 (List.replicate (a_0.length : Int).toNat (⟨0, 0, 0⟩ : GVector)) (show 0 ≤ 0 from (by omega)) (show (List.replicate (a_0.length : Int).toNat (⟨0, 0, 0⟩ : GVector)).length = a_0.length from (by simp)) (Nat.lt_succ_self _)) rfl) (by simp [Z5Y, GVector.cells])) <| sK [0] sN) rfl (by kernel_rfl) (by kernel_rfl) rfl ?_ ?_
 · rfl
 · simp [Z45]
@[simp] theorem Z8u (a : List GVector) : Z45 a = a := by
  unfold Z45 Z3h
  rw [copy_all (f := id) (a := a) (lo := Z1I a) (fun k i r => rfl)]
  exact List.map_id a
theorem Z8O (a_0 : (List GVector)) (hp0 : a_0.length ≤ 1073741824) : Fn prog 78 [.sl (a_0.map GVector.cells)] (.own 0) [.vec 40 3 (a_0.map GVector.cells) false] := by
 simpa only [Z8u] using Z8N  a_0 hp0
def Z1R (a_0 : (List Int)) : Nat → Int → (List Int) → (List Int)
  | 0, _, _ => default
  | k + 1, i_l0, r0_l1 => (cond (decide (i_l0 < (a_0.length : Int)))
    (Z1R a_0 k (i_l0 + 1) (r0_l1.set i_l0.toNat (a_0.getD i_l0.toNat default)))
    r0_l1)
def Z4B (a_0 : (List Int)) (r : (List Int)) : Ex × St := ((.exit 0), ⟨.sl (a_0.map (cI .i64)) :: .any :: .nils :: .own 0 :: .any :: .sl (a_0.map (cI .i64)) :: .i .i64 (a_0.length : Int) :: .own 0 :: an 14 [], [.vec 2 1 (r.map (cI .i64)) false]⟩)
def Z6j (a_0 : (List Int)) (i_l0 : Int) (r0_l1 : (List Int)) : St := ⟨.sl (a_0.map (cI .i64)) :: .any :: .nils :: .own 0 :: .i .i64 i_l0 :: .sl (a_0.map (cI .i64)) :: .i .i64 (a_0.length : Int) :: .own 0 :: an 14 [], [.vec 2 1 (r0_l1.map (cI .i64)) false]⟩
theorem Z7Z (a_0 : (List Int)) (hp0 : a_0.length ≤ 1073741824) : ∀ (k : Nat) (i_l0 : Int) (r0_l1 : (List Int)) (Z5w : 0 ≤ i_l0) (Z5x : r0_l1.length = a_0.length) (hk : ((a_0.length : Int) - i_l0).toNat < k), Lp prog 0 (sub (bodyOf f21) [1, 1, 0, 1, 0, 0]) (Z6j a_0 i_l0 r0_l1) (Z4B a_0 (Z1R a_0 k i_l0 r0_l1)).1 (Z4B a_0 (Z1R a_0 k i_l0 r0_l1)).2 := by
 intro k
 induction k with
 | zero => intro i_l0 r0_l1 Z5w Z5x hk; exact absurd hk (Nat.not_lt_zero _)
 | succ k ih =>
  intro i_l0 r0_l1 Z5w Z5x hk
  have p {a C} (s : Scr a C) := sZ (cI .i64) a_0 <| s
  cases h_0 : (decide (i_l0 < (a_0.length : Int))) with
  | true =>
   have gh_0 := of_decide_eq_true h_0
   have y_0 : (0 : Int) ≤ i_l0 := by clear p; exact (by assumption)
   have y_1 : i_l0 < (a_0.length : Int) := by clear p; exact (by assumption)
   have y_2 : i_l0 < (r0_l1.length : Int) := by clear p; exact (by omega)
   have y_3 : i_l0.toNat < r0_l1.length := by clear p; exact (by omega)
   have y_4 : (-9223372036854775808 : Int) ≤ (i_l0 + 1) := by clear p; exact (by omega)
   have y_5 : (i_l0 + 1) ≤ (9223372036854775807 : Int) := by clear p; exact (by omega)
   have e : Z1R a_0 (k + 1) i_l0 r0_l1 = (Z1R a_0 k (i_l0 + 1) (r0_l1.set i_l0.toNat (a_0.getD i_l0.toNat default))) := by simp only [Z1R, h_0, cond_true]
   rw [e]
   exact nextS E0Ok Z3 [] (mR false [0, 1, 1, 6, 14]) [0] (⟨.sl (a_0.map (cI .i64)) :: .any :: .nils :: .own 0 :: .i .i64 (i_l0 + 1) :: .sl (a_0.map (cI .i64)) :: .i .i64 (a_0.length : Int) :: .own 0 :: an 14 [], [.vec 2 1 ((r0_l1.map (cI .i64)).set i_l0.toNat [.i .i64 (a_0.getD i_l0.toNat default)]) false]⟩) (p (sB h_0 <| sG (cI .i64) a_0 i_l0 y_0 y_1 <| sX (cI .i64) r0_l1 i_l0 y_0 y_2 <| sC (maplt (c := (cI .i64)) (l := r0_l1) y_3) <| sI (i_l0 + 1) y_4 y_5 <| sN)) (by kernel_rfl) (show _ = ⟨.sl (a_0.map (cI .i64)) :: .any :: .nils :: .own 0 :: .i .i64 (i_l0 + 1) :: .sl (a_0.map (cI .i64)) :: .i .i64 (a_0.length : Int) :: .own 0 :: an 14 [], [.vec 2 1 ((r0_l1.set i_l0.toNat (a_0.getD i_l0.toNat default)).map (cI .i64)) false]⟩ from (by simp [List.map_set, cI])) (ih (i_l0 + 1) (r0_l1.set i_l0.toNat (a_0.getD i_l0.toNat default)) (show 0 ≤ (i_l0 + 1) from (by omega)) (show (r0_l1.set i_l0.toNat (a_0.getD i_l0.toNat default)).length = a_0.length from (by simp_all <;> omega)) (by omega))
  | false =>
   have gh_0 := of_decide_eq_false h_0
   have e : Z1R a_0 (k + 1) i_l0 r0_l1 = r0_l1 := by simp only [Z1R, h_0, cond_false]
   rw [e]
   exact outR (e := (.exit 0)) E0Ok Z3 [] (mR false [0, 1, 1, 2, 1, 3, 14]) [0] (p (sB h_0 <| sN)) (by kernel_rfl) (by intro h; cases h)
def Z3s (a_0 : (List Int)) : (List Int) := (Z1R a_0 (((a_0.length : Int) - 0).toNat + 1) 0 (List.replicate (a_0.length : Int).toNat 0))
def Z4v (a_0 : (List Int)) : (List Int) := (Z3s a_0)
theorem Z9c (a_0 : (List Int)) (hp0 : a_0.length ≤ 1073741824)  : Fn prog 21 [.sl (a_0.map (cI .i64))] (.own 0) [.vec 2 1 ((Z4v a_0).map (cI .i64)) false] := by
 have y0 : (0 : Int) ≤ (a_0.length : Int) := (by omega)
 have y1 : ((a_0.length : Int) : Int) ≤ 2147483648 := (by omega)
 refine fnS E0Ok Z3 (c := bodyOf f21) [] (.own 0) [.vec 2 1 ((Z3s a_0).map (cI .i64)) false] func21 (sZ (cI .i64) a_0 <| sC (show (a_0.length : Int) = (a_0.length : Int) from rfl) <| sC y0 <| sC y1 <| sL (mR false [0, 1, 1, 6, 14]) 1 (lp_cast (st2 := ⟨.sl (a_0.map (cI .i64)) :: .any :: .nils :: .own 0 :: .i .i64 0 :: .sl (a_0.map (cI .i64)) :: .i .i64 (a_0.length : Int) :: .own 0 :: an 14 [], [.vec 2 1 (List.replicate (Int.toNat (a_0.length : Int)) [.i .i64 0]) false]⟩) (lp_val (Z4B a_0) (x := (Z3s a_0)) (Z7Z a_0 hp0 (((a_0.length : Int) - 0).toNat + 1) 0 (List.replicate (a_0.length : Int).toNat 0) (show 0 ≤ 0 from (by omega)) (show (List.replicate (a_0.length : Int).toNat 0).length = a_0.length from (by simp)) (Nat.lt_succ_self _)) rfl) (by simp [Z6j, cI])) <| sK [0] sN) rfl (by kernel_rfl) (by kernel_rfl) rfl ?_ ?_
 · rfl
 · simp [Z4v]
@[simp] theorem Z8P (a : List Int) : Z4v a = a := by
  unfold Z4v Z3s
  rw [copy_all (f := id) (a := a) (lo := Z1R a) (fun k i r => rfl)]
  exact List.map_id a
theorem Z4w (a_0 : (List Int)) (hp0 : a_0.length ≤ 1073741824) : Fn prog 21 [.sl (a_0.map (cI .i64))] (.own 0) [.vec 2 1 (a_0.map (cI .i64)) false] := by
 simpa only [Z8P] using Z9c  a_0 hp0
def Z1J (a_0 : (List (List Int))) : Nat → Int → (List (List Int)) → (List (List Int))
  | 0, _, _ => default
  | k + 1, i_l0, r0_l1 => (cond (decide (i_l0 < (a_0.length : Int)))
    (Z1J a_0 k (i_l0 + 1) (r0_l1.set i_l0.toNat (a_0.getD i_l0.toNat default)))
    r0_l1)
def Z4j (a_0 : (List (List Int))) (r : (List (List Int))) : Ex × St := ((.exit 0), ⟨.sl (a_0.map (cL (cI .i64))) :: .any :: .nils :: .own 0 :: .any :: .sl (a_0.map (cL (cI .i64))) :: .i .i64 (a_0.length : Int) :: .own 0 :: an 15 [], [.nest 49 (r.map fun l => l.map (cI .i64)) false]⟩)
def Z5Z (a_0 : (List (List Int))) (i_l0 : Int) (r0_l1 : (List (List Int))) : St := ⟨.sl (a_0.map (cL (cI .i64))) :: .any :: .nils :: .own 0 :: .i .i64 i_l0 :: .sl (a_0.map (cL (cI .i64))) :: .i .i64 (a_0.length : Int) :: .own 0 :: an 15 [], [.nest 49 (r0_l1.map fun l => l.map (cI .i64)) false]⟩
theorem Z7D (a_0 : (List (List Int))) (hp0 : a_0.length ≤ 1073741824) (hp1 : ∀ t ∈ a_0, t.length ≤ 1073741824) : ∀ (k : Nat) (i_l0 : Int) (r0_l1 : (List (List Int))) (Z56 : 0 ≤ i_l0) (Z57 : r0_l1.length = a_0.length) (hk : ((a_0.length : Int) - i_l0).toNat < k), Lp prog 0 (sub (bodyOf f103) [1, 1, 0, 1, 0, 0]) (Z5Z a_0 i_l0 r0_l1) (Z4j a_0 (Z1J a_0 k i_l0 r0_l1)).1 (Z4j a_0 (Z1J a_0 k i_l0 r0_l1)).2 := by
 intro k
 induction k with
 | zero => intro i_l0 r0_l1 Z56 Z57 hk; exact absurd hk (Nat.not_lt_zero _)
 | succ k ih =>
  intro i_l0 r0_l1 Z56 Z57 hk
  have p {a C} (s : Scr a C) := sZ (cL (cI .i64)) a_0 <| s
  cases h_0 : (decide (i_l0 < (a_0.length : Int))) with
  | true =>
   have gh_0 := of_decide_eq_true h_0
   have y_0 : (0 : Int) ≤ i_l0 := by clear p; exact (by assumption)
   have y_1 : i_l0 < (a_0.length : Int) := by clear p; exact (by assumption)
   have y_2 : (a_0.getD i_l0.toNat default).length ≤ 1073741824 := by clear p; exact (by simp_all <;> omega)
   have y_3 : Int.toNat i_l0 < r0_l1.length := by clear p; exact (by omega)
   have y_4 : i_l0.toNat < r0_l1.length := by clear p; exact (by assumption)
   have y_5 : (-9223372036854775808 : Int) ≤ (i_l0 + 1) := by clear p; exact (by omega)
   have y_6 : (i_l0 + 1) ≤ (9223372036854775807 : Int) := by clear p; exact (by omega)
   have e : Z1J a_0 (k + 1) i_l0 r0_l1 = (Z1J a_0 k (i_l0 + 1) (r0_l1.set i_l0.toNat (a_0.getD i_l0.toNat default))) := by simp only [Z1J, h_0, cond_true]
   rw [e]
   exact nextS E0Ok Z3 [] (mR false [0, 1, 1, 6, 15]) [0] (⟨.sl (a_0.map (cL (cI .i64))) :: .any :: .nils :: .own 0 :: .i .i64 (i_l0 + 1) :: .sl (a_0.map (cL (cI .i64))) :: .i .i64 (a_0.length : Int) :: .own 0 :: an 15 [], [.nest 49 ((r0_l1.map fun l => l.map (cI .i64)).set i_l0.toNat ((a_0.getD i_l0.toNat default).map (cI .i64))) false]⟩) (p (sB h_0 <| sG (cL (cI .i64)) a_0 i_l0 y_0 y_1 <| sF (Z4w (a_0.getD i_l0.toNat default) y_2) <| sC (nestix (c := (cI .i64)) (l := r0_l1) (i := i_l0) y_0 y_3) <| sC (show i_l0.toNat < (r0_l1.map fun l => l.map (cI .i64)).length from (by simpa using y_4)) <| sI (i_l0 + 1) y_5 y_6 <| sN)) (by kernel_rfl) (show _ = ⟨.sl (a_0.map (cL (cI .i64))) :: .any :: .nils :: .own 0 :: .i .i64 (i_l0 + 1) :: .sl (a_0.map (cL (cI .i64))) :: .i .i64 (a_0.length : Int) :: .own 0 :: an 15 [], [.nest 49 ((r0_l1.set i_l0.toNat (a_0.getD i_l0.toNat default)).map fun l => l.map (cI .i64)) false]⟩ from (by simp [List.map_set, cL, cI])) (ih (i_l0 + 1) (r0_l1.set i_l0.toNat (a_0.getD i_l0.toNat default)) (show 0 ≤ (i_l0 + 1) from (by omega)) (show (r0_l1.set i_l0.toNat (a_0.getD i_l0.toNat default)).length = a_0.length from (by simp_all <;> omega)) (by omega))
  | false =>
   have gh_0 := of_decide_eq_false h_0
   have e : Z1J a_0 (k + 1) i_l0 r0_l1 = r0_l1 := by simp only [Z1J, h_0, cond_false]
   rw [e]
   exact outR (e := (.exit 0)) E0Ok Z3 [] (mR false [0, 1, 1, 2, 1, 3, 15]) [0] (p (sB h_0 <| sN)) (by kernel_rfl) (by intro h; cases h)
def Z3i (a_0 : (List (List Int))) : (List (List Int)) := (Z1J a_0 (((a_0.length : Int) - 0).toNat + 1) 0 (List.replicate (a_0.length : Int).toNat ([] : (List Int))))
def Z46 (a_0 : (List (List Int))) : (List (List Int)) := (Z3i a_0)
theorem Z8Q (a_0 : (List (List Int))) (hp0 : a_0.length ≤ 1073741824) (hp1 : ∀ t ∈ a_0, t.length ≤ 1073741824)  : Fn prog 103 [.sl (a_0.map (cL (cI .i64)))] (.own 0) [.nest 49 ((Z46 a_0).map fun l => l.map (cI .i64)) false] := by
 have y0 : (0 : Int) ≤ (a_0.length : Int) := (by omega)
 have y1 : ((a_0.length : Int) : Int) ≤ 2147483648 := (by omega)
 refine fnS E0Ok Z3 (c := bodyOf f103) [] (.own 0) [.nest 49 ((Z3i a_0).map fun l => l.map (cI .i64)) false] func103 (sZ (cL (cI .i64)) a_0 <| sC (show (a_0.length : Int) = (a_0.length : Int) from rfl) <| sC y0 <| sC y1 <| sL (mR false [0, 1, 1, 6, 15]) 1 (lp_cast (st2 := ⟨.sl (a_0.map (cL (cI .i64))) :: .any :: .nils :: .own 0 :: .i .i64 0 :: .sl (a_0.map (cL (cI .i64))) :: .i .i64 (a_0.length : Int) :: .own 0 :: an 15 [], [.nest 49 (List.replicate (a_0.length : Int).toNat []) false]⟩) (lp_val (Z4j a_0) (x := (Z3i a_0)) (Z7D a_0 hp0 hp1 (((a_0.length : Int) - 0).toNat + 1) 0 (List.replicate (a_0.length : Int).toNat ([] : (List Int))) (show 0 ≤ 0 from (by omega)) (show (List.replicate (a_0.length : Int).toNat ([] : (List Int))).length = a_0.length from (by simp)) (Nat.lt_succ_self _)) rfl) (by simp [Z5Z, cL, cI])) <| sK [0] sN) rfl (by kernel_rfl) (by kernel_rfl) rfl ?_ ?_
 · rfl
 · simp [Z46]
@[simp] theorem Z8v (a : List (List Int)) : Z46 a = a := by
  unfold Z46 Z3i
  rw [copy_all (f := id) (a := a) (lo := Z1J a) (fun k i r => rfl)]
  exact List.map_id a
theorem Z8R (a_0 : (List (List Int))) (hp0 : a_0.length ≤ 1073741824) (hp1 : ∀ t ∈ a_0, t.length ≤ 1073741824) : Fn prog 103 [.sl (a_0.map (cL (cI .i64)))] (.own 0) [.nest 49 (a_0.map fun l => l.map (cI .i64)) false] := by
 simpa only [Z8v] using Z8Q  a_0 hp0 hp1
def Z4g (a_0 : GMesh) : GMesh := a_0
theorem Z9Q (a_0 : GMesh) (hp0 : a_0.Places.length ≤ 1073741824) (hp1 : a_0.Triangles.length ≤ 1073741824) (hp2 : ∀ t ∈ a_0.Triangles, t.length ≤ 1073741824)  : Fn prog 52 [.agg [.sl (a_0.Places.map GVector.cells), .sl (a_0.Triangles.map (cL (cI .i64)))]] (.agg [.own 0, .own 1]) [.vec 40 3 (((Z4g a_0).Places).map GVector.cells) false, .nest 49 (((Z4g a_0).Triangles).map fun l => l.map (cI .i64)) false] := by
 refine fnS E0Ok Z3 (c := bodyOf f52) [] (.agg [.own 0, .own 1]) [.vec 40 3 (a_0.Places.map GVector.cells) false, .nest 49 (a_0.Triangles.map fun l => l.map (cI .i64)) false] func52 (sF (Z8O a_0.Places hp0) <| sF (Z8R a_0.Triangles hp1 hp2) <| sK [3, 4] sN) rfl (by kernel_rfl) (by kernel_rfl) rfl ?_ ?_
 · rfl
 · simp [Z4g]
@[simp] theorem Z9s (a : GMesh) : Z4g a = a := by
  simp [Z4g]
theorem Z9R (a_0 : GMesh) (hp0 : a_0.Places.length ≤ 1073741824) (hp1 : a_0.Triangles.length ≤ 1073741824) (hp2 : ∀ t ∈ a_0.Triangles, t.length ≤ 1073741824) : Fn prog 52 [.agg [.sl (a_0.Places.map GVector.cells), .sl (a_0.Triangles.map (cL (cI .i64)))]] (.agg [.own 0, .own 1]) [.vec 40 3 (a_0.Places.map GVector.cells) false, .nest 49 (a_0.Triangles.map fun l => l.map (cI .i64)) false] := by
 simpa only [Z9s] using Z9Q  a_0 hp0 hp1 hp2
def Z3P (a_0 : GSpring) : GSpring := a_0
theorem Z9d (a_0 : GSpring)   : Fn prog 104 [.agg [.i .i64 a_0.A, .i .i64 a_0.B, .f .f32 a_0.Long, .f .f32 a_0.Stiff]] (.agg [.i .i64 ((Z3P a_0).A), .i .i64 ((Z3P a_0).B), .f .f32 ((Z3P a_0).Long), .f .f32 ((Z3P a_0).Stiff)]) [] := by
 refine fnS E0Ok Z3 (c := bodyOf f104) [] (.agg [.i .i64 a_0.A, .i .i64 a_0.B, .f .f32 a_0.Long, .f .f32 a_0.Stiff]) [] func104 (sK [] sN) rfl (by kernel_rfl) (by kernel_rfl) rfl ?_ ?_
 · rfl
 · rfl
@[simp] theorem Z8S (a : GSpring) : Z3P a = a := rfl
theorem Z9e (a_0 : GSpring)  : Fn prog 104 [.agg [.i .i64 a_0.A, .i .i64 a_0.B, .f .f32 a_0.Long, .f .f32 a_0.Stiff]] (.agg [.i .i64 a_0.A, .i .i64 a_0.B, .f .f32 a_0.Long, .f .f32 a_0.Stiff]) [] := by
 simpa only [Z8S] using Z9d  a_0 
def Z1K (a_0 : (List GSpring)) : Nat → Int → (List GSpring) → (List GSpring)
  | 0, _, _ => default
  | k + 1, i_l0, r0_l1 => (cond (decide (i_l0 < (a_0.length : Int)))
    (Z1K a_0 k (i_l0 + 1) (r0_l1.set i_l0.toNat (a_0.getD i_l0.toNat default)))
    r0_l1)
def Z4k (a_0 : (List GSpring)) (r : (List GSpring)) : Ex × St := ((.exit 0), ⟨.sl (a_0.map GSpring.cells) :: .any :: .nils :: .own 0 :: .any :: .sl (a_0.map GSpring.cells) :: .i .i64 (a_0.length : Int) :: .own 0 :: an 15 [], [.vec 133 4 (r.map GSpring.cells) false]⟩)
def Z60 (a_0 : (List GSpring)) (i_l0 : Int) (r0_l1 : (List GSpring)) : St := ⟨.sl (a_0.map GSpring.cells) :: .any :: .nils :: .own 0 :: .i .i64 i_l0 :: .sl (a_0.map GSpring.cells) :: .i .i64 (a_0.length : Int) :: .own 0 :: an 15 [], [.vec 133 4 (r0_l1.map GSpring.cells) false]⟩
theorem Z7E (a_0 : (List GSpring)) (hp0 : a_0.length ≤ 1073741824) : ∀ (k : Nat) (i_l0 : Int) (r0_l1 : (List GSpring)) (Z58 : 0 ≤ i_l0) (Z59 : r0_l1.length = a_0.length) (hk : ((a_0.length : Int) - i_l0).toNat < k), Lp prog 0 (sub (bodyOf f53) [1, 1, 0, 1, 0, 0]) (Z60 a_0 i_l0 r0_l1) (Z4k a_0 (Z1K a_0 k i_l0 r0_l1)).1 (Z4k a_0 (Z1K a_0 k i_l0 r0_l1)).2 := by
 intro k
 induction k with
 | zero => intro i_l0 r0_l1 Z58 Z59 hk; exact absurd hk (Nat.not_lt_zero _)
 | succ k ih =>
  intro i_l0 r0_l1 Z58 Z59 hk
  have p {a C} (s : Scr a C) := sZ GSpring.cells a_0 <| s
  cases h_0 : (decide (i_l0 < (a_0.length : Int))) with
  | true =>
   have gh_0 := of_decide_eq_true h_0
   have y_0 : (0 : Int) ≤ i_l0 := by clear p; exact (by assumption)
   have y_1 : i_l0 < (a_0.length : Int) := by clear p; exact (by assumption)
   have y_2 : i_l0 < (r0_l1.length : Int) := by clear p; exact (by omega)
   have y_3 : i_l0.toNat < r0_l1.length := by clear p; exact (by omega)
   have y_4 : (-9223372036854775808 : Int) ≤ (i_l0 + 1) := by clear p; exact (by omega)
   have y_5 : (i_l0 + 1) ≤ (9223372036854775807 : Int) := by clear p; exact (by omega)
   have e : Z1K a_0 (k + 1) i_l0 r0_l1 = (Z1K a_0 k (i_l0 + 1) (r0_l1.set i_l0.toNat (a_0.getD i_l0.toNat default))) := by simp only [Z1K, h_0, cond_true]
   rw [e]
   exact nextS E0Ok Z3 [] (mR false [0, 1, 1, 6, 15]) [0] (⟨.sl (a_0.map GSpring.cells) :: .any :: .nils :: .own 0 :: .i .i64 (i_l0 + 1) :: .sl (a_0.map GSpring.cells) :: .i .i64 (a_0.length : Int) :: .own 0 :: an 15 [], [.vec 133 4 ((r0_l1.map GSpring.cells).set i_l0.toNat [.i .i64 ((a_0.getD i_l0.toNat default).A), .i .i64 ((a_0.getD i_l0.toNat default).B), .f .f32 ((a_0.getD i_l0.toNat default).Long), .f .f32 ((a_0.getD i_l0.toNat default).Stiff)]) false]⟩) (p (sB h_0 <| sG GSpring.cells a_0 i_l0 y_0 y_1 <| sF (Z9e (a_0.getD i_l0.toNat default)) <| sX GSpring.cells r0_l1 i_l0 y_0 y_2 <| sC (maplt (c := GSpring.cells) (l := r0_l1) y_3) <| sI (i_l0 + 1) y_4 y_5 <| sN)) (by kernel_rfl) (show _ = ⟨.sl (a_0.map GSpring.cells) :: .any :: .nils :: .own 0 :: .i .i64 (i_l0 + 1) :: .sl (a_0.map GSpring.cells) :: .i .i64 (a_0.length : Int) :: .own 0 :: an 15 [], [.vec 133 4 ((r0_l1.set i_l0.toNat (a_0.getD i_l0.toNat default)).map GSpring.cells) false]⟩ from (by simp [List.map_set, GSpring.cells])) (ih (i_l0 + 1) (r0_l1.set i_l0.toNat (a_0.getD i_l0.toNat default)) (show 0 ≤ (i_l0 + 1) from (by omega)) (show (r0_l1.set i_l0.toNat (a_0.getD i_l0.toNat default)).length = a_0.length from (by simp_all <;> omega)) (by omega))
  | false =>
   have gh_0 := of_decide_eq_false h_0
   have e : Z1K a_0 (k + 1) i_l0 r0_l1 = r0_l1 := by simp only [Z1K, h_0, cond_false]
   rw [e]
   exact outR (e := (.exit 0)) E0Ok Z3 [] (mR false [0, 1, 1, 2, 1, 3, 15]) [0] (p (sB h_0 <| sN)) (by kernel_rfl) (by intro h; cases h)
def Z3j (a_0 : (List GSpring)) : (List GSpring) := (Z1K a_0 (((a_0.length : Int) - 0).toNat + 1) 0 (List.replicate (a_0.length : Int).toNat (⟨0, 0, 0, 0⟩ : GSpring)))
def Z47 (a_0 : (List GSpring)) : (List GSpring) := (Z3j a_0)
theorem Z8T (a_0 : (List GSpring)) (hp0 : a_0.length ≤ 1073741824)  : Fn prog 53 [.sl (a_0.map GSpring.cells)] (.own 0) [.vec 133 4 ((Z47 a_0).map GSpring.cells) false] := by
 have y0 : (0 : Int) ≤ (a_0.length : Int) := (by omega)
 have y1 : ((a_0.length : Int) : Int) ≤ 2147483648 := (by omega)
 refine fnS E0Ok Z3 (c := bodyOf f53) [] (.own 0) [.vec 133 4 ((Z3j a_0).map GSpring.cells) false] func53 (sZ GSpring.cells a_0 <| sC (show (a_0.length : Int) = (a_0.length : Int) from rfl) <| sC y0 <| sC y1 <| sL (mR false [0, 1, 1, 6, 15]) 1 (lp_cast (st2 := ⟨.sl (a_0.map GSpring.cells) :: .any :: .nils :: .own 0 :: .i .i64 0 :: .sl (a_0.map GSpring.cells) :: .i .i64 (a_0.length : Int) :: .own 0 :: an 15 [], [.vec 133 4 (List.replicate (Int.toNat (a_0.length : Int)) [.i .i64 0, .i .i64 0, .f .f32 0, .f .f32 0]) false]⟩) (lp_val (Z4k a_0) (x := (Z3j a_0)) (Z7E a_0 hp0 (((a_0.length : Int) - 0).toNat + 1) 0 (List.replicate (a_0.length : Int).toNat (⟨0, 0, 0, 0⟩ : GSpring)) (show 0 ≤ 0 from (by omega)) (show (List.replicate (a_0.length : Int).toNat (⟨0, 0, 0, 0⟩ : GSpring)).length = a_0.length from (by simp)) (Nat.lt_succ_self _)) rfl) (by simp [Z60, GSpring.cells])) <| sK [0] sN) rfl (by kernel_rfl) (by kernel_rfl) rfl ?_ ?_
 · rfl
 · simp [Z47]
@[simp] theorem Z8w (a : List GSpring) : Z47 a = a := by
  unfold Z47 Z3j
  rw [copy_all (f := id) (a := a) (lo := Z1K a) (fun k i r => rfl)]
  exact List.map_id a
theorem Z8U (a_0 : (List GSpring)) (hp0 : a_0.length ≤ 1073741824) : Fn prog 53 [.sl (a_0.map GSpring.cells)] (.own 0) [.vec 133 4 (a_0.map GSpring.cells) false] := by
 simpa only [Z8w] using Z8T  a_0 hp0
def Z1z (a_0 : (List Nat)) : Nat → Int → (List Nat) → (List Nat)
  | 0, _, _ => default
  | k + 1, i_l0, r0_l1 => (cond (decide (i_l0 < (a_0.length : Int)))
    (Z1z a_0 k (i_l0 + 1) (r0_l1.set i_l0.toNat (a_0.getD i_l0.toNat default)))
    r0_l1)
def Z48 (a_0 : (List Nat)) (r : (List Nat)) : Ex × St := ((.exit 0), ⟨.sl (a_0.map (cF .f32)) :: .any :: .nils :: .own 0 :: .any :: .sl (a_0.map (cF .f32)) :: .i .i64 (a_0.length : Int) :: .own 0 :: an 14 [], [.vec 27 1 (r.map (cF .f32)) false]⟩)
def Z5y (a_0 : (List Nat)) (i_l0 : Int) (r0_l1 : (List Nat)) : St := ⟨.sl (a_0.map (cF .f32)) :: .any :: .nils :: .own 0 :: .i .i64 i_l0 :: .sl (a_0.map (cF .f32)) :: .i .i64 (a_0.length : Int) :: .own 0 :: an 14 [], [.vec 27 1 (r0_l1.map (cF .f32)) false]⟩
theorem Z7c (a_0 : (List Nat)) (hp0 : a_0.length ≤ 1073741824) : ∀ (k : Nat) (i_l0 : Int) (r0_l1 : (List Nat)) (Z4T : 0 ≤ i_l0) (Z4U : r0_l1.length = a_0.length) (hk : ((a_0.length : Int) - i_l0).toNat < k), Lp prog 0 (sub (bodyOf f54) [1, 1, 0, 1, 0, 0]) (Z5y a_0 i_l0 r0_l1) (Z48 a_0 (Z1z a_0 k i_l0 r0_l1)).1 (Z48 a_0 (Z1z a_0 k i_l0 r0_l1)).2 := by
 intro k
 induction k with
 | zero => intro i_l0 r0_l1 Z4T Z4U hk; exact absurd hk (Nat.not_lt_zero _)
 | succ k ih =>
  intro i_l0 r0_l1 Z4T Z4U hk
  have p {a C} (s : Scr a C) := sZ (cF .f32) a_0 <| s
  cases h_0 : (decide (i_l0 < (a_0.length : Int))) with
  | true =>
   have gh_0 := of_decide_eq_true h_0
   have y_0 : (0 : Int) ≤ i_l0 := by clear p; exact (by assumption)
   have y_1 : i_l0 < (a_0.length : Int) := by clear p; exact (by assumption)
   have y_2 : i_l0 < (r0_l1.length : Int) := by clear p; exact (by omega)
   have y_3 : i_l0.toNat < r0_l1.length := by clear p; exact (by omega)
   have y_4 : (-9223372036854775808 : Int) ≤ (i_l0 + 1) := by clear p; exact (by omega)
   have y_5 : (i_l0 + 1) ≤ (9223372036854775807 : Int) := by clear p; exact (by omega)
   have e : Z1z a_0 (k + 1) i_l0 r0_l1 = (Z1z a_0 k (i_l0 + 1) (r0_l1.set i_l0.toNat (a_0.getD i_l0.toNat default))) := by simp only [Z1z, h_0, cond_true]
   rw [e]
   exact nextS E0Ok Z3 [] (mR false [0, 1, 1, 6, 14]) [0] (⟨.sl (a_0.map (cF .f32)) :: .any :: .nils :: .own 0 :: .i .i64 (i_l0 + 1) :: .sl (a_0.map (cF .f32)) :: .i .i64 (a_0.length : Int) :: .own 0 :: an 14 [], [.vec 27 1 ((r0_l1.map (cF .f32)).set i_l0.toNat [.f .f32 (a_0.getD i_l0.toNat default)]) false]⟩) (p (sB h_0 <| sG (cF .f32) a_0 i_l0 y_0 y_1 <| sX (cF .f32) r0_l1 i_l0 y_0 y_2 <| sC (maplt (c := (cF .f32)) (l := r0_l1) y_3) <| sI (i_l0 + 1) y_4 y_5 <| sN)) (by kernel_rfl) (show _ = ⟨.sl (a_0.map (cF .f32)) :: .any :: .nils :: .own 0 :: .i .i64 (i_l0 + 1) :: .sl (a_0.map (cF .f32)) :: .i .i64 (a_0.length : Int) :: .own 0 :: an 14 [], [.vec 27 1 ((r0_l1.set i_l0.toNat (a_0.getD i_l0.toNat default)).map (cF .f32)) false]⟩ from (by simp [List.map_set, cF])) (ih (i_l0 + 1) (r0_l1.set i_l0.toNat (a_0.getD i_l0.toNat default)) (show 0 ≤ (i_l0 + 1) from (by omega)) (show (r0_l1.set i_l0.toNat (a_0.getD i_l0.toNat default)).length = a_0.length from (by simp_all <;> omega)) (by omega))
  | false =>
   have gh_0 := of_decide_eq_false h_0
   have e : Z1z a_0 (k + 1) i_l0 r0_l1 = r0_l1 := by simp only [Z1z, h_0, cond_false]
   rw [e]
   exact outR (e := (.exit 0)) E0Ok Z3 [] (mR false [0, 1, 1, 2, 1, 3, 14]) [0] (p (sB h_0 <| sN)) (by kernel_rfl) (by intro h; cases h)
def Z3d (a_0 : (List Nat)) : (List Nat) := (Z1z a_0 (((a_0.length : Int) - 0).toNat + 1) 0 (List.replicate (a_0.length : Int).toNat 0))
def Z3V (a_0 : (List Nat)) : (List Nat) := (Z3d a_0)
theorem Z8x (a_0 : (List Nat)) (hp0 : a_0.length ≤ 1073741824)  : Fn prog 54 [.sl (a_0.map (cF .f32))] (.own 0) [.vec 27 1 ((Z3V a_0).map (cF .f32)) false] := by
 have y0 : (0 : Int) ≤ (a_0.length : Int) := (by omega)
 have y1 : ((a_0.length : Int) : Int) ≤ 2147483648 := (by omega)
 refine fnS E0Ok Z3 (c := bodyOf f54) [] (.own 0) [.vec 27 1 ((Z3d a_0).map (cF .f32)) false] func54 (sZ (cF .f32) a_0 <| sC (show (a_0.length : Int) = (a_0.length : Int) from rfl) <| sC y0 <| sC y1 <| sL (mR false [0, 1, 1, 6, 14]) 1 (lp_cast (st2 := ⟨.sl (a_0.map (cF .f32)) :: .any :: .nils :: .own 0 :: .i .i64 0 :: .sl (a_0.map (cF .f32)) :: .i .i64 (a_0.length : Int) :: .own 0 :: an 14 [], [.vec 27 1 (List.replicate (Int.toNat (a_0.length : Int)) [.f .f32 0]) false]⟩) (lp_val (Z48 a_0) (x := (Z3d a_0)) (Z7c a_0 hp0 (((a_0.length : Int) - 0).toNat + 1) 0 (List.replicate (a_0.length : Int).toNat 0) (show 0 ≤ 0 from (by omega)) (show (List.replicate (a_0.length : Int).toNat 0).length = a_0.length from (by simp)) (Nat.lt_succ_self _)) rfl) (by simp [Z5y, cF])) <| sK [0] sN) rfl (by kernel_rfl) (by kernel_rfl) rfl ?_ ?_
 · rfl
 · simp [Z3V]
@[simp] theorem Z80 (a : List Nat) : Z3V a = a := by
  unfold Z3V Z3d
  rw [copy_all (f := id) (a := a) (lo := Z1z a) (fun k i r => rfl)]
  exact List.map_id a
theorem Z8y (a_0 : (List Nat)) (hp0 : a_0.length ≤ 1073741824) : Fn prog 54 [.sl (a_0.map (cF .f32))] (.own 0) [.vec 27 1 (a_0.map (cF .f32)) false] := by
 simpa only [Z80] using Z8x  a_0 hp0
def Z2g (a_0 : GBody) : GBody := a_0
theorem Z9S (a_0 : GBody) (hp0 : a_0.Mesh.Places.length ≤ 1073741824) (hp1 : a_0.Mesh.Triangles.length ≤ 1073741824) (hp2 : ∀ t ∈ a_0.Mesh.Triangles, t.length ≤ 1073741824) (hp3 : a_0.Springs.length ≤ 1073741824) (hp4 : a_0.Weights.length ≤ 1073741824)  : Fn prog 13 [.agg [.sl (a_0.Mesh.Places.map GVector.cells), .sl (a_0.Mesh.Triangles.map (cL (cI .i64))), .sl (a_0.Springs.map GSpring.cells), .f .f32 a_0.Film, .f .f32 a_0.Bend, .sl (a_0.Weights.map (cF .f32)), .f .f32 a_0.Fall.X, .f .f32 a_0.Fall.Y, .f .f32 a_0.Fall.Z]] (.agg [.own 0, .own 1, .own 2, .f .f32 ((Z2g a_0).Film), .f .f32 ((Z2g a_0).Bend), .own 3, .f .f32 ((Z2g a_0).Fall.X), .f .f32 ((Z2g a_0).Fall.Y), .f .f32 ((Z2g a_0).Fall.Z)]) [.vec 40 3 (((Z2g a_0).Mesh.Places).map GVector.cells) false, .nest 49 (((Z2g a_0).Mesh.Triangles).map fun l => l.map (cI .i64)) false, .vec 133 4 (((Z2g a_0).Springs).map GSpring.cells) false, .vec 27 1 (((Z2g a_0).Weights).map (cF .f32)) false] := by
 refine fnS E0Ok Z3 (c := bodyOf f13) [] (.agg [.own 0, .own 1, .own 2, .f .f32 a_0.Film, .f .f32 a_0.Bend, .own 3, .f .f32 a_0.Fall.X, .f .f32 a_0.Fall.Y, .f .f32 a_0.Fall.Z]) [.vec 40 3 (a_0.Mesh.Places.map GVector.cells) false, .nest 49 (a_0.Mesh.Triangles.map fun l => l.map (cI .i64)) false, .vec 133 4 (a_0.Springs.map GSpring.cells) false, .vec 27 1 (a_0.Weights.map (cF .f32)) false] func13 (sF (Z9R a_0.Mesh hp0 hp1 hp2) <| sF (Z8U a_0.Springs hp3) <| sF (Z8y a_0.Weights hp4) <| sF (Z6O a_0.Fall) <| sK [3, 4, 5, 6] sN) rfl (by kernel_rfl) (by kernel_rfl) rfl ?_ ?_
 · rfl
 · simp [Z2g]
@[simp] theorem Z9t (a : GBody) : Z2g a = a := by
  simp [Z2g]
theorem Z6v (a_0 : GBody) (hp0 : a_0.Mesh.Places.length ≤ 1073741824) (hp1 : a_0.Mesh.Triangles.length ≤ 1073741824) (hp2 : ∀ t ∈ a_0.Mesh.Triangles, t.length ≤ 1073741824) (hp3 : a_0.Springs.length ≤ 1073741824) (hp4 : a_0.Weights.length ≤ 1073741824) : Fn prog 13 [.agg [.sl (a_0.Mesh.Places.map GVector.cells), .sl (a_0.Mesh.Triangles.map (cL (cI .i64))), .sl (a_0.Springs.map GSpring.cells), .f .f32 a_0.Film, .f .f32 a_0.Bend, .sl (a_0.Weights.map (cF .f32)), .f .f32 a_0.Fall.X, .f .f32 a_0.Fall.Y, .f .f32 a_0.Fall.Z]] (.agg [.own 0, .own 1, .own 2, .f .f32 a_0.Film, .f .f32 a_0.Bend, .own 3, .f .f32 a_0.Fall.X, .f .f32 a_0.Fall.Y, .f .f32 a_0.Fall.Z]) [.vec 40 3 (a_0.Mesh.Places.map GVector.cells) false, .nest 49 (a_0.Mesh.Triangles.map fun l => l.map (cI .i64)) false, .vec 133 4 (a_0.Springs.map GSpring.cells) false, .vec 27 1 (a_0.Weights.map (cF .f32)) false] := by
 simpa only [Z9t] using Z9S  a_0 hp0 hp1 hp2 hp3 hp4
def Zr (n_0 : Int) (low_1 : Int) (high_2 : Int) : Bool := (cond (decide (n_0 ≥ low_1))
  (decide (n_0 ≤ high_2))
  false)
theorem Z3Y (n_0 : Int) (low_1 : Int) (high_2 : Int)   : Fn prog 81 [.i .i64 n_0, .i .i64 low_1, .i .i64 high_2] (.b (Zr n_0 low_1 high_2)) [] := by
 cases h0 : (decide (n_0 ≥ low_1)) with
 | true =>
  have gh0 := of_decide_eq_true h0
  refine fnS E0Ok Z3 (c := bodyOf f81) [] (.b (decide (n_0 ≤ high_2))) [] func81 (sB h0 <| sB h0 <| sB h0 <| sB h0 <| sK [] sN) rfl (by kernel_rfl) (by kernel_rfl) rfl ?_ ?_
  · simp only [Zr, h0, cond_true]
  · rfl
 | false =>
  have gh0 := of_decide_eq_false h0
  refine fnS E0Ok Z3 (c := bodyOf f81) [] (.b false) [] func81 (sB h0 <| sB h0 <| sB h0 <| sB h0 <| sK [] sN) rfl (by kernel_rfl) (by kernel_rfl) rfl ?_ ?_
  · simp only [Zr, h0, cond_false]
  · rfl
theorem ZaR {x : Int} {n : Nat} (hn : n ≤ 9223372036854775807) (h : Zr x 0 (IntKind.wrap .i64 ((n : Int) - 1)) = true) : 0 ≤ x ∧ x < (n : Int) := by
  unfold Zr at h
  rw [wrap_id (n := (n : Int) - 1) (by omega) (by omega)] at h
  by_cases h1 : x ≥ 0 <;> simp [h1] at h
  omega
def Zs (t_0 : (List Int)) (n_1 : Int) : Bool := (cond ((t_0.length : Int) != 3)
  false
  (cond ((t_0.getD 0 default) == (t_0.getD 1 default))
    false
    (cond ((t_0.getD 1 default) == (t_0.getD 2 default))
      false
      (cond ((t_0.getD 0 default) == (t_0.getD 2 default))
        false
        (cond (Zr (t_0.getD 0 default) 0 (IntKind.wrap .i64 (n_1 - 1)))
          (cond (Zr (t_0.getD 1 default) 0 (IntKind.wrap .i64 (n_1 - 1)))
            (Zr (t_0.getD 2 default) 0 (IntKind.wrap .i64 (n_1 - 1)))
            false)
          false)))))
theorem Z81 (t_0 : (List Int)) (n_1 : Int) (hp0 : t_0.length ≤ 1073741824)  : Fn prog 135 [.sl (t_0.map (cI .i64)), .i .i64 n_1] (.b (Zs t_0 n_1)) [] := by
 have p {a C} (s : Scr a C) := sK [28, 28] <| sZ (cI .i64) t_0 <| s
 cases h0 : ((t_0.length : Int) != 3) with
 | true =>
  have gh0 := bne_iff_ne.1 h0
  refine fnS E0Ok Z3 (c := bodyOf f135) [] (.b false) [] func135 (p (sB h0 <| sB h0 <| sB h0 <| sB h0 <| sB h0 <| sB h0 <| sB h0 <| sB h0 <| sB (show true = true from rfl) <| sB (show true = true from rfl) <| sB (show true = true from rfl) <| sB (show true = true from rfl) <| sB (show true = true from rfl) <| sB (show true = true from rfl) <| sB (show true = true from rfl) <| sB (show true = true from rfl) <| sB (show true = true from rfl) <| sB (show true = true from rfl) <| sB (show true = true from rfl) <| sB (show true = true from rfl) <| sB (show true = true from rfl) <| sB (show true = true from rfl) <| sB (show true = true from rfl) <| sB (show true = true from rfl) <| sB (show true = true from rfl) <| sK [] sN)) rfl (by kernel_rfl) (by kernel_rfl) rfl ?_ ?_
  · simp only [Zs, h0, cond_true]
  · rfl
 | false =>
  have gh0 := bne_eq_false_iff_eq.1 h0
  have y0 : (0 : Int) ≤ 0 := by clear p; exact (by omega)
  have y1 : 0 < (t_0.length : Int) := by clear p; exact (by omega)
  have y2 : (0 : Int) ≤ 1 := by clear p; exact (by omega)
  have y3 : 1 < (t_0.length : Int) := by clear p; exact (by omega)
  have q {a C} (s : Scr a C) := p (sB h0 <| sB h0 <| sG (cI .i64) t_0 0 y0 y1 <| sB h0 <| sB h0 <| sB h0 <| sG (cI .i64) t_0 1 y2 y3 <| sB h0 <| sB h0 <| sB h0 <| s)
  clear p
  cases h1 : ((t_0.getD 0 default) == (t_0.getD 1 default)) with
  | true =>
   have gh1 := eq_of_beq h1
   refine fnS E0Ok Z3 (c := bodyOf f135) [] (.b false) [] func135 (q (sB h1 <| sB h1 <| sB h1 <| sB h1 <| sB h1 <| sB h1 <| sB h1 <| sB h1 <| sB (show true = true from rfl) <| sB (show true = true from rfl) <| sB (show true = true from rfl) <| sB (show true = true from rfl) <| sB (show true = true from rfl) <| sB (show true = true from rfl) <| sB (show true = true from rfl) <| sB (show true = true from rfl) <| sB (show true = true from rfl) <| sK [] sN)) rfl (by kernel_rfl) (by kernel_rfl) rfl ?_ ?_
   · simp only [Zs, h0, h1, cond_true, cond_false]
   · rfl
  | false =>
   have gh1 := ne_of_beq_false h1
   have y4 : (0 : Int) ≤ 2 := by clear q; exact (by omega)
   have y5 : 2 < (t_0.length : Int) := by clear q; exact (by omega)
   have p {a C} (s : Scr a C) := q (sB h1 <| sB h1 <| sG (cI .i64) t_0 1 y2 y3 <| sB h1 <| sB h1 <| sB h1 <| sG (cI .i64) t_0 2 y4 y5 <| sB h1 <| sB h1 <| sB h1 <| s)
   clear q
   cases h2 : ((t_0.getD 1 default) == (t_0.getD 2 default)) with
   | true =>
    have gh2 := eq_of_beq h2
    refine fnS E0Ok Z3 (c := bodyOf f135) [] (.b false) [] func135 (p (sB h2 <| sB h2 <| sB h2 <| sB h2 <| sB h2 <| sB h2 <| sB h2 <| sB h2 <| sB (show true = true from rfl) <| sK [] sN)) rfl (by kernel_rfl) (by kernel_rfl) rfl ?_ ?_
    · simp only [Zs, h0, h1, h2, cond_true, cond_false]
    · rfl
   | false =>
    have gh2 := ne_of_beq_false h2
    have q {a C} (s : Scr a C) := p (sB h2 <| sB h2 <| sG (cI .i64) t_0 0 y0 y1 <| sB h2 <| sB h2 <| sB h2 <| sG (cI .i64) t_0 2 y4 y5 <| sB h2 <| sB h2 <| sB h2 <| s)
    clear p
    cases h3 : ((t_0.getD 0 default) == (t_0.getD 2 default)) with
    | true =>
     have gh3 := eq_of_beq h3
     refine fnS E0Ok Z3 (c := bodyOf f135) [] (.b false) [] func135 (q (sB h3 <| sK [] sN)) rfl (by kernel_rfl) (by kernel_rfl) rfl ?_ ?_
     · simp only [Zs, h0, h1, h2, h3, cond_true, cond_false]
     · rfl
    | false =>
     have gh3 := ne_of_beq_false h3
     have p {a C} (s : Scr a C) := q (sB h3 <| sG (cI .i64) t_0 0 y0 y1 <| sW .i64 (n_1 - 1) <| sF (Z3Y (t_0.getD 0 default) 0 (IntKind.wrap .i64 (n_1 - 1))) <| s)
     clear q
     cases h4 : (Zr (t_0.getD 0 default) 0 (IntKind.wrap .i64 (n_1 - 1))) with
     | true =>
      have q {a C} (s : Scr a C) := p (sB h4 <| sB h4 <| sG (cI .i64) t_0 1 y2 y3 <| sB h4 <| sB h4 <| sB h4 <| sW .i64 (n_1 - 1) <| sB h4 <| sF (Z3Y (t_0.getD 1 default) 0 (IntKind.wrap .i64 (n_1 - 1))) <| sB h4 <| s)
      clear p
      cases h5 : (Zr (t_0.getD 1 default) 0 (IntKind.wrap .i64 (n_1 - 1))) with
      | true =>
       refine fnS E0Ok Z3 (c := bodyOf f135) [] (.b (Zr (t_0.getD 2 default) 0 (IntKind.wrap .i64 (n_1 - 1)))) [] func135 (q (sB h5 <| sB h5 <| sG (cI .i64) t_0 2 y4 y5 <| sB h5 <| sB h5 <| sB h5 <| sW .i64 (n_1 - 1) <| sB h5 <| sF (Z3Y (t_0.getD 2 default) 0 (IntKind.wrap .i64 (n_1 - 1))) <| sB h5 <| sK [] sN)) rfl (by kernel_rfl) (by kernel_rfl) rfl ?_ ?_
       · simp only [Zs, h0, h1, h2, h3, h4, h5, cond_true, cond_false]
       · rfl
      | false =>
       refine fnS E0Ok Z3 (c := bodyOf f135) [] (.b false) [] func135 (q (sB h5 <| sB h5 <| sB h5 <| sB h5 <| sB h5 <| sB h5 <| sB h5 <| sK [] sN)) rfl (by kernel_rfl) (by kernel_rfl) rfl ?_ ?_
       · simp only [Zs, h0, h1, h2, h3, h4, h5, cond_true, cond_false]
       · rfl
     | false =>
      refine fnS E0Ok Z3 (c := bodyOf f135) [] (.b false) [] func135 (p (sB h4 <| sB h4 <| sB h4 <| sB h4 <| sB h4 <| sB h4 <| sB h4 <| sB (show false = false from rfl) <| sB (show false = false from rfl) <| sB (show false = false from rfl) <| sB (show false = false from rfl) <| sB (show false = false from rfl) <| sB (show false = false from rfl) <| sB (show false = false from rfl) <| sK [] sN)) rfl (by kernel_rfl) (by kernel_rfl) rfl ?_ ?_
      · simp only [Zs, h0, h1, h2, h3, h4, cond_false]
      · rfl
def Z1T (m_0 : GMesh) : Nat → Int → (Unit) ⊕ (Unit)
  | 0, _ => .inl default
  | k + 1, i_l0 => (cond (decide (i_l0 < (m_0.Triangles.length : Int)))
    (cond (Zs (m_0.Triangles.getD i_l0.toNat default) (m_0.Places.length : Int))
      (Z1T m_0 k (i_l0 + 1))
      (.inl ()))
    (.inr ()))
def Z4x (m_0 : GMesh) : (Unit) ⊕ (Unit) → Ex × St
  | .inl r => (.ret, ⟨.any :: .any :: .b false :: an 38 [], []⟩)
  | .inr r => ((.exit 0), ⟨.ref (GMesh.cells m_0) 0 :: .any :: .any :: .any :: .ref (GMesh.cells m_0) 0 :: .ref (GMesh.cells m_0) 0 :: .ref (GMesh.cells m_0) 0 :: .sl (m_0.Places.map GVector.cells) :: .i .i64 (m_0.Places.length : Int) :: .b (decide ((m_0.Places.length : Int) > 64)) :: .b (decide ((m_0.Places.length : Int) > 64)) :: .ref (GMesh.cells m_0) 0 :: .ref (GMesh.cells m_0) 0 :: .ref (GMesh.cells m_0) 1 :: .sl (m_0.Triangles.map (cL (cI .i64))) :: .i .i64 (m_0.Triangles.length : Int) :: .b (decide ((m_0.Triangles.length : Int) > 128)) :: .b (decide ((m_0.Triangles.length : Int) > 128)) :: an 23 [], []⟩)
def Z9f (m_0 : GMesh) (i_l0 : Int) : St := ⟨.ref (GMesh.cells m_0) 0 :: .any :: .any :: .i .i64 i_l0 :: .ref (GMesh.cells m_0) 0 :: .ref (GMesh.cells m_0) 0 :: .ref (GMesh.cells m_0) 0 :: .sl (m_0.Places.map GVector.cells) :: .i .i64 (m_0.Places.length : Int) :: .b (decide ((m_0.Places.length : Int) > 64)) :: .b (decide ((m_0.Places.length : Int) > 64)) :: .ref (GMesh.cells m_0) 0 :: .ref (GMesh.cells m_0) 0 :: .ref (GMesh.cells m_0) 1 :: .sl (m_0.Triangles.map (cL (cI .i64))) :: .i .i64 (m_0.Triangles.length : Int) :: .b (decide ((m_0.Triangles.length : Int) > 128)) :: .b (decide ((m_0.Triangles.length : Int) > 128)) :: an 23 [], []⟩
theorem Z6P (m_0 : GMesh) (hp0 : m_0.Places.length ≤ 1073741824) (hp1 : m_0.Triangles.length ≤ 1073741824) (hp2 : ∀ t ∈ m_0.Triangles, t.length ≤ 1073741824) (Zb9 : (decide ((m_0.Places.length : Int) > 64)) = false) (Zba : (decide ((m_0.Triangles.length : Int) > 128)) = false) : ∀ (k : Nat) (i_l0 : Int) (Z6z : 0 ≤ i_l0) (hk : ((m_0.Triangles.length : Int) - i_l0).toNat < k), Lp prog 0 (sub (bodyOf f94) [1, 1, 0, 1, 0, 0]) (Z9f m_0 i_l0) (Z4x m_0 (Z1T m_0 k i_l0)).1 (Z4x m_0 (Z1T m_0 k i_l0)).2 := by
 intro k
 induction k with
 | zero => intro i_l0 Z6z hk; exact absurd hk (Nat.not_lt_zero _)
 | succ k ih =>
  intro i_l0 Z6z hk
  have p {a C} (s : Scr a C) := sZ (cL (cI .i64)) m_0.Triangles <| s
  cases h_0 : (decide (i_l0 < (m_0.Triangles.length : Int))) with
  | true =>
   have gh_0 := of_decide_eq_true h_0
   have y_0 : (0 : Int) ≤ i_l0 := by clear p; exact (by assumption)
   have y_1 : i_l0 < (m_0.Triangles.length : Int) := by clear p; exact (by assumption)
   have y_2 : (m_0.Triangles.getD i_l0.toNat default).length ≤ 1073741824 := by clear p; exact (by simp_all <;> omega)
   have q {a C} (s : Scr a C) := p (sB h_0 <| sK [12, 12] <| sG (cL (cI .i64)) m_0.Triangles i_l0 y_0 y_1 <| sZ GVector.cells m_0.Places <| sF (Z81 (m_0.Triangles.getD i_l0.toNat default) (m_0.Places.length : Int) y_2) <| s)
   clear p
   cases h_1 : (Zs (m_0.Triangles.getD i_l0.toNat default) (m_0.Places.length : Int)) with
   | true =>
    have y_3 : (-9223372036854775808 : Int) ≤ (i_l0 + 1) := by clear q; exact (by omega)
    have y_4 : (i_l0 + 1) ≤ (9223372036854775807 : Int) := by clear q; exact (by omega)
    have e : Z1T m_0 (k + 1) i_l0 = (Z1T m_0 k (i_l0 + 1)) := by simp only [Z1T, h_0, h_1, cond_true]
    rw [e]
    exact nextR E0Ok Z3 [] (mR false [0, 1, 2, 15, 23]) [] (ih (i_l0 + 1) (show 0 ≤ (i_l0 + 1) from (by omega)) (by omega)) (q (sB' h_1 <| sI (i_l0 + 1) y_3 y_4 <| sN)) (by kernel_rfl)
   | false =>
    have e : Z1T m_0 (k + 1) i_l0 = (.inl ()) := by simp only [Z1T, h_0, h_1, cond_true, cond_false]
    rw [e]
    exact outR (e := .ret) E0Ok Z3 [] (mR false [2, 1, 38]) [] (q (sB' h_1 <| sN)) (by kernel_rfl) (by intro h; cases h)
  | false =>
   have gh_0 := of_decide_eq_false h_0
   have e : Z1T m_0 (k + 1) i_l0 = (.inr ()) := by simp only [Z1T, h_0, cond_false]
   rw [e]
   exact outR (e := (.exit 0)) E0Ok Z3 [] (mR false [0, 1, 3, 14, 23]) [] (p (sB h_0 <| sN)) (by kernel_rfl) (by intro h; cases h)
def Z3q (m_0 : GMesh) : (Unit) ⊕ (Unit) := (Z1T m_0 (((m_0.Triangles.length : Int) - 0).toNat + 1) 0)
def ZT (m_0 : GMesh) : Bool := (cond (decide ((m_0.Places.length : Int) > 64))
  false
  (cond (decide ((m_0.Triangles.length : Int) > 128))
    false
    (match (Z3q m_0) with
      | .inl r3 => false
      | .inr r3 => true)))
theorem Zae (m_0 : GMesh) (hp0 : m_0.Places.length ≤ 1073741824) (hp1 : m_0.Triangles.length ≤ 1073741824) (hp2 : ∀ t ∈ m_0.Triangles, t.length ≤ 1073741824)  : Fn prog 94 [.ref (GMesh.cells m_0) 0] (.b (ZT m_0)) [] := by
 have p {a C} (s : Scr a C) := sZ GVector.cells m_0.Places <| s
 cases h0 : (decide ((m_0.Places.length : Int) > 64)) with
 | true =>
  have gh0 := of_decide_eq_true h0
  refine fnS E0Ok Z3 (c := bodyOf f94) [] (.b false) [] func94 (p (sB h0 <| sB h0 <| sB h0 <| sB h0 <| sB h0 <| sB h0 <| sB h0 <| sB (show true = true from rfl) <| sK [] sN)) rfl (by kernel_rfl) (by kernel_rfl) rfl ?_ ?_
  · simp only [ZT, h0, cond_true]
  · rfl
 | false =>
  have gh0 := of_decide_eq_false h0
  have q {a C} (s : Scr a C) := p (sB h0 <| sB h0 <| sB h0 <| sB h0 <| sB h0 <| sZ (cL (cI .i64)) m_0.Triangles <| sB h0 <| sB h0 <| s)
  clear p
  cases h1 : (decide ((m_0.Triangles.length : Int) > 128)) with
  | true =>
   have gh1 := of_decide_eq_true h1
   refine fnS E0Ok Z3 (c := bodyOf f94) [] (.b false) [] func94 (q (sB h1 <| sK [] sN)) rfl (by kernel_rfl) (by kernel_rfl) rfl ?_ ?_
   · simp only [ZT, h0, h1, cond_true, cond_false]
   · rfl
  | false =>
   have gh1 := of_decide_eq_false h1
   have p {a C} (s : Scr a C) := q (sB h1 <| s)
   clear q
   cases h2 : (Z3q m_0) with
   | inl r3 =>
    refine fnS E0Ok Z3 (c := bodyOf f94) [] (.b false) [] func94 (p (sL (mR false [0, 1, 2, 15, 23]) 0 (lp_val (Z4x m_0) (x := (Z3q m_0)) (Z6P m_0 hp0 hp1 hp2 h0 h1 (((m_0.Triangles.length : Int) - 0).toNat + 1) 0 (show 0 ≤ 0 from (by omega)) (Nat.lt_succ_self _)) h2) <| sK [] sN)) rfl (by kernel_rfl) (by kernel_rfl) rfl ?_ ?_
    · simp only [ZT, h0, h1, h2, cond_false]
    · rfl
   | inr r3 =>
    refine fnS E0Ok Z3 (c := bodyOf f94) [] (.b true) [] func94 (p (sL (mR false [0, 1, 2, 15, 23]) 0 (lp_val (Z4x m_0) (x := (Z3q m_0)) (Z6P m_0 hp0 hp1 hp2 h0 h1 (((m_0.Triangles.length : Int) - 0).toNat + 1) 0 (show 0 ≤ 0 from (by omega)) (Nat.lt_succ_self _)) h2) <| sK [] sN)) rfl (by kernel_rfl) (by kernel_rfl) rfl ?_ ?_
    · simp only [ZT, h0, h1, h2, cond_false]
    · rfl
theorem Z6f (m : GMesh) : ZT m = cond (decide ((m.Places.length : Int) > 64)) false (cond (decide ((m.Triangles.length : Int) > 128)) false (m.Triangles.all fun t => Zs t (m.Places.length : Int))) := by
  unfold ZT Z3q
  rw [all_from (a := m.Triangles) (p := fun t => Zs t (m.Places.length : Int)) (lo := Z1T m) (x := ()) (y := ()) (fun k i => rfl)]
  cases (m.Triangles.all fun t => Zs t (m.Places.length : Int)) <;> rfl
theorem Zbn {t : List Int} {n : Int} (h0 : 0 ≤ n) (h1 : n ≤ 64) (h : Zs t n = true) : t.length = 3 ∧ ∀ x ∈ t, 0 ≤ x ∧ x < n := by
  unfold Zs at h
  rw [wrap_sub (by omega) (by omega)] at h
  cases hl : ((t.length : Int) != 3) with
  | true => rw [hl] at h; cases h
  | false =>
    rw [hl, cond_false] at h
    have hl3 : t.length = 3 := by simp at hl; omega
    match t, hl3 with
    | [a, b, c], _ =>
      refine ⟨rfl, ?_⟩
      simp only [List.getD_cons_zero, List.getD_cons_succ, Zr] at h
      cases e1 : (a == b) <;> rw [e1] at h <;> (try (cases h; done))
      cases e2 : (b == c) <;> rw [e2] at h <;> (try (cases h; done))
      cases e3 : (a == c) <;> rw [e3] at h <;> (try (cases h; done))
      simp only [cond_false] at h
      cases f1 : decide (a ≥ 0) <;> rw [f1] at h <;> (try (cases h; done))
      cases f2 : decide (a ≤ n - 1) <;> rw [f2] at h <;> (try (cases h; done))
      cases f3 : decide (b ≥ 0) <;> rw [f3] at h <;> (try (cases h; done))
      cases f4 : decide (b ≤ n - 1) <;> rw [f4] at h <;> (try (cases h; done))
      cases f5 : decide (c ≥ 0) <;> rw [f5] at h <;> (try (cases h; done))
      simp only [cond_true, decide_eq_true_eq] at h f1 f2 f3 f4 f5
      intro x hx
      simp only [List.mem_cons, List.not_mem_nil, or_false] at hx
      rcases hx with rfl | rfl | rfl <;> omega
theorem Zb1 (m : GMesh) (h : ZT m = true) : OkTris m.Places.length m.Triangles := by
  rw [Z6f] at h
  cases h1 : decide ((m.Places.length : Int) > 64) <;> rw [h1] at h <;> (try (cases h; done))
  cases h2 : decide ((m.Triangles.length : Int) > 128) <;> rw [h2] at h <;> (try (cases h; done))
  simp only [cond_false, List.all_eq_true, decide_eq_false_iff_not] at h h1
  intro t ht
  exact Zbn (by omega) (by omega) (h t ht)
theorem Zbo (m : GMesh) (h : ZT m = true) : OkE m.Places.length m.Triangles := by
  have h0 := Zb1 m h
  rw [Z6f] at h
  cases h1 : decide ((m.Places.length : Int) > 64) <;> rw [h1] at h <;> (try (cases h; done))
  cases h2 : decide ((m.Triangles.length : Int) > 128) <;> rw [h2] at h <;> (try (cases h; done))
  simp only [cond_false, List.all_eq_true, decide_eq_false_iff_not] at h h1 h2
  refine ⟨by omega, by omega, fun t ht => ?_⟩
  have h3 := h t ht
  obtain ⟨hl, hx⟩ := h0 t ht
  match t, hl with
  | [a, b, c], _ =>
    unfold Zs at h3
    simp only [List.getD_cons_zero, List.getD_cons_succ] at h3
    cases e0 : ((([a, b, c] : List Int).length : Int) != 3) <;> rw [e0] at h3 <;> (try (cases h3; done))
    cases e1 : (a == b) <;> rw [e1] at h3 <;> (try (cases h3; done))
    cases e2 : (b == c) <;> rw [e2] at h3 <;> (try (cases h3; done))
    cases e3 : (a == c) <;> rw [e3] at h3 <;> (try (cases h3; done))
    exact ⟨a, b, c, rfl, hx a (by simp), hx b (by simp), hx c (by simp), beq_eq_false_iff_ne.1 e1, beq_eq_false_iff_ne.1 e2, beq_eq_false_iff_ne.1 e3⟩
def Z11 (x_0 : GSpring) (n_1 : Int) : Bool := (cond (Zr x_0.A 0 (IntKind.wrap .i64 (n_1 - 1)))
  (cond (Zr x_0.B 0 (IntKind.wrap .i64 (n_1 - 1)))
    (cond (x_0.A != x_0.B)
      (fcmp .geq .f32 x_0.Long 0)
      false)
    false)
  false)
theorem Z8V (x_0 : GSpring) (n_1 : Int)   : Fn prog 95 [.ref (GSpring.cells x_0) 0, .i .i64 n_1] (.b (Z11 x_0 n_1)) [] := by
 have p {a C} (s : Scr a C) := sK [25, 25] <| sW .i64 (n_1 - 1) <| sF (Z3Y x_0.A 0 (IntKind.wrap .i64 (n_1 - 1))) <| s
 cases h0 : (Zr x_0.A 0 (IntKind.wrap .i64 (n_1 - 1))) with
 | true =>
  have q {a C} (s : Scr a C) := p (sB h0 <| sB h0 <| sB h0 <| sB h0 <| sB h0 <| sB h0 <| sW .i64 (n_1 - 1) <| sB h0 <| sF (Z3Y x_0.B 0 (IntKind.wrap .i64 (n_1 - 1))) <| sB h0 <| s)
  clear p
  cases h1 : (Zr x_0.B 0 (IntKind.wrap .i64 (n_1 - 1))) with
  | true =>
   have p {a C} (s : Scr a C) := q (sB h1 <| sB h1 <| sB h1 <| sB h1 <| sB h1 <| sB h1 <| sB h1 <| sB h1 <| sB h1 <| sB h1 <| s)
   clear q
   cases h2 : (x_0.A != x_0.B) with
   | true =>
    have gh2 := bne_iff_ne.1 h2
    refine fnS E0Ok Z3 (c := bodyOf f95) [] (.b (fcmp .geq .f32 x_0.Long 0)) [] func95 (p (sB h2 <| sB h2 <| sB h2 <| sB h2 <| sB h2 <| sB h2 <| sK [] sN)) rfl (by kernel_rfl) (by kernel_rfl) rfl ?_ ?_
    · simp only [Z11, h0, h1, h2, cond_true]
    · rfl
   | false =>
    have gh2 := bne_eq_false_iff_eq.1 h2
    refine fnS E0Ok Z3 (c := bodyOf f95) [] (.b false) [] func95 (p (sB h2 <| sB h2 <| sB h2 <| sB h2 <| sB h2 <| sB h2 <| sK [] sN)) rfl (by kernel_rfl) (by kernel_rfl) rfl ?_ ?_
    · simp only [Z11, h0, h1, h2, cond_true, cond_false]
    · rfl
  | false =>
   refine fnS E0Ok Z3 (c := bodyOf f95) [] (.b false) [] func95 (q (sB h1 <| sB h1 <| sB h1 <| sB h1 <| sB h1 <| sB h1 <| sB h1 <| sB h1 <| sB h1 <| sB h1 <| sB (show false = false from rfl) <| sB (show false = false from rfl) <| sB (show false = false from rfl) <| sB (show false = false from rfl) <| sB (show false = false from rfl) <| sB (show false = false from rfl) <| sK [] sN)) rfl (by kernel_rfl) (by kernel_rfl) rfl ?_ ?_
   · simp only [Z11, h0, h1, cond_true, cond_false]
   · rfl
 | false =>
  refine fnS E0Ok Z3 (c := bodyOf f95) [] (.b false) [] func95 (p (sB h0 <| sB h0 <| sB h0 <| sB h0 <| sB h0 <| sB h0 <| sB h0 <| sB h0 <| sB (show false = false from rfl) <| sB (show false = false from rfl) <| sB (show false = false from rfl) <| sB (show false = false from rfl) <| sB (show false = false from rfl) <| sB (show false = false from rfl) <| sB (show false = false from rfl) <| sB (show false = false from rfl) <| sB (show false = false from rfl) <| sB (show false = false from rfl) <| sB (show false = false from rfl) <| sB (show false = false from rfl) <| sB (show false = false from rfl) <| sB (show false = false from rfl) <| sB (show false = false from rfl) <| sB (show false = false from rfl) <| sK [] sN)) rfl (by kernel_rfl) (by kernel_rfl) rfl ?_ ?_
  · simp only [Z11, h0, cond_false]
  · rfl
def Z1E (b_0 : GBody) : Nat → Int → (Unit) ⊕ (Unit)
  | 0, _ => .inl default
  | k + 1, x_l0 => (cond (decide (x_l0 < (b_0.Springs.length : Int)))
    (cond (Z11 (b_0.Springs.getD x_l0.toNat default) (b_0.Mesh.Places.length : Int))
      (Z1E b_0 k (x_l0 + 1))
      (.inl ()))
    (.inr ()))
def Z4y (b_0 : GBody) : (Unit) ⊕ (Unit) → Ex × St
  | .inl r => (.ret, ⟨.any :: .any :: .b false :: an 51 [], []⟩)
  | .inr r => ((.exit 0), ⟨.ref (GBody.cells b_0) 0 :: .any :: .any :: .any :: .ref (GBody.cells b_0) 0 :: .ref (GBody.cells b_0) 0 :: .ref (GBody.cells b_0) 0 :: .b (ZT b_0.Mesh) :: .b (!(ZT b_0.Mesh)) :: .b (!(ZT b_0.Mesh)) :: .ref (GBody.cells b_0) 0 :: .ref (GBody.cells b_0) 0 :: .ref (GBody.cells b_0) 2 :: .sl (b_0.Springs.map GSpring.cells) :: .i .i64 (b_0.Springs.length : Int) :: .b (decide ((b_0.Springs.length : Int) > 200)) :: .b (decide ((b_0.Springs.length : Int) > 200)) :: .b (decide ((b_0.Springs.length : Int) > 200)) :: .ref (GBody.cells b_0) 0 :: .ref (GBody.cells b_0) 0 :: .ref (GBody.cells b_0) 5 :: .sl (b_0.Weights.map (cF .f32)) :: .i .i64 (b_0.Weights.length : Int) :: .ref (GBody.cells b_0) 0 :: .ref (GBody.cells b_0) 0 :: .ref (GBody.cells b_0) 0 :: .ref (GBody.cells b_0) 0 :: .sl (b_0.Mesh.Places.map GVector.cells) :: .i .i64 (b_0.Mesh.Places.length : Int) :: .b ((b_0.Weights.length : Int) != (b_0.Mesh.Places.length : Int)) :: .b ((b_0.Weights.length : Int) != (b_0.Mesh.Places.length : Int)) :: .ref (GBody.cells b_0) 0 :: .ref (GBody.cells b_0) 0 :: .ref (GBody.cells b_0) 2 :: .sl (b_0.Springs.map GSpring.cells) :: an 19 [], []⟩)
def Z9g (b_0 : GBody) (x_l0 : Int) : St := ⟨.ref (GBody.cells b_0) 0 :: .any :: .any :: .any :: .ref (GBody.cells b_0) 0 :: .ref (GBody.cells b_0) 0 :: .ref (GBody.cells b_0) 0 :: .b (ZT b_0.Mesh) :: .b (!(ZT b_0.Mesh)) :: .b (!(ZT b_0.Mesh)) :: .ref (GBody.cells b_0) 0 :: .ref (GBody.cells b_0) 0 :: .ref (GBody.cells b_0) 2 :: .sl (b_0.Springs.map GSpring.cells) :: .i .i64 (b_0.Springs.length : Int) :: .b (decide ((b_0.Springs.length : Int) > 200)) :: .b (decide ((b_0.Springs.length : Int) > 200)) :: .b (decide ((b_0.Springs.length : Int) > 200)) :: .ref (GBody.cells b_0) 0 :: .ref (GBody.cells b_0) 0 :: .ref (GBody.cells b_0) 5 :: .sl (b_0.Weights.map (cF .f32)) :: .i .i64 (b_0.Weights.length : Int) :: .ref (GBody.cells b_0) 0 :: .ref (GBody.cells b_0) 0 :: .ref (GBody.cells b_0) 0 :: .ref (GBody.cells b_0) 0 :: .sl (b_0.Mesh.Places.map GVector.cells) :: .i .i64 (b_0.Mesh.Places.length : Int) :: .b ((b_0.Weights.length : Int) != (b_0.Mesh.Places.length : Int)) :: .b ((b_0.Weights.length : Int) != (b_0.Mesh.Places.length : Int)) :: .ref (GBody.cells b_0) 0 :: .ref (GBody.cells b_0) 0 :: .ref (GBody.cells b_0) 2 :: .sl (b_0.Springs.map GSpring.cells) :: .i .i64 (b_0.Springs.length : Int) :: .i .i64 x_l0 :: an 17 [], []⟩
theorem Z6Q (b_0 : GBody) (hp0 : b_0.Mesh.Places.length ≤ 1073741824) (hp1 : b_0.Mesh.Triangles.length ≤ 1073741824) (hp2 : ∀ t ∈ b_0.Mesh.Triangles, t.length ≤ 1073741824) (hp3 : b_0.Springs.length ≤ 1073741824) (hp4 : b_0.Weights.length ≤ 1073741824) (Zbb : ((b_0.Weights.length : Int) != (b_0.Mesh.Places.length : Int)) = false) (Zbc : (decide ((b_0.Springs.length : Int) > 200)) = false) (Zbd : (ZT b_0.Mesh) = true) : ∀ (k : Nat) (x_l0 : Int) (Z6A : 0 ≤ x_l0) (hk : ((b_0.Springs.length : Int) - x_l0).toNat < k), Lp prog 0 (sub (bodyOf f50) [1, 1, 0, 1, 0, 0]) (Z9g b_0 x_l0) (Z4y b_0 (Z1E b_0 k x_l0)).1 (Z4y b_0 (Z1E b_0 k x_l0)).2 := by
 intro k
 induction k with
 | zero => intro x_l0 Z6A hk; exact absurd hk (Nat.not_lt_zero _)
 | succ k ih =>
  intro x_l0 Z6A hk
  cases h_0 : (decide (x_l0 < (b_0.Springs.length : Int))) with
  | true =>
   have gh_0 := of_decide_eq_true h_0
   have y_0 : (0 : Int) ≤ x_l0 := (by assumption)
   have y_1 : x_l0 < (b_0.Springs.length : Int) := (by assumption)
   have p {a C} (s : Scr a C) := sB h_0 <| sK [12, 12] <| sG GSpring.cells b_0.Springs x_l0 y_0 y_1 <| sZ GVector.cells b_0.Mesh.Places <| sF (Z8V (b_0.Springs.getD x_l0.toNat default) (b_0.Mesh.Places.length : Int)) <| s
   cases h_1 : (Z11 (b_0.Springs.getD x_l0.toNat default) (b_0.Mesh.Places.length : Int)) with
   | true =>
    have y_2 : (-9223372036854775808 : Int) ≤ (x_l0 + 1) := by clear p; exact (by omega)
    have y_3 : (x_l0 + 1) ≤ (9223372036854775807 : Int) := by clear p; exact (by omega)
    have e : Z1E b_0 (k + 1) x_l0 = (Z1E b_0 k (x_l0 + 1)) := by simp only [Z1E, h_0, h_1, cond_true]
    rw [e]
    exact nextR E0Ok Z3 [] (mR false [0, 1, 3, 33, 17]) [] (ih (x_l0 + 1) (show 0 ≤ (x_l0 + 1) from (by omega)) (by omega)) (p (sB' h_1 <| sI (x_l0 + 1) y_2 y_3 <| sN)) (by kernel_rfl)
   | false =>
    have e : Z1E b_0 (k + 1) x_l0 = (.inl ()) := by simp only [Z1E, h_0, h_1, cond_true, cond_false]
    rw [e]
    exact outR (e := .ret) E0Ok Z3 [] (mR false [2, 1, 51]) [] (p (sB' h_1 <| sN)) (by kernel_rfl) (by intro h; cases h)
  | false =>
   have gh_0 := of_decide_eq_false h_0
   have e : Z1E b_0 (k + 1) x_l0 = (.inr ()) := by simp only [Z1E, h_0, cond_false]
   rw [e]
   exact outR (e := (.exit 0)) E0Ok Z3 [] (mR false [0, 1, 3, 31, 19]) [] (sB h_0 <| sN) (by kernel_rfl) (by intro h; cases h)
def Z39 (b_0 : GBody) : (Unit) ⊕ (Unit) := (Z1E b_0 (((b_0.Springs.length : Int) - 0).toNat + 1) 0)
def Z17 (b_0 : GBody) : Bool := (cond (ZT b_0.Mesh)
  (cond (decide ((b_0.Springs.length : Int) > 200))
    false
    (cond ((b_0.Weights.length : Int) != (b_0.Mesh.Places.length : Int))
      false
      (match (Z39 b_0) with
        | .inl r4 => false
        | .inr r4 => true)))
  false)
theorem Zaf (b_0 : GBody) (hp0 : b_0.Mesh.Places.length ≤ 1073741824) (hp1 : b_0.Mesh.Triangles.length ≤ 1073741824) (hp2 : ∀ t ∈ b_0.Mesh.Triangles, t.length ≤ 1073741824) (hp3 : b_0.Springs.length ≤ 1073741824) (hp4 : b_0.Weights.length ≤ 1073741824)  : Fn prog 50 [.ref (GBody.cells b_0) 0] (.b (Z17 b_0)) [] := by
 have p {a C} (s : Scr a C) := sK [25, 25] <| sF (Fn.sub (args := [.ref (GBody.cells b_0) 0]) (r := .b (ZT b_0.Mesh)) (new := []) [some 2] (Zae b_0.Mesh hp0 hp1 hp2)) <| s
 cases h0 : (ZT b_0.Mesh) with
 | true =>
  have q {a C} (s : Scr a C) := p (sB' h0 <| sB' h0 <| sB' h0 <| sB' h0 <| sB' h0 <| sZ GSpring.cells b_0.Springs <| sB' h0 <| sB' h0 <| s)
  clear p
  cases h1 : (decide ((b_0.Springs.length : Int) > 200)) with
  | true =>
   have gh1 := of_decide_eq_true h1
   refine fnS E0Ok Z3 (c := bodyOf f50) [] (.b false) [] func50 (q (sB h1 <| sB h1 <| sB h1 <| sB h1 <| sB h1 <| sB h1 <| sB h1 <| sB h1 <| sB h1 <| sB h1 <| sB h1 <| sB h1 <| sB h1 <| sB (show true = true from rfl) <| sK [] sN)) rfl (by kernel_rfl) (by kernel_rfl) rfl ?_ ?_
   · simp only [Z17, h0, h1, cond_true]
   · rfl
  | false =>
   have gh1 := of_decide_eq_false h1
   have p {a C} (s : Scr a C) := q (sB h1 <| sB h1 <| sB h1 <| sB h1 <| sB h1 <| sZ (cF .f32) b_0.Weights <| sB h1 <| sB h1 <| sB h1 <| sB h1 <| sB h1 <| sB h1 <| sZ GVector.cells b_0.Mesh.Places <| sB h1 <| sB h1 <| s)
   clear q
   cases h2 : ((b_0.Weights.length : Int) != (b_0.Mesh.Places.length : Int)) with
   | true =>
    have gh2 := bne_iff_ne.1 h2
    refine fnS E0Ok Z3 (c := bodyOf f50) [] (.b false) [] func50 (p (sB h2 <| sK [] sN)) rfl (by kernel_rfl) (by kernel_rfl) rfl ?_ ?_
    · simp only [Z17, h0, h1, h2, cond_true, cond_false]
    · rfl
   | false =>
    have gh2 := bne_eq_false_iff_eq.1 h2
    have q {a C} (s : Scr a C) := p (sB h2 <| sZ GSpring.cells b_0.Springs <| s)
    clear p
    cases h3 : (Z39 b_0) with
    | inl r4 =>
     refine fnS E0Ok Z3 (c := bodyOf f50) [] (.b false) [] func50 (q (sL (mR false [0, 1, 3, 33, 17]) 0 (lp_val (Z4y b_0) (x := (Z39 b_0)) (Z6Q b_0 hp0 hp1 hp2 hp3 hp4 h2 h1 h0 (((b_0.Springs.length : Int) - 0).toNat + 1) 0 (show 0 ≤ 0 from (by omega)) (Nat.lt_succ_self _)) h3) <| sK [] sN)) rfl (by kernel_rfl) (by kernel_rfl) rfl ?_ ?_
     · simp only [Z17, h0, h1, h2, h3, cond_true, cond_false]
     · rfl
    | inr r4 =>
     refine fnS E0Ok Z3 (c := bodyOf f50) [] (.b true) [] func50 (q (sL (mR false [0, 1, 3, 33, 17]) 0 (lp_val (Z4y b_0) (x := (Z39 b_0)) (Z6Q b_0 hp0 hp1 hp2 hp3 hp4 h2 h1 h0 (((b_0.Springs.length : Int) - 0).toNat + 1) 0 (show 0 ≤ 0 from (by omega)) (Nat.lt_succ_self _)) h3) <| sK [] sN)) rfl (by kernel_rfl) (by kernel_rfl) rfl ?_ ?_
     · simp only [Z17, h0, h1, h2, h3, cond_true, cond_false]
     · rfl
 | false =>
  refine fnS E0Ok Z3 (c := bodyOf f50) [] (.b false) [] func50 (p (sB' h0 <| sB' h0 <| sB' h0 <| sB' h0 <| sB' h0 <| sB' h0 <| sB' h0 <| sB (show true = true from rfl) <| sB (show true = true from rfl) <| sB (show true = true from rfl) <| sB (show true = true from rfl) <| sB (show true = true from rfl) <| sB (show true = true from rfl) <| sB (show true = true from rfl) <| sB (show true = true from rfl) <| sB (show true = true from rfl) <| sB (show true = true from rfl) <| sB (show true = true from rfl) <| sB (show true = true from rfl) <| sB (show true = true from rfl) <| sB (show true = true from rfl) <| sK [] sN)) rfl (by kernel_rfl) (by kernel_rfl) rfl ?_ ?_
  · simp only [Z17, h0, cond_false]
  · rfl
theorem Z8W (b : GBody) (h : Z17 b = true) : ZT b.Mesh = true ∧ (b.Weights.length : Int) = (b.Mesh.Places.length : Int) ∧ (b.Springs.all fun s => Z11 s (b.Mesh.Places.length : Int)) = true := by
  unfold Z17 Z39 at h
  rw [all_from (a := b.Springs) (p := fun s => Z11 s (b.Mesh.Places.length : Int)) (lo := Z1E b) (x := ()) (y := ()) (fun k i => rfl)] at h
  cases h1 : ZT b.Mesh <;> rw [h1] at h <;> (try (cases h; done))
  cases h2 : decide ((b.Springs.length : Int) > 200) <;> rw [h2] at h <;> (try (cases h; done))
  cases h3 : ((b.Weights.length : Int) != (b.Mesh.Places.length : Int)) <;> rw [h3] at h <;> (try (cases h; done))
  cases h4 : (b.Springs.all fun s => Z11 s (b.Mesh.Places.length : Int)) <;> rw [h4] at h <;> (try (cases h; done))
  simp only [bne_eq_false_iff_eq] at h3
  exact ⟨rfl, h3, rfl⟩
theorem Zb2 (s : GSpring) {n : Nat} (hn : n ≤ 9223372036854775807) (h : Z11 s (n : Int) = true) : (0 ≤ s.A ∧ s.A < (n : Int)) ∧ (0 ≤ s.B ∧ s.B < (n : Int)) := by
  unfold Z11 at h
  cases h1 : Zr s.A 0 (IntKind.wrap .i64 ((n : Int) - 1)) <;> rw [h1] at h <;> (try (cases h; done))
  cases h2 : Zr s.B 0 (IntKind.wrap .i64 ((n : Int) - 1)) <;> rw [h2] at h <;> (try (cases h; done))
  exact ⟨ZaR hn h1, ZaR hn h2⟩
theorem Zbp (b : GBody) (h : Z17 b = true) : OkIx b.Mesh.Places.length GSpring.A b.Springs := by
  obtain ⟨h1, _, h3⟩ := Z8W b h
  have hn : b.Mesh.Places.length ≤ 64 := by
    rw [Z6f] at h1
    cases h2 : decide ((b.Mesh.Places.length : Int) > 64) <;> rw [h2] at h1 <;> (try (cases h1; done))
    simp only [decide_eq_false_iff_not] at h2
    omega
  rw [List.all_eq_true] at h3
  exact fun s hs => (Zb2 s (by omega) (h3 s hs)).1
theorem Zbq (b : GBody) (h : Z17 b = true) : OkIx b.Mesh.Places.length GSpring.B b.Springs := by
  obtain ⟨h1, _, h3⟩ := Z8W b h
  have hn : b.Mesh.Places.length ≤ 64 := by
    rw [Z6f] at h1
    cases h2 : decide ((b.Mesh.Places.length : Int) > 64) <;> rw [h2] at h1 <;> (try (cases h1; done))
    simp only [decide_eq_false_iff_not] at h2
    omega
  rw [List.all_eq_true] at h3
  exact fun s hs => (Zb2 s (by omega) (h3 s hs)).2
structure OkBd (b : GBody) : Prop where
  e : OkE b.Mesh.Places.length b.Mesh.Triangles
  w : b.Weights.length = b.Mesh.Places.length
  a : OkIx b.Mesh.Places.length GSpring.A b.Springs
  b : OkIx b.Mesh.Places.length GSpring.B b.Springs
theorem Z9u (b : GBody) (h : Z17 b = true) : OkBd b := by
  obtain ⟨h1, h2, h3⟩ := Z8W b h
  exact ⟨Zbo _ h1, by omega, Zbp b h, Zbq b h⟩
theorem Z3p {b : GBody} (h : OkBd b) {i : Int} (h0 : 0 ≤ i) (hi : decide (i < (b.Springs.length : Int)) = true) : (0 ≤ (b.Springs.getD i.toNat default).A ∧ (b.Springs.getD i.toNat default).A < (b.Mesh.Places.length : Int)) ∧ (0 ≤ (b.Springs.getD i.toNat default).B ∧ (b.Springs.getD i.toNat default).B < (b.Mesh.Places.length : Int)) :=
  ⟨OkIx.at h.a h0 (of_decide_eq_true hi), OkIx.at h.b h0 (of_decide_eq_true hi)⟩
def Zo (list_0 : (List Int)) (low_1 : Int) (high_2 : Int) : Nat → Int → (Unit) ⊕ (Unit)
  | 0, _ => .inl default
  | k + 1, i_l0 => (cond (decide (i_l0 < (list_0.length : Int)))
    (cond (Zr (list_0.getD i_l0.toNat default) low_1 high_2)
      (cond (decide (i_l0 > 0))
        (cond (decide ((list_0.getD (i_l0 - 1).toNat default) ≥ (list_0.getD i_l0.toNat default)))
          (.inl ())
          (Zo list_0 low_1 high_2 k (i_l0 + 1)))
        (Zo list_0 low_1 high_2 k (i_l0 + 1)))
      (.inl ()))
    (.inr ()))
def Z3Q (list_0 : (List Int)) (low_1 : Int) (high_2 : Int) : (Unit) ⊕ (Unit) → Ex × St
  | .inl r => (.ret, ⟨an 6 (.b false :: an 31 []), []⟩)
  | .inr r => ((.exit 0), ⟨an 38 [], []⟩)
def Z82 (list_0 : (List Int)) (low_1 : Int) (high_2 : Int) (i_l0 : Int) : St := ⟨.sl (list_0.map (cI .i64)) :: .i .i64 low_1 :: .i .i64 high_2 :: an 4 (.i .i64 i_l0 :: an 30 []), []⟩
theorem Z6k (list_0 : (List Int)) (low_1 : Int) (high_2 : Int) (hp0 : list_0.length ≤ 1073741824) : ∀ (k : Nat) (i_l0 : Int) (Z5z : 0 ≤ i_l0) (hk : ((list_0.length : Int) - i_l0).toNat < k), Lp prog 0 (sub (bodyOf f120) [1, 0, 1, 0, 0]) (Z82 list_0 low_1 high_2 i_l0) (Z3Q list_0 low_1 high_2 (Zo list_0 low_1 high_2 k i_l0)).1 (Z3Q list_0 low_1 high_2 (Zo list_0 low_1 high_2 k i_l0)).2 := by
 intro k
 induction k with
 | zero => intro i_l0 Z5z hk; exact absurd hk (Nat.not_lt_zero _)
 | succ k ih =>
  intro i_l0 Z5z hk
  have p {a C} (s : Scr a C) := sZ (cI .i64) list_0 <| s
  cases h_0 : (decide (i_l0 < (list_0.length : Int))) with
  | true =>
   have gh_0 := of_decide_eq_true h_0
   have y_0 : (0 : Int) ≤ i_l0 := by clear p; exact (by assumption)
   have y_1 : i_l0 < (list_0.length : Int) := by clear p; exact (by assumption)
   have q {a C} (s : Scr a C) := p (sB h_0 <| sK [21, 21] <| sG (cI .i64) list_0 i_l0 y_0 y_1 <| sF (Z3Y (list_0.getD i_l0.toNat default) low_1 high_2) <| s)
   clear p
   cases h_1 : (Zr (list_0.getD i_l0.toNat default) low_1 high_2) with
   | true =>
    have p {a C} (s : Scr a C) := q (sB' h_1 <| sB' h_1 <| sB' h_1 <| s)
    clear q
    cases h_2 : (decide (i_l0 > 0)) with
    | true =>
     have gh_2 := of_decide_eq_true h_2
     have y_2 : (-9223372036854775808 : Int) ≤ (i_l0 - 1) := by clear p; exact (by omega)
     have y_3 : (i_l0 - 1) ≤ (9223372036854775807 : Int) := by clear p; exact (by omega)
     have y_4 : (0 : Int) ≤ (i_l0 - 1) := by clear p; exact (by omega)
     have y_5 : (i_l0 - 1) < (list_0.length : Int) := by clear p; exact (by omega)
     have q {a C} (s : Scr a C) := p (sB h_2 <| sB h_2 <| sB h_2 <| sI (i_l0 - 1) y_2 y_3 <| sB h_2 <| sG (cI .i64) list_0 (i_l0 - 1) y_4 y_5 <| sB h_2 <| sB h_2 <| sB h_2 <| sB h_2 <| sG (cI .i64) list_0 i_l0 y_0 y_1 <| sB h_2 <| sB h_2 <| sB' h_1 <| sB h_2 <| sB' h_1 <| s)
     clear p
     cases h_3 : (decide ((list_0.getD (i_l0 - 1).toNat default) ≥ (list_0.getD i_l0.toNat default))) with
     | true =>
      have gh_3 := of_decide_eq_true h_3
      have e : Zo list_0 low_1 high_2 (k + 1) i_l0 = (.inl ()) := by simp only [Zo, h_0, h_1, h_2, h_3, cond_true]
      rw [e]
      exact outR (e := .ret) E0Ok Z3 [] (mR false [6, 1, 31]) [] (q (sB h_3 <| sN)) (by kernel_rfl) (by intro h; cases h)
     | false =>
      have gh_3 := of_decide_eq_false h_3
      have y_6 : (-9223372036854775808 : Int) ≤ (i_l0 + 1) := by clear q; exact (by omega)
      have y_7 : (i_l0 + 1) ≤ (9223372036854775807 : Int) := by clear q; exact (by omega)
      have e : Zo list_0 low_1 high_2 (k + 1) i_l0 = (Zo list_0 low_1 high_2 k (i_l0 + 1)) := by simp only [Zo, h_0, h_1, h_2, h_3, cond_true, cond_false]
      rw [e]
      exact nextR E0Ok Z3 [] (mR false [0, 3, 4, 1, 30]) [] (ih (i_l0 + 1) (show 0 ≤ (i_l0 + 1) from (by omega)) (by omega)) (q (sB h_3 <| sI (i_l0 + 1) y_6 y_7 <| sN)) (by kernel_rfl)
    | false =>
     have gh_2 := of_decide_eq_false h_2
     have y_2 : (-9223372036854775808 : Int) ≤ (i_l0 + 1) := by clear p; exact (by omega)
     have y_3 : (i_l0 + 1) ≤ (9223372036854775807 : Int) := by clear p; exact (by omega)
     have e : Zo list_0 low_1 high_2 (k + 1) i_l0 = (Zo list_0 low_1 high_2 k (i_l0 + 1)) := by simp only [Zo, h_0, h_1, h_2, cond_true, cond_false]
     rw [e]
     exact nextR E0Ok Z3 [] (mR false [0, 3, 4, 1, 30]) [] (ih (i_l0 + 1) (show 0 ≤ (i_l0 + 1) from (by omega)) (by omega)) (p (sB h_2 <| sB h_2 <| sB h_2 <| sB h_2 <| sB h_2 <| sB h_2 <| sB h_2 <| sB h_2 <| sB h_2 <| sB h_2 <| sB' h_1 <| sB h_2 <| sB' h_1 <| sB (show false = false from rfl) <| sI (i_l0 + 1) y_2 y_3 <| sN)) (by kernel_rfl)
   | false =>
    have e : Zo list_0 low_1 high_2 (k + 1) i_l0 = (.inl ()) := by simp only [Zo, h_0, h_1, cond_true, cond_false]
    rw [e]
    exact outR (e := .ret) E0Ok Z3 [] (mR false [6, 1, 31]) [] (q (sB' h_1 <| sB' h_1 <| sB' h_1 <| sB' h_1 <| sB' h_1 <| sB (show true = true from rfl) <| sN)) (by kernel_rfl) (by intro h; cases h)
  | false =>
   have gh_0 := of_decide_eq_false h_0
   have e : Zo list_0 low_1 high_2 (k + 1) i_l0 = (.inr ()) := by simp only [Zo, h_0, cond_false]
   rw [e]
   exact outR (e := (.exit 0)) E0Ok Z3 [] (mR false [38]) [] (p (sB h_0 <| sN)) (by kernel_rfl) (by intro h; cases h)
end Go.Ab
