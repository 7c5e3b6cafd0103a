/- The functions of this seat as plain Lean, and that the program's are these. Printed by a program of the prover's own. -/
import Derived.Test.YtpndflbllggeiaaGreatB0
set_option linter.unusedVariables false
set_option linter.unusedSimpArgs false
set_option maxRecDepth 100000
namespace Go.Ab
open Go.RowKit Go.Proofs.Tryz
def Z1B (Y5 : (List GVector)) (Yn : Int) : Int := (cond (decide ((IntKind.wrap .i64 (Yn - (Y5.length : Int))) < 0))
  (-1)
  (IntKind.wrap .i64 (Yn - (Y5.length : Int))))
theorem ZdX (Y5 : (List GVector)) (Yn : Int) (hp0 : Y5.length ≤ 9223372036854775807)  : Fn prog 75 [.sl (Y5.map GVector.cells), .i .i64 Yn] (.i .i64 (Z1B Y5 Yn)) [] := by
 have p {a C} (s : Scr a C) := sZ GVector.cells Y5 <| sW .i64 (Yn - (Y5.length : Int)) <| s
 cases h0 : (decide ((IntKind.wrap .i64 (Yn - (Y5.length : Int))) < 0)) with
 | true =>
  have gh0 := of_decide_eq_true h0
  refine fnS E0Ok Z4 (c := bodyOf f75) [] (.i .i64 (-1)) [] func75 (p (sB h0 <| sK [] sN)) rfl (by kernel_rfl) (by kernel_rfl) rfl ?_ ?_
  · simp only [Z1B, h0, cond_true]
  · rfl
 | false =>
  have gh0 := of_decide_eq_false h0
  refine fnS E0Ok Z4 (c := bodyOf f75) [] (.i .i64 (IntKind.wrap .i64 (Yn - (Y5.length : Int)))) [] func75 (p (sB h0 <| sK [] sN)) rfl (by kernel_rfl) (by kernel_rfl) rfl ?_ ?_
  · simp only [Z1B, h0, cond_false]
  · rfl
theorem Zdt (a : List GVector) (left : Int) (h0 : a.length ≤ 9223372036854775807) (h1 : -1 ≤ left) (h2 : left ≤ 1048576) : -1 ≤ Z1B a left ∧ Z1B a left ≤ left ∧ (Z1B a left < 0 ∨ (a.length : Int) ≤ left) := by
  unfold Z1B
  rw [wrap_sub (by omega) (by omega)]
  by_cases h : left - (a.length : Int) < 0
  · simp [h]; omega
  · simp [h]; omega
def Z2j (Y5 : (List Int)) (Yn : Int) : Int := (cond (decide ((IntKind.wrap .i64 (Yn - (Y5.length : Int))) < 0))
  (-1)
  (IntKind.wrap .i64 (Yn - (Y5.length : Int))))
theorem Zey (Y5 : (List Int)) (Yn : Int) (hp0 : Y5.length ≤ 9223372036854775807)  : Fn prog 134 [.sl (Y5.map (cI .i64)), .i .i64 Yn] (.i .i64 (Z2j Y5 Yn)) [] := by
 have p {a C} (s : Scr a C) := sZ (cI .i64) Y5 <| sW .i64 (Yn - (Y5.length : Int)) <| s
 cases h0 : (decide ((IntKind.wrap .i64 (Yn - (Y5.length : Int))) < 0)) with
 | true =>
  have gh0 := of_decide_eq_true h0
  refine fnS E0Ok Z4 (c := bodyOf f134) [] (.i .i64 (-1)) [] func134 (p (sB h0 <| sK [] sN)) rfl (by kernel_rfl) (by kernel_rfl) rfl ?_ ?_
  · simp only [Z2j, h0, cond_true]
  · rfl
 | false =>
  have gh0 := of_decide_eq_false h0
  refine fnS E0Ok Z4 (c := bodyOf f134) [] (.i .i64 (IntKind.wrap .i64 (Yn - (Y5.length : Int)))) [] func134 (p (sB h0 <| sK [] sN)) rfl (by kernel_rfl) (by kernel_rfl) rfl ?_ ?_
  · simp only [Z2j, h0, cond_false]
  · rfl
theorem ZdY (a : List Int) (left : Int) (h0 : a.length ≤ 9223372036854775807) (h1 : -1 ≤ left) (h2 : left ≤ 1048576) : -1 ≤ Z2j a left ∧ Z2j a left ≤ left ∧ (Z2j a left < 0 ∨ (a.length : Int) ≤ left) := by
  unfold Z2j
  rw [wrap_sub (by omega) (by omega)]
  by_cases h : left - (a.length : Int) < 0
  · simp [h]; omega
  · simp [h]; omega
def Z1H (Y5 : (List (List Int))) (Yn : Int) : Nat → Int → Int → (Unit) ⊕ (Int)
  | 0, _, _ => .inl default
  | k + 1, YN, Y9 => (cond (decide (Y9 < (Y5.length : Int)))
    (cond (decide ((Z2j (Y5.getD Y9.toNat default) YN) < 0))
      (.inl ())
      (Z1H Y5 Yn k (Z2j (Y5.getD Y9.toNat default) YN) (Y9 + 1)))
    (.inr YN))
def Z5d (Y5 : (List (List Int))) (Yn : Int) : (Unit) ⊕ (Int) → Ex × St
  | .inl r => (.ret, ⟨an 4 (.i .i64 (-1) :: an 22 []), []⟩)
  | .inr r => ((.exit 0), ⟨.sl (Y5.map (cL (cI .i64))) :: .i .i64 r :: an 4 (.i .i64 Yn :: .sl (Y5.map (cL (cI .i64))) :: .i .i64 (Y5.length : Int) :: .i .i64 (IntKind.wrap .i64 (Yn - (Y5.length : Int))) :: .i .i64 (IntKind.wrap .i64 (Yn - (Y5.length : Int))) :: .b (decide ((IntKind.wrap .i64 (Yn - (Y5.length : Int))) < 0)) :: an 15 []), []⟩)
def Zcb (Y5 : (List (List Int))) (Yn : Int) (YN : Int) (Y9 : Int) : St := ⟨.sl (Y5.map (cL (cI .i64))) :: .i .i64 YN :: .any :: .any :: .any :: .i .i64 Y9 :: .i .i64 Yn :: .sl (Y5.map (cL (cI .i64))) :: .i .i64 (Y5.length : Int) :: .i .i64 (IntKind.wrap .i64 (Yn - (Y5.length : Int))) :: .i .i64 (IntKind.wrap .i64 (Yn - (Y5.length : Int))) :: .b (decide ((IntKind.wrap .i64 (Yn - (Y5.length : Int))) < 0)) :: an 15 [], []⟩
theorem Z8N (Y5 : (List (List Int))) (Yn : Int) (hp0 : Y5.length ≤ 9223372036854775807) (hp1 : ∀ t ∈ Y5, t.length ≤ 9223372036854775807) (Zgr : (decide ((IntKind.wrap .i64 (Yn - (Y5.length : Int))) < 0)) = false) : ∀ (k : Nat) (YN : Int) (Y9 : Int) (Z7u : 0 ≤ Y9) (hk : ((Y5.length : Int) - Y9).toNat < k), Lp prog 0 (sub (bodyOf f93) [1, 1, 1, 0, 1, 0, 0]) (Zcb Y5 Yn YN Y9) (Z5d Y5 Yn (Z1H Y5 Yn k YN Y9)).1 (Z5d Y5 Yn (Z1H Y5 Yn k YN Y9)).2 := by
 intro k
 induction k with
 | zero => intro YN Y9 Z7u hk; exact absurd hk (Nat.not_lt_zero _)
 | succ k ih =>
  intro YN Y9 Z7u hk
  have p {a C} (s : Scr a C) := sZ (cL (cI .i64)) Y5 <| s
  cases Yg : (decide (Y9 < (Y5.length : Int))) with
  | true =>
   have Yt := of_decide_eq_true Yg
   have YA : (0 : Int) ≤ Y9 := by clear p; exact (by assumption)
   have YE : Y9 < (Y5.length : Int) := by clear p; exact (by assumption)
   have YG : (Y5.getD Y9.toNat default).length ≤ 9223372036854775807 := by clear p; exact (by simp_all <;> omega)
   have q {a C} (s : Scr a C) := p (sB Yg <| sG (cL (cI .i64)) Y5 Y9 YA YE <| sF (Zey (Y5.getD Y9.toNat default) YN YG) <| s)
   clear p
   cases Yq : (decide ((Z2j (Y5.getD Y9.toNat default) YN) < 0)) with
   | true =>
    have Y11 := of_decide_eq_true Yq
    have e : Z1H Y5 Yn (k + 1) YN Y9 = (.inl ()) := by simp only [Z1H, Yg, Yq, cond_true]
    rw [e]
    exact outR (e := .ret) E0Ok Z4 [] (mR false [4, 1, 22]) [] (q (sB Yq <| sN)) (by kernel_rfl) (by intro h; cases h)
   | false =>
    have Y11 := of_decide_eq_false Yq
    have YH : (-9223372036854775808 : Int) ≤ (Y9 + 1) := by clear q; exact (by omega)
    have YL : (Y9 + 1) ≤ (9223372036854775807 : Int) := by clear q; exact (by omega)
    have e : Z1H Y5 Yn (k + 1) YN Y9 = (Z1H Y5 Yn k (Z2j (Y5.getD Y9.toNat default) YN) (Y9 + 1)) := by simp only [Z1H, Yg, Yq, cond_true, cond_false]
    rw [e]
    exact nextR E0Ok Z4 [] (mR false [0, 2, 3, 7, 15]) [] (ih (Z2j (Y5.getD Y9.toNat default) YN) (Y9 + 1) (show 0 ≤ (Y9 + 1) from (by omega)) (by omega)) (q (sB Yq <| sI (Y9 + 1) YH YL <| sN)) (by kernel_rfl)
  | false =>
   have Yt := of_decide_eq_false Yg
   have e : Z1H Y5 Yn (k + 1) YN Y9 = (.inr YN) := by simp only [Z1H, Yg, cond_false]
   rw [e]
   exact outR (e := (.exit 0)) E0Ok Z4 [] (mR false [0, 2, 4, 6, 15]) [] (p (sB Yg <| sN)) (by kernel_rfl) (by intro h; cases h)
def Z46 (Y5 : (List (List Int))) (Yn : Int) : (Unit) ⊕ (Int) := (Z1H Y5 Yn (((Y5.length : Int) - 0).toNat + 1) (IntKind.wrap .i64 (Yn - (Y5.length : Int))) 0)
def Z2k (Y5 : (List (List Int))) (Yn : Int) : Int := (cond (decide ((IntKind.wrap .i64 (Yn - (Y5.length : Int))) < 0))
  (-1)
  (match (Z46 Y5 Yn) with
    | .inl r2 => (-1)
    | .inr r2 => r2))
theorem ZdZ (Y5 : (List (List Int))) (Yn : Int) (hp0 : Y5.length ≤ 9223372036854775807) (hp1 : ∀ t ∈ Y5, t.length ≤ 9223372036854775807)  : Fn prog 93 [.sl (Y5.map (cL (cI .i64))), .i .i64 Yn] (.i .i64 (Z2k Y5 Yn)) [] := by
 have p {a C} (s : Scr a C) := sZ (cL (cI .i64)) Y5 <| sW .i64 (Yn - (Y5.length : Int)) <| s
 cases h0 : (decide ((IntKind.wrap .i64 (Yn - (Y5.length : Int))) < 0)) with
 | true =>
  have gh0 := of_decide_eq_true h0
  refine fnS E0Ok Z4 (c := bodyOf f93) [] (.i .i64 (-1)) [] func93 (p (sB h0 <| sK [] sN)) rfl (by kernel_rfl) (by kernel_rfl) rfl ?_ ?_
  · simp only [Z2k, h0, cond_true]
  · rfl
 | false =>
  have gh0 := of_decide_eq_false h0
  have q {a C} (s : Scr a C) := p (sB h0 <| s)
  clear p
  cases h1 : (Z46 Y5 Yn) with
  | inl r2 =>
   refine fnS E0Ok Z4 (c := bodyOf f93) [] (.i .i64 (-1)) [] func93 (q (sL (mR false [0, 2, 3, 7, 15]) 0 (lp_val (Z5d Y5 Yn) (x := (Z46 Y5 Yn)) (Z8N Y5 Yn hp0 hp1 h0 (((Y5.length : Int) - 0).toNat + 1) (IntKind.wrap .i64 (Yn - (Y5.length : Int))) 0 (show 0 ≤ 0 from (by omega)) (Nat.lt_succ_self _)) h1) <| sK [] sN)) rfl (by kernel_rfl) (by kernel_rfl) rfl ?_ ?_
   · simp only [Z2k, h0, h1, cond_false]
   · rfl
  | inr r2 =>
   refine fnS E0Ok Z4 (c := bodyOf f93) [] (.i .i64 r2) [] func93 (q (sL (mR false [0, 2, 3, 7, 15]) 0 (lp_val (Z5d Y5 Yn) (x := (Z46 Y5 Yn)) (Z8N Y5 Yn hp0 hp1 h0 (((Y5.length : Int) - 0).toNat + 1) (IntKind.wrap .i64 (Yn - (Y5.length : Int))) 0 (show 0 ≤ 0 from (by omega)) (Nat.lt_succ_self _)) h1) <| sK [] sN)) rfl (by kernel_rfl) (by kernel_rfl) rfl ?_ ?_
   · simp only [Z2k, h0, h1, cond_false]
   · rfl
theorem ZfW (a : List (List Int)) (left : Int) (hb : ∀ t ∈ a, t.length ≤ 9223372036854775807) : ∀ (k : Nat) (l i : Int), 0 ≤ i → ((a.length : Int) - i).toNat < k → -1 ≤ l → l ≤ 1048576 →
    Z1H a left k l i = .inl () ∨ ∃ r, Z1H a left k l i = .inr r ∧ -1 ≤ r ∧ r ≤ l ∧ ∀ j, i.toNat ≤ j → j < a.length → ((a.getD j default).length : Int) ≤ l := by
  intro k
  induction k with
  | zero => intro l i h0 hk; exact absurd hk (Nat.not_lt_zero _)
  | succ k ih =>
    intro l i h0 hk h1 h2
    rw [Z1H]
    by_cases hi : i < (a.length : Int)
    · have hn : i.toNat < a.length := by omega
      rw [decide_eq_true hi, cond_true]
      have hm : (a.getD i.toNat default) ∈ a := by rw [List.getD_eq_getElem?_getD, List.getElem?_eq_getElem hn]; exact List.getElem_mem hn
      obtain ⟨q1, q2, q3⟩ := ZdY (a.getD i.toNat default) l (hb _ hm) h1 h2
      cases hc : decide (Z2j (a.getD i.toNat default) l < 0) with
      | true => left; rfl
      | false =>
        simp only [decide_eq_false_iff_not] at hc
        rw [cond_false]
        rcases ih (Z2j (a.getD i.toNat default) l) (i + 1) (by omega) (by omega) q1 (by omega) with e | ⟨r, e, r1, r2, r3⟩
        · left; exact e
        · right
          refine ⟨r, e, r1, by omega, fun j hj hjl => ?_⟩
          by_cases hji : j = i.toNat
          · subst hji; omega
          · have := r3 j (by omega) hjl; omega
    · rw [decide_eq_false hi, cond_false]
      exact .inr ⟨l, rfl, h1, Int.le_refl _, fun j hj hjl => by omega⟩
theorem Zdu (a : List (List Int)) (left : Int) (h0 : a.length ≤ 9223372036854775807) (hb : ∀ t ∈ a, t.length ≤ 9223372036854775807) (h1 : -1 ≤ left) (h2 : left ≤ 1048576) :
    -1 ≤ Z2k a left ∧ Z2k a left ≤ left ∧ (Z2k a left < 0 ∨ ((a.length : Int) ≤ left ∧ ∀ t ∈ a, (t.length : Int) ≤ left)) := by
  unfold Z2k Z46
  rw [wrap_sub (by omega) (by omega)]
  cases h : decide (left - (a.length : Int) < 0) with
  | true => simp only [decide_eq_true_eq] at h; rw [cond_true]; omega
  | false =>
    simp only [decide_eq_false_iff_not] at h
    rw [cond_false]
    rcases ZfW a left hb _ (left - (a.length : Int)) 0 (Int.le_refl _) (Nat.lt_succ_self _) (by omega) (by omega) with e | ⟨r, e, r1, r2, r3⟩
    · rw [e]; simp only; omega
    · rw [e]; simp only
      refine ⟨r1, by omega, .inr ⟨by omega, fun t ht => ?_⟩⟩
      obtain ⟨j, hj, rfl⟩ := List.getElem_of_mem ht
      have := r3 j (by simp) hj
      rw [List.getD_eq_getElem?_getD, List.getElem?_eq_getElem hj, Option.getD_some] at this
      omega
def ZU (Y5 : GMesh) (Yn : Int) : Int := (cond (decide ((Z1B Y5.Places Yn) < 0))
  (-1)
  (cond (decide ((Z2k Y5.Triangles (Z1B Y5.Places Yn)) < 0))
    (-1)
    (Z2k Y5.Triangles (Z1B Y5.Places Yn))))
theorem Zft (Y5 : GMesh) (Yn : Int) (hp0 : Y5.Places.length ≤ 9223372036854775807) (hp1 : Y5.Triangles.length ≤ 9223372036854775807) (hp2 : ∀ t ∈ Y5.Triangles, t.length ≤ 9223372036854775807)  : Fn prog 47 [.agg [.sl (Y5.Places.map GVector.cells), .sl (Y5.Triangles.map (cL (cI .i64)))], .i .i64 Yn] (.i .i64 (ZU Y5 Yn)) [] := by
 have p {a C} (s : Scr a C) := sF (ZdX Y5.Places Yn hp0) <| s
 cases h0 : (decide ((Z1B Y5.Places Yn) < 0)) with
 | true =>
  have gh0 := of_decide_eq_true h0
  refine fnS E0Ok Z4 (c := bodyOf f47) [] (.i .i64 (-1)) [] func47 (p (sB h0 <| sK [] sN)) rfl (by kernel_rfl) (by kernel_rfl) rfl ?_ ?_
  · simp only [ZU, h0, cond_true]
  · rfl
 | false =>
  have gh0 := of_decide_eq_false h0
  have q {a C} (s : Scr a C) := p (sB h0 <| sF (ZdZ Y5.Triangles (Z1B Y5.Places Yn) hp1 hp2) <| s)
  clear p
  cases h1 : (decide ((Z2k Y5.Triangles (Z1B Y5.Places Yn)) < 0)) with
  | true =>
   have gh1 := of_decide_eq_true h1
   refine fnS E0Ok Z4 (c := bodyOf f47) [] (.i .i64 (-1)) [] func47 (q (sB h1 <| sK [] sN)) rfl (by kernel_rfl) (by kernel_rfl) rfl ?_ ?_
   · simp only [ZU, h0, h1, cond_true, cond_false]
   · rfl
  | false =>
   have gh1 := of_decide_eq_false h1
   refine fnS E0Ok Z4 (c := bodyOf f47) [] (.i .i64 (Z2k Y5.Triangles (Z1B Y5.Places Yn))) [] func47 (q (sB h1 <| sK [] sN)) rfl (by kernel_rfl) (by kernel_rfl) rfl ?_ ?_
   · simp only [ZU, h0, h1, cond_false]
   · rfl
theorem ZeZ (a : GMesh) (left : Int) (h0 : a.Places.length ≤ 9223372036854775807) (h3 : a.Triangles.length ≤ 9223372036854775807) (hb : ∀ t ∈ a.Triangles, t.length ≤ 9223372036854775807) (h1 : -1 ≤ left) (h2 : left ≤ 1048576) :
    -1 ≤ ZU a left ∧ ZU a left ≤ left ∧ (ZU a left < 0 ∨ (a.Places.length : Int) ≤ left) ∧ (ZU a left < 0 ∨ (a.Triangles.length : Int) ≤ left) ∧ ∀ t ∈ a.Triangles, ZU a left < 0 ∨ (t.length : Int) ≤ left := by
  have key : -1 ≤ ZU a left ∧ ZU a left ≤ left ∧ (ZU a left < 0 ∨ ((a.Places.length : Int) ≤ left ∧ (a.Triangles.length : Int) ≤ left ∧ ∀ t ∈ a.Triangles, (t.length : Int) ≤ left)) := by
    unfold ZU
    obtain ⟨p1, p2, p3⟩ := Zdt a.Places left h0 h1 h2
    cases h : decide (Z1B a.Places left < 0) with
    | true => simp only [decide_eq_true_eq] at h; rw [cond_true]; refine ⟨by omega, by omega, .inl (by omega)⟩
    | false =>
      simp only [decide_eq_false_iff_not] at h
      rw [cond_false]
      obtain ⟨q1, q2, q3⟩ := Zdu a.Triangles (Z1B a.Places left) h3 hb p1 (by omega)
      cases h' : decide (Z2k a.Triangles (Z1B a.Places left) < 0) with
      | true => rw [cond_true]; exact ⟨by omega, by omega, .inl (by omega)⟩
      | false =>
        simp only [decide_eq_false_iff_not] at h'
        rw [cond_false]
        rcases q3 with q | ⟨qa, qb⟩
        · omega
        · exact ⟨q1, by omega, .inr ⟨by omega, by omega, fun t ht => by have := qb t ht; omega⟩⟩
  obtain ⟨k1, k2, k3⟩ := key
  rcases k3 with k3 | ⟨ka, kb, kc⟩
  · exact ⟨k1, k2, .inl k3, .inl k3, fun t ht => .inl k3⟩
  · exact ⟨k1, k2, .inr ka, .inr kb, fun t ht => .inr (kc t ht)⟩
def Z1C (Y5 : (List GSpring)) (Yn : Int) : Int := (cond (decide ((IntKind.wrap .i64 (Yn - (Y5.length : Int))) < 0))
  (-1)
  (IntKind.wrap .i64 (Yn - (Y5.length : Int))))
theorem Ze0 (Y5 : (List GSpring)) (Yn : Int) (hp0 : Y5.length ≤ 9223372036854775807)  : Fn prog 48 [.sl (Y5.map GSpring.cells), .i .i64 Yn] (.i .i64 (Z1C Y5 Yn)) [] := by
 have p {a C} (s : Scr a C) := sZ GSpring.cells Y5 <| sW .i64 (Yn - (Y5.length : Int)) <| s
 cases h0 : (decide ((IntKind.wrap .i64 (Yn - (Y5.length : Int))) < 0)) with
 | true =>
  have gh0 := of_decide_eq_true h0
  refine fnS E0Ok Z4 (c := bodyOf f48) [] (.i .i64 (-1)) [] func48 (p (sB h0 <| sK [] sN)) rfl (by kernel_rfl) (by kernel_rfl) rfl ?_ ?_
  · simp only [Z1C, h0, cond_true]
  · rfl
 | false =>
  have gh0 := of_decide_eq_false h0
  refine fnS E0Ok Z4 (c := bodyOf f48) [] (.i .i64 (IntKind.wrap .i64 (Yn - (Y5.length : Int)))) [] func48 (p (sB h0 <| sK [] sN)) rfl (by kernel_rfl) (by kernel_rfl) rfl ?_ ?_
  · simp only [Z1C, h0, cond_false]
  · rfl
theorem Zdv (a : List GSpring) (left : Int) (h0 : a.length ≤ 9223372036854775807) (h1 : -1 ≤ left) (h2 : left ≤ 1048576) : -1 ≤ Z1C a left ∧ Z1C a left ≤ left ∧ (Z1C a left < 0 ∨ (a.length : Int) ≤ left) := by
  unfold Z1C
  rw [wrap_sub (by omega) (by omega)]
  by_cases h : left - (a.length : Int) < 0
  · simp [h]; omega
  · simp [h]; omega
def Z2o (Y5 : (List Nat)) (Yn : Int) : Int := (cond (decide ((IntKind.wrap .i64 (Yn - (Y5.length : Int))) < 0))
  (-1)
  (IntKind.wrap .i64 (Yn - (Y5.length : Int))))
theorem Zdw (Y5 : (List Nat)) (Yn : Int) (hp0 : Y5.length ≤ 9223372036854775807)  : Fn prog 49 [.sl (Y5.map (cF .f32)), .i .i64 Yn] (.i .i64 (Z2o Y5 Yn)) [] := by
 have p {a C} (s : Scr a C) := sZ (cF .f32) Y5 <| sW .i64 (Yn - (Y5.length : Int)) <| s
 cases h0 : (decide ((IntKind.wrap .i64 (Yn - (Y5.length : Int))) < 0)) with
 | true =>
  have gh0 := of_decide_eq_true h0
  refine fnS E0Ok Z4 (c := bodyOf f49) [] (.i .i64 (-1)) [] func49 (p (sB h0 <| sK [] sN)) rfl (by kernel_rfl) (by kernel_rfl) rfl ?_ ?_
  · simp only [Z2o, h0, cond_true]
  · rfl
 | false =>
  have gh0 := of_decide_eq_false h0
  refine fnS E0Ok Z4 (c := bodyOf f49) [] (.i .i64 (IntKind.wrap .i64 (Yn - (Y5.length : Int)))) [] func49 (p (sB h0 <| sK [] sN)) rfl (by kernel_rfl) (by kernel_rfl) rfl ?_ ?_
  · simp only [Z2o, h0, cond_false]
  · rfl
theorem ZcF (a : List Nat) (left : Int) (h0 : a.length ≤ 9223372036854775807) (h1 : -1 ≤ left) (h2 : left ≤ 1048576) : -1 ≤ Z2o a left ∧ Z2o a left ≤ left ∧ (Z2o a left < 0 ∨ (a.length : Int) ≤ left) := by
  unfold Z2o
  rw [wrap_sub (by omega) (by omega)]
  by_cases h : left - (a.length : Int) < 0
  · simp [h]; omega
  · simp [h]; omega
def Z2p (Y5 : GBody) (Yn : Int) : Int := (cond (decide ((ZU Y5.Mesh Yn) < 0))
  (-1)
  (cond (decide ((Z1C Y5.Springs (ZU Y5.Mesh Yn)) < 0))
    (-1)
    (cond (decide ((Z2o Y5.Weights (Z1C Y5.Springs (ZU Y5.Mesh Yn))) < 0))
      (-1)
      (Z2o Y5.Weights (Z1C Y5.Springs (ZU Y5.Mesh Yn))))))
theorem Zfu (Y5 : GBody) (Yn : Int) (hp0 : Y5.Mesh.Places.length ≤ 9223372036854775807) (hp1 : Y5.Mesh.Triangles.length ≤ 9223372036854775807) (hp2 : ∀ t ∈ Y5.Mesh.Triangles, t.length ≤ 9223372036854775807) (hp3 : Y5.Springs.length ≤ 9223372036854775807) (hp4 : Y5.Weights.length ≤ 9223372036854775807)  : Fn prog 11 [.agg [.sl (Y5.Mesh.Places.map GVector.cells), .sl (Y5.Mesh.Triangles.map (cL (cI .i64))), .sl (Y5.Springs.map GSpring.cells), .f .f32 Y5.Film, .f .f32 Y5.Bend, .sl (Y5.Weights.map (cF .f32)), .f .f32 Y5.Fall.X, .f .f32 Y5.Fall.Y, .f .f32 Y5.Fall.Z], .i .i64 Yn] (.i .i64 (Z2p Y5 Yn)) [] := by
 have p {a C} (s : Scr a C) := sF (Zft Y5.Mesh Yn hp0 hp1 hp2) <| s
 cases h0 : (decide ((ZU Y5.Mesh Yn) < 0)) with
 | true =>
  have gh0 := of_decide_eq_true h0
  refine fnS E0Ok Z4 (c := bodyOf f11) [] (.i .i64 (-1)) [] func11 (p (sB h0 <| sK [] sN)) rfl (by kernel_rfl) (by kernel_rfl) rfl ?_ ?_
  · simp only [Z2p, h0, cond_true]
  · rfl
 | false =>
  have gh0 := of_decide_eq_false h0
  have q {a C} (s : Scr a C) := p (sB h0 <| sF (Ze0 Y5.Springs (ZU Y5.Mesh Yn) hp3) <| s)
  clear p
  cases h1 : (decide ((Z1C Y5.Springs (ZU Y5.Mesh Yn)) < 0)) with
  | true =>
   have gh1 := of_decide_eq_true h1
   refine fnS E0Ok Z4 (c := bodyOf f11) [] (.i .i64 (-1)) [] func11 (q (sB h1 <| sK [] sN)) rfl (by kernel_rfl) (by kernel_rfl) rfl ?_ ?_
   · simp only [Z2p, h0, h1, cond_true, cond_false]
   · rfl
  | false =>
   have gh1 := of_decide_eq_false h1
   have p {a C} (s : Scr a C) := q (sB h1 <| sF (Zdw Y5.Weights (Z1C Y5.Springs (ZU Y5.Mesh Yn)) hp4) <| s)
   clear q
   cases h2 : (decide ((Z2o Y5.Weights (Z1C Y5.Springs (ZU Y5.Mesh Yn))) < 0)) with
   | true =>
    have gh2 := of_decide_eq_true h2
    refine fnS E0Ok Z4 (c := bodyOf f11) [] (.i .i64 (-1)) [] func11 (p (sB h2 <| sK [] sN)) rfl (by kernel_rfl) (by kernel_rfl) rfl ?_ ?_
    · simp only [Z2p, h0, h1, h2, cond_true, cond_false]
    · rfl
   | false =>
    have gh2 := of_decide_eq_false h2
    refine fnS E0Ok Z4 (c := bodyOf f11) [] (.i .i64 (Z2o Y5.Weights (Z1C Y5.Springs (ZU Y5.Mesh Yn)))) [] func11 (p (sB h2 <| sK [] sN)) rfl (by kernel_rfl) (by kernel_rfl) rfl ?_ ?_
    · simp only [Z2p, h0, h1, h2, cond_false]
    · rfl
theorem Zbg (a : GBody) (left : Int) (g0 : a.Mesh.Places.length ≤ 9223372036854775807) (g1 : a.Mesh.Triangles.length ≤ 9223372036854775807) (g2 : ∀ t ∈ a.Mesh.Triangles, t.length ≤ 9223372036854775807) (g3 : a.Springs.length ≤ 9223372036854775807) (g4 : a.Weights.length ≤ 9223372036854775807) (h1 : -1 ≤ left) (h2 : left ≤ 1048576) : -1 ≤ Z2p a left ∧ Z2p a left ≤ left ∧ (Z2p a left < 0 ∨ (a.Mesh.Places.length : Int) ≤ left) ∧ (Z2p a left < 0 ∨ (a.Mesh.Triangles.length : Int) ≤ left) ∧ (Z2p a left < 0 ∨ (a.Springs.length : Int) ≤ left) ∧ (Z2p a left < 0 ∨ (a.Weights.length : Int) ≤ left) ∧ ∀ t ∈ a.Mesh.Triangles, Z2p a left < 0 ∨ (t.length : Int) ≤ left := by
  unfold Z2p
  have p0 := ZeZ a.Mesh left g0 g1 g2 (by omega) (by omega)
  cases hc0 : decide (ZU a.Mesh left < 0) with
  | true =>
    simp only [decide_eq_true_eq] at hc0; rw [cond_true]; refine ⟨by omega, by omega, .inl (by omega), .inl (by omega), .inl (by omega), .inl (by omega), fun t ht => .inl (by omega)⟩
  | false =>
    simp only [decide_eq_false_iff_not] at hc0; rw [cond_false]
    have p1 := Zdv a.Springs (ZU a.Mesh left) g3 (by omega) (by omega)
    cases hc1 : decide (Z1C a.Springs (ZU a.Mesh left) < 0) with
    | true =>
      simp only [decide_eq_true_eq] at hc1; rw [cond_true]; refine ⟨by omega, by omega, .inl (by omega), .inl (by omega), .inl (by omega), .inl (by omega), fun t ht => .inl (by omega)⟩
    | false =>
      simp only [decide_eq_false_iff_not] at hc1; rw [cond_false]
      have p2 := ZcF a.Weights (Z1C a.Springs (ZU a.Mesh left)) g4 (by omega) (by omega)
      cases hc2 : decide (Z2o a.Weights (Z1C a.Springs (ZU a.Mesh left)) < 0) with
      | true =>
        simp only [decide_eq_true_eq] at hc2; rw [cond_true]; refine ⟨by omega, by omega, .inl (by omega), .inl (by omega), .inl (by omega), .inl (by omega), fun t ht => .inl (by omega)⟩
      | false =>
        simp only [decide_eq_false_iff_not] at hc2; rw [cond_false]
        refine ⟨by omega, by omega, .inr (by omega), .inr (by omega), .inr (by omega), .inr (by omega), fun t ht => .inr (by have q := p0.2.2.2.2 t ht; omega)⟩
def Z6u (Y5 : GVector) : GVector := Y5
theorem Zez (Y5 : GVector)   : Fn prog 55 [.agg [.f .f32 Y5.X, .f .f32 Y5.Y, .f .f32 Y5.Z]] (.agg [.f .f32 ((Z6u Y5).X), .f .f32 ((Z6u Y5).Y), .f .f32 ((Z6u Y5).Z)]) [] := by
 refine fnS E0Ok Z4 (c := bodyOf f55) [] (.agg [.f .f32 Y5.X, .f .f32 Y5.Y, .f .f32 Y5.Z]) [] func55 (sK [] sN) rfl (by kernel_rfl) (by kernel_rfl) rfl ?_ ?_
 · rfl
 · rfl
@[simp] theorem Ze1 (a : GVector) : Z6u a = a := rfl
theorem ZaL (Y5 : GVector)  : Fn prog 55 [.agg [.f .f32 Y5.X, .f .f32 Y5.Y, .f .f32 Y5.Z]] (.agg [.f .f32 Y5.X, .f .f32 Y5.Y, .f .f32 Y5.Z]) [] := by
 simpa only [Ze1] using Zez  Y5 
def Z2B (Y5 : (List GVector)) : Nat → Int → (List GVector) → (List GVector)
  | 0, _, _ => default
  | k + 1, Y7, Y2 => (cond (decide (Y7 < (Y5.length : Int)))
    (Z2B Y5 k (Y7 + 1) (Y2.set Y7.toNat (Y5.getD Y7.toNat default)))
    Y2)
def Z6h (Y5 : (List GVector)) (r : (List GVector)) : Ex × St := ((.exit 0), ⟨.sl (Y5.map GVector.cells) :: .any :: .nils :: .own 0 :: .any :: .sl (Y5.map GVector.cells) :: .i .i64 (Y5.length : Int) :: .own 0 :: an 15 [], [.vec 40 3 (r.map GVector.cells) false]⟩)
def Z8O (Y5 : (List GVector)) (Y7 : Int) (Y2 : (List GVector)) : St := ⟨.sl (Y5.map GVector.cells) :: .any :: .nils :: .own 0 :: .i .i64 Y7 :: .sl (Y5.map GVector.cells) :: .i .i64 (Y5.length : Int) :: .own 0 :: an 15 [], [.vec 40 3 (Y2.map GVector.cells) false]⟩
theorem Zcc (Y5 : (List GVector)) (hp0 : Y5.length ≤ 1073741824) : ∀ (k : Nat) (Y7 : Int) (Y2 : (List GVector)) (Z7v : 0 ≤ Y7) (Z7w : Y2.length = Y5.length) (hk : ((Y5.length : Int) - Y7).toNat < k), Lp prog 0 (sub (bodyOf f78) [1, 1, 0, 1, 0, 0]) (Z8O Y5 Y7 Y2) (Z6h Y5 (Z2B Y5 k Y7 Y2)).1 (Z6h Y5 (Z2B Y5 k Y7 Y2)).2 := by
 intro k
 induction k with
 | zero => intro Y7 Y2 Z7v Z7w hk; exact absurd hk (Nat.not_lt_zero _)
 | succ k ih =>
  intro Y7 Y2 Z7v Z7w hk
  have p {a C} (s : Scr a C) := sZ GVector.cells Y5 <| s
  cases Yg : (decide (Y7 < (Y5.length : Int))) with
  | true =>
   have Yt := of_decide_eq_true Yg
   have YA : (0 : Int) ≤ Y7 := by clear p; exact (by assumption)
   have YE : Y7 < (Y5.length : Int) := by clear p; exact (by assumption)
   have YG : Y7 < (Y2.length : Int) := by clear p; exact (by omega)
   have YH : Y7.toNat < Y2.length := by clear p; exact (by omega)
   have YL : (-9223372036854775808 : Int) ≤ (Y7 + 1) := by clear p; exact (by omega)
   have YQ : (Y7 + 1) ≤ (9223372036854775807 : Int) := by clear p; exact (by omega)
   have e : Z2B Y5 (k + 1) Y7 Y2 = (Z2B Y5 k (Y7 + 1) (Y2.set Y7.toNat (Y5.getD Y7.toNat default))) := by simp only [Z2B, Yg, cond_true]
   rw [e]
   exact nextS E0Ok Z4 [] (mR false [0, 1, 1, 6, 15]) [0] (⟨.sl (Y5.map GVector.cells) :: .any :: .nils :: .own 0 :: .i .i64 (Y7 + 1) :: .sl (Y5.map GVector.cells) :: .i .i64 (Y5.length : Int) :: .own 0 :: an 15 [], [.vec 40 3 ((Y2.map GVector.cells).set Y7.toNat [.f .f32 ((Y5.getD Y7.toNat default).X), .f .f32 ((Y5.getD Y7.toNat default).Y), .f .f32 ((Y5.getD Y7.toNat default).Z)]) false]⟩) (p (sB Yg <| sG GVector.cells Y5 Y7 YA YE <| sF (ZaL (Y5.getD Y7.toNat default)) <| sX GVector.cells Y2 Y7 YA YG <| sC (maplt (c := GVector.cells) (l := Y2) YH) <| sI (Y7 + 1) YL YQ <| sN)) (by kernel_rfl) (show _ = ⟨.sl (Y5.map GVector.cells) :: .any :: .nils :: .own 0 :: .i .i64 (Y7 + 1) :: .sl (Y5.map GVector.cells) :: .i .i64 (Y5.length : Int) :: .own 0 :: an 15 [], [.vec 40 3 ((Y2.set Y7.toNat (Y5.getD Y7.toNat default)).map GVector.cells) false]⟩ from (by simp [List.map_set, GVector.cells])) (ih (Y7 + 1) (Y2.set Y7.toNat (Y5.getD Y7.toNat default)) (show 0 ≤ (Y7 + 1) from (by omega)) (show (Y2.set Y7.toNat (Y5.getD Y7.toNat default)).length = Y5.length from (by simp_all <;> omega)) (by omega))
  | false =>
   have Yt := of_decide_eq_false Yg
   have e : Z2B Y5 (k + 1) Y7 Y2 = Y2 := by simp only [Z2B, Yg, cond_false]
   rw [e]
   exact outR (e := (.exit 0)) E0Ok Z4 [] (mR false [0, 1, 1, 2, 1, 3, 15]) [0] (p (sB Yg <| sN)) (by kernel_rfl) (by intro h; cases h)
def Z4C (Y5 : (List GVector)) : (List GVector) := (Z2B Y5 (((Y5.length : Int) - 0).toNat + 1) 0 (List.replicate (Y5.length : Int).toNat (⟨0, 0, 0⟩ : GVector)))
def Z5S (Y5 : (List GVector)) : (List GVector) := (Z4C Y5)
theorem Ze2 (Y5 : (List GVector)) (hp0 : Y5.length ≤ 1073741824)  : Fn prog 78 [.sl (Y5.map GVector.cells)] (.own 0) [.vec 40 3 ((Z5S Y5).map GVector.cells) false] := by
 have y0 : (0 : Int) ≤ (Y5.length : Int) := (by omega)
 have y1 : ((Y5.length : Int) : Int) ≤ 2147483648 := (by omega)
 refine fnS E0Ok Z4 (c := bodyOf f78) [] (.own 0) [.vec 40 3 ((Z4C Y5).map GVector.cells) false] func78 (sZ GVector.cells Y5 <| sC (show (Y5.length : Int) = (Y5.length : Int) from rfl) <| sC y0 <| sC y1 <| sL (mR false [0, 1, 1, 6, 15]) 1 (lp_cast (st2 := ⟨.sl (Y5.map GVector.cells) :: .any :: .nils :: .own 0 :: .i .i64 0 :: .sl (Y5.map GVector.cells) :: .i .i64 (Y5.length : Int) :: .own 0 :: an 15 [], [.vec 40 3 (List.replicate (Int.toNat (Y5.length : Int)) [.f .f32 0, .f .f32 0, .f .f32 0]) false]⟩) (lp_val (Z6h Y5) (x := (Z4C Y5)) (Zcc Y5 hp0 (((Y5.length : Int) - 0).toNat + 1) 0 (List.replicate (Y5.length : Int).toNat (⟨0, 0, 0⟩ : GVector)) (show 0 ≤ 0 from (by omega)) (show (List.replicate (Y5.length : Int).toNat (⟨0, 0, 0⟩ : GVector)).length = Y5.length from (by simp)) (Nat.lt_succ_self _)) rfl) (by simp [Z8O, GVector.cells])) <| sK [0] sN) rfl (by kernel_rfl) (by kernel_rfl) rfl ?_ ?_
 · rfl
 · simp [Z5S]
@[simp] theorem Zdx (a : List GVector) : Z5S a = a := by
  unfold Z5S Z4C
  rw [copy_all (f := id) (a := a) (lo := Z2B a) (fun k i r => rfl)]
  exact List.map_id a
theorem Ze3 (Y5 : (List GVector)) (hp0 : Y5.length ≤ 1073741824) : Fn prog 78 [.sl (Y5.map GVector.cells)] (.own 0) [.vec 40 3 (Y5.map GVector.cells) false] := by
 simpa only [Zdx] using Ze2  Y5 hp0
def Z2L (Y5 : (List Int)) : Nat → Int → (List Int) → (List Int)
  | 0, _, _ => default
  | k + 1, Y7, Y2 => (cond (decide (Y7 < (Y5.length : Int)))
    (Z2L Y5 k (Y7 + 1) (Y2.set Y7.toNat (Y5.getD Y7.toNat default)))
    Y2)
def Z6B (Y5 : (List Int)) (r : (List Int)) : Ex × St := ((.exit 0), ⟨.sl (Y5.map (cI .i64)) :: .any :: .nils :: .own 0 :: .any :: .sl (Y5.map (cI .i64)) :: .i .i64 (Y5.length : Int) :: .own 0 :: an 14 [], [.vec 2 1 (r.map (cI .i64)) false]⟩)
def Z9l (Y5 : (List Int)) (Y7 : Int) (Y2 : (List Int)) : St := ⟨.sl (Y5.map (cI .i64)) :: .any :: .nils :: .own 0 :: .i .i64 Y7 :: .sl (Y5.map (cI .i64)) :: .i .i64 (Y5.length : Int) :: .own 0 :: an 14 [], [.vec 2 1 (Y2.map (cI .i64)) false]⟩
theorem ZcG (Y5 : (List Int)) (hp0 : Y5.length ≤ 1073741824) : ∀ (k : Nat) (Y7 : Int) (Y2 : (List Int)) (Z80 : 0 ≤ Y7) (Z81 : Y2.length = Y5.length) (hk : ((Y5.length : Int) - Y7).toNat < k), Lp prog 0 (sub (bodyOf f21) [1, 1, 0, 1, 0, 0]) (Z9l Y5 Y7 Y2) (Z6B Y5 (Z2L Y5 k Y7 Y2)).1 (Z6B Y5 (Z2L Y5 k Y7 Y2)).2 := by
 intro k
 induction k with
 | zero => intro Y7 Y2 Z80 Z81 hk; exact absurd hk (Nat.not_lt_zero _)
 | succ k ih =>
  intro Y7 Y2 Z80 Z81 hk
  have p {a C} (s : Scr a C) := sZ (cI .i64) Y5 <| s
  cases Yg : (decide (Y7 < (Y5.length : Int))) with
  | true =>
   have Yt := of_decide_eq_true Yg
   have YA : (0 : Int) ≤ Y7 := by clear p; exact (by assumption)
   have YE : Y7 < (Y5.length : Int) := by clear p; exact (by assumption)
   have YG : Y7 < (Y2.length : Int) := by clear p; exact (by omega)
   have YH : Y7.toNat < Y2.length := by clear p; exact (by omega)
   have YL : (-9223372036854775808 : Int) ≤ (Y7 + 1) := by clear p; exact (by omega)
   have YQ : (Y7 + 1) ≤ (9223372036854775807 : Int) := by clear p; exact (by omega)
   have e : Z2L Y5 (k + 1) Y7 Y2 = (Z2L Y5 k (Y7 + 1) (Y2.set Y7.toNat (Y5.getD Y7.toNat default))) := by simp only [Z2L, Yg, cond_true]
   rw [e]
   exact nextS E0Ok Z4 [] (mR false [0, 1, 1, 6, 14]) [0] (⟨.sl (Y5.map (cI .i64)) :: .any :: .nils :: .own 0 :: .i .i64 (Y7 + 1) :: .sl (Y5.map (cI .i64)) :: .i .i64 (Y5.length : Int) :: .own 0 :: an 14 [], [.vec 2 1 ((Y2.map (cI .i64)).set Y7.toNat [.i .i64 (Y5.getD Y7.toNat default)]) false]⟩) (p (sB Yg <| sG (cI .i64) Y5 Y7 YA YE <| sX (cI .i64) Y2 Y7 YA YG <| sC (maplt (c := (cI .i64)) (l := Y2) YH) <| sI (Y7 + 1) YL YQ <| sN)) (by kernel_rfl) (show _ = ⟨.sl (Y5.map (cI .i64)) :: .any :: .nils :: .own 0 :: .i .i64 (Y7 + 1) :: .sl (Y5.map (cI .i64)) :: .i .i64 (Y5.length : Int) :: .own 0 :: an 14 [], [.vec 2 1 ((Y2.set Y7.toNat (Y5.getD Y7.toNat default)).map (cI .i64)) false]⟩ from (by simp [List.map_set, cI])) (ih (Y7 + 1) (Y2.set Y7.toNat (Y5.getD Y7.toNat default)) (show 0 ≤ (Y7 + 1) from (by omega)) (show (Y2.set Y7.toNat (Y5.getD Y7.toNat default)).length = Y5.length from (by simp_all <;> omega)) (by omega))
  | false =>
   have Yt := of_decide_eq_false Yg
   have e : Z2L Y5 (k + 1) Y7 Y2 = Y2 := by simp only [Z2L, Yg, cond_false]
   rw [e]
   exact outR (e := (.exit 0)) E0Ok Z4 [] (mR false [0, 1, 1, 2, 1, 3, 14]) [0] (p (sB Yg <| sN)) (by kernel_rfl) (by intro h; cases h)
def Z4S (Y5 : (List Int)) : (List Int) := (Z2L Y5 (((Y5.length : Int) - 0).toNat + 1) 0 (List.replicate (Y5.length : Int).toNat 0))
def Z6v (Y5 : (List Int)) : (List Int) := (Z4S Y5)
theorem ZeA (Y5 : (List Int)) (hp0 : Y5.length ≤ 1073741824)  : Fn prog 21 [.sl (Y5.map (cI .i64))] (.own 0) [.vec 2 1 ((Z6v Y5).map (cI .i64)) false] := by
 have y0 : (0 : Int) ≤ (Y5.length : Int) := (by omega)
 have y1 : ((Y5.length : Int) : Int) ≤ 2147483648 := (by omega)
 refine fnS E0Ok Z4 (c := bodyOf f21) [] (.own 0) [.vec 2 1 ((Z4S Y5).map (cI .i64)) false] func21 (sZ (cI .i64) Y5 <| sC (show (Y5.length : Int) = (Y5.length : Int) from rfl) <| sC y0 <| sC y1 <| sL (mR false [0, 1, 1, 6, 14]) 1 (lp_cast (st2 := ⟨.sl (Y5.map (cI .i64)) :: .any :: .nils :: .own 0 :: .i .i64 0 :: .sl (Y5.map (cI .i64)) :: .i .i64 (Y5.length : Int) :: .own 0 :: an 14 [], [.vec 2 1 (List.replicate (Int.toNat (Y5.length : Int)) [.i .i64 0]) false]⟩) (lp_val (Z6B Y5) (x := (Z4S Y5)) (ZcG Y5 hp0 (((Y5.length : Int) - 0).toNat + 1) 0 (List.replicate (Y5.length : Int).toNat 0) (show 0 ≤ 0 from (by omega)) (show (List.replicate (Y5.length : Int).toNat 0).length = Y5.length from (by simp)) (Nat.lt_succ_self _)) rfl) (by simp [Z9l, cI])) <| sK [0] sN) rfl (by kernel_rfl) (by kernel_rfl) rfl ?_ ?_
 · rfl
 · simp [Z6v]
@[simp] theorem Ze4 (a : List Int) : Z6v a = a := by
  unfold Z6v Z4S
  rw [copy_all (f := id) (a := a) (lo := Z2L a) (fun k i r => rfl)]
  exact List.map_id a
theorem Z5o (Y5 : (List Int)) (hp0 : Y5.length ≤ 1073741824) : Fn prog 21 [.sl (Y5.map (cI .i64))] (.own 0) [.vec 2 1 (Y5.map (cI .i64)) false] := by
 simpa only [Ze4] using ZeA  Y5 hp0
def Z2C (Y5 : (List (List Int))) : Nat → Int → (List (List Int)) → (List (List Int))
  | 0, _, _ => default
  | k + 1, Y7, Y2 => (cond (decide (Y7 < (Y5.length : Int)))
    (Z2C Y5 k (Y7 + 1) (Y2.set Y7.toNat (Y5.getD Y7.toNat default)))
    Y2)
def Z6i (Y5 : (List (List Int))) (r : (List (List Int))) : Ex × St := ((.exit 0), ⟨.sl (Y5.map (cL (cI .i64))) :: .any :: .nils :: .own 0 :: .any :: .sl (Y5.map (cL (cI .i64))) :: .i .i64 (Y5.length : Int) :: .own 0 :: an 15 [], [.nest 49 (r.map fun l => l.map (cI .i64)) false]⟩)
def Z8P (Y5 : (List (List Int))) (Y7 : Int) (Y2 : (List (List Int))) : St := ⟨.sl (Y5.map (cL (cI .i64))) :: .any :: .nils :: .own 0 :: .i .i64 Y7 :: .sl (Y5.map (cL (cI .i64))) :: .i .i64 (Y5.length : Int) :: .own 0 :: an 15 [], [.nest 49 (Y2.map fun l => l.map (cI .i64)) false]⟩
theorem Zcd (Y5 : (List (List Int))) (hp0 : Y5.length ≤ 1073741824) (hp1 : ∀ t ∈ Y5, t.length ≤ 1073741824) : ∀ (k : Nat) (Y7 : Int) (Y2 : (List (List Int))) (Z7x : 0 ≤ Y7) (Z7y : Y2.length = Y5.length) (hk : ((Y5.length : Int) - Y7).toNat < k), Lp prog 0 (sub (bodyOf f103) [1, 1, 0, 1, 0, 0]) (Z8P Y5 Y7 Y2) (Z6i Y5 (Z2C Y5 k Y7 Y2)).1 (Z6i Y5 (Z2C Y5 k Y7 Y2)).2 := by
 intro k
 induction k with
 | zero => intro Y7 Y2 Z7x Z7y hk; exact absurd hk (Nat.not_lt_zero _)
 | succ k ih =>
  intro Y7 Y2 Z7x Z7y hk
  have p {a C} (s : Scr a C) := sZ (cL (cI .i64)) Y5 <| s
  cases Yg : (decide (Y7 < (Y5.length : Int))) with
  | true =>
   have Yt := of_decide_eq_true Yg
   have YA : (0 : Int) ≤ Y7 := by clear p; exact (by assumption)
   have YE : Y7 < (Y5.length : Int) := by clear p; exact (by assumption)
   have YG : (Y5.getD Y7.toNat default).length ≤ 1073741824 := by clear p; exact (by simp_all <;> omega)
   have YH : Int.toNat Y7 < Y2.length := by clear p; exact (by omega)
   have YL : Y7.toNat < Y2.length := by clear p; exact (by assumption)
   have YQ : (-9223372036854775808 : Int) ≤ (Y7 + 1) := by clear p; exact (by omega)
   have YW : (Y7 + 1) ≤ (9223372036854775807 : Int) := by clear p; exact (by omega)
   have e : Z2C Y5 (k + 1) Y7 Y2 = (Z2C Y5 k (Y7 + 1) (Y2.set Y7.toNat (Y5.getD Y7.toNat default))) := by simp only [Z2C, Yg, cond_true]
   rw [e]
   exact nextS E0Ok Z4 [] (mR false [0, 1, 1, 6, 15]) [0] (⟨.sl (Y5.map (cL (cI .i64))) :: .any :: .nils :: .own 0 :: .i .i64 (Y7 + 1) :: .sl (Y5.map (cL (cI .i64))) :: .i .i64 (Y5.length : Int) :: .own 0 :: an 15 [], [.nest 49 ((Y2.map fun l => l.map (cI .i64)).set Y7.toNat ((Y5.getD Y7.toNat default).map (cI .i64))) false]⟩) (p (sB Yg <| sG (cL (cI .i64)) Y5 Y7 YA YE <| sF (Z5o (Y5.getD Y7.toNat default) YG) <| sC (nestix (c := (cI .i64)) (l := Y2) (i := Y7) YA YH) <| sC (show Y7.toNat < (Y2.map fun l => l.map (cI .i64)).length from (by simpa using YL)) <| sI (Y7 + 1) YQ YW <| sN)) (by kernel_rfl) (show _ = ⟨.sl (Y5.map (cL (cI .i64))) :: .any :: .nils :: .own 0 :: .i .i64 (Y7 + 1) :: .sl (Y5.map (cL (cI .i64))) :: .i .i64 (Y5.length : Int) :: .own 0 :: an 15 [], [.nest 49 ((Y2.set Y7.toNat (Y5.getD Y7.toNat default)).map fun l => l.map (cI .i64)) false]⟩ from (by simp [List.map_set, cL, cI])) (ih (Y7 + 1) (Y2.set Y7.toNat (Y5.getD Y7.toNat default)) (show 0 ≤ (Y7 + 1) from (by omega)) (show (Y2.set Y7.toNat (Y5.getD Y7.toNat default)).length = Y5.length from (by simp_all <;> omega)) (by omega))
  | false =>
   have Yt := of_decide_eq_false Yg
   have e : Z2C Y5 (k + 1) Y7 Y2 = Y2 := by simp only [Z2C, Yg, cond_false]
   rw [e]
   exact outR (e := (.exit 0)) E0Ok Z4 [] (mR false [0, 1, 1, 2, 1, 3, 15]) [0] (p (sB Yg <| sN)) (by kernel_rfl) (by intro h; cases h)
def Z4D (Y5 : (List (List Int))) : (List (List Int)) := (Z2C Y5 (((Y5.length : Int) - 0).toNat + 1) 0 (List.replicate (Y5.length : Int).toNat ([] : (List Int))))
def Z5T (Y5 : (List (List Int))) : (List (List Int)) := (Z4D Y5)
theorem Ze5 (Y5 : (List (List Int))) (hp0 : Y5.length ≤ 1073741824) (hp1 : ∀ t ∈ Y5, t.length ≤ 1073741824)  : Fn prog 103 [.sl (Y5.map (cL (cI .i64)))] (.own 0) [.nest 49 ((Z5T Y5).map fun l => l.map (cI .i64)) false] := by
 have y0 : (0 : Int) ≤ (Y5.length : Int) := (by omega)
 have y1 : ((Y5.length : Int) : Int) ≤ 2147483648 := (by omega)
 refine fnS E0Ok Z4 (c := bodyOf f103) [] (.own 0) [.nest 49 ((Z4D Y5).map fun l => l.map (cI .i64)) false] func103 (sZ (cL (cI .i64)) Y5 <| sC (show (Y5.length : Int) = (Y5.length : Int) from rfl) <| sC y0 <| sC y1 <| sL (mR false [0, 1, 1, 6, 15]) 1 (lp_cast (st2 := ⟨.sl (Y5.map (cL (cI .i64))) :: .any :: .nils :: .own 0 :: .i .i64 0 :: .sl (Y5.map (cL (cI .i64))) :: .i .i64 (Y5.length : Int) :: .own 0 :: an 15 [], [.nest 49 (List.replicate (Y5.length : Int).toNat []) false]⟩) (lp_val (Z6i Y5) (x := (Z4D Y5)) (Zcd Y5 hp0 hp1 (((Y5.length : Int) - 0).toNat + 1) 0 (List.replicate (Y5.length : Int).toNat ([] : (List Int))) (show 0 ≤ 0 from (by omega)) (show (List.replicate (Y5.length : Int).toNat ([] : (List Int))).length = Y5.length from (by simp)) (Nat.lt_succ_self _)) rfl) (by simp [Z8P, cL, cI])) <| sK [0] sN) rfl (by kernel_rfl) (by kernel_rfl) rfl ?_ ?_
 · rfl
 · simp [Z5T]
@[simp] theorem Zdy (a : List (List Int)) : Z5T a = a := by
  unfold Z5T Z4D
  rw [copy_all (f := id) (a := a) (lo := Z2C a) (fun k i r => rfl)]
  exact List.map_id a
theorem Ze6 (Y5 : (List (List Int))) (hp0 : Y5.length ≤ 1073741824) (hp1 : ∀ t ∈ Y5, t.length ≤ 1073741824) : Fn prog 103 [.sl (Y5.map (cL (cI .i64)))] (.own 0) [.nest 49 (Y5.map fun l => l.map (cI .i64)) false] := by
 simpa only [Zdy] using Ze5  Y5 hp0 hp1
def Z66 (Y5 : GMesh) : GMesh := Y5
theorem Zfv (Y5 : GMesh) (hp0 : Y5.Places.length ≤ 1073741824) (hp1 : Y5.Triangles.length ≤ 1073741824) (hp2 : ∀ t ∈ Y5.Triangles, t.length ≤ 1073741824)  : Fn prog 52 [.agg [.sl (Y5.Places.map GVector.cells), .sl (Y5.Triangles.map (cL (cI .i64)))]] (.agg [.own 0, .own 1]) [.vec 40 3 (((Z66 Y5).Places).map GVector.cells) false, .nest 49 (((Z66 Y5).Triangles).map fun l => l.map (cI .i64)) false] := by
 refine fnS E0Ok Z4 (c := bodyOf f52) [] (.agg [.own 0, .own 1]) [.vec 40 3 (Y5.Places.map GVector.cells) false, .nest 49 (Y5.Triangles.map fun l => l.map (cI .i64)) false] func52 (sF (Ze3 Y5.Places hp0) <| sF (Ze6 Y5.Triangles hp1 hp2) <| sK [3, 4] sN) rfl (by kernel_rfl) (by kernel_rfl) rfl ?_ ?_
 · rfl
 · simp [Z66]
@[simp] theorem Zf0 (a : GMesh) : Z66 a = a := by
  simp [Z66]
theorem Zfw (Y5 : GMesh) (hp0 : Y5.Places.length ≤ 1073741824) (hp1 : Y5.Triangles.length ≤ 1073741824) (hp2 : ∀ t ∈ Y5.Triangles, t.length ≤ 1073741824) : Fn prog 52 [.agg [.sl (Y5.Places.map GVector.cells), .sl (Y5.Triangles.map (cL (cI .i64)))]] (.agg [.own 0, .own 1]) [.vec 40 3 (Y5.Places.map GVector.cells) false, .nest 49 (Y5.Triangles.map fun l => l.map (cI .i64)) false] := by
 simpa only [Zf0] using Zfv  Y5 hp0 hp1 hp2
def Z5p (Y5 : GSpring) : GSpring := Y5
theorem ZeB (Y5 : GSpring)   : Fn prog 104 [.agg [.i .i64 Y5.A, .i .i64 Y5.B, .f .f32 Y5.Long, .f .f32 Y5.Stiff]] (.agg [.i .i64 ((Z5p Y5).A), .i .i64 ((Z5p Y5).B), .f .f32 ((Z5p Y5).Long), .f .f32 ((Z5p Y5).Stiff)]) [] := by
 refine fnS E0Ok Z4 (c := bodyOf f104) [] (.agg [.i .i64 Y5.A, .i .i64 Y5.B, .f .f32 Y5.Long, .f .f32 Y5.Stiff]) [] func104 (sK [] sN) rfl (by kernel_rfl) (by kernel_rfl) rfl ?_ ?_
 · rfl
 · rfl
@[simp] theorem Ze7 (a : GSpring) : Z5p a = a := rfl
theorem ZeC (Y5 : GSpring)  : Fn prog 104 [.agg [.i .i64 Y5.A, .i .i64 Y5.B, .f .f32 Y5.Long, .f .f32 Y5.Stiff]] (.agg [.i .i64 Y5.A, .i .i64 Y5.B, .f .f32 Y5.Long, .f .f32 Y5.Stiff]) [] := by
 simpa only [Ze7] using ZeB  Y5 
def Z2D (Y5 : (List GSpring)) : Nat → Int → (List GSpring) → (List GSpring)
  | 0, _, _ => default
  | k + 1, Y7, Y2 => (cond (decide (Y7 < (Y5.length : Int)))
    (Z2D Y5 k (Y7 + 1) (Y2.set Y7.toNat (Y5.getD Y7.toNat default)))
    Y2)
def Z6j (Y5 : (List GSpring)) (r : (List GSpring)) : Ex × St := ((.exit 0), ⟨.sl (Y5.map GSpring.cells) :: .any :: .nils :: .own 0 :: .any :: .sl (Y5.map GSpring.cells) :: .i .i64 (Y5.length : Int) :: .own 0 :: an 15 [], [.vec 133 4 (r.map GSpring.cells) false]⟩)
def Z8Q (Y5 : (List GSpring)) (Y7 : Int) (Y2 : (List GSpring)) : St := ⟨.sl (Y5.map GSpring.cells) :: .any :: .nils :: .own 0 :: .i .i64 Y7 :: .sl (Y5.map GSpring.cells) :: .i .i64 (Y5.length : Int) :: .own 0 :: an 15 [], [.vec 133 4 (Y2.map GSpring.cells) false]⟩
theorem Zce (Y5 : (List GSpring)) (hp0 : Y5.length ≤ 1073741824) : ∀ (k : Nat) (Y7 : Int) (Y2 : (List GSpring)) (Z7z : 0 ≤ Y7) (Z7A : Y2.length = Y5.length) (hk : ((Y5.length : Int) - Y7).toNat < k), Lp prog 0 (sub (bodyOf f53) [1, 1, 0, 1, 0, 0]) (Z8Q Y5 Y7 Y2) (Z6j Y5 (Z2D Y5 k Y7 Y2)).1 (Z6j Y5 (Z2D Y5 k Y7 Y2)).2 := by
 intro k
 induction k with
 | zero => intro Y7 Y2 Z7z Z7A hk; exact absurd hk (Nat.not_lt_zero _)
 | succ k ih =>
  intro Y7 Y2 Z7z Z7A hk
  have p {a C} (s : Scr a C) := sZ GSpring.cells Y5 <| s
  cases Yg : (decide (Y7 < (Y5.length : Int))) with
  | true =>
   have Yt := of_decide_eq_true Yg
   have YA : (0 : Int) ≤ Y7 := by clear p; exact (by assumption)
   have YE : Y7 < (Y5.length : Int) := by clear p; exact (by assumption)
   have YG : Y7 < (Y2.length : Int) := by clear p; exact (by omega)
   have YH : Y7.toNat < Y2.length := by clear p; exact (by omega)
   have YL : (-9223372036854775808 : Int) ≤ (Y7 + 1) := by clear p; exact (by omega)
   have YQ : (Y7 + 1) ≤ (9223372036854775807 : Int) := by clear p; exact (by omega)
   have e : Z2D Y5 (k + 1) Y7 Y2 = (Z2D Y5 k (Y7 + 1) (Y2.set Y7.toNat (Y5.getD Y7.toNat default))) := by simp only [Z2D, Yg, cond_true]
   rw [e]
   exact nextS E0Ok Z4 [] (mR false [0, 1, 1, 6, 15]) [0] (⟨.sl (Y5.map GSpring.cells) :: .any :: .nils :: .own 0 :: .i .i64 (Y7 + 1) :: .sl (Y5.map GSpring.cells) :: .i .i64 (Y5.length : Int) :: .own 0 :: an 15 [], [.vec 133 4 ((Y2.map GSpring.cells).set Y7.toNat [.i .i64 ((Y5.getD Y7.toNat default).A), .i .i64 ((Y5.getD Y7.toNat default).B), .f .f32 ((Y5.getD Y7.toNat default).Long), .f .f32 ((Y5.getD Y7.toNat default).Stiff)]) false]⟩) (p (sB Yg <| sG GSpring.cells Y5 Y7 YA YE <| sF (ZeC (Y5.getD Y7.toNat default)) <| sX GSpring.cells Y2 Y7 YA YG <| sC (maplt (c := GSpring.cells) (l := Y2) YH) <| sI (Y7 + 1) YL YQ <| sN)) (by kernel_rfl) (show _ = ⟨.sl (Y5.map GSpring.cells) :: .any :: .nils :: .own 0 :: .i .i64 (Y7 + 1) :: .sl (Y5.map GSpring.cells) :: .i .i64 (Y5.length : Int) :: .own 0 :: an 15 [], [.vec 133 4 ((Y2.set Y7.toNat (Y5.getD Y7.toNat default)).map GSpring.cells) false]⟩ from (by simp [List.map_set, GSpring.cells])) (ih (Y7 + 1) (Y2.set Y7.toNat (Y5.getD Y7.toNat default)) (show 0 ≤ (Y7 + 1) from (by omega)) (show (Y2.set Y7.toNat (Y5.getD Y7.toNat default)).length = Y5.length from (by simp_all <;> omega)) (by omega))
  | false =>
   have Yt := of_decide_eq_false Yg
   have e : Z2D Y5 (k + 1) Y7 Y2 = Y2 := by simp only [Z2D, Yg, cond_false]
   rw [e]
   exact outR (e := (.exit 0)) E0Ok Z4 [] (mR false [0, 1, 1, 2, 1, 3, 15]) [0] (p (sB Yg <| sN)) (by kernel_rfl) (by intro h; cases h)
def Z4E (Y5 : (List GSpring)) : (List GSpring) := (Z2D Y5 (((Y5.length : Int) - 0).toNat + 1) 0 (List.replicate (Y5.length : Int).toNat (⟨0, 0, 0, 0⟩ : GSpring)))
def Z5U (Y5 : (List GSpring)) : (List GSpring) := (Z4E Y5)
theorem Ze8 (Y5 : (List GSpring)) (hp0 : Y5.length ≤ 1073741824)  : Fn prog 53 [.sl (Y5.map GSpring.cells)] (.own 0) [.vec 133 4 ((Z5U Y5).map GSpring.cells) false] := by
 have y0 : (0 : Int) ≤ (Y5.length : Int) := (by omega)
 have y1 : ((Y5.length : Int) : Int) ≤ 2147483648 := (by omega)
 refine fnS E0Ok Z4 (c := bodyOf f53) [] (.own 0) [.vec 133 4 ((Z4E Y5).map GSpring.cells) false] func53 (sZ GSpring.cells Y5 <| sC (show (Y5.length : Int) = (Y5.length : Int) from rfl) <| sC y0 <| sC y1 <| sL (mR false [0, 1, 1, 6, 15]) 1 (lp_cast (st2 := ⟨.sl (Y5.map GSpring.cells) :: .any :: .nils :: .own 0 :: .i .i64 0 :: .sl (Y5.map GSpring.cells) :: .i .i64 (Y5.length : Int) :: .own 0 :: an 15 [], [.vec 133 4 (List.replicate (Int.toNat (Y5.length : Int)) [.i .i64 0, .i .i64 0, .f .f32 0, .f .f32 0]) false]⟩) (lp_val (Z6j Y5) (x := (Z4E Y5)) (Zce Y5 hp0 (((Y5.length : Int) - 0).toNat + 1) 0 (List.replicate (Y5.length : Int).toNat (⟨0, 0, 0, 0⟩ : GSpring)) (show 0 ≤ 0 from (by omega)) (show (List.replicate (Y5.length : Int).toNat (⟨0, 0, 0, 0⟩ : GSpring)).length = Y5.length from (by simp)) (Nat.lt_succ_self _)) rfl) (by simp [Z8Q, GSpring.cells])) <| sK [0] sN) rfl (by kernel_rfl) (by kernel_rfl) rfl ?_ ?_
 · rfl
 · simp [Z5U]
@[simp] theorem Zdz (a : List GSpring) : Z5U a = a := by
  unfold Z5U Z4E
  rw [copy_all (f := id) (a := a) (lo := Z2D a) (fun k i r => rfl)]
  exact List.map_id a
theorem Ze9 (Y5 : (List GSpring)) (hp0 : Y5.length ≤ 1073741824) : Fn prog 53 [.sl (Y5.map GSpring.cells)] (.own 0) [.vec 133 4 (Y5.map GSpring.cells) false] := by
 simpa only [Zdz] using Ze8  Y5 hp0
def Z2q (Y5 : (List Nat)) : Nat → Int → (List Nat) → (List Nat)
  | 0, _, _ => default
  | k + 1, Y7, Y2 => (cond (decide (Y7 < (Y5.length : Int)))
    (Z2q Y5 k (Y7 + 1) (Y2.set Y7.toNat (Y5.getD Y7.toNat default)))
    Y2)
def Z5V (Y5 : (List Nat)) (r : (List Nat)) : Ex × St := ((.exit 0), ⟨.sl (Y5.map (cF .f32)) :: .any :: .nils :: .own 0 :: .any :: .sl (Y5.map (cF .f32)) :: .i .i64 (Y5.length : Int) :: .own 0 :: an 14 [], [.vec 27 1 (r.map (cF .f32)) false]⟩)
def Z82 (Y5 : (List Nat)) (Y7 : Int) (Y2 : (List Nat)) : St := ⟨.sl (Y5.map (cF .f32)) :: .any :: .nils :: .own 0 :: .i .i64 Y7 :: .sl (Y5.map (cF .f32)) :: .i .i64 (Y5.length : Int) :: .own 0 :: an 14 [], [.vec 27 1 (Y2.map (cF .f32)) false]⟩
theorem ZbB (Y5 : (List Nat)) (hp0 : Y5.length ≤ 1073741824) : ∀ (k : Nat) (Y7 : Int) (Y2 : (List Nat)) (Z7e : 0 ≤ Y7) (Z7f : Y2.length = Y5.length) (hk : ((Y5.length : Int) - Y7).toNat < k), Lp prog 0 (sub (bodyOf f54) [1, 1, 0, 1, 0, 0]) (Z82 Y5 Y7 Y2) (Z5V Y5 (Z2q Y5 k Y7 Y2)).1 (Z5V Y5 (Z2q Y5 k Y7 Y2)).2 := by
 intro k
 induction k with
 | zero => intro Y7 Y2 Z7e Z7f hk; exact absurd hk (Nat.not_lt_zero _)
 | succ k ih =>
  intro Y7 Y2 Z7e Z7f hk
  have p {a C} (s : Scr a C) := sZ (cF .f32) Y5 <| s
  cases Yg : (decide (Y7 < (Y5.length : Int))) with
  | true =>
   have Yt := of_decide_eq_true Yg
   have YA : (0 : Int) ≤ Y7 := by clear p; exact (by assumption)
   have YE : Y7 < (Y5.length : Int) := by clear p; exact (by assumption)
   have YG : Y7 < (Y2.length : Int) := by clear p; exact (by omega)
   have YH : Y7.toNat < Y2.length := by clear p; exact (by omega)
   have YL : (-9223372036854775808 : Int) ≤ (Y7 + 1) := by clear p; exact (by omega)
   have YQ : (Y7 + 1) ≤ (9223372036854775807 : Int) := by clear p; exact (by omega)
   have e : Z2q Y5 (k + 1) Y7 Y2 = (Z2q Y5 k (Y7 + 1) (Y2.set Y7.toNat (Y5.getD Y7.toNat default))) := by simp only [Z2q, Yg, cond_true]
   rw [e]
   exact nextS E0Ok Z4 [] (mR false [0, 1, 1, 6, 14]) [0] (⟨.sl (Y5.map (cF .f32)) :: .any :: .nils :: .own 0 :: .i .i64 (Y7 + 1) :: .sl (Y5.map (cF .f32)) :: .i .i64 (Y5.length : Int) :: .own 0 :: an 14 [], [.vec 27 1 ((Y2.map (cF .f32)).set Y7.toNat [.f .f32 (Y5.getD Y7.toNat default)]) false]⟩) (p (sB Yg <| sG (cF .f32) Y5 Y7 YA YE <| sX (cF .f32) Y2 Y7 YA YG <| sC (maplt (c := (cF .f32)) (l := Y2) YH) <| sI (Y7 + 1) YL YQ <| sN)) (by kernel_rfl) (show _ = ⟨.sl (Y5.map (cF .f32)) :: .any :: .nils :: .own 0 :: .i .i64 (Y7 + 1) :: .sl (Y5.map (cF .f32)) :: .i .i64 (Y5.length : Int) :: .own 0 :: an 14 [], [.vec 27 1 ((Y2.set Y7.toNat (Y5.getD Y7.toNat default)).map (cF .f32)) false]⟩ from (by simp [List.map_set, cF])) (ih (Y7 + 1) (Y2.set Y7.toNat (Y5.getD Y7.toNat default)) (show 0 ≤ (Y7 + 1) from (by omega)) (show (Y2.set Y7.toNat (Y5.getD Y7.toNat default)).length = Y5.length from (by simp_all <;> omega)) (by omega))
  | false =>
   have Yt := of_decide_eq_false Yg
   have e : Z2q Y5 (k + 1) Y7 Y2 = Y2 := by simp only [Z2q, Yg, cond_false]
   rw [e]
   exact outR (e := (.exit 0)) E0Ok Z4 [] (mR false [0, 1, 1, 2, 1, 3, 14]) [0] (p (sB Yg <| sN)) (by kernel_rfl) (by intro h; cases h)
def Z4x (Y5 : (List Nat)) : (List Nat) := (Z2q Y5 (((Y5.length : Int) - 0).toNat + 1) 0 (List.replicate (Y5.length : Int).toNat 0))
def Z5y (Y5 : (List Nat)) : (List Nat) := (Z4x Y5)
theorem ZdA (Y5 : (List Nat)) (hp0 : Y5.length ≤ 1073741824)  : Fn prog 54 [.sl (Y5.map (cF .f32))] (.own 0) [.vec 27 1 ((Z5y Y5).map (cF .f32)) false] := by
 have y0 : (0 : Int) ≤ (Y5.length : Int) := (by omega)
 have y1 : ((Y5.length : Int) : Int) ≤ 2147483648 := (by omega)
 refine fnS E0Ok Z4 (c := bodyOf f54) [] (.own 0) [.vec 27 1 ((Z4x Y5).map (cF .f32)) false] func54 (sZ (cF .f32) Y5 <| sC (show (Y5.length : Int) = (Y5.length : Int) from rfl) <| sC y0 <| sC y1 <| sL (mR false [0, 1, 1, 6, 14]) 1 (lp_cast (st2 := ⟨.sl (Y5.map (cF .f32)) :: .any :: .nils :: .own 0 :: .i .i64 0 :: .sl (Y5.map (cF .f32)) :: .i .i64 (Y5.length : Int) :: .own 0 :: an 14 [], [.vec 27 1 (List.replicate (Int.toNat (Y5.length : Int)) [.f .f32 0]) false]⟩) (lp_val (Z5V Y5) (x := (Z4x Y5)) (ZbB Y5 hp0 (((Y5.length : Int) - 0).toNat + 1) 0 (List.replicate (Y5.length : Int).toNat 0) (show 0 ≤ 0 from (by omega)) (show (List.replicate (Y5.length : Int).toNat 0).length = Y5.length from (by simp)) (Nat.lt_succ_self _)) rfl) (by simp [Z82, cF])) <| sK [0] sN) rfl (by kernel_rfl) (by kernel_rfl) rfl ?_ ?_
 · rfl
 · simp [Z5y]
@[simp] theorem ZcH (a : List Nat) : Z5y a = a := by
  unfold Z5y Z4x
  rw [copy_all (f := id) (a := a) (lo := Z2q a) (fun k i r => rfl)]
  exact List.map_id a
theorem ZdB (Y5 : (List Nat)) (hp0 : Y5.length ≤ 1073741824) : Fn prog 54 [.sl (Y5.map (cF .f32))] (.own 0) [.vec 27 1 (Y5.map (cF .f32)) false] := by
 simpa only [ZcH] using ZdA  Y5 hp0
def Z3h (Y5 : GBody) : GBody := Y5
theorem Zfx (Y5 : GBody) (hp0 : Y5.Mesh.Places.length ≤ 1073741824) (hp1 : Y5.Mesh.Triangles.length ≤ 1073741824) (hp2 : ∀ t ∈ Y5.Mesh.Triangles, t.length ≤ 1073741824) (hp3 : Y5.Springs.length ≤ 1073741824) (hp4 : Y5.Weights.length ≤ 1073741824)  : Fn prog 13 [.agg [.sl (Y5.Mesh.Places.map GVector.cells), .sl (Y5.Mesh.Triangles.map (cL (cI .i64))), .sl (Y5.Springs.map GSpring.cells), .f .f32 Y5.Film, .f .f32 Y5.Bend, .sl (Y5.Weights.map (cF .f32)), .f .f32 Y5.Fall.X, .f .f32 Y5.Fall.Y, .f .f32 Y5.Fall.Z]] (.agg [.own 0, .own 1, .own 2, .f .f32 ((Z3h Y5).Film), .f .f32 ((Z3h Y5).Bend), .own 3, .f .f32 ((Z3h Y5).Fall.X), .f .f32 ((Z3h Y5).Fall.Y), .f .f32 ((Z3h Y5).Fall.Z)]) [.vec 40 3 (((Z3h Y5).Mesh.Places).map GVector.cells) false, .nest 49 (((Z3h Y5).Mesh.Triangles).map fun l => l.map (cI .i64)) false, .vec 133 4 (((Z3h Y5).Springs).map GSpring.cells) false, .vec 27 1 (((Z3h Y5).Weights).map (cF .f32)) false] := by
 refine fnS E0Ok Z4 (c := bodyOf f13) [] (.agg [.own 0, .own 1, .own 2, .f .f32 Y5.Film, .f .f32 Y5.Bend, .own 3, .f .f32 Y5.Fall.X, .f .f32 Y5.Fall.Y, .f .f32 Y5.Fall.Z]) [.vec 40 3 (Y5.Mesh.Places.map GVector.cells) false, .nest 49 (Y5.Mesh.Triangles.map fun l => l.map (cI .i64)) false, .vec 133 4 (Y5.Springs.map GSpring.cells) false, .vec 27 1 (Y5.Weights.map (cF .f32)) false] func13 (sF (Zfw Y5.Mesh hp0 hp1 hp2) <| sF (Ze9 Y5.Springs hp3) <| sF (ZdB Y5.Weights hp4) <| sF (ZaL Y5.Fall) <| sK [3, 4, 5, 6] sN) rfl (by kernel_rfl) (by kernel_rfl) rfl ?_ ?_
 · rfl
 · simp [Z3h]
@[simp] theorem Zf1 (a : GBody) : Z3h a = a := by
  simp [Z3h]
theorem Z7m (Y5 : GBody) (hp0 : Y5.Mesh.Places.length ≤ 1073741824) (hp1 : Y5.Mesh.Triangles.length ≤ 1073741824) (hp2 : ∀ t ∈ Y5.Mesh.Triangles, t.length ≤ 1073741824) (hp3 : Y5.Springs.length ≤ 1073741824) (hp4 : Y5.Weights.length ≤ 1073741824) : Fn prog 13 [.agg [.sl (Y5.Mesh.Places.map GVector.cells), .sl (Y5.Mesh.Triangles.map (cL (cI .i64))), .sl (Y5.Springs.map GSpring.cells), .f .f32 Y5.Film, .f .f32 Y5.Bend, .sl (Y5.Weights.map (cF .f32)), .f .f32 Y5.Fall.X, .f .f32 Y5.Fall.Y, .f .f32 Y5.Fall.Z]] (.agg [.own 0, .own 1, .own 2, .f .f32 Y5.Film, .f .f32 Y5.Bend, .own 3, .f .f32 Y5.Fall.X, .f .f32 Y5.Fall.Y, .f .f32 Y5.Fall.Z]) [.vec 40 3 (Y5.Mesh.Places.map GVector.cells) false, .nest 49 (Y5.Mesh.Triangles.map fun l => l.map (cI .i64)) false, .vec 133 4 (Y5.Springs.map GSpring.cells) false, .vec 27 1 (Y5.Weights.map (cF .f32)) false] := by
 simpa only [Zf1] using Zfx  Y5 hp0 hp1 hp2 hp3 hp4
def ZK (n_0 : Int) (YF : Int) (Yw : Int) : Bool := (cond (decide (n_0 ≥ YF))
  (decide (n_0 ≤ Yw))
  false)
theorem Z5C (n_0 : Int) (YF : Int) (Yw : Int)   : Fn prog 81 [.i .i64 n_0, .i .i64 YF, .i .i64 Yw] (.b (ZK n_0 YF Yw)) [] := by
 cases h0 : (decide (n_0 ≥ YF)) with
 | true =>
  have gh0 := of_decide_eq_true h0
  refine fnS E0Ok Z4 (c := bodyOf f81) [] (.b (decide (n_0 ≤ Yw))) [] func81 (sB h0 <| sB h0 <| sB h0 <| sB h0 <| sK [] sN) rfl (by kernel_rfl) (by kernel_rfl) rfl ?_ ?_
  · simp only [ZK, h0, cond_true]
  · rfl
 | false =>
  have gh0 := of_decide_eq_false h0
  refine fnS E0Ok Z4 (c := bodyOf f81) [] (.b false) [] func81 (sB h0 <| sB h0 <| sB h0 <| sB h0 <| sK [] sN) rfl (by kernel_rfl) (by kernel_rfl) rfl ?_ ?_
  · simp only [ZK, h0, cond_false]
  · rfl
theorem ZgG {x : Int} {n : Nat} (hn : n ≤ 9223372036854775807) (h : ZK x 0 (IntKind.wrap .i64 ((n : Int) - 1)) = true) : 0 ≤ x ∧ x < (n : Int) := by
  unfold ZK at h
  rw [wrap_id (n := (n : Int) - 1) (by omega) (by omega)] at h
  by_cases h1 : x ≥ 0 <;> simp [h1] at h
  omega
def ZL (YC : (List Int)) (YU : Int) : Bool := (cond ((YC.length : Int) != 3)
  false
  (cond ((YC.getD 0 default) == (YC.getD 1 default))
    false
    (cond ((YC.getD 1 default) == (YC.getD 2 default))
      false
      (cond ((YC.getD 0 default) == (YC.getD 2 default))
        false
        (cond (ZK (YC.getD 0 default) 0 (IntKind.wrap .i64 (YU - 1)))
          (cond (ZK (YC.getD 1 default) 0 (IntKind.wrap .i64 (YU - 1)))
            (ZK (YC.getD 2 default) 0 (IntKind.wrap .i64 (YU - 1)))
            false)
          false)))))
theorem ZcI (YC : (List Int)) (YU : Int) (hp0 : YC.length ≤ 1073741824)  : Fn prog 135 [.sl (YC.map (cI .i64)), .i .i64 YU] (.b (ZL YC YU)) [] := by
 have p {a C} (s : Scr a C) := sK [28, 28] <| sZ (cI .i64) YC <| s
 cases h0 : ((YC.length : Int) != 3) with
 | true =>
  have gh0 := bne_iff_ne.1 h0
  refine fnS E0Ok Z4 (c := bodyOf f135) [] (.b false) [] func135 (p (sB h0 <| sB h0 <| sB h0 <| sB h0 <| sB h0 <| sB h0 <| sB h0 <| sB h0 <| sB (show true = true from rfl) <| sB (show true = true from rfl) <| sB (show true = true from rfl) <| sB (show true = true from rfl) <| sB (show true = true from rfl) <| sB (show true = true from rfl) <| sB (show true = true from rfl) <| sB (show true = true from rfl) <| sB (show true = true from rfl) <| sB (show true = true from rfl) <| sB (show true = true from rfl) <| sB (show true = true from rfl) <| sB (show true = true from rfl) <| sB (show true = true from rfl) <| sB (show true = true from rfl) <| sB (show true = true from rfl) <| sB (show true = true from rfl) <| sK [] sN)) rfl (by kernel_rfl) (by kernel_rfl) rfl ?_ ?_
  · simp only [ZL, h0, cond_true]
  · rfl
 | false =>
  have gh0 := bne_eq_false_iff_eq.1 h0
  have y0 : (0 : Int) ≤ 0 := by clear p; exact (by omega)
  have y1 : 0 < (YC.length : Int) := by clear p; exact (by omega)
  have y2 : (0 : Int) ≤ 1 := by clear p; exact (by omega)
  have y3 : 1 < (YC.length : Int) := by clear p; exact (by omega)
  have q {a C} (s : Scr a C) := p (sB h0 <| sB h0 <| sG (cI .i64) YC 0 y0 y1 <| sB h0 <| sB h0 <| sB h0 <| sG (cI .i64) YC 1 y2 y3 <| sB h0 <| sB h0 <| sB h0 <| s)
  clear p
  cases h1 : ((YC.getD 0 default) == (YC.getD 1 default)) with
  | true =>
   have gh1 := eq_of_beq h1
   refine fnS E0Ok Z4 (c := bodyOf f135) [] (.b false) [] func135 (q (sB h1 <| sB h1 <| sB h1 <| sB h1 <| sB h1 <| sB h1 <| sB h1 <| sB h1 <| sB (show true = true from rfl) <| sB (show true = true from rfl) <| sB (show true = true from rfl) <| sB (show true = true from rfl) <| sB (show true = true from rfl) <| sB (show true = true from rfl) <| sB (show true = true from rfl) <| sB (show true = true from rfl) <| sB (show true = true from rfl) <| sK [] sN)) rfl (by kernel_rfl) (by kernel_rfl) rfl ?_ ?_
   · simp only [ZL, h0, h1, cond_true, cond_false]
   · rfl
  | false =>
   have gh1 := ne_of_beq_false h1
   have y4 : (0 : Int) ≤ 2 := by clear q; exact (by omega)
   have y5 : 2 < (YC.length : Int) := by clear q; exact (by omega)
   have p {a C} (s : Scr a C) := q (sB h1 <| sB h1 <| sG (cI .i64) YC 1 y2 y3 <| sB h1 <| sB h1 <| sB h1 <| sG (cI .i64) YC 2 y4 y5 <| sB h1 <| sB h1 <| sB h1 <| s)
   clear q
   cases h2 : ((YC.getD 1 default) == (YC.getD 2 default)) with
   | true =>
    have gh2 := eq_of_beq h2
    refine fnS E0Ok Z4 (c := bodyOf f135) [] (.b false) [] func135 (p (sB h2 <| sB h2 <| sB h2 <| sB h2 <| sB h2 <| sB h2 <| sB h2 <| sB h2 <| sB (show true = true from rfl) <| sK [] sN)) rfl (by kernel_rfl) (by kernel_rfl) rfl ?_ ?_
    · simp only [ZL, h0, h1, h2, cond_true, cond_false]
    · rfl
   | false =>
    have gh2 := ne_of_beq_false h2
    have q {a C} (s : Scr a C) := p (sB h2 <| sB h2 <| sG (cI .i64) YC 0 y0 y1 <| sB h2 <| sB h2 <| sB h2 <| sG (cI .i64) YC 2 y4 y5 <| sB h2 <| sB h2 <| sB h2 <| s)
    clear p
    cases h3 : ((YC.getD 0 default) == (YC.getD 2 default)) with
    | true =>
     have gh3 := eq_of_beq h3
     refine fnS E0Ok Z4 (c := bodyOf f135) [] (.b false) [] func135 (q (sB h3 <| sK [] sN)) rfl (by kernel_rfl) (by kernel_rfl) rfl ?_ ?_
     · simp only [ZL, h0, h1, h2, h3, cond_true, cond_false]
     · rfl
    | false =>
     have gh3 := ne_of_beq_false h3
     have p {a C} (s : Scr a C) := q (sB h3 <| sG (cI .i64) YC 0 y0 y1 <| sW .i64 (YU - 1) <| sF (Z5C (YC.getD 0 default) 0 (IntKind.wrap .i64 (YU - 1))) <| s)
     clear q
     cases h4 : (ZK (YC.getD 0 default) 0 (IntKind.wrap .i64 (YU - 1))) with
     | true =>
      have q {a C} (s : Scr a C) := p (sB h4 <| sB h4 <| sG (cI .i64) YC 1 y2 y3 <| sB h4 <| sB h4 <| sB h4 <| sW .i64 (YU - 1) <| sB h4 <| sF (Z5C (YC.getD 1 default) 0 (IntKind.wrap .i64 (YU - 1))) <| sB h4 <| s)
      clear p
      cases h5 : (ZK (YC.getD 1 default) 0 (IntKind.wrap .i64 (YU - 1))) with
      | true =>
       refine fnS E0Ok Z4 (c := bodyOf f135) [] (.b (ZK (YC.getD 2 default) 0 (IntKind.wrap .i64 (YU - 1)))) [] func135 (q (sB h5 <| sB h5 <| sG (cI .i64) YC 2 y4 y5 <| sB h5 <| sB h5 <| sB h5 <| sW .i64 (YU - 1) <| sB h5 <| sF (Z5C (YC.getD 2 default) 0 (IntKind.wrap .i64 (YU - 1))) <| sB h5 <| sK [] sN)) rfl (by kernel_rfl) (by kernel_rfl) rfl ?_ ?_
       · simp only [ZL, h0, h1, h2, h3, h4, h5, cond_true, cond_false]
       · rfl
      | false =>
       refine fnS E0Ok Z4 (c := bodyOf f135) [] (.b false) [] func135 (q (sB h5 <| sB h5 <| sB h5 <| sB h5 <| sB h5 <| sB h5 <| sB h5 <| sK [] sN)) rfl (by kernel_rfl) (by kernel_rfl) rfl ?_ ?_
       · simp only [ZL, h0, h1, h2, h3, h4, h5, cond_true, cond_false]
       · rfl
     | false =>
      refine fnS E0Ok Z4 (c := bodyOf f135) [] (.b false) [] func135 (p (sB h4 <| sB h4 <| sB h4 <| sB h4 <| sB h4 <| sB h4 <| sB h4 <| sB (show false = false from rfl) <| sB (show false = false from rfl) <| sB (show false = false from rfl) <| sB (show false = false from rfl) <| sB (show false = false from rfl) <| sB (show false = false from rfl) <| sB (show false = false from rfl) <| sK [] sN)) rfl (by kernel_rfl) (by kernel_rfl) rfl ?_ ?_
      · simp only [ZL, h0, h1, h2, h3, h4, cond_false]
      · rfl
def Z2P (Y4 : GMesh) : Nat → Int → (Unit) ⊕ (Unit)
  | 0, _ => .inl default
  | k + 1, Y7 => (cond (decide (Y7 < (Y4.Triangles.length : Int)))
    (cond (ZL (Y4.Triangles.getD Y7.toNat default) (Y4.Places.length : Int))
      (Z2P Y4 k (Y7 + 1))
      (.inl ()))
    (.inr ()))
def Z6w (Y4 : GMesh) : (Unit) ⊕ (Unit) → Ex × St
  | .inl r => (.ret, ⟨.any :: .any :: .b false :: an 38 [], []⟩)
  | .inr r => ((.exit 0), ⟨.ref (GMesh.cells Y4) 0 :: .any :: .any :: .any :: .ref (GMesh.cells Y4) 0 :: .ref (GMesh.cells Y4) 0 :: .ref (GMesh.cells Y4) 0 :: .sl (Y4.Places.map GVector.cells) :: .i .i64 (Y4.Places.length : Int) :: .b (decide ((Y4.Places.length : Int) > 64)) :: .b (decide ((Y4.Places.length : Int) > 64)) :: .ref (GMesh.cells Y4) 0 :: .ref (GMesh.cells Y4) 0 :: .ref (GMesh.cells Y4) 1 :: .sl (Y4.Triangles.map (cL (cI .i64))) :: .i .i64 (Y4.Triangles.length : Int) :: .b (decide ((Y4.Triangles.length : Int) > 128)) :: .b (decide ((Y4.Triangles.length : Int) > 128)) :: an 23 [], []⟩)
def ZeD (Y4 : GMesh) (Y7 : Int) : St := ⟨.ref (GMesh.cells Y4) 0 :: .any :: .any :: .i .i64 Y7 :: .ref (GMesh.cells Y4) 0 :: .ref (GMesh.cells Y4) 0 :: .ref (GMesh.cells Y4) 0 :: .sl (Y4.Places.map GVector.cells) :: .i .i64 (Y4.Places.length : Int) :: .b (decide ((Y4.Places.length : Int) > 64)) :: .b (decide ((Y4.Places.length : Int) > 64)) :: .ref (GMesh.cells Y4) 0 :: .ref (GMesh.cells Y4) 0 :: .ref (GMesh.cells Y4) 1 :: .sl (Y4.Triangles.map (cL (cI .i64))) :: .i .i64 (Y4.Triangles.length : Int) :: .b (decide ((Y4.Triangles.length : Int) > 128)) :: .b (decide ((Y4.Triangles.length : Int) > 128)) :: an 23 [], []⟩
theorem ZaM (Y4 : GMesh) (hp0 : Y4.Places.length ≤ 1073741824) (hp1 : Y4.Triangles.length ≤ 1073741824) (hp2 : ∀ t ∈ Y4.Triangles, t.length ≤ 1073741824) (Zh9 : (decide ((Y4.Places.length : Int) > 64)) = false) (Zha : (decide ((Y4.Triangles.length : Int) > 128)) = false) : ∀ (k : Nat) (Y7 : Int) (Z9V : 0 ≤ Y7) (hk : ((Y4.Triangles.length : Int) - Y7).toNat < k), Lp prog 0 (sub (bodyOf f94) [1, 1, 0, 1, 0, 0]) (ZeD Y4 Y7) (Z6w Y4 (Z2P Y4 k Y7)).1 (Z6w Y4 (Z2P Y4 k Y7)).2 := by
 intro k
 induction k with
 | zero => intro Y7 Z9V hk; exact absurd hk (Nat.not_lt_zero _)
 | succ k ih =>
  intro Y7 Z9V hk
  have p {a C} (s : Scr a C) := sZ (cL (cI .i64)) Y4.Triangles <| s
  cases Yg : (decide (Y7 < (Y4.Triangles.length : Int))) with
  | true =>
   have Yt := of_decide_eq_true Yg
   have YA : (0 : Int) ≤ Y7 := by clear p; exact (by assumption)
   have YE : Y7 < (Y4.Triangles.length : Int) := by clear p; exact (by assumption)
   have YG : (Y4.Triangles.getD Y7.toNat default).length ≤ 1073741824 := by clear p; exact (by simp_all <;> omega)
   have q {a C} (s : Scr a C) := p (sB Yg <| sK [12, 12] <| sG (cL (cI .i64)) Y4.Triangles Y7 YA YE <| sZ GVector.cells Y4.Places <| sF (ZcI (Y4.Triangles.getD Y7.toNat default) (Y4.Places.length : Int) YG) <| s)
   clear p
   cases Yq : (ZL (Y4.Triangles.getD Y7.toNat default) (Y4.Places.length : Int)) with
   | true =>
    have YH : (-9223372036854775808 : Int) ≤ (Y7 + 1) := by clear q; exact (by omega)
    have YL : (Y7 + 1) ≤ (9223372036854775807 : Int) := by clear q; exact (by omega)
    have e : Z2P Y4 (k + 1) Y7 = (Z2P Y4 k (Y7 + 1)) := by simp only [Z2P, Yg, Yq, cond_true]
    rw [e]
    exact nextR E0Ok Z4 [] (mR false [0, 1, 2, 15, 23]) [] (ih (Y7 + 1) (show 0 ≤ (Y7 + 1) from (by omega)) (by omega)) (q (sB' Yq <| sI (Y7 + 1) YH YL <| sN)) (by kernel_rfl)
   | false =>
    have e : Z2P Y4 (k + 1) Y7 = (.inl ()) := by simp only [Z2P, Yg, Yq, cond_true, cond_false]
    rw [e]
    exact outR (e := .ret) E0Ok Z4 [] (mR false [2, 1, 38]) [] (q (sB' Yq <| sN)) (by kernel_rfl) (by intro h; cases h)
  | false =>
   have Yt := of_decide_eq_false Yg
   have e : Z2P Y4 (k + 1) Y7 = (.inr ()) := by simp only [Z2P, Yg, cond_false]
   rw [e]
   exact outR (e := (.exit 0)) E0Ok Z4 [] (mR false [0, 1, 3, 14, 23]) [] (p (sB Yg <| sN)) (by kernel_rfl) (by intro h; cases h)
def Z4P (Y4 : GMesh) : (Unit) ⊕ (Unit) := (Z2P Y4 (((Y4.Triangles.length : Int) - 0).toNat + 1) 0)
def Z1m (Y4 : GMesh) : Bool := (cond (decide ((Y4.Places.length : Int) > 64))
  false
  (cond (decide ((Y4.Triangles.length : Int) > 128))
    false
    (match (Z4P Y4) with
      | .inl r3 => false
      | .inr r3 => true)))
theorem ZfX (Y4 : GMesh) (hp0 : Y4.Places.length ≤ 1073741824) (hp1 : Y4.Triangles.length ≤ 1073741824) (hp2 : ∀ t ∈ Y4.Triangles, t.length ≤ 1073741824)  : Fn prog 94 [.ref (GMesh.cells Y4) 0] (.b (Z1m Y4)) [] := by
 have p {a C} (s : Scr a C) := sZ GVector.cells Y4.Places <| s
 cases h0 : (decide ((Y4.Places.length : Int) > 64)) with
 | true =>
  have gh0 := of_decide_eq_true h0
  refine fnS E0Ok Z4 (c := bodyOf f94) [] (.b false) [] func94 (p (sB h0 <| sB h0 <| sB h0 <| sB h0 <| sB h0 <| sB h0 <| sB h0 <| sB (show true = true from rfl) <| sK [] sN)) rfl (by kernel_rfl) (by kernel_rfl) rfl ?_ ?_
  · simp only [Z1m, h0, cond_true]
  · rfl
 | false =>
  have gh0 := of_decide_eq_false h0
  have q {a C} (s : Scr a C) := p (sB h0 <| sB h0 <| sB h0 <| sB h0 <| sB h0 <| sZ (cL (cI .i64)) Y4.Triangles <| sB h0 <| sB h0 <| s)
  clear p
  cases h1 : (decide ((Y4.Triangles.length : Int) > 128)) with
  | true =>
   have gh1 := of_decide_eq_true h1
   refine fnS E0Ok Z4 (c := bodyOf f94) [] (.b false) [] func94 (q (sB h1 <| sK [] sN)) rfl (by kernel_rfl) (by kernel_rfl) rfl ?_ ?_
   · simp only [Z1m, h0, h1, cond_true, cond_false]
   · rfl
  | false =>
   have gh1 := of_decide_eq_false h1
   have p {a C} (s : Scr a C) := q (sB h1 <| s)
   clear q
   cases h2 : (Z4P Y4) with
   | inl r3 =>
    refine fnS E0Ok Z4 (c := bodyOf f94) [] (.b false) [] func94 (p (sL (mR false [0, 1, 2, 15, 23]) 0 (lp_val (Z6w Y4) (x := (Z4P Y4)) (ZaM Y4 hp0 hp1 hp2 h0 h1 (((Y4.Triangles.length : Int) - 0).toNat + 1) 0 (show 0 ≤ 0 from (by omega)) (Nat.lt_succ_self _)) h2) <| sK [] sN)) rfl (by kernel_rfl) (by kernel_rfl) rfl ?_ ?_
    · simp only [Z1m, h0, h1, h2, cond_false]
    · rfl
   | inr r3 =>
    refine fnS E0Ok Z4 (c := bodyOf f94) [] (.b true) [] func94 (p (sL (mR false [0, 1, 2, 15, 23]) 0 (lp_val (Z6w Y4) (x := (Z4P Y4)) (ZaM Y4 hp0 hp1 hp2 h0 h1 (((Y4.Triangles.length : Int) - 0).toNat + 1) 0 (show 0 ≤ 0 from (by omega)) (Nat.lt_succ_self _)) h2) <| sK [] sN)) rfl (by kernel_rfl) (by kernel_rfl) rfl ?_ ?_
    · simp only [Z1m, h0, h1, h2, cond_false]
    · rfl
theorem Z9f (m : GMesh) : Z1m m = cond (decide ((m.Places.length : Int) > 64)) false (cond (decide ((m.Triangles.length : Int) > 128)) false (m.Triangles.all fun t => ZL t (m.Places.length : Int))) := by
  unfold Z1m Z4P
  rw [all_from (a := m.Triangles) (p := fun t => ZL t (m.Places.length : Int)) (lo := Z2P m) (x := ()) (y := ()) (fun k i => rfl)]
  cases (m.Triangles.all fun t => ZL t (m.Places.length : Int)) <;> rfl
theorem Zhq {t : List Int} {n : Int} (h0 : 0 ≤ n) (h1 : n ≤ 64) (h : ZL t n = true) : t.length = 3 ∧ ∀ x ∈ t, 0 ≤ x ∧ x < n := by
  unfold ZL at h
  rw [wrap_sub (by omega) (by omega)] at h
  cases hl : ((t.length : Int) != 3) with
  | true => rw [hl] at h; cases h
  | false =>
    rw [hl, cond_false] at h
    have hl3 : t.length = 3 := by simp at hl; omega
    match t, hl3 with
    | [a, b, c], _ =>
      refine ⟨rfl, ?_⟩
      simp only [List.getD_cons_zero, List.getD_cons_succ, ZK] at h
      cases e1 : (a == b) <;> rw [e1] at h <;> (try (cases h; done))
      cases e2 : (b == c) <;> rw [e2] at h <;> (try (cases h; done))
      cases e3 : (a == c) <;> rw [e3] at h <;> (try (cases h; done))
      simp only [cond_false] at h
      cases f1 : decide (a ≥ 0) <;> rw [f1] at h <;> (try (cases h; done))
      cases f2 : decide (a ≤ n - 1) <;> rw [f2] at h <;> (try (cases h; done))
      cases f3 : decide (b ≥ 0) <;> rw [f3] at h <;> (try (cases h; done))
      cases f4 : decide (b ≤ n - 1) <;> rw [f4] at h <;> (try (cases h; done))
      cases f5 : decide (c ≥ 0) <;> rw [f5] at h <;> (try (cases h; done))
      simp only [cond_true, decide_eq_true_eq] at h f1 f2 f3 f4 f5
      intro x hx
      simp only [List.mem_cons, List.not_mem_nil, or_false] at hx
      rcases hx with rfl | rfl | rfl <;> omega
theorem ZgR (m : GMesh) (h : Z1m m = true) : OkTris m.Places.length m.Triangles := by
  rw [Z9f] at h
  cases h1 : decide ((m.Places.length : Int) > 64) <;> rw [h1] at h <;> (try (cases h; done))
  cases h2 : decide ((m.Triangles.length : Int) > 128) <;> rw [h2] at h <;> (try (cases h; done))
  simp only [cond_false, List.all_eq_true, decide_eq_false_iff_not] at h h1
  intro t ht
  exact Zhq (by omega) (by omega) (h t ht)
theorem Zhr (m : GMesh) (h : Z1m m = true) : OkE m.Places.length m.Triangles := by
  have h0 := ZgR m h
  rw [Z9f] at h
  cases h1 : decide ((m.Places.length : Int) > 64) <;> rw [h1] at h <;> (try (cases h; done))
  cases h2 : decide ((m.Triangles.length : Int) > 128) <;> rw [h2] at h <;> (try (cases h; done))
  simp only [cond_false, List.all_eq_true, decide_eq_false_iff_not] at h h1 h2
  refine ⟨by omega, by omega, fun t ht => ?_⟩
  have h3 := h t ht
  obtain ⟨hl, hx⟩ := h0 t ht
  match t, hl with
  | [a, b, c], _ =>
    unfold ZL at h3
    simp only [List.getD_cons_zero, List.getD_cons_succ] at h3
    cases e0 : ((([a, b, c] : List Int).length : Int) != 3) <;> rw [e0] at h3 <;> (try (cases h3; done))
    cases e1 : (a == b) <;> rw [e1] at h3 <;> (try (cases h3; done))
    cases e2 : (b == c) <;> rw [e2] at h3 <;> (try (cases h3; done))
    cases e3 : (a == c) <;> rw [e3] at h3 <;> (try (cases h3; done))
    exact ⟨a, b, c, rfl, hx a (by simp), hx b (by simp), hx c (by simp), beq_eq_false_iff_ne.1 e1, beq_eq_false_iff_ne.1 e2, beq_eq_false_iff_ne.1 e3⟩
def Z1D (YI : GSpring) (YU : Int) : Bool := (cond (ZK YI.A 0 (IntKind.wrap .i64 (YU - 1)))
  (cond (ZK YI.B 0 (IntKind.wrap .i64 (YU - 1)))
    (cond (YI.A != YI.B)
      (fcmp .geq .f32 YI.Long 0)
      false)
    false)
  false)
theorem Zea (YI : GSpring) (YU : Int)   : Fn prog 95 [.ref (GSpring.cells YI) 0, .i .i64 YU] (.b (Z1D YI YU)) [] := by
 have p {a C} (s : Scr a C) := sK [25, 25] <| sW .i64 (YU - 1) <| sF (Z5C YI.A 0 (IntKind.wrap .i64 (YU - 1))) <| s
 cases h0 : (ZK YI.A 0 (IntKind.wrap .i64 (YU - 1))) with
 | true =>
  have q {a C} (s : Scr a C) := p (sB h0 <| sB h0 <| sB h0 <| sB h0 <| sB h0 <| sB h0 <| sW .i64 (YU - 1) <| sB h0 <| sF (Z5C YI.B 0 (IntKind.wrap .i64 (YU - 1))) <| sB h0 <| s)
  clear p
  cases h1 : (ZK YI.B 0 (IntKind.wrap .i64 (YU - 1))) with
  | true =>
   have p {a C} (s : Scr a C) := q (sB h1 <| sB h1 <| sB h1 <| sB h1 <| sB h1 <| sB h1 <| sB h1 <| sB h1 <| sB h1 <| sB h1 <| s)
   clear q
   cases h2 : (YI.A != YI.B) with
   | true =>
    have gh2 := bne_iff_ne.1 h2
    refine fnS E0Ok Z4 (c := bodyOf f95) [] (.b (fcmp .geq .f32 YI.Long 0)) [] func95 (p (sB h2 <| sB h2 <| sB h2 <| sB h2 <| sB h2 <| sB h2 <| sK [] sN)) rfl (by kernel_rfl) (by kernel_rfl) rfl ?_ ?_
    · simp only [Z1D, h0, h1, h2, cond_true]
    · rfl
   | false =>
    have gh2 := bne_eq_false_iff_eq.1 h2
    refine fnS E0Ok Z4 (c := bodyOf f95) [] (.b false) [] func95 (p (sB h2 <| sB h2 <| sB h2 <| sB h2 <| sB h2 <| sB h2 <| sK [] sN)) rfl (by kernel_rfl) (by kernel_rfl) rfl ?_ ?_
    · simp only [Z1D, h0, h1, h2, cond_true, cond_false]
    · rfl
  | false =>
   refine fnS E0Ok Z4 (c := bodyOf f95) [] (.b false) [] func95 (q (sB h1 <| sB h1 <| sB h1 <| sB h1 <| sB h1 <| sB h1 <| sB h1 <| sB h1 <| sB h1 <| sB h1 <| sB (show false = false from rfl) <| sB (show false = false from rfl) <| sB (show false = false from rfl) <| sB (show false = false from rfl) <| sB (show false = false from rfl) <| sB (show false = false from rfl) <| sK [] sN)) rfl (by kernel_rfl) (by kernel_rfl) rfl ?_ ?_
   · simp only [Z1D, h0, h1, cond_true, cond_false]
   · rfl
 | false =>
  refine fnS E0Ok Z4 (c := bodyOf f95) [] (.b false) [] func95 (p (sB h0 <| sB h0 <| sB h0 <| sB h0 <| sB h0 <| sB h0 <| sB h0 <| sB h0 <| sB (show false = false from rfl) <| sB (show false = false from rfl) <| sB (show false = false from rfl) <| sB (show false = false from rfl) <| sB (show false = false from rfl) <| sB (show false = false from rfl) <| sB (show false = false from rfl) <| sB (show false = false from rfl) <| sB (show false = false from rfl) <| sB (show false = false from rfl) <| sB (show false = false from rfl) <| sB (show false = false from rfl) <| sB (show false = false from rfl) <| sB (show false = false from rfl) <| sB (show false = false from rfl) <| sB (show false = false from rfl) <| sK [] sN)) rfl (by kernel_rfl) (by kernel_rfl) rfl ?_ ?_
  · simp only [Z1D, h0, cond_false]
  · rfl
def Z2x (Y3 : GBody) : Nat → Int → (Unit) ⊕ (Unit)
  | 0, _ => .inl default
  | k + 1, Y1 => (cond (decide (Y1 < (Y3.Springs.length : Int)))
    (cond (Z1D (Y3.Springs.getD Y1.toNat default) (Y3.Mesh.Places.length : Int))
      (Z2x Y3 k (Y1 + 1))
      (.inl ()))
    (.inr ()))
def Z6x (Y3 : GBody) : (Unit) ⊕ (Unit) → Ex × St
  | .inl r => (.ret, ⟨.any :: .any :: .b false :: an 51 [], []⟩)
  | .inr r => ((.exit 0), ⟨.ref (GBody.cells Y3) 0 :: .any :: .any :: .any :: .ref (GBody.cells Y3) 0 :: .ref (GBody.cells Y3) 0 :: .ref (GBody.cells Y3) 0 :: .b (Z1m Y3.Mesh) :: .b (!(Z1m Y3.Mesh)) :: .b (!(Z1m Y3.Mesh)) :: .ref (GBody.cells Y3) 0 :: .ref (GBody.cells Y3) 0 :: .ref (GBody.cells Y3) 2 :: .sl (Y3.Springs.map GSpring.cells) :: .i .i64 (Y3.Springs.length : Int) :: .b (decide ((Y3.Springs.length : Int) > 200)) :: .b (decide ((Y3.Springs.length : Int) > 200)) :: .b (decide ((Y3.Springs.length : Int) > 200)) :: .ref (GBody.cells Y3) 0 :: .ref (GBody.cells Y3) 0 :: .ref (GBody.cells Y3) 5 :: .sl (Y3.Weights.map (cF .f32)) :: .i .i64 (Y3.Weights.length : Int) :: .ref (GBody.cells Y3) 0 :: .ref (GBody.cells Y3) 0 :: .ref (GBody.cells Y3) 0 :: .ref (GBody.cells Y3) 0 :: .sl (Y3.Mesh.Places.map GVector.cells) :: .i .i64 (Y3.Mesh.Places.length : Int) :: .b ((Y3.Weights.length : Int) != (Y3.Mesh.Places.length : Int)) :: .b ((Y3.Weights.length : Int) != (Y3.Mesh.Places.length : Int)) :: .ref (GBody.cells Y3) 0 :: .ref (GBody.cells Y3) 0 :: .ref (GBody.cells Y3) 2 :: .sl (Y3.Springs.map GSpring.cells) :: an 19 [], []⟩)
def ZeE (Y3 : GBody) (Y1 : Int) : St := ⟨.ref (GBody.cells Y3) 0 :: .any :: .any :: .any :: .ref (GBody.cells Y3) 0 :: .ref (GBody.cells Y3) 0 :: .ref (GBody.cells Y3) 0 :: .b (Z1m Y3.Mesh) :: .b (!(Z1m Y3.Mesh)) :: .b (!(Z1m Y3.Mesh)) :: .ref (GBody.cells Y3) 0 :: .ref (GBody.cells Y3) 0 :: .ref (GBody.cells Y3) 2 :: .sl (Y3.Springs.map GSpring.cells) :: .i .i64 (Y3.Springs.length : Int) :: .b (decide ((Y3.Springs.length : Int) > 200)) :: .b (decide ((Y3.Springs.length : Int) > 200)) :: .b (decide ((Y3.Springs.length : Int) > 200)) :: .ref (GBody.cells Y3) 0 :: .ref (GBody.cells Y3) 0 :: .ref (GBody.cells Y3) 5 :: .sl (Y3.Weights.map (cF .f32)) :: .i .i64 (Y3.Weights.length : Int) :: .ref (GBody.cells Y3) 0 :: .ref (GBody.cells Y3) 0 :: .ref (GBody.cells Y3) 0 :: .ref (GBody.cells Y3) 0 :: .sl (Y3.Mesh.Places.map GVector.cells) :: .i .i64 (Y3.Mesh.Places.length : Int) :: .b ((Y3.Weights.length : Int) != (Y3.Mesh.Places.length : Int)) :: .b ((Y3.Weights.length : Int) != (Y3.Mesh.Places.length : Int)) :: .ref (GBody.cells Y3) 0 :: .ref (GBody.cells Y3) 0 :: .ref (GBody.cells Y3) 2 :: .sl (Y3.Springs.map GSpring.cells) :: .i .i64 (Y3.Springs.length : Int) :: .i .i64 Y1 :: an 17 [], []⟩
theorem ZaN (Y3 : GBody) (hp0 : Y3.Mesh.Places.length ≤ 1073741824) (hp1 : Y3.Mesh.Triangles.length ≤ 1073741824) (hp2 : ∀ t ∈ Y3.Mesh.Triangles, t.length ≤ 1073741824) (hp3 : Y3.Springs.length ≤ 1073741824) (hp4 : Y3.Weights.length ≤ 1073741824) (Zhb : ((Y3.Weights.length : Int) != (Y3.Mesh.Places.length : Int)) = false) (Zhc : (decide ((Y3.Springs.length : Int) > 200)) = false) (Zhd : (Z1m Y3.Mesh) = true) : ∀ (k : Nat) (Y1 : Int) (Z9W : 0 ≤ Y1) (hk : ((Y3.Springs.length : Int) - Y1).toNat < k), Lp prog 0 (sub (bodyOf f50) [1, 1, 0, 1, 0, 0]) (ZeE Y3 Y1) (Z6x Y3 (Z2x Y3 k Y1)).1 (Z6x Y3 (Z2x Y3 k Y1)).2 := by
 intro k
 induction k with
 | zero => intro Y1 Z9W hk; exact absurd hk (Nat.not_lt_zero _)
 | succ k ih =>
  intro Y1 Z9W hk
  cases Yg : (decide (Y1 < (Y3.Springs.length : Int))) with
  | true =>
   have Yt := of_decide_eq_true Yg
   have YA : (0 : Int) ≤ Y1 := (by assumption)
   have YE : Y1 < (Y3.Springs.length : Int) := (by assumption)
   have p {a C} (s : Scr a C) := sB Yg <| sK [12, 12] <| sG GSpring.cells Y3.Springs Y1 YA YE <| sZ GVector.cells Y3.Mesh.Places <| sF (Zea (Y3.Springs.getD Y1.toNat default) (Y3.Mesh.Places.length : Int)) <| s
   cases Yq : (Z1D (Y3.Springs.getD Y1.toNat default) (Y3.Mesh.Places.length : Int)) with
   | true =>
    have YG : (-9223372036854775808 : Int) ≤ (Y1 + 1) := by clear p; exact (by omega)
    have YH : (Y1 + 1) ≤ (9223372036854775807 : Int) := by clear p; exact (by omega)
    have e : Z2x Y3 (k + 1) Y1 = (Z2x Y3 k (Y1 + 1)) := by simp only [Z2x, Yg, Yq, cond_true]
    rw [e]
    exact nextR E0Ok Z4 [] (mR false [0, 1, 3, 33, 17]) [] (ih (Y1 + 1) (show 0 ≤ (Y1 + 1) from (by omega)) (by omega)) (p (sB' Yq <| sI (Y1 + 1) YG YH <| sN)) (by kernel_rfl)
   | false =>
    have e : Z2x Y3 (k + 1) Y1 = (.inl ()) := by simp only [Z2x, Yg, Yq, cond_true, cond_false]
    rw [e]
    exact outR (e := .ret) E0Ok Z4 [] (mR false [2, 1, 51]) [] (p (sB' Yq <| sN)) (by kernel_rfl) (by intro h; cases h)
  | false =>
   have Yt := of_decide_eq_false Yg
   have e : Z2x Y3 (k + 1) Y1 = (.inr ()) := by simp only [Z2x, Yg, cond_false]
   rw [e]
   exact outR (e := (.exit 0)) E0Ok Z4 [] (mR false [0, 1, 3, 31, 19]) [] (sB Yg <| sN) (by kernel_rfl) (by intro h; cases h)
def Z4n (Y3 : GBody) : (Unit) ⊕ (Unit) := (Z2x Y3 (((Y3.Springs.length : Int) - 0).toNat + 1) 0)
def Z1E (Y3 : GBody) : Bool := (cond (Z1m Y3.Mesh)
  (cond (decide ((Y3.Springs.length : Int) > 200))
    false
    (cond ((Y3.Weights.length : Int) != (Y3.Mesh.Places.length : Int))
      false
      (match (Z4n Y3) with
        | .inl r4 => false
        | .inr r4 => true)))
  false)
theorem ZfY (Y3 : GBody) (hp0 : Y3.Mesh.Places.length ≤ 1073741824) (hp1 : Y3.Mesh.Triangles.length ≤ 1073741824) (hp2 : ∀ t ∈ Y3.Mesh.Triangles, t.length ≤ 1073741824) (hp3 : Y3.Springs.length ≤ 1073741824) (hp4 : Y3.Weights.length ≤ 1073741824)  : Fn prog 50 [.ref (GBody.cells Y3) 0] (.b (Z1E Y3)) [] := by
 have p {a C} (s : Scr a C) := sK [25, 25] <| sF (Fn.sub (args := [.ref (GBody.cells Y3) 0]) (r := .b (Z1m Y3.Mesh)) (new := []) [some 2] (ZfX Y3.Mesh hp0 hp1 hp2)) <| s
 cases h0 : (Z1m Y3.Mesh) with
 | true =>
  have q {a C} (s : Scr a C) := p (sB' h0 <| sB' h0 <| sB' h0 <| sB' h0 <| sB' h0 <| sZ GSpring.cells Y3.Springs <| sB' h0 <| sB' h0 <| s)
  clear p
  cases h1 : (decide ((Y3.Springs.length : Int) > 200)) with
  | true =>
   have gh1 := of_decide_eq_true h1
   refine fnS E0Ok Z4 (c := bodyOf f50) [] (.b false) [] func50 (q (sB h1 <| sB h1 <| sB h1 <| sB h1 <| sB h1 <| sB h1 <| sB h1 <| sB h1 <| sB h1 <| sB h1 <| sB h1 <| sB h1 <| sB h1 <| sB (show true = true from rfl) <| sK [] sN)) rfl (by kernel_rfl) (by kernel_rfl) rfl ?_ ?_
   · simp only [Z1E, h0, h1, cond_true]
   · rfl
  | false =>
   have gh1 := of_decide_eq_false h1
   have p {a C} (s : Scr a C) := q (sB h1 <| sB h1 <| sB h1 <| sB h1 <| sB h1 <| sZ (cF .f32) Y3.Weights <| sB h1 <| sB h1 <| sB h1 <| sB h1 <| sB h1 <| sB h1 <| sZ GVector.cells Y3.Mesh.Places <| sB h1 <| sB h1 <| s)
   clear q
   cases h2 : ((Y3.Weights.length : Int) != (Y3.Mesh.Places.length : Int)) with
   | true =>
    have gh2 := bne_iff_ne.1 h2
    refine fnS E0Ok Z4 (c := bodyOf f50) [] (.b false) [] func50 (p (sB h2 <| sK [] sN)) rfl (by kernel_rfl) (by kernel_rfl) rfl ?_ ?_
    · simp only [Z1E, h0, h1, h2, cond_true, cond_false]
    · rfl
   | false =>
    have gh2 := bne_eq_false_iff_eq.1 h2
    have q {a C} (s : Scr a C) := p (sB h2 <| sZ GSpring.cells Y3.Springs <| s)
    clear p
    cases h3 : (Z4n Y3) with
    | inl r4 =>
     refine fnS E0Ok Z4 (c := bodyOf f50) [] (.b false) [] func50 (q (sL (mR false [0, 1, 3, 33, 17]) 0 (lp_val (Z6x Y3) (x := (Z4n Y3)) (ZaN Y3 hp0 hp1 hp2 hp3 hp4 h2 h1 h0 (((Y3.Springs.length : Int) - 0).toNat + 1) 0 (show 0 ≤ 0 from (by omega)) (Nat.lt_succ_self _)) h3) <| sK [] sN)) rfl (by kernel_rfl) (by kernel_rfl) rfl ?_ ?_
     · simp only [Z1E, h0, h1, h2, h3, cond_true, cond_false]
     · rfl
    | inr r4 =>
     refine fnS E0Ok Z4 (c := bodyOf f50) [] (.b true) [] func50 (q (sL (mR false [0, 1, 3, 33, 17]) 0 (lp_val (Z6x Y3) (x := (Z4n Y3)) (ZaN Y3 hp0 hp1 hp2 hp3 hp4 h2 h1 h0 (((Y3.Springs.length : Int) - 0).toNat + 1) 0 (show 0 ≤ 0 from (by omega)) (Nat.lt_succ_self _)) h3) <| sK [] sN)) rfl (by kernel_rfl) (by kernel_rfl) rfl ?_ ?_
     · simp only [Z1E, h0, h1, h2, h3, cond_true, cond_false]
     · rfl
 | false =>
  refine fnS E0Ok Z4 (c := bodyOf f50) [] (.b false) [] func50 (p (sB' h0 <| sB' h0 <| sB' h0 <| sB' h0 <| sB' h0 <| sB' h0 <| sB' h0 <| sB (show true = true from rfl) <| sB (show true = true from rfl) <| sB (show true = true from rfl) <| sB (show true = true from rfl) <| sB (show true = true from rfl) <| sB (show true = true from rfl) <| sB (show true = true from rfl) <| sB (show true = true from rfl) <| sB (show true = true from rfl) <| sB (show true = true from rfl) <| sB (show true = true from rfl) <| sB (show true = true from rfl) <| sB (show true = true from rfl) <| sB (show true = true from rfl) <| sK [] sN)) rfl (by kernel_rfl) (by kernel_rfl) rfl ?_ ?_
  · simp only [Z1E, h0, cond_false]
  · rfl
theorem Zeb (b : GBody) (h : Z1E b = true) : Z1m b.Mesh = true ∧ (b.Weights.length : Int) = (b.Mesh.Places.length : Int) ∧ (b.Springs.all fun s => Z1D s (b.Mesh.Places.length : Int)) = true := by
  unfold Z1E Z4n at h
  rw [all_from (a := b.Springs) (p := fun s => Z1D s (b.Mesh.Places.length : Int)) (lo := Z2x b) (x := ()) (y := ()) (fun k i => rfl)] at h
  cases h1 : Z1m b.Mesh <;> rw [h1] at h <;> (try (cases h; done))
  cases h2 : decide ((b.Springs.length : Int) > 200) <;> rw [h2] at h <;> (try (cases h; done))
  cases h3 : ((b.Weights.length : Int) != (b.Mesh.Places.length : Int)) <;> rw [h3] at h <;> (try (cases h; done))
  cases h4 : (b.Springs.all fun s => Z1D s (b.Mesh.Places.length : Int)) <;> rw [h4] at h <;> (try (cases h; done))
  simp only [bne_eq_false_iff_eq] at h3
  exact ⟨rfl, h3, rfl⟩
theorem ZgS (s : GSpring) {n : Nat} (hn : n ≤ 9223372036854775807) (h : Z1D s (n : Int) = true) : (0 ≤ s.A ∧ s.A < (n : Int)) ∧ (0 ≤ s.B ∧ s.B < (n : Int)) := by
  unfold Z1D at h
  cases h1 : ZK s.A 0 (IntKind.wrap .i64 ((n : Int) - 1)) <;> rw [h1] at h <;> (try (cases h; done))
  cases h2 : ZK s.B 0 (IntKind.wrap .i64 ((n : Int) - 1)) <;> rw [h2] at h <;> (try (cases h; done))
  exact ⟨ZgG hn h1, ZgG hn h2⟩
theorem Zhs (b : GBody) (h : Z1E b = true) : OkIx b.Mesh.Places.length GSpring.A b.Springs := by
  obtain ⟨h1, _, h3⟩ := Zeb b h
  have hn : b.Mesh.Places.length ≤ 64 := by
    rw [Z9f] at h1
    cases h2 : decide ((b.Mesh.Places.length : Int) > 64) <;> rw [h2] at h1 <;> (try (cases h1; done))
    simp only [decide_eq_false_iff_not] at h2
    omega
  rw [List.all_eq_true] at h3
  exact fun s hs => (ZgS s (by omega) (h3 s hs)).1
theorem Zht (b : GBody) (h : Z1E b = true) : OkIx b.Mesh.Places.length GSpring.B b.Springs := by
  obtain ⟨h1, _, h3⟩ := Zeb b h
  have hn : b.Mesh.Places.length ≤ 64 := by
    rw [Z9f] at h1
    cases h2 : decide ((b.Mesh.Places.length : Int) > 64) <;> rw [h2] at h1 <;> (try (cases h1; done))
    simp only [decide_eq_false_iff_not] at h2
    omega
  rw [List.all_eq_true] at h3
  exact fun s hs => (ZgS s (by omega) (h3 s hs)).2
structure OkBd (b : GBody) : Prop where
  e : OkE b.Mesh.Places.length b.Mesh.Triangles
  w : b.Weights.length = b.Mesh.Places.length
  a : OkIx b.Mesh.Places.length GSpring.A b.Springs
  b : OkIx b.Mesh.Places.length GSpring.B b.Springs
theorem Zdo (b : GBody) (h : Z1E b = true) : OkBd b := by
  obtain ⟨h1, h2, h3⟩ := Zeb b h
  exact ⟨Zhr _ h1, by omega, Zhs b h, Zht b h⟩
theorem Z3l {b : GBody} (h : OkBd b) {i : Int} (h0 : 0 ≤ i) (hi : decide (i < (b.Springs.length : Int)) = true) : (0 ≤ (b.Springs.getD i.toNat default).A ∧ (b.Springs.getD i.toNat default).A < (b.Mesh.Places.length : Int)) ∧ (0 ≤ (b.Springs.getD i.toNat default).B ∧ (b.Springs.getD i.toNat default).B < (b.Mesh.Places.length : Int)) :=
  ⟨OkIx.at h.a h0 (of_decide_eq_true hi), OkIx.at h.b h0 (of_decide_eq_true hi)⟩
def ZA (Ym : (List Int)) (YF : Int) (Yw : Int) : Nat → Int → (Unit) ⊕ (Unit)
  | 0, _ => .inl default
  | k + 1, Y7 => (cond (decide (Y7 < (Ym.length : Int)))
    (cond (ZK (Ym.getD Y7.toNat default) YF Yw)
      (cond (decide (Y7 > 0))
        (cond (decide ((Ym.getD (Y7 - 1).toNat default) ≥ (Ym.getD Y7.toNat default)))
          (.inl ())
          (ZA Ym YF Yw k (Y7 + 1)))
        (ZA Ym YF Yw k (Y7 + 1)))
      (.inl ()))
    (.inr ()))
def Z5q (Ym : (List Int)) (YF : Int) (Yw : Int) : (Unit) ⊕ (Unit) → Ex × St
  | .inl r => (.ret, ⟨an 6 (.b false :: an 31 []), []⟩)
  | .inr r => ((.exit 0), ⟨an 38 [], []⟩)
def ZcJ (Ym : (List Int)) (YF : Int) (Yw : Int) (Y7 : Int) : St := ⟨.sl (Ym.map (cI .i64)) :: .i .i64 YF :: .i .i64 Yw :: an 4 (.i .i64 Y7 :: an 30 []), []⟩
theorem Z9m (Ym : (List Int)) (YF : Int) (Yw : Int) (hp0 : Ym.length ≤ 1073741824) : ∀ (k : Nat) (Y7 : Int) (Z83 : 0 ≤ Y7) (hk : ((Ym.length : Int) - Y7).toNat < k), Lp prog 0 (sub (bodyOf f120) [1, 0, 1, 0, 0]) (ZcJ Ym YF Yw Y7) (Z5q Ym YF Yw (ZA Ym YF Yw k Y7)).1 (Z5q Ym YF Yw (ZA Ym YF Yw k Y7)).2 := by
 intro k
 induction k with
 | zero => intro Y7 Z83 hk; exact absurd hk (Nat.not_lt_zero _)
 | succ k ih =>
  intro Y7 Z83 hk
  have p {a C} (s : Scr a C) := sZ (cI .i64) Ym <| s
  cases Yg : (decide (Y7 < (Ym.length : Int))) with
  | true =>
   have Yt := of_decide_eq_true Yg
   have YA : (0 : Int) ≤ Y7 := by clear p; exact (by assumption)
   have YE : Y7 < (Ym.length : Int) := by clear p; exact (by assumption)
   have q {a C} (s : Scr a C) := p (sB Yg <| sK [21, 21] <| sG (cI .i64) Ym Y7 YA YE <| sF (Z5C (Ym.getD Y7.toNat default) YF Yw) <| s)
   clear p
   cases Yq : (ZK (Ym.getD Y7.toNat default) YF Yw) with
   | true =>
    have p {a C} (s : Scr a C) := q (sB' Yq <| sB' Yq <| sB' Yq <| s)
    clear q
    cases YM : (decide (Y7 > 0)) with
    | true =>
     have Y1e := of_decide_eq_true YM
     have YG : (-9223372036854775808 : Int) ≤ (Y7 - 1) := by clear p; exact (by omega)
     have YH : (Y7 - 1) ≤ (9223372036854775807 : Int) := by clear p; exact (by omega)
     have YL : (0 : Int) ≤ (Y7 - 1) := by clear p; exact (by omega)
     have YQ : (Y7 - 1) < (Ym.length : Int) := by clear p; exact (by omega)
     have q {a C} (s : Scr a C) := p (sB YM <| sB YM <| sB YM <| sI (Y7 - 1) YG YH <| sB YM <| sG (cI .i64) Ym (Y7 - 1) YL YQ <| sB YM <| sB YM <| sB YM <| sB YM <| sG (cI .i64) Ym Y7 YA YE <| sB YM <| sB YM <| sB' Yq <| sB YM <| sB' Yq <| s)
     clear p
     cases YX : (decide ((Ym.getD (Y7 - 1).toNat default) ≥ (Ym.getD Y7.toNat default))) with
     | true =>
      have Y1x := of_decide_eq_true YX
      have e : ZA Ym YF Yw (k + 1) Y7 = (.inl ()) := by simp only [ZA, Yg, Yq, YM, YX, cond_true]
      rw [e]
      exact outR (e := .ret) E0Ok Z4 [] (mR false [6, 1, 31]) [] (q (sB YX <| sN)) (by kernel_rfl) (by intro h; cases h)
     | false =>
      have Y1x := of_decide_eq_false YX
      have YW : (-9223372036854775808 : Int) ≤ (Y7 + 1) := by clear q; exact (by omega)
      have y_7 : (Y7 + 1) ≤ (9223372036854775807 : Int) := by clear q; exact (by omega)
      have e : ZA Ym YF Yw (k + 1) Y7 = (ZA Ym YF Yw k (Y7 + 1)) := by simp only [ZA, Yg, Yq, YM, YX, cond_true, cond_false]
      rw [e]
      exact nextR E0Ok Z4 [] (mR false [0, 3, 4, 1, 30]) [] (ih (Y7 + 1) (show 0 ≤ (Y7 + 1) from (by omega)) (by omega)) (q (sB YX <| sI (Y7 + 1) YW y_7 <| sN)) (by kernel_rfl)
    | false =>
     have Y1e := of_decide_eq_false YM
     have YG : (-9223372036854775808 : Int) ≤ (Y7 + 1) := by clear p; exact (by omega)
     have YH : (Y7 + 1) ≤ (9223372036854775807 : Int) := by clear p; exact (by omega)
     have e : ZA Ym YF Yw (k + 1) Y7 = (ZA Ym YF Yw k (Y7 + 1)) := by simp only [ZA, Yg, Yq, YM, cond_true, cond_false]
     rw [e]
     exact nextR E0Ok Z4 [] (mR false [0, 3, 4, 1, 30]) [] (ih (Y7 + 1) (show 0 ≤ (Y7 + 1) from (by omega)) (by omega)) (p (sB YM <| sB YM <| sB YM <| sB YM <| sB YM <| sB YM <| sB YM <| sB YM <| sB YM <| sB YM <| sB' Yq <| sB YM <| sB' Yq <| sB (show false = false from rfl) <| sI (Y7 + 1) YG YH <| sN)) (by kernel_rfl)
   | false =>
    have e : ZA Ym YF Yw (k + 1) Y7 = (.inl ()) := by simp only [ZA, Yg, Yq, cond_true, cond_false]
    rw [e]
    exact outR (e := .ret) E0Ok Z4 [] (mR false [6, 1, 31]) [] (q (sB' Yq <| sB' Yq <| sB' Yq <| sB' Yq <| sB' Yq <| sB (show true = true from rfl) <| sN)) (by kernel_rfl) (by intro h; cases h)
  | false =>
   have Yt := of_decide_eq_false Yg
   have e : ZA Ym YF Yw (k + 1) Y7 = (.inr ()) := by simp only [ZA, Yg, cond_false]
   rw [e]
   exact outR (e := (.exit 0)) E0Ok Z4 [] (mR false [38]) [] (p (sB Yg <| sN)) (by kernel_rfl) (by intro h; cases h)
end Go.Ab
