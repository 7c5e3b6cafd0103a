/- The functions of this seat as plain Lean, and that the program's are these. Printed by a program of the prover's own. -/
import Derived.Test.YtpndflbllggeiaaGreatB0
set_option linter.unusedVariables false
set_option linter.unusedSimpArgs false
set_option maxRecDepth 100000
namespace Go.Ab
open Go.RowKit Go.Proofs.Tryz
def ZY (Y4 : (List GVector)) (Ym : Int) : Int := (cond (decide ((IntKind.wrap .i64 (Ym - (Y4.length : Int))) < 0))
  (-1)
  (IntKind.wrap .i64 (Ym - (Y4.length : Int))))
theorem Z9N (Y4 : (List GVector)) (Ym : Int) (hp0 : Y4.length ≤ 9223372036854775807)  : Fn prog 75 [.sl (Y4.map GVector.cells), .i .i64 Ym] (.i .i64 (ZY Y4 Ym)) [] := by
 have p {a C} (s : Scr a C) := sZ GVector.cells Y4 <| sW .i64 (Ym - (Y4.length : Int)) <| s
 cases h0 : (decide ((IntKind.wrap .i64 (Ym - (Y4.length : Int))) < 0)) with
 | true =>
  have gh0 := of_decide_eq_true h0
  refine fnS E0Ok Z5 (c := bodyOf f75) [] (.i .i64 (-1)) [] func75 (p (sB h0 <| sK [] sN)) rfl (by kernel_rfl) (by kernel_rfl) rfl ?_ ?_
  · simp only [ZY, h0, cond_true]
  · rfl
 | false =>
  have gh0 := of_decide_eq_false h0
  refine fnS E0Ok Z5 (c := bodyOf f75) [] (.i .i64 (IntKind.wrap .i64 (Ym - (Y4.length : Int)))) [] func75 (p (sB h0 <| sK [] sN)) rfl (by kernel_rfl) (by kernel_rfl) rfl ?_ ?_
  · simp only [ZY, h0, cond_false]
  · rfl
theorem Z9t (a : List GVector) (left : Int) (h0 : a.length ≤ 9223372036854775807) (h1 : -1 ≤ left) (h2 : left ≤ 1048576) : -1 ≤ ZY a left ∧ ZY a left ≤ left ∧ (ZY a left < 0 ∨ (a.length : Int) ≤ left) := by
  unfold ZY
  rw [wrap_sub (by omega) (by omega)]
  by_cases h : left - (a.length : Int) < 0
  · simp [h]; omega
  · simp [h]; omega
def Z2b (Y4 : (List Int)) (Ym : Int) : Int := (cond (decide ((IntKind.wrap .i64 (Ym - (Y4.length : Int))) < 0))
  (-1)
  (IntKind.wrap .i64 (Ym - (Y4.length : Int))))
theorem Zdx (Y4 : (List Int)) (Ym : Int) (hp0 : Y4.length ≤ 9223372036854775807)  : Fn prog 134 [.sl (Y4.map (cI .i64)), .i .i64 Ym] (.i .i64 (Z2b Y4 Ym)) [] := by
 have p {a C} (s : Scr a C) := sZ (cI .i64) Y4 <| sW .i64 (Ym - (Y4.length : Int)) <| s
 cases h0 : (decide ((IntKind.wrap .i64 (Ym - (Y4.length : Int))) < 0)) with
 | true =>
  have gh0 := of_decide_eq_true h0
  refine fnS E0Ok Z5 (c := bodyOf f134) [] (.i .i64 (-1)) [] func134 (p (sB h0 <| sK [] sN)) rfl (by kernel_rfl) (by kernel_rfl) rfl ?_ ?_
  · simp only [Z2b, h0, cond_true]
  · rfl
 | false =>
  have gh0 := of_decide_eq_false h0
  refine fnS E0Ok Z5 (c := bodyOf f134) [] (.i .i64 (IntKind.wrap .i64 (Ym - (Y4.length : Int)))) [] func134 (p (sB h0 <| sK [] sN)) rfl (by kernel_rfl) (by kernel_rfl) rfl ?_ ?_
  · simp only [Z2b, h0, cond_false]
  · rfl
theorem ZcY (a : List Int) (left : Int) (h0 : a.length ≤ 9223372036854775807) (h1 : -1 ≤ left) (h2 : left ≤ 1048576) : -1 ≤ Z2b a left ∧ Z2b a left ≤ left ∧ (Z2b a left < 0 ∨ (a.length : Int) ≤ left) := by
  unfold Z2b
  rw [wrap_sub (by omega) (by omega)]
  by_cases h : left - (a.length : Int) < 0
  · simp [h]; omega
  · simp [h]; omega
def Z1D (Y4 : (List (List Int))) (Ym : Int) : Nat → Int → Int → (Unit) ⊕ (Int)
  | 0, _, _ => .inl default
  | k + 1, YN, Y9 => (cond (decide (Y9 < (Y4.length : Int)))
    (cond (decide ((Z2b (Y4.getD Y9.toNat default) YN) < 0))
      (.inl ())
      (Z1D Y4 Ym k (Z2b (Y4.getD Y9.toNat default) YN) (Y9 + 1)))
    (.inr YN))
def Z4V (Y4 : (List (List Int))) (Ym : Int) : (Unit) ⊕ (Int) → Ex × St
  | .inl r => (.ret, ⟨an 4 (.i .i64 (-1) :: an 22 []), []⟩)
  | .inr r => ((.exit 0), ⟨.sl (Y4.map (cL (cI .i64))) :: .i .i64 r :: an 4 (.i .i64 Ym :: .sl (Y4.map (cL (cI .i64))) :: .i .i64 (Y4.length : Int) :: .i .i64 (IntKind.wrap .i64 (Ym - (Y4.length : Int))) :: .i .i64 (IntKind.wrap .i64 (Ym - (Y4.length : Int))) :: .b (decide ((IntKind.wrap .i64 (Ym - (Y4.length : Int))) < 0)) :: an 15 []), []⟩)
def Zbv (Y4 : (List (List Int))) (Ym : Int) (YN : Int) (Y9 : Int) : St := ⟨.sl (Y4.map (cL (cI .i64))) :: .i .i64 YN :: .any :: .any :: .any :: .i .i64 Y9 :: .i .i64 Ym :: .sl (Y4.map (cL (cI .i64))) :: .i .i64 (Y4.length : Int) :: .i .i64 (IntKind.wrap .i64 (Ym - (Y4.length : Int))) :: .i .i64 (IntKind.wrap .i64 (Ym - (Y4.length : Int))) :: .b (decide ((IntKind.wrap .i64 (Ym - (Y4.length : Int))) < 0)) :: an 15 [], []⟩
theorem Z8r (Y4 : (List (List Int))) (Ym : Int) (hp0 : Y4.length ≤ 9223372036854775807) (hp1 : ∀ t ∈ Y4, t.length ≤ 9223372036854775807) (Zfy : (decide ((IntKind.wrap .i64 (Ym - (Y4.length : Int))) < 0)) = false) : ∀ (k : Nat) (YN : Int) (Y9 : Int) (Z7m : 0 ≤ Y9) (hk : ((Y4.length : Int) - Y9).toNat < k), Lp prog 0 (sub (bodyOf f93) [1, 1, 1, 0, 1, 0, 0]) (Zbv Y4 Ym YN Y9) (Z4V Y4 Ym (Z1D Y4 Ym k YN Y9)).1 (Z4V Y4 Ym (Z1D Y4 Ym k YN Y9)).2 := by
 intro k
 induction k with
 | zero => intro YN Y9 Z7m hk; exact absurd hk (Nat.not_lt_zero _)
 | succ k ih =>
  intro YN Y9 Z7m hk
  have p {a C} (s : Scr a C) := sZ (cL (cI .i64)) Y4 <| s
  cases Yl : (decide (Y9 < (Y4.length : Int))) with
  | true =>
   have Yw := of_decide_eq_true Yl
   have YF : (0 : Int) ≤ Y9 := by clear p; exact (by assumption)
   have YG : Y9 < (Y4.length : Int) := by clear p; exact (by assumption)
   have YH : (Y4.getD Y9.toNat default).length ≤ 9223372036854775807 := by clear p; exact (by simp_all <;> omega)
   have q {a C} (s : Scr a C) := p (sB Yl <| sG (cL (cI .i64)) Y4 Y9 YF YG <| sF (Zdx (Y4.getD Y9.toNat default) YN YH) <| s)
   clear p
   cases Yr : (decide ((Z2b (Y4.getD Y9.toNat default) YN) < 0)) with
   | true =>
    have Y10 := of_decide_eq_true Yr
    have e : Z1D Y4 Ym (k + 1) YN Y9 = (.inl ()) := by simp only [Z1D, Yl, Yr, cond_true]
    rw [e]
    exact outR (e := .ret) E0Ok Z5 [] (mR false [4, 1, 22]) [] (q (sB Yr <| sN)) (by kernel_rfl) (by intro h; cases h)
   | false =>
    have Y10 := of_decide_eq_false Yr
    have YI : (-9223372036854775808 : Int) ≤ (Y9 + 1) := by clear q; exact (by omega)
    have YP : (Y9 + 1) ≤ (9223372036854775807 : Int) := by clear q; exact (by omega)
    have e : Z1D Y4 Ym (k + 1) YN Y9 = (Z1D Y4 Ym k (Z2b (Y4.getD Y9.toNat default) YN) (Y9 + 1)) := by simp only [Z1D, Yl, Yr, cond_true, cond_false]
    rw [e]
    exact nextR E0Ok Z5 [] (mR false [0, 2, 3, 7, 15]) [] (ih (Z2b (Y4.getD Y9.toNat default) YN) (Y9 + 1) (show 0 ≤ (Y9 + 1) from (by omega)) (by omega)) (q (sB Yr <| sI (Y9 + 1) YI YP <| sN)) (by kernel_rfl)
  | false =>
   have Yw := of_decide_eq_false Yl
   have e : Z1D Y4 Ym (k + 1) YN Y9 = (.inr YN) := by simp only [Z1D, Yl, cond_false]
   rw [e]
   exact outR (e := (.exit 0)) E0Ok Z5 [] (mR false [0, 2, 4, 6, 15]) [] (p (sB Yl <| sN)) (by kernel_rfl) (by intro h; cases h)
def Z3T (Y4 : (List (List Int))) (Ym : Int) : (Unit) ⊕ (Int) := (Z1D Y4 Ym (((Y4.length : Int) - 0).toNat + 1) (IntKind.wrap .i64 (Ym - (Y4.length : Int))) 0)
def Z2d (Y4 : (List (List Int))) (Ym : Int) : Int := (cond (decide ((IntKind.wrap .i64 (Ym - (Y4.length : Int))) < 0))
  (-1)
  (match (Z3T Y4 Ym) with
    | .inl r2 => (-1)
    | .inr r2 => r2))
theorem ZcZ (Y4 : (List (List Int))) (Ym : Int) (hp0 : Y4.length ≤ 9223372036854775807) (hp1 : ∀ t ∈ Y4, t.length ≤ 9223372036854775807)  : Fn prog 93 [.sl (Y4.map (cL (cI .i64))), .i .i64 Ym] (.i .i64 (Z2d Y4 Ym)) [] := by
 have p {a C} (s : Scr a C) := sZ (cL (cI .i64)) Y4 <| sW .i64 (Ym - (Y4.length : Int)) <| s
 cases h0 : (decide ((IntKind.wrap .i64 (Ym - (Y4.length : Int))) < 0)) with
 | true =>
  have gh0 := of_decide_eq_true h0
  refine fnS E0Ok Z5 (c := bodyOf f93) [] (.i .i64 (-1)) [] func93 (p (sB h0 <| sK [] sN)) rfl (by kernel_rfl) (by kernel_rfl) rfl ?_ ?_
  · simp only [Z2d, h0, cond_true]
  · rfl
 | false =>
  have gh0 := of_decide_eq_false h0
  have q {a C} (s : Scr a C) := p (sB h0 <| s)
  clear p
  cases h1 : (Z3T Y4 Ym) with
  | inl r2 =>
   refine fnS E0Ok Z5 (c := bodyOf f93) [] (.i .i64 (-1)) [] func93 (q (sL (mR false [0, 2, 3, 7, 15]) 0 (lp_val (Z4V Y4 Ym) (x := (Z3T Y4 Ym)) (Z8r Y4 Ym hp0 hp1 h0 (((Y4.length : Int) - 0).toNat + 1) (IntKind.wrap .i64 (Ym - (Y4.length : Int))) 0 (show 0 ≤ 0 from (by omega)) (Nat.lt_succ_self _)) h1) <| sK [] sN)) rfl (by kernel_rfl) (by kernel_rfl) rfl ?_ ?_
   · simp only [Z2d, h0, h1, cond_false]
   · rfl
  | inr r2 =>
   refine fnS E0Ok Z5 (c := bodyOf f93) [] (.i .i64 r2) [] func93 (q (sL (mR false [0, 2, 3, 7, 15]) 0 (lp_val (Z4V Y4 Ym) (x := (Z3T Y4 Ym)) (Z8r Y4 Ym hp0 hp1 h0 (((Y4.length : Int) - 0).toNat + 1) (IntKind.wrap .i64 (Ym - (Y4.length : Int))) 0 (show 0 ≤ 0 from (by omega)) (Nat.lt_succ_self _)) h1) <| sK [] sN)) rfl (by kernel_rfl) (by kernel_rfl) rfl ?_ ?_
   · simp only [Z2d, h0, h1, cond_false]
   · rfl
theorem Zf4 (a : List (List Int)) (left : Int) (hb : ∀ t ∈ a, t.length ≤ 9223372036854775807) : ∀ (k : Nat) (l i : Int), 0 ≤ i → ((a.length : Int) - i).toNat < k → -1 ≤ l → l ≤ 1048576 →
    Z1D a left k l i = .inl () ∨ ∃ r, Z1D a left k l i = .inr r ∧ -1 ≤ r ∧ r ≤ l ∧ ∀ j, i.toNat ≤ j → j < a.length → ((a.getD j default).length : Int) ≤ l := by
  intro k
  induction k with
  | zero => intro l i h0 hk; exact absurd hk (Nat.not_lt_zero _)
  | succ k ih =>
    intro l i h0 hk h1 h2
    rw [Z1D]
    by_cases hi : i < (a.length : Int)
    · have hn : i.toNat < a.length := by omega
      rw [decide_eq_true hi, cond_true]
      have hm : (a.getD i.toNat default) ∈ a := by rw [List.getD_eq_getElem?_getD, List.getElem?_eq_getElem hn]; exact List.getElem_mem hn
      obtain ⟨q1, q2, q3⟩ := ZcY (a.getD i.toNat default) l (hb _ hm) h1 h2
      cases hc : decide (Z2b (a.getD i.toNat default) l < 0) with
      | true => left; rfl
      | false =>
        simp only [decide_eq_false_iff_not] at hc
        rw [cond_false]
        rcases ih (Z2b (a.getD i.toNat default) l) (i + 1) (by omega) (by omega) q1 (by omega) with e | ⟨r, e, r1, r2, r3⟩
        · left; exact e
        · right
          refine ⟨r, e, r1, by omega, fun j hj hjl => ?_⟩
          by_cases hji : j = i.toNat
          · subst hji; omega
          · have := r3 j (by omega) hjl; omega
    · rw [decide_eq_false hi, cond_false]
      exact .inr ⟨l, rfl, h1, Int.le_refl _, fun j hj hjl => by omega⟩
theorem ZcA (a : List (List Int)) (left : Int) (h0 : a.length ≤ 9223372036854775807) (hb : ∀ t ∈ a, t.length ≤ 9223372036854775807) (h1 : -1 ≤ left) (h2 : left ≤ 1048576) :
    -1 ≤ Z2d a left ∧ Z2d a left ≤ left ∧ (Z2d a left < 0 ∨ ((a.length : Int) ≤ left ∧ ∀ t ∈ a, (t.length : Int) ≤ left)) := by
  unfold Z2d Z3T
  rw [wrap_sub (by omega) (by omega)]
  cases h : decide (left - (a.length : Int) < 0) with
  | true => simp only [decide_eq_true_eq] at h; rw [cond_true]; omega
  | false =>
    simp only [decide_eq_false_iff_not] at h
    rw [cond_false]
    rcases Zf4 a left hb _ (left - (a.length : Int)) 0 (Int.le_refl _) (Nat.lt_succ_self _) (by omega) (by omega) with e | ⟨r, e, r1, r2, r3⟩
    · rw [e]; simp only; omega
    · rw [e]; simp only
      refine ⟨r1, by omega, .inr ⟨by omega, fun t ht => ?_⟩⟩
      obtain ⟨j, hj, rfl⟩ := List.getElem_of_mem ht
      have := r3 j (by simp) hj
      rw [List.getD_eq_getElem?_getD, List.getElem?_eq_getElem hj, Option.getD_some] at this
      omega
def ZT (Y4 : GMesh) (Ym : Int) : Int := (cond (decide ((ZY Y4.Places Ym) < 0))
  (-1)
  (cond (decide ((Z2d Y4.Triangles (ZY Y4.Places Ym)) < 0))
    (-1)
    (Z2d Y4.Triangles (ZY Y4.Places Ym))))
theorem Zew (Y4 : GMesh) (Ym : Int) (hp0 : Y4.Places.length ≤ 9223372036854775807) (hp1 : Y4.Triangles.length ≤ 9223372036854775807) (hp2 : ∀ t ∈ Y4.Triangles, t.length ≤ 9223372036854775807)  : Fn prog 47 [.agg [.sl (Y4.Places.map GVector.cells), .sl (Y4.Triangles.map (cL (cI .i64)))], .i .i64 Ym] (.i .i64 (ZT Y4 Ym)) [] := by
 have p {a C} (s : Scr a C) := sF (Z9N Y4.Places Ym hp0) <| s
 cases h0 : (decide ((ZY Y4.Places Ym) < 0)) with
 | true =>
  have gh0 := of_decide_eq_true h0
  refine fnS E0Ok Z5 (c := bodyOf f47) [] (.i .i64 (-1)) [] func47 (p (sB h0 <| sK [] sN)) rfl (by kernel_rfl) (by kernel_rfl) rfl ?_ ?_
  · simp only [ZT, h0, cond_true]
  · rfl
 | false =>
  have gh0 := of_decide_eq_false h0
  have q {a C} (s : Scr a C) := p (sB h0 <| sF (ZcZ Y4.Triangles (ZY Y4.Places Ym) hp1 hp2) <| s)
  clear p
  cases h1 : (decide ((Z2d Y4.Triangles (ZY Y4.Places Ym)) < 0)) with
  | true =>
   have gh1 := of_decide_eq_true h1
   refine fnS E0Ok Z5 (c := bodyOf f47) [] (.i .i64 (-1)) [] func47 (q (sB h1 <| sK [] sN)) rfl (by kernel_rfl) (by kernel_rfl) rfl ?_ ?_
   · simp only [ZT, h0, h1, cond_true, cond_false]
   · rfl
  | false =>
   have gh1 := of_decide_eq_false h1
   refine fnS E0Ok Z5 (c := bodyOf f47) [] (.i .i64 (Z2d Y4.Triangles (ZY Y4.Places Ym))) [] func47 (q (sB h1 <| sK [] sN)) rfl (by kernel_rfl) (by kernel_rfl) rfl ?_ ?_
   · simp only [ZT, h0, h1, cond_false]
   · rfl
theorem Ze1 (a : GMesh) (left : Int) (h0 : a.Places.length ≤ 9223372036854775807) (h3 : a.Triangles.length ≤ 9223372036854775807) (hb : ∀ t ∈ a.Triangles, t.length ≤ 9223372036854775807) (h1 : -1 ≤ left) (h2 : left ≤ 1048576) :
    -1 ≤ ZT a left ∧ ZT a left ≤ left ∧ (ZT a left < 0 ∨ (a.Places.length : Int) ≤ left) ∧ (ZT a left < 0 ∨ (a.Triangles.length : Int) ≤ left) ∧ ∀ t ∈ a.Triangles, ZT a left < 0 ∨ (t.length : Int) ≤ left := by
  have key : -1 ≤ ZT a left ∧ ZT a left ≤ left ∧ (ZT a left < 0 ∨ ((a.Places.length : Int) ≤ left ∧ (a.Triangles.length : Int) ≤ left ∧ ∀ t ∈ a.Triangles, (t.length : Int) ≤ left)) := by
    unfold ZT
    obtain ⟨p1, p2, p3⟩ := Z9t a.Places left h0 h1 h2
    cases h : decide (ZY a.Places left < 0) with
    | true => simp only [decide_eq_true_eq] at h; rw [cond_true]; refine ⟨by omega, by omega, .inl (by omega)⟩
    | false =>
      simp only [decide_eq_false_iff_not] at h
      rw [cond_false]
      obtain ⟨q1, q2, q3⟩ := ZcA a.Triangles (ZY a.Places left) h3 hb p1 (by omega)
      cases h' : decide (Z2d a.Triangles (ZY a.Places left) < 0) with
      | true => rw [cond_true]; exact ⟨by omega, by omega, .inl (by omega)⟩
      | false =>
        simp only [decide_eq_false_iff_not] at h'
        rw [cond_false]
        rcases q3 with q | ⟨qa, qb⟩
        · omega
        · exact ⟨q1, by omega, .inr ⟨by omega, by omega, fun t ht => by have := qb t ht; omega⟩⟩
  obtain ⟨k1, k2, k3⟩ := key
  rcases k3 with k3 | ⟨ka, kb, kc⟩
  · exact ⟨k1, k2, .inl k3, .inl k3, fun t ht => .inl k3⟩
  · exact ⟨k1, k2, .inr ka, .inr kb, fun t ht => .inr (kc t ht)⟩
def Z1z (Y4 : (List GSpring)) (Ym : Int) : Int := (cond (decide ((IntKind.wrap .i64 (Ym - (Y4.length : Int))) < 0))
  (-1)
  (IntKind.wrap .i64 (Ym - (Y4.length : Int))))
theorem Zd0 (Y4 : (List GSpring)) (Ym : Int) (hp0 : Y4.length ≤ 9223372036854775807)  : Fn prog 48 [.sl (Y4.map GSpring.cells), .i .i64 Ym] (.i .i64 (Z1z Y4 Ym)) [] := by
 have p {a C} (s : Scr a C) := sZ GSpring.cells Y4 <| sW .i64 (Ym - (Y4.length : Int)) <| s
 cases h0 : (decide ((IntKind.wrap .i64 (Ym - (Y4.length : Int))) < 0)) with
 | true =>
  have gh0 := of_decide_eq_true h0
  refine fnS E0Ok Z5 (c := bodyOf f48) [] (.i .i64 (-1)) [] func48 (p (sB h0 <| sK [] sN)) rfl (by kernel_rfl) (by kernel_rfl) rfl ?_ ?_
  · simp only [Z1z, h0, cond_true]
  · rfl
 | false =>
  have gh0 := of_decide_eq_false h0
  refine fnS E0Ok Z5 (c := bodyOf f48) [] (.i .i64 (IntKind.wrap .i64 (Ym - (Y4.length : Int)))) [] func48 (p (sB h0 <| sK [] sN)) rfl (by kernel_rfl) (by kernel_rfl) rfl ?_ ?_
  · simp only [Z1z, h0, cond_false]
  · rfl
theorem ZcB (a : List GSpring) (left : Int) (h0 : a.length ≤ 9223372036854775807) (h1 : -1 ≤ left) (h2 : left ≤ 1048576) : -1 ≤ Z1z a left ∧ Z1z a left ≤ left ∧ (Z1z a left < 0 ∨ (a.length : Int) ≤ left) := by
  unfold Z1z
  rw [wrap_sub (by omega) (by omega)]
  by_cases h : left - (a.length : Int) < 0
  · simp [h]; omega
  · simp [h]; omega
def Z2g (Y4 : (List Nat)) (Ym : Int) : Int := (cond (decide ((IntKind.wrap .i64 (Ym - (Y4.length : Int))) < 0))
  (-1)
  (IntKind.wrap .i64 (Ym - (Y4.length : Int))))
theorem ZcC (Y4 : (List Nat)) (Ym : Int) (hp0 : Y4.length ≤ 9223372036854775807)  : Fn prog 49 [.sl (Y4.map (cF .f32)), .i .i64 Ym] (.i .i64 (Z2g Y4 Ym)) [] := by
 have p {a C} (s : Scr a C) := sZ (cF .f32) Y4 <| sW .i64 (Ym - (Y4.length : Int)) <| s
 cases h0 : (decide ((IntKind.wrap .i64 (Ym - (Y4.length : Int))) < 0)) with
 | true =>
  have gh0 := of_decide_eq_true h0
  refine fnS E0Ok Z5 (c := bodyOf f49) [] (.i .i64 (-1)) [] func49 (p (sB h0 <| sK [] sN)) rfl (by kernel_rfl) (by kernel_rfl) rfl ?_ ?_
  · simp only [Z2g, h0, cond_true]
  · rfl
 | false =>
  have gh0 := of_decide_eq_false h0
  refine fnS E0Ok Z5 (c := bodyOf f49) [] (.i .i64 (IntKind.wrap .i64 (Ym - (Y4.length : Int)))) [] func49 (p (sB h0 <| sK [] sN)) rfl (by kernel_rfl) (by kernel_rfl) rfl ?_ ?_
  · simp only [Z2g, h0, cond_false]
  · rfl
theorem Zc0 (a : List Nat) (left : Int) (h0 : a.length ≤ 9223372036854775807) (h1 : -1 ≤ left) (h2 : left ≤ 1048576) : -1 ≤ Z2g a left ∧ Z2g a left ≤ left ∧ (Z2g a left < 0 ∨ (a.length : Int) ≤ left) := by
  unfold Z2g
  rw [wrap_sub (by omega) (by omega)]
  by_cases h : left - (a.length : Int) < 0
  · simp [h]; omega
  · simp [h]; omega
def Z1m (Y4 : GBody) (Ym : Int) : Int := (cond (decide ((ZT Y4.Mesh Ym) < 0))
  (-1)
  (cond (decide ((Z1z Y4.Springs (ZT Y4.Mesh Ym)) < 0))
    (-1)
    (cond (decide ((Z2g Y4.Weights (Z1z Y4.Springs (ZT Y4.Mesh Ym))) < 0))
      (-1)
      (Z2g Y4.Weights (Z1z Y4.Springs (ZT Y4.Mesh Ym))))))
theorem Zex (Y4 : GBody) (Ym : Int) (hp0 : Y4.Mesh.Places.length ≤ 9223372036854775807) (hp1 : Y4.Mesh.Triangles.length ≤ 9223372036854775807) (hp2 : ∀ t ∈ Y4.Mesh.Triangles, t.length ≤ 9223372036854775807) (hp3 : Y4.Springs.length ≤ 9223372036854775807) (hp4 : Y4.Weights.length ≤ 9223372036854775807)  : Fn prog 11 [.agg [.sl (Y4.Mesh.Places.map GVector.cells), .sl (Y4.Mesh.Triangles.map (cL (cI .i64))), .sl (Y4.Springs.map GSpring.cells), .f .f32 Y4.Film, .f .f32 Y4.Bend, .sl (Y4.Weights.map (cF .f32)), .f .f32 Y4.Fall.X, .f .f32 Y4.Fall.Y, .f .f32 Y4.Fall.Z], .i .i64 Ym] (.i .i64 (Z1m Y4 Ym)) [] := by
 have p {a C} (s : Scr a C) := sF (Zew Y4.Mesh Ym hp0 hp1 hp2) <| s
 cases h0 : (decide ((ZT Y4.Mesh Ym) < 0)) with
 | true =>
  have gh0 := of_decide_eq_true h0
  refine fnS E0Ok Z5 (c := bodyOf f11) [] (.i .i64 (-1)) [] func11 (p (sB h0 <| sK [] sN)) rfl (by kernel_rfl) (by kernel_rfl) rfl ?_ ?_
  · simp only [Z1m, h0, cond_true]
  · rfl
 | false =>
  have gh0 := of_decide_eq_false h0
  have q {a C} (s : Scr a C) := p (sB h0 <| sF (Zd0 Y4.Springs (ZT Y4.Mesh Ym) hp3) <| s)
  clear p
  cases h1 : (decide ((Z1z Y4.Springs (ZT Y4.Mesh Ym)) < 0)) with
  | true =>
   have gh1 := of_decide_eq_true h1
   refine fnS E0Ok Z5 (c := bodyOf f11) [] (.i .i64 (-1)) [] func11 (q (sB h1 <| sK [] sN)) rfl (by kernel_rfl) (by kernel_rfl) rfl ?_ ?_
   · simp only [Z1m, h0, h1, cond_true, cond_false]
   · rfl
  | false =>
   have gh1 := of_decide_eq_false h1
   have p {a C} (s : Scr a C) := q (sB h1 <| sF (ZcC Y4.Weights (Z1z Y4.Springs (ZT Y4.Mesh Ym)) hp4) <| s)
   clear q
   cases h2 : (decide ((Z2g Y4.Weights (Z1z Y4.Springs (ZT Y4.Mesh Ym))) < 0)) with
   | true =>
    have gh2 := of_decide_eq_true h2
    refine fnS E0Ok Z5 (c := bodyOf f11) [] (.i .i64 (-1)) [] func11 (p (sB h2 <| sK [] sN)) rfl (by kernel_rfl) (by kernel_rfl) rfl ?_ ?_
    · simp only [Z1m, h0, h1, h2, cond_true, cond_false]
    · rfl
   | false =>
    have gh2 := of_decide_eq_false h2
    refine fnS E0Ok Z5 (c := bodyOf f11) [] (.i .i64 (Z2g Y4.Weights (Z1z Y4.Springs (ZT Y4.Mesh Ym)))) [] func11 (p (sB h2 <| sK [] sN)) rfl (by kernel_rfl) (by kernel_rfl) rfl ?_ ?_
    · simp only [Z1m, h0, h1, h2, cond_false]
    · rfl
theorem Ze2 (a : GBody) (left : Int) (g0 : a.Mesh.Places.length ≤ 9223372036854775807) (g1 : a.Mesh.Triangles.length ≤ 9223372036854775807) (g2 : ∀ t ∈ a.Mesh.Triangles, t.length ≤ 9223372036854775807) (g3 : a.Springs.length ≤ 9223372036854775807) (g4 : a.Weights.length ≤ 9223372036854775807) (h1 : -1 ≤ left) (h2 : left ≤ 1048576) : -1 ≤ Z1m a left ∧ Z1m a left ≤ left ∧ (Z1m a left < 0 ∨ (a.Mesh.Places.length : Int) ≤ left) ∧ (Z1m a left < 0 ∨ (a.Mesh.Triangles.length : Int) ≤ left) ∧ (Z1m a left < 0 ∨ (a.Springs.length : Int) ≤ left) ∧ (Z1m a left < 0 ∨ (a.Weights.length : Int) ≤ left) ∧ ∀ t ∈ a.Mesh.Triangles, Z1m a left < 0 ∨ (t.length : Int) ≤ left := by
  unfold Z1m
  have p0 := Ze1 a.Mesh left g0 g1 g2 (by omega) (by omega)
  cases hc0 : decide (ZT a.Mesh left < 0) with
  | true =>
    simp only [decide_eq_true_eq] at hc0; rw [cond_true]; refine ⟨by omega, by omega, .inl (by omega), .inl (by omega), .inl (by omega), .inl (by omega), fun t ht => .inl (by omega)⟩
  | false =>
    simp only [decide_eq_false_iff_not] at hc0; rw [cond_false]
    have p1 := ZcB a.Springs (ZT a.Mesh left) g3 (by omega) (by omega)
    cases hc1 : decide (Z1z a.Springs (ZT a.Mesh left) < 0) with
    | true =>
      simp only [decide_eq_true_eq] at hc1; rw [cond_true]; refine ⟨by omega, by omega, .inl (by omega), .inl (by omega), .inl (by omega), .inl (by omega), fun t ht => .inl (by omega)⟩
    | false =>
      simp only [decide_eq_false_iff_not] at hc1; rw [cond_false]
      have p2 := Zc0 a.Weights (Z1z a.Springs (ZT a.Mesh left)) g4 (by omega) (by omega)
      cases hc2 : decide (Z2g a.Weights (Z1z a.Springs (ZT a.Mesh left)) < 0) with
      | true =>
        simp only [decide_eq_true_eq] at hc2; rw [cond_true]; refine ⟨by omega, by omega, .inl (by omega), .inl (by omega), .inl (by omega), .inl (by omega), fun t ht => .inl (by omega)⟩
      | false =>
        simp only [decide_eq_false_iff_not] at hc2; rw [cond_false]
        refine ⟨by omega, by omega, .inr (by omega), .inr (by omega), .inr (by omega), .inr (by omega), fun t ht => .inr (by have q := p0.2.2.2.2 t ht; omega)⟩
def Z1Q (Y4 : GMotion) (Ym : Int) : Int := (cond (decide ((Z1m Y4.Body Ym) < 0))
  (-1)
  (cond (decide ((ZY Y4.Speeds (Z1m Y4.Body Ym)) < 0))
    (-1)
    (ZY Y4.Speeds (Z1m Y4.Body Ym))))
theorem Zdy (Y4 : GMotion) (Ym : Int) (hp0 : Y4.Body.Mesh.Places.length ≤ 9223372036854775807) (hp1 : Y4.Body.Mesh.Triangles.length ≤ 9223372036854775807) (hp2 : ∀ t ∈ Y4.Body.Mesh.Triangles, t.length ≤ 9223372036854775807) (hp3 : Y4.Body.Springs.length ≤ 9223372036854775807) (hp4 : Y4.Body.Weights.length ≤ 9223372036854775807) (hp5 : Y4.Speeds.length ≤ 9223372036854775807)  : Fn prog 31 [.agg [.sl (Y4.Body.Mesh.Places.map GVector.cells), .sl (Y4.Body.Mesh.Triangles.map (cL (cI .i64))), .sl (Y4.Body.Springs.map GSpring.cells), .f .f32 Y4.Body.Film, .f .f32 Y4.Body.Bend, .sl (Y4.Body.Weights.map (cF .f32)), .f .f32 Y4.Body.Fall.X, .f .f32 Y4.Body.Fall.Y, .f .f32 Y4.Body.Fall.Z, .sl (Y4.Speeds.map GVector.cells)], .i .i64 Ym] (.i .i64 (Z1Q Y4 Ym)) [] := by
 have p {a C} (s : Scr a C) := sF (Zex Y4.Body Ym hp0 hp1 hp2 hp3 hp4) <| s
 cases h0 : (decide ((Z1m Y4.Body Ym) < 0)) with
 | true =>
  have gh0 := of_decide_eq_true h0
  refine fnS E0Ok Z5 (c := bodyOf f31) [] (.i .i64 (-1)) [] func31 (p (sB h0 <| sK [] sN)) rfl (by kernel_rfl) (by kernel_rfl) rfl ?_ ?_
  · simp only [Z1Q, h0, cond_true]
  · rfl
 | false =>
  have gh0 := of_decide_eq_false h0
  have q {a C} (s : Scr a C) := p (sB h0 <| sF (Z9N Y4.Speeds (Z1m Y4.Body Ym) hp5) <| s)
  clear p
  cases h1 : (decide ((ZY Y4.Speeds (Z1m Y4.Body Ym)) < 0)) with
  | true =>
   have gh1 := of_decide_eq_true h1
   refine fnS E0Ok Z5 (c := bodyOf f31) [] (.i .i64 (-1)) [] func31 (q (sB h1 <| sK [] sN)) rfl (by kernel_rfl) (by kernel_rfl) rfl ?_ ?_
   · simp only [Z1Q, h0, h1, cond_true, cond_false]
   · rfl
  | false =>
   have gh1 := of_decide_eq_false h1
   refine fnS E0Ok Z5 (c := bodyOf f31) [] (.i .i64 (ZY Y4.Speeds (Z1m Y4.Body Ym))) [] func31 (q (sB h1 <| sK [] sN)) rfl (by kernel_rfl) (by kernel_rfl) rfl ?_ ?_
   · simp only [Z1Q, h0, h1, cond_false]
   · rfl
theorem Z9O (a : GMotion) (left : Int) (g0 : a.Body.Mesh.Places.length ≤ 9223372036854775807) (g1 : a.Body.Mesh.Triangles.length ≤ 9223372036854775807) (g2 : ∀ t ∈ a.Body.Mesh.Triangles, t.length ≤ 9223372036854775807) (g3 : a.Body.Springs.length ≤ 9223372036854775807) (g4 : a.Body.Weights.length ≤ 9223372036854775807) (g5 : a.Speeds.length ≤ 9223372036854775807) (h1 : -1 ≤ left) (h2 : left ≤ 1048576) : -1 ≤ Z1Q a left ∧ Z1Q a left ≤ left ∧ (Z1Q a left < 0 ∨ (a.Body.Mesh.Places.length : Int) ≤ left) ∧ (Z1Q a left < 0 ∨ (a.Body.Mesh.Triangles.length : Int) ≤ left) ∧ (Z1Q a left < 0 ∨ (a.Body.Springs.length : Int) ≤ left) ∧ (Z1Q a left < 0 ∨ (a.Body.Weights.length : Int) ≤ left) ∧ (Z1Q a left < 0 ∨ (a.Speeds.length : Int) ≤ left) ∧ ∀ t ∈ a.Body.Mesh.Triangles, Z1Q a left < 0 ∨ (t.length : Int) ≤ left := by
  unfold Z1Q
  have p0 := Ze2 a.Body left g0 g1 g2 g3 g4 (by omega) (by omega)
  cases hc0 : decide (Z1m a.Body left < 0) with
  | true =>
    simp only [decide_eq_true_eq] at hc0; rw [cond_true]; refine ⟨by omega, by omega, .inl (by omega), .inl (by omega), .inl (by omega), .inl (by omega), .inl (by omega), fun t ht => .inl (by omega)⟩
  | false =>
    simp only [decide_eq_false_iff_not] at hc0; rw [cond_false]
    have p1 := Z9t a.Speeds (Z1m a.Body left) g5 (by omega) (by omega)
    cases hc1 : decide (ZY a.Speeds (Z1m a.Body left) < 0) with
    | true =>
      simp only [decide_eq_true_eq] at hc1; rw [cond_true]; refine ⟨by omega, by omega, .inl (by omega), .inl (by omega), .inl (by omega), .inl (by omega), .inl (by omega), fun t ht => .inl (by omega)⟩
    | false =>
      simp only [decide_eq_false_iff_not] at hc1; rw [cond_false]
      refine ⟨by omega, by omega, .inr (by omega), .inr (by omega), .inr (by omega), .inr (by omega), .inr (by omega), fun t ht => .inr (by have q := p0.2.2.2.2.2.2 t ht; omega)⟩
def Z6k (Y4 : GVector) : GVector := Y4
theorem Zdz (Y4 : GVector)   : Fn prog 55 [.agg [.f .f32 Y4.X, .f .f32 Y4.Y, .f .f32 Y4.Z]] (.agg [.f .f32 ((Z6k Y4).X), .f .f32 ((Z6k Y4).Y), .f .f32 ((Z6k Y4).Z)]) [] := by
 refine fnS E0Ok Z5 (c := bodyOf f55) [] (.agg [.f .f32 Y4.X, .f .f32 Y4.Y, .f .f32 Y4.Z]) [] func55 (sK [] sN) rfl (by kernel_rfl) (by kernel_rfl) rfl ?_ ?_
 · rfl
 · rfl
@[simp] theorem Zd1 (a : GVector) : Z6k a = a := rfl
theorem Zag (Y4 : GVector)  : Fn prog 55 [.agg [.f .f32 Y4.X, .f .f32 Y4.Y, .f .f32 Y4.Z]] (.agg [.f .f32 Y4.X, .f .f32 Y4.Y, .f .f32 Y4.Z]) [] := by
 simpa only [Zd1] using Zdz  Y4 
def Z2u (Y4 : (List GVector)) : Nat → Int → (List GVector) → (List GVector)
  | 0, _, _ => default
  | k + 1, Y7, Y5 => (cond (decide (Y7 < (Y4.length : Int)))
    (Z2u Y4 k (Y7 + 1) (Y5.set Y7.toNat (Y4.getD Y7.toNat default)))
    Y5)
def Z61 (Y4 : (List GVector)) (r : (List GVector)) : Ex × St := ((.exit 0), ⟨.sl (Y4.map GVector.cells) :: .any :: .nils :: .own 0 :: .any :: .sl (Y4.map GVector.cells) :: .i .i64 (Y4.length : Int) :: .own 0 :: an 15 [], [.vec 40 3 (r.map GVector.cells) false]⟩)
def Z62 (Y4 : (List GVector)) (Y7 : Int) (Y5 : (List GVector)) : St := ⟨.sl (Y4.map GVector.cells) :: .any :: .nils :: .own 0 :: .i .i64 Y7 :: .sl (Y4.map GVector.cells) :: .i .i64 (Y4.length : Int) :: .own 0 :: an 15 [], [.vec 40 3 (Y5.map GVector.cells) false]⟩
theorem Zbw (Y4 : (List GVector)) (hp0 : Y4.length ≤ 1073741824) : ∀ (k : Nat) (Y7 : Int) (Y5 : (List GVector)) (Z7n : 0 ≤ Y7) (Z7o : Y5.length = Y4.length) (hk : ((Y4.length : Int) - Y7).toNat < k), Lp prog 0 (sub (bodyOf f78) [1, 1, 0, 1, 0, 0]) (Z62 Y4 Y7 Y5) (Z61 Y4 (Z2u Y4 k Y7 Y5)).1 (Z61 Y4 (Z2u Y4 k Y7 Y5)).2 := by
 intro k
 induction k with
 | zero => intro Y7 Y5 Z7n Z7o hk; exact absurd hk (Nat.not_lt_zero _)
 | succ k ih =>
  intro Y7 Y5 Z7n Z7o hk
  have p {a C} (s : Scr a C) := sZ GVector.cells Y4 <| s
  cases Yl : (decide (Y7 < (Y4.length : Int))) with
  | true =>
   have Yw := of_decide_eq_true Yl
   have YF : (0 : Int) ≤ Y7 := by clear p; exact (by assumption)
   have YG : Y7 < (Y4.length : Int) := by clear p; exact (by assumption)
   have YH : Y7 < (Y5.length : Int) := by clear p; exact (by omega)
   have YI : Y7.toNat < Y5.length := by clear p; exact (by omega)
   have YP : (-9223372036854775808 : Int) ≤ (Y7 + 1) := by clear p; exact (by omega)
   have YS : (Y7 + 1) ≤ (9223372036854775807 : Int) := by clear p; exact (by omega)
   have e : Z2u Y4 (k + 1) Y7 Y5 = (Z2u Y4 k (Y7 + 1) (Y5.set Y7.toNat (Y4.getD Y7.toNat default))) := by simp only [Z2u, Yl, cond_true]
   rw [e]
   exact nextS E0Ok Z5 [] (mR false [0, 1, 1, 6, 15]) [0] (⟨.sl (Y4.map GVector.cells) :: .any :: .nils :: .own 0 :: .i .i64 (Y7 + 1) :: .sl (Y4.map GVector.cells) :: .i .i64 (Y4.length : Int) :: .own 0 :: an 15 [], [.vec 40 3 ((Y5.map GVector.cells).set Y7.toNat [.f .f32 ((Y4.getD Y7.toNat default).X), .f .f32 ((Y4.getD Y7.toNat default).Y), .f .f32 ((Y4.getD Y7.toNat default).Z)]) false]⟩) (p (sB Yl <| sG GVector.cells Y4 Y7 YF YG <| sF (Zag (Y4.getD Y7.toNat default)) <| sX GVector.cells Y5 Y7 YF YH <| sC (maplt (c := GVector.cells) (l := Y5) YI) <| sI (Y7 + 1) YP YS <| sN)) (by kernel_rfl) (by simp [Z62, List.map_set, GVector.cells]) (ih (Y7 + 1) (Y5.set Y7.toNat (Y4.getD Y7.toNat default)) (show 0 ≤ (Y7 + 1) from (by omega)) (show (Y5.set Y7.toNat (Y4.getD Y7.toNat default)).length = Y4.length from (by simp_all <;> omega)) (by omega))
  | false =>
   have Yw := of_decide_eq_false Yl
   have e : Z2u Y4 (k + 1) Y7 Y5 = Y5 := by simp only [Z2u, Yl, cond_false]
   rw [e]
   exact outR (e := (.exit 0)) E0Ok Z5 [] (mR false [0, 1, 1, 2, 1, 3, 15]) [0] (p (sB Yl <| sN)) (by kernel_rfl) (by intro h; cases h)
def Z4j (Y4 : (List GVector)) : (List GVector) := (Z2u Y4 (((Y4.length : Int) - 0).toNat + 1) 0 (List.replicate (Y4.length : Int).toNat (⟨0, 0, 0⟩ : GVector)))
def Z5B (Y4 : (List GVector)) : (List GVector) := (Z4j Y4)
theorem Zd2 (Y4 : (List GVector)) (hp0 : Y4.length ≤ 1073741824)  : Fn prog 78 [.sl (Y4.map GVector.cells)] (.own 0) [.vec 40 3 ((Z5B Y4).map GVector.cells) false] := by
 have y0 : (0 : Int) ≤ (Y4.length : Int) := (by omega)
 have y1 : ((Y4.length : Int) : Int) ≤ 2147483648 := (by omega)
 refine fnS E0Ok Z5 (c := bodyOf f78) [] (.own 0) [.vec 40 3 ((Z4j Y4).map GVector.cells) false] func78 (sZ GVector.cells Y4 <| sC (show (Y4.length : Int) = (Y4.length : Int) from rfl) <| sC y0 <| sC y1 <| sL (mR false [0, 1, 1, 6, 15]) 1 (lp_cast (st2 := ⟨.sl (Y4.map GVector.cells) :: .any :: .nils :: .own 0 :: .i .i64 0 :: .sl (Y4.map GVector.cells) :: .i .i64 (Y4.length : Int) :: .own 0 :: an 15 [], [.vec 40 3 (List.replicate (Int.toNat (Y4.length : Int)) [.f .f32 0, .f .f32 0, .f .f32 0]) false]⟩) (lp_val (Z61 Y4) (x := (Z4j Y4)) (Zbw Y4 hp0 (((Y4.length : Int) - 0).toNat + 1) 0 (List.replicate (Y4.length : Int).toNat (⟨0, 0, 0⟩ : GVector)) (show 0 ≤ 0 from (by omega)) (show (List.replicate (Y4.length : Int).toNat (⟨0, 0, 0⟩ : GVector)).length = Y4.length from (by simp)) (Nat.lt_succ_self _)) rfl) (by simp [Z62, GVector.cells])) <| sK [0] sN) rfl (by kernel_rfl) (by kernel_rfl) rfl ?_ ?_
 · rfl
 · simp [Z5B]
@[simp] theorem ZcD (a : List GVector) : Z5B a = a := by
  unfold Z5B Z4j
  rw [copy_all (f := id) (a := a) (lo := Z2u a) (fun k i r => rfl)]
  exact List.map_id a
theorem Z9P (Y4 : (List GVector)) (hp0 : Y4.length ≤ 1073741824) : Fn prog 78 [.sl (Y4.map GVector.cells)] (.own 0) [.vec 40 3 (Y4.map GVector.cells) false] := by
 simpa only [ZcD] using Zd2  Y4 hp0
def Z2E (Y4 : (List Int)) : Nat → Int → (List Int) → (List Int)
  | 0, _, _ => default
  | k + 1, Y7, Y5 => (cond (decide (Y7 < (Y4.length : Int)))
    (Z2E Y4 k (Y7 + 1) (Y5.set Y7.toNat (Y4.getD Y7.toNat default)))
    Y5)
def Z6w (Y4 : (List Int)) (r : (List Int)) : Ex × St := ((.exit 0), ⟨.sl (Y4.map (cI .i64)) :: .any :: .nils :: .own 0 :: .any :: .sl (Y4.map (cI .i64)) :: .i .i64 (Y4.length : Int) :: .own 0 :: an 14 [], [.vec 2 1 (r.map (cI .i64)) false]⟩)
def Z6x (Y4 : (List Int)) (Y7 : Int) (Y5 : (List Int)) : St := ⟨.sl (Y4.map (cI .i64)) :: .any :: .nils :: .own 0 :: .i .i64 Y7 :: .sl (Y4.map (cI .i64)) :: .i .i64 (Y4.length : Int) :: .own 0 :: an 14 [], [.vec 2 1 (Y5.map (cI .i64)) false]⟩
theorem Zc1 (Y4 : (List Int)) (hp0 : Y4.length ≤ 1073741824) : ∀ (k : Nat) (Y7 : Int) (Y5 : (List Int)) (Z7S : 0 ≤ Y7) (Z7T : Y5.length = Y4.length) (hk : ((Y4.length : Int) - Y7).toNat < k), Lp prog 0 (sub (bodyOf f21) [1, 1, 0, 1, 0, 0]) (Z6x Y4 Y7 Y5) (Z6w Y4 (Z2E Y4 k Y7 Y5)).1 (Z6w Y4 (Z2E Y4 k Y7 Y5)).2 := by
 intro k
 induction k with
 | zero => intro Y7 Y5 Z7S Z7T hk; exact absurd hk (Nat.not_lt_zero _)
 | succ k ih =>
  intro Y7 Y5 Z7S Z7T hk
  have p {a C} (s : Scr a C) := sZ (cI .i64) Y4 <| s
  cases Yl : (decide (Y7 < (Y4.length : Int))) with
  | true =>
   have Yw := of_decide_eq_true Yl
   have YF : (0 : Int) ≤ Y7 := by clear p; exact (by assumption)
   have YG : Y7 < (Y4.length : Int) := by clear p; exact (by assumption)
   have YH : Y7 < (Y5.length : Int) := by clear p; exact (by omega)
   have YI : Y7.toNat < Y5.length := by clear p; exact (by omega)
   have YP : (-9223372036854775808 : Int) ≤ (Y7 + 1) := by clear p; exact (by omega)
   have YS : (Y7 + 1) ≤ (9223372036854775807 : Int) := by clear p; exact (by omega)
   have e : Z2E Y4 (k + 1) Y7 Y5 = (Z2E Y4 k (Y7 + 1) (Y5.set Y7.toNat (Y4.getD Y7.toNat default))) := by simp only [Z2E, Yl, cond_true]
   rw [e]
   exact nextS E0Ok Z5 [] (mR false [0, 1, 1, 6, 14]) [0] (⟨.sl (Y4.map (cI .i64)) :: .any :: .nils :: .own 0 :: .i .i64 (Y7 + 1) :: .sl (Y4.map (cI .i64)) :: .i .i64 (Y4.length : Int) :: .own 0 :: an 14 [], [.vec 2 1 ((Y5.map (cI .i64)).set Y7.toNat [.i .i64 (Y4.getD Y7.toNat default)]) false]⟩) (p (sB Yl <| sG (cI .i64) Y4 Y7 YF YG <| sX (cI .i64) Y5 Y7 YF YH <| sC (maplt (c := (cI .i64)) (l := Y5) YI) <| sI (Y7 + 1) YP YS <| sN)) (by kernel_rfl) (by simp [Z6x, List.map_set, cI]) (ih (Y7 + 1) (Y5.set Y7.toNat (Y4.getD Y7.toNat default)) (show 0 ≤ (Y7 + 1) from (by omega)) (show (Y5.set Y7.toNat (Y4.getD Y7.toNat default)).length = Y4.length from (by simp_all <;> omega)) (by omega))
  | false =>
   have Yw := of_decide_eq_false Yl
   have e : Z2E Y4 (k + 1) Y7 Y5 = Y5 := by simp only [Z2E, Yl, cond_false]
   rw [e]
   exact outR (e := (.exit 0)) E0Ok Z5 [] (mR false [0, 1, 1, 2, 1, 3, 14]) [0] (p (sB Yl <| sN)) (by kernel_rfl) (by intro h; cases h)
def Z4B (Y4 : (List Int)) : (List Int) := (Z2E Y4 (((Y4.length : Int) - 0).toNat + 1) 0 (List.replicate (Y4.length : Int).toNat 0))
def Z6l (Y4 : (List Int)) : (List Int) := (Z4B Y4)
theorem ZdA (Y4 : (List Int)) (hp0 : Y4.length ≤ 1073741824)  : Fn prog 21 [.sl (Y4.map (cI .i64))] (.own 0) [.vec 2 1 ((Z6l Y4).map (cI .i64)) false] := by
 have y0 : (0 : Int) ≤ (Y4.length : Int) := (by omega)
 have y1 : ((Y4.length : Int) : Int) ≤ 2147483648 := (by omega)
 refine fnS E0Ok Z5 (c := bodyOf f21) [] (.own 0) [.vec 2 1 ((Z4B Y4).map (cI .i64)) false] func21 (sZ (cI .i64) Y4 <| sC (show (Y4.length : Int) = (Y4.length : Int) from rfl) <| sC y0 <| sC y1 <| sL (mR false [0, 1, 1, 6, 14]) 1 (lp_cast (st2 := ⟨.sl (Y4.map (cI .i64)) :: .any :: .nils :: .own 0 :: .i .i64 0 :: .sl (Y4.map (cI .i64)) :: .i .i64 (Y4.length : Int) :: .own 0 :: an 14 [], [.vec 2 1 (List.replicate (Int.toNat (Y4.length : Int)) [.i .i64 0]) false]⟩) (lp_val (Z6w Y4) (x := (Z4B Y4)) (Zc1 Y4 hp0 (((Y4.length : Int) - 0).toNat + 1) 0 (List.replicate (Y4.length : Int).toNat 0) (show 0 ≤ 0 from (by omega)) (show (List.replicate (Y4.length : Int).toNat 0).length = Y4.length from (by simp)) (Nat.lt_succ_self _)) rfl) (by simp [Z6x, cI])) <| sK [0] sN) rfl (by kernel_rfl) (by kernel_rfl) rfl ?_ ?_
 · rfl
 · simp [Z6l]
@[simp] theorem Zd3 (a : List Int) : Z6l a = a := by
  unfold Z6l Z4B
  rw [copy_all (f := id) (a := a) (lo := Z2E a) (fun k i r => rfl)]
  exact List.map_id a
theorem Z54 (Y4 : (List Int)) (hp0 : Y4.length ≤ 1073741824) : Fn prog 21 [.sl (Y4.map (cI .i64))] (.own 0) [.vec 2 1 (Y4.map (cI .i64)) false] := by
 simpa only [Zd3] using ZdA  Y4 hp0
def Z2v (Y4 : (List (List Int))) : Nat → Int → (List (List Int)) → (List (List Int))
  | 0, _, _ => default
  | k + 1, Y7, Y5 => (cond (decide (Y7 < (Y4.length : Int)))
    (Z2v Y4 k (Y7 + 1) (Y5.set Y7.toNat (Y4.getD Y7.toNat default)))
    Y5)
def Z63 (Y4 : (List (List Int))) (r : (List (List Int))) : Ex × St := ((.exit 0), ⟨.sl (Y4.map (cL (cI .i64))) :: .any :: .nils :: .own 0 :: .any :: .sl (Y4.map (cL (cI .i64))) :: .i .i64 (Y4.length : Int) :: .own 0 :: an 15 [], [.nest 49 (r.map fun l => l.map (cI .i64)) false]⟩)
def Z64 (Y4 : (List (List Int))) (Y7 : Int) (Y5 : (List (List Int))) : St := ⟨.sl (Y4.map (cL (cI .i64))) :: .any :: .nils :: .own 0 :: .i .i64 Y7 :: .sl (Y4.map (cL (cI .i64))) :: .i .i64 (Y4.length : Int) :: .own 0 :: an 15 [], [.nest 49 (Y5.map fun l => l.map (cI .i64)) false]⟩
theorem Zbx (Y4 : (List (List Int))) (hp0 : Y4.length ≤ 1073741824) (hp1 : ∀ t ∈ Y4, t.length ≤ 1073741824) : ∀ (k : Nat) (Y7 : Int) (Y5 : (List (List Int))) (Z7p : 0 ≤ Y7) (Z7q : Y5.length = Y4.length) (hk : ((Y4.length : Int) - Y7).toNat < k), Lp prog 0 (sub (bodyOf f103) [1, 1, 0, 1, 0, 0]) (Z64 Y4 Y7 Y5) (Z63 Y4 (Z2v Y4 k Y7 Y5)).1 (Z63 Y4 (Z2v Y4 k Y7 Y5)).2 := by
 intro k
 induction k with
 | zero => intro Y7 Y5 Z7p Z7q hk; exact absurd hk (Nat.not_lt_zero _)
 | succ k ih =>
  intro Y7 Y5 Z7p Z7q hk
  have p {a C} (s : Scr a C) := sZ (cL (cI .i64)) Y4 <| s
  cases Yl : (decide (Y7 < (Y4.length : Int))) with
  | true =>
   have Yw := of_decide_eq_true Yl
   have YF : (0 : Int) ≤ Y7 := by clear p; exact (by assumption)
   have YG : Y7 < (Y4.length : Int) := by clear p; exact (by assumption)
   have YH : (Y4.getD Y7.toNat default).length ≤ 1073741824 := by clear p; exact (by simp_all <;> omega)
   have YI : Int.toNat Y7 < Y5.length := by clear p; exact (by omega)
   have YP : Y7.toNat < Y5.length := by clear p; exact (by assumption)
   have YS : (-9223372036854775808 : Int) ≤ (Y7 + 1) := by clear p; exact (by omega)
   have y_6 : (Y7 + 1) ≤ (9223372036854775807 : Int) := by clear p; exact (by omega)
   have e : Z2v Y4 (k + 1) Y7 Y5 = (Z2v Y4 k (Y7 + 1) (Y5.set Y7.toNat (Y4.getD Y7.toNat default))) := by simp only [Z2v, Yl, cond_true]
   rw [e]
   exact nextS E0Ok Z5 [] (mR false [0, 1, 1, 6, 15]) [0] (⟨.sl (Y4.map (cL (cI .i64))) :: .any :: .nils :: .own 0 :: .i .i64 (Y7 + 1) :: .sl (Y4.map (cL (cI .i64))) :: .i .i64 (Y4.length : Int) :: .own 0 :: an 15 [], [.nest 49 ((Y5.map fun l => l.map (cI .i64)).set Y7.toNat ((Y4.getD Y7.toNat default).map (cI .i64))) false]⟩) (p (sB Yl <| sG (cL (cI .i64)) Y4 Y7 YF YG <| sF (Z54 (Y4.getD Y7.toNat default) YH) <| sC (nestix (c := (cI .i64)) (l := Y5) (i := Y7) YF YI) <| sC (show Y7.toNat < (Y5.map fun l => l.map (cI .i64)).length from (by simpa using YP)) <| sI (Y7 + 1) YS y_6 <| sN)) (by kernel_rfl) (by simp [Z64, List.map_set, cL, cI]) (ih (Y7 + 1) (Y5.set Y7.toNat (Y4.getD Y7.toNat default)) (show 0 ≤ (Y7 + 1) from (by omega)) (show (Y5.set Y7.toNat (Y4.getD Y7.toNat default)).length = Y4.length from (by simp_all <;> omega)) (by omega))
  | false =>
   have Yw := of_decide_eq_false Yl
   have e : Z2v Y4 (k + 1) Y7 Y5 = Y5 := by simp only [Z2v, Yl, cond_false]
   rw [e]
   exact outR (e := (.exit 0)) E0Ok Z5 [] (mR false [0, 1, 1, 2, 1, 3, 15]) [0] (p (sB Yl <| sN)) (by kernel_rfl) (by intro h; cases h)
def Z4k (Y4 : (List (List Int))) : (List (List Int)) := (Z2v Y4 (((Y4.length : Int) - 0).toNat + 1) 0 (List.replicate (Y4.length : Int).toNat ([] : (List Int))))
def Z5C (Y4 : (List (List Int))) : (List (List Int)) := (Z4k Y4)
theorem Zd4 (Y4 : (List (List Int))) (hp0 : Y4.length ≤ 1073741824) (hp1 : ∀ t ∈ Y4, t.length ≤ 1073741824)  : Fn prog 103 [.sl (Y4.map (cL (cI .i64)))] (.own 0) [.nest 49 ((Z5C Y4).map fun l => l.map (cI .i64)) false] := by
 have y0 : (0 : Int) ≤ (Y4.length : Int) := (by omega)
 have y1 : ((Y4.length : Int) : Int) ≤ 2147483648 := (by omega)
 refine fnS E0Ok Z5 (c := bodyOf f103) [] (.own 0) [.nest 49 ((Z4k Y4).map fun l => l.map (cI .i64)) false] func103 (sZ (cL (cI .i64)) Y4 <| sC (show (Y4.length : Int) = (Y4.length : Int) from rfl) <| sC y0 <| sC y1 <| sL (mR false [0, 1, 1, 6, 15]) 1 (lp_cast (st2 := ⟨.sl (Y4.map (cL (cI .i64))) :: .any :: .nils :: .own 0 :: .i .i64 0 :: .sl (Y4.map (cL (cI .i64))) :: .i .i64 (Y4.length : Int) :: .own 0 :: an 15 [], [.nest 49 (List.replicate (Y4.length : Int).toNat []) false]⟩) (lp_val (Z63 Y4) (x := (Z4k Y4)) (Zbx Y4 hp0 hp1 (((Y4.length : Int) - 0).toNat + 1) 0 (List.replicate (Y4.length : Int).toNat ([] : (List Int))) (show 0 ≤ 0 from (by omega)) (show (List.replicate (Y4.length : Int).toNat ([] : (List Int))).length = Y4.length from (by simp)) (Nat.lt_succ_self _)) rfl) (by simp [Z64, cL, cI])) <| sK [0] sN) rfl (by kernel_rfl) (by kernel_rfl) rfl ?_ ?_
 · rfl
 · simp [Z5C]
@[simp] theorem ZcE (a : List (List Int)) : Z5C a = a := by
  unfold Z5C Z4k
  rw [copy_all (f := id) (a := a) (lo := Z2v a) (fun k i r => rfl)]
  exact List.map_id a
theorem Zd5 (Y4 : (List (List Int))) (hp0 : Y4.length ≤ 1073741824) (hp1 : ∀ t ∈ Y4, t.length ≤ 1073741824) : Fn prog 103 [.sl (Y4.map (cL (cI .i64)))] (.own 0) [.nest 49 (Y4.map fun l => l.map (cI .i64)) false] := by
 simpa only [ZcE] using Zd4  Y4 hp0 hp1
def Z5R (Y4 : GMesh) : GMesh := Y4
theorem Zey (Y4 : GMesh) (hp0 : Y4.Places.length ≤ 1073741824) (hp1 : Y4.Triangles.length ≤ 1073741824) (hp2 : ∀ t ∈ Y4.Triangles, t.length ≤ 1073741824)  : Fn prog 52 [.agg [.sl (Y4.Places.map GVector.cells), .sl (Y4.Triangles.map (cL (cI .i64)))]] (.agg [.own 0, .own 1]) [.vec 40 3 (((Z5R Y4).Places).map GVector.cells) false, .nest 49 (((Z5R Y4).Triangles).map fun l => l.map (cI .i64)) false] := by
 refine fnS E0Ok Z5 (c := bodyOf f52) [] (.agg [.own 0, .own 1]) [.vec 40 3 (Y4.Places.map GVector.cells) false, .nest 49 (Y4.Triangles.map fun l => l.map (cI .i64)) false] func52 (sF (Z9P Y4.Places hp0) <| sF (Zd5 Y4.Triangles hp1 hp2) <| sK [3, 4] sN) rfl (by kernel_rfl) (by kernel_rfl) rfl ?_ ?_
 · rfl
 · simp [Z5R]
@[simp] theorem Ze3 (a : GMesh) : Z5R a = a := by
  simp [Z5R]
theorem Zez (Y4 : GMesh) (hp0 : Y4.Places.length ≤ 1073741824) (hp1 : Y4.Triangles.length ≤ 1073741824) (hp2 : ∀ t ∈ Y4.Triangles, t.length ≤ 1073741824) : Fn prog 52 [.agg [.sl (Y4.Places.map GVector.cells), .sl (Y4.Triangles.map (cL (cI .i64)))]] (.agg [.own 0, .own 1]) [.vec 40 3 (Y4.Places.map GVector.cells) false, .nest 49 (Y4.Triangles.map fun l => l.map (cI .i64)) false] := by
 simpa only [Ze3] using Zey  Y4 hp0 hp1 hp2
def Z55 (Y4 : GSpring) : GSpring := Y4
theorem ZdB (Y4 : GSpring)   : Fn prog 104 [.agg [.i .i64 Y4.A, .i .i64 Y4.B, .f .f32 Y4.Long, .f .f32 Y4.Stiff]] (.agg [.i .i64 ((Z55 Y4).A), .i .i64 ((Z55 Y4).B), .f .f32 ((Z55 Y4).Long), .f .f32 ((Z55 Y4).Stiff)]) [] := by
 refine fnS E0Ok Z5 (c := bodyOf f104) [] (.agg [.i .i64 Y4.A, .i .i64 Y4.B, .f .f32 Y4.Long, .f .f32 Y4.Stiff]) [] func104 (sK [] sN) rfl (by kernel_rfl) (by kernel_rfl) rfl ?_ ?_
 · rfl
 · rfl
@[simp] theorem Zd6 (a : GSpring) : Z55 a = a := rfl
theorem ZdC (Y4 : GSpring)  : Fn prog 104 [.agg [.i .i64 Y4.A, .i .i64 Y4.B, .f .f32 Y4.Long, .f .f32 Y4.Stiff]] (.agg [.i .i64 Y4.A, .i .i64 Y4.B, .f .f32 Y4.Long, .f .f32 Y4.Stiff]) [] := by
 simpa only [Zd6] using ZdB  Y4 
def Z2w (Y4 : (List GSpring)) : Nat → Int → (List GSpring) → (List GSpring)
  | 0, _, _ => default
  | k + 1, Y7, Y5 => (cond (decide (Y7 < (Y4.length : Int)))
    (Z2w Y4 k (Y7 + 1) (Y5.set Y7.toNat (Y4.getD Y7.toNat default)))
    Y5)
def Z65 (Y4 : (List GSpring)) (r : (List GSpring)) : Ex × St := ((.exit 0), ⟨.sl (Y4.map GSpring.cells) :: .any :: .nils :: .own 0 :: .any :: .sl (Y4.map GSpring.cells) :: .i .i64 (Y4.length : Int) :: .own 0 :: an 15 [], [.vec 133 4 (r.map GSpring.cells) false]⟩)
def Z66 (Y4 : (List GSpring)) (Y7 : Int) (Y5 : (List GSpring)) : St := ⟨.sl (Y4.map GSpring.cells) :: .any :: .nils :: .own 0 :: .i .i64 Y7 :: .sl (Y4.map GSpring.cells) :: .i .i64 (Y4.length : Int) :: .own 0 :: an 15 [], [.vec 133 4 (Y5.map GSpring.cells) false]⟩
theorem Zby (Y4 : (List GSpring)) (hp0 : Y4.length ≤ 1073741824) : ∀ (k : Nat) (Y7 : Int) (Y5 : (List GSpring)) (Z7r : 0 ≤ Y7) (Z7s : Y5.length = Y4.length) (hk : ((Y4.length : Int) - Y7).toNat < k), Lp prog 0 (sub (bodyOf f53) [1, 1, 0, 1, 0, 0]) (Z66 Y4 Y7 Y5) (Z65 Y4 (Z2w Y4 k Y7 Y5)).1 (Z65 Y4 (Z2w Y4 k Y7 Y5)).2 := by
 intro k
 induction k with
 | zero => intro Y7 Y5 Z7r Z7s hk; exact absurd hk (Nat.not_lt_zero _)
 | succ k ih =>
  intro Y7 Y5 Z7r Z7s hk
  have p {a C} (s : Scr a C) := sZ GSpring.cells Y4 <| s
  cases Yl : (decide (Y7 < (Y4.length : Int))) with
  | true =>
   have Yw := of_decide_eq_true Yl
   have YF : (0 : Int) ≤ Y7 := by clear p; exact (by assumption)
   have YG : Y7 < (Y4.length : Int) := by clear p; exact (by assumption)
   have YH : Y7 < (Y5.length : Int) := by clear p; exact (by omega)
   have YI : Y7.toNat < Y5.length := by clear p; exact (by omega)
   have YP : (-9223372036854775808 : Int) ≤ (Y7 + 1) := by clear p; exact (by omega)
   have YS : (Y7 + 1) ≤ (9223372036854775807 : Int) := by clear p; exact (by omega)
   have e : Z2w Y4 (k + 1) Y7 Y5 = (Z2w Y4 k (Y7 + 1) (Y5.set Y7.toNat (Y4.getD Y7.toNat default))) := by simp only [Z2w, Yl, cond_true]
   rw [e]
   exact nextS E0Ok Z5 [] (mR false [0, 1, 1, 6, 15]) [0] (⟨.sl (Y4.map GSpring.cells) :: .any :: .nils :: .own 0 :: .i .i64 (Y7 + 1) :: .sl (Y4.map GSpring.cells) :: .i .i64 (Y4.length : Int) :: .own 0 :: an 15 [], [.vec 133 4 ((Y5.map GSpring.cells).set Y7.toNat [.i .i64 ((Y4.getD Y7.toNat default).A), .i .i64 ((Y4.getD Y7.toNat default).B), .f .f32 ((Y4.getD Y7.toNat default).Long), .f .f32 ((Y4.getD Y7.toNat default).Stiff)]) false]⟩) (p (sB Yl <| sG GSpring.cells Y4 Y7 YF YG <| sF (ZdC (Y4.getD Y7.toNat default)) <| sX GSpring.cells Y5 Y7 YF YH <| sC (maplt (c := GSpring.cells) (l := Y5) YI) <| sI (Y7 + 1) YP YS <| sN)) (by kernel_rfl) (by simp [Z66, List.map_set, GSpring.cells]) (ih (Y7 + 1) (Y5.set Y7.toNat (Y4.getD Y7.toNat default)) (show 0 ≤ (Y7 + 1) from (by omega)) (show (Y5.set Y7.toNat (Y4.getD Y7.toNat default)).length = Y4.length from (by simp_all <;> omega)) (by omega))
  | false =>
   have Yw := of_decide_eq_false Yl
   have e : Z2w Y4 (k + 1) Y7 Y5 = Y5 := by simp only [Z2w, Yl, cond_false]
   rw [e]
   exact outR (e := (.exit 0)) E0Ok Z5 [] (mR false [0, 1, 1, 2, 1, 3, 15]) [0] (p (sB Yl <| sN)) (by kernel_rfl) (by intro h; cases h)
def Z4l (Y4 : (List GSpring)) : (List GSpring) := (Z2w Y4 (((Y4.length : Int) - 0).toNat + 1) 0 (List.replicate (Y4.length : Int).toNat (⟨0, 0, 0, 0⟩ : GSpring)))
def Z5D (Y4 : (List GSpring)) : (List GSpring) := (Z4l Y4)
theorem Zd7 (Y4 : (List GSpring)) (hp0 : Y4.length ≤ 1073741824)  : Fn prog 53 [.sl (Y4.map GSpring.cells)] (.own 0) [.vec 133 4 ((Z5D Y4).map GSpring.cells) false] := by
 have y0 : (0 : Int) ≤ (Y4.length : Int) := (by omega)
 have y1 : ((Y4.length : Int) : Int) ≤ 2147483648 := (by omega)
 refine fnS E0Ok Z5 (c := bodyOf f53) [] (.own 0) [.vec 133 4 ((Z4l Y4).map GSpring.cells) false] func53 (sZ GSpring.cells Y4 <| sC (show (Y4.length : Int) = (Y4.length : Int) from rfl) <| sC y0 <| sC y1 <| sL (mR false [0, 1, 1, 6, 15]) 1 (lp_cast (st2 := ⟨.sl (Y4.map GSpring.cells) :: .any :: .nils :: .own 0 :: .i .i64 0 :: .sl (Y4.map GSpring.cells) :: .i .i64 (Y4.length : Int) :: .own 0 :: an 15 [], [.vec 133 4 (List.replicate (Int.toNat (Y4.length : Int)) [.i .i64 0, .i .i64 0, .f .f32 0, .f .f32 0]) false]⟩) (lp_val (Z65 Y4) (x := (Z4l Y4)) (Zby Y4 hp0 (((Y4.length : Int) - 0).toNat + 1) 0 (List.replicate (Y4.length : Int).toNat (⟨0, 0, 0, 0⟩ : GSpring)) (show 0 ≤ 0 from (by omega)) (show (List.replicate (Y4.length : Int).toNat (⟨0, 0, 0, 0⟩ : GSpring)).length = Y4.length from (by simp)) (Nat.lt_succ_self _)) rfl) (by simp [Z66, GSpring.cells])) <| sK [0] sN) rfl (by kernel_rfl) (by kernel_rfl) rfl ?_ ?_
 · rfl
 · simp [Z5D]
@[simp] theorem ZcF (a : List GSpring) : Z5D a = a := by
  unfold Z5D Z4l
  rw [copy_all (f := id) (a := a) (lo := Z2w a) (fun k i r => rfl)]
  exact List.map_id a
theorem Zd8 (Y4 : (List GSpring)) (hp0 : Y4.length ≤ 1073741824) : Fn prog 53 [.sl (Y4.map GSpring.cells)] (.own 0) [.vec 133 4 (Y4.map GSpring.cells) false] := by
 simpa only [ZcF] using Zd7  Y4 hp0
def Z2h (Y4 : (List Nat)) : Nat → Int → (List Nat) → (List Nat)
  | 0, _, _ => default
  | k + 1, Y7, Y5 => (cond (decide (Y7 < (Y4.length : Int)))
    (Z2h Y4 k (Y7 + 1) (Y5.set Y7.toNat (Y4.getD Y7.toNat default)))
    Y5)
def Z5E (Y4 : (List Nat)) (r : (List Nat)) : Ex × St := ((.exit 0), ⟨.sl (Y4.map (cF .f32)) :: .any :: .nils :: .own 0 :: .any :: .sl (Y4.map (cF .f32)) :: .i .i64 (Y4.length : Int) :: .own 0 :: an 14 [], [.vec 27 1 (r.map (cF .f32)) false]⟩)
def Z5F (Y4 : (List Nat)) (Y7 : Int) (Y5 : (List Nat)) : St := ⟨.sl (Y4.map (cF .f32)) :: .any :: .nils :: .own 0 :: .i .i64 Y7 :: .sl (Y4.map (cF .f32)) :: .i .i64 (Y4.length : Int) :: .own 0 :: an 14 [], [.vec 27 1 (Y5.map (cF .f32)) false]⟩
theorem Zb3 (Y4 : (List Nat)) (hp0 : Y4.length ≤ 1073741824) : ∀ (k : Nat) (Y7 : Int) (Y5 : (List Nat)) (Z71 : 0 ≤ Y7) (Z72 : Y5.length = Y4.length) (hk : ((Y4.length : Int) - Y7).toNat < k), Lp prog 0 (sub (bodyOf f54) [1, 1, 0, 1, 0, 0]) (Z5F Y4 Y7 Y5) (Z5E Y4 (Z2h Y4 k Y7 Y5)).1 (Z5E Y4 (Z2h Y4 k Y7 Y5)).2 := by
 intro k
 induction k with
 | zero => intro Y7 Y5 Z71 Z72 hk; exact absurd hk (Nat.not_lt_zero _)
 | succ k ih =>
  intro Y7 Y5 Z71 Z72 hk
  have p {a C} (s : Scr a C) := sZ (cF .f32) Y4 <| s
  cases Yl : (decide (Y7 < (Y4.length : Int))) with
  | true =>
   have Yw := of_decide_eq_true Yl
   have YF : (0 : Int) ≤ Y7 := by clear p; exact (by assumption)
   have YG : Y7 < (Y4.length : Int) := by clear p; exact (by assumption)
   have YH : Y7 < (Y5.length : Int) := by clear p; exact (by omega)
   have YI : Y7.toNat < Y5.length := by clear p; exact (by omega)
   have YP : (-9223372036854775808 : Int) ≤ (Y7 + 1) := by clear p; exact (by omega)
   have YS : (Y7 + 1) ≤ (9223372036854775807 : Int) := by clear p; exact (by omega)
   have e : Z2h Y4 (k + 1) Y7 Y5 = (Z2h Y4 k (Y7 + 1) (Y5.set Y7.toNat (Y4.getD Y7.toNat default))) := by simp only [Z2h, Yl, cond_true]
   rw [e]
   exact nextS E0Ok Z5 [] (mR false [0, 1, 1, 6, 14]) [0] (⟨.sl (Y4.map (cF .f32)) :: .any :: .nils :: .own 0 :: .i .i64 (Y7 + 1) :: .sl (Y4.map (cF .f32)) :: .i .i64 (Y4.length : Int) :: .own 0 :: an 14 [], [.vec 27 1 ((Y5.map (cF .f32)).set Y7.toNat [.f .f32 (Y4.getD Y7.toNat default)]) false]⟩) (p (sB Yl <| sG (cF .f32) Y4 Y7 YF YG <| sX (cF .f32) Y5 Y7 YF YH <| sC (maplt (c := (cF .f32)) (l := Y5) YI) <| sI (Y7 + 1) YP YS <| sN)) (by kernel_rfl) (by simp [Z5F, List.map_set, cF]) (ih (Y7 + 1) (Y5.set Y7.toNat (Y4.getD Y7.toNat default)) (show 0 ≤ (Y7 + 1) from (by omega)) (show (Y5.set Y7.toNat (Y4.getD Y7.toNat default)).length = Y4.length from (by simp_all <;> omega)) (by omega))
  | false =>
   have Yw := of_decide_eq_false Yl
   have e : Z2h Y4 (k + 1) Y7 Y5 = Y5 := by simp only [Z2h, Yl, cond_false]
   rw [e]
   exact outR (e := (.exit 0)) E0Ok Z5 [] (mR false [0, 1, 1, 2, 1, 3, 14]) [0] (p (sB Yl <| sN)) (by kernel_rfl) (by intro h; cases h)
def Z4f (Y4 : (List Nat)) : (List Nat) := (Z2h Y4 (((Y4.length : Int) - 0).toNat + 1) 0 (List.replicate (Y4.length : Int).toNat 0))
def Z5e (Y4 : (List Nat)) : (List Nat) := (Z4f Y4)
theorem ZcG (Y4 : (List Nat)) (hp0 : Y4.length ≤ 1073741824)  : Fn prog 54 [.sl (Y4.map (cF .f32))] (.own 0) [.vec 27 1 ((Z5e Y4).map (cF .f32)) false] := by
 have y0 : (0 : Int) ≤ (Y4.length : Int) := (by omega)
 have y1 : ((Y4.length : Int) : Int) ≤ 2147483648 := (by omega)
 refine fnS E0Ok Z5 (c := bodyOf f54) [] (.own 0) [.vec 27 1 ((Z4f Y4).map (cF .f32)) false] func54 (sZ (cF .f32) Y4 <| sC (show (Y4.length : Int) = (Y4.length : Int) from rfl) <| sC y0 <| sC y1 <| sL (mR false [0, 1, 1, 6, 14]) 1 (lp_cast (st2 := ⟨.sl (Y4.map (cF .f32)) :: .any :: .nils :: .own 0 :: .i .i64 0 :: .sl (Y4.map (cF .f32)) :: .i .i64 (Y4.length : Int) :: .own 0 :: an 14 [], [.vec 27 1 (List.replicate (Int.toNat (Y4.length : Int)) [.f .f32 0]) false]⟩) (lp_val (Z5E Y4) (x := (Z4f Y4)) (Zb3 Y4 hp0 (((Y4.length : Int) - 0).toNat + 1) 0 (List.replicate (Y4.length : Int).toNat 0) (show 0 ≤ 0 from (by omega)) (show (List.replicate (Y4.length : Int).toNat 0).length = Y4.length from (by simp)) (Nat.lt_succ_self _)) rfl) (by simp [Z5F, cF])) <| sK [0] sN) rfl (by kernel_rfl) (by kernel_rfl) rfl ?_ ?_
 · rfl
 · simp [Z5e]
@[simp] theorem Zc2 (a : List Nat) : Z5e a = a := by
  unfold Z5e Z4f
  rw [copy_all (f := id) (a := a) (lo := Z2h a) (fun k i r => rfl)]
  exact List.map_id a
theorem ZcH (Y4 : (List Nat)) (hp0 : Y4.length ≤ 1073741824) : Fn prog 54 [.sl (Y4.map (cF .f32))] (.own 0) [.vec 27 1 (Y4.map (cF .f32)) false] := by
 simpa only [Zc2] using ZcG  Y4 hp0
def Z3a (Y4 : GBody) : GBody := Y4
theorem ZeA (Y4 : GBody) (hp0 : Y4.Mesh.Places.length ≤ 1073741824) (hp1 : Y4.Mesh.Triangles.length ≤ 1073741824) (hp2 : ∀ t ∈ Y4.Mesh.Triangles, t.length ≤ 1073741824) (hp3 : Y4.Springs.length ≤ 1073741824) (hp4 : Y4.Weights.length ≤ 1073741824)  : Fn prog 13 [.agg [.sl (Y4.Mesh.Places.map GVector.cells), .sl (Y4.Mesh.Triangles.map (cL (cI .i64))), .sl (Y4.Springs.map GSpring.cells), .f .f32 Y4.Film, .f .f32 Y4.Bend, .sl (Y4.Weights.map (cF .f32)), .f .f32 Y4.Fall.X, .f .f32 Y4.Fall.Y, .f .f32 Y4.Fall.Z]] (.agg [.own 0, .own 1, .own 2, .f .f32 ((Z3a Y4).Film), .f .f32 ((Z3a Y4).Bend), .own 3, .f .f32 ((Z3a Y4).Fall.X), .f .f32 ((Z3a Y4).Fall.Y), .f .f32 ((Z3a Y4).Fall.Z)]) [.vec 40 3 (((Z3a Y4).Mesh.Places).map GVector.cells) false, .nest 49 (((Z3a Y4).Mesh.Triangles).map fun l => l.map (cI .i64)) false, .vec 133 4 (((Z3a Y4).Springs).map GSpring.cells) false, .vec 27 1 (((Z3a Y4).Weights).map (cF .f32)) false] := by
 refine fnS E0Ok Z5 (c := bodyOf f13) [] (.agg [.own 0, .own 1, .own 2, .f .f32 Y4.Film, .f .f32 Y4.Bend, .own 3, .f .f32 Y4.Fall.X, .f .f32 Y4.Fall.Y, .f .f32 Y4.Fall.Z]) [.vec 40 3 (Y4.Mesh.Places.map GVector.cells) false, .nest 49 (Y4.Mesh.Triangles.map fun l => l.map (cI .i64)) false, .vec 133 4 (Y4.Springs.map GSpring.cells) false, .vec 27 1 (Y4.Weights.map (cF .f32)) false] func13 (sF (Zez Y4.Mesh hp0 hp1 hp2) <| sF (Zd8 Y4.Springs hp3) <| sF (ZcH Y4.Weights hp4) <| sF (Zag Y4.Fall) <| sK [3, 4, 5, 6] sN) rfl (by kernel_rfl) (by kernel_rfl) rfl ?_ ?_
 · rfl
 · simp [Z3a]
@[simp] theorem Ze4 (a : GBody) : Z3a a = a := by
  simp [Z3a]
theorem ZeB (Y4 : GBody) (hp0 : Y4.Mesh.Places.length ≤ 1073741824) (hp1 : Y4.Mesh.Triangles.length ≤ 1073741824) (hp2 : ∀ t ∈ Y4.Mesh.Triangles, t.length ≤ 1073741824) (hp3 : Y4.Springs.length ≤ 1073741824) (hp4 : Y4.Weights.length ≤ 1073741824) : Fn prog 13 [.agg [.sl (Y4.Mesh.Places.map GVector.cells), .sl (Y4.Mesh.Triangles.map (cL (cI .i64))), .sl (Y4.Springs.map GSpring.cells), .f .f32 Y4.Film, .f .f32 Y4.Bend, .sl (Y4.Weights.map (cF .f32)), .f .f32 Y4.Fall.X, .f .f32 Y4.Fall.Y, .f .f32 Y4.Fall.Z]] (.agg [.own 0, .own 1, .own 2, .f .f32 Y4.Film, .f .f32 Y4.Bend, .own 3, .f .f32 Y4.Fall.X, .f .f32 Y4.Fall.Y, .f .f32 Y4.Fall.Z]) [.vec 40 3 (Y4.Mesh.Places.map GVector.cells) false, .nest 49 (Y4.Mesh.Triangles.map fun l => l.map (cI .i64)) false, .vec 133 4 (Y4.Springs.map GSpring.cells) false, .vec 27 1 (Y4.Weights.map (cF .f32)) false] := by
 simpa only [Ze4] using ZeA  Y4 hp0 hp1 hp2 hp3 hp4
def Z2p (Y4 : GMotion) : GMotion := Y4
theorem ZdD (Y4 : GMotion) (hp0 : Y4.Body.Mesh.Places.length ≤ 1073741824) (hp1 : Y4.Body.Mesh.Triangles.length ≤ 1073741824) (hp2 : ∀ t ∈ Y4.Body.Mesh.Triangles, t.length ≤ 1073741824) (hp3 : Y4.Body.Springs.length ≤ 1073741824) (hp4 : Y4.Body.Weights.length ≤ 1073741824) (hp5 : Y4.Speeds.length ≤ 1073741824)  : Fn prog 33 [.agg [.sl (Y4.Body.Mesh.Places.map GVector.cells), .sl (Y4.Body.Mesh.Triangles.map (cL (cI .i64))), .sl (Y4.Body.Springs.map GSpring.cells), .f .f32 Y4.Body.Film, .f .f32 Y4.Body.Bend, .sl (Y4.Body.Weights.map (cF .f32)), .f .f32 Y4.Body.Fall.X, .f .f32 Y4.Body.Fall.Y, .f .f32 Y4.Body.Fall.Z, .sl (Y4.Speeds.map GVector.cells)]] (.agg [.own 0, .own 1, .own 2, .f .f32 ((Z2p Y4).Body.Film), .f .f32 ((Z2p Y4).Body.Bend), .own 3, .f .f32 ((Z2p Y4).Body.Fall.X), .f .f32 ((Z2p Y4).Body.Fall.Y), .f .f32 ((Z2p Y4).Body.Fall.Z), .own 4]) [.vec 40 3 (((Z2p Y4).Body.Mesh.Places).map GVector.cells) false, .nest 49 (((Z2p Y4).Body.Mesh.Triangles).map fun l => l.map (cI .i64)) false, .vec 133 4 (((Z2p Y4).Body.Springs).map GSpring.cells) false, .vec 27 1 (((Z2p Y4).Body.Weights).map (cF .f32)) false, .vec 40 3 (((Z2p Y4).Speeds).map GVector.cells) false] := by
 refine fnS E0Ok Z5 (c := bodyOf f33) [] (.agg [.own 0, .own 1, .own 2, .f .f32 Y4.Body.Film, .f .f32 Y4.Body.Bend, .own 3, .f .f32 Y4.Body.Fall.X, .f .f32 Y4.Body.Fall.Y, .f .f32 Y4.Body.Fall.Z, .own 4]) [.vec 40 3 (Y4.Body.Mesh.Places.map GVector.cells) false, .nest 49 (Y4.Body.Mesh.Triangles.map fun l => l.map (cI .i64)) false, .vec 133 4 (Y4.Body.Springs.map GSpring.cells) false, .vec 27 1 (Y4.Body.Weights.map (cF .f32)) false, .vec 40 3 (Y4.Speeds.map GVector.cells) false] func33 (sF (ZeB Y4.Body hp0 hp1 hp2 hp3 hp4) <| sF (Z9P Y4.Speeds hp5) <| sK [3, 4, 5, 6, 7] sN) rfl (by kernel_rfl) (by kernel_rfl) rfl ?_ ?_
 · rfl
 · simp [Z2p]
@[simp] theorem Zd9 (a : GMotion) : Z2p a = a := by
  simp [Z2p]
theorem Z6m (Y4 : GMotion) (hp0 : Y4.Body.Mesh.Places.length ≤ 1073741824) (hp1 : Y4.Body.Mesh.Triangles.length ≤ 1073741824) (hp2 : ∀ t ∈ Y4.Body.Mesh.Triangles, t.length ≤ 1073741824) (hp3 : Y4.Body.Springs.length ≤ 1073741824) (hp4 : Y4.Body.Weights.length ≤ 1073741824) (hp5 : Y4.Speeds.length ≤ 1073741824) : Fn prog 33 [.agg [.sl (Y4.Body.Mesh.Places.map GVector.cells), .sl (Y4.Body.Mesh.Triangles.map (cL (cI .i64))), .sl (Y4.Body.Springs.map GSpring.cells), .f .f32 Y4.Body.Film, .f .f32 Y4.Body.Bend, .sl (Y4.Body.Weights.map (cF .f32)), .f .f32 Y4.Body.Fall.X, .f .f32 Y4.Body.Fall.Y, .f .f32 Y4.Body.Fall.Z, .sl (Y4.Speeds.map GVector.cells)]] (.agg [.own 0, .own 1, .own 2, .f .f32 Y4.Body.Film, .f .f32 Y4.Body.Bend, .own 3, .f .f32 Y4.Body.Fall.X, .f .f32 Y4.Body.Fall.Y, .f .f32 Y4.Body.Fall.Z, .own 4]) [.vec 40 3 (Y4.Body.Mesh.Places.map GVector.cells) false, .nest 49 (Y4.Body.Mesh.Triangles.map fun l => l.map (cI .i64)) false, .vec 133 4 (Y4.Body.Springs.map GSpring.cells) false, .vec 27 1 (Y4.Body.Weights.map (cF .f32)) false, .vec 40 3 (Y4.Speeds.map GVector.cells) false] := by
 simpa only [Zd9] using ZdD  Y4 hp0 hp1 hp2 hp3 hp4 hp5
def ZL (n_0 : Int) (YE : Int) (Yy : Int) : Bool := (cond (decide (n_0 ≥ YE))
  (decide (n_0 ≤ Yy))
  false)
theorem Z5j (n_0 : Int) (YE : Int) (Yy : Int)   : Fn prog 81 [.i .i64 n_0, .i .i64 YE, .i .i64 Yy] (.b (ZL n_0 YE Yy)) [] := by
 cases h0 : (decide (n_0 ≥ YE)) with
 | true =>
  have gh0 := of_decide_eq_true h0
  refine fnS E0Ok Z5 (c := bodyOf f81) [] (.b (decide (n_0 ≤ Yy))) [] func81 (sB h0 <| sB h0 <| sB h0 <| sB h0 <| sK [] sN) rfl (by kernel_rfl) (by kernel_rfl) rfl ?_ ?_
  · simp only [ZL, h0, cond_true]
  · rfl
 | false =>
  have gh0 := of_decide_eq_false h0
  refine fnS E0Ok Z5 (c := bodyOf f81) [] (.b false) [] func81 (sB h0 <| sB h0 <| sB h0 <| sB h0 <| sK [] sN) rfl (by kernel_rfl) (by kernel_rfl) rfl ?_ ?_
  · simp only [ZL, h0, cond_false]
  · rfl
theorem ZfN {x : Int} {n : Nat} (hn : n ≤ 9223372036854775807) (h : ZL x 0 (IntKind.wrap .i64 ((n : Int) - 1)) = true) : 0 ≤ x ∧ x < (n : Int) := by
  unfold ZL at h
  rw [wrap_id (n := (n : Int) - 1) (by omega) (by omega)] at h
  by_cases h1 : x ≥ 0 <;> simp [h1] at h
  omega
def ZM (YC : (List Int)) (YV : Int) : Bool := (cond ((YC.length : Int) != 3)
  false
  (cond ((YC.getD 0 default) == (YC.getD 1 default))
    false
    (cond ((YC.getD 1 default) == (YC.getD 2 default))
      false
      (cond ((YC.getD 0 default) == (YC.getD 2 default))
        false
        (cond (ZL (YC.getD 0 default) 0 (IntKind.wrap .i64 (YV - 1)))
          (cond (ZL (YC.getD 1 default) 0 (IntKind.wrap .i64 (YV - 1)))
            (ZL (YC.getD 2 default) 0 (IntKind.wrap .i64 (YV - 1)))
            false)
          false)))))
theorem Zc3 (YC : (List Int)) (YV : Int) (hp0 : YC.length ≤ 1073741824)  : Fn prog 135 [.sl (YC.map (cI .i64)), .i .i64 YV] (.b (ZM YC YV)) [] := by
 have p {a C} (s : Scr a C) := sK [28, 28] <| sZ (cI .i64) YC <| s
 cases h0 : ((YC.length : Int) != 3) with
 | true =>
  have gh0 := bne_iff_ne.1 h0
  refine fnS E0Ok Z5 (c := bodyOf f135) [] (.b false) [] func135 (p (sB h0 <| sB h0 <| sB h0 <| sB h0 <| sB h0 <| sB h0 <| sB h0 <| sB h0 <| sB (show true = true from rfl) <| sB (show true = true from rfl) <| sB (show true = true from rfl) <| sB (show true = true from rfl) <| sB (show true = true from rfl) <| sB (show true = true from rfl) <| sB (show true = true from rfl) <| sB (show true = true from rfl) <| sB (show true = true from rfl) <| sB (show true = true from rfl) <| sB (show true = true from rfl) <| sB (show true = true from rfl) <| sB (show true = true from rfl) <| sB (show true = true from rfl) <| sB (show true = true from rfl) <| sB (show true = true from rfl) <| sB (show true = true from rfl) <| sK [] sN)) rfl (by kernel_rfl) (by kernel_rfl) rfl ?_ ?_
  · simp only [ZM, h0, cond_true]
  · rfl
 | false =>
  have gh0 := bne_eq_false_iff_eq.1 h0
  have y0 : (0 : Int) ≤ 0 := by clear p; exact (by omega)
  have y1 : 0 < (YC.length : Int) := by clear p; exact (by omega)
  have y2 : (0 : Int) ≤ 1 := by clear p; exact (by omega)
  have y3 : 1 < (YC.length : Int) := by clear p; exact (by omega)
  have q {a C} (s : Scr a C) := p (sB h0 <| sB h0 <| sG (cI .i64) YC 0 y0 y1 <| sB h0 <| sB h0 <| sB h0 <| sG (cI .i64) YC 1 y2 y3 <| sB h0 <| sB h0 <| sB h0 <| s)
  clear p
  cases h1 : ((YC.getD 0 default) == (YC.getD 1 default)) with
  | true =>
   have gh1 := eq_of_beq h1
   refine fnS E0Ok Z5 (c := bodyOf f135) [] (.b false) [] func135 (q (sB h1 <| sB h1 <| sB h1 <| sB h1 <| sB h1 <| sB h1 <| sB h1 <| sB h1 <| sB (show true = true from rfl) <| sB (show true = true from rfl) <| sB (show true = true from rfl) <| sB (show true = true from rfl) <| sB (show true = true from rfl) <| sB (show true = true from rfl) <| sB (show true = true from rfl) <| sB (show true = true from rfl) <| sB (show true = true from rfl) <| sK [] sN)) rfl (by kernel_rfl) (by kernel_rfl) rfl ?_ ?_
   · simp only [ZM, h0, h1, cond_true, cond_false]
   · rfl
  | false =>
   have gh1 := ne_of_beq_false h1
   have y4 : (0 : Int) ≤ 2 := by clear q; exact (by omega)
   have y5 : 2 < (YC.length : Int) := by clear q; exact (by omega)
   have p {a C} (s : Scr a C) := q (sB h1 <| sB h1 <| sG (cI .i64) YC 1 y2 y3 <| sB h1 <| sB h1 <| sB h1 <| sG (cI .i64) YC 2 y4 y5 <| sB h1 <| sB h1 <| sB h1 <| s)
   clear q
   cases h2 : ((YC.getD 1 default) == (YC.getD 2 default)) with
   | true =>
    have gh2 := eq_of_beq h2
    refine fnS E0Ok Z5 (c := bodyOf f135) [] (.b false) [] func135 (p (sB h2 <| sB h2 <| sB h2 <| sB h2 <| sB h2 <| sB h2 <| sB h2 <| sB h2 <| sB (show true = true from rfl) <| sK [] sN)) rfl (by kernel_rfl) (by kernel_rfl) rfl ?_ ?_
    · simp only [ZM, h0, h1, h2, cond_true, cond_false]
    · rfl
   | false =>
    have gh2 := ne_of_beq_false h2
    have q {a C} (s : Scr a C) := p (sB h2 <| sB h2 <| sG (cI .i64) YC 0 y0 y1 <| sB h2 <| sB h2 <| sB h2 <| sG (cI .i64) YC 2 y4 y5 <| sB h2 <| sB h2 <| sB h2 <| s)
    clear p
    cases h3 : ((YC.getD 0 default) == (YC.getD 2 default)) with
    | true =>
     have gh3 := eq_of_beq h3
     refine fnS E0Ok Z5 (c := bodyOf f135) [] (.b false) [] func135 (q (sB h3 <| sK [] sN)) rfl (by kernel_rfl) (by kernel_rfl) rfl ?_ ?_
     · simp only [ZM, h0, h1, h2, h3, cond_true, cond_false]
     · rfl
    | false =>
     have gh3 := ne_of_beq_false h3
     have p {a C} (s : Scr a C) := q (sB h3 <| sG (cI .i64) YC 0 y0 y1 <| sW .i64 (YV - 1) <| sF (Z5j (YC.getD 0 default) 0 (IntKind.wrap .i64 (YV - 1))) <| s)
     clear q
     cases h4 : (ZL (YC.getD 0 default) 0 (IntKind.wrap .i64 (YV - 1))) with
     | true =>
      have q {a C} (s : Scr a C) := p (sB h4 <| sB h4 <| sG (cI .i64) YC 1 y2 y3 <| sB h4 <| sB h4 <| sB h4 <| sW .i64 (YV - 1) <| sB h4 <| sF (Z5j (YC.getD 1 default) 0 (IntKind.wrap .i64 (YV - 1))) <| sB h4 <| s)
      clear p
      cases h5 : (ZL (YC.getD 1 default) 0 (IntKind.wrap .i64 (YV - 1))) with
      | true =>
       refine fnS E0Ok Z5 (c := bodyOf f135) [] (.b (ZL (YC.getD 2 default) 0 (IntKind.wrap .i64 (YV - 1)))) [] func135 (q (sB h5 <| sB h5 <| sG (cI .i64) YC 2 y4 y5 <| sB h5 <| sB h5 <| sB h5 <| sW .i64 (YV - 1) <| sB h5 <| sF (Z5j (YC.getD 2 default) 0 (IntKind.wrap .i64 (YV - 1))) <| sB h5 <| sK [] sN)) rfl (by kernel_rfl) (by kernel_rfl) rfl ?_ ?_
       · simp only [ZM, h0, h1, h2, h3, h4, h5, cond_true, cond_false]
       · rfl
      | false =>
       refine fnS E0Ok Z5 (c := bodyOf f135) [] (.b false) [] func135 (q (sB h5 <| sB h5 <| sB h5 <| sB h5 <| sB h5 <| sB h5 <| sB h5 <| sK [] sN)) rfl (by kernel_rfl) (by kernel_rfl) rfl ?_ ?_
       · simp only [ZM, h0, h1, h2, h3, h4, h5, cond_true, cond_false]
       · rfl
     | false =>
      refine fnS E0Ok Z5 (c := bodyOf f135) [] (.b false) [] func135 (p (sB h4 <| sB h4 <| sB h4 <| sB h4 <| sB h4 <| sB h4 <| sB h4 <| sB (show false = false from rfl) <| sB (show false = false from rfl) <| sB (show false = false from rfl) <| sB (show false = false from rfl) <| sB (show false = false from rfl) <| sB (show false = false from rfl) <| sB (show false = false from rfl) <| sK [] sN)) rfl (by kernel_rfl) (by kernel_rfl) rfl ?_ ?_
      · simp only [ZM, h0, h1, h2, h3, h4, cond_false]
      · rfl
def Z2J (Y2 : GMesh) : Nat → Int → (Unit) ⊕ (Unit)
  | 0, _ => .inl default
  | k + 1, Y7 => (cond (decide (Y7 < (Y2.Triangles.length : Int)))
    (cond (ZM (Y2.Triangles.getD Y7.toNat default) (Y2.Places.length : Int))
      (Z2J Y2 k (Y7 + 1))
      (.inl ()))
    (.inr ()))
def Z6n (Y2 : GMesh) : (Unit) ⊕ (Unit) → Ex × St
  | .inl r => (.ret, ⟨.any :: .any :: .b false :: an 38 [], []⟩)
  | .inr r => ((.exit 0), ⟨.ref (GMesh.cells Y2) 0 :: .any :: .any :: .any :: .ref (GMesh.cells Y2) 0 :: .ref (GMesh.cells Y2) 0 :: .ref (GMesh.cells Y2) 0 :: .sl (Y2.Places.map GVector.cells) :: .i .i64 (Y2.Places.length : Int) :: .b (decide ((Y2.Places.length : Int) > 64)) :: .b (decide ((Y2.Places.length : Int) > 64)) :: .ref (GMesh.cells Y2) 0 :: .ref (GMesh.cells Y2) 0 :: .ref (GMesh.cells Y2) 1 :: .sl (Y2.Triangles.map (cL (cI .i64))) :: .i .i64 (Y2.Triangles.length : Int) :: .b (decide ((Y2.Triangles.length : Int) > 128)) :: .b (decide ((Y2.Triangles.length : Int) > 128)) :: an 23 [], []⟩)
def ZdE (Y2 : GMesh) (Y7 : Int) : St := ⟨.ref (GMesh.cells Y2) 0 :: .any :: .any :: .i .i64 Y7 :: .ref (GMesh.cells Y2) 0 :: .ref (GMesh.cells Y2) 0 :: .ref (GMesh.cells Y2) 0 :: .sl (Y2.Places.map GVector.cells) :: .i .i64 (Y2.Places.length : Int) :: .b (decide ((Y2.Places.length : Int) > 64)) :: .b (decide ((Y2.Places.length : Int) > 64)) :: .ref (GMesh.cells Y2) 0 :: .ref (GMesh.cells Y2) 0 :: .ref (GMesh.cells Y2) 1 :: .sl (Y2.Triangles.map (cL (cI .i64))) :: .i .i64 (Y2.Triangles.length : Int) :: .b (decide ((Y2.Triangles.length : Int) > 128)) :: .b (decide ((Y2.Triangles.length : Int) > 128)) :: an 23 [], []⟩
theorem Zah (Y2 : GMesh) (hp0 : Y2.Places.length ≤ 1073741824) (hp1 : Y2.Triangles.length ≤ 1073741824) (hp2 : ∀ t ∈ Y2.Triangles, t.length ≤ 1073741824) (Zga : (decide ((Y2.Places.length : Int) > 64)) = false) (Zgb : (decide ((Y2.Triangles.length : Int) > 128)) = false) : ∀ (k : Nat) (Y7 : Int) (Z9u : 0 ≤ Y7) (hk : ((Y2.Triangles.length : Int) - Y7).toNat < k), Lp prog 0 (sub (bodyOf f94) [1, 1, 0, 1, 0, 0]) (ZdE Y2 Y7) (Z6n Y2 (Z2J Y2 k Y7)).1 (Z6n Y2 (Z2J Y2 k Y7)).2 := by
 intro k
 induction k with
 | zero => intro Y7 Z9u hk; exact absurd hk (Nat.not_lt_zero _)
 | succ k ih =>
  intro Y7 Z9u hk
  have p {a C} (s : Scr a C) := sZ (cL (cI .i64)) Y2.Triangles <| s
  cases Yl : (decide (Y7 < (Y2.Triangles.length : Int))) with
  | true =>
   have Yw := of_decide_eq_true Yl
   have YF : (0 : Int) ≤ Y7 := by clear p; exact (by assumption)
   have YG : Y7 < (Y2.Triangles.length : Int) := by clear p; exact (by assumption)
   have YH : (Y2.Triangles.getD Y7.toNat default).length ≤ 1073741824 := by clear p; exact (by simp_all <;> omega)
   have q {a C} (s : Scr a C) := p (sB Yl <| sK [12, 12] <| sG (cL (cI .i64)) Y2.Triangles Y7 YF YG <| sZ GVector.cells Y2.Places <| sF (Zc3 (Y2.Triangles.getD Y7.toNat default) (Y2.Places.length : Int) YH) <| s)
   clear p
   cases Yr : (ZM (Y2.Triangles.getD Y7.toNat default) (Y2.Places.length : Int)) with
   | true =>
    have YI : (-9223372036854775808 : Int) ≤ (Y7 + 1) := by clear q; exact (by omega)
    have YP : (Y7 + 1) ≤ (9223372036854775807 : Int) := by clear q; exact (by omega)
    have e : Z2J Y2 (k + 1) Y7 = (Z2J Y2 k (Y7 + 1)) := by simp only [Z2J, Yl, Yr, cond_true]
    rw [e]
    exact nextR E0Ok Z5 [] (mR false [0, 1, 2, 15, 23]) [] (ih (Y7 + 1) (show 0 ≤ (Y7 + 1) from (by omega)) (by omega)) (q (sB' Yr <| sI (Y7 + 1) YI YP <| sN)) (by kernel_rfl)
   | false =>
    have e : Z2J Y2 (k + 1) Y7 = (.inl ()) := by simp only [Z2J, Yl, Yr, cond_true, cond_false]
    rw [e]
    exact outR (e := .ret) E0Ok Z5 [] (mR false [2, 1, 38]) [] (q (sB' Yr <| sN)) (by kernel_rfl) (by intro h; cases h)
  | false =>
   have Yw := of_decide_eq_false Yl
   have e : Z2J Y2 (k + 1) Y7 = (.inr ()) := by simp only [Z2J, Yl, cond_false]
   rw [e]
   exact outR (e := (.exit 0)) E0Ok Z5 [] (mR false [0, 1, 3, 14, 23]) [] (p (sB Yl <| sN)) (by kernel_rfl) (by intro h; cases h)
def Z4x (Y2 : GMesh) : (Unit) ⊕ (Unit) := (Z2J Y2 (((Y2.Triangles.length : Int) - 0).toNat + 1) 0)
def Z1n (Y2 : GMesh) : Bool := (cond (decide ((Y2.Places.length : Int) > 64))
  false
  (cond (decide ((Y2.Triangles.length : Int) > 128))
    false
    (match (Z4x Y2) with
      | .inl r3 => false
      | .inr r3 => true)))
theorem Zf5 (Y2 : GMesh) (hp0 : Y2.Places.length ≤ 1073741824) (hp1 : Y2.Triangles.length ≤ 1073741824) (hp2 : ∀ t ∈ Y2.Triangles, t.length ≤ 1073741824)  : Fn prog 94 [.ref (GMesh.cells Y2) 0] (.b (Z1n Y2)) [] := by
 have p {a C} (s : Scr a C) := sZ GVector.cells Y2.Places <| s
 cases h0 : (decide ((Y2.Places.length : Int) > 64)) with
 | true =>
  have gh0 := of_decide_eq_true h0
  refine fnS E0Ok Z5 (c := bodyOf f94) [] (.b false) [] func94 (p (sB h0 <| sB h0 <| sB h0 <| sB h0 <| sB h0 <| sB h0 <| sB h0 <| sB (show true = true from rfl) <| sK [] sN)) rfl (by kernel_rfl) (by kernel_rfl) rfl ?_ ?_
  · simp only [Z1n, h0, cond_true]
  · rfl
 | false =>
  have gh0 := of_decide_eq_false h0
  have q {a C} (s : Scr a C) := p (sB h0 <| sB h0 <| sB h0 <| sB h0 <| sB h0 <| sZ (cL (cI .i64)) Y2.Triangles <| sB h0 <| sB h0 <| s)
  clear p
  cases h1 : (decide ((Y2.Triangles.length : Int) > 128)) with
  | true =>
   have gh1 := of_decide_eq_true h1
   refine fnS E0Ok Z5 (c := bodyOf f94) [] (.b false) [] func94 (q (sB h1 <| sK [] sN)) rfl (by kernel_rfl) (by kernel_rfl) rfl ?_ ?_
   · simp only [Z1n, h0, h1, cond_true, cond_false]
   · rfl
  | false =>
   have gh1 := of_decide_eq_false h1
   have p {a C} (s : Scr a C) := q (sB h1 <| s)
   clear q
   cases h2 : (Z4x Y2) with
   | inl r3 =>
    refine fnS E0Ok Z5 (c := bodyOf f94) [] (.b false) [] func94 (p (sL (mR false [0, 1, 2, 15, 23]) 0 (lp_val (Z6n Y2) (x := (Z4x Y2)) (Zah Y2 hp0 hp1 hp2 h0 h1 (((Y2.Triangles.length : Int) - 0).toNat + 1) 0 (show 0 ≤ 0 from (by omega)) (Nat.lt_succ_self _)) h2) <| sK [] sN)) rfl (by kernel_rfl) (by kernel_rfl) rfl ?_ ?_
    · simp only [Z1n, h0, h1, h2, cond_false]
    · rfl
   | inr r3 =>
    refine fnS E0Ok Z5 (c := bodyOf f94) [] (.b true) [] func94 (p (sL (mR false [0, 1, 2, 15, 23]) 0 (lp_val (Z6n Y2) (x := (Z4x Y2)) (Zah Y2 hp0 hp1 hp2 h0 h1 (((Y2.Triangles.length : Int) - 0).toNat + 1) 0 (show 0 ≤ 0 from (by omega)) (Nat.lt_succ_self _)) h2) <| sK [] sN)) rfl (by kernel_rfl) (by kernel_rfl) rfl ?_ ?_
    · simp only [Z1n, h0, h1, h2, cond_false]
    · rfl
theorem Z8S (m : GMesh) : Z1n m = cond (decide ((m.Places.length : Int) > 64)) false (cond (decide ((m.Triangles.length : Int) > 128)) false (m.Triangles.all fun t => ZM t (m.Places.length : Int))) := by
  unfold Z1n Z4x
  rw [all_from (a := m.Triangles) (p := fun t => ZM t (m.Places.length : Int)) (lo := Z2J m) (x := ()) (y := ()) (fun k i => rfl)]
  cases (m.Triangles.all fun t => ZM t (m.Places.length : Int)) <;> rfl
theorem Zgs {t : List Int} {n : Int} (h0 : 0 ≤ n) (h1 : n ≤ 64) (h : ZM t n = true) : t.length = 3 ∧ ∀ x ∈ t, 0 ≤ x ∧ x < n := by
  unfold ZM at h
  rw [wrap_sub (by omega) (by omega)] at h
  cases hl : ((t.length : Int) != 3) with
  | true => rw [hl] at h; cases h
  | false =>
    rw [hl, cond_false] at h
    have hl3 : t.length = 3 := by simp at hl; omega
    match t, hl3 with
    | [a, b, c], _ =>
      refine ⟨rfl, ?_⟩
      simp only [List.getD_cons_zero, List.getD_cons_succ, ZL] at h
      cases e1 : (a == b) <;> rw [e1] at h <;> (try (cases h; done))
      cases e2 : (b == c) <;> rw [e2] at h <;> (try (cases h; done))
      cases e3 : (a == c) <;> rw [e3] at h <;> (try (cases h; done))
      simp only [cond_false] at h
      cases f1 : decide (a ≥ 0) <;> rw [f1] at h <;> (try (cases h; done))
      cases f2 : decide (a ≤ n - 1) <;> rw [f2] at h <;> (try (cases h; done))
      cases f3 : decide (b ≥ 0) <;> rw [f3] at h <;> (try (cases h; done))
      cases f4 : decide (b ≤ n - 1) <;> rw [f4] at h <;> (try (cases h; done))
      cases f5 : decide (c ≥ 0) <;> rw [f5] at h <;> (try (cases h; done))
      simp only [cond_true, decide_eq_true_eq] at h f1 f2 f3 f4 f5
      intro x hx
      simp only [List.mem_cons, List.not_mem_nil, or_false] at hx
      rcases hx with rfl | rfl | rfl <;> omega
theorem ZfX (m : GMesh) (h : Z1n m = true) : OkTris m.Places.length m.Triangles := by
  rw [Z8S] at h
  cases h1 : decide ((m.Places.length : Int) > 64) <;> rw [h1] at h <;> (try (cases h; done))
  cases h2 : decide ((m.Triangles.length : Int) > 128) <;> rw [h2] at h <;> (try (cases h; done))
  simp only [cond_false, List.all_eq_true, decide_eq_false_iff_not] at h h1
  intro t ht
  exact Zgs (by omega) (by omega) (h t ht)
theorem Zgt (m : GMesh) (h : Z1n m = true) : OkE m.Places.length m.Triangles := by
  have h0 := ZfX m h
  rw [Z8S] at h
  cases h1 : decide ((m.Places.length : Int) > 64) <;> rw [h1] at h <;> (try (cases h; done))
  cases h2 : decide ((m.Triangles.length : Int) > 128) <;> rw [h2] at h <;> (try (cases h; done))
  simp only [cond_false, List.all_eq_true, decide_eq_false_iff_not] at h h1 h2
  refine ⟨by omega, by omega, fun t ht => ?_⟩
  have h3 := h t ht
  obtain ⟨hl, hx⟩ := h0 t ht
  match t, hl with
  | [a, b, c], _ =>
    unfold ZM at h3
    simp only [List.getD_cons_zero, List.getD_cons_succ] at h3
    cases e0 : ((([a, b, c] : List Int).length : Int) != 3) <;> rw [e0] at h3 <;> (try (cases h3; done))
    cases e1 : (a == b) <;> rw [e1] at h3 <;> (try (cases h3; done))
    cases e2 : (b == c) <;> rw [e2] at h3 <;> (try (cases h3; done))
    cases e3 : (a == c) <;> rw [e3] at h3 <;> (try (cases h3; done))
    exact ⟨a, b, c, rfl, hx a (by simp), hx b (by simp), hx c (by simp), beq_eq_false_iff_ne.1 e1, beq_eq_false_iff_ne.1 e2, beq_eq_false_iff_ne.1 e3⟩
def Z1A (YJ : GSpring) (YV : Int) : Bool := (cond (ZL YJ.A 0 (IntKind.wrap .i64 (YV - 1)))
  (cond (ZL YJ.B 0 (IntKind.wrap .i64 (YV - 1)))
    (cond (YJ.A != YJ.B)
      (fcmp .geq .f32 YJ.Long 0)
      false)
    false)
  false)
theorem Zda (YJ : GSpring) (YV : Int)   : Fn prog 95 [.ref (GSpring.cells YJ) 0, .i .i64 YV] (.b (Z1A YJ YV)) [] := by
 have p {a C} (s : Scr a C) := sK [25, 25] <| sW .i64 (YV - 1) <| sF (Z5j YJ.A 0 (IntKind.wrap .i64 (YV - 1))) <| s
 cases h0 : (ZL YJ.A 0 (IntKind.wrap .i64 (YV - 1))) with
 | true =>
  have q {a C} (s : Scr a C) := p (sB h0 <| sB h0 <| sB h0 <| sB h0 <| sB h0 <| sB h0 <| sW .i64 (YV - 1) <| sB h0 <| sF (Z5j YJ.B 0 (IntKind.wrap .i64 (YV - 1))) <| sB h0 <| s)
  clear p
  cases h1 : (ZL YJ.B 0 (IntKind.wrap .i64 (YV - 1))) with
  | true =>
   have p {a C} (s : Scr a C) := q (sB h1 <| sB h1 <| sB h1 <| sB h1 <| sB h1 <| sB h1 <| sB h1 <| sB h1 <| sB h1 <| sB h1 <| s)
   clear q
   cases h2 : (YJ.A != YJ.B) with
   | true =>
    have gh2 := bne_iff_ne.1 h2
    refine fnS E0Ok Z5 (c := bodyOf f95) [] (.b (fcmp .geq .f32 YJ.Long 0)) [] func95 (p (sB h2 <| sB h2 <| sB h2 <| sB h2 <| sB h2 <| sB h2 <| sK [] sN)) rfl (by kernel_rfl) (by kernel_rfl) rfl ?_ ?_
    · simp only [Z1A, h0, h1, h2, cond_true]
    · rfl
   | false =>
    have gh2 := bne_eq_false_iff_eq.1 h2
    refine fnS E0Ok Z5 (c := bodyOf f95) [] (.b false) [] func95 (p (sB h2 <| sB h2 <| sB h2 <| sB h2 <| sB h2 <| sB h2 <| sK [] sN)) rfl (by kernel_rfl) (by kernel_rfl) rfl ?_ ?_
    · simp only [Z1A, h0, h1, h2, cond_true, cond_false]
    · rfl
  | false =>
   refine fnS E0Ok Z5 (c := bodyOf f95) [] (.b false) [] func95 (q (sB h1 <| sB h1 <| sB h1 <| sB h1 <| sB h1 <| sB h1 <| sB h1 <| sB h1 <| sB h1 <| sB h1 <| sB (show false = false from rfl) <| sB (show false = false from rfl) <| sB (show false = false from rfl) <| sB (show false = false from rfl) <| sB (show false = false from rfl) <| sB (show false = false from rfl) <| sK [] sN)) rfl (by kernel_rfl) (by kernel_rfl) rfl ?_ ?_
   · simp only [Z1A, h0, h1, cond_true, cond_false]
   · rfl
 | false =>
  refine fnS E0Ok Z5 (c := bodyOf f95) [] (.b false) [] func95 (p (sB h0 <| sB h0 <| sB h0 <| sB h0 <| sB h0 <| sB h0 <| sB h0 <| sB h0 <| sB (show false = false from rfl) <| sB (show false = false from rfl) <| sB (show false = false from rfl) <| sB (show false = false from rfl) <| sB (show false = false from rfl) <| sB (show false = false from rfl) <| sB (show false = false from rfl) <| sB (show false = false from rfl) <| sB (show false = false from rfl) <| sB (show false = false from rfl) <| sB (show false = false from rfl) <| sB (show false = false from rfl) <| sB (show false = false from rfl) <| sB (show false = false from rfl) <| sB (show false = false from rfl) <| sB (show false = false from rfl) <| sK [] sN)) rfl (by kernel_rfl) (by kernel_rfl) rfl ?_ ?_
  · simp only [Z1A, h0, cond_false]
  · rfl
def Z2q (Ya : GBody) : Nat → Int → (Unit) ⊕ (Unit)
  | 0, _ => .inl default
  | k + 1, Y1 => (cond (decide (Y1 < (Ya.Springs.length : Int)))
    (cond (Z1A (Ya.Springs.getD Y1.toNat default) (Ya.Mesh.Places.length : Int))
      (Z2q Ya k (Y1 + 1))
      (.inl ()))
    (.inr ()))
def Z6o (Ya : GBody) : (Unit) ⊕ (Unit) → Ex × St
  | .inl r => (.ret, ⟨.any :: .any :: .b false :: an 51 [], []⟩)
  | .inr r => ((.exit 0), ⟨.ref (GBody.cells Ya) 0 :: .any :: .any :: .any :: .ref (GBody.cells Ya) 0 :: .ref (GBody.cells Ya) 0 :: .ref (GBody.cells Ya) 0 :: .b (Z1n Ya.Mesh) :: .b (!(Z1n Ya.Mesh)) :: .b (!(Z1n Ya.Mesh)) :: .ref (GBody.cells Ya) 0 :: .ref (GBody.cells Ya) 0 :: .ref (GBody.cells Ya) 2 :: .sl (Ya.Springs.map GSpring.cells) :: .i .i64 (Ya.Springs.length : Int) :: .b (decide ((Ya.Springs.length : Int) > 200)) :: .b (decide ((Ya.Springs.length : Int) > 200)) :: .b (decide ((Ya.Springs.length : Int) > 200)) :: .ref (GBody.cells Ya) 0 :: .ref (GBody.cells Ya) 0 :: .ref (GBody.cells Ya) 5 :: .sl (Ya.Weights.map (cF .f32)) :: .i .i64 (Ya.Weights.length : Int) :: .ref (GBody.cells Ya) 0 :: .ref (GBody.cells Ya) 0 :: .ref (GBody.cells Ya) 0 :: .ref (GBody.cells Ya) 0 :: .sl (Ya.Mesh.Places.map GVector.cells) :: .i .i64 (Ya.Mesh.Places.length : Int) :: .b ((Ya.Weights.length : Int) != (Ya.Mesh.Places.length : Int)) :: .b ((Ya.Weights.length : Int) != (Ya.Mesh.Places.length : Int)) :: .ref (GBody.cells Ya) 0 :: .ref (GBody.cells Ya) 0 :: .ref (GBody.cells Ya) 2 :: .sl (Ya.Springs.map GSpring.cells) :: an 19 [], []⟩)
def ZdF (Ya : GBody) (Y1 : Int) : St := ⟨.ref (GBody.cells Ya) 0 :: .any :: .any :: .any :: .ref (GBody.cells Ya) 0 :: .ref (GBody.cells Ya) 0 :: .ref (GBody.cells Ya) 0 :: .b (Z1n Ya.Mesh) :: .b (!(Z1n Ya.Mesh)) :: .b (!(Z1n Ya.Mesh)) :: .ref (GBody.cells Ya) 0 :: .ref (GBody.cells Ya) 0 :: .ref (GBody.cells Ya) 2 :: .sl (Ya.Springs.map GSpring.cells) :: .i .i64 (Ya.Springs.length : Int) :: .b (decide ((Ya.Springs.length : Int) > 200)) :: .b (decide ((Ya.Springs.length : Int) > 200)) :: .b (decide ((Ya.Springs.length : Int) > 200)) :: .ref (GBody.cells Ya) 0 :: .ref (GBody.cells Ya) 0 :: .ref (GBody.cells Ya) 5 :: .sl (Ya.Weights.map (cF .f32)) :: .i .i64 (Ya.Weights.length : Int) :: .ref (GBody.cells Ya) 0 :: .ref (GBody.cells Ya) 0 :: .ref (GBody.cells Ya) 0 :: .ref (GBody.cells Ya) 0 :: .sl (Ya.Mesh.Places.map GVector.cells) :: .i .i64 (Ya.Mesh.Places.length : Int) :: .b ((Ya.Weights.length : Int) != (Ya.Mesh.Places.length : Int)) :: .b ((Ya.Weights.length : Int) != (Ya.Mesh.Places.length : Int)) :: .ref (GBody.cells Ya) 0 :: .ref (GBody.cells Ya) 0 :: .ref (GBody.cells Ya) 2 :: .sl (Ya.Springs.map GSpring.cells) :: .i .i64 (Ya.Springs.length : Int) :: .i .i64 Y1 :: an 17 [], []⟩
theorem Zai (Ya : GBody) (hp0 : Ya.Mesh.Places.length ≤ 1073741824) (hp1 : Ya.Mesh.Triangles.length ≤ 1073741824) (hp2 : ∀ t ∈ Ya.Mesh.Triangles, t.length ≤ 1073741824) (hp3 : Ya.Springs.length ≤ 1073741824) (hp4 : Ya.Weights.length ≤ 1073741824) (Zgc : ((Ya.Weights.length : Int) != (Ya.Mesh.Places.length : Int)) = false) (Zgd : (decide ((Ya.Springs.length : Int) > 200)) = false) (Zge : (Z1n Ya.Mesh) = true) : ∀ (k : Nat) (Y1 : Int) (Z9v : 0 ≤ Y1) (hk : ((Ya.Springs.length : Int) - Y1).toNat < k), Lp prog 0 (sub (bodyOf f50) [1, 1, 0, 1, 0, 0]) (ZdF Ya Y1) (Z6o Ya (Z2q Ya k Y1)).1 (Z6o Ya (Z2q Ya k Y1)).2 := by
 intro k
 induction k with
 | zero => intro Y1 Z9v hk; exact absurd hk (Nat.not_lt_zero _)
 | succ k ih =>
  intro Y1 Z9v hk
  cases Yl : (decide (Y1 < (Ya.Springs.length : Int))) with
  | true =>
   have Yw := of_decide_eq_true Yl
   have YF : (0 : Int) ≤ Y1 := (by assumption)
   have YG : Y1 < (Ya.Springs.length : Int) := (by assumption)
   have p {a C} (s : Scr a C) := sB Yl <| sK [12, 12] <| sG GSpring.cells Ya.Springs Y1 YF YG <| sZ GVector.cells Ya.Mesh.Places <| sF (Zda (Ya.Springs.getD Y1.toNat default) (Ya.Mesh.Places.length : Int)) <| s
   cases Yr : (Z1A (Ya.Springs.getD Y1.toNat default) (Ya.Mesh.Places.length : Int)) with
   | true =>
    have YH : (-9223372036854775808 : Int) ≤ (Y1 + 1) := by clear p; exact (by omega)
    have YI : (Y1 + 1) ≤ (9223372036854775807 : Int) := by clear p; exact (by omega)
    have e : Z2q Ya (k + 1) Y1 = (Z2q Ya k (Y1 + 1)) := by simp only [Z2q, Yl, Yr, cond_true]
    rw [e]
    exact nextR E0Ok Z5 [] (mR false [0, 1, 3, 33, 17]) [] (ih (Y1 + 1) (show 0 ≤ (Y1 + 1) from (by omega)) (by omega)) (p (sB' Yr <| sI (Y1 + 1) YH YI <| sN)) (by kernel_rfl)
   | false =>
    have e : Z2q Ya (k + 1) Y1 = (.inl ()) := by simp only [Z2q, Yl, Yr, cond_true, cond_false]
    rw [e]
    exact outR (e := .ret) E0Ok Z5 [] (mR false [2, 1, 51]) [] (p (sB' Yr <| sN)) (by kernel_rfl) (by intro h; cases h)
  | false =>
   have Yw := of_decide_eq_false Yl
   have e : Z2q Ya (k + 1) Y1 = (.inr ()) := by simp only [Z2q, Yl, cond_false]
   rw [e]
   exact outR (e := (.exit 0)) E0Ok Z5 [] (mR false [0, 1, 3, 31, 19]) [] (sB Yl <| sN) (by kernel_rfl) (by intro h; cases h)
def Z4a (Ya : GBody) : (Unit) ⊕ (Unit) := (Z2q Ya (((Ya.Springs.length : Int) - 0).toNat + 1) 0)
def Z1o (Ya : GBody) : Bool := (cond (Z1n Ya.Mesh)
  (cond (decide ((Ya.Springs.length : Int) > 200))
    false
    (cond ((Ya.Weights.length : Int) != (Ya.Mesh.Places.length : Int))
      false
      (match (Z4a Ya) with
        | .inl r4 => false
        | .inr r4 => true)))
  false)
theorem Zf6 (Ya : GBody) (hp0 : Ya.Mesh.Places.length ≤ 1073741824) (hp1 : Ya.Mesh.Triangles.length ≤ 1073741824) (hp2 : ∀ t ∈ Ya.Mesh.Triangles, t.length ≤ 1073741824) (hp3 : Ya.Springs.length ≤ 1073741824) (hp4 : Ya.Weights.length ≤ 1073741824)  : Fn prog 50 [.ref (GBody.cells Ya) 0] (.b (Z1o Ya)) [] := by
 have p {a C} (s : Scr a C) := sK [25, 25] <| sF (Fn.sub (args := [.ref (GBody.cells Ya) 0]) (r := .b (Z1n Ya.Mesh)) (new := []) [some 2] (Zf5 Ya.Mesh hp0 hp1 hp2)) <| s
 cases h0 : (Z1n Ya.Mesh) with
 | true =>
  have q {a C} (s : Scr a C) := p (sB' h0 <| sB' h0 <| sB' h0 <| sB' h0 <| sB' h0 <| sZ GSpring.cells Ya.Springs <| sB' h0 <| sB' h0 <| s)
  clear p
  cases h1 : (decide ((Ya.Springs.length : Int) > 200)) with
  | true =>
   have gh1 := of_decide_eq_true h1
   refine fnS E0Ok Z5 (c := bodyOf f50) [] (.b false) [] func50 (q (sB h1 <| sB h1 <| sB h1 <| sB h1 <| sB h1 <| sB h1 <| sB h1 <| sB h1 <| sB h1 <| sB h1 <| sB h1 <| sB h1 <| sB h1 <| sB (show true = true from rfl) <| sK [] sN)) rfl (by kernel_rfl) (by kernel_rfl) rfl ?_ ?_
   · simp only [Z1o, h0, h1, cond_true]
   · rfl
  | false =>
   have gh1 := of_decide_eq_false h1
   have p {a C} (s : Scr a C) := q (sB h1 <| sB h1 <| sB h1 <| sB h1 <| sB h1 <| sZ (cF .f32) Ya.Weights <| sB h1 <| sB h1 <| sB h1 <| sB h1 <| sB h1 <| sB h1 <| sZ GVector.cells Ya.Mesh.Places <| sB h1 <| sB h1 <| s)
   clear q
   cases h2 : ((Ya.Weights.length : Int) != (Ya.Mesh.Places.length : Int)) with
   | true =>
    have gh2 := bne_iff_ne.1 h2
    refine fnS E0Ok Z5 (c := bodyOf f50) [] (.b false) [] func50 (p (sB h2 <| sK [] sN)) rfl (by kernel_rfl) (by kernel_rfl) rfl ?_ ?_
    · simp only [Z1o, h0, h1, h2, cond_true, cond_false]
    · rfl
   | false =>
    have gh2 := bne_eq_false_iff_eq.1 h2
    have q {a C} (s : Scr a C) := p (sB h2 <| sZ GSpring.cells Ya.Springs <| s)
    clear p
    cases h3 : (Z4a Ya) with
    | inl r4 =>
     refine fnS E0Ok Z5 (c := bodyOf f50) [] (.b false) [] func50 (q (sL (mR false [0, 1, 3, 33, 17]) 0 (lp_val (Z6o Ya) (x := (Z4a Ya)) (Zai Ya hp0 hp1 hp2 hp3 hp4 h2 h1 h0 (((Ya.Springs.length : Int) - 0).toNat + 1) 0 (show 0 ≤ 0 from (by omega)) (Nat.lt_succ_self _)) h3) <| sK [] sN)) rfl (by kernel_rfl) (by kernel_rfl) rfl ?_ ?_
     · simp only [Z1o, h0, h1, h2, h3, cond_true, cond_false]
     · rfl
    | inr r4 =>
     refine fnS E0Ok Z5 (c := bodyOf f50) [] (.b true) [] func50 (q (sL (mR false [0, 1, 3, 33, 17]) 0 (lp_val (Z6o Ya) (x := (Z4a Ya)) (Zai Ya hp0 hp1 hp2 hp3 hp4 h2 h1 h0 (((Ya.Springs.length : Int) - 0).toNat + 1) 0 (show 0 ≤ 0 from (by omega)) (Nat.lt_succ_self _)) h3) <| sK [] sN)) rfl (by kernel_rfl) (by kernel_rfl) rfl ?_ ?_
     · simp only [Z1o, h0, h1, h2, h3, cond_true, cond_false]
     · rfl
 | false =>
  refine fnS E0Ok Z5 (c := bodyOf f50) [] (.b false) [] func50 (p (sB' h0 <| sB' h0 <| sB' h0 <| sB' h0 <| sB' h0 <| sB' h0 <| sB' h0 <| sB (show true = true from rfl) <| sB (show true = true from rfl) <| sB (show true = true from rfl) <| sB (show true = true from rfl) <| sB (show true = true from rfl) <| sB (show true = true from rfl) <| sB (show true = true from rfl) <| sB (show true = true from rfl) <| sB (show true = true from rfl) <| sB (show true = true from rfl) <| sB (show true = true from rfl) <| sB (show true = true from rfl) <| sB (show true = true from rfl) <| sB (show true = true from rfl) <| sK [] sN)) rfl (by kernel_rfl) (by kernel_rfl) rfl ?_ ?_
  · simp only [Z1o, h0, cond_false]
  · rfl
end Go.Ab
