/- The functions of this seat as plain Lean, and that the program's are these. Printed by a program of the prover's own. -/
import Derived.Test.YtpndflbllggeiaaGreatB0
set_option linter.unusedVariables false
set_option linter.unusedSimpArgs false
set_option maxRecDepth 100000
namespace Go.Ab
open Go.RowKit Go.Proofs.Tryz
def Z1H (Y5 : (List Gv)) (YE : Int) : Int := (cond (decide ((IntKind.wrap .i64 (YE - (Y5.length : Int))) < 0))
  (-1)
  (IntKind.wrap .i64 (YE - (Y5.length : Int))))
theorem Zev (Y5 : (List Gv)) (YE : Int) (hp0 : Y5.length ≤ 9223372036854775807)  : Fn prog 75 [.sl (Y5.map Gv.c), .i .i64 YE] (.i .i64 (Z1H Y5 YE)) [] := by
 have p {a C} (s : Scr a C) := sZ Gv.c Y5 <| sW .i64 (YE - (Y5.length : Int)) <| s
 cases h0 : (decide ((IntKind.wrap .i64 (YE - (Y5.length : Int))) < 0)) with
 | true =>
  have gh0 := odt h0
  refine fnS E0Ok Z5 (c := bodyOf f75) [] (.i .i64 (-1)) [] func75 (p (sB h0 <| sK [] sN)) rfl (by kernel_rfl) (by kernel_rfl) rfl ?_ ?_
  · simp only [Z1H, h0, cond_true]
  · rfl
 | false =>
  have gh0 := odf h0
  refine fnS E0Ok Z5 (c := bodyOf f75) [] (.i .i64 (IntKind.wrap .i64 (YE - (Y5.length : Int)))) [] func75 (p (sB h0 <| sK [] sN)) rfl (by kernel_rfl) (by kernel_rfl) rfl ?_ ?_
  · simp only [Z1H, h0, cond_false]
  · rfl
theorem Ze7 (a : List Gv) (left : Int) (h0 : a.length ≤ 9223372036854775807) (h1 : -1 ≤ left) (h2 : left ≤ 1048576) : -1 ≤ Z1H a left ∧ Z1H a left ≤ left ∧ (Z1H a left < 0 ∨ (a.length : Int) ≤ left) := by
  unfold Z1H
  rw [wrap_sub (by omega) (by omega)]
  by_cases h : left - (a.length : Int) < 0
  · simp [h]; omega
  · simp [h]; omega
def Z2s (Y5 : (List Int)) (YE : Int) : Int := (cond (decide ((IntKind.wrap .i64 (YE - (Y5.length : Int))) < 0))
  (-1)
  (IntKind.wrap .i64 (YE - (Y5.length : Int))))
theorem Zf6 (Y5 : (List Int)) (YE : Int) (hp0 : Y5.length ≤ 9223372036854775807)  : Fn prog 134 [.sl (Y5.map (cI .i64)), .i .i64 YE] (.i .i64 (Z2s Y5 YE)) [] := by
 have p {a C} (s : Scr a C) := sZ (cI .i64) Y5 <| sW .i64 (YE - (Y5.length : Int)) <| s
 cases h0 : (decide ((IntKind.wrap .i64 (YE - (Y5.length : Int))) < 0)) with
 | true =>
  have gh0 := odt h0
  refine fnS E0Ok Z5 (c := bodyOf f134) [] (.i .i64 (-1)) [] func134 (p (sB h0 <| sK [] sN)) rfl (by kernel_rfl) (by kernel_rfl) rfl ?_ ?_
  · simp only [Z2s, h0, cond_true]
  · rfl
 | false =>
  have gh0 := odf h0
  refine fnS E0Ok Z5 (c := bodyOf f134) [] (.i .i64 (IntKind.wrap .i64 (YE - (Y5.length : Int)))) [] func134 (p (sB h0 <| sK [] sN)) rfl (by kernel_rfl) (by kernel_rfl) rfl ?_ ?_
  · simp only [Z2s, h0, cond_false]
  · rfl
theorem Zew (a : List Int) (left : Int) (h0 : a.length ≤ 9223372036854775807) (h1 : -1 ≤ left) (h2 : left ≤ 1048576) : -1 ≤ Z2s a left ∧ Z2s a left ≤ left ∧ (Z2s a left < 0 ∨ (a.length : Int) ≤ left) := by
  unfold Z2s
  rw [wrap_sub (by omega) (by omega)]
  by_cases h : left - (a.length : Int) < 0
  · simp [h]; omega
  · simp [h]; omega
def Z1O (Y5 : (List (List Int))) (YE : Int) : Nat → Int → Int → (Unit) ⊕ (Int)
  | 0, _, _ => .inl default
  | k + 1, Y12, Yd => (cond (decide (Yd < (Y5.length : Int)))
    (cond (decide ((Z2s (Y5.getD Yd.toNat default) Y12) < 0))
      (.inl ())
      (Z1O Y5 YE k (Z2s (Y5.getD Yd.toNat default) Y12) (Yd + 1)))
    (.inr Y12))
def Z5l (Y5 : (List (List Int))) (YE : Int) : (Unit) ⊕ (Int) → Ex × St
  | .inl r => (.ret, ⟨an 4 (.i .i64 (-1) :: an 22 []), []⟩)
  | .inr r => ((.exit 0), ⟨.sl (Y5.map (cL (cI .i64))) :: .i .i64 r :: an 4 (.i .i64 YE :: .sl (Y5.map (cL (cI .i64))) :: .i .i64 (Y5.length : Int) :: .i .i64 (IntKind.wrap .i64 (YE - (Y5.length : Int))) :: .i .i64 (IntKind.wrap .i64 (YE - (Y5.length : Int))) :: .b (decide ((IntKind.wrap .i64 (YE - (Y5.length : Int))) < 0)) :: an 15 []), []⟩)
def ZcY (Y5 : (List (List Int))) (YE : Int) (Y12 : Int) (Yd : Int) : St := ⟨.sl (Y5.map (cL (cI .i64))) :: .i .i64 Y12 :: .any :: .any :: .any :: .i .i64 Yd :: .i .i64 YE :: .sl (Y5.map (cL (cI .i64))) :: .i .i64 (Y5.length : Int) :: .i .i64 (IntKind.wrap .i64 (YE - (Y5.length : Int))) :: .i .i64 (IntKind.wrap .i64 (YE - (Y5.length : Int))) :: .b (decide ((IntKind.wrap .i64 (YE - (Y5.length : Int))) < 0)) :: an 15 [], []⟩
theorem Z9o (Y5 : (List (List Int))) (YE : Int) (hp0 : Y5.length ≤ 9223372036854775807) (hp1 : ∀ t ∈ Y5, t.length ≤ 9223372036854775807) (Zh3 : (decide ((IntKind.wrap .i64 (YE - (Y5.length : Int))) < 0)) = false) : ∀ (k : Nat) (Y12 : Int) (Yd : Int) (Z85 : 0 ≤ Yd) (hk : ((Y5.length : Int) - Yd).toNat < k), Lp prog 0 (sub (bodyOf f93) [1, 1, 1, 0, 1, 0, 0]) (ZcY Y5 YE Y12 Yd) (Z5l Y5 YE (Z1O Y5 YE k Y12 Yd)).1 (Z5l Y5 YE (Z1O Y5 YE k Y12 Yd)).2 := by
 intro k
 induction k with
 | zero => intro Y12 Yd Z85 hk; exact absurd hk (Nat.not_lt_zero _)
 | succ k ih =>
  intro Y12 Yd Z85 hk
  have p {a C} (s : Scr a C) := sZ (cL (cI .i64)) Y5 <| s
  cases Yj : (decide (Yd < (Y5.length : Int))) with
  | true =>
   have YM := odt Yj
   have YS : (0 : Int) ≤ Yd := by clear p; exact (by assumption)
   have YT : Yd < (Y5.length : Int) := by clear p; exact (by assumption)
   have YY : (Y5.getD Yd.toNat default).length ≤ 9223372036854775807 := by clear p; exact (by simp_all <;> omega)
   have q {a C} (s : Scr a C) := p (sB Yj <| sG (cL (cI .i64)) Y5 Yd YS YT <| sF (Zf6 (Y5.getD Yd.toNat default) Y12 YY) <| s)
   clear p
   cases YJ : (decide ((Z2s (Y5.getD Yd.toNat default) Y12) < 0)) with
   | true =>
    have Y1d := odt YJ
    have e : Z1O Y5 YE (k + 1) Y12 Yd = (.inl ()) := by simp only [Z1O, Yj, YJ, cond_true]
    rw [e]
    exact outR (e := .ret) E0Ok Z5 [] (mR false [4, 1, 22]) [] (q (sB YJ <| sN)) (by kernel_rfl) (by intro h; cases h)
   | false =>
    have Y1d := odf YJ
    have YZ : (-9223372036854775808 : Int) ≤ (Yd + 1) := by clear q; exact (by omega)
    have y_4 : (Yd + 1) ≤ (9223372036854775807 : Int) := by clear q; exact (by omega)
    have e : Z1O Y5 YE (k + 1) Y12 Yd = (Z1O Y5 YE k (Z2s (Y5.getD Yd.toNat default) Y12) (Yd + 1)) := by simp only [Z1O, Yj, YJ, cond_true, cond_false]
    rw [e]
    exact nextR E0Ok Z5 [] (mR false [0, 2, 3, 7, 15]) [] (ih (Z2s (Y5.getD Yd.toNat default) Y12) (Yd + 1) (show 0 ≤ (Yd + 1) from (by omega)) (by omega)) (q (sB YJ <| sI (Yd + 1) YZ y_4 <| sN)) (by kernel_rfl)
  | false =>
   have YM := odf Yj
   have e : Z1O Y5 YE (k + 1) Y12 Yd = (.inr Y12) := by simp only [Z1O, Yj, cond_false]
   rw [e]
   exact outR (e := (.exit 0)) E0Ok Z5 [] (mR false [0, 2, 4, 6, 15]) [] (p (sB Yj <| sN)) (by kernel_rfl) (by intro h; cases h)
def Z4i (Y5 : (List (List Int))) (YE : Int) : (Unit) ⊕ (Int) := (Z1O Y5 YE (((Y5.length : Int) - 0).toNat + 1) (IntKind.wrap .i64 (YE - (Y5.length : Int))) 0)
def Z2t (Y5 : (List (List Int))) (YE : Int) : Int := (cond (decide ((IntKind.wrap .i64 (YE - (Y5.length : Int))) < 0))
  (-1)
  (match (Z4i Y5 YE) with
    | .inl r2 => (-1)
    | .inr r2 => r2))
theorem Zex (Y5 : (List (List Int))) (YE : Int) (hp0 : Y5.length ≤ 9223372036854775807) (hp1 : ∀ t ∈ Y5, t.length ≤ 9223372036854775807)  : Fn prog 93 [.sl (Y5.map (cL (cI .i64))), .i .i64 YE] (.i .i64 (Z2t Y5 YE)) [] := by
 have p {a C} (s : Scr a C) := sZ (cL (cI .i64)) Y5 <| sW .i64 (YE - (Y5.length : Int)) <| s
 cases h0 : (decide ((IntKind.wrap .i64 (YE - (Y5.length : Int))) < 0)) with
 | true =>
  have gh0 := odt h0
  refine fnS E0Ok Z5 (c := bodyOf f93) [] (.i .i64 (-1)) [] func93 (p (sB h0 <| sK [] sN)) rfl (by kernel_rfl) (by kernel_rfl) rfl ?_ ?_
  · simp only [Z2t, h0, cond_true]
  · rfl
 | false =>
  have gh0 := odf h0
  have q {a C} (s : Scr a C) := p (sB h0 <| s)
  clear p
  cases h1 : (Z4i Y5 YE) with
  | inl r2 =>
   refine fnS E0Ok Z5 (c := bodyOf f93) [] (.i .i64 (-1)) [] func93 (q (sL (mR false [0, 2, 3, 7, 15]) 0 (lp_val (Z5l Y5 YE) (x := (Z4i Y5 YE)) (Z9o Y5 YE hp0 hp1 h0 (((Y5.length : Int) - 0).toNat + 1) (IntKind.wrap .i64 (YE - (Y5.length : Int))) 0 (show 0 ≤ 0 from (by omega)) (Nat.lt_succ_self _)) h1) <| sK [] sN)) rfl (by kernel_rfl) (by kernel_rfl) rfl ?_ ?_
   · simp only [Z2t, h0, h1, cond_false]
   · rfl
  | inr r2 =>
   refine fnS E0Ok Z5 (c := bodyOf f93) [] (.i .i64 r2) [] func93 (q (sL (mR false [0, 2, 3, 7, 15]) 0 (lp_val (Z5l Y5 YE) (x := (Z4i Y5 YE)) (Z9o Y5 YE hp0 hp1 h0 (((Y5.length : Int) - 0).toNat + 1) (IntKind.wrap .i64 (YE - (Y5.length : Int))) 0 (show 0 ≤ 0 from (by omega)) (Nat.lt_succ_self _)) h1) <| sK [] sN)) rfl (by kernel_rfl) (by kernel_rfl) rfl ?_ ?_
   · simp only [Z2t, h0, h1, cond_false]
   · rfl
theorem Zgy (a : List (List Int)) (left : Int) (hb : ∀ t ∈ a, t.length ≤ 9223372036854775807) : ∀ (k : Nat) (l i : Int), 0 ≤ i → ((a.length : Int) - i).toNat < k → -1 ≤ l → l ≤ 1048576 →
    Z1O a left k l i = .inl () ∨ ∃ r, Z1O a left k l i = .inr r ∧ -1 ≤ r ∧ r ≤ l ∧ ∀ j, i.toNat ≤ j → j < a.length → ((a.getD j default).length : Int) ≤ l := by
  intro k
  induction k with
  | zero => intro l i h0 hk; exact absurd hk (Nat.not_lt_zero _)
  | succ k ih =>
    intro l i h0 hk h1 h2
    rw [Z1O]
    by_cases hi : i < (a.length : Int)
    · have hn : i.toNat < a.length := by omega
      rw [decide_eq_true hi, cond_true]
      have hm : (a.getD i.toNat default) ∈ a := by rw [List.getD_eq_getElem?_getD, List.getElem?_eq_getElem hn]; exact List.getElem_mem hn
      obtain ⟨q1, q2, q3⟩ := Zew (a.getD i.toNat default) l (hb _ hm) h1 h2
      cases hc : decide (Z2s (a.getD i.toNat default) l < 0) with
      | true => left; rfl
      | false =>
        simp only [decide_eq_false_iff_not] at hc
        rw [cond_false]
        rcases ih (Z2s (a.getD i.toNat default) l) (i + 1) (by omega) (by omega) q1 (by omega) with e | ⟨r, e, r1, r2, r3⟩
        · left; exact e
        · right
          refine ⟨r, e, r1, by omega, fun j hj hjl => ?_⟩
          by_cases hji : j = i.toNat
          · subst hji; omega
          · have := r3 j (by omega) hjl; omega
    · rw [decide_eq_false hi, cond_false]
      exact .inr ⟨l, rfl, h1, Int.le_refl _, fun j hj hjl => by omega⟩
theorem Ze8 (a : List (List Int)) (left : Int) (h0 : a.length ≤ 9223372036854775807) (hb : ∀ t ∈ a, t.length ≤ 9223372036854775807) (h1 : -1 ≤ left) (h2 : left ≤ 1048576) :
    -1 ≤ Z2t a left ∧ Z2t a left ≤ left ∧ (Z2t a left < 0 ∨ ((a.length : Int) ≤ left ∧ ∀ t ∈ a, (t.length : Int) ≤ left)) := by
  unfold Z2t Z4i
  rw [wrap_sub (by omega) (by omega)]
  cases h : decide (left - (a.length : Int) < 0) with
  | true => simp only [decide_eq_true_eq] at h; rw [cond_true]; omega
  | false =>
    simp only [decide_eq_false_iff_not] at h
    rw [cond_false]
    rcases Zgy a left hb _ (left - (a.length : Int)) 0 (Int.le_refl _) (Nat.lt_succ_self _) (by omega) (by omega) with e | ⟨r, e, r1, r2, r3⟩
    · rw [e]; simp only; omega
    · rw [e]; simp only
      refine ⟨r1, by omega, .inr ⟨by omega, fun t ht => ?_⟩⟩
      obtain ⟨j, hj, rfl⟩ := List.getElem_of_mem ht
      have := r3 j (by simp) hj
      rw [List.getD_eq_getElem?_getD, List.getElem?_eq_getElem hj, Option.getD_some] at this
      omega
def Z12 (Y5 : Gm) (YE : Int) : Int := (cond (decide ((Z1H Y5.Pq YE) < 0))
  (-1)
  (cond (decide ((Z2t Y5.Tr (Z1H Y5.Pq YE)) < 0))
    (-1)
    (Z2t Y5.Tr (Z1H Y5.Pq YE))))
theorem Zg4 (Y5 : Gm) (YE : Int) (hp0 : Y5.Pq.length ≤ 9223372036854775807) (hp1 : Y5.Tr.length ≤ 9223372036854775807) (hp2 : ∀ t ∈ Y5.Tr, t.length ≤ 9223372036854775807)  : Fn prog 47 [.agg [.sl (Y5.Pq.map Gv.c), .sl (Y5.Tr.map (cL (cI .i64)))], .i .i64 YE] (.i .i64 (Z12 Y5 YE)) [] := by
 have p {a C} (s : Scr a C) := sF (Zev Y5.Pq YE hp0) <| s
 cases h0 : (decide ((Z1H Y5.Pq YE) < 0)) with
 | true =>
  have gh0 := odt h0
  refine fnS E0Ok Z5 (c := bodyOf f47) [] (.i .i64 (-1)) [] func47 (p (sB h0 <| sK [] sN)) rfl (by kernel_rfl) (by kernel_rfl) rfl ?_ ?_
  · simp only [Z12, h0, cond_true]
  · rfl
 | false =>
  have gh0 := odf h0
  have q {a C} (s : Scr a C) := p (sB h0 <| sF (Zex Y5.Tr (Z1H Y5.Pq YE) hp1 hp2) <| s)
  clear p
  cases h1 : (decide ((Z2t Y5.Tr (Z1H Y5.Pq YE)) < 0)) with
  | true =>
   have gh1 := odt h1
   refine fnS E0Ok Z5 (c := bodyOf f47) [] (.i .i64 (-1)) [] func47 (q (sB h1 <| sK [] sN)) rfl (by kernel_rfl) (by kernel_rfl) rfl ?_ ?_
   · simp only [Z12, h0, h1, cond_true, cond_false]
   · rfl
  | false =>
   have gh1 := odf h1
   refine fnS E0Ok Z5 (c := bodyOf f47) [] (.i .i64 (Z2t Y5.Tr (Z1H Y5.Pq YE))) [] func47 (q (sB h1 <| sK [] sN)) rfl (by kernel_rfl) (by kernel_rfl) rfl ?_ ?_
   · simp only [Z12, h0, h1, cond_false]
   · rfl
theorem Zfz (a : Gm) (left : Int) (h0 : a.Pq.length ≤ 9223372036854775807) (h3 : a.Tr.length ≤ 9223372036854775807) (hb : ∀ t ∈ a.Tr, t.length ≤ 9223372036854775807) (h1 : -1 ≤ left) (h2 : left ≤ 1048576) :
    -1 ≤ Z12 a left ∧ Z12 a left ≤ left ∧ (Z12 a left < 0 ∨ (a.Pq.length : Int) ≤ left) ∧ (Z12 a left < 0 ∨ (a.Tr.length : Int) ≤ left) ∧ ∀ t ∈ a.Tr, Z12 a left < 0 ∨ (t.length : Int) ≤ left := by
  have key : -1 ≤ Z12 a left ∧ Z12 a left ≤ left ∧ (Z12 a left < 0 ∨ ((a.Pq.length : Int) ≤ left ∧ (a.Tr.length : Int) ≤ left ∧ ∀ t ∈ a.Tr, (t.length : Int) ≤ left)) := by
    unfold Z12
    obtain ⟨p1, p2, p3⟩ := Ze7 a.Pq left h0 h1 h2
    cases h : decide (Z1H a.Pq left < 0) with
    | true => simp only [decide_eq_true_eq] at h; rw [cond_true]; refine ⟨by omega, by omega, .inl (by omega)⟩
    | false =>
      simp only [decide_eq_false_iff_not] at h
      rw [cond_false]
      obtain ⟨q1, q2, q3⟩ := Ze8 a.Tr (Z1H a.Pq left) h3 hb p1 (by omega)
      cases h' : decide (Z2t a.Tr (Z1H a.Pq left) < 0) with
      | true => rw [cond_true]; exact ⟨by omega, by omega, .inl (by omega)⟩
      | false =>
        simp only [decide_eq_false_iff_not] at h'
        rw [cond_false]
        rcases q3 with q | ⟨qa, qb⟩
        · omega
        · exact ⟨q1, by omega, .inr ⟨by omega, by omega, fun t ht => by have := qb t ht; omega⟩⟩
  obtain ⟨k1, k2, k3⟩ := key
  rcases k3 with k3 | ⟨ka, kb, kc⟩
  · exact ⟨k1, k2, .inl k3, .inl k3, fun t ht => .inl k3⟩
  · exact ⟨k1, k2, .inr ka, .inr kb, fun t ht => .inr (kc t ht)⟩
def Z1I (Y5 : (List Gs)) (YE : Int) : Int := (cond (decide ((IntKind.wrap .i64 (YE - (Y5.length : Int))) < 0))
  (-1)
  (IntKind.wrap .i64 (YE - (Y5.length : Int))))
theorem Zey (Y5 : (List Gs)) (YE : Int) (hp0 : Y5.length ≤ 9223372036854775807)  : Fn prog 48 [.sl (Y5.map Gs.c), .i .i64 YE] (.i .i64 (Z1I Y5 YE)) [] := by
 have p {a C} (s : Scr a C) := sZ Gs.c Y5 <| sW .i64 (YE - (Y5.length : Int)) <| s
 cases h0 : (decide ((IntKind.wrap .i64 (YE - (Y5.length : Int))) < 0)) with
 | true =>
  have gh0 := odt h0
  refine fnS E0Ok Z5 (c := bodyOf f48) [] (.i .i64 (-1)) [] func48 (p (sB h0 <| sK [] sN)) rfl (by kernel_rfl) (by kernel_rfl) rfl ?_ ?_
  · simp only [Z1I, h0, cond_true]
  · rfl
 | false =>
  have gh0 := odf h0
  refine fnS E0Ok Z5 (c := bodyOf f48) [] (.i .i64 (IntKind.wrap .i64 (YE - (Y5.length : Int)))) [] func48 (p (sB h0 <| sK [] sN)) rfl (by kernel_rfl) (by kernel_rfl) rfl ?_ ?_
  · simp only [Z1I, h0, cond_false]
  · rfl
theorem Ze9 (a : List Gs) (left : Int) (h0 : a.length ≤ 9223372036854775807) (h1 : -1 ≤ left) (h2 : left ≤ 1048576) : -1 ≤ Z1I a left ∧ Z1I a left ≤ left ∧ (Z1I a left < 0 ∨ (a.length : Int) ≤ left) := by
  unfold Z1I
  rw [wrap_sub (by omega) (by omega)]
  by_cases h : left - (a.length : Int) < 0
  · simp [h]; omega
  · simp [h]; omega
def Z2x (Y5 : (List Nat)) (YE : Int) : Int := (cond (decide ((IntKind.wrap .i64 (YE - (Y5.length : Int))) < 0))
  (-1)
  (IntKind.wrap .i64 (YE - (Y5.length : Int))))
theorem Zea (Y5 : (List Nat)) (YE : Int) (hp0 : Y5.length ≤ 9223372036854775807)  : Fn prog 49 [.sl (Y5.map (cF .f32)), .i .i64 YE] (.i .i64 (Z2x Y5 YE)) [] := by
 have p {a C} (s : Scr a C) := sZ (cF .f32) Y5 <| sW .i64 (YE - (Y5.length : Int)) <| s
 cases h0 : (decide ((IntKind.wrap .i64 (YE - (Y5.length : Int))) < 0)) with
 | true =>
  have gh0 := odt h0
  refine fnS E0Ok Z5 (c := bodyOf f49) [] (.i .i64 (-1)) [] func49 (p (sB h0 <| sK [] sN)) rfl (by kernel_rfl) (by kernel_rfl) rfl ?_ ?_
  · simp only [Z2x, h0, cond_true]
  · rfl
 | false =>
  have gh0 := odf h0
  refine fnS E0Ok Z5 (c := bodyOf f49) [] (.i .i64 (IntKind.wrap .i64 (YE - (Y5.length : Int)))) [] func49 (p (sB h0 <| sK [] sN)) rfl (by kernel_rfl) (by kernel_rfl) rfl ?_ ?_
  · simp only [Z2x, h0, cond_false]
  · rfl
theorem Zdo (a : List Nat) (left : Int) (h0 : a.length ≤ 9223372036854775807) (h1 : -1 ≤ left) (h2 : left ≤ 1048576) : -1 ≤ Z2x a left ∧ Z2x a left ≤ left ∧ (Z2x a left < 0 ∨ (a.length : Int) ≤ left) := by
  unfold Z2x
  rw [wrap_sub (by omega) (by omega)]
  by_cases h : left - (a.length : Int) < 0
  · simp [h]; omega
  · simp [h]; omega
def Z2y (Y5 : Gb) (YE : Int) : Int := (cond (decide ((Z12 Y5.Me YE) < 0))
  (-1)
  (cond (decide ((Z1I Y5.Sp (Z12 Y5.Me YE)) < 0))
    (-1)
    (cond (decide ((Z2x Y5.We (Z1I Y5.Sp (Z12 Y5.Me YE))) < 0))
      (-1)
      (Z2x Y5.We (Z1I Y5.Sp (Z12 Y5.Me YE))))))
theorem Zg5 (Y5 : Gb) (YE : Int) (hp0 : Y5.Me.Pq.length ≤ 9223372036854775807) (hp1 : Y5.Me.Tr.length ≤ 9223372036854775807) (hp2 : ∀ t ∈ Y5.Me.Tr, t.length ≤ 9223372036854775807) (hp3 : Y5.Sp.length ≤ 9223372036854775807) (hp4 : Y5.We.length ≤ 9223372036854775807)  : Fn prog 11 [.agg [.sl (Y5.Me.Pq.map Gv.c), .sl (Y5.Me.Tr.map (cL (cI .i64))), .sl (Y5.Sp.map Gs.c), .f .f32 Y5.Film, .f .f32 Y5.Bend, .sl (Y5.We.map (cF .f32)), .f .f32 Y5.Fall.X, .f .f32 Y5.Fall.Y, .f .f32 Y5.Fall.Z], .i .i64 YE] (.i .i64 (Z2y Y5 YE)) [] := by
 have p {a C} (s : Scr a C) := sF (Zg4 Y5.Me YE hp0 hp1 hp2) <| s
 cases h0 : (decide ((Z12 Y5.Me YE) < 0)) with
 | true =>
  have gh0 := odt h0
  refine fnS E0Ok Z5 (c := bodyOf f11) [] (.i .i64 (-1)) [] func11 (p (sB h0 <| sK [] sN)) rfl (by kernel_rfl) (by kernel_rfl) rfl ?_ ?_
  · simp only [Z2y, h0, cond_true]
  · rfl
 | false =>
  have gh0 := odf h0
  have q {a C} (s : Scr a C) := p (sB h0 <| sF (Zey Y5.Sp (Z12 Y5.Me YE) hp3) <| s)
  clear p
  cases h1 : (decide ((Z1I Y5.Sp (Z12 Y5.Me YE)) < 0)) with
  | true =>
   have gh1 := odt h1
   refine fnS E0Ok Z5 (c := bodyOf f11) [] (.i .i64 (-1)) [] func11 (q (sB h1 <| sK [] sN)) rfl (by kernel_rfl) (by kernel_rfl) rfl ?_ ?_
   · simp only [Z2y, h0, h1, cond_true, cond_false]
   · rfl
  | false =>
   have gh1 := odf h1
   have p {a C} (s : Scr a C) := q (sB h1 <| sF (Zea Y5.We (Z1I Y5.Sp (Z12 Y5.Me YE)) hp4) <| s)
   clear q
   cases h2 : (decide ((Z2x Y5.We (Z1I Y5.Sp (Z12 Y5.Me YE))) < 0)) with
   | true =>
    have gh2 := odt h2
    refine fnS E0Ok Z5 (c := bodyOf f11) [] (.i .i64 (-1)) [] func11 (p (sB h2 <| sK [] sN)) rfl (by kernel_rfl) (by kernel_rfl) rfl ?_ ?_
    · simp only [Z2y, h0, h1, h2, cond_true, cond_false]
    · rfl
   | false =>
    have gh2 := odf h2
    refine fnS E0Ok Z5 (c := bodyOf f11) [] (.i .i64 (Z2x Y5.We (Z1I Y5.Sp (Z12 Y5.Me YE)))) [] func11 (p (sB h2 <| sK [] sN)) rfl (by kernel_rfl) (by kernel_rfl) rfl ?_ ?_
    · simp only [Z2y, h0, h1, h2, cond_false]
    · rfl
theorem Zc1 (a : Gb) (left : Int) (g0 : a.Me.Pq.length ≤ 9223372036854775807) (g1 : a.Me.Tr.length ≤ 9223372036854775807) (g2 : ∀ t ∈ a.Me.Tr, t.length ≤ 9223372036854775807) (g3 : a.Sp.length ≤ 9223372036854775807) (g4 : a.We.length ≤ 9223372036854775807) (h1 : -1 ≤ left) (h2 : left ≤ 1048576) : -1 ≤ Z2y a left ∧ Z2y a left ≤ left ∧ (Z2y a left < 0 ∨ (a.Me.Pq.length : Int) ≤ left) ∧ (Z2y a left < 0 ∨ (a.Me.Tr.length : Int) ≤ left) ∧ (Z2y a left < 0 ∨ (a.Sp.length : Int) ≤ left) ∧ (Z2y a left < 0 ∨ (a.We.length : Int) ≤ left) ∧ ∀ t ∈ a.Me.Tr, Z2y a left < 0 ∨ (t.length : Int) ≤ left := by
  unfold Z2y
  have p0 := Zfz a.Me left g0 g1 g2 (by omega) (by omega)
  cases hc0 : decide (Z12 a.Me left < 0) with
  | true =>
    simp only [decide_eq_true_eq] at hc0; rw [cond_true]; refine ⟨by omega, by omega, .inl (by omega), .inl (by omega), .inl (by omega), .inl (by omega), fun t ht => .inl (by omega)⟩
  | false =>
    simp only [decide_eq_false_iff_not] at hc0; rw [cond_false]
    have p1 := Ze9 a.Sp (Z12 a.Me left) g3 (by omega) (by omega)
    cases hc1 : decide (Z1I a.Sp (Z12 a.Me left) < 0) with
    | true =>
      simp only [decide_eq_true_eq] at hc1; rw [cond_true]; refine ⟨by omega, by omega, .inl (by omega), .inl (by omega), .inl (by omega), .inl (by omega), fun t ht => .inl (by omega)⟩
    | false =>
      simp only [decide_eq_false_iff_not] at hc1; rw [cond_false]
      have p2 := Zdo a.We (Z1I a.Sp (Z12 a.Me left)) g4 (by omega) (by omega)
      cases hc2 : decide (Z2x a.We (Z1I a.Sp (Z12 a.Me left)) < 0) with
      | true =>
        simp only [decide_eq_true_eq] at hc2; rw [cond_true]; refine ⟨by omega, by omega, .inl (by omega), .inl (by omega), .inl (by omega), .inl (by omega), fun t ht => .inl (by omega)⟩
      | false =>
        simp only [decide_eq_false_iff_not] at hc2; rw [cond_false]
        refine ⟨by omega, by omega, .inr (by omega), .inr (by omega), .inr (by omega), .inr (by omega), fun t ht => .inr (by have q := p0.2.2.2.2 t ht; omega)⟩
def Z6O (Y5 : Gv) : Gv := Y5
theorem Zf7 (Y5 : Gv)   : Fn prog 55 [.agg [.f .f32 Y5.X, .f .f32 Y5.Y, .f .f32 Y5.Z]] (.agg [.f .f32 ((Z6O Y5).X), .f .f32 ((Z6O Y5).Y), .f .f32 ((Z6O Y5).Z)]) [] := by
 refine fnS E0Ok Z5 (c := bodyOf f55) [] (.agg [.f .f32 Y5.X, .f .f32 Y5.Y, .f .f32 Y5.Z]) [] func55 (sK [] sN) rfl (by kernel_rfl) (by kernel_rfl) rfl ?_ ?_
 · rfl
 · rfl
@[simp] theorem Zez (a : Gv) : Z6O a = a := rfl
theorem Zby (Y5 : Gv)  : Fn prog 55 [.agg [.f .f32 Y5.X, .f .f32 Y5.Y, .f .f32 Y5.Z]] (.agg [.f .f32 Y5.X, .f .f32 Y5.Y, .f .f32 Y5.Z]) [] := by
 simpa only [Zez] using Zf7  Y5 
def Z2J (Y5 : (List Gv)) : Nat → Int → (List Gv) → (List Gv)
  | 0, _, _ => default
  | k + 1, Yb, Y3 => (cond (decide (Yb < (Y5.length : Int)))
    (Z2J Y5 k (Yb + 1) (Y3.set Yb.toNat (Y5.getD Yb.toNat default)))
    Y3)
def Z6s (Y5 : (List Gv)) (r : (List Gv)) : Ex × St := ((.exit 0), ⟨.sl (Y5.map Gv.c) :: .any :: .nils :: .own 0 :: .any :: .sl (Y5.map Gv.c) :: .i .i64 (Y5.length : Int) :: .own 0 :: an 15 [], [.vec 40 3 (r.map Gv.c) false]⟩)
def Z6t (Y5 : (List Gv)) (Yb : Int) (Y3 : (List Gv)) : St := ⟨.sl (Y5.map Gv.c) :: .any :: .nils :: .own 0 :: .i .i64 Yb :: .sl (Y5.map Gv.c) :: .i .i64 (Y5.length : Int) :: .own 0 :: an 15 [], [.vec 40 3 (Y3.map Gv.c) false]⟩
theorem ZcZ (Y5 : (List Gv)) (hp0 : Y5.length ≤ 1073741824) : ∀ (k : Nat) (Yb : Int) (Y3 : (List Gv)) (Z86 : 0 ≤ Yb) (Z87 : Y3.length = Y5.length) (hk : ((Y5.length : Int) - Yb).toNat < k), Lp prog 0 (sub (bodyOf f78) [1, 1, 0, 1, 0, 0]) (Z6t Y5 Yb Y3) (Z6s Y5 (Z2J Y5 k Yb Y3)).1 (Z6s Y5 (Z2J Y5 k Yb Y3)).2 := by
 intro k
 induction k with
 | zero => intro Yb Y3 Z86 Z87 hk; exact absurd hk (Nat.not_lt_zero _)
 | succ k ih =>
  intro Yb Y3 Z86 Z87 hk
  have p {a C} (s : Scr a C) := sZ Gv.c Y5 <| s
  cases Yj : (decide (Yb < (Y5.length : Int))) with
  | true =>
   have YM := odt Yj
   have YS : (0 : Int) ≤ Yb := by clear p; exact (by assumption)
   have YT : Yb < (Y5.length : Int) := by clear p; exact (by assumption)
   have YY : Yb < (Y3.length : Int) := by clear p; exact (by omega)
   have YZ : Yb.toNat < Y3.length := by clear p; exact (by omega)
   have y_4 : (-9223372036854775808 : Int) ≤ (Yb + 1) := by clear p; exact (by omega)
   have y_5 : (Yb + 1) ≤ (9223372036854775807 : Int) := by clear p; exact (by omega)
   have e : Z2J Y5 (k + 1) Yb Y3 = (Z2J Y5 k (Yb + 1) (Y3.set Yb.toNat (Y5.getD Yb.toNat default))) := by simp only [Z2J, Yj, cond_true]
   rw [e]
   exact nextS E0Ok Z5 [] (mR false [0, 1, 1, 6, 15]) [0] (⟨.sl (Y5.map Gv.c) :: .any :: .nils :: .own 0 :: .i .i64 (Yb + 1) :: .sl (Y5.map Gv.c) :: .i .i64 (Y5.length : Int) :: .own 0 :: an 15 [], [.vec 40 3 ((Y3.map Gv.c).set Yb.toNat [.f .f32 ((Y5.getD Yb.toNat default).X), .f .f32 ((Y5.getD Yb.toNat default).Y), .f .f32 ((Y5.getD Yb.toNat default).Z)]) false]⟩) (p (sB Yj <| sG Gv.c Y5 Yb YS YT <| sF (Zby (Y5.getD Yb.toNat default)) <| sX Gv.c Y3 Yb YS YY <| sC (maplt (c := Gv.c) (l := Y3) YZ) <| sI (Yb + 1) y_4 y_5 <| sN)) (by kernel_rfl) (by simp [Z6t, List.map_set, Gv.c]) (ih (Yb + 1) (Y3.set Yb.toNat (Y5.getD Yb.toNat default)) (show 0 ≤ (Yb + 1) from (by omega)) (show (Y3.set Yb.toNat (Y5.getD Yb.toNat default)).length = Y5.length from (by simp_all <;> omega)) (by omega))
  | false =>
   have YM := odf Yj
   have e : Z2J Y5 (k + 1) Yb Y3 = Y3 := by simp only [Z2J, Yj, cond_false]
   rw [e]
   exact outR (e := (.exit 0)) E0Ok Z5 [] (mR false [0, 1, 1, 2, 1, 3, 15]) [0] (p (sB Yj <| sN)) (by kernel_rfl) (by intro h; cases h)
def Z4J (Y5 : (List Gv)) : (List Gv) := (Z2J Y5 (((Y5.length : Int) - 0).toNat + 1) 0 (List.replicate (Y5.length : Int).toNat (⟨0, 0, 0⟩ : Gv)))
def Z60 (Y5 : (List Gv)) : (List Gv) := (Z4J Y5)
theorem ZeA (Y5 : (List Gv)) (hp0 : Y5.length ≤ 1073741824)  : Fn prog 78 [.sl (Y5.map Gv.c)] (.own 0) [.vec 40 3 ((Z60 Y5).map Gv.c) false] := by
 have y0 : (0 : Int) ≤ (Y5.length : Int) := (by omega)
 have y1 : ((Y5.length : Int) : Int) ≤ 2147483648 := (by omega)
 refine fnS E0Ok Z5 (c := bodyOf f78) [] (.own 0) [.vec 40 3 ((Z4J Y5).map Gv.c) false] func78 (sZ Gv.c Y5 <| sC (show (Y5.length : Int) = (Y5.length : Int) from rfl) <| sC y0 <| sC y1 <| sL (mR false [0, 1, 1, 6, 15]) 1 (lp_cast (st2 := ⟨.sl (Y5.map Gv.c) :: .any :: .nils :: .own 0 :: .i .i64 0 :: .sl (Y5.map Gv.c) :: .i .i64 (Y5.length : Int) :: .own 0 :: an 15 [], [.vec 40 3 (List.replicate (Int.toNat (Y5.length : Int)) [.f .f32 0, .f .f32 0, .f .f32 0]) false]⟩) (lp_val (Z6s Y5) (x := (Z4J Y5)) (ZcZ Y5 hp0 (((Y5.length : Int) - 0).toNat + 1) 0 (List.replicate (Y5.length : Int).toNat (⟨0, 0, 0⟩ : Gv)) (show 0 ≤ 0 from (by omega)) (show (List.replicate (Y5.length : Int).toNat (⟨0, 0, 0⟩ : Gv)).length = Y5.length from (by simp)) (Nat.lt_succ_self _)) rfl) (by simp [Z6t, Gv.c])) <| sK [0] sN) rfl (by kernel_rfl) (by kernel_rfl) rfl ?_ ?_
 · rfl
 · simp [Z60]
@[simp] theorem Zeb (a : List Gv) : Z60 a = a := by
  unfold Z60 Z4J
  rw [copy_all (f := id) (a := a) (lo := Z2J a) (fun k i r => rfl)]
  exact List.map_id a
theorem ZeB (Y5 : (List Gv)) (hp0 : Y5.length ≤ 1073741824) : Fn prog 78 [.sl (Y5.map Gv.c)] (.own 0) [.vec 40 3 (Y5.map Gv.c) false] := by
 simpa only [Zeb] using ZeA  Y5 hp0
def Z2S (Y5 : (List Int)) : Nat → Int → (List Int) → (List Int)
  | 0, _, _ => default
  | k + 1, Yb, Y3 => (cond (decide (Yb < (Y5.length : Int)))
    (Z2S Y5 k (Yb + 1) (Y3.set Yb.toNat (Y5.getD Yb.toNat default)))
    Y3)
def Z6Z (Y5 : (List Int)) (r : (List Int)) : Ex × St := ((.exit 0), ⟨.sl (Y5.map (cI .i64)) :: .any :: .nils :: .own 0 :: .any :: .sl (Y5.map (cI .i64)) :: .i .i64 (Y5.length : Int) :: .own 0 :: an 14 [], [.vec 2 1 (r.map (cI .i64)) false]⟩)
def Z70 (Y5 : (List Int)) (Yb : Int) (Y3 : (List Int)) : St := ⟨.sl (Y5.map (cI .i64)) :: .any :: .nils :: .own 0 :: .i .i64 Yb :: .sl (Y5.map (cI .i64)) :: .i .i64 (Y5.length : Int) :: .own 0 :: an 14 [], [.vec 2 1 (Y3.map (cI .i64)) false]⟩
theorem Zdp (Y5 : (List Int)) (hp0 : Y5.length ≤ 1073741824) : ∀ (k : Nat) (Yb : Int) (Y3 : (List Int)) (Z8C : 0 ≤ Yb) (Z8D : Y3.length = Y5.length) (hk : ((Y5.length : Int) - Yb).toNat < k), Lp prog 0 (sub (bodyOf f21) [1, 1, 0, 1, 0, 0]) (Z70 Y5 Yb Y3) (Z6Z Y5 (Z2S Y5 k Yb Y3)).1 (Z6Z Y5 (Z2S Y5 k Yb Y3)).2 := by
 intro k
 induction k with
 | zero => intro Yb Y3 Z8C Z8D hk; exact absurd hk (Nat.not_lt_zero _)
 | succ k ih =>
  intro Yb Y3 Z8C Z8D hk
  have p {a C} (s : Scr a C) := sZ (cI .i64) Y5 <| s
  cases Yj : (decide (Yb < (Y5.length : Int))) with
  | true =>
   have YM := odt Yj
   have YS : (0 : Int) ≤ Yb := by clear p; exact (by assumption)
   have YT : Yb < (Y5.length : Int) := by clear p; exact (by assumption)
   have YY : Yb < (Y3.length : Int) := by clear p; exact (by omega)
   have YZ : Yb.toNat < Y3.length := by clear p; exact (by omega)
   have y_4 : (-9223372036854775808 : Int) ≤ (Yb + 1) := by clear p; exact (by omega)
   have y_5 : (Yb + 1) ≤ (9223372036854775807 : Int) := by clear p; exact (by omega)
   have e : Z2S Y5 (k + 1) Yb Y3 = (Z2S Y5 k (Yb + 1) (Y3.set Yb.toNat (Y5.getD Yb.toNat default))) := by simp only [Z2S, Yj, cond_true]
   rw [e]
   exact nextS E0Ok Z5 [] (mR false [0, 1, 1, 6, 14]) [0] (⟨.sl (Y5.map (cI .i64)) :: .any :: .nils :: .own 0 :: .i .i64 (Yb + 1) :: .sl (Y5.map (cI .i64)) :: .i .i64 (Y5.length : Int) :: .own 0 :: an 14 [], [.vec 2 1 ((Y3.map (cI .i64)).set Yb.toNat [.i .i64 (Y5.getD Yb.toNat default)]) false]⟩) (p (sB Yj <| sG (cI .i64) Y5 Yb YS YT <| sX (cI .i64) Y3 Yb YS YY <| sC (maplt (c := (cI .i64)) (l := Y3) YZ) <| sI (Yb + 1) y_4 y_5 <| sN)) (by kernel_rfl) (by simp [Z70, List.map_set, cI]) (ih (Yb + 1) (Y3.set Yb.toNat (Y5.getD Yb.toNat default)) (show 0 ≤ (Yb + 1) from (by omega)) (show (Y3.set Yb.toNat (Y5.getD Yb.toNat default)).length = Y5.length from (by simp_all <;> omega)) (by omega))
  | false =>
   have YM := odf Yj
   have e : Z2S Y5 (k + 1) Yb Y3 = Y3 := by simp only [Z2S, Yj, cond_false]
   rw [e]
   exact outR (e := (.exit 0)) E0Ok Z5 [] (mR false [0, 1, 1, 2, 1, 3, 14]) [0] (p (sB Yj <| sN)) (by kernel_rfl) (by intro h; cases h)
def Z4Z (Y5 : (List Int)) : (List Int) := (Z2S Y5 (((Y5.length : Int) - 0).toNat + 1) 0 (List.replicate (Y5.length : Int).toNat 0))
def Z6P (Y5 : (List Int)) : (List Int) := (Z4Z Y5)
theorem Zf8 (Y5 : (List Int)) (hp0 : Y5.length ≤ 1073741824)  : Fn prog 21 [.sl (Y5.map (cI .i64))] (.own 0) [.vec 2 1 ((Z6P Y5).map (cI .i64)) false] := by
 have y0 : (0 : Int) ≤ (Y5.length : Int) := (by omega)
 have y1 : ((Y5.length : Int) : Int) ≤ 2147483648 := (by omega)
 refine fnS E0Ok Z5 (c := bodyOf f21) [] (.own 0) [.vec 2 1 ((Z4Z Y5).map (cI .i64)) false] func21 (sZ (cI .i64) Y5 <| sC (show (Y5.length : Int) = (Y5.length : Int) from rfl) <| sC y0 <| sC y1 <| sL (mR false [0, 1, 1, 6, 14]) 1 (lp_cast (st2 := ⟨.sl (Y5.map (cI .i64)) :: .any :: .nils :: .own 0 :: .i .i64 0 :: .sl (Y5.map (cI .i64)) :: .i .i64 (Y5.length : Int) :: .own 0 :: an 14 [], [.vec 2 1 (List.replicate (Int.toNat (Y5.length : Int)) [.i .i64 0]) false]⟩) (lp_val (Z6Z Y5) (x := (Z4Z Y5)) (Zdp Y5 hp0 (((Y5.length : Int) - 0).toNat + 1) 0 (List.replicate (Y5.length : Int).toNat 0) (show 0 ≤ 0 from (by omega)) (show (List.replicate (Y5.length : Int).toNat 0).length = Y5.length from (by simp)) (Nat.lt_succ_self _)) rfl) (by simp [Z70, cI])) <| sK [0] sN) rfl (by kernel_rfl) (by kernel_rfl) rfl ?_ ?_
 · rfl
 · simp [Z6P]
@[simp] theorem ZeC (a : List Int) : Z6P a = a := by
  unfold Z6P Z4Z
  rw [copy_all (f := id) (a := a) (lo := Z2S a) (fun k i r => rfl)]
  exact List.map_id a
theorem Z5v (Y5 : (List Int)) (hp0 : Y5.length ≤ 1073741824) : Fn prog 21 [.sl (Y5.map (cI .i64))] (.own 0) [.vec 2 1 (Y5.map (cI .i64)) false] := by
 simpa only [ZeC] using Zf8  Y5 hp0
def Z2K (Y5 : (List (List Int))) : Nat → Int → (List (List Int)) → (List (List Int))
  | 0, _, _ => default
  | k + 1, Yb, Y3 => (cond (decide (Yb < (Y5.length : Int)))
    (Z2K Y5 k (Yb + 1) (Y3.set Yb.toNat (Y5.getD Yb.toNat default)))
    Y3)
def Z6u (Y5 : (List (List Int))) (r : (List (List Int))) : Ex × St := ((.exit 0), ⟨.sl (Y5.map (cL (cI .i64))) :: .any :: .nils :: .own 0 :: .any :: .sl (Y5.map (cL (cI .i64))) :: .i .i64 (Y5.length : Int) :: .own 0 :: an 15 [], [.nest 49 (r.map fun l => l.map (cI .i64)) false]⟩)
def Z6v (Y5 : (List (List Int))) (Yb : Int) (Y3 : (List (List Int))) : St := ⟨.sl (Y5.map (cL (cI .i64))) :: .any :: .nils :: .own 0 :: .i .i64 Yb :: .sl (Y5.map (cL (cI .i64))) :: .i .i64 (Y5.length : Int) :: .own 0 :: an 15 [], [.nest 49 (Y3.map fun l => l.map (cI .i64)) false]⟩
theorem Zd0 (Y5 : (List (List Int))) (hp0 : Y5.length ≤ 1073741824) (hp1 : ∀ t ∈ Y5, t.length ≤ 1073741824) : ∀ (k : Nat) (Yb : Int) (Y3 : (List (List Int))) (Z88 : 0 ≤ Yb) (Z89 : Y3.length = Y5.length) (hk : ((Y5.length : Int) - Yb).toNat < k), Lp prog 0 (sub (bodyOf f103) [1, 1, 0, 1, 0, 0]) (Z6v Y5 Yb Y3) (Z6u Y5 (Z2K Y5 k Yb Y3)).1 (Z6u Y5 (Z2K Y5 k Yb Y3)).2 := by
 intro k
 induction k with
 | zero => intro Yb Y3 Z88 Z89 hk; exact absurd hk (Nat.not_lt_zero _)
 | succ k ih =>
  intro Yb Y3 Z88 Z89 hk
  have p {a C} (s : Scr a C) := sZ (cL (cI .i64)) Y5 <| s
  cases Yj : (decide (Yb < (Y5.length : Int))) with
  | true =>
   have YM := odt Yj
   have YS : (0 : Int) ≤ Yb := by clear p; exact (by assumption)
   have YT : Yb < (Y5.length : Int) := by clear p; exact (by assumption)
   have YY : (Y5.getD Yb.toNat default).length ≤ 1073741824 := by clear p; exact (by simp_all <;> omega)
   have YZ : Int.toNat Yb < Y3.length := by clear p; exact (by omega)
   have y_4 : Yb.toNat < Y3.length := by clear p; exact (by assumption)
   have y_5 : (-9223372036854775808 : Int) ≤ (Yb + 1) := by clear p; exact (by omega)
   have y_6 : (Yb + 1) ≤ (9223372036854775807 : Int) := by clear p; exact (by omega)
   have e : Z2K Y5 (k + 1) Yb Y3 = (Z2K Y5 k (Yb + 1) (Y3.set Yb.toNat (Y5.getD Yb.toNat default))) := by simp only [Z2K, Yj, cond_true]
   rw [e]
   exact nextS E0Ok Z5 [] (mR false [0, 1, 1, 6, 15]) [0] (⟨.sl (Y5.map (cL (cI .i64))) :: .any :: .nils :: .own 0 :: .i .i64 (Yb + 1) :: .sl (Y5.map (cL (cI .i64))) :: .i .i64 (Y5.length : Int) :: .own 0 :: an 15 [], [.nest 49 ((Y3.map fun l => l.map (cI .i64)).set Yb.toNat ((Y5.getD Yb.toNat default).map (cI .i64))) false]⟩) (p (sB Yj <| sG (cL (cI .i64)) Y5 Yb YS YT <| sF (Z5v (Y5.getD Yb.toNat default) YY) <| sC (nestix (c := (cI .i64)) (l := Y3) (i := Yb) YS YZ) <| sC (show Yb.toNat < (Y3.map fun l => l.map (cI .i64)).length from (by simpa using y_4)) <| sI (Yb + 1) y_5 y_6 <| sN)) (by kernel_rfl) (by simp [Z6v, List.map_set, cL, cI]) (ih (Yb + 1) (Y3.set Yb.toNat (Y5.getD Yb.toNat default)) (show 0 ≤ (Yb + 1) from (by omega)) (show (Y3.set Yb.toNat (Y5.getD Yb.toNat default)).length = Y5.length from (by simp_all <;> omega)) (by omega))
  | false =>
   have YM := odf Yj
   have e : Z2K Y5 (k + 1) Yb Y3 = Y3 := by simp only [Z2K, Yj, cond_false]
   rw [e]
   exact outR (e := (.exit 0)) E0Ok Z5 [] (mR false [0, 1, 1, 2, 1, 3, 15]) [0] (p (sB Yj <| sN)) (by kernel_rfl) (by intro h; cases h)
def Z4K (Y5 : (List (List Int))) : (List (List Int)) := (Z2K Y5 (((Y5.length : Int) - 0).toNat + 1) 0 (List.replicate (Y5.length : Int).toNat ([] : (List Int))))
def Z61 (Y5 : (List (List Int))) : (List (List Int)) := (Z4K Y5)
theorem ZeD (Y5 : (List (List Int))) (hp0 : Y5.length ≤ 1073741824) (hp1 : ∀ t ∈ Y5, t.length ≤ 1073741824)  : Fn prog 103 [.sl (Y5.map (cL (cI .i64)))] (.own 0) [.nest 49 ((Z61 Y5).map fun l => l.map (cI .i64)) false] := by
 have y0 : (0 : Int) ≤ (Y5.length : Int) := (by omega)
 have y1 : ((Y5.length : Int) : Int) ≤ 2147483648 := (by omega)
 refine fnS E0Ok Z5 (c := bodyOf f103) [] (.own 0) [.nest 49 ((Z4K Y5).map fun l => l.map (cI .i64)) false] func103 (sZ (cL (cI .i64)) Y5 <| sC (show (Y5.length : Int) = (Y5.length : Int) from rfl) <| sC y0 <| sC y1 <| sL (mR false [0, 1, 1, 6, 15]) 1 (lp_cast (st2 := ⟨.sl (Y5.map (cL (cI .i64))) :: .any :: .nils :: .own 0 :: .i .i64 0 :: .sl (Y5.map (cL (cI .i64))) :: .i .i64 (Y5.length : Int) :: .own 0 :: an 15 [], [.nest 49 (List.replicate (Y5.length : Int).toNat []) false]⟩) (lp_val (Z6u Y5) (x := (Z4K Y5)) (Zd0 Y5 hp0 hp1 (((Y5.length : Int) - 0).toNat + 1) 0 (List.replicate (Y5.length : Int).toNat ([] : (List Int))) (show 0 ≤ 0 from (by omega)) (show (List.replicate (Y5.length : Int).toNat ([] : (List Int))).length = Y5.length from (by simp)) (Nat.lt_succ_self _)) rfl) (by simp [Z6v, cL, cI])) <| sK [0] sN) rfl (by kernel_rfl) (by kernel_rfl) rfl ?_ ?_
 · rfl
 · simp [Z61]
@[simp] theorem Zec (a : List (List Int)) : Z61 a = a := by
  unfold Z61 Z4K
  rw [copy_all (f := id) (a := a) (lo := Z2K a) (fun k i r => rfl)]
  exact List.map_id a
theorem ZeE (Y5 : (List (List Int))) (hp0 : Y5.length ≤ 1073741824) (hp1 : ∀ t ∈ Y5, t.length ≤ 1073741824) : Fn prog 103 [.sl (Y5.map (cL (cI .i64)))] (.own 0) [.nest 49 (Y5.map fun l => l.map (cI .i64)) false] := by
 simpa only [Zec] using ZeD  Y5 hp0 hp1
def Z6h (Y5 : Gm) : Gm := Y5
theorem Zg6 (Y5 : Gm) (hp0 : Y5.Pq.length ≤ 1073741824) (hp1 : Y5.Tr.length ≤ 1073741824) (hp2 : ∀ t ∈ Y5.Tr, t.length ≤ 1073741824)  : Fn prog 52 [.agg [.sl (Y5.Pq.map Gv.c), .sl (Y5.Tr.map (cL (cI .i64)))]] (.agg [.own 0, .own 1]) [.vec 40 3 (((Z6h Y5).Pq).map Gv.c) false, .nest 49 (((Z6h Y5).Tr).map fun l => l.map (cI .i64)) false] := by
 refine fnS E0Ok Z5 (c := bodyOf f52) [] (.agg [.own 0, .own 1]) [.vec 40 3 (Y5.Pq.map Gv.c) false, .nest 49 (Y5.Tr.map fun l => l.map (cI .i64)) false] func52 (sF (ZeB Y5.Pq hp0) <| sF (ZeE Y5.Tr hp1 hp2) <| sK [3, 4] sN) rfl (by kernel_rfl) (by kernel_rfl) rfl ?_ ?_
 · rfl
 · simp [Z6h]
@[simp] theorem ZfA (a : Gm) : Z6h a = a := by
  simp [Z6h]
theorem Zg7 (Y5 : Gm) (hp0 : Y5.Pq.length ≤ 1073741824) (hp1 : Y5.Tr.length ≤ 1073741824) (hp2 : ∀ t ∈ Y5.Tr, t.length ≤ 1073741824) : Fn prog 52 [.agg [.sl (Y5.Pq.map Gv.c), .sl (Y5.Tr.map (cL (cI .i64)))]] (.agg [.own 0, .own 1]) [.vec 40 3 (Y5.Pq.map Gv.c) false, .nest 49 (Y5.Tr.map fun l => l.map (cI .i64)) false] := by
 simpa only [ZfA] using Zg6  Y5 hp0 hp1 hp2
def Z5w (Y5 : Gs) : Gs := Y5
theorem Zf9 (Y5 : Gs)   : Fn prog 104 [.agg [.i .i64 Y5.A, .i .i64 Y5.B, .f .f32 Y5.Long, .f .f32 Y5.Stiff]] (.agg [.i .i64 ((Z5w Y5).A), .i .i64 ((Z5w Y5).B), .f .f32 ((Z5w Y5).Long), .f .f32 ((Z5w Y5).Stiff)]) [] := by
 refine fnS E0Ok Z5 (c := bodyOf f104) [] (.agg [.i .i64 Y5.A, .i .i64 Y5.B, .f .f32 Y5.Long, .f .f32 Y5.Stiff]) [] func104 (sK [] sN) rfl (by kernel_rfl) (by kernel_rfl) rfl ?_ ?_
 · rfl
 · rfl
@[simp] theorem ZeF (a : Gs) : Z5w a = a := rfl
theorem Zfa (Y5 : Gs)  : Fn prog 104 [.agg [.i .i64 Y5.A, .i .i64 Y5.B, .f .f32 Y5.Long, .f .f32 Y5.Stiff]] (.agg [.i .i64 Y5.A, .i .i64 Y5.B, .f .f32 Y5.Long, .f .f32 Y5.Stiff]) [] := by
 simpa only [ZeF] using Zf9  Y5 
def Z2L (Y5 : (List Gs)) : Nat → Int → (List Gs) → (List Gs)
  | 0, _, _ => default
  | k + 1, Yb, Y3 => (cond (decide (Yb < (Y5.length : Int)))
    (Z2L Y5 k (Yb + 1) (Y3.set Yb.toNat (Y5.getD Yb.toNat default)))
    Y3)
def Z6w (Y5 : (List Gs)) (r : (List Gs)) : Ex × St := ((.exit 0), ⟨.sl (Y5.map Gs.c) :: .any :: .nils :: .own 0 :: .any :: .sl (Y5.map Gs.c) :: .i .i64 (Y5.length : Int) :: .own 0 :: an 15 [], [.vec 133 4 (r.map Gs.c) false]⟩)
def Z6x (Y5 : (List Gs)) (Yb : Int) (Y3 : (List Gs)) : St := ⟨.sl (Y5.map Gs.c) :: .any :: .nils :: .own 0 :: .i .i64 Yb :: .sl (Y5.map Gs.c) :: .i .i64 (Y5.length : Int) :: .own 0 :: an 15 [], [.vec 133 4 (Y3.map Gs.c) false]⟩
theorem Zd1 (Y5 : (List Gs)) (hp0 : Y5.length ≤ 1073741824) : ∀ (k : Nat) (Yb : Int) (Y3 : (List Gs)) (Z8a : 0 ≤ Yb) (Z8b : Y3.length = Y5.length) (hk : ((Y5.length : Int) - Yb).toNat < k), Lp prog 0 (sub (bodyOf f53) [1, 1, 0, 1, 0, 0]) (Z6x Y5 Yb Y3) (Z6w Y5 (Z2L Y5 k Yb Y3)).1 (Z6w Y5 (Z2L Y5 k Yb Y3)).2 := by
 intro k
 induction k with
 | zero => intro Yb Y3 Z8a Z8b hk; exact absurd hk (Nat.not_lt_zero _)
 | succ k ih =>
  intro Yb Y3 Z8a Z8b hk
  have p {a C} (s : Scr a C) := sZ Gs.c Y5 <| s
  cases Yj : (decide (Yb < (Y5.length : Int))) with
  | true =>
   have YM := odt Yj
   have YS : (0 : Int) ≤ Yb := by clear p; exact (by assumption)
   have YT : Yb < (Y5.length : Int) := by clear p; exact (by assumption)
   have YY : Yb < (Y3.length : Int) := by clear p; exact (by omega)
   have YZ : Yb.toNat < Y3.length := by clear p; exact (by omega)
   have y_4 : (-9223372036854775808 : Int) ≤ (Yb + 1) := by clear p; exact (by omega)
   have y_5 : (Yb + 1) ≤ (9223372036854775807 : Int) := by clear p; exact (by omega)
   have e : Z2L Y5 (k + 1) Yb Y3 = (Z2L Y5 k (Yb + 1) (Y3.set Yb.toNat (Y5.getD Yb.toNat default))) := by simp only [Z2L, Yj, cond_true]
   rw [e]
   exact nextS E0Ok Z5 [] (mR false [0, 1, 1, 6, 15]) [0] (⟨.sl (Y5.map Gs.c) :: .any :: .nils :: .own 0 :: .i .i64 (Yb + 1) :: .sl (Y5.map Gs.c) :: .i .i64 (Y5.length : Int) :: .own 0 :: an 15 [], [.vec 133 4 ((Y3.map Gs.c).set Yb.toNat [.i .i64 ((Y5.getD Yb.toNat default).A), .i .i64 ((Y5.getD Yb.toNat default).B), .f .f32 ((Y5.getD Yb.toNat default).Long), .f .f32 ((Y5.getD Yb.toNat default).Stiff)]) false]⟩) (p (sB Yj <| sG Gs.c Y5 Yb YS YT <| sF (Zfa (Y5.getD Yb.toNat default)) <| sX Gs.c Y3 Yb YS YY <| sC (maplt (c := Gs.c) (l := Y3) YZ) <| sI (Yb + 1) y_4 y_5 <| sN)) (by kernel_rfl) (by simp [Z6x, List.map_set, Gs.c]) (ih (Yb + 1) (Y3.set Yb.toNat (Y5.getD Yb.toNat default)) (show 0 ≤ (Yb + 1) from (by omega)) (show (Y3.set Yb.toNat (Y5.getD Yb.toNat default)).length = Y5.length from (by simp_all <;> omega)) (by omega))
  | false =>
   have YM := odf Yj
   have e : Z2L Y5 (k + 1) Yb Y3 = Y3 := by simp only [Z2L, Yj, cond_false]
   rw [e]
   exact outR (e := (.exit 0)) E0Ok Z5 [] (mR false [0, 1, 1, 2, 1, 3, 15]) [0] (p (sB Yj <| sN)) (by kernel_rfl) (by intro h; cases h)
def Z4L (Y5 : (List Gs)) : (List Gs) := (Z2L Y5 (((Y5.length : Int) - 0).toNat + 1) 0 (List.replicate (Y5.length : Int).toNat (⟨0, 0, 0, 0⟩ : Gs)))
def Z62 (Y5 : (List Gs)) : (List Gs) := (Z4L Y5)
theorem ZeG (Y5 : (List Gs)) (hp0 : Y5.length ≤ 1073741824)  : Fn prog 53 [.sl (Y5.map Gs.c)] (.own 0) [.vec 133 4 ((Z62 Y5).map Gs.c) false] := by
 have y0 : (0 : Int) ≤ (Y5.length : Int) := (by omega)
 have y1 : ((Y5.length : Int) : Int) ≤ 2147483648 := (by omega)
 refine fnS E0Ok Z5 (c := bodyOf f53) [] (.own 0) [.vec 133 4 ((Z4L Y5).map Gs.c) false] func53 (sZ Gs.c Y5 <| sC (show (Y5.length : Int) = (Y5.length : Int) from rfl) <| sC y0 <| sC y1 <| sL (mR false [0, 1, 1, 6, 15]) 1 (lp_cast (st2 := ⟨.sl (Y5.map Gs.c) :: .any :: .nils :: .own 0 :: .i .i64 0 :: .sl (Y5.map Gs.c) :: .i .i64 (Y5.length : Int) :: .own 0 :: an 15 [], [.vec 133 4 (List.replicate (Int.toNat (Y5.length : Int)) [.i .i64 0, .i .i64 0, .f .f32 0, .f .f32 0]) false]⟩) (lp_val (Z6w Y5) (x := (Z4L Y5)) (Zd1 Y5 hp0 (((Y5.length : Int) - 0).toNat + 1) 0 (List.replicate (Y5.length : Int).toNat (⟨0, 0, 0, 0⟩ : Gs)) (show 0 ≤ 0 from (by omega)) (show (List.replicate (Y5.length : Int).toNat (⟨0, 0, 0, 0⟩ : Gs)).length = Y5.length from (by simp)) (Nat.lt_succ_self _)) rfl) (by simp [Z6x, Gs.c])) <| sK [0] sN) rfl (by kernel_rfl) (by kernel_rfl) rfl ?_ ?_
 · rfl
 · simp [Z62]
@[simp] theorem Zed (a : List Gs) : Z62 a = a := by
  unfold Z62 Z4L
  rw [copy_all (f := id) (a := a) (lo := Z2L a) (fun k i r => rfl)]
  exact List.map_id a
theorem ZeH (Y5 : (List Gs)) (hp0 : Y5.length ≤ 1073741824) : Fn prog 53 [.sl (Y5.map Gs.c)] (.own 0) [.vec 133 4 (Y5.map Gs.c) false] := by
 simpa only [Zed] using ZeG  Y5 hp0
def Z2z (Y5 : (List Nat)) : Nat → Int → (List Nat) → (List Nat)
  | 0, _, _ => default
  | k + 1, Yb, Y3 => (cond (decide (Yb < (Y5.length : Int)))
    (Z2z Y5 k (Yb + 1) (Y3.set Yb.toNat (Y5.getD Yb.toNat default)))
    Y3)
def Z63 (Y5 : (List Nat)) (r : (List Nat)) : Ex × St := ((.exit 0), ⟨.sl (Y5.map (cF .f32)) :: .any :: .nils :: .own 0 :: .any :: .sl (Y5.map (cF .f32)) :: .i .i64 (Y5.length : Int) :: .own 0 :: an 14 [], [.vec 27 1 (r.map (cF .f32)) false]⟩)
def Z64 (Y5 : (List Nat)) (Yb : Int) (Y3 : (List Nat)) : St := ⟨.sl (Y5.map (cF .f32)) :: .any :: .nils :: .own 0 :: .i .i64 Yb :: .sl (Y5.map (cF .f32)) :: .i .i64 (Y5.length : Int) :: .own 0 :: an 14 [], [.vec 27 1 (Y3.map (cF .f32)) false]⟩
theorem Zcp (Y5 : (List Nat)) (hp0 : Y5.length ≤ 1073741824) : ∀ (k : Nat) (Yb : Int) (Y3 : (List Nat)) (Z7M : 0 ≤ Yb) (Z7N : Y3.length = Y5.length) (hk : ((Y5.length : Int) - Yb).toNat < k), Lp prog 0 (sub (bodyOf f54) [1, 1, 0, 1, 0, 0]) (Z64 Y5 Yb Y3) (Z63 Y5 (Z2z Y5 k Yb Y3)).1 (Z63 Y5 (Z2z Y5 k Yb Y3)).2 := by
 intro k
 induction k with
 | zero => intro Yb Y3 Z7M Z7N hk; exact absurd hk (Nat.not_lt_zero _)
 | succ k ih =>
  intro Yb Y3 Z7M Z7N hk
  have p {a C} (s : Scr a C) := sZ (cF .f32) Y5 <| s
  cases Yj : (decide (Yb < (Y5.length : Int))) with
  | true =>
   have YM := odt Yj
   have YS : (0 : Int) ≤ Yb := by clear p; exact (by assumption)
   have YT : Yb < (Y5.length : Int) := by clear p; exact (by assumption)
   have YY : Yb < (Y3.length : Int) := by clear p; exact (by omega)
   have YZ : Yb.toNat < Y3.length := by clear p; exact (by omega)
   have y_4 : (-9223372036854775808 : Int) ≤ (Yb + 1) := by clear p; exact (by omega)
   have y_5 : (Yb + 1) ≤ (9223372036854775807 : Int) := by clear p; exact (by omega)
   have e : Z2z Y5 (k + 1) Yb Y3 = (Z2z Y5 k (Yb + 1) (Y3.set Yb.toNat (Y5.getD Yb.toNat default))) := by simp only [Z2z, Yj, cond_true]
   rw [e]
   exact nextS E0Ok Z5 [] (mR false [0, 1, 1, 6, 14]) [0] (⟨.sl (Y5.map (cF .f32)) :: .any :: .nils :: .own 0 :: .i .i64 (Yb + 1) :: .sl (Y5.map (cF .f32)) :: .i .i64 (Y5.length : Int) :: .own 0 :: an 14 [], [.vec 27 1 ((Y3.map (cF .f32)).set Yb.toNat [.f .f32 (Y5.getD Yb.toNat default)]) false]⟩) (p (sB Yj <| sG (cF .f32) Y5 Yb YS YT <| sX (cF .f32) Y3 Yb YS YY <| sC (maplt (c := (cF .f32)) (l := Y3) YZ) <| sI (Yb + 1) y_4 y_5 <| sN)) (by kernel_rfl) (by simp [Z64, List.map_set, cF]) (ih (Yb + 1) (Y3.set Yb.toNat (Y5.getD Yb.toNat default)) (show 0 ≤ (Yb + 1) from (by omega)) (show (Y3.set Yb.toNat (Y5.getD Yb.toNat default)).length = Y5.length from (by simp_all <;> omega)) (by omega))
  | false =>
   have YM := odf Yj
   have e : Z2z Y5 (k + 1) Yb Y3 = Y3 := by simp only [Z2z, Yj, cond_false]
   rw [e]
   exact outR (e := (.exit 0)) E0Ok Z5 [] (mR false [0, 1, 1, 2, 1, 3, 14]) [0] (p (sB Yj <| sN)) (by kernel_rfl) (by intro h; cases h)
def Z4E (Y5 : (List Nat)) : (List Nat) := (Z2z Y5 (((Y5.length : Int) - 0).toNat + 1) 0 (List.replicate (Y5.length : Int).toNat 0))
def Z5F (Y5 : (List Nat)) : (List Nat) := (Z4E Y5)
theorem Zee (Y5 : (List Nat)) (hp0 : Y5.length ≤ 1073741824)  : Fn prog 54 [.sl (Y5.map (cF .f32))] (.own 0) [.vec 27 1 ((Z5F Y5).map (cF .f32)) false] := by
 have y0 : (0 : Int) ≤ (Y5.length : Int) := (by omega)
 have y1 : ((Y5.length : Int) : Int) ≤ 2147483648 := (by omega)
 refine fnS E0Ok Z5 (c := bodyOf f54) [] (.own 0) [.vec 27 1 ((Z4E Y5).map (cF .f32)) false] func54 (sZ (cF .f32) Y5 <| sC (show (Y5.length : Int) = (Y5.length : Int) from rfl) <| sC y0 <| sC y1 <| sL (mR false [0, 1, 1, 6, 14]) 1 (lp_cast (st2 := ⟨.sl (Y5.map (cF .f32)) :: .any :: .nils :: .own 0 :: .i .i64 0 :: .sl (Y5.map (cF .f32)) :: .i .i64 (Y5.length : Int) :: .own 0 :: an 14 [], [.vec 27 1 (List.replicate (Int.toNat (Y5.length : Int)) [.f .f32 0]) false]⟩) (lp_val (Z63 Y5) (x := (Z4E Y5)) (Zcp Y5 hp0 (((Y5.length : Int) - 0).toNat + 1) 0 (List.replicate (Y5.length : Int).toNat 0) (show 0 ≤ 0 from (by omega)) (show (List.replicate (Y5.length : Int).toNat 0).length = Y5.length from (by simp)) (Nat.lt_succ_self _)) rfl) (by simp [Z64, cF])) <| sK [0] sN) rfl (by kernel_rfl) (by kernel_rfl) rfl ?_ ?_
 · rfl
 · simp [Z5F]
@[simp] theorem Zdq (a : List Nat) : Z5F a = a := by
  unfold Z5F Z4E
  rw [copy_all (f := id) (a := a) (lo := Z2z a) (fun k i r => rfl)]
  exact List.map_id a
theorem Zef (Y5 : (List Nat)) (hp0 : Y5.length ≤ 1073741824) : Fn prog 54 [.sl (Y5.map (cF .f32))] (.own 0) [.vec 27 1 (Y5.map (cF .f32)) false] := by
 simpa only [Zdq] using Zee  Y5 hp0
def Z3m (Y5 : Gb) : Gb := Y5
theorem Zg8 (Y5 : Gb) (hp0 : Y5.Me.Pq.length ≤ 1073741824) (hp1 : Y5.Me.Tr.length ≤ 1073741824) (hp2 : ∀ t ∈ Y5.Me.Tr, t.length ≤ 1073741824) (hp3 : Y5.Sp.length ≤ 1073741824) (hp4 : Y5.We.length ≤ 1073741824)  : Fn prog 13 [.agg [.sl (Y5.Me.Pq.map Gv.c), .sl (Y5.Me.Tr.map (cL (cI .i64))), .sl (Y5.Sp.map Gs.c), .f .f32 Y5.Film, .f .f32 Y5.Bend, .sl (Y5.We.map (cF .f32)), .f .f32 Y5.Fall.X, .f .f32 Y5.Fall.Y, .f .f32 Y5.Fall.Z]] (.agg [.own 0, .own 1, .own 2, .f .f32 ((Z3m Y5).Film), .f .f32 ((Z3m Y5).Bend), .own 3, .f .f32 ((Z3m Y5).Fall.X), .f .f32 ((Z3m Y5).Fall.Y), .f .f32 ((Z3m Y5).Fall.Z)]) [.vec 40 3 (((Z3m Y5).Me.Pq).map Gv.c) false, .nest 49 (((Z3m Y5).Me.Tr).map fun l => l.map (cI .i64)) false, .vec 133 4 (((Z3m Y5).Sp).map Gs.c) false, .vec 27 1 (((Z3m Y5).We).map (cF .f32)) false] := by
 refine fnS E0Ok Z5 (c := bodyOf f13) [] (.agg [.own 0, .own 1, .own 2, .f .f32 Y5.Film, .f .f32 Y5.Bend, .own 3, .f .f32 Y5.Fall.X, .f .f32 Y5.Fall.Y, .f .f32 Y5.Fall.Z]) [.vec 40 3 (Y5.Me.Pq.map Gv.c) false, .nest 49 (Y5.Me.Tr.map fun l => l.map (cI .i64)) false, .vec 133 4 (Y5.Sp.map Gs.c) false, .vec 27 1 (Y5.We.map (cF .f32)) false] func13 (sF (Zg7 Y5.Me hp0 hp1 hp2) <| sF (ZeH Y5.Sp hp3) <| sF (Zef Y5.We hp4) <| sF (Zby Y5.Fall) <| sK [3, 4, 5, 6] sN) rfl (by kernel_rfl) (by kernel_rfl) rfl ?_ ?_
 · rfl
 · simp [Z3m]
@[simp] theorem ZfB (a : Gb) : Z3m a = a := by
  simp [Z3m]
theorem Z7U (Y5 : Gb) (hp0 : Y5.Me.Pq.length ≤ 1073741824) (hp1 : Y5.Me.Tr.length ≤ 1073741824) (hp2 : ∀ t ∈ Y5.Me.Tr, t.length ≤ 1073741824) (hp3 : Y5.Sp.length ≤ 1073741824) (hp4 : Y5.We.length ≤ 1073741824) : Fn prog 13 [.agg [.sl (Y5.Me.Pq.map Gv.c), .sl (Y5.Me.Tr.map (cL (cI .i64))), .sl (Y5.Sp.map Gs.c), .f .f32 Y5.Film, .f .f32 Y5.Bend, .sl (Y5.We.map (cF .f32)), .f .f32 Y5.Fall.X, .f .f32 Y5.Fall.Y, .f .f32 Y5.Fall.Z]] (.agg [.own 0, .own 1, .own 2, .f .f32 Y5.Film, .f .f32 Y5.Bend, .own 3, .f .f32 Y5.Fall.X, .f .f32 Y5.Fall.Y, .f .f32 Y5.Fall.Z]) [.vec 40 3 (Y5.Me.Pq.map Gv.c) false, .nest 49 (Y5.Me.Tr.map fun l => l.map (cI .i64)) false, .vec 133 4 (Y5.Sp.map Gs.c) false, .vec 27 1 (Y5.We.map (cF .f32)) false] := by
 simpa only [ZfB] using Zg8  Y5 hp0 hp1 hp2 hp3 hp4
def Zz (n_0 : Int) (YX : Int) (YO : Int) : Bool := (cond (decide (n_0 ≥ YX))
  (decide (n_0 ≤ YO))
  false)
theorem Z5i (n_0 : Int) (YX : Int) (YO : Int)   : Fn prog 81 [.i .i64 n_0, .i .i64 YX, .i .i64 YO] (.b (Zz n_0 YX YO)) [] := by
 cases h0 : (decide (n_0 ≥ YX)) with
 | true =>
  have gh0 := odt h0
  refine fnS E0Ok Z5 (c := bodyOf f81) [] (.b (decide (n_0 ≤ YO))) [] func81 (sB h0 <| sB h0 <| sB h0 <| sB h0 <| sK [] sN) rfl (by kernel_rfl) (by kernel_rfl) rfl ?_ ?_
  · simp only [Zz, h0, cond_true]
  · rfl
 | false =>
  have gh0 := odf h0
  refine fnS E0Ok Z5 (c := bodyOf f81) [] (.b false) [] func81 (sB h0 <| sB h0 <| sB h0 <| sB h0 <| sK [] sN) rfl (by kernel_rfl) (by kernel_rfl) rfl ?_ ?_
  · simp only [Zz, h0, cond_false]
  · rfl
theorem Zhi {x : Int} {n : Nat} (hn : n ≤ 9223372036854775807) (h : Zz x 0 (IntKind.wrap .i64 ((n : Int) - 1)) = true) : 0 ≤ x ∧ x < (n : Int) := by
  unfold Zz at h
  rw [wrap_id (n := (n : Int) - 1) (by omega) (by omega)] at h
  by_cases h1 : x ≥ 0 <;> simp [h1] at h
  omega
def ZT (YV : (List Int)) (n_1 : Int) : Bool := (cond ((YV.length : Int) != 3)
  false
  (cond ((YV.getD 0 default) == (YV.getD 1 default))
    false
    (cond ((YV.getD 1 default) == (YV.getD 2 default))
      false
      (cond ((YV.getD 0 default) == (YV.getD 2 default))
        false
        (cond (Zz (YV.getD 0 default) 0 (IntKind.wrap .i64 (n_1 - 1)))
          (cond (Zz (YV.getD 1 default) 0 (IntKind.wrap .i64 (n_1 - 1)))
            (Zz (YV.getD 2 default) 0 (IntKind.wrap .i64 (n_1 - 1)))
            false)
          false)))))
theorem Zdr (YV : (List Int)) (n_1 : Int) (hp0 : YV.length ≤ 1073741824)  : Fn prog 135 [.sl (YV.map (cI .i64)), .i .i64 n_1] (.b (ZT YV n_1)) [] := by
 have p {a C} (s : Scr a C) := sK [28, 28] <| sZ (cI .i64) YV <| s
 cases h0 : ((YV.length : Int) != 3) with
 | true =>
  have gh0 := bne_iff_ne.1 h0
  refine fnS E0Ok Z5 (c := bodyOf f135) [] (.b false) [] func135 (p (sB h0 <| sB h0 <| sB h0 <| sB h0 <| sB h0 <| sB h0 <| sB h0 <| sB h0 <| sB (show true = true from rfl) <| sB (show true = true from rfl) <| sB (show true = true from rfl) <| sB (show true = true from rfl) <| sB (show true = true from rfl) <| sB (show true = true from rfl) <| sB (show true = true from rfl) <| sB (show true = true from rfl) <| sB (show true = true from rfl) <| sB (show true = true from rfl) <| sB (show true = true from rfl) <| sB (show true = true from rfl) <| sB (show true = true from rfl) <| sB (show true = true from rfl) <| sB (show true = true from rfl) <| sB (show true = true from rfl) <| sB (show true = true from rfl) <| sK [] sN)) rfl (by kernel_rfl) (by kernel_rfl) rfl ?_ ?_
  · simp only [ZT, h0, cond_true]
  · rfl
 | false =>
  have gh0 := bne_eq_false_iff_eq.1 h0
  have y0 : (0 : Int) ≤ 0 := by clear p; exact (by omega)
  have y1 : 0 < (YV.length : Int) := by clear p; exact (by omega)
  have y2 : (0 : Int) ≤ 1 := by clear p; exact (by omega)
  have y3 : 1 < (YV.length : Int) := by clear p; exact (by omega)
  have q {a C} (s : Scr a C) := p (sB h0 <| sB h0 <| sG (cI .i64) YV 0 y0 y1 <| sB h0 <| sB h0 <| sB h0 <| sG (cI .i64) YV 1 y2 y3 <| sB h0 <| sB h0 <| sB h0 <| s)
  clear p
  cases h1 : ((YV.getD 0 default) == (YV.getD 1 default)) with
  | true =>
   have gh1 := eq_of_beq h1
   refine fnS E0Ok Z5 (c := bodyOf f135) [] (.b false) [] func135 (q (sB h1 <| sB h1 <| sB h1 <| sB h1 <| sB h1 <| sB h1 <| sB h1 <| sB h1 <| sB (show true = true from rfl) <| sB (show true = true from rfl) <| sB (show true = true from rfl) <| sB (show true = true from rfl) <| sB (show true = true from rfl) <| sB (show true = true from rfl) <| sB (show true = true from rfl) <| sB (show true = true from rfl) <| sB (show true = true from rfl) <| sK [] sN)) rfl (by kernel_rfl) (by kernel_rfl) rfl ?_ ?_
   · simp only [ZT, h0, h1, cond_true, cond_false]
   · rfl
  | false =>
   have gh1 := ne_of_beq_false h1
   have y4 : (0 : Int) ≤ 2 := by clear q; exact (by omega)
   have y5 : 2 < (YV.length : Int) := by clear q; exact (by omega)
   have p {a C} (s : Scr a C) := q (sB h1 <| sB h1 <| sG (cI .i64) YV 1 y2 y3 <| sB h1 <| sB h1 <| sB h1 <| sG (cI .i64) YV 2 y4 y5 <| sB h1 <| sB h1 <| sB h1 <| s)
   clear q
   cases h2 : ((YV.getD 1 default) == (YV.getD 2 default)) with
   | true =>
    have gh2 := eq_of_beq h2
    refine fnS E0Ok Z5 (c := bodyOf f135) [] (.b false) [] func135 (p (sB h2 <| sB h2 <| sB h2 <| sB h2 <| sB h2 <| sB h2 <| sB h2 <| sB h2 <| sB (show true = true from rfl) <| sK [] sN)) rfl (by kernel_rfl) (by kernel_rfl) rfl ?_ ?_
    · simp only [ZT, h0, h1, h2, cond_true, cond_false]
    · rfl
   | false =>
    have gh2 := ne_of_beq_false h2
    have q {a C} (s : Scr a C) := p (sB h2 <| sB h2 <| sG (cI .i64) YV 0 y0 y1 <| sB h2 <| sB h2 <| sB h2 <| sG (cI .i64) YV 2 y4 y5 <| sB h2 <| sB h2 <| sB h2 <| s)
    clear p
    cases h3 : ((YV.getD 0 default) == (YV.getD 2 default)) with
    | true =>
     have gh3 := eq_of_beq h3
     refine fnS E0Ok Z5 (c := bodyOf f135) [] (.b false) [] func135 (q (sB h3 <| sK [] sN)) rfl (by kernel_rfl) (by kernel_rfl) rfl ?_ ?_
     · simp only [ZT, h0, h1, h2, h3, cond_true, cond_false]
     · rfl
    | false =>
     have gh3 := ne_of_beq_false h3
     have p {a C} (s : Scr a C) := q (sB h3 <| sG (cI .i64) YV 0 y0 y1 <| sW .i64 (n_1 - 1) <| sF (Z5i (YV.getD 0 default) 0 (IntKind.wrap .i64 (n_1 - 1))) <| s)
     clear q
     cases h4 : (Zz (YV.getD 0 default) 0 (IntKind.wrap .i64 (n_1 - 1))) with
     | true =>
      have q {a C} (s : Scr a C) := p (sB h4 <| sB h4 <| sG (cI .i64) YV 1 y2 y3 <| sB h4 <| sB h4 <| sB h4 <| sW .i64 (n_1 - 1) <| sB h4 <| sF (Z5i (YV.getD 1 default) 0 (IntKind.wrap .i64 (n_1 - 1))) <| sB h4 <| s)
      clear p
      cases h5 : (Zz (YV.getD 1 default) 0 (IntKind.wrap .i64 (n_1 - 1))) with
      | true =>
       refine fnS E0Ok Z5 (c := bodyOf f135) [] (.b (Zz (YV.getD 2 default) 0 (IntKind.wrap .i64 (n_1 - 1)))) [] func135 (q (sB h5 <| sB h5 <| sG (cI .i64) YV 2 y4 y5 <| sB h5 <| sB h5 <| sB h5 <| sW .i64 (n_1 - 1) <| sB h5 <| sF (Z5i (YV.getD 2 default) 0 (IntKind.wrap .i64 (n_1 - 1))) <| sB h5 <| sK [] sN)) rfl (by kernel_rfl) (by kernel_rfl) rfl ?_ ?_
       · simp only [ZT, h0, h1, h2, h3, h4, h5, cond_true, cond_false]
       · rfl
      | false =>
       refine fnS E0Ok Z5 (c := bodyOf f135) [] (.b false) [] func135 (q (sB h5 <| sB h5 <| sB h5 <| sB h5 <| sB h5 <| sB h5 <| sB h5 <| sK [] sN)) rfl (by kernel_rfl) (by kernel_rfl) rfl ?_ ?_
       · simp only [ZT, h0, h1, h2, h3, h4, h5, cond_true, cond_false]
       · rfl
     | false =>
      refine fnS E0Ok Z5 (c := bodyOf f135) [] (.b false) [] func135 (p (sB h4 <| sB h4 <| sB h4 <| sB h4 <| sB h4 <| sB h4 <| sB h4 <| sB (show false = false from rfl) <| sB (show false = false from rfl) <| sB (show false = false from rfl) <| sB (show false = false from rfl) <| sB (show false = false from rfl) <| sB (show false = false from rfl) <| sB (show false = false from rfl) <| sK [] sN)) rfl (by kernel_rfl) (by kernel_rfl) rfl ?_ ?_
      · simp only [ZT, h0, h1, h2, h3, h4, cond_false]
      · rfl
def Z2W (Y7 : Gm) : Nat → Int → (Unit) ⊕ (Unit)
  | 0, _ => .inl default
  | k + 1, Yb => (cond (decide (Yb < (Y7.Tr.length : Int)))
    (cond (ZT (Y7.Tr.getD Yb.toNat default) (Y7.Pq.length : Int))
      (Z2W Y7 k (Yb + 1))
      (.inl ()))
    (.inr ()))
def Z6Q (Y7 : Gm) : (Unit) ⊕ (Unit) → Ex × St
  | .inl r => (.ret, ⟨.any :: .any :: .b false :: an 38 [], []⟩)
  | .inr r => ((.exit 0), ⟨.ref (Gm.c Y7) 0 :: .any :: .any :: .any :: .ref (Gm.c Y7) 0 :: .ref (Gm.c Y7) 0 :: .ref (Gm.c Y7) 0 :: .sl (Y7.Pq.map Gv.c) :: .i .i64 (Y7.Pq.length : Int) :: .b (decide ((Y7.Pq.length : Int) > 64)) :: .b (decide ((Y7.Pq.length : Int) > 64)) :: .ref (Gm.c Y7) 0 :: .ref (Gm.c Y7) 0 :: .ref (Gm.c Y7) 1 :: .sl (Y7.Tr.map (cL (cI .i64))) :: .i .i64 (Y7.Tr.length : Int) :: .b (decide ((Y7.Tr.length : Int) > 128)) :: .b (decide ((Y7.Tr.length : Int) > 128)) :: an 23 [], []⟩)
def Zfb (Y7 : Gm) (Yb : Int) : St := ⟨.ref (Gm.c Y7) 0 :: .any :: .any :: .i .i64 Yb :: .ref (Gm.c Y7) 0 :: .ref (Gm.c Y7) 0 :: .ref (Gm.c Y7) 0 :: .sl (Y7.Pq.map Gv.c) :: .i .i64 (Y7.Pq.length : Int) :: .b (decide ((Y7.Pq.length : Int) > 64)) :: .b (decide ((Y7.Pq.length : Int) > 64)) :: .ref (Gm.c Y7) 0 :: .ref (Gm.c Y7) 0 :: .ref (Gm.c Y7) 1 :: .sl (Y7.Tr.map (cL (cI .i64))) :: .i .i64 (Y7.Tr.length : Int) :: .b (decide ((Y7.Tr.length : Int) > 128)) :: .b (decide ((Y7.Tr.length : Int) > 128)) :: an 23 [], []⟩
theorem Zbz (Y7 : Gm) (hp0 : Y7.Pq.length ≤ 1073741824) (hp1 : Y7.Tr.length ≤ 1073741824) (hp2 : ∀ t ∈ Y7.Tr, t.length ≤ 1073741824) (ZhL : (decide ((Y7.Pq.length : Int) > 64)) = false) (ZhM : (decide ((Y7.Tr.length : Int) > 128)) = false) : ∀ (k : Nat) (Yb : Int) (ZaF : 0 ≤ Yb) (hk : ((Y7.Tr.length : Int) - Yb).toNat < k), Lp prog 0 (sub (bodyOf f94) [1, 1, 0, 1, 0, 0]) (Zfb Y7 Yb) (Z6Q Y7 (Z2W Y7 k Yb)).1 (Z6Q Y7 (Z2W Y7 k Yb)).2 := by
 intro k
 induction k with
 | zero => intro Yb ZaF hk; exact absurd hk (Nat.not_lt_zero _)
 | succ k ih =>
  intro Yb ZaF hk
  have p {a C} (s : Scr a C) := sZ (cL (cI .i64)) Y7.Tr <| s
  cases Yj : (decide (Yb < (Y7.Tr.length : Int))) with
  | true =>
   have YM := odt Yj
   have YS : (0 : Int) ≤ Yb := by clear p; exact (by assumption)
   have YT : Yb < (Y7.Tr.length : Int) := by clear p; exact (by assumption)
   have YY : (Y7.Tr.getD Yb.toNat default).length ≤ 1073741824 := by clear p; exact (by simp_all <;> omega)
   have q {a C} (s : Scr a C) := p (sB Yj <| sK [12, 12] <| sG (cL (cI .i64)) Y7.Tr Yb YS YT <| sZ Gv.c Y7.Pq <| sF (Zdr (Y7.Tr.getD Yb.toNat default) (Y7.Pq.length : Int) YY) <| s)
   clear p
   cases YJ : (ZT (Y7.Tr.getD Yb.toNat default) (Y7.Pq.length : Int)) with
   | true =>
    have YZ : (-9223372036854775808 : Int) ≤ (Yb + 1) := by clear q; exact (by omega)
    have y_4 : (Yb + 1) ≤ (9223372036854775807 : Int) := by clear q; exact (by omega)
    have e : Z2W Y7 (k + 1) Yb = (Z2W Y7 k (Yb + 1)) := by simp only [Z2W, Yj, YJ, cond_true]
    rw [e]
    exact nextR E0Ok Z5 [] (mR false [0, 1, 2, 15, 23]) [] (ih (Yb + 1) (show 0 ≤ (Yb + 1) from (by omega)) (by omega)) (q (sB' YJ <| sI (Yb + 1) YZ y_4 <| sN)) (by kernel_rfl)
   | false =>
    have e : Z2W Y7 (k + 1) Yb = (.inl ()) := by simp only [Z2W, Yj, YJ, cond_true, cond_false]
    rw [e]
    exact outR (e := .ret) E0Ok Z5 [] (mR false [2, 1, 38]) [] (q (sB' YJ <| sN)) (by kernel_rfl) (by intro h; cases h)
  | false =>
   have YM := odf Yj
   have e : Z2W Y7 (k + 1) Yb = (.inr ()) := by simp only [Z2W, Yj, cond_false]
   rw [e]
   exact outR (e := (.exit 0)) E0Ok Z5 [] (mR false [0, 1, 3, 14, 23]) [] (p (sB Yj <| sN)) (by kernel_rfl) (by intro h; cases h)
def Z4W (Y7 : Gm) : (Unit) ⊕ (Unit) := (Z2W Y7 (((Y7.Tr.length : Int) - 0).toNat + 1) 0)
def Z1s (Y7 : Gm) : Bool := (cond (decide ((Y7.Pq.length : Int) > 64))
  false
  (cond (decide ((Y7.Tr.length : Int) > 128))
    false
    (match (Z4W Y7) with
      | .inl r3 => false
      | .inr r3 => true)))
theorem Zgz (Y7 : Gm) (hp0 : Y7.Pq.length ≤ 1073741824) (hp1 : Y7.Tr.length ≤ 1073741824) (hp2 : ∀ t ∈ Y7.Tr, t.length ≤ 1073741824)  : Fn prog 94 [.ref (Gm.c Y7) 0] (.b (Z1s Y7)) [] := by
 have p {a C} (s : Scr a C) := sZ Gv.c Y7.Pq <| s
 cases h0 : (decide ((Y7.Pq.length : Int) > 64)) with
 | true =>
  have gh0 := odt h0
  refine fnS E0Ok Z5 (c := bodyOf f94) [] (.b false) [] func94 (p (sB h0 <| sB h0 <| sB h0 <| sB h0 <| sB h0 <| sB h0 <| sB h0 <| sB (show true = true from rfl) <| sK [] sN)) rfl (by kernel_rfl) (by kernel_rfl) rfl ?_ ?_
  · simp only [Z1s, h0, cond_true]
  · rfl
 | false =>
  have gh0 := odf h0
  have q {a C} (s : Scr a C) := p (sB h0 <| sB h0 <| sB h0 <| sB h0 <| sB h0 <| sZ (cL (cI .i64)) Y7.Tr <| sB h0 <| sB h0 <| s)
  clear p
  cases h1 : (decide ((Y7.Tr.length : Int) > 128)) with
  | true =>
   have gh1 := odt h1
   refine fnS E0Ok Z5 (c := bodyOf f94) [] (.b false) [] func94 (q (sB h1 <| sK [] sN)) rfl (by kernel_rfl) (by kernel_rfl) rfl ?_ ?_
   · simp only [Z1s, h0, h1, cond_true, cond_false]
   · rfl
  | false =>
   have gh1 := odf h1
   have p {a C} (s : Scr a C) := q (sB h1 <| s)
   clear q
   cases h2 : (Z4W Y7) with
   | inl r3 =>
    refine fnS E0Ok Z5 (c := bodyOf f94) [] (.b false) [] func94 (p (sL (mR false [0, 1, 2, 15, 23]) 0 (lp_val (Z6Q Y7) (x := (Z4W Y7)) (Zbz Y7 hp0 hp1 hp2 h0 h1 (((Y7.Tr.length : Int) - 0).toNat + 1) 0 (show 0 ≤ 0 from (by omega)) (Nat.lt_succ_self _)) h2) <| sK [] sN)) rfl (by kernel_rfl) (by kernel_rfl) rfl ?_ ?_
    · simp only [Z1s, h0, h1, h2, cond_false]
    · rfl
   | inr r3 =>
    refine fnS E0Ok Z5 (c := bodyOf f94) [] (.b true) [] func94 (p (sL (mR false [0, 1, 2, 15, 23]) 0 (lp_val (Z6Q Y7) (x := (Z4W Y7)) (Zbz Y7 hp0 hp1 hp2 h0 h1 (((Y7.Tr.length : Int) - 0).toNat + 1) 0 (show 0 ≤ 0 from (by omega)) (Nat.lt_succ_self _)) h2) <| sK [] sN)) rfl (by kernel_rfl) (by kernel_rfl) rfl ?_ ?_
    · simp only [Z1s, h0, h1, h2, cond_false]
    · rfl
theorem Z9R (m : Gm) : Z1s m = cond (decide ((m.Pq.length : Int) > 64)) false (cond (decide ((m.Tr.length : Int) > 128)) false (m.Tr.all fun t => ZT t (m.Pq.length : Int))) := by
  unfold Z1s Z4W
  rw [all_from (a := m.Tr) (p := fun t => ZT t (m.Pq.length : Int)) (lo := Z2W m) (x := ()) (y := ()) (fun k i => rfl)]
  cases (m.Tr.all fun t => ZT t (m.Pq.length : Int)) <;> rfl
theorem Zi2 {t : List Int} {n : Int} (h0 : 0 ≤ n) (h1 : n ≤ 64) (h : ZT t n = true) : t.length = 3 ∧ ∀ x ∈ t, 0 ≤ x ∧ x < n := by
  unfold ZT at h
  rw [wrap_sub (by omega) (by omega)] at h
  cases hl : ((t.length : Int) != 3) with
  | true => rw [hl] at h; cases h
  | false =>
    rw [hl, cond_false] at h
    have hl3 : t.length = 3 := by simp at hl; omega
    match t, hl3 with
    | [a, b, c], _ =>
      refine ⟨rfl, ?_⟩
      simp only [List.getD_cons_zero, List.getD_cons_succ, Zz] at h
      cases e1 : (a == b) <;> rw [e1] at h <;> (try (cases h; done))
      cases e2 : (b == c) <;> rw [e2] at h <;> (try (cases h; done))
      cases e3 : (a == c) <;> rw [e3] at h <;> (try (cases h; done))
      simp only [cond_false] at h
      cases f1 : decide (a ≥ 0) <;> rw [f1] at h <;> (try (cases h; done))
      cases f2 : decide (a ≤ n - 1) <;> rw [f2] at h <;> (try (cases h; done))
      cases f3 : decide (b ≥ 0) <;> rw [f3] at h <;> (try (cases h; done))
      cases f4 : decide (b ≤ n - 1) <;> rw [f4] at h <;> (try (cases h; done))
      cases f5 : decide (c ≥ 0) <;> rw [f5] at h <;> (try (cases h; done))
      simp only [cond_true, decide_eq_true_eq] at h f1 f2 f3 f4 f5
      intro x hx
      simp only [List.mem_cons, List.not_mem_nil, or_false] at hx
      rcases hx with rfl | rfl | rfl <;> omega
theorem Zht (m : Gm) (h : Z1s m = true) : OkTris m.Pq.length m.Tr := by
  rw [Z9R] at h
  cases h1 : decide ((m.Pq.length : Int) > 64) <;> rw [h1] at h <;> (try (cases h; done))
  cases h2 : decide ((m.Tr.length : Int) > 128) <;> rw [h2] at h <;> (try (cases h; done))
  simp only [cond_false, List.all_eq_true, decide_eq_false_iff_not] at h h1
  intro t ht
  exact Zi2 (by omega) (by omega) (h t ht)
theorem Zi3 (m : Gm) (h : Z1s m = true) : OkE m.Pq.length m.Tr := by
  have h0 := Zht m h
  rw [Z9R] at h
  cases h1 : decide ((m.Pq.length : Int) > 64) <;> rw [h1] at h <;> (try (cases h; done))
  cases h2 : decide ((m.Tr.length : Int) > 128) <;> rw [h2] at h <;> (try (cases h; done))
  simp only [cond_false, List.all_eq_true, decide_eq_false_iff_not] at h h1 h2
  refine ⟨by omega, by omega, fun t ht => ?_⟩
  have h3 := h t ht
  obtain ⟨hl, hx⟩ := h0 t ht
  match t, hl with
  | [a, b, c], _ =>
    unfold ZT at h3
    simp only [List.getD_cons_zero, List.getD_cons_succ] at h3
    cases e0 : ((([a, b, c] : List Int).length : Int) != 3) <;> rw [e0] at h3 <;> (try (cases h3; done))
    cases e1 : (a == b) <;> rw [e1] at h3 <;> (try (cases h3; done))
    cases e2 : (b == c) <;> rw [e2] at h3 <;> (try (cases h3; done))
    cases e3 : (a == c) <;> rw [e3] at h3 <;> (try (cases h3; done))
    exact ⟨a, b, c, rfl, hx a (by simp), hx b (by simp), hx c (by simp), beq_eq_false_iff_ne.1 e1, beq_eq_false_iff_ne.1 e2, beq_eq_false_iff_ne.1 e3⟩
def Z1J (x_0 : Gs) (n_1 : Int) : Bool := (cond (Zz x_0.A 0 (IntKind.wrap .i64 (n_1 - 1)))
  (cond (Zz x_0.B 0 (IntKind.wrap .i64 (n_1 - 1)))
    (cond (x_0.A != x_0.B)
      (fcmp .geq .f32 x_0.Long 0)
      false)
    false)
  false)
theorem ZeI (x_0 : Gs) (n_1 : Int)   : Fn prog 95 [.ref (Gs.c x_0) 0, .i .i64 n_1] (.b (Z1J x_0 n_1)) [] := by
 have p {a C} (s : Scr a C) := sK [25, 25] <| sW .i64 (n_1 - 1) <| sF (Z5i x_0.A 0 (IntKind.wrap .i64 (n_1 - 1))) <| s
 cases h0 : (Zz x_0.A 0 (IntKind.wrap .i64 (n_1 - 1))) with
 | true =>
  have q {a C} (s : Scr a C) := p (sB h0 <| sB h0 <| sB h0 <| sB h0 <| sB h0 <| sB h0 <| sW .i64 (n_1 - 1) <| sB h0 <| sF (Z5i x_0.B 0 (IntKind.wrap .i64 (n_1 - 1))) <| sB h0 <| s)
  clear p
  cases h1 : (Zz x_0.B 0 (IntKind.wrap .i64 (n_1 - 1))) with
  | true =>
   have p {a C} (s : Scr a C) := q (sB h1 <| sB h1 <| sB h1 <| sB h1 <| sB h1 <| sB h1 <| sB h1 <| sB h1 <| sB h1 <| sB h1 <| s)
   clear q
   cases h2 : (x_0.A != x_0.B) with
   | true =>
    have gh2 := bne_iff_ne.1 h2
    refine fnS E0Ok Z5 (c := bodyOf f95) [] (.b (fcmp .geq .f32 x_0.Long 0)) [] func95 (p (sB h2 <| sB h2 <| sB h2 <| sB h2 <| sB h2 <| sB h2 <| sK [] sN)) rfl (by kernel_rfl) (by kernel_rfl) rfl ?_ ?_
    · simp only [Z1J, h0, h1, h2, cond_true]
    · rfl
   | false =>
    have gh2 := bne_eq_false_iff_eq.1 h2
    refine fnS E0Ok Z5 (c := bodyOf f95) [] (.b false) [] func95 (p (sB h2 <| sB h2 <| sB h2 <| sB h2 <| sB h2 <| sB h2 <| sK [] sN)) rfl (by kernel_rfl) (by kernel_rfl) rfl ?_ ?_
    · simp only [Z1J, h0, h1, h2, cond_true, cond_false]
    · rfl
  | false =>
   refine fnS E0Ok Z5 (c := bodyOf f95) [] (.b false) [] func95 (q (sB h1 <| sB h1 <| sB h1 <| sB h1 <| sB h1 <| sB h1 <| sB h1 <| sB h1 <| sB h1 <| sB h1 <| sB (show false = false from rfl) <| sB (show false = false from rfl) <| sB (show false = false from rfl) <| sB (show false = false from rfl) <| sB (show false = false from rfl) <| sB (show false = false from rfl) <| sK [] sN)) rfl (by kernel_rfl) (by kernel_rfl) rfl ?_ ?_
   · simp only [Z1J, h0, h1, cond_true, cond_false]
   · rfl
 | false =>
  refine fnS E0Ok Z5 (c := bodyOf f95) [] (.b false) [] func95 (p (sB h0 <| sB h0 <| sB h0 <| sB h0 <| sB h0 <| sB h0 <| sB h0 <| sB h0 <| sB (show false = false from rfl) <| sB (show false = false from rfl) <| sB (show false = false from rfl) <| sB (show false = false from rfl) <| sB (show false = false from rfl) <| sB (show false = false from rfl) <| sB (show false = false from rfl) <| sB (show false = false from rfl) <| sB (show false = false from rfl) <| sB (show false = false from rfl) <| sB (show false = false from rfl) <| sB (show false = false from rfl) <| sB (show false = false from rfl) <| sB (show false = false from rfl) <| sB (show false = false from rfl) <| sB (show false = false from rfl) <| sK [] sN)) rfl (by kernel_rfl) (by kernel_rfl) rfl ?_ ?_
  · simp only [Z1J, h0, cond_false]
  · rfl
def Z2F (Y2 : Gb) : Nat → Int → (Unit) ⊕ (Unit)
  | 0, _ => .inl default
  | k + 1, Y1 => (cond (decide (Y1 < (Y2.Sp.length : Int)))
    (cond (Z1J (Y2.Sp.getD Y1.toNat default) (Y2.Me.Pq.length : Int))
      (Z2F Y2 k (Y1 + 1))
      (.inl ()))
    (.inr ()))
def Z6R (Y2 : Gb) : (Unit) ⊕ (Unit) → Ex × St
  | .inl r => (.ret, ⟨.any :: .any :: .b false :: an 51 [], []⟩)
  | .inr r => ((.exit 0), ⟨.ref (Gb.c Y2) 0 :: .any :: .any :: .any :: .ref (Gb.c Y2) 0 :: .ref (Gb.c Y2) 0 :: .ref (Gb.c Y2) 0 :: .b (Z1s Y2.Me) :: .b (!(Z1s Y2.Me)) :: .b (!(Z1s Y2.Me)) :: .ref (Gb.c Y2) 0 :: .ref (Gb.c Y2) 0 :: .ref (Gb.c Y2) 2 :: .sl (Y2.Sp.map Gs.c) :: .i .i64 (Y2.Sp.length : Int) :: .b (decide ((Y2.Sp.length : Int) > 200)) :: .b (decide ((Y2.Sp.length : Int) > 200)) :: .b (decide ((Y2.Sp.length : Int) > 200)) :: .ref (Gb.c Y2) 0 :: .ref (Gb.c Y2) 0 :: .ref (Gb.c Y2) 5 :: .sl (Y2.We.map (cF .f32)) :: .i .i64 (Y2.We.length : Int) :: .ref (Gb.c Y2) 0 :: .ref (Gb.c Y2) 0 :: .ref (Gb.c Y2) 0 :: .ref (Gb.c Y2) 0 :: .sl (Y2.Me.Pq.map Gv.c) :: .i .i64 (Y2.Me.Pq.length : Int) :: .b ((Y2.We.length : Int) != (Y2.Me.Pq.length : Int)) :: .b ((Y2.We.length : Int) != (Y2.Me.Pq.length : Int)) :: .ref (Gb.c Y2) 0 :: .ref (Gb.c Y2) 0 :: .ref (Gb.c Y2) 2 :: .sl (Y2.Sp.map Gs.c) :: an 19 [], []⟩)
def Zfc (Y2 : Gb) (Y1 : Int) : St := ⟨.ref (Gb.c Y2) 0 :: .any :: .any :: .any :: .ref (Gb.c Y2) 0 :: .ref (Gb.c Y2) 0 :: .ref (Gb.c Y2) 0 :: .b (Z1s Y2.Me) :: .b (!(Z1s Y2.Me)) :: .b (!(Z1s Y2.Me)) :: .ref (Gb.c Y2) 0 :: .ref (Gb.c Y2) 0 :: .ref (Gb.c Y2) 2 :: .sl (Y2.Sp.map Gs.c) :: .i .i64 (Y2.Sp.length : Int) :: .b (decide ((Y2.Sp.length : Int) > 200)) :: .b (decide ((Y2.Sp.length : Int) > 200)) :: .b (decide ((Y2.Sp.length : Int) > 200)) :: .ref (Gb.c Y2) 0 :: .ref (Gb.c Y2) 0 :: .ref (Gb.c Y2) 5 :: .sl (Y2.We.map (cF .f32)) :: .i .i64 (Y2.We.length : Int) :: .ref (Gb.c Y2) 0 :: .ref (Gb.c Y2) 0 :: .ref (Gb.c Y2) 0 :: .ref (Gb.c Y2) 0 :: .sl (Y2.Me.Pq.map Gv.c) :: .i .i64 (Y2.Me.Pq.length : Int) :: .b ((Y2.We.length : Int) != (Y2.Me.Pq.length : Int)) :: .b ((Y2.We.length : Int) != (Y2.Me.Pq.length : Int)) :: .ref (Gb.c Y2) 0 :: .ref (Gb.c Y2) 0 :: .ref (Gb.c Y2) 2 :: .sl (Y2.Sp.map Gs.c) :: .i .i64 (Y2.Sp.length : Int) :: .i .i64 Y1 :: an 17 [], []⟩
theorem ZbA (Y2 : Gb) (hp0 : Y2.Me.Pq.length ≤ 1073741824) (hp1 : Y2.Me.Tr.length ≤ 1073741824) (hp2 : ∀ t ∈ Y2.Me.Tr, t.length ≤ 1073741824) (hp3 : Y2.Sp.length ≤ 1073741824) (hp4 : Y2.We.length ≤ 1073741824) (ZhN : ((Y2.We.length : Int) != (Y2.Me.Pq.length : Int)) = false) (ZhO : (decide ((Y2.Sp.length : Int) > 200)) = false) (ZhP : (Z1s Y2.Me) = true) : ∀ (k : Nat) (Y1 : Int) (ZaG : 0 ≤ Y1) (hk : ((Y2.Sp.length : Int) - Y1).toNat < k), Lp prog 0 (sub (bodyOf f50) [1, 1, 0, 1, 0, 0]) (Zfc Y2 Y1) (Z6R Y2 (Z2F Y2 k Y1)).1 (Z6R Y2 (Z2F Y2 k Y1)).2 := by
 intro k
 induction k with
 | zero => intro Y1 ZaG hk; exact absurd hk (Nat.not_lt_zero _)
 | succ k ih =>
  intro Y1 ZaG hk
  cases Yj : (decide (Y1 < (Y2.Sp.length : Int))) with
  | true =>
   have YM := odt Yj
   have YS : (0 : Int) ≤ Y1 := (by assumption)
   have YT : Y1 < (Y2.Sp.length : Int) := (by assumption)
   have p {a C} (s : Scr a C) := sB Yj <| sK [12, 12] <| sG Gs.c Y2.Sp Y1 YS YT <| sZ Gv.c Y2.Me.Pq <| sF (ZeI (Y2.Sp.getD Y1.toNat default) (Y2.Me.Pq.length : Int)) <| s
   cases YJ : (Z1J (Y2.Sp.getD Y1.toNat default) (Y2.Me.Pq.length : Int)) with
   | true =>
    have YY : (-9223372036854775808 : Int) ≤ (Y1 + 1) := by clear p; exact (by omega)
    have YZ : (Y1 + 1) ≤ (9223372036854775807 : Int) := by clear p; exact (by omega)
    have e : Z2F Y2 (k + 1) Y1 = (Z2F Y2 k (Y1 + 1)) := by simp only [Z2F, Yj, YJ, cond_true]
    rw [e]
    exact nextR E0Ok Z5 [] (mR false [0, 1, 3, 33, 17]) [] (ih (Y1 + 1) (show 0 ≤ (Y1 + 1) from (by omega)) (by omega)) (p (sB' YJ <| sI (Y1 + 1) YY YZ <| sN)) (by kernel_rfl)
   | false =>
    have e : Z2F Y2 (k + 1) Y1 = (.inl ()) := by simp only [Z2F, Yj, YJ, cond_true, cond_false]
    rw [e]
    exact outR (e := .ret) E0Ok Z5 [] (mR false [2, 1, 51]) [] (p (sB' YJ <| sN)) (by kernel_rfl) (by intro h; cases h)
  | false =>
   have YM := odf Yj
   have e : Z2F Y2 (k + 1) Y1 = (.inr ()) := by simp only [Z2F, Yj, cond_false]
   rw [e]
   exact outR (e := (.exit 0)) E0Ok Z5 [] (mR false [0, 1, 3, 31, 19]) [] (sB Yj <| sN) (by kernel_rfl) (by intro h; cases h)
def Z4z (Y2 : Gb) : (Unit) ⊕ (Unit) := (Z2F Y2 (((Y2.Sp.length : Int) - 0).toNat + 1) 0)
def Z1K (Y2 : Gb) : Bool := (cond (Z1s Y2.Me)
  (cond (decide ((Y2.Sp.length : Int) > 200))
    false
    (cond ((Y2.We.length : Int) != (Y2.Me.Pq.length : Int))
      false
      (match (Z4z Y2) with
        | .inl r4 => false
        | .inr r4 => true)))
  false)
theorem ZgA (Y2 : Gb) (hp0 : Y2.Me.Pq.length ≤ 1073741824) (hp1 : Y2.Me.Tr.length ≤ 1073741824) (hp2 : ∀ t ∈ Y2.Me.Tr, t.length ≤ 1073741824) (hp3 : Y2.Sp.length ≤ 1073741824) (hp4 : Y2.We.length ≤ 1073741824)  : Fn prog 50 [.ref (Gb.c Y2) 0] (.b (Z1K Y2)) [] := by
 have p {a C} (s : Scr a C) := sK [25, 25] <| sF (Fn.sub (args := [.ref (Gb.c Y2) 0]) (r := .b (Z1s Y2.Me)) (new := []) [some 2] (Zgz Y2.Me hp0 hp1 hp2)) <| s
 cases h0 : (Z1s Y2.Me) with
 | true =>
  have q {a C} (s : Scr a C) := p (sB' h0 <| sB' h0 <| sB' h0 <| sB' h0 <| sB' h0 <| sZ Gs.c Y2.Sp <| sB' h0 <| sB' h0 <| s)
  clear p
  cases h1 : (decide ((Y2.Sp.length : Int) > 200)) with
  | true =>
   have gh1 := odt h1
   refine fnS E0Ok Z5 (c := bodyOf f50) [] (.b false) [] func50 (q (sB h1 <| sB h1 <| sB h1 <| sB h1 <| sB h1 <| sB h1 <| sB h1 <| sB h1 <| sB h1 <| sB h1 <| sB h1 <| sB h1 <| sB h1 <| sB (show true = true from rfl) <| sK [] sN)) rfl (by kernel_rfl) (by kernel_rfl) rfl ?_ ?_
   · simp only [Z1K, h0, h1, cond_true]
   · rfl
  | false =>
   have gh1 := odf h1
   have p {a C} (s : Scr a C) := q (sB h1 <| sB h1 <| sB h1 <| sB h1 <| sB h1 <| sZ (cF .f32) Y2.We <| sB h1 <| sB h1 <| sB h1 <| sB h1 <| sB h1 <| sB h1 <| sZ Gv.c Y2.Me.Pq <| sB h1 <| sB h1 <| s)
   clear q
   cases h2 : ((Y2.We.length : Int) != (Y2.Me.Pq.length : Int)) with
   | true =>
    have gh2 := bne_iff_ne.1 h2
    refine fnS E0Ok Z5 (c := bodyOf f50) [] (.b false) [] func50 (p (sB h2 <| sK [] sN)) rfl (by kernel_rfl) (by kernel_rfl) rfl ?_ ?_
    · simp only [Z1K, h0, h1, h2, cond_true, cond_false]
    · rfl
   | false =>
    have gh2 := bne_eq_false_iff_eq.1 h2
    have q {a C} (s : Scr a C) := p (sB h2 <| sZ Gs.c Y2.Sp <| s)
    clear p
    cases h3 : (Z4z Y2) with
    | inl r4 =>
     refine fnS E0Ok Z5 (c := bodyOf f50) [] (.b false) [] func50 (q (sL (mR false [0, 1, 3, 33, 17]) 0 (lp_val (Z6R Y2) (x := (Z4z Y2)) (ZbA Y2 hp0 hp1 hp2 hp3 hp4 h2 h1 h0 (((Y2.Sp.length : Int) - 0).toNat + 1) 0 (show 0 ≤ 0 from (by omega)) (Nat.lt_succ_self _)) h3) <| sK [] sN)) rfl (by kernel_rfl) (by kernel_rfl) rfl ?_ ?_
     · simp only [Z1K, h0, h1, h2, h3, cond_true, cond_false]
     · rfl
    | inr r4 =>
     refine fnS E0Ok Z5 (c := bodyOf f50) [] (.b true) [] func50 (q (sL (mR false [0, 1, 3, 33, 17]) 0 (lp_val (Z6R Y2) (x := (Z4z Y2)) (ZbA Y2 hp0 hp1 hp2 hp3 hp4 h2 h1 h0 (((Y2.Sp.length : Int) - 0).toNat + 1) 0 (show 0 ≤ 0 from (by omega)) (Nat.lt_succ_self _)) h3) <| sK [] sN)) rfl (by kernel_rfl) (by kernel_rfl) rfl ?_ ?_
     · simp only [Z1K, h0, h1, h2, h3, cond_true, cond_false]
     · rfl
 | false =>
  refine fnS E0Ok Z5 (c := bodyOf f50) [] (.b false) [] func50 (p (sB' h0 <| sB' h0 <| sB' h0 <| sB' h0 <| sB' h0 <| sB' h0 <| sB' h0 <| sB (show true = true from rfl) <| sB (show true = true from rfl) <| sB (show true = true from rfl) <| sB (show true = true from rfl) <| sB (show true = true from rfl) <| sB (show true = true from rfl) <| sB (show true = true from rfl) <| sB (show true = true from rfl) <| sB (show true = true from rfl) <| sB (show true = true from rfl) <| sB (show true = true from rfl) <| sB (show true = true from rfl) <| sB (show true = true from rfl) <| sB (show true = true from rfl) <| sK [] sN)) rfl (by kernel_rfl) (by kernel_rfl) rfl ?_ ?_
  · simp only [Z1K, h0, cond_false]
  · rfl
theorem ZeJ (b : Gb) (h : Z1K b = true) : Z1s b.Me = true ∧ (b.We.length : Int) = (b.Me.Pq.length : Int) ∧ (b.Sp.all fun s => Z1J s (b.Me.Pq.length : Int)) = true := by
  unfold Z1K Z4z at h
  rw [all_from (a := b.Sp) (p := fun s => Z1J s (b.Me.Pq.length : Int)) (lo := Z2F b) (x := ()) (y := ()) (fun k i => rfl)] at h
  cases h1 : Z1s b.Me <;> rw [h1] at h <;> (try (cases h; done))
  cases h2 : decide ((b.Sp.length : Int) > 200) <;> rw [h2] at h <;> (try (cases h; done))
  cases h3 : ((b.We.length : Int) != (b.Me.Pq.length : Int)) <;> rw [h3] at h <;> (try (cases h; done))
  cases h4 : (b.Sp.all fun s => Z1J s (b.Me.Pq.length : Int)) <;> rw [h4] at h <;> (try (cases h; done))
  simp only [bne_eq_false_iff_eq] at h3
  exact ⟨rfl, h3, rfl⟩
theorem Zhu (s : Gs) {n : Nat} (hn : n ≤ 9223372036854775807) (h : Z1J s (n : Int) = true) : (0 ≤ s.A ∧ s.A < (n : Int)) ∧ (0 ≤ s.B ∧ s.B < (n : Int)) := by
  unfold Z1J at h
  cases h1 : Zz s.A 0 (IntKind.wrap .i64 ((n : Int) - 1)) <;> rw [h1] at h <;> (try (cases h; done))
  cases h2 : Zz s.B 0 (IntKind.wrap .i64 ((n : Int) - 1)) <;> rw [h2] at h <;> (try (cases h; done))
  exact ⟨Zhi hn h1, Zhi hn h2⟩
theorem Zi4 (b : Gb) (h : Z1K b = true) : OkIx b.Me.Pq.length Gs.A b.Sp := by
  obtain ⟨h1, _, h3⟩ := ZeJ b h
  have hn : b.Me.Pq.length ≤ 64 := by
    rw [Z9R] at h1
    cases h2 : decide ((b.Me.Pq.length : Int) > 64) <;> rw [h2] at h1 <;> (try (cases h1; done))
    simp only [decide_eq_false_iff_not] at h2
    omega
  rw [List.all_eq_true] at h3
  exact fun s hs => (Zhu s (by omega) (h3 s hs)).1
theorem Zi5 (b : Gb) (h : Z1K b = true) : OkIx b.Me.Pq.length Gs.B b.Sp := by
  obtain ⟨h1, _, h3⟩ := ZeJ b h
  have hn : b.Me.Pq.length ≤ 64 := by
    rw [Z9R] at h1
    cases h2 : decide ((b.Me.Pq.length : Int) > 64) <;> rw [h2] at h1 <;> (try (cases h1; done))
    simp only [decide_eq_false_iff_not] at h2
    omega
  rw [List.all_eq_true] at h3
  exact fun s hs => (Zhu s (by omega) (h3 s hs)).2
structure OkBd (b : Gb) : Prop where
  e : OkE b.Me.Pq.length b.Me.Tr
  w : b.We.length = b.Me.Pq.length
  a : OkIx b.Me.Pq.length Gs.A b.Sp
  b : OkIx b.Me.Pq.length Gs.B b.Sp
theorem Z9S (b : Gb) (h : Z1K b = true) : OkBd b := by
  obtain ⟨h1, h2, h3⟩ := ZeJ b h
  exact ⟨Zi3 _ h1, by omega, Zi4 b h, Zi5 b h⟩
theorem Z3q {b : Gb} (h : OkBd b) {i : Int} (h0 : 0 ≤ i) (hi : decide (i < (b.Sp.length : Int)) = true) : (0 ≤ (b.Sp.getD i.toNat default).A ∧ (b.Sp.getD i.toNat default).A < (b.Me.Pq.length : Int)) ∧ (0 ≤ (b.Sp.getD i.toNat default).B ∧ (b.Sp.getD i.toNat default).B < (b.Me.Pq.length : Int)) :=
  ⟨OkIx.at h.a h0 (odt hi), OkIx.at h.b h0 (odt hi)⟩
def ZG (YD : (List Int)) (YX : Int) (YO : Int) : Nat → Int → (Unit) ⊕ (Unit)
  | 0, _ => .inl default
  | k + 1, Yb => (cond (decide (Yb < (YD.length : Int)))
    (cond (Zz (YD.getD Yb.toNat default) YX YO)
      (cond (decide (Yb > 0))
        (cond (decide ((YD.getD (Yb - 1).toNat default) ≥ (YD.getD Yb.toNat default)))
          (.inl ())
          (ZG YD YX YO k (Yb + 1)))
        (ZG YD YX YO k (Yb + 1)))
      (.inl ()))
    (.inr ()))
def Z5x (YD : (List Int)) (YX : Int) (YO : Int) : (Unit) ⊕ (Unit) → Ex × St
  | .inl r => (.ret, ⟨an 6 (.b false :: an 31 []), []⟩)
  | .inr r => ((.exit 0), ⟨an 38 [], []⟩)
def Zds (YD : (List Int)) (YX : Int) (YO : Int) (Yb : Int) : St := ⟨.sl (YD.map (cI .i64)) :: .i .i64 YX :: .i .i64 YO :: an 4 (.i .i64 Yb :: an 30 []), []⟩
theorem Za0 (YD : (List Int)) (YX : Int) (YO : Int) (hp0 : YD.length ≤ 1073741824) : ∀ (k : Nat) (Yb : Int) (Z8E : 0 ≤ Yb) (hk : ((YD.length : Int) - Yb).toNat < k), Lp prog 0 (sub (bodyOf f120) [1, 0, 1, 0, 0]) (Zds YD YX YO Yb) (Z5x YD YX YO (ZG YD YX YO k Yb)).1 (Z5x YD YX YO (ZG YD YX YO k Yb)).2 := by
 intro k
 induction k with
 | zero => intro Yb Z8E hk; exact absurd hk (Nat.not_lt_zero _)
 | succ k ih =>
  intro Yb Z8E hk
  have p {a C} (s : Scr a C) := sZ (cI .i64) YD <| s
  cases Yj : (decide (Yb < (YD.length : Int))) with
  | true =>
   have YM := odt Yj
   have YS : (0 : Int) ≤ Yb := by clear p; exact (by assumption)
   have YT : Yb < (YD.length : Int) := by clear p; exact (by assumption)
   have q {a C} (s : Scr a C) := p (sB Yj <| sK [21, 21] <| sG (cI .i64) YD Yb YS YT <| sF (Z5i (YD.getD Yb.toNat default) YX YO) <| s)
   clear p
   cases YJ : (Zz (YD.getD Yb.toNat default) YX YO) with
   | true =>
    have p {a C} (s : Scr a C) := q (sB' YJ <| sB' YJ <| sB' YJ <| s)
    clear q
    cases h_2 : (decide (Yb > 0)) with
    | true =>
     have Y1r := odt h_2
     have YY : (-9223372036854775808 : Int) ≤ (Yb - 1) := by clear p; exact (by omega)
     have YZ : (Yb - 1) ≤ (9223372036854775807 : Int) := by clear p; exact (by omega)
     have y_4 : (0 : Int) ≤ (Yb - 1) := by clear p; exact (by omega)
     have y_5 : (Yb - 1) < (YD.length : Int) := by clear p; exact (by omega)
     have q {a C} (s : Scr a C) := p (sB h_2 <| sB h_2 <| sB h_2 <| sI (Yb - 1) YY YZ <| sB h_2 <| sG (cI .i64) YD (Yb - 1) y_4 y_5 <| sB h_2 <| sB h_2 <| sB h_2 <| sB h_2 <| sG (cI .i64) YD Yb YS YT <| sB h_2 <| sB h_2 <| sB' YJ <| sB h_2 <| sB' YJ <| s)
     clear p
     cases h_3 : (decide ((YD.getD (Yb - 1).toNat default) ≥ (YD.getD Yb.toNat default))) with
     | true =>
      have Y1I := odt h_3
      have e : ZG YD YX YO (k + 1) Yb = (.inl ()) := by simp only [ZG, Yj, YJ, h_2, h_3, cond_true]
      rw [e]
      exact outR (e := .ret) E0Ok Z5 [] (mR false [6, 1, 31]) [] (q (sB h_3 <| sN)) (by kernel_rfl) (by intro h; cases h)
     | false =>
      have Y1I := odf h_3
      have y_6 : (-9223372036854775808 : Int) ≤ (Yb + 1) := by clear q; exact (by omega)
      have y_7 : (Yb + 1) ≤ (9223372036854775807 : Int) := by clear q; exact (by omega)
      have e : ZG YD YX YO (k + 1) Yb = (ZG YD YX YO k (Yb + 1)) := by simp only [ZG, Yj, YJ, h_2, h_3, cond_true, cond_false]
      rw [e]
      exact nextR E0Ok Z5 [] (mR false [0, 3, 4, 1, 30]) [] (ih (Yb + 1) (show 0 ≤ (Yb + 1) from (by omega)) (by omega)) (q (sB h_3 <| sI (Yb + 1) y_6 y_7 <| sN)) (by kernel_rfl)
    | false =>
     have Y1r := odf h_2
     have YY : (-9223372036854775808 : Int) ≤ (Yb + 1) := by clear p; exact (by omega)
     have YZ : (Yb + 1) ≤ (9223372036854775807 : Int) := by clear p; exact (by omega)
     have e : ZG YD YX YO (k + 1) Yb = (ZG YD YX YO k (Yb + 1)) := by simp only [ZG, Yj, YJ, h_2, cond_true, cond_false]
     rw [e]
     exact nextR E0Ok Z5 [] (mR false [0, 3, 4, 1, 30]) [] (ih (Yb + 1) (show 0 ≤ (Yb + 1) from (by omega)) (by omega)) (p (sB h_2 <| sB h_2 <| sB h_2 <| sB h_2 <| sB h_2 <| sB h_2 <| sB h_2 <| sB h_2 <| sB h_2 <| sB h_2 <| sB' YJ <| sB h_2 <| sB' YJ <| sB (show false = false from rfl) <| sI (Yb + 1) YY YZ <| sN)) (by kernel_rfl)
   | false =>
    have e : ZG YD YX YO (k + 1) Yb = (.inl ()) := by simp only [ZG, Yj, YJ, cond_true, cond_false]
    rw [e]
    exact outR (e := .ret) E0Ok Z5 [] (mR false [6, 1, 31]) [] (q (sB' YJ <| sB' YJ <| sB' YJ <| sB' YJ <| sB' YJ <| sB (show true = true from rfl) <| sN)) (by kernel_rfl) (by intro h; cases h)
  | false =>
   have YM := odf Yj
   have e : ZG YD YX YO (k + 1) Yb = (.inr ()) := by simp only [ZG, Yj, cond_false]
   rw [e]
   exact outR (e := (.exit 0)) E0Ok Z5 [] (mR false [38]) [] (p (sB Yj <| sN)) (by kernel_rfl) (by intro h; cases h)
end Go.Ab
