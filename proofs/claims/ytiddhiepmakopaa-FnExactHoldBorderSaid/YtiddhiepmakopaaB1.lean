/- The functions of this seat as plain Lean, and that the program's are these. Printed by a program of the prover's own. -/
import Derived.Test.YtiddhiepmakopaaB0
set_option linter.unusedVariables false
set_option linter.unusedSimpArgs false
set_option maxRecDepth 100000
namespace Go.Ab
open Go.RowKit Go.Proofs.Try
def ZC (Y6 : (List Gv)) (Yd : Int) : Int := (cond (decide ((IntKind.wrap .i64 (Yd - (Y6.length : Int))) < 0))
  (-1)
  (IntKind.wrap .i64 (Yd - (Y6.length : Int))))
theorem Z5G (Y6 : (List Gv)) (Yd : Int) (hp0 : Y6.length ≤ 9223372036854775807)  : Fn prog 38 [.sl (Y6.map Gv.c), .i .i64 Yd] (.i .i64 (ZC Y6 Yd)) [] := by
 have p {a C} (s : Scr a C) := sZ Gv.c Y6 <| sW .i64 (Yd - (Y6.length : Int)) <| s
 cases h0 : (decide ((IntKind.wrap .i64 (Yd - (Y6.length : Int))) < 0)) with
 | true =>
  have gh0 := odt h0
  refine fnS E0Ok Z3 (c := bodyOf f38) [] (.i .i64 (-1)) [] func38 (p (sB h0 <| sK [] sN)) rfl (by kernel_rfl) (by kernel_rfl) rfl ?_ ?_
  · simp only [ZC, h0, cond_true]
  · rfl
 | false =>
  have gh0 := odf h0
  refine fnS E0Ok Z3 (c := bodyOf f38) [] (.i .i64 (IntKind.wrap .i64 (Yd - (Y6.length : Int)))) [] func38 (p (sB h0 <| sK [] sN)) rfl (by kernel_rfl) (by kernel_rfl) rfl ?_ ?_
  · simp only [ZC, h0, cond_false]
  · rfl
theorem Z5y (a : List Gv) (left : Int) (h0 : a.length ≤ 9223372036854775807) (h1 : -1 ≤ left) (h2 : left ≤ 1048576) : -1 ≤ ZC a left ∧ ZC a left ≤ left ∧ (ZC a left < 0 ∨ (a.length : Int) ≤ left) := by
  unfold ZC
  rw [wrap_sub (by omega) (by omega)]
  by_cases h : left - (a.length : Int) < 0
  · simp [h]; omega
  · simp [h]; omega
def Z10 (Y6 : (List Int)) (Yd : Int) : Int := (cond (decide ((IntKind.wrap .i64 (Yd - (Y6.length : Int))) < 0))
  (-1)
  (IntKind.wrap .i64 (Yd - (Y6.length : Int))))
theorem Z5X (Y6 : (List Int)) (Yd : Int) (hp0 : Y6.length ≤ 9223372036854775807)  : Fn prog 90 [.sl (Y6.map (cI .i64)), .i .i64 Yd] (.i .i64 (Z10 Y6 Yd)) [] := by
 have p {a C} (s : Scr a C) := sZ (cI .i64) Y6 <| sW .i64 (Yd - (Y6.length : Int)) <| s
 cases h0 : (decide ((IntKind.wrap .i64 (Yd - (Y6.length : Int))) < 0)) with
 | true =>
  have gh0 := odt h0
  refine fnS E0Ok Z3 (c := bodyOf f90) [] (.i .i64 (-1)) [] func90 (p (sB h0 <| sK [] sN)) rfl (by kernel_rfl) (by kernel_rfl) rfl ?_ ?_
  · simp only [Z10, h0, cond_true]
  · rfl
 | false =>
  have gh0 := odf h0
  refine fnS E0Ok Z3 (c := bodyOf f90) [] (.i .i64 (IntKind.wrap .i64 (Yd - (Y6.length : Int)))) [] func90 (p (sB h0 <| sK [] sN)) rfl (by kernel_rfl) (by kernel_rfl) rfl ?_ ?_
  · simp only [Z10, h0, cond_false]
  · rfl
theorem Z5H (a : List Int) (left : Int) (h0 : a.length ≤ 9223372036854775807) (h1 : -1 ≤ left) (h2 : left ≤ 1048576) : -1 ≤ Z10 a left ∧ Z10 a left ≤ left ∧ (Z10 a left < 0 ∨ (a.length : Int) ≤ left) := by
  unfold Z10
  rw [wrap_sub (by omega) (by omega)]
  by_cases h : left - (a.length : Int) < 0
  · simp [h]; omega
  · simp [h]; omega
def ZG (Y6 : (List (List Int))) (Yd : Int) : Nat → Int → Int → (Unit) ⊕ (Int)
  | 0, _, _ => .inl default
  | k + 1, Yr, Y2 => (cond (decide (Y2 < (Y6.length : Int)))
    (cond (decide ((Z10 (Y6.getD Y2.toNat default) Yr) < 0))
      (.inl ())
      (ZG Y6 Yd k (Z10 (Y6.getD Y2.toNat default) Yr) (Y2 + 1)))
    (.inr Yr))
def Z2l (Y6 : (List (List Int))) (Yd : Int) : (Unit) ⊕ (Int) → Ex × St
  | .inl r => (.ret, ⟨an 4 (.i .i64 (-1) :: an 22 []), []⟩)
  | .inr r => ((.exit 0), ⟨.sl (Y6.map (cL (cI .i64))) :: .i .i64 r :: an 4 (.i .i64 Yd :: .sl (Y6.map (cL (cI .i64))) :: .i .i64 (Y6.length : Int) :: .i .i64 (IntKind.wrap .i64 (Yd - (Y6.length : Int))) :: .i .i64 (IntKind.wrap .i64 (Yd - (Y6.length : Int))) :: .b (decide ((IntKind.wrap .i64 (Yd - (Y6.length : Int))) < 0)) :: an 15 []), []⟩)
def Z5c (Y6 : (List (List Int))) (Yd : Int) (Yr : Int) (Y2 : Int) : St := ⟨.sl (Y6.map (cL (cI .i64))) :: .i .i64 Yr :: .any :: .any :: .any :: .i .i64 Y2 :: .i .i64 Yd :: .sl (Y6.map (cL (cI .i64))) :: .i .i64 (Y6.length : Int) :: .i .i64 (IntKind.wrap .i64 (Yd - (Y6.length : Int))) :: .i .i64 (IntKind.wrap .i64 (Yd - (Y6.length : Int))) :: .b (decide ((IntKind.wrap .i64 (Yd - (Y6.length : Int))) < 0)) :: an 15 [], []⟩
theorem Z3V (Y6 : (List (List Int))) (Yd : Int) (hp0 : Y6.length ≤ 9223372036854775807) (hp1 : ∀ t ∈ Y6, t.length ≤ 9223372036854775807) (Z6J : (decide ((IntKind.wrap .i64 (Yd - (Y6.length : Int))) < 0)) = false) : ∀ (k : Nat) (Yr : Int) (Y2 : Int) (Z3t : 0 ≤ Y2) (hk : ((Y6.length : Int) - Y2).toNat < k), Lp prog 0 (sub (bodyOf f39) [1, 1, 1, 0, 1, 0, 0]) (Z5c Y6 Yd Yr Y2) (Z2l Y6 Yd (ZG Y6 Yd k Yr Y2)).1 (Z2l Y6 Yd (ZG Y6 Yd k Yr Y2)).2 := by
 intro k
 induction k with
 | zero => intro Yr Y2 Z3t hk; exact absurd hk (Nat.not_lt_zero _)
 | succ k ih =>
  intro Yr Y2 Z3t hk
  have p {a C} (s : Scr a C) := sZ (cL (cI .i64)) Y6 <| s
  cases Ye : (decide (Y2 < (Y6.length : Int))) with
  | true =>
   have Yo := odt Ye
   have Yt : (0 : Int) ≤ Y2 := by clear p; exact (by assumption)
   have Yu : Y2 < (Y6.length : Int) := by clear p; exact (by assumption)
   have Yy : (Y6.getD Y2.toNat default).length ≤ 9223372036854775807 := by clear p; exact (by simp_all <;> omega)
   have q {a C} (s : Scr a C) := p (sB Ye <| sG (cL (cI .i64)) Y6 Y2 Yt Yu <| sF (Z5X (Y6.getD Y2.toNat default) Yr Yy) <| s)
   clear p
   cases Yk : (decide ((Z10 (Y6.getD Y2.toNat default) Yr) < 0)) with
   | true =>
    have YR := odt Yk
    have e : ZG Y6 Yd (k + 1) Yr Y2 = (.inl ()) := by simp only [ZG, Ye, Yk, cond_true]
    rw [e]
    exact outR (e := .ret) E0Ok Z3 [] (mR false [4, 1, 22]) [] (q (sB Yk <| sN)) (by kernel_rfl) (by intro h; cases h)
   | false =>
    have YR := odf Yk
    have YC : (-9223372036854775808 : Int) ≤ (Y2 + 1) := by clear q; exact (by omega)
    have YE : (Y2 + 1) ≤ (9223372036854775807 : Int) := by clear q; exact (by omega)
    have e : ZG Y6 Yd (k + 1) Yr Y2 = (ZG Y6 Yd k (Z10 (Y6.getD Y2.toNat default) Yr) (Y2 + 1)) := by simp only [ZG, Ye, Yk, cond_true, cond_false]
    rw [e]
    exact nextR E0Ok Z3 [] (mR false [0, 2, 3, 7, 15]) [] (ih (Z10 (Y6.getD Y2.toNat default) Yr) (Y2 + 1) (show 0 ≤ (Y2 + 1) from (by omega)) (by omega)) (q (sB Yk <| sI (Y2 + 1) YC YE <| sN)) (by kernel_rfl)
  | false =>
   have Yo := odf Ye
   have e : ZG Y6 Yd (k + 1) Yr Y2 = (.inr Yr) := by simp only [ZG, Ye, cond_false]
   rw [e]
   exact outR (e := (.exit 0)) E0Ok Z3 [] (mR false [0, 2, 4, 6, 15]) [] (p (sB Ye <| sN)) (by kernel_rfl) (by intro h; cases h)
def Z1I (Y6 : (List (List Int))) (Yd : Int) : (Unit) ⊕ (Int) := (ZG Y6 Yd (((Y6.length : Int) - 0).toNat + 1) (IntKind.wrap .i64 (Yd - (Y6.length : Int))) 0)
def Z12 (Y6 : (List (List Int))) (Yd : Int) : Int := (cond (decide ((IntKind.wrap .i64 (Yd - (Y6.length : Int))) < 0))
  (-1)
  (match (Z1I Y6 Yd) with
    | .inl r2 => (-1)
    | .inr r2 => r2))
theorem Z5I (Y6 : (List (List Int))) (Yd : Int) (hp0 : Y6.length ≤ 9223372036854775807) (hp1 : ∀ t ∈ Y6, t.length ≤ 9223372036854775807)  : Fn prog 39 [.sl (Y6.map (cL (cI .i64))), .i .i64 Yd] (.i .i64 (Z12 Y6 Yd)) [] := by
 have p {a C} (s : Scr a C) := sZ (cL (cI .i64)) Y6 <| sW .i64 (Yd - (Y6.length : Int)) <| s
 cases h0 : (decide ((IntKind.wrap .i64 (Yd - (Y6.length : Int))) < 0)) with
 | true =>
  have gh0 := odt h0
  refine fnS E0Ok Z3 (c := bodyOf f39) [] (.i .i64 (-1)) [] func39 (p (sB h0 <| sK [] sN)) rfl (by kernel_rfl) (by kernel_rfl) rfl ?_ ?_
  · simp only [Z12, h0, cond_true]
  · rfl
 | false =>
  have gh0 := odf h0
  have q {a C} (s : Scr a C) := p (sB h0 <| s)
  clear p
  cases h1 : (Z1I Y6 Yd) with
  | inl r2 =>
   refine fnS E0Ok Z3 (c := bodyOf f39) [] (.i .i64 (-1)) [] func39 (q (sL (mR false [0, 2, 3, 7, 15]) 0 (lp_val (Z2l Y6 Yd) (x := (Z1I Y6 Yd)) (Z3V Y6 Yd hp0 hp1 h0 (((Y6.length : Int) - 0).toNat + 1) (IntKind.wrap .i64 (Yd - (Y6.length : Int))) 0 (show 0 ≤ 0 from (by omega)) (Nat.lt_succ_self _)) h1) <| sK [] sN)) rfl (by kernel_rfl) (by kernel_rfl) rfl ?_ ?_
   · simp only [Z12, h0, h1, cond_false]
   · rfl
  | inr r2 =>
   refine fnS E0Ok Z3 (c := bodyOf f39) [] (.i .i64 r2) [] func39 (q (sL (mR false [0, 2, 3, 7, 15]) 0 (lp_val (Z2l Y6 Yd) (x := (Z1I Y6 Yd)) (Z3V Y6 Yd hp0 hp1 h0 (((Y6.length : Int) - 0).toNat + 1) (IntKind.wrap .i64 (Yd - (Y6.length : Int))) 0 (show 0 ≤ 0 from (by omega)) (Nat.lt_succ_self _)) h1) <| sK [] sN)) rfl (by kernel_rfl) (by kernel_rfl) rfl ?_ ?_
   · simp only [Z12, h0, h1, cond_false]
   · rfl
theorem Z6v (a : List (List Int)) (left : Int) (hb : ∀ t ∈ a, t.length ≤ 9223372036854775807) : ∀ (k : Nat) (l i : Int), 0 ≤ i → ((a.length : Int) - i).toNat < k → -1 ≤ l → l ≤ 1048576 →
    ZG a left k l i = .inl () ∨ ∃ r, ZG a left k l i = .inr r ∧ -1 ≤ r ∧ r ≤ l ∧ ∀ j, i.toNat ≤ j → j < a.length → ((a.getD j default).length : Int) ≤ l := by
  intro k
  induction k with
  | zero => intro l i h0 hk; exact absurd hk (Nat.not_lt_zero _)
  | succ k ih =>
    intro l i h0 hk h1 h2
    rw [ZG]
    by_cases hi : i < (a.length : Int)
    · have hn : i.toNat < a.length := by omega
      rw [decide_eq_true hi, cond_true]
      have hm : (a.getD i.toNat default) ∈ a := by rw [List.getD_eq_getElem?_getD, List.getElem?_eq_getElem hn]; exact List.getElem_mem hn
      obtain ⟨q1, q2, q3⟩ := Z5H (a.getD i.toNat default) l (hb _ hm) h1 h2
      cases hc : decide (Z10 (a.getD i.toNat default) l < 0) with
      | true => left; rfl
      | false =>
        simp only [decide_eq_false_iff_not] at hc
        rw [cond_false]
        rcases ih (Z10 (a.getD i.toNat default) l) (i + 1) (by omega) (by omega) q1 (by omega) with e | ⟨r, e, r1, r2, r3⟩
        · left; exact e
        · right
          refine ⟨r, e, r1, by omega, fun j hj hjl => ?_⟩
          by_cases hji : j = i.toNat
          · subst hji; omega
          · have := r3 j (by omega) hjl; omega
    · rw [decide_eq_false hi, cond_false]
      exact .inr ⟨l, rfl, h1, Int.le_refl _, fun j hj hjl => by omega⟩
theorem Z5z (a : List (List Int)) (left : Int) (h0 : a.length ≤ 9223372036854775807) (hb : ∀ t ∈ a, t.length ≤ 9223372036854775807) (h1 : -1 ≤ left) (h2 : left ≤ 1048576) :
    -1 ≤ Z12 a left ∧ Z12 a left ≤ left ∧ (Z12 a left < 0 ∨ ((a.length : Int) ≤ left ∧ ∀ t ∈ a, (t.length : Int) ≤ left)) := by
  unfold Z12 Z1I
  rw [wrap_sub (by omega) (by omega)]
  cases h : decide (left - (a.length : Int) < 0) with
  | true => simp only [decide_eq_true_eq] at h; rw [cond_true]; omega
  | false =>
    simp only [decide_eq_false_iff_not] at h
    rw [cond_false]
    rcases Z6v a left hb _ (left - (a.length : Int)) 0 (Int.le_refl _) (Nat.lt_succ_self _) (by omega) (by omega) with e | ⟨r, e, r1, r2, r3⟩
    · rw [e]; simp only; omega
    · rw [e]; simp only
      refine ⟨r1, by omega, .inr ⟨by omega, fun t ht => ?_⟩⟩
      obtain ⟨j, hj, rfl⟩ := List.getElem_of_mem ht
      have := r3 j (by simp) hj
      rw [List.getD_eq_getElem?_getD, List.getElem?_eq_getElem hj, Option.getD_some] at this
      omega
def Z13 (Y6 : Gm) (Yd : Int) : Int := (cond (decide ((ZC Y6.Pq Yd) < 0))
  (-1)
  (cond (decide ((Z12 Y6.Tr (ZC Y6.Pq Yd)) < 0))
    (-1)
    (Z12 Y6.Tr (ZC Y6.Pq Yd))))
theorem Z6j (Y6 : Gm) (Yd : Int) (hp0 : Y6.Pq.length ≤ 9223372036854775807) (hp1 : Y6.Tr.length ≤ 9223372036854775807) (hp2 : ∀ t ∈ Y6.Tr, t.length ≤ 9223372036854775807)  : Fn prog 12 [.agg [.sl (Y6.Pq.map Gv.c), .sl (Y6.Tr.map (cL (cI .i64)))], .i .i64 Yd] (.i .i64 (Z13 Y6 Yd)) [] := by
 have p {a C} (s : Scr a C) := sF (Z5G Y6.Pq Yd hp0) <| s
 cases h0 : (decide ((ZC Y6.Pq Yd) < 0)) with
 | true =>
  have gh0 := odt h0
  refine fnS E0Ok Z3 (c := bodyOf f12) [] (.i .i64 (-1)) [] func12 (p (sB h0 <| sK [] sN)) rfl (by kernel_rfl) (by kernel_rfl) rfl ?_ ?_
  · simp only [Z13, h0, cond_true]
  · rfl
 | false =>
  have gh0 := odf h0
  have q {a C} (s : Scr a C) := p (sB h0 <| sF (Z5I Y6.Tr (ZC Y6.Pq Yd) hp1 hp2) <| s)
  clear p
  cases h1 : (decide ((Z12 Y6.Tr (ZC Y6.Pq Yd)) < 0)) with
  | true =>
   have gh1 := odt h1
   refine fnS E0Ok Z3 (c := bodyOf f12) [] (.i .i64 (-1)) [] func12 (q (sB h1 <| sK [] sN)) rfl (by kernel_rfl) (by kernel_rfl) rfl ?_ ?_
   · simp only [Z13, h0, h1, cond_true, cond_false]
   · rfl
  | false =>
   have gh1 := odf h1
   refine fnS E0Ok Z3 (c := bodyOf f12) [] (.i .i64 (Z12 Y6.Tr (ZC Y6.Pq Yd))) [] func12 (q (sB h1 <| sK [] sN)) rfl (by kernel_rfl) (by kernel_rfl) rfl ?_ ?_
   · simp only [Z13, h0, h1, cond_false]
   · rfl
theorem Z4T (a : Gm) (left : Int) (h0 : a.Pq.length ≤ 9223372036854775807) (h3 : a.Tr.length ≤ 9223372036854775807) (hb : ∀ t ∈ a.Tr, t.length ≤ 9223372036854775807) (h1 : -1 ≤ left) (h2 : left ≤ 1048576) :
    -1 ≤ Z13 a left ∧ Z13 a left ≤ left ∧ (Z13 a left < 0 ∨ (a.Pq.length : Int) ≤ left) ∧ (Z13 a left < 0 ∨ (a.Tr.length : Int) ≤ left) ∧ ∀ t ∈ a.Tr, Z13 a left < 0 ∨ (t.length : Int) ≤ left := by
  have key : -1 ≤ Z13 a left ∧ Z13 a left ≤ left ∧ (Z13 a left < 0 ∨ ((a.Pq.length : Int) ≤ left ∧ (a.Tr.length : Int) ≤ left ∧ ∀ t ∈ a.Tr, (t.length : Int) ≤ left)) := by
    unfold Z13
    obtain ⟨p1, p2, p3⟩ := Z5y a.Pq left h0 h1 h2
    cases h : decide (ZC a.Pq left < 0) with
    | true => simp only [decide_eq_true_eq] at h; rw [cond_true]; refine ⟨by omega, by omega, .inl (by omega)⟩
    | false =>
      simp only [decide_eq_false_iff_not] at h
      rw [cond_false]
      obtain ⟨q1, q2, q3⟩ := Z5z a.Tr (ZC a.Pq left) h3 hb p1 (by omega)
      cases h' : decide (Z12 a.Tr (ZC a.Pq left) < 0) with
      | true => rw [cond_true]; exact ⟨by omega, by omega, .inl (by omega)⟩
      | false =>
        simp only [decide_eq_false_iff_not] at h'
        rw [cond_false]
        rcases q3 with q | ⟨qa, qb⟩
        · omega
        · exact ⟨q1, by omega, .inr ⟨by omega, by omega, fun t ht => by have := qb t ht; omega⟩⟩
  obtain ⟨k1, k2, k3⟩ := key
  rcases k3 with k3 | ⟨ka, kb, kc⟩
  · exact ⟨k1, k2, .inl k3, .inl k3, fun t ht => .inl k3⟩
  · exact ⟨k1, k2, .inr ka, .inr kb, fun t ht => .inr (kc t ht)⟩
def Z2Y (Y6 : Gv) : Gv := Y6
theorem Z5Y (Y6 : Gv)   : Fn prog 97 [.agg [.f .f32 Y6.X, .f .f32 Y6.Y, .f .f32 Y6.Z]] (.agg [.f .f32 ((Z2Y Y6).X), .f .f32 ((Z2Y Y6).Y), .f .f32 ((Z2Y Y6).Z)]) [] := by
 refine fnS E0Ok Z3 (c := bodyOf f97) [] (.agg [.f .f32 Y6.X, .f .f32 Y6.Y, .f .f32 Y6.Z]) [] func97 (sK [] sN) rfl (by kernel_rfl) (by kernel_rfl) rfl ?_ ?_
 · rfl
 · rfl
@[simp] theorem Z5J (a : Gv) : Z2Y a = a := rfl
theorem Z5Z (Y6 : Gv)  : Fn prog 97 [.agg [.f .f32 Y6.X, .f .f32 Y6.Y, .f .f32 Y6.Z]] (.agg [.f .f32 Y6.X, .f .f32 Y6.Y, .f .f32 Y6.Z]) [] := by
 simpa only [Z5J] using Z5Y  Y6 
def Z17 (Y6 : (List Gv)) : Nat → Int → (List Gv) → (List Gv)
  | 0, _, _ => default
  | k + 1, Y4, Ya => (cond (decide (Y4 < (Y6.length : Int)))
    (Z17 Y6 k (Y4 + 1) (Ya.set Y4.toNat (Y6.getD Y4.toNat default)))
    Ya)
def Z2S (Y6 : (List Gv)) (r : (List Gv)) : Ex × St := ((.exit 0), ⟨.sl (Y6.map Gv.c) :: .any :: .nils :: .own 0 :: .any :: .sl (Y6.map Gv.c) :: .i .i64 (Y6.length : Int) :: .own 0 :: an 15 [], [.vec 62 3 (r.map Gv.c) false]⟩)
def Z2T (Y6 : (List Gv)) (Y4 : Int) (Ya : (List Gv)) : St := ⟨.sl (Y6.map Gv.c) :: .any :: .nils :: .own 0 :: .i .i64 Y4 :: .sl (Y6.map Gv.c) :: .i .i64 (Y6.length : Int) :: .own 0 :: an 15 [], [.vec 62 3 (Ya.map Gv.c) false]⟩
theorem Z5d (Y6 : (List Gv)) (hp0 : Y6.length ≤ 1073741824) : ∀ (k : Nat) (Y4 : Int) (Ya : (List Gv)) (Z3u : 0 ≤ Y4) (Z3v : Ya.length = Y6.length) (hk : ((Y6.length : Int) - Y4).toNat < k), Lp prog 0 (sub (bodyOf f50) [1, 1, 0, 1, 0, 0]) (Z2T Y6 Y4 Ya) (Z2S Y6 (Z17 Y6 k Y4 Ya)).1 (Z2S Y6 (Z17 Y6 k Y4 Ya)).2 := by
 intro k
 induction k with
 | zero => intro Y4 Ya Z3u Z3v hk; exact absurd hk (Nat.not_lt_zero _)
 | succ k ih =>
  intro Y4 Ya Z3u Z3v hk
  have p {a C} (s : Scr a C) := sZ Gv.c Y6 <| s
  cases Ye : (decide (Y4 < (Y6.length : Int))) with
  | true =>
   have Yo := odt Ye
   have Yt : (0 : Int) ≤ Y4 := by clear p; exact (by assumption)
   have Yu : Y4 < (Y6.length : Int) := by clear p; exact (by assumption)
   have Yy : Y4 < (Ya.length : Int) := by clear p; exact (by omega)
   have YC : Y4.toNat < Ya.length := by clear p; exact (by omega)
   have YE : (-9223372036854775808 : Int) ≤ (Y4 + 1) := by clear p; exact (by omega)
   have YL : (Y4 + 1) ≤ (9223372036854775807 : Int) := by clear p; exact (by omega)
   have e : Z17 Y6 (k + 1) Y4 Ya = (Z17 Y6 k (Y4 + 1) (Ya.set Y4.toNat (Y6.getD Y4.toNat default))) := by simp only [Z17, Ye, cond_true]
   rw [e]
   exact nextS E0Ok Z3 [] (mR false [0, 1, 1, 6, 15]) [0] (⟨.sl (Y6.map Gv.c) :: .any :: .nils :: .own 0 :: .i .i64 (Y4 + 1) :: .sl (Y6.map Gv.c) :: .i .i64 (Y6.length : Int) :: .own 0 :: an 15 [], [.vec 62 3 ((Ya.map Gv.c).set Y4.toNat [.f .f32 ((Y6.getD Y4.toNat default).X), .f .f32 ((Y6.getD Y4.toNat default).Y), .f .f32 ((Y6.getD Y4.toNat default).Z)]) false]⟩) (p (sB Ye <| sG Gv.c Y6 Y4 Yt Yu <| sF (Z5Z (Y6.getD Y4.toNat default)) <| sX Gv.c Ya Y4 Yt Yy <| sC (maplt (c := Gv.c) (l := Ya) YC) <| sI (Y4 + 1) YE YL <| sN)) (by kernel_rfl) (by simp [Z2T, List.map_set, Gv.c]) (ih (Y4 + 1) (Ya.set Y4.toNat (Y6.getD Y4.toNat default)) (show 0 ≤ (Y4 + 1) from (by omega)) (show (Ya.set Y4.toNat (Y6.getD Y4.toNat default)).length = Y6.length from (by simp_all <;> omega)) (by omega))
  | false =>
   have Yo := odf Ye
   have e : Z17 Y6 (k + 1) Y4 Ya = Ya := by simp only [Z17, Ye, cond_false]
   rw [e]
   exact outR (e := (.exit 0)) E0Ok Z3 [] (mR false [0, 1, 1, 2, 1, 3, 15]) [0] (p (sB Ye <| sN)) (by kernel_rfl) (by intro h; cases h)
def Z20 (Y6 : (List Gv)) : (List Gv) := (Z17 Y6 (((Y6.length : Int) - 0).toNat + 1) 0 (List.replicate (Y6.length : Int).toNat (⟨0, 0, 0⟩ : Gv)))
def Z2F (Y6 : (List Gv)) : (List Gv) := (Z20 Y6)
theorem Z5K (Y6 : (List Gv)) (hp0 : Y6.length ≤ 1073741824)  : Fn prog 50 [.sl (Y6.map Gv.c)] (.own 0) [.vec 62 3 ((Z2F Y6).map Gv.c) false] := by
 have y0 : (0 : Int) ≤ (Y6.length : Int) := (by omega)
 have y1 : ((Y6.length : Int) : Int) ≤ 2147483648 := (by omega)
 refine fnS E0Ok Z3 (c := bodyOf f50) [] (.own 0) [.vec 62 3 ((Z20 Y6).map Gv.c) false] func50 (sZ Gv.c Y6 <| sC (show (Y6.length : Int) = (Y6.length : Int) from rfl) <| sC y0 <| sC y1 <| sL (mR false [0, 1, 1, 6, 15]) 1 (lp_cast (st2 := ⟨.sl (Y6.map Gv.c) :: .any :: .nils :: .own 0 :: .i .i64 0 :: .sl (Y6.map Gv.c) :: .i .i64 (Y6.length : Int) :: .own 0 :: an 15 [], [.vec 62 3 (List.replicate (Int.toNat (Y6.length : Int)) [.f .f32 0, .f .f32 0, .f .f32 0]) false]⟩) (lp_val (Z2S Y6) (x := (Z20 Y6)) (Z5d Y6 hp0 (((Y6.length : Int) - 0).toNat + 1) 0 (List.replicate (Y6.length : Int).toNat (⟨0, 0, 0⟩ : Gv)) (show 0 ≤ 0 from (by omega)) (show (List.replicate (Y6.length : Int).toNat (⟨0, 0, 0⟩ : Gv)).length = Y6.length from (by simp)) (Nat.lt_succ_self _)) rfl) (by simp [Z2T, Gv.c])) <| sK [0] sN) rfl (by kernel_rfl) (by kernel_rfl) rfl ?_ ?_
 · rfl
 · simp [Z2F]
@[simp] theorem Z5A (a : List Gv) : Z2F a = a := by
  unfold Z2F Z20
  rw [copy_all (f := id) (a := a) (lo := Z17 a) (fun k i r => rfl)]
  exact List.map_id a
theorem Z5L (Y6 : (List Gv)) (hp0 : Y6.length ≤ 1073741824) : Fn prog 50 [.sl (Y6.map Gv.c)] (.own 0) [.vec 62 3 (Y6.map Gv.c) false] := by
 simpa only [Z5A] using Z5K  Y6 hp0
def Z1c (Y6 : (List Int)) : Nat → Int → (List Int) → (List Int)
  | 0, _, _ => default
  | k + 1, Y4, Ya => (cond (decide (Y4 < (Y6.length : Int)))
    (Z1c Y6 k (Y4 + 1) (Ya.set Y4.toNat (Y6.getD Y4.toNat default)))
    Ya)
def Z37 (Y6 : (List Int)) (r : (List Int)) : Ex × St := ((.exit 0), ⟨.sl (Y6.map (cI .i64)) :: .any :: .nils :: .own 0 :: .any :: .sl (Y6.map (cI .i64)) :: .i .i64 (Y6.length : Int) :: .own 0 :: an 14 [], [.vec 2 1 (r.map (cI .i64)) false]⟩)
def Z38 (Y6 : (List Int)) (Y4 : Int) (Ya : (List Int)) : St := ⟨.sl (Y6.map (cI .i64)) :: .any :: .nils :: .own 0 :: .i .i64 Y4 :: .sl (Y6.map (cI .i64)) :: .i .i64 (Y6.length : Int) :: .own 0 :: an 14 [], [.vec 2 1 (Ya.map (cI .i64)) false]⟩
theorem Z5l (Y6 : (List Int)) (hp0 : Y6.length ≤ 1073741824) : ∀ (k : Nat) (Y4 : Int) (Ya : (List Int)) (Z3F : 0 ≤ Y4) (Z3G : Ya.length = Y6.length) (hk : ((Y6.length : Int) - Y4).toNat < k), Lp prog 0 (sub (bodyOf f98) [1, 1, 0, 1, 0, 0]) (Z38 Y6 Y4 Ya) (Z37 Y6 (Z1c Y6 k Y4 Ya)).1 (Z37 Y6 (Z1c Y6 k Y4 Ya)).2 := by
 intro k
 induction k with
 | zero => intro Y4 Ya Z3F Z3G hk; exact absurd hk (Nat.not_lt_zero _)
 | succ k ih =>
  intro Y4 Ya Z3F Z3G hk
  have p {a C} (s : Scr a C) := sZ (cI .i64) Y6 <| s
  cases Ye : (decide (Y4 < (Y6.length : Int))) with
  | true =>
   have Yo := odt Ye
   have Yt : (0 : Int) ≤ Y4 := by clear p; exact (by assumption)
   have Yu : Y4 < (Y6.length : Int) := by clear p; exact (by assumption)
   have Yy : Y4 < (Ya.length : Int) := by clear p; exact (by omega)
   have YC : Y4.toNat < Ya.length := by clear p; exact (by omega)
   have YE : (-9223372036854775808 : Int) ≤ (Y4 + 1) := by clear p; exact (by omega)
   have YL : (Y4 + 1) ≤ (9223372036854775807 : Int) := by clear p; exact (by omega)
   have e : Z1c Y6 (k + 1) Y4 Ya = (Z1c Y6 k (Y4 + 1) (Ya.set Y4.toNat (Y6.getD Y4.toNat default))) := by simp only [Z1c, Ye, cond_true]
   rw [e]
   exact nextS E0Ok Z3 [] (mR false [0, 1, 1, 6, 14]) [0] (⟨.sl (Y6.map (cI .i64)) :: .any :: .nils :: .own 0 :: .i .i64 (Y4 + 1) :: .sl (Y6.map (cI .i64)) :: .i .i64 (Y6.length : Int) :: .own 0 :: an 14 [], [.vec 2 1 ((Ya.map (cI .i64)).set Y4.toNat [.i .i64 (Y6.getD Y4.toNat default)]) false]⟩) (p (sB Ye <| sG (cI .i64) Y6 Y4 Yt Yu <| sX (cI .i64) Ya Y4 Yt Yy <| sC (maplt (c := (cI .i64)) (l := Ya) YC) <| sI (Y4 + 1) YE YL <| sN)) (by kernel_rfl) (by simp [Z38, List.map_set, cI]) (ih (Y4 + 1) (Ya.set Y4.toNat (Y6.getD Y4.toNat default)) (show 0 ≤ (Y4 + 1) from (by omega)) (show (Ya.set Y4.toNat (Y6.getD Y4.toNat default)).length = Y6.length from (by simp_all <;> omega)) (by omega))
  | false =>
   have Yo := odf Ye
   have e : Z1c Y6 (k + 1) Y4 Ya = Ya := by simp only [Z1c, Ye, cond_false]
   rw [e]
   exact outR (e := (.exit 0)) E0Ok Z3 [] (mR false [0, 1, 1, 2, 1, 3, 14]) [0] (p (sB Ye <| sN)) (by kernel_rfl) (by intro h; cases h)
def Z25 (Y6 : (List Int)) : (List Int) := (Z1c Y6 (((Y6.length : Int) - 0).toNat + 1) 0 (List.replicate (Y6.length : Int).toNat 0))
def Z2Z (Y6 : (List Int)) : (List Int) := (Z25 Y6)
theorem Z60 (Y6 : (List Int)) (hp0 : Y6.length ≤ 1073741824)  : Fn prog 98 [.sl (Y6.map (cI .i64))] (.own 0) [.vec 2 1 ((Z2Z Y6).map (cI .i64)) false] := by
 have y0 : (0 : Int) ≤ (Y6.length : Int) := (by omega)
 have y1 : ((Y6.length : Int) : Int) ≤ 2147483648 := (by omega)
 refine fnS E0Ok Z3 (c := bodyOf f98) [] (.own 0) [.vec 2 1 ((Z25 Y6).map (cI .i64)) false] func98 (sZ (cI .i64) Y6 <| sC (show (Y6.length : Int) = (Y6.length : Int) from rfl) <| sC y0 <| sC y1 <| sL (mR false [0, 1, 1, 6, 14]) 1 (lp_cast (st2 := ⟨.sl (Y6.map (cI .i64)) :: .any :: .nils :: .own 0 :: .i .i64 0 :: .sl (Y6.map (cI .i64)) :: .i .i64 (Y6.length : Int) :: .own 0 :: an 14 [], [.vec 2 1 (List.replicate (Int.toNat (Y6.length : Int)) [.i .i64 0]) false]⟩) (lp_val (Z37 Y6) (x := (Z25 Y6)) (Z5l Y6 hp0 (((Y6.length : Int) - 0).toNat + 1) 0 (List.replicate (Y6.length : Int).toNat 0) (show 0 ≤ 0 from (by omega)) (show (List.replicate (Y6.length : Int).toNat 0).length = Y6.length from (by simp)) (Nat.lt_succ_self _)) rfl) (by simp [Z38, cI])) <| sK [0] sN) rfl (by kernel_rfl) (by kernel_rfl) rfl ?_ ?_
 · rfl
 · simp [Z2Z]
@[simp] theorem Z5M (a : List Int) : Z2Z a = a := by
  unfold Z2Z Z25
  rw [copy_all (f := id) (a := a) (lo := Z1c a) (fun k i r => rfl)]
  exact List.map_id a
theorem Z61 (Y6 : (List Int)) (hp0 : Y6.length ≤ 1073741824) : Fn prog 98 [.sl (Y6.map (cI .i64))] (.own 0) [.vec 2 1 (Y6.map (cI .i64)) false] := by
 simpa only [Z5M] using Z60  Y6 hp0
def Z18 (Y6 : (List (List Int))) : Nat → Int → (List (List Int)) → (List (List Int))
  | 0, _, _ => default
  | k + 1, Y4, Ya => (cond (decide (Y4 < (Y6.length : Int)))
    (Z18 Y6 k (Y4 + 1) (Ya.set Y4.toNat (Y6.getD Y4.toNat default)))
    Ya)
def Z2U (Y6 : (List (List Int))) (r : (List (List Int))) : Ex × St := ((.exit 0), ⟨.sl (Y6.map (cL (cI .i64))) :: .any :: .nils :: .own 0 :: .any :: .sl (Y6.map (cL (cI .i64))) :: .i .i64 (Y6.length : Int) :: .own 0 :: an 15 [], [.nest 79 (r.map fun l => l.map (cI .i64)) false]⟩)
def Z2V (Y6 : (List (List Int))) (Y4 : Int) (Ya : (List (List Int))) : St := ⟨.sl (Y6.map (cL (cI .i64))) :: .any :: .nils :: .own 0 :: .i .i64 Y4 :: .sl (Y6.map (cL (cI .i64))) :: .i .i64 (Y6.length : Int) :: .own 0 :: an 15 [], [.nest 79 (Ya.map fun l => l.map (cI .i64)) false]⟩
theorem Z5e (Y6 : (List (List Int))) (hp0 : Y6.length ≤ 1073741824) (hp1 : ∀ t ∈ Y6, t.length ≤ 1073741824) : ∀ (k : Nat) (Y4 : Int) (Ya : (List (List Int))) (Z3w : 0 ≤ Y4) (Z3x : Ya.length = Y6.length) (hk : ((Y6.length : Int) - Y4).toNat < k), Lp prog 0 (sub (bodyOf f51) [1, 1, 0, 1, 0, 0]) (Z2V Y6 Y4 Ya) (Z2U Y6 (Z18 Y6 k Y4 Ya)).1 (Z2U Y6 (Z18 Y6 k Y4 Ya)).2 := by
 intro k
 induction k with
 | zero => intro Y4 Ya Z3w Z3x hk; exact absurd hk (Nat.not_lt_zero _)
 | succ k ih =>
  intro Y4 Ya Z3w Z3x hk
  have p {a C} (s : Scr a C) := sZ (cL (cI .i64)) Y6 <| s
  cases Ye : (decide (Y4 < (Y6.length : Int))) with
  | true =>
   have Yo := odt Ye
   have Yt : (0 : Int) ≤ Y4 := by clear p; exact (by assumption)
   have Yu : Y4 < (Y6.length : Int) := by clear p; exact (by assumption)
   have Yy : (Y6.getD Y4.toNat default).length ≤ 1073741824 := by clear p; exact (by simp_all <;> omega)
   have YC : Int.toNat Y4 < Ya.length := by clear p; exact (by omega)
   have YE : Y4.toNat < Ya.length := by clear p; exact (by assumption)
   have YL : (-9223372036854775808 : Int) ≤ (Y4 + 1) := by clear p; exact (by omega)
   have YU : (Y4 + 1) ≤ (9223372036854775807 : Int) := by clear p; exact (by omega)
   have e : Z18 Y6 (k + 1) Y4 Ya = (Z18 Y6 k (Y4 + 1) (Ya.set Y4.toNat (Y6.getD Y4.toNat default))) := by simp only [Z18, Ye, cond_true]
   rw [e]
   exact nextS E0Ok Z3 [] (mR false [0, 1, 1, 6, 15]) [0] (⟨.sl (Y6.map (cL (cI .i64))) :: .any :: .nils :: .own 0 :: .i .i64 (Y4 + 1) :: .sl (Y6.map (cL (cI .i64))) :: .i .i64 (Y6.length : Int) :: .own 0 :: an 15 [], [.nest 79 ((Ya.map fun l => l.map (cI .i64)).set Y4.toNat ((Y6.getD Y4.toNat default).map (cI .i64))) false]⟩) (p (sB Ye <| sG (cL (cI .i64)) Y6 Y4 Yt Yu <| sF (Z61 (Y6.getD Y4.toNat default) Yy) <| sC (nestix (c := (cI .i64)) (l := Ya) (i := Y4) Yt YC) <| sC (show Y4.toNat < (Ya.map fun l => l.map (cI .i64)).length from (by simpa using YE)) <| sI (Y4 + 1) YL YU <| sN)) (by kernel_rfl) (by simp [Z2V, List.map_set, cL, cI]) (ih (Y4 + 1) (Ya.set Y4.toNat (Y6.getD Y4.toNat default)) (show 0 ≤ (Y4 + 1) from (by omega)) (show (Ya.set Y4.toNat (Y6.getD Y4.toNat default)).length = Y6.length from (by simp_all <;> omega)) (by omega))
  | false =>
   have Yo := odf Ye
   have e : Z18 Y6 (k + 1) Y4 Ya = Ya := by simp only [Z18, Ye, cond_false]
   rw [e]
   exact outR (e := (.exit 0)) E0Ok Z3 [] (mR false [0, 1, 1, 2, 1, 3, 15]) [0] (p (sB Ye <| sN)) (by kernel_rfl) (by intro h; cases h)
def Z21 (Y6 : (List (List Int))) : (List (List Int)) := (Z18 Y6 (((Y6.length : Int) - 0).toNat + 1) 0 (List.replicate (Y6.length : Int).toNat ([] : (List Int))))
def Z2G (Y6 : (List (List Int))) : (List (List Int)) := (Z21 Y6)
theorem Z5N (Y6 : (List (List Int))) (hp0 : Y6.length ≤ 1073741824) (hp1 : ∀ t ∈ Y6, t.length ≤ 1073741824)  : Fn prog 51 [.sl (Y6.map (cL (cI .i64)))] (.own 0) [.nest 79 ((Z2G Y6).map fun l => l.map (cI .i64)) false] := by
 have y0 : (0 : Int) ≤ (Y6.length : Int) := (by omega)
 have y1 : ((Y6.length : Int) : Int) ≤ 2147483648 := (by omega)
 refine fnS E0Ok Z3 (c := bodyOf f51) [] (.own 0) [.nest 79 ((Z21 Y6).map fun l => l.map (cI .i64)) false] func51 (sZ (cL (cI .i64)) Y6 <| sC (show (Y6.length : Int) = (Y6.length : Int) from rfl) <| sC y0 <| sC y1 <| sL (mR false [0, 1, 1, 6, 15]) 1 (lp_cast (st2 := ⟨.sl (Y6.map (cL (cI .i64))) :: .any :: .nils :: .own 0 :: .i .i64 0 :: .sl (Y6.map (cL (cI .i64))) :: .i .i64 (Y6.length : Int) :: .own 0 :: an 15 [], [.nest 79 (List.replicate (Y6.length : Int).toNat []) false]⟩) (lp_val (Z2U Y6) (x := (Z21 Y6)) (Z5e Y6 hp0 hp1 (((Y6.length : Int) - 0).toNat + 1) 0 (List.replicate (Y6.length : Int).toNat ([] : (List Int))) (show 0 ≤ 0 from (by omega)) (show (List.replicate (Y6.length : Int).toNat ([] : (List Int))).length = Y6.length from (by simp)) (Nat.lt_succ_self _)) rfl) (by simp [Z2V, cL, cI])) <| sK [0] sN) rfl (by kernel_rfl) (by kernel_rfl) rfl ?_ ?_
 · rfl
 · simp [Z2G]
@[simp] theorem Z5B (a : List (List Int)) : Z2G a = a := by
  unfold Z2G Z21
  rw [copy_all (f := id) (a := a) (lo := Z18 a) (fun k i r => rfl)]
  exact List.map_id a
theorem Z5O (Y6 : (List (List Int))) (hp0 : Y6.length ≤ 1073741824) (hp1 : ∀ t ∈ Y6, t.length ≤ 1073741824) : Fn prog 51 [.sl (Y6.map (cL (cI .i64)))] (.own 0) [.nest 79 (Y6.map fun l => l.map (cI .i64)) false] := by
 simpa only [Z5B] using Z5N  Y6 hp0 hp1
def Z2M (Y6 : Gm) : Gm := Y6
theorem Z6k (Y6 : Gm) (hp0 : Y6.Pq.length ≤ 1073741824) (hp1 : Y6.Tr.length ≤ 1073741824) (hp2 : ∀ t ∈ Y6.Tr, t.length ≤ 1073741824)  : Fn prog 14 [.agg [.sl (Y6.Pq.map Gv.c), .sl (Y6.Tr.map (cL (cI .i64)))]] (.agg [.own 0, .own 1]) [.vec 62 3 (((Z2M Y6).Pq).map Gv.c) false, .nest 79 (((Z2M Y6).Tr).map fun l => l.map (cI .i64)) false] := by
 refine fnS E0Ok Z3 (c := bodyOf f14) [] (.agg [.own 0, .own 1]) [.vec 62 3 (Y6.Pq.map Gv.c) false, .nest 79 (Y6.Tr.map fun l => l.map (cI .i64)) false] func14 (sF (Z5L Y6.Pq hp0) <| sF (Z5O Y6.Tr hp1 hp2) <| sK [3, 4] sN) rfl (by kernel_rfl) (by kernel_rfl) rfl ?_ ?_
 · rfl
 · simp [Z2M]
@[simp] theorem Z6a (a : Gm) : Z2M a = a := by
  simp [Z2M]
theorem Z3o (Y6 : Gm) (hp0 : Y6.Pq.length ≤ 1073741824) (hp1 : Y6.Tr.length ≤ 1073741824) (hp2 : ∀ t ∈ Y6.Tr, t.length ≤ 1073741824) : Fn prog 14 [.agg [.sl (Y6.Pq.map Gv.c), .sl (Y6.Tr.map (cL (cI .i64)))]] (.agg [.own 0, .own 1]) [.vec 62 3 (Y6.Pq.map Gv.c) false, .nest 79 (Y6.Tr.map fun l => l.map (cI .i64)) false] := by
 simpa only [Z6a] using Z6k  Y6 hp0 hp1 hp2
def Z1j (YY : Int) (YM : Int) (YH : Int) : Bool := (cond (decide (YY ≥ YM))
  (decide (YY ≤ YH))
  false)
theorem Z4B (YY : Int) (YM : Int) (YH : Int)   : Fn prog 73 [.i .i64 YY, .i .i64 YM, .i .i64 YH] (.b (Z1j YY YM YH)) [] := by
 cases h0 : (decide (YY ≥ YM)) with
 | true =>
  have gh0 := odt h0
  refine fnS E0Ok Z3 (c := bodyOf f73) [] (.b (decide (YY ≤ YH))) [] func73 (sB h0 <| sB h0 <| sB h0 <| sB h0 <| sK [] sN) rfl (by kernel_rfl) (by kernel_rfl) rfl ?_ ?_
  · simp only [Z1j, h0, cond_true]
  · rfl
 | false =>
  have gh0 := odf h0
  refine fnS E0Ok Z3 (c := bodyOf f73) [] (.b false) [] func73 (sB h0 <| sB h0 <| sB h0 <| sB h0 <| sK [] sN) rfl (by kernel_rfl) (by kernel_rfl) rfl ?_ ?_
  · simp only [Z1j, h0, cond_false]
  · rfl
def Zj (YF : (List Int)) (Yw : Int) : Bool := (cond ((YF.length : Int) != 3)
  false
  (cond ((YF.getD 0 default) == (YF.getD 1 default))
    false
    (cond ((YF.getD 1 default) == (YF.getD 2 default))
      false
      (cond ((YF.getD 0 default) == (YF.getD 2 default))
        false
        (cond (Z1j (YF.getD 0 default) 0 (IntKind.wrap .i64 (Yw - 1)))
          (cond (Z1j (YF.getD 1 default) 0 (IntKind.wrap .i64 (Yw - 1)))
            (Z1j (YF.getD 2 default) 0 (IntKind.wrap .i64 (Yw - 1)))
            false)
          false)))))
theorem Z5m (YF : (List Int)) (Yw : Int) (hp0 : YF.length ≤ 1073741824)  : Fn prog 91 [.sl (YF.map (cI .i64)), .i .i64 Yw] (.b (Zj YF Yw)) [] := by
 have p {a C} (s : Scr a C) := sK [28, 28] <| sZ (cI .i64) YF <| s
 cases h0 : ((YF.length : Int) != 3) with
 | true =>
  have gh0 := bne_iff_ne.1 h0
  refine fnS E0Ok Z3 (c := bodyOf f91) [] (.b false) [] func91 (p (sB h0 <| sB h0 <| sB h0 <| sB h0 <| sB h0 <| sB h0 <| sB h0 <| sB h0 <| sB (show true = true from rfl) <| sB (show true = true from rfl) <| sB (show true = true from rfl) <| sB (show true = true from rfl) <| sB (show true = true from rfl) <| sB (show true = true from rfl) <| sB (show true = true from rfl) <| sB (show true = true from rfl) <| sB (show true = true from rfl) <| sB (show true = true from rfl) <| sB (show true = true from rfl) <| sB (show true = true from rfl) <| sB (show true = true from rfl) <| sB (show true = true from rfl) <| sB (show true = true from rfl) <| sB (show true = true from rfl) <| sB (show true = true from rfl) <| sK [] sN)) rfl (by kernel_rfl) (by kernel_rfl) rfl ?_ ?_
  · simp only [Zj, h0, cond_true]
  · rfl
 | false =>
  have gh0 := bne_eq_false_iff_eq.1 h0
  have y0 : (0 : Int) ≤ 0 := by clear p; exact (by omega)
  have y1 : 0 < (YF.length : Int) := by clear p; exact (by omega)
  have y2 : (0 : Int) ≤ 1 := by clear p; exact (by omega)
  have y3 : 1 < (YF.length : Int) := by clear p; exact (by omega)
  have q {a C} (s : Scr a C) := p (sB h0 <| sB h0 <| sG (cI .i64) YF 0 y0 y1 <| sB h0 <| sB h0 <| sB h0 <| sG (cI .i64) YF 1 y2 y3 <| sB h0 <| sB h0 <| sB h0 <| s)
  clear p
  cases h1 : ((YF.getD 0 default) == (YF.getD 1 default)) with
  | true =>
   have gh1 := eq_of_beq h1
   refine fnS E0Ok Z3 (c := bodyOf f91) [] (.b false) [] func91 (q (sB h1 <| sB h1 <| sB h1 <| sB h1 <| sB h1 <| sB h1 <| sB h1 <| sB h1 <| sB (show true = true from rfl) <| sB (show true = true from rfl) <| sB (show true = true from rfl) <| sB (show true = true from rfl) <| sB (show true = true from rfl) <| sB (show true = true from rfl) <| sB (show true = true from rfl) <| sB (show true = true from rfl) <| sB (show true = true from rfl) <| sK [] sN)) rfl (by kernel_rfl) (by kernel_rfl) rfl ?_ ?_
   · simp only [Zj, h0, h1, cond_true, cond_false]
   · rfl
  | false =>
   have gh1 := ne_of_beq_false h1
   have y4 : (0 : Int) ≤ 2 := by clear q; exact (by omega)
   have y5 : 2 < (YF.length : Int) := by clear q; exact (by omega)
   have p {a C} (s : Scr a C) := q (sB h1 <| sB h1 <| sG (cI .i64) YF 1 y2 y3 <| sB h1 <| sB h1 <| sB h1 <| sG (cI .i64) YF 2 y4 y5 <| sB h1 <| sB h1 <| sB h1 <| s)
   clear q
   cases h2 : ((YF.getD 1 default) == (YF.getD 2 default)) with
   | true =>
    have gh2 := eq_of_beq h2
    refine fnS E0Ok Z3 (c := bodyOf f91) [] (.b false) [] func91 (p (sB h2 <| sB h2 <| sB h2 <| sB h2 <| sB h2 <| sB h2 <| sB h2 <| sB h2 <| sB (show true = true from rfl) <| sK [] sN)) rfl (by kernel_rfl) (by kernel_rfl) rfl ?_ ?_
    · simp only [Zj, h0, h1, h2, cond_true, cond_false]
    · rfl
   | false =>
    have gh2 := ne_of_beq_false h2
    have q {a C} (s : Scr a C) := p (sB h2 <| sB h2 <| sG (cI .i64) YF 0 y0 y1 <| sB h2 <| sB h2 <| sB h2 <| sG (cI .i64) YF 2 y4 y5 <| sB h2 <| sB h2 <| sB h2 <| s)
    clear p
    cases h3 : ((YF.getD 0 default) == (YF.getD 2 default)) with
    | true =>
     have gh3 := eq_of_beq h3
     refine fnS E0Ok Z3 (c := bodyOf f91) [] (.b false) [] func91 (q (sB h3 <| sK [] sN)) rfl (by kernel_rfl) (by kernel_rfl) rfl ?_ ?_
     · simp only [Zj, h0, h1, h2, h3, cond_true, cond_false]
     · rfl
    | false =>
     have gh3 := ne_of_beq_false h3
     have p {a C} (s : Scr a C) := q (sB h3 <| sG (cI .i64) YF 0 y0 y1 <| sW .i64 (Yw - 1) <| sF (Z4B (YF.getD 0 default) 0 (IntKind.wrap .i64 (Yw - 1))) <| s)
     clear q
     cases h4 : (Z1j (YF.getD 0 default) 0 (IntKind.wrap .i64 (Yw - 1))) with
     | true =>
      have q {a C} (s : Scr a C) := p (sB h4 <| sB h4 <| sG (cI .i64) YF 1 y2 y3 <| sB h4 <| sB h4 <| sB h4 <| sW .i64 (Yw - 1) <| sB h4 <| sF (Z4B (YF.getD 1 default) 0 (IntKind.wrap .i64 (Yw - 1))) <| sB h4 <| s)
      clear p
      cases h5 : (Z1j (YF.getD 1 default) 0 (IntKind.wrap .i64 (Yw - 1))) with
      | true =>
       refine fnS E0Ok Z3 (c := bodyOf f91) [] (.b (Z1j (YF.getD 2 default) 0 (IntKind.wrap .i64 (Yw - 1)))) [] func91 (q (sB h5 <| sB h5 <| sG (cI .i64) YF 2 y4 y5 <| sB h5 <| sB h5 <| sB h5 <| sW .i64 (Yw - 1) <| sB h5 <| sF (Z4B (YF.getD 2 default) 0 (IntKind.wrap .i64 (Yw - 1))) <| sB h5 <| sK [] sN)) rfl (by kernel_rfl) (by kernel_rfl) rfl ?_ ?_
       · simp only [Zj, h0, h1, h2, h3, h4, h5, cond_true, cond_false]
       · rfl
      | false =>
       refine fnS E0Ok Z3 (c := bodyOf f91) [] (.b false) [] func91 (q (sB h5 <| sB h5 <| sB h5 <| sB h5 <| sB h5 <| sB h5 <| sB h5 <| sK [] sN)) rfl (by kernel_rfl) (by kernel_rfl) rfl ?_ ?_
       · simp only [Zj, h0, h1, h2, h3, h4, h5, cond_true, cond_false]
       · rfl
     | false =>
      refine fnS E0Ok Z3 (c := bodyOf f91) [] (.b false) [] func91 (p (sB h4 <| sB h4 <| sB h4 <| sB h4 <| sB h4 <| sB h4 <| sB h4 <| sB (show false = false from rfl) <| sB (show false = false from rfl) <| sB (show false = false from rfl) <| sB (show false = false from rfl) <| sB (show false = false from rfl) <| sB (show false = false from rfl) <| sB (show false = false from rfl) <| sK [] sN)) rfl (by kernel_rfl) (by kernel_rfl) rfl ?_ ?_
      · simp only [Zj, h0, h1, h2, h3, h4, cond_false]
      · rfl
def Z1f (Y0 : Gm) : Nat → Int → (Unit) ⊕ (Unit)
  | 0, _ => .inl default
  | k + 1, Y4 => (cond (decide (Y4 < (Y0.Tr.length : Int)))
    (cond (Zj (Y0.Tr.getD Y4.toNat default) (Y0.Pq.length : Int))
      (Z1f Y0 k (Y4 + 1))
      (.inl ()))
    (.inr ()))
def Z30 (Y0 : Gm) : (Unit) ⊕ (Unit) → Ex × St
  | .inl r => (.ret, ⟨.any :: .any :: .b false :: an 38 [], []⟩)
  | .inr r => ((.exit 0), ⟨.ref (Gm.c Y0) 0 :: .any :: .any :: .any :: .ref (Gm.c Y0) 0 :: .ref (Gm.c Y0) 0 :: .ref (Gm.c Y0) 0 :: .sl (Y0.Pq.map Gv.c) :: .i .i64 (Y0.Pq.length : Int) :: .b (decide ((Y0.Pq.length : Int) > 64)) :: .b (decide ((Y0.Pq.length : Int) > 64)) :: .ref (Gm.c Y0) 0 :: .ref (Gm.c Y0) 0 :: .ref (Gm.c Y0) 1 :: .sl (Y0.Tr.map (cL (cI .i64))) :: .i .i64 (Y0.Tr.length : Int) :: .b (decide ((Y0.Tr.length : Int) > 128)) :: .b (decide ((Y0.Tr.length : Int) > 128)) :: an 23 [], []⟩)
def Z62 (Y0 : Gm) (Y4 : Int) : St := ⟨.ref (Gm.c Y0) 0 :: .any :: .any :: .i .i64 Y4 :: .ref (Gm.c Y0) 0 :: .ref (Gm.c Y0) 0 :: .ref (Gm.c Y0) 0 :: .sl (Y0.Pq.map Gv.c) :: .i .i64 (Y0.Pq.length : Int) :: .b (decide ((Y0.Pq.length : Int) > 64)) :: .b (decide ((Y0.Pq.length : Int) > 64)) :: .ref (Gm.c Y0) 0 :: .ref (Gm.c Y0) 0 :: .ref (Gm.c Y0) 1 :: .sl (Y0.Tr.map (cL (cI .i64))) :: .i .i64 (Y0.Tr.length : Int) :: .b (decide ((Y0.Tr.length : Int) > 128)) :: .b (decide ((Y0.Tr.length : Int) > 128)) :: an 23 [], []⟩
theorem Z4L (Y0 : Gm) (hp0 : Y0.Pq.length ≤ 1073741824) (hp1 : Y0.Tr.length ≤ 1073741824) (hp2 : ∀ t ∈ Y0.Tr, t.length ≤ 1073741824) (Z73 : (decide ((Y0.Pq.length : Int) > 64)) = false) (Z74 : (decide ((Y0.Tr.length : Int) > 128)) = false) : ∀ (k : Nat) (Y4 : Int) (Z4q : 0 ≤ Y4) (hk : ((Y0.Tr.length : Int) - Y4).toNat < k), Lp prog 0 (sub (bodyOf f40) [1, 1, 0, 1, 0, 0]) (Z62 Y0 Y4) (Z30 Y0 (Z1f Y0 k Y4)).1 (Z30 Y0 (Z1f Y0 k Y4)).2 := by
 intro k
 induction k with
 | zero => intro Y4 Z4q hk; exact absurd hk (Nat.not_lt_zero _)
 | succ k ih =>
  intro Y4 Z4q hk
  have p {a C} (s : Scr a C) := sZ (cL (cI .i64)) Y0.Tr <| s
  cases Ye : (decide (Y4 < (Y0.Tr.length : Int))) with
  | true =>
   have Yo := odt Ye
   have Yt : (0 : Int) ≤ Y4 := by clear p; exact (by assumption)
   have Yu : Y4 < (Y0.Tr.length : Int) := by clear p; exact (by assumption)
   have Yy : (Y0.Tr.getD Y4.toNat default).length ≤ 1073741824 := by clear p; exact (by simp_all <;> omega)
   have q {a C} (s : Scr a C) := p (sB Ye <| sK [12, 12] <| sG (cL (cI .i64)) Y0.Tr Y4 Yt Yu <| sZ Gv.c Y0.Pq <| sF (Z5m (Y0.Tr.getD Y4.toNat default) (Y0.Pq.length : Int) Yy) <| s)
   clear p
   cases Yk : (Zj (Y0.Tr.getD Y4.toNat default) (Y0.Pq.length : Int)) with
   | true =>
    have YC : (-9223372036854775808 : Int) ≤ (Y4 + 1) := by clear q; exact (by omega)
    have YE : (Y4 + 1) ≤ (9223372036854775807 : Int) := by clear q; exact (by omega)
    have e : Z1f Y0 (k + 1) Y4 = (Z1f Y0 k (Y4 + 1)) := by simp only [Z1f, Ye, Yk, cond_true]
    rw [e]
    exact nextR E0Ok Z3 [] (mR false [0, 1, 2, 15, 23]) [] (ih (Y4 + 1) (show 0 ≤ (Y4 + 1) from (by omega)) (by omega)) (q (sB' Yk <| sI (Y4 + 1) YC YE <| sN)) (by kernel_rfl)
   | false =>
    have e : Z1f Y0 (k + 1) Y4 = (.inl ()) := by simp only [Z1f, Ye, Yk, cond_true, cond_false]
    rw [e]
    exact outR (e := .ret) E0Ok Z3 [] (mR false [2, 1, 38]) [] (q (sB' Yk <| sN)) (by kernel_rfl) (by intro h; cases h)
  | false =>
   have Yo := odf Ye
   have e : Z1f Y0 (k + 1) Y4 = (.inr ()) := by simp only [Z1f, Ye, cond_false]
   rw [e]
   exact outR (e := (.exit 0)) E0Ok Z3 [] (mR false [0, 1, 3, 14, 23]) [] (p (sB Ye <| sN)) (by kernel_rfl) (by intro h; cases h)
def Z23 (Y0 : Gm) : (Unit) ⊕ (Unit) := (Z1f Y0 (((Y0.Tr.length : Int) - 0).toNat + 1) 0)
def Zt (Y0 : Gm) : Bool := (cond (decide ((Y0.Pq.length : Int) > 64))
  false
  (cond (decide ((Y0.Tr.length : Int) > 128))
    false
    (match (Z23 Y0) with
      | .inl r3 => false
      | .inr r3 => true)))
theorem Z6w (Y0 : Gm) (hp0 : Y0.Pq.length ≤ 1073741824) (hp1 : Y0.Tr.length ≤ 1073741824) (hp2 : ∀ t ∈ Y0.Tr, t.length ≤ 1073741824)  : Fn prog 40 [.ref (Gm.c Y0) 0] (.b (Zt Y0)) [] := by
 have p {a C} (s : Scr a C) := sZ Gv.c Y0.Pq <| s
 cases h0 : (decide ((Y0.Pq.length : Int) > 64)) with
 | true =>
  have gh0 := odt h0
  refine fnS E0Ok Z3 (c := bodyOf f40) [] (.b false) [] func40 (p (sB h0 <| sB h0 <| sB h0 <| sB h0 <| sB h0 <| sB h0 <| sB h0 <| sB (show true = true from rfl) <| sK [] sN)) rfl (by kernel_rfl) (by kernel_rfl) rfl ?_ ?_
  · simp only [Zt, h0, cond_true]
  · rfl
 | false =>
  have gh0 := odf h0
  have q {a C} (s : Scr a C) := p (sB h0 <| sB h0 <| sB h0 <| sB h0 <| sB h0 <| sZ (cL (cI .i64)) Y0.Tr <| sB h0 <| sB h0 <| s)
  clear p
  cases h1 : (decide ((Y0.Tr.length : Int) > 128)) with
  | true =>
   have gh1 := odt h1
   refine fnS E0Ok Z3 (c := bodyOf f40) [] (.b false) [] func40 (q (sB h1 <| sK [] sN)) rfl (by kernel_rfl) (by kernel_rfl) rfl ?_ ?_
   · simp only [Zt, h0, h1, cond_true, cond_false]
   · rfl
  | false =>
   have gh1 := odf h1
   have p {a C} (s : Scr a C) := q (sB h1 <| s)
   clear q
   cases h2 : (Z23 Y0) with
   | inl r3 =>
    refine fnS E0Ok Z3 (c := bodyOf f40) [] (.b false) [] func40 (p (sL (mR false [0, 1, 2, 15, 23]) 0 (lp_val (Z30 Y0) (x := (Z23 Y0)) (Z4L Y0 hp0 hp1 hp2 h0 h1 (((Y0.Tr.length : Int) - 0).toNat + 1) 0 (show 0 ≤ 0 from (by omega)) (Nat.lt_succ_self _)) h2) <| sK [] sN)) rfl (by kernel_rfl) (by kernel_rfl) rfl ?_ ?_
    · simp only [Zt, h0, h1, h2, cond_false]
    · rfl
   | inr r3 =>
    refine fnS E0Ok Z3 (c := bodyOf f40) [] (.b true) [] func40 (p (sL (mR false [0, 1, 2, 15, 23]) 0 (lp_val (Z30 Y0) (x := (Z23 Y0)) (Z4L Y0 hp0 hp1 hp2 h0 h1 (((Y0.Tr.length : Int) - 0).toNat + 1) 0 (show 0 ≤ 0 from (by omega)) (Nat.lt_succ_self _)) h2) <| sK [] sN)) rfl (by kernel_rfl) (by kernel_rfl) rfl ?_ ?_
    · simp only [Zt, h0, h1, h2, cond_false]
    · rfl
theorem Z5P (m : Gm) : Zt m = cond (decide ((m.Pq.length : Int) > 64)) false (cond (decide ((m.Tr.length : Int) > 128)) false (m.Tr.all fun t => Zj t (m.Pq.length : Int))) := by
  unfold Zt Z23
  rw [all_from (a := m.Tr) (p := fun t => Zj t (m.Pq.length : Int)) (lo := Z1f m) (x := ()) (y := ()) (fun k i => rfl)]
  cases (m.Tr.all fun t => Zj t (m.Pq.length : Int)) <;> rfl
theorem Z7f {t : List Int} {n : Int} (h0 : 0 ≤ n) (h1 : n ≤ 64) (h : Zj t n = true) : t.length = 3 ∧ ∀ x ∈ t, 0 ≤ x ∧ x < n := by
  unfold Zj at h
  rw [wrap_sub (by omega) (by omega)] at h
  cases hl : ((t.length : Int) != 3) with
  | true => rw [hl] at h; cases h
  | false =>
    rw [hl, cond_false] at h
    have hl3 : t.length = 3 := by simp at hl; omega
    match t, hl3 with
    | [a, b, c], _ =>
      refine ⟨rfl, ?_⟩
      simp only [List.getD_cons_zero, List.getD_cons_succ, Z1j] at h
      cases e1 : (a == b) <;> rw [e1] at h <;> (try (cases h; done))
      cases e2 : (b == c) <;> rw [e2] at h <;> (try (cases h; done))
      cases e3 : (a == c) <;> rw [e3] at h <;> (try (cases h; done))
      simp only [cond_false] at h
      cases f1 : decide (a ≥ 0) <;> rw [f1] at h <;> (try (cases h; done))
      cases f2 : decide (a ≤ n - 1) <;> rw [f2] at h <;> (try (cases h; done))
      cases f3 : decide (b ≥ 0) <;> rw [f3] at h <;> (try (cases h; done))
      cases f4 : decide (b ≤ n - 1) <;> rw [f4] at h <;> (try (cases h; done))
      cases f5 : decide (c ≥ 0) <;> rw [f5] at h <;> (try (cases h; done))
      simp only [cond_true, decide_eq_true_eq] at h f1 f2 f3 f4 f5
      intro x hx
      simp only [List.mem_cons, List.not_mem_nil, or_false] at hx
      rcases hx with rfl | rfl | rfl <;> omega
theorem Z6W (m : Gm) (h : Zt m = true) : OkTris m.Pq.length m.Tr := by
  rw [Z5P] at h
  cases h1 : decide ((m.Pq.length : Int) > 64) <;> rw [h1] at h <;> (try (cases h; done))
  cases h2 : decide ((m.Tr.length : Int) > 128) <;> rw [h2] at h <;> (try (cases h; done))
  simp only [cond_false, List.all_eq_true, decide_eq_false_iff_not] at h h1
  intro t ht
  exact Z7f (by omega) (by omega) (h t ht)
theorem Z2i (m : Gm) (h : Zt m = true) : OkE m.Pq.length m.Tr := by
  have h0 := Z6W m h
  rw [Z5P] at h
  cases h1 : decide ((m.Pq.length : Int) > 64) <;> rw [h1] at h <;> (try (cases h; done))
  cases h2 : decide ((m.Tr.length : Int) > 128) <;> rw [h2] at h <;> (try (cases h; done))
  simp only [cond_false, List.all_eq_true, decide_eq_false_iff_not] at h h1 h2
  refine ⟨by omega, by omega, fun t ht => ?_⟩
  have h3 := h t ht
  obtain ⟨hl, hx⟩ := h0 t ht
  match t, hl with
  | [a, b, c], _ =>
    unfold Zj at h3
    simp only [List.getD_cons_zero, List.getD_cons_succ] at h3
    cases e0 : ((([a, b, c] : List Int).length : Int) != 3) <;> rw [e0] at h3 <;> (try (cases h3; done))
    cases e1 : (a == b) <;> rw [e1] at h3 <;> (try (cases h3; done))
    cases e2 : (b == c) <;> rw [e2] at h3 <;> (try (cases h3; done))
    cases e3 : (a == c) <;> rw [e3] at h3 <;> (try (cases h3; done))
    exact ⟨a, b, c, rfl, hx a (by simp), hx b (by simp), hx c (by simp), beq_eq_false_iff_ne.1 e1, beq_eq_false_iff_ne.1 e2, beq_eq_false_iff_ne.1 e3⟩
def Z1n (Y6 : Int) (Yc : Int) : Int := (cond (decide (Y6 < Yc))
  Y6
  Yc)
theorem Z6l (Y6 : Int) (Yc : Int)   : Fn prog 106 [.i .i64 Y6, .i .i64 Yc] (.i .i64 (Z1n Y6 Yc)) [] := by
 cases h0 : (decide (Y6 < Yc)) with
 | true =>
  have gh0 := odt h0
  refine fnS E0Ok Z3 (c := bodyOf f106) [] (.i .i64 Y6) [] func106 (sB h0 <| sK [] sN) rfl (by kernel_rfl) (by kernel_rfl) rfl ?_ ?_
  · simp only [Z1n, h0, cond_true]
  · rfl
 | false =>
  have gh0 := odf h0
  refine fnS E0Ok Z3 (c := bodyOf f106) [] (.i .i64 Yc) [] func106 (sB h0 <| sK [] sN) rfl (by kernel_rfl) (by kernel_rfl) rfl ?_ ?_
  · simp only [Z1n, h0, cond_false]
  · rfl
theorem Z4C {a b n : Int} (h1 : 0 ≤ a ∧ a < n) (h2 : 0 ≤ b ∧ b < n) : 0 ≤ Z1n a b ∧ Z1n a b < n := by
  unfold Z1n; cases decide (a < b) <;> simp only [cond_true, cond_false] <;> omega
def Z1o (Y6 : Int) (Yc : Int) : Int := (cond (decide (Y6 > Yc))
  Y6
  Yc)
theorem Z6m (Y6 : Int) (Yc : Int)   : Fn prog 107 [.i .i64 Y6, .i .i64 Yc] (.i .i64 (Z1o Y6 Yc)) [] := by
 cases h0 : (decide (Y6 > Yc)) with
 | true =>
  have gh0 := odt h0
  refine fnS E0Ok Z3 (c := bodyOf f107) [] (.i .i64 Y6) [] func107 (sB h0 <| sK [] sN) rfl (by kernel_rfl) (by kernel_rfl) rfl ?_ ?_
  · simp only [Z1o, h0, cond_true]
  · rfl
 | false =>
  have gh0 := odf h0
  refine fnS E0Ok Z3 (c := bodyOf f107) [] (.i .i64 Yc) [] func107 (sB h0 <| sK [] sN) rfl (by kernel_rfl) (by kernel_rfl) rfl ?_ ?_
  · simp only [Z1o, h0, cond_false]
  · rfl
theorem Z4D {a b n : Int} (h1 : 0 ≤ a ∧ a < n) (h2 : 0 ≤ b ∧ b < n) : 0 ≤ Z1o a b ∧ Z1o a b < n := by
  unfold Z1o; cases decide (a > b) <;> simp only [cond_true, cond_false] <;> omega
theorem Z4X (a b : Int) : (⟨Z1n a b, Z1o a b⟩ : Gedge) = mkE a b := by
  unfold Z1n Z1o mkE
  by_cases h : a < b
  · rw [decide_eq_true h, decide_eq_false (by omega), if_pos (by omega)]; rfl
  · rw [decide_eq_false h]
    by_cases h2 : a > b
    · rw [decide_eq_true h2, if_neg (by omega)]; rfl
    · rw [decide_eq_false h2, show a = b from by omega, if_pos (by omega)]; rfl
def Zz (Y0 : Gm) (Y4 : Int) (Y5 : Int) : Int := (Z1n ((Y0.Tr.getD Y4.toNat default).getD Y5.toNat default) ((Y0.Tr.getD Y4.toNat default).getD (Int.tmod (Y5 + 1) 3).toNat default))
def ZD (Y0 : Gm) (Y4 : Int) (Y5 : Int) : Int := (Z1o ((Y0.Tr.getD Y4.toNat default).getD Y5.toNat default) ((Y0.Tr.getD Y4.toNat default).getD (Int.tmod (Y5 + 1) 3).toNat default))
def Zo (Y0 : Gm) (Y4 : Int) (Ya : (List Bool)) : Nat → Int → (List Bool) → (List Bool)
  | 0, _, _ => default
  | k + 1, Y5, Yl => (cond (decide (Y5 < 3))
    (Zo Y0 Y4 Ya k (Y5 + 1) (Yl.set ((IntKind.wrap .i64 ((IntKind.wrap .i64 ((Zz Y0 Y4 Y5) * (Y0.Pq.length : Int))) + (ZD Y0 Y4 Y5))).toNat) true))
    Yl)
def Z39 (Y0 : Gm) (Y4 : Int) (Ya : (List Bool)) (r : (List Bool)) : Ex × St := ((.exit 2), ⟨.ref (Gm.c Y0) 0 :: .any :: .nils :: .i .i64 (Y0.Pq.length : Int) :: .own 0 :: .i .i64 Y4 :: .sl ((Y0.Tr.getD Y4.toNat default).map (cI .i64)) :: an 6 (.ref (Gm.c Y0) 0 :: .ref (Gm.c Y0) 0 :: .ref (Gm.c Y0) 0 :: .sl (Y0.Pq.map Gv.c) :: .i .i64 (Y0.Pq.length : Int) :: .i .i64 (Y0.Pq.length : Int) :: .i .i64 (Y0.Pq.length : Int) :: .i .i64 (IntKind.wrap .i64 ((Y0.Pq.length : Int) * (Y0.Pq.length : Int))) :: .own 0 :: .i .i64 Y4 :: .ref (Gm.c Y0) 0 :: .ref (Gm.c Y0) 0 :: .ref (Gm.c Y0) 1 :: .sl (Y0.Tr.map (cL (cI .i64))) :: .i .i64 (Y0.Tr.length : Int) :: .b (decide (Y4 < (Y0.Tr.length : Int))) :: .any :: .any :: .ref (Gm.c Y0) 0 :: .ref (Gm.c Y0) 0 :: .ref (Gm.c Y0) 1 :: .sl (Y0.Tr.map (cL (cI .i64))) :: .i .i64 Y4 :: .ref [.sl ((Y0.Tr.getD Y4.toNat default).map (cI .i64))] 0 :: .sl ((Y0.Tr.getD Y4.toNat default).map (cI .i64)) :: an 53 []), [.vec 4 1 (r.map cB) false]⟩)
def Z47 (Y0 : Gm) (Y4 : Int) (Ya : (List Bool)) (Y5 : Int) (Yl : (List Bool)) : St := ⟨.ref (Gm.c Y0) 0 :: .any :: .nils :: .i .i64 (Y0.Pq.length : Int) :: .own 0 :: .i .i64 Y4 :: .sl ((Y0.Tr.getD Y4.toNat default).map (cI .i64)) :: .i .i64 Y5 :: an 5 (.ref (Gm.c Y0) 0 :: .ref (Gm.c Y0) 0 :: .ref (Gm.c Y0) 0 :: .sl (Y0.Pq.map Gv.c) :: .i .i64 (Y0.Pq.length : Int) :: .i .i64 (Y0.Pq.length : Int) :: .i .i64 (Y0.Pq.length : Int) :: .i .i64 (IntKind.wrap .i64 ((Y0.Pq.length : Int) * (Y0.Pq.length : Int))) :: .own 0 :: .i .i64 Y4 :: .ref (Gm.c Y0) 0 :: .ref (Gm.c Y0) 0 :: .ref (Gm.c Y0) 1 :: .sl (Y0.Tr.map (cL (cI .i64))) :: .i .i64 (Y0.Tr.length : Int) :: .b (decide (Y4 < (Y0.Tr.length : Int))) :: .any :: .any :: .ref (Gm.c Y0) 0 :: .ref (Gm.c Y0) 0 :: .ref (Gm.c Y0) 1 :: .sl (Y0.Tr.map (cL (cI .i64))) :: .i .i64 Y4 :: .ref [.sl ((Y0.Tr.getD Y4.toNat default).map (cI .i64))] 0 :: .sl ((Y0.Tr.getD Y4.toNat default).map (cI .i64)) :: an 53 []), [.vec 4 1 (Yl.map cB) false]⟩
def Z3H : List Bool := (mR false [0, 1, 1, 6, 5, 16, 2, 7, 53])
def Z4Y : List Bool := (mR false [0, 1, 1, 5, 6, 16, 2, 7, 53])
set_option maxHeartbeats 1000000 in
theorem Z5n (Y0 : Gm) (Y4 : Int) (Ya : (List Bool)) (hp0 : Y0.Pq.length ≤ 1073741824) (hp1 : Y0.Tr.length ≤ 1073741824) (hp2 : ∀ t ∈ Y0.Tr, t.length ≤ 1073741824) (hp3 : OkE Y0.Pq.length Y0.Tr) (Z1a : 0 ≤ Y4) (Z26 : Ya.length = (IntKind.wrap .i64 ((Y0.Pq.length : Int) * (Y0.Pq.length : Int))).toNat) (Z6R : (decide (Y4 < (Y0.Tr.length : Int))) = true) : ∀ (k : Nat) (Y5 : Int) (Yl : (List Bool)) (Z1u : 0 ≤ Y5) (Z3I : Yl.length = Ya.length) (hk : ((3 : Int) - Y5).toNat < k), Lp prog 0 (sub (bodyOf f66) [1, 1, 1, 0, 1, 0, 0, 1, 0, 0, 1, 1, 0, 0]) (Z47 Y0 Y4 Ya Y5 Yl) (Z39 Y0 Y4 Ya (Zo Y0 Y4 Ya k Y5 Yl)).1 (Z39 Y0 Y4 Ya (Zo Y0 Y4 Ya k Y5 Yl)).2 := by
 intro k
 induction k with
 | zero => intro Y5 Yl Z1u Z3I hk; exact absurd hk (Nat.not_lt_zero _)
 | succ k ih =>
  intro Y5 Yl Z1u Z3I hk
  cases YA : (decide (Y5 < 3)) with
  | true =>
   have YS := odt YA
   have YZ : (0 : Int) ≤ Y5 := (by assumption)
   have Y10 : Y5 < ((Y0.Tr.getD Y4.toNat default).length : Int) := (by ((have q := OkE.at (by assumption) Z1a (odt (by assumption)) Z1u (odt (by assumption)); omega)))
   have YT : (-9223372036854775808 : Int) ≤ (Y5 + 1) := (by omega)
   have YQ : (Y5 + 1) ≤ (9223372036854775807 : Int) := (by omega)
   have Y11 : (0 : Int) ≤ (Int.tmod (Y5 + 1) 3) := (by ((have q := OkE.at (by assumption) Z1a (odt (by assumption)) Z1u (odt (by assumption)); omega)))
   have Y15 : (Int.tmod (Y5 + 1) 3) < ((Y0.Tr.getD Y4.toNat default).length : Int) := (by ((have q := OkE.at (by assumption) Z1a (odt (by assumption)) Z1u (odt (by assumption)); omega)))
   have YW : (0 : Int) ≤ (IntKind.wrap .i64 ((IntKind.wrap .i64 ((Zz Y0 Y4 Y5) * (Y0.Pq.length : Int))) + (ZD Y0 Y4 Y5))) := (by ((have q := OkE.at (by assumption) Z1a (odt (by assumption)) Z1u (odt (by assumption)); have q2 := ix2F q.2.2.2.2.2.1 (Z4C q.2.2.2.1 q.2.2.2.2.1).1 (Z4C q.2.2.2.1 q.2.2.2.2.1).2 (Z4D q.2.2.2.1 q.2.2.2.2.1).1 (Z4D q.2.2.2.1 q.2.2.2.2.1).2; unfold Zz ZD; omega)))
   have Y13 : (IntKind.wrap .i64 ((IntKind.wrap .i64 ((Zz Y0 Y4 Y5) * (Y0.Pq.length : Int))) + (ZD Y0 Y4 Y5))) < (Yl.length : Int) := (by ((have q := OkE.at (by assumption) Z1a (odt (by assumption)) Z1u (odt (by assumption)); have q2 := ix2F q.2.2.2.2.2.1 (Z4C q.2.2.2.1 q.2.2.2.2.1).1 (Z4C q.2.2.2.1 q.2.2.2.2.1).2 (Z4D q.2.2.2.1 q.2.2.2.2.1).1 (Z4D q.2.2.2.1 q.2.2.2.2.1).2; unfold Zz ZD; omega)))
   have Y17 : (IntKind.wrap .i64 ((IntKind.wrap .i64 ((Zz Y0 Y4 Y5) * (Y0.Pq.length : Int))) + (ZD Y0 Y4 Y5))).toNat < Yl.length := (by omega)
   have e : Zo Y0 Y4 Ya (k + 1) Y5 Yl = (Zo Y0 Y4 Ya k (Y5 + 1) (Yl.set ((IntKind.wrap .i64 ((IntKind.wrap .i64 ((Zz Y0 Y4 Y5) * (Y0.Pq.length : Int))) + (ZD Y0 Y4 Y5))).toNat) true)) := by simp only [Zo, YA, cond_true]
   rw [e]
   exact nextS E0Ok Z3 [] Z3H [0] (⟨.ref (Gm.c Y0) 0 :: .any :: .nils :: .i .i64 (Y0.Pq.length : Int) :: .own 0 :: .i .i64 Y4 :: .sl ((Y0.Tr.getD Y4.toNat default).map (cI .i64)) :: .i .i64 (Y5 + 1) :: an 5 (.ref (Gm.c Y0) 0 :: .ref (Gm.c Y0) 0 :: .ref (Gm.c Y0) 0 :: .sl (Y0.Pq.map Gv.c) :: .i .i64 (Y0.Pq.length : Int) :: .i .i64 (Y0.Pq.length : Int) :: .i .i64 (Y0.Pq.length : Int) :: .i .i64 (IntKind.wrap .i64 ((Y0.Pq.length : Int) * (Y0.Pq.length : Int))) :: .own 0 :: .i .i64 Y4 :: .ref (Gm.c Y0) 0 :: .ref (Gm.c Y0) 0 :: .ref (Gm.c Y0) 1 :: .sl (Y0.Tr.map (cL (cI .i64))) :: .i .i64 (Y0.Tr.length : Int) :: .b (decide (Y4 < (Y0.Tr.length : Int))) :: .any :: .any :: .ref (Gm.c Y0) 0 :: .ref (Gm.c Y0) 0 :: .ref (Gm.c Y0) 1 :: .sl (Y0.Tr.map (cL (cI .i64))) :: .i .i64 Y4 :: .ref [.sl ((Y0.Tr.getD Y4.toNat default).map (cI .i64))] 0 :: .sl ((Y0.Tr.getD Y4.toNat default).map (cI .i64)) :: an 53 []), [.vec 4 1 ((Yl.map cB).set ((IntKind.wrap .i64 ((IntKind.wrap .i64 ((Zz Y0 Y4 Y5) * (Y0.Pq.length : Int))) + (ZD Y0 Y4 Y5))).toNat) [.b true]) false]⟩) (sB YA <| sG (cI .i64) (Y0.Tr.getD Y4.toNat default) Y5 YZ Y10 <| sI (Y5 + 1) YT YQ <| sC (show (3 : Int) ≠ 0 from (by decide)) <| sQ (Int.tmod (Y5 + 1) 3) <| sG (cI .i64) (Y0.Tr.getD Y4.toNat default) (Int.tmod (Y5 + 1) 3) Y11 Y15 <| sF (Z6l ((Y0.Tr.getD Y4.toNat default).getD Y5.toNat default) ((Y0.Tr.getD Y4.toNat default).getD (Int.tmod (Y5 + 1) 3).toNat default)) <| sW .i64 ((Zz Y0 Y4 Y5) * (Y0.Pq.length : Int)) <| sF (Z6m ((Y0.Tr.getD Y4.toNat default).getD Y5.toNat default) ((Y0.Tr.getD Y4.toNat default).getD (Int.tmod (Y5 + 1) 3).toNat default)) <| sW .i64 ((IntKind.wrap .i64 ((Zz Y0 Y4 Y5) * (Y0.Pq.length : Int))) + (ZD Y0 Y4 Y5)) <| sX cB Yl (IntKind.wrap .i64 ((IntKind.wrap .i64 ((Zz Y0 Y4 Y5) * (Y0.Pq.length : Int))) + (ZD Y0 Y4 Y5))) YW Y13 <| sC (maplt (c := cB) (l := Yl) Y17) <| sI (Y5 + 1) YT YQ <| sN) (by kernel_rfl) (by simp [Z47, cL, cI, cB]) (ih (Y5 + 1) (Yl.set ((IntKind.wrap .i64 ((IntKind.wrap .i64 ((Zz Y0 Y4 Y5) * (Y0.Pq.length : Int))) + (ZD Y0 Y4 Y5))).toNat) true) (show 0 ≤ (Y5 + 1) from (by omega)) (show (Yl.set ((IntKind.wrap .i64 ((IntKind.wrap .i64 ((Zz Y0 Y4 Y5) * (Y0.Pq.length : Int))) + (ZD Y0 Y4 Y5))).toNat) true).length = Ya.length from (by simp_all <;> omega)) (by omega))
  | false =>
   have YS := odf YA
   have e : Zo Y0 Y4 Ya (k + 1) Y5 Yl = Yl := by simp only [Zo, YA, cond_false]
   rw [e]
   exact outR (e := (.exit 2)) E0Ok Z3 [] Z4Y [0] (sB YA <| sN) (by kernel_rfl) (by intro h; cases h)
theorem Z4Z (Y0 : Gm) (Y4 : Int) (Ya : (List Bool)) : ∀ (k : Nat) (Y5 : Int) (Yl : (List Bool)) (hk : ((3 : Int) - Y5).toNat < k), (Zo Y0 Y4 Ya k Y5 Yl).length = Yl.length := by
  intro k
  induction k with
  | zero => intro Y5 Yl hk; exact absurd hk (Nat.not_lt_zero _)
  | succ k ih =>
    intro Y5 Yl hk
    cases YA : (decide (Y5 < 3)) with
    | true =>
      have e : Zo Y0 Y4 Ya (k + 1) Y5 Yl = (Zo Y0 Y4 Ya k (Y5 + 1) (Yl.set ((IntKind.wrap .i64 ((IntKind.wrap .i64 ((Zz Y0 Y4 Y5) * (Y0.Pq.length : Int))) + (ZD Y0 Y4 Y5))).toNat) true)) := by simp only [Zo, YA, cond_true]
      rw [e, ih (Y5 + 1) (Yl.set ((IntKind.wrap .i64 ((IntKind.wrap .i64 ((Zz Y0 Y4 Y5) * (Y0.Pq.length : Int))) + (ZD Y0 Y4 Y5))).toNat) true) (by simp_all <;> omega)]; simp
    | false =>
      have e : Zo Y0 Y4 Ya (k + 1) Y5 Yl = Yl := by simp only [Zo, YA, cond_false]
      first | (rw [e]; done) | (rw [e]; rfl)
def ZV (Y0 : Gm) (Y4 : Int) (Ya : (List Bool)) : (List Bool) := (Zo Y0 Y4 Ya (((3 : Int) - 0).toNat + 1) 0 Ya)
@[simp] theorem Z4m (Y0 : Gm) (Y4 : Int) (Ya : (List Bool)) : (ZV Y0 Y4 Ya).length = (Ya : (List Bool)).length := Z4Z Y0 Y4 Ya (((3 : Int) - 0).toNat + 1) 0 Ya (by exact Nat.lt_succ_self _)
def Zv (Y0 : Gm) : Nat → Int → (List Bool) → (List Bool)
  | 0, _, _ => default
  | k + 1, Y4, Ya => (cond (decide (Y4 < (Y0.Tr.length : Int)))
    (Zv Y0 k (Y4 + 1) (ZV Y0 Y4 Ya))
    Ya)
def Z3a (Y0 : Gm) (r : (List Bool)) : Ex × St := ((.exit 0), ⟨.ref (Gm.c Y0) 0 :: .any :: .nils :: .i .i64 (Y0.Pq.length : Int) :: .own 0 :: an 8 (.ref (Gm.c Y0) 0 :: .ref (Gm.c Y0) 0 :: .ref (Gm.c Y0) 0 :: .sl (Y0.Pq.map Gv.c) :: .i .i64 (Y0.Pq.length : Int) :: .i .i64 (Y0.Pq.length : Int) :: .i .i64 (Y0.Pq.length : Int) :: .i .i64 (IntKind.wrap .i64 ((Y0.Pq.length : Int) * (Y0.Pq.length : Int))) :: .own 0 :: an 69 []), [.vec 4 1 (r.map cB) false]⟩)
def Z48 (Y0 : Gm) (Y4 : Int) (Ya : (List Bool)) : St := ⟨.ref (Gm.c Y0) 0 :: .any :: .nils :: .i .i64 (Y0.Pq.length : Int) :: .own 0 :: .i .i64 Y4 :: an 7 (.ref (Gm.c Y0) 0 :: .ref (Gm.c Y0) 0 :: .ref (Gm.c Y0) 0 :: .sl (Y0.Pq.map Gv.c) :: .i .i64 (Y0.Pq.length : Int) :: .i .i64 (Y0.Pq.length : Int) :: .i .i64 (Y0.Pq.length : Int) :: .i .i64 (IntKind.wrap .i64 ((Y0.Pq.length : Int) * (Y0.Pq.length : Int))) :: .own 0 :: an 69 []), [.vec 4 1 (Ya.map cB) false]⟩
theorem Z5o (Y0 : Gm) (hp0 : Y0.Pq.length ≤ 1073741824) (hp1 : Y0.Tr.length ≤ 1073741824) (hp2 : ∀ t ∈ Y0.Tr, t.length ≤ 1073741824) (hp3 : OkE Y0.Pq.length Y0.Tr) : ∀ (k : Nat) (Y4 : Int) (Ya : (List Bool)) (Z1a : 0 ≤ Y4) (Z26 : Ya.length = (IntKind.wrap .i64 ((Y0.Pq.length : Int) * (Y0.Pq.length : Int))).toNat) (hk : ((Y0.Tr.length : Int) - Y4).toNat < k), Lp prog 0 (sub (bodyOf f66) [1, 1, 1, 0, 1, 0, 0]) (Z48 Y0 Y4 Ya) (Z3a Y0 (Zv Y0 k Y4 Ya)).1 (Z3a Y0 (Zv Y0 k Y4 Ya)).2 := by
 intro k
 induction k with
 | zero => intro Y4 Ya Z1a Z26 hk; exact absurd hk (Nat.not_lt_zero _)
 | succ k ih =>
  intro Y4 Ya Z1a Z26 hk
  have p {a C} (s : Scr a C) := sZ (cL (cI .i64)) Y0.Tr <| s
  cases Ye : (decide (Y4 < (Y0.Tr.length : Int))) with
  | true =>
   have Yo := odt Ye
   have Yt : (0 : Int) ≤ Y4 := by clear p; exact (by assumption)
   have Yu : Y4 < (Y0.Tr.length : Int) := by clear p; exact (by assumption)
   have Yy : (-9223372036854775808 : Int) ≤ (Y4 + 1) := by clear p; exact (by omega)
   have YC : (Y4 + 1) ≤ (9223372036854775807 : Int) := by clear p; exact (by omega)
   have e : Zv Y0 (k + 1) Y4 Ya = (Zv Y0 k (Y4 + 1) (ZV Y0 Y4 Ya)) := by simp only [Zv, Ye, cond_true]
   rw [e]
   exact nextR E0Ok Z3 [] (mR false [0, 1, 1, 4, 7, 9, 69]) [0] (ih (Y4 + 1) (ZV Y0 Y4 Ya) (show 0 ≤ (Y4 + 1) from (by omega)) (show (ZV Y0 Y4 Ya).length = (IntKind.wrap .i64 ((Y0.Pq.length : Int) * (Y0.Pq.length : Int))).toNat from (by simp_all <;> omega)) (by omega)) (p (sB Ye <| sG (cL (cI .i64)) Y0.Tr Y4 Yt Yu <| sL Z3H 1 (lp_val (Z39 Y0 Y4 Ya) (x := (ZV Y0 Y4 Ya)) (Z5n Y0 Y4 Ya hp0 hp1 hp2 hp3 Z1a Z26 Ye (((3 : Int) - 0).toNat + 1) 0 Ya (show 0 ≤ 0 from (by omega)) (show Ya.length = Ya.length from (by omega)) (Nat.lt_succ_self _)) rfl) <| sI (Y4 + 1) Yy YC <| sN)) (by kernel_rfl)
  | false =>
   have Yo := odf Ye
   have e : Zv Y0 (k + 1) Y4 Ya = Ya := by simp only [Zv, Ye, cond_false]
   rw [e]
   exact outR (e := (.exit 0)) E0Ok Z3 [] (mR false [0, 1, 1, 3, 8, 9, 69]) [0] (p (sB Ye <| sN)) (by kernel_rfl) (by intro h; cases h)
theorem Z50 (Y0 : Gm) : ∀ (k : Nat) (Y4 : Int) (Ya : (List Bool)) (hk : ((Y0.Tr.length : Int) - Y4).toNat < k), (Zv Y0 k Y4 Ya).length = Ya.length := by
  intro k
  induction k with
  | zero => intro Y4 Ya hk; exact absurd hk (Nat.not_lt_zero _)
  | succ k ih =>
    intro Y4 Ya hk
    cases Ye : (decide (Y4 < (Y0.Tr.length : Int))) with
    | true =>
      have e : Zv Y0 (k + 1) Y4 Ya = (Zv Y0 k (Y4 + 1) (ZV Y0 Y4 Ya)) := by simp only [Zv, Ye, cond_true]
      rw [e, ih (Y4 + 1) (ZV Y0 Y4 Ya) (by simp_all <;> omega)]; simp
    | false =>
      have e : Zv Y0 (k + 1) Y4 Ya = Ya := by simp only [Zv, Ye, cond_false]
      first | (rw [e]; done) | (rw [e]; rfl)
def Zg (Y0 : Gm) : (List Bool) := (Zv Y0 (((Y0.Tr.length : Int) - 0).toNat + 1) 0 (List.replicate (IntKind.wrap .i64 ((Y0.Pq.length : Int) * (Y0.Pq.length : Int))).toNat false))
@[simp] theorem Z4n (Y0 : Gm) : (Zg Y0).length = ((List.replicate (IntKind.wrap .i64 ((Y0.Pq.length : Int) * (Y0.Pq.length : Int))).toNat false) : (List Bool)).length := Z50 Y0 (((Y0.Tr.length : Int) - 0).toNat + 1) 0 (List.replicate (IntKind.wrap .i64 ((Y0.Pq.length : Int) * (Y0.Pq.length : Int))).toNat false) (by exact Nat.lt_succ_self _)
def Zw (Y0 : Gm) (Yg : Int) (Y9 : (List (List Int))) : Nat → Int → (List (List Int)) → (List (List Int))
  | 0, _, _ => default
  | k + 1, Yq, Y7 => (cond (decide (Yq < (Y0.Pq.length : Int)))
    (cond ((Zg Y0).getD ((IntKind.wrap .i64 ((IntKind.wrap .i64 (Yg * (Y0.Pq.length : Int))) + Yq)).toNat) default)
      (Zw Y0 Yg Y9 k (Yq + 1) (Y7 ++ [[Yg, Yq]]))
      (Zw Y0 Yg Y9 k (Yq + 1) Y7))
    Y7)
def Z3b (Y0 : Gm) (Yg : Int) (Y9 : (List (List Int))) (r : (List (List Int))) : Ex × St := ((.exit 6), ⟨.ref (Gm.c Y0) 0 :: .any :: .nils :: .i .i64 (Y0.Pq.length : Int) :: .own 0 :: an 5 (.own 1 :: .i .i64 Yg :: .any :: .ref (Gm.c Y0) 0 :: .ref (Gm.c Y0) 0 :: .ref (Gm.c Y0) 0 :: .sl (Y0.Pq.map Gv.c) :: .i .i64 (Y0.Pq.length : Int) :: .i .i64 (Y0.Pq.length : Int) :: .i .i64 (Y0.Pq.length : Int) :: .i .i64 (IntKind.wrap .i64 ((Y0.Pq.length : Int) * (Y0.Pq.length : Int))) :: .own 0 :: an 42 (.i .i64 Yg :: .i .i64 (Y0.Pq.length : Int) :: .b (decide (Yg < (Y0.Pq.length : Int))) :: .any :: .any :: .i .i64 Yg :: .i .i64 (Yg + 1) :: an 20 [])), [.vec 4 1 ((Zg Y0).map cB) false, .nest 79 (r.map fun l => l.map (cI .i64)) false]⟩)
def Z49 (Y0 : Gm) (Yg : Int) (Y9 : (List (List Int))) (Yq : Int) (Y7 : (List (List Int))) : St := ⟨.ref (Gm.c Y0) 0 :: .any :: .nils :: .i .i64 (Y0.Pq.length : Int) :: .own 0 :: an 5 (.own 1 :: .i .i64 Yg :: .i .i64 Yq :: .ref (Gm.c Y0) 0 :: .ref (Gm.c Y0) 0 :: .ref (Gm.c Y0) 0 :: .sl (Y0.Pq.map Gv.c) :: .i .i64 (Y0.Pq.length : Int) :: .i .i64 (Y0.Pq.length : Int) :: .i .i64 (Y0.Pq.length : Int) :: .i .i64 (IntKind.wrap .i64 ((Y0.Pq.length : Int) * (Y0.Pq.length : Int))) :: .own 0 :: an 42 (.i .i64 Yg :: .i .i64 (Y0.Pq.length : Int) :: .b (decide (Yg < (Y0.Pq.length : Int))) :: .any :: .any :: .i .i64 Yg :: .i .i64 (Yg + 1) :: an 20 [])), [.vec 4 1 ((Zg Y0).map cB) false, .nest 79 (Y7.map fun l => l.map (cI .i64)) false]⟩
def Z2H : List Bool := (mR false [0, 1, 1, 3, 5, 12, 42, 3, 2, 2, 20])
def Z51 : List Bool := (mR false [0, 1, 1, 3, 5, 2, 1, 9, 42, 3, 2, 2, 20])
set_option maxHeartbeats 1000000 in
theorem Z5p (Y0 : Gm) (Yg : Int) (Y9 : (List (List Int))) (hp0 : Y0.Pq.length ≤ 1073741824) (hp1 : Y0.Tr.length ≤ 1073741824) (hp2 : ∀ t ∈ Y0.Tr, t.length ≤ 1073741824) (hp3 : OkE Y0.Pq.length Y0.Tr) (Z27 : 0 ≤ Yg) (Z28 : (Y9.length : Int) ≤ 64 * Yg) (Z29 : (decide (Yg < (Y0.Pq.length : Int))) = true) : ∀ (k : Nat) (Yq : Int) (Y7 : (List (List Int))) (Z3J : Yg < Yq) (Z3K : (Y7.length : Int) ≤ (Y9.length : Int) + Yq) (hk : ((Y0.Pq.length : Int) - Yq).toNat < k), Lp prog 0 (sub (bodyOf f66) [1, 1, 1, 1, 1, 0, 1, 0, 0, 1, 0, 0, 1, 0, 0]) (Z49 Y0 Yg Y9 Yq Y7) (Z3b Y0 Yg Y9 (Zw Y0 Yg Y9 k Yq Y7)).1 (Z3b Y0 Yg Y9 (Zw Y0 Yg Y9 k Yq Y7)).2 := by
 intro k
 induction k with
 | zero => intro Yq Y7 Z3J Z3K hk; exact absurd hk (Nat.not_lt_zero _)
 | succ k ih =>
  intro Yq Y7 Z3J Z3K hk
  cases YA : (decide (Yq < (Y0.Pq.length : Int))) with
  | true =>
   have YS := odt YA
   have YZ : (0 : Int) ≤ (IntKind.wrap .i64 ((IntKind.wrap .i64 (Yg * (Y0.Pq.length : Int))) + Yq)) := (by ((have := hp3.1; have g4 := odt Z29; (have q2 := ix2F (n := (Y0.Pq.length : Int)) (a := Yg) (b := Yq) (by omega) (by omega) (by omega) (by omega) (by omega); omega))))
   have Y10 : (IntKind.wrap .i64 ((IntKind.wrap .i64 (Yg * (Y0.Pq.length : Int))) + Yq)) < ((Zg Y0).length : Int) := (by ((have := hp3.1; have g4 := odt Z29; (have q2 := ix2F (n := (Y0.Pq.length : Int)) (a := Yg) (b := Yq) (by omega) (by omega) (by omega) (by omega) (by omega); (simp only [Z4n, List.length_replicate]; omega)))))
   have YT : (IntKind.wrap .i64 ((IntKind.wrap .i64 (Yg * (Y0.Pq.length : Int))) + Yq)).toNat < (Zg Y0).length := (by omega)
   have p {a C} (s : Scr a C) := sB YA <| sW .i64 (Yg * (Y0.Pq.length : Int)) <| sW .i64 ((IntKind.wrap .i64 (Yg * (Y0.Pq.length : Int))) + Yq) <| sX cB (Zg Y0) (IntKind.wrap .i64 ((IntKind.wrap .i64 (Yg * (Y0.Pq.length : Int))) + Yq)) YZ Y10 <| sV cB (Zg Y0) ((IntKind.wrap .i64 ((IntKind.wrap .i64 (Yg * (Y0.Pq.length : Int))) + Yq)).toNat) YT <| s
   cases YI : ((Zg Y0).getD ((IntKind.wrap .i64 ((IntKind.wrap .i64 (Yg * (Y0.Pq.length : Int))) + Yq)).toNat) default) with
   | true =>
    have YQ : Y7.length + [[Yg, Yq]].length ≤ 1073741824 := by clear p; exact (by ((have := hp3.1; have g4 := odt Z29; (simp only [List.length_append, List.length_cons, List.length_nil]; omega))))
    have Y11 : (-9223372036854775808 : Int) ≤ (Yq + 1) := by clear p; exact (by omega)
    have Y15 : (Yq + 1) ≤ (9223372036854775807 : Int) := by clear p; exact (by omega)
    have e : Zw Y0 Yg Y9 (k + 1) Yq Y7 = (Zw Y0 Yg Y9 k (Yq + 1) (Y7 ++ [[Yg, Yq]])) := by simp only [Zw, YA, YI, cond_true]
    rw [e]
    exact nextS E0Ok Z3 [] Z2H [0, 1] (⟨.ref (Gm.c Y0) 0 :: .any :: .nils :: .i .i64 (Y0.Pq.length : Int) :: .own 0 :: an 5 (.own 1 :: .i .i64 Yg :: .i .i64 (Yq + 1) :: .ref (Gm.c Y0) 0 :: .ref (Gm.c Y0) 0 :: .ref (Gm.c Y0) 0 :: .sl (Y0.Pq.map Gv.c) :: .i .i64 (Y0.Pq.length : Int) :: .i .i64 (Y0.Pq.length : Int) :: .i .i64 (Y0.Pq.length : Int) :: .i .i64 (IntKind.wrap .i64 ((Y0.Pq.length : Int) * (Y0.Pq.length : Int))) :: .own 0 :: an 42 (.i .i64 Yg :: .i .i64 (Y0.Pq.length : Int) :: .b (decide (Yg < (Y0.Pq.length : Int))) :: .any :: .any :: .i .i64 Yg :: .i .i64 (Yg + 1) :: an 20 [])), [.vec 4 1 ((Zg Y0).map cB) false, .nest 79 ((Y7.map fun l => l.map (cI .i64)) ++ [([[.i .i64 Yg], [.i .i64 Yq]] : List (List AV))]) false]⟩) (p (sB YI <| sC (show (Y7.map fun l => l.map (cI .i64)).length + [([[.i .i64 Yg], [.i .i64 Yq]] : List (List AV))].length ≤ 1073741824 from (by simpa using YQ)) <| sI (Yq + 1) Y11 Y15 <| sN)) (by kernel_rfl) (by simp [Z49, cL, cI, cB]) (ih (Yq + 1) (Y7 ++ [[Yg, Yq]]) (show Yg < (Yq + 1) from (by omega)) (show ((Y7 ++ [[Yg, Yq]]).length : Int) ≤ (Y9.length : Int) + (Yq + 1) from (by ((have := hp3.1; have g4 := odt Z29; (simp only [List.length_append, List.length_cons, List.length_nil]; omega))))) (by omega))
   | false =>
    have YQ : (-9223372036854775808 : Int) ≤ (Yq + 1) := by clear p; exact (by omega)
    have Y11 : (Yq + 1) ≤ (9223372036854775807 : Int) := by clear p; exact (by omega)
    have e : Zw Y0 Yg Y9 (k + 1) Yq Y7 = (Zw Y0 Yg Y9 k (Yq + 1) Y7) := by simp only [Zw, YA, YI, cond_true, cond_false]
    rw [e]
    exact nextR E0Ok Z3 [] Z2H [0, 1] (ih (Yq + 1) Y7 (show Yg < (Yq + 1) from (by omega)) (show (Y7.length : Int) ≤ (Y9.length : Int) + (Yq + 1) from (by omega)) (by omega)) (p (sB YI <| sI (Yq + 1) YQ Y11 <| sN)) (by kernel_rfl)
  | false =>
   have YS := odf YA
   have e : Zw Y0 Yg Y9 (k + 1) Yq Y7 = Y7 := by simp only [Zw, YA, cond_false]
   rw [e]
   exact outR (e := (.exit 6)) E0Ok Z3 [] Z51 [0, 1] (sB YA <| sN) (by kernel_rfl) (by intro h; cases h)
end Go.Ab
