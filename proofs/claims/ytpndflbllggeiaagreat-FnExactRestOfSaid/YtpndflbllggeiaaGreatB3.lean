/- The functions of this seat as plain Lean, and that the program's are these. Printed by a program of the prover's own. -/
import Derived.Test.YtpndflbllggeiaaGreatB2
set_option linter.unusedVariables false
set_option linter.unusedSimpArgs false
set_option maxRecDepth 100000
namespace Go.Ab
open Go.RowKit Go.Proofs.Tryz
def Z1w (list_0 : (List Int)) (n_1 : Int) : Nat → Int → (Unit) ⊕ (Unit)
  | 0, _ => .inl default
  | k + 1, i_l0 => (cond (decide (i_l0 < (list_0.length : Int)))
    (cond ((list_0.getD i_l0.toNat default) == n_1)
      (.inl ())
      (Z1w list_0 n_1 k (i_l0 + 1)))
    (.inr ()))
def Z4a (list_0 : (List Int)) (n_1 : Int) : (Unit) ⊕ (Unit) → Ex × St
  | .inl r => (.ret, ⟨an 4 (.b true :: an 13 []), []⟩)
  | .inr r => ((.exit 0), ⟨an 18 [], []⟩)
def Z8Z (list_0 : (List Int)) (n_1 : Int) (i_l0 : Int) : St := ⟨.sl (list_0.map (cI .i64)) :: .i .i64 n_1 :: .any :: .any :: .any :: .i .i64 i_l0 :: an 12 [], []⟩
theorem Z6I (list_0 : (List Int)) (n_1 : Int) (hp0 : list_0.length ≤ 1073741824) : ∀ (k : Nat) (i_l0 : Int) (Z6n : 0 ≤ i_l0) (hk : ((list_0.length : Int) - i_l0).toNat < k), Lp prog 0 (sub (bodyOf f127) [1, 0, 1, 0, 0]) (Z8Z list_0 n_1 i_l0) (Z4a list_0 n_1 (Z1w list_0 n_1 k i_l0)).1 (Z4a list_0 n_1 (Z1w list_0 n_1 k i_l0)).2 := by
 intro k
 induction k with
 | zero => intro i_l0 Z6n hk; exact absurd hk (Nat.not_lt_zero _)
 | succ k ih =>
  intro i_l0 Z6n hk
  have p {a C} (s : Scr a C) := sZ (cI .i64) list_0 <| s
  cases h_0 : (decide (i_l0 < (list_0.length : Int))) with
  | true =>
   have gh_0 := of_decide_eq_true h_0
   have y_0 : (0 : Int) ≤ i_l0 := by clear p; exact (by assumption)
   have y_1 : i_l0 < (list_0.length : Int) := by clear p; exact (by assumption)
   have q {a C} (s : Scr a C) := p (sB h_0 <| sG (cI .i64) list_0 i_l0 y_0 y_1 <| s)
   clear p
   cases h_1 : ((list_0.getD i_l0.toNat default) == n_1) with
   | true =>
    have gh_1 := eq_of_beq h_1
    have e : Z1w list_0 n_1 (k + 1) i_l0 = (.inl ()) := by simp only [Z1w, h_0, h_1, cond_true]
    rw [e]
    exact outR (e := .ret) E0Ok Z3 [] (mR false [4, 1, 13]) [] (q (sB h_1 <| sN)) (by kernel_rfl) (by intro h; cases h)
   | false =>
    have gh_1 := ne_of_beq_false h_1
    have y_2 : (-9223372036854775808 : Int) ≤ (i_l0 + 1) := by clear q; exact (by omega)
    have y_3 : (i_l0 + 1) ≤ (9223372036854775807 : Int) := by clear q; exact (by omega)
    have e : Z1w list_0 n_1 (k + 1) i_l0 = (Z1w list_0 n_1 k (i_l0 + 1)) := by simp only [Z1w, h_0, h_1, cond_true, cond_false]
    rw [e]
    exact nextR E0Ok Z3 [] (mR false [0, 2, 3, 1, 12]) [] (ih (i_l0 + 1) (show 0 ≤ (i_l0 + 1) from (by omega)) (by omega)) (q (sB h_1 <| sI (i_l0 + 1) y_2 y_3 <| sN)) (by kernel_rfl)
  | false =>
   have gh_0 := of_decide_eq_false h_0
   have e : Z1w list_0 n_1 (k + 1) i_l0 = (.inr ()) := by simp only [Z1w, h_0, cond_false]
   rw [e]
   exact outR (e := (.exit 0)) E0Ok Z3 [] (mR false [18]) [] (p (sB h_0 <| sN)) (by kernel_rfl) (by intro h; cases h)
def Z3e (list_0 : (List Int)) (n_1 : Int) : (Unit) ⊕ (Unit) := (Z1w list_0 n_1 (((list_0.length : Int) - 0).toNat + 1) 0)
def Z12 (list_0 : (List Int)) (n_1 : Int) : Bool := (match (Z3e list_0 n_1) with
  | .inl r1 => true
  | .inr r1 => false)
theorem Z7y (list_0 : (List Int)) (n_1 : Int) (hp0 : list_0.length ≤ 1073741824)  : Fn prog 127 [.sl (list_0.map (cI .i64)), .i .i64 n_1] (.b (Z12 list_0 n_1)) [] := by
 cases h0 : (Z3e list_0 n_1) with
 | inl r1 =>
  refine fnS E0Ok Z3 (c := bodyOf f127) [] (.b true) [] func127 (sL (mR false [0, 2, 3, 1, 12]) 0 (lp_val (Z4a list_0 n_1) (x := (Z3e list_0 n_1)) (Z6I list_0 n_1 hp0 (((list_0.length : Int) - 0).toNat + 1) 0 (show 0 ≤ 0 from (by omega)) (Nat.lt_succ_self _)) h0) <| sK [] sN) rfl (by kernel_rfl) (by kernel_rfl) rfl ?_ ?_
  · simp only [Z12, h0]
  · rfl
 | inr r1 =>
  refine fnS E0Ok Z3 (c := bodyOf f127) [] (.b false) [] func127 (sL (mR false [0, 2, 3, 1, 12]) 0 (lp_val (Z4a list_0 n_1) (x := (Z3e list_0 n_1)) (Z6I list_0 n_1 hp0 (((list_0.length : Int) - 0).toNat + 1) 0 (show 0 ≤ 0 from (by omega)) (Nat.lt_succ_self _)) h0) <| sK [] sN) rfl (by kernel_rfl) (by kernel_rfl) rfl ?_ ?_
  · simp only [Z12, h0]
  · rfl
def ZL (t_0 : (List Int)) (i_1 : Int) (j_2 : Int) : Nat → Int → (Int) ⊕ (Unit)
  | 0, _ => .inl default
  | k + 1, x_l0 => (cond (decide (x_l0 < (t_0.length : Int)))
    (cond ((t_0.getD x_l0.toNat default) != i_1)
      (cond ((t_0.getD x_l0.toNat default) != j_2)
        (.inl (t_0.getD x_l0.toNat default))
        (ZL t_0 i_1 j_2 k (x_l0 + 1)))
      (ZL t_0 i_1 j_2 k (x_l0 + 1)))
    (.inr ()))
def Z3R (t_0 : (List Int)) (i_1 : Int) (j_2 : Int) : (Int) ⊕ (Unit) → Ex × St
  | .inl r => (.ret, ⟨an 6 (.i .i64 r :: an 35 []), []⟩)
  | .inr r => ((.exit 0), ⟨.sl (t_0.map (cI .i64)) :: .i .i64 i_1 :: .i .i64 j_2 :: an 5 (.sl (t_0.map (cI .i64)) :: .i .i64 i_1 :: .b (Z12 t_0 i_1) :: .b (!(Z12 t_0 i_1)) :: .b (!(Z12 t_0 i_1)) :: .sl (t_0.map (cI .i64)) :: .i .i64 j_2 :: .b (Z12 t_0 j_2) :: .b (!(Z12 t_0 j_2)) :: .b (!(Z12 t_0 j_2)) :: .sl (t_0.map (cI .i64)) :: an 23 []), []⟩)
def Z89 (t_0 : (List Int)) (i_1 : Int) (j_2 : Int) (x_l0 : Int) : St := ⟨.sl (t_0.map (cI .i64)) :: .i .i64 i_1 :: .i .i64 j_2 :: an 5 (.sl (t_0.map (cI .i64)) :: .i .i64 i_1 :: .b (Z12 t_0 i_1) :: .b (!(Z12 t_0 i_1)) :: .b (!(Z12 t_0 i_1)) :: .sl (t_0.map (cI .i64)) :: .i .i64 j_2 :: .b (Z12 t_0 j_2) :: .b (!(Z12 t_0 j_2)) :: .b (!(Z12 t_0 j_2)) :: .sl (t_0.map (cI .i64)) :: .i .i64 (t_0.length : Int) :: .i .i64 x_l0 :: an 21 []), []⟩
theorem Z6o (t_0 : (List Int)) (i_1 : Int) (j_2 : Int) (hp0 : t_0.length ≤ 1073741824) : ∀ (k : Nat) (x_l0 : Int) (Z5E : 0 ≤ x_l0) (hk : ((t_0.length : Int) - x_l0).toNat < k), Lp prog 0 (sub (bodyOf f138) [1, 1, 0, 1, 0, 0]) (Z89 t_0 i_1 j_2 x_l0) (Z3R t_0 i_1 j_2 (ZL t_0 i_1 j_2 k x_l0)).1 (Z3R t_0 i_1 j_2 (ZL t_0 i_1 j_2 k x_l0)).2 := by
 intro k
 induction k with
 | zero => intro x_l0 Z5E hk; exact absurd hk (Nat.not_lt_zero _)
 | succ k ih =>
  intro x_l0 Z5E hk
  cases h_0 : (decide (x_l0 < (t_0.length : Int))) with
  | true =>
   have gh_0 := of_decide_eq_true h_0
   have y_0 : (0 : Int) ≤ x_l0 := (by assumption)
   have y_1 : x_l0 < (t_0.length : Int) := (by assumption)
   have p {a C} (s : Scr a C) := sB h_0 <| sG (cI .i64) t_0 x_l0 y_0 y_1 <| s
   cases h_1 : ((t_0.getD x_l0.toNat default) != i_1) with
   | true =>
    have gh_1 := bne_iff_ne.1 h_1
    have q {a C} (s : Scr a C) := p (sB h_1 <| sB h_1 <| sB h_1 <| sG (cI .i64) t_0 x_l0 y_0 y_1 <| sB h_1 <| sB h_1 <| sB h_1 <| sB h_1 <| s)
    clear p
    cases h_2 : ((t_0.getD x_l0.toNat default) != j_2) with
    | true =>
     have gh_2 := bne_iff_ne.1 h_2
     have e : ZL t_0 i_1 j_2 (k + 1) x_l0 = (.inl (t_0.getD x_l0.toNat default)) := by simp only [ZL, h_0, h_1, h_2, cond_true]
     rw [e]
     exact outR (e := .ret) E0Ok Z3 [] (mR false [6, 1, 35]) [] (q (sB h_2 <| sG (cI .i64) t_0 x_l0 y_0 y_1 <| sN)) (by kernel_rfl) (by intro h; cases h)
    | false =>
     have gh_2 := bne_eq_false_iff_eq.1 h_2
     have y_2 : (-9223372036854775808 : Int) ≤ (x_l0 + 1) := by clear q; exact (by omega)
     have y_3 : (x_l0 + 1) ≤ (9223372036854775807 : Int) := by clear q; exact (by omega)
     have e : ZL t_0 i_1 j_2 (k + 1) x_l0 = (ZL t_0 i_1 j_2 k (x_l0 + 1)) := by simp only [ZL, h_0, h_1, h_2, cond_true, cond_false]
     rw [e]
     exact nextR E0Ok Z3 [] (mR false [0, 3, 5, 13, 21]) [] (ih (x_l0 + 1) (show 0 ≤ (x_l0 + 1) from (by omega)) (by omega)) (q (sB h_2 <| sI (x_l0 + 1) y_2 y_3 <| sN)) (by kernel_rfl)
   | false =>
    have gh_1 := bne_eq_false_iff_eq.1 h_1
    have y_2 : (-9223372036854775808 : Int) ≤ (x_l0 + 1) := by clear p; exact (by omega)
    have y_3 : (x_l0 + 1) ≤ (9223372036854775807 : Int) := by clear p; exact (by omega)
    have e : ZL t_0 i_1 j_2 (k + 1) x_l0 = (ZL t_0 i_1 j_2 k (x_l0 + 1)) := by simp only [ZL, h_0, h_1, cond_true, cond_false]
    rw [e]
    exact nextR E0Ok Z3 [] (mR false [0, 3, 5, 13, 21]) [] (ih (x_l0 + 1) (show 0 ≤ (x_l0 + 1) from (by omega)) (by omega)) (p (sB h_1 <| sB h_1 <| sB h_1 <| sB h_1 <| sB h_1 <| sB h_1 <| sB h_1 <| sB (show false = false from rfl) <| sI (x_l0 + 1) y_2 y_3 <| sN)) (by kernel_rfl)
  | false =>
   have gh_0 := of_decide_eq_false h_0
   have e : ZL t_0 i_1 j_2 (k + 1) x_l0 = (.inr ()) := by simp only [ZL, h_0, cond_false]
   rw [e]
   exact outR (e := (.exit 0)) E0Ok Z3 [] (mR false [0, 3, 5, 11, 23]) [] (sB h_0 <| sN) (by kernel_rfl) (by intro h; cases h)
def Z36 (t_0 : (List Int)) (i_1 : Int) (j_2 : Int) : (Int) ⊕ (Unit) := (ZL t_0 i_1 j_2 (((t_0.length : Int) - 0).toNat + 1) 0)
def Z2l (t_0 : (List Int)) (i_1 : Int) (j_2 : Int) : Int := (cond (Z12 t_0 i_1)
  (cond (Z12 t_0 j_2)
    (match (Z36 t_0 i_1 j_2) with
      | .inl r3 => r3
      | .inr r3 => (-1))
    (-1))
  (-1))
theorem Zar {x y z a b : Int} (n1 : x ≠ y) (n2 : y ≠ z) (n3 : x ≠ z) (hab : a ≠ b) : Z2l [x, y, z] a b = if tHas [x, y, z] a b = true then thd [x, y, z] a b else -1 := by
  have hs : ∀ c : Int, Z12 [x, y, z] c = (x == c || (y == c || z == c)) := by
    intro c
    unfold Z12 Z3e
    show (match Z1w [x, y, z] c 4 0 with | .inl r1 => true | .inr r1 => false) = _
    simp only [Z1w, List.length_cons, List.length_nil]
    cases h1 : (x == c) <;> cases h2 : (y == c) <;> cases h3 : (z == c) <;> simp [h1, h2, h3]
  unfold Z2l
  rw [hs, hs]
  by_cases hh : tHas [x, y, z] a b = true
  · rw [if_pos hh]
    have hq := hh
    unfold tHas at hq
    simp only [List.getD_cons_zero, List.getD_cons_succ, Bool.and_eq_true] at hq
    rw [hq.1, hq.2, cond_true, cond_true]
    unfold Z36
    show (match ZL [x, y, z] a b 4 0 with | .inl r3 => r3 | .inr r3 => (-1)) = _
    simp only [ZL, List.length_cons, List.length_nil]
    rcases tHas_eq n1 n2 n3 hab hh with ⟨h0, h1, h2, h3, h4⟩ | ⟨h0, h1, h2, h3, h4⟩ | ⟨h0, h1, h2, h3, h4⟩
    · rw [h0]; simp [bne_iff_ne.2 h1, bne_iff_ne.2 h2]
    · rw [h0]
      rcases h3 with rfl | rfl
      · simp [bne_iff_ne.2 h1, bne_iff_ne.2 h2]
      · simp [bne_iff_ne.2 h1, bne_iff_ne.2 h2]
    · rw [h0]
      rcases h3 with rfl | rfl <;> rcases h4 with rfl | rfl <;> first | exact absurd rfl n1 | simp [bne_iff_ne.2 h1, bne_iff_ne.2 h2]
  · rw [if_neg hh]
    unfold tHas at hh
    simp only [List.getD_cons_zero, List.getD_cons_succ, Bool.and_eq_true, not_and, Bool.not_eq_true] at hh
    cases h1 : (x == a || (y == a || z == a)) with
    | false => rfl
    | true => rw [hh h1]; rfl
theorem Z9k (t_0 : (List Int)) (i_1 : Int) (j_2 : Int) (hp0 : t_0.length ≤ 1073741824)  : Fn prog 138 [.sl (t_0.map (cI .i64)), .i .i64 i_1, .i .i64 j_2] (.i .i64 (Z2l t_0 i_1 j_2)) [] := by
 have p {a C} (s : Scr a C) := sF (Z7y t_0 i_1 hp0) <| s
 cases h0 : (Z12 t_0 i_1) with
 | true =>
  have q {a C} (s : Scr a C) := p (sB' h0 <| sB' h0 <| sB' h0 <| sF (Z7y t_0 j_2 hp0) <| sB' h0 <| sB' h0 <| s)
  clear p
  cases h1 : (Z12 t_0 j_2) with
  | true =>
   have p {a C} (s : Scr a C) := q (sB' h1 <| sZ (cI .i64) t_0 <| s)
   clear q
   cases h2 : (Z36 t_0 i_1 j_2) with
   | inl r3 =>
    refine fnS E0Ok Z3 (c := bodyOf f138) [] (.i .i64 r3) [] func138 (p (sL (mR false [0, 3, 5, 13, 21]) 0 (lp_val (Z3R t_0 i_1 j_2) (x := (Z36 t_0 i_1 j_2)) (Z6o t_0 i_1 j_2 hp0 (((t_0.length : Int) - 0).toNat + 1) 0 (show 0 ≤ 0 from (by omega)) (Nat.lt_succ_self _)) h2) <| sK [] sN)) rfl (by kernel_rfl) (by kernel_rfl) rfl ?_ ?_
    · simp only [Z2l, h0, h1, h2, cond_true]
    · rfl
   | inr r3 =>
    refine fnS E0Ok Z3 (c := bodyOf f138) [] (.i .i64 (-1)) [] func138 (p (sL (mR false [0, 3, 5, 13, 21]) 0 (lp_val (Z3R t_0 i_1 j_2) (x := (Z36 t_0 i_1 j_2)) (Z6o t_0 i_1 j_2 hp0 (((t_0.length : Int) - 0).toNat + 1) 0 (show 0 ≤ 0 from (by omega)) (Nat.lt_succ_self _)) h2) <| sK [] sN)) rfl (by kernel_rfl) (by kernel_rfl) rfl ?_ ?_
    · simp only [Z2l, h0, h1, h2, cond_true]
    · rfl
  | false =>
   refine fnS E0Ok Z3 (c := bodyOf f138) [] (.i .i64 (-1)) [] func138 (q (sB' h1 <| sK [] sN)) rfl (by kernel_rfl) (by kernel_rfl) rfl ?_ ?_
   · simp only [Z2l, h0, h1, cond_true, cond_false]
   · rfl
 | false =>
  refine fnS E0Ok Z3 (c := bodyOf f138) [] (.i .i64 (-1)) [] func138 (p (sB' h0 <| sB' h0 <| sB' h0 <| sB' h0 <| sB' h0 <| sB (show true = true from rfl) <| sK [] sN)) rfl (by kernel_rfl) (by kernel_rfl) rfl ?_ ?_
  · simp only [Z2l, h0, cond_false]
  · rfl
def Z14 (m_0 : GMesh) (x_l0 : Int) (x_l0_1 : Int) : Int := (Z2l (m_0.Triangles.getD x_l0_1.toNat default) (((Z4 m_0).getD x_l0.toNat default).getD 0 default) (((Z4 m_0).getD x_l0.toNat default).getD 1 default))
def ZX (m_0 : GMesh) (x_l0 : Int) (r0_l1 : (List (List Int))) : Nat → Int → (List Int) → (List Int)
  | 0, _, _ => default
  | k + 1, x_l0_1, r2_l1 => (cond (decide (x_l0_1 < (m_0.Triangles.length : Int)))
    (cond (decide ((Z14 m_0 x_l0 x_l0_1) ≥ 0))
      (ZX m_0 x_l0 r0_l1 k (x_l0_1 + 1) (r2_l1 ++ [(Z14 m_0 x_l0 x_l0_1)]))
      (ZX m_0 x_l0 r0_l1 k (x_l0_1 + 1) r2_l1))
    r2_l1)
def Z4l (m_0 : GMesh) (x_l0 : Int) (r0_l1 : (List (List Int))) (r : (List Int)) : Ex × St := ((.exit 2), ⟨.ref (GMesh.cells m_0) 0 :: .any :: .nils :: .own 0 :: .own 1 :: .i .i64 x_l0 :: .i .i64 (((Z4 m_0).getD x_l0.toNat default).getD 0 default) :: .i .i64 (((Z4 m_0).getD x_l0.toNat default).getD 1 default) :: .own 2 :: .any :: .any :: .any :: .ref (GMesh.cells m_0) 0 :: .own 1 :: .own 1 :: .i .i64 ((Z4 m_0).length : Int) :: .i .i64 x_l0 :: .b (decide (x_l0 < ((Z4 m_0).length : Int))) :: .i .i64 x_l0 :: .own 1 :: .i .i64 x_l0 :: .ptr 1 x_l0.toNat 0 :: .inn 1 x_l0.toNat :: .ipt 1 x_l0.toNat 0 :: .i .i64 (((Z4 m_0).getD x_l0.toNat default).getD 0 default) :: .own 1 :: .i .i64 x_l0 :: .ptr 1 x_l0.toNat 0 :: .inn 1 x_l0.toNat :: .ipt 1 x_l0.toNat 1 :: .i .i64 (((Z4 m_0).getD x_l0.toNat default).getD 1 default) :: .i .i64 (((Z4 m_0).getD x_l0.toNat default).getD 0 default) :: .i .i64 (((Z4 m_0).getD x_l0.toNat default).getD 1 default) :: .any :: .ref (GMesh.cells m_0) 0 :: .ref (GMesh.cells m_0) 0 :: .ref (GMesh.cells m_0) 1 :: .sl (m_0.Triangles.map (cL (cI .i64))) :: .i .i64 (m_0.Triangles.length : Int) :: an 29 [], [.nest 49 (r0_l1.map fun l => l.map (cI .i64)) false, .nest 49 ((Z4 m_0).map fun l => l.map (cI .i64)) false, .vec 2 1 (r.map (cI .i64)) false]⟩)
def Z61 (m_0 : GMesh) (x_l0 : Int) (r0_l1 : (List (List Int))) (x_l0_1 : Int) (r2_l1 : (List Int)) : St := ⟨.ref (GMesh.cells m_0) 0 :: .any :: .nils :: .own 0 :: .own 1 :: .i .i64 x_l0 :: .i .i64 (((Z4 m_0).getD x_l0.toNat default).getD 0 default) :: .i .i64 (((Z4 m_0).getD x_l0.toNat default).getD 1 default) :: .own 2 :: .any :: .any :: .any :: .ref (GMesh.cells m_0) 0 :: .own 1 :: .own 1 :: .i .i64 ((Z4 m_0).length : Int) :: .i .i64 x_l0 :: .b (decide (x_l0 < ((Z4 m_0).length : Int))) :: .i .i64 x_l0 :: .own 1 :: .i .i64 x_l0 :: .ptr 1 x_l0.toNat 0 :: .inn 1 x_l0.toNat :: .ipt 1 x_l0.toNat 0 :: .i .i64 (((Z4 m_0).getD x_l0.toNat default).getD 0 default) :: .own 1 :: .i .i64 x_l0 :: .ptr 1 x_l0.toNat 0 :: .inn 1 x_l0.toNat :: .ipt 1 x_l0.toNat 1 :: .i .i64 (((Z4 m_0).getD x_l0.toNat default).getD 1 default) :: .i .i64 (((Z4 m_0).getD x_l0.toNat default).getD 0 default) :: .i .i64 (((Z4 m_0).getD x_l0.toNat default).getD 1 default) :: .any :: .ref (GMesh.cells m_0) 0 :: .ref (GMesh.cells m_0) 0 :: .ref (GMesh.cells m_0) 1 :: .sl (m_0.Triangles.map (cL (cI .i64))) :: .i .i64 (m_0.Triangles.length : Int) :: .i .i64 x_l0_1 :: an 28 [], [.nest 49 (r0_l1.map fun l => l.map (cI .i64)) false, .nest 49 ((Z4 m_0).map fun l => l.map (cI .i64)) false, .vec 2 1 (r2_l1.map (cI .i64)) false]⟩
def Z40 : List Bool := (mR false [0, 1, 1, 7, 3, 21, 1, 6, 28])
def Z70 : List Bool := (mR false [0, 1, 1, 7, 3, 21, 1, 5, 29])
set_option maxHeartbeats 1000000 in
theorem Z7F (m_0 : GMesh) (x_l0 : Int) (r0_l1 : (List (List Int))) (hp0 : m_0.Places.length ≤ 1073741824) (hp1 : m_0.Triangles.length ≤ 1073741824) (hp2 : ∀ t ∈ m_0.Triangles, t.length ≤ 1073741824) (hp3 : OkE m_0.Places.length m_0.Triangles) (Z1f : 0 ≤ x_l0) (Z3l : (r0_l1.length : Int) ≤ x_l0) (ZaD : (decide (x_l0 < ((Z4 m_0).length : Int))) = true) : ∀ (k : Nat) (x_l0_1 : Int) (r2_l1 : (List Int)) (Z5a : 0 ≤ x_l0_1) (Z5b : (r2_l1.length : Int) ≤ 2 + x_l0_1) (hk : ((m_0.Triangles.length : Int) - x_l0_1).toNat < k), Lp prog 0 (sub (bodyOf f101) [1, 1, 1, 0, 1, 0, 0, 1, 1, 0, 0, 1, 1, 1, 1, 0, 1, 0, 0]) (Z61 m_0 x_l0 r0_l1 x_l0_1 r2_l1) (Z4l m_0 x_l0 r0_l1 (ZX m_0 x_l0 r0_l1 k x_l0_1 r2_l1)).1 (Z4l m_0 x_l0 r0_l1 (ZX m_0 x_l0 r0_l1 k x_l0_1 r2_l1)).2 := by
 intro k
 induction k with
 | zero => intro x_l0_1 r2_l1 Z5a Z5b hk; exact absurd hk (Nat.not_lt_zero _)
 | succ k ih =>
  intro x_l0_1 r2_l1 Z5a Z5b hk
  cases h__0 : (decide (x_l0_1 < (m_0.Triangles.length : Int))) with
  | true =>
   have gh__0 := of_decide_eq_true h__0
   have y__0 : (0 : Int) ≤ x_l0_1 := (by assumption)
   have y__1 : x_l0_1 < (m_0.Triangles.length : Int) := (by assumption)
   have y__2 : (m_0.Triangles.getD x_l0_1.toNat default).length ≤ 1073741824 := (by simp_all <;> omega)
   have p {a C} (s : Scr a C) := sB h__0 <| sG (cL (cI .i64)) m_0.Triangles x_l0_1 y__0 y__1 <| sF (Z9k (m_0.Triangles.getD x_l0_1.toNat default) (((Z4 m_0).getD x_l0.toNat default).getD 0 default) (((Z4 m_0).getD x_l0.toNat default).getD 1 default) y__2) <| s
   cases h__1 : (decide ((Z14 m_0 x_l0 x_l0_1) ≥ 0)) with
   | true =>
    have gh__1 := of_decide_eq_true h__1
    have y__3 : r2_l1.length + ([(Z14 m_0 x_l0 x_l0_1)]).length ≤ 1073741824 := by clear p; exact (by ((have := hp3.2.1; have g4 := of_decide_eq_true h__0; (simp only [List.length_append, List.length_cons, List.length_nil]; omega))))
    have y__4 : (-9223372036854775808 : Int) ≤ (x_l0_1 + 1) := by clear p; exact (by omega)
    have y__5 : (x_l0_1 + 1) ≤ (9223372036854775807 : Int) := by clear p; exact (by omega)
    have e : ZX m_0 x_l0 r0_l1 (k + 1) x_l0_1 r2_l1 = (ZX m_0 x_l0 r0_l1 k (x_l0_1 + 1) (r2_l1 ++ [(Z14 m_0 x_l0 x_l0_1)])) := by simp only [ZX, h__0, h__1, cond_true]
    rw [e]
    exact nextS E0Ok Z3 [] Z40 [0, 1, 2] (⟨.ref (GMesh.cells m_0) 0 :: .any :: .nils :: .own 0 :: .own 1 :: .i .i64 x_l0 :: .i .i64 (((Z4 m_0).getD x_l0.toNat default).getD 0 default) :: .i .i64 (((Z4 m_0).getD x_l0.toNat default).getD 1 default) :: .own 2 :: .any :: .any :: .any :: .ref (GMesh.cells m_0) 0 :: .own 1 :: .own 1 :: .i .i64 ((Z4 m_0).length : Int) :: .i .i64 x_l0 :: .b (decide (x_l0 < ((Z4 m_0).length : Int))) :: .i .i64 x_l0 :: .own 1 :: .i .i64 x_l0 :: .ptr 1 x_l0.toNat 0 :: .inn 1 x_l0.toNat :: .ipt 1 x_l0.toNat 0 :: .i .i64 (((Z4 m_0).getD x_l0.toNat default).getD 0 default) :: .own 1 :: .i .i64 x_l0 :: .ptr 1 x_l0.toNat 0 :: .inn 1 x_l0.toNat :: .ipt 1 x_l0.toNat 1 :: .i .i64 (((Z4 m_0).getD x_l0.toNat default).getD 1 default) :: .i .i64 (((Z4 m_0).getD x_l0.toNat default).getD 0 default) :: .i .i64 (((Z4 m_0).getD x_l0.toNat default).getD 1 default) :: .any :: .ref (GMesh.cells m_0) 0 :: .ref (GMesh.cells m_0) 0 :: .ref (GMesh.cells m_0) 1 :: .sl (m_0.Triangles.map (cL (cI .i64))) :: .i .i64 (m_0.Triangles.length : Int) :: .i .i64 (x_l0_1 + 1) :: an 28 [], [.nest 49 (r0_l1.map fun l => l.map (cI .i64)) false, .nest 49 ((Z4 m_0).map fun l => l.map (cI .i64)) false, .vec 2 1 ((r2_l1.map (cI .i64)) ++ ([[.i .i64 (Z14 m_0 x_l0 x_l0_1)]] : List (List AV))) false]⟩) (p (sB h__1 <| sC (show (r2_l1.map (cI .i64)).length + ([[.i .i64 (Z14 m_0 x_l0 x_l0_1)]] : List (List AV)).length ≤ 1073741824 from (by simpa using y__3)) <| sI (x_l0_1 + 1) y__4 y__5 <| sN)) (by kernel_rfl) (show _ = ⟨.ref (GMesh.cells m_0) 0 :: .any :: .nils :: .own 0 :: .own 1 :: .i .i64 x_l0 :: .i .i64 (((Z4 m_0).getD x_l0.toNat default).getD 0 default) :: .i .i64 (((Z4 m_0).getD x_l0.toNat default).getD 1 default) :: .own 2 :: .any :: .any :: .any :: .ref (GMesh.cells m_0) 0 :: .own 1 :: .own 1 :: .i .i64 ((Z4 m_0).length : Int) :: .i .i64 x_l0 :: .b (decide (x_l0 < ((Z4 m_0).length : Int))) :: .i .i64 x_l0 :: .own 1 :: .i .i64 x_l0 :: .ptr 1 x_l0.toNat 0 :: .inn 1 x_l0.toNat :: .ipt 1 x_l0.toNat 0 :: .i .i64 (((Z4 m_0).getD x_l0.toNat default).getD 0 default) :: .own 1 :: .i .i64 x_l0 :: .ptr 1 x_l0.toNat 0 :: .inn 1 x_l0.toNat :: .ipt 1 x_l0.toNat 1 :: .i .i64 (((Z4 m_0).getD x_l0.toNat default).getD 1 default) :: .i .i64 (((Z4 m_0).getD x_l0.toNat default).getD 0 default) :: .i .i64 (((Z4 m_0).getD x_l0.toNat default).getD 1 default) :: .any :: .ref (GMesh.cells m_0) 0 :: .ref (GMesh.cells m_0) 0 :: .ref (GMesh.cells m_0) 1 :: .sl (m_0.Triangles.map (cL (cI .i64))) :: .i .i64 (m_0.Triangles.length : Int) :: .i .i64 (x_l0_1 + 1) :: an 28 [], [.nest 49 (r0_l1.map fun l => l.map (cI .i64)) false, .nest 49 ((Z4 m_0).map fun l => l.map (cI .i64)) false, .vec 2 1 ((r2_l1 ++ [(Z14 m_0 x_l0 x_l0_1)]).map (cI .i64)) false]⟩ from (by simp [cL, cI])) (ih (x_l0_1 + 1) (r2_l1 ++ [(Z14 m_0 x_l0 x_l0_1)]) (show 0 ≤ (x_l0_1 + 1) from (by omega)) (show ((r2_l1 ++ [(Z14 m_0 x_l0 x_l0_1)]).length : Int) ≤ 2 + (x_l0_1 + 1) from (by ((have q := Z3E m_0 hp3 Z1f (of_decide_eq_true (by assumption)); (simp only [List.length_append, List.length_cons, List.length_nil]; omega))))) (by omega))
   | false =>
    have gh__1 := of_decide_eq_false h__1
    have y__3 : (-9223372036854775808 : Int) ≤ (x_l0_1 + 1) := by clear p; exact (by omega)
    have y__4 : (x_l0_1 + 1) ≤ (9223372036854775807 : Int) := by clear p; exact (by omega)
    have e : ZX m_0 x_l0 r0_l1 (k + 1) x_l0_1 r2_l1 = (ZX m_0 x_l0 r0_l1 k (x_l0_1 + 1) r2_l1) := by simp only [ZX, h__0, h__1, cond_true, cond_false]
    rw [e]
    exact nextR E0Ok Z3 [] Z40 [0, 1, 2] (ih (x_l0_1 + 1) r2_l1 (show 0 ≤ (x_l0_1 + 1) from (by omega)) (show (r2_l1.length : Int) ≤ 2 + (x_l0_1 + 1) from (by omega)) (by omega)) (p (sB h__1 <| sI (x_l0_1 + 1) y__3 y__4 <| sN)) (by kernel_rfl)
  | false =>
   have gh__0 := of_decide_eq_false h__0
   have e : ZX m_0 x_l0 r0_l1 (k + 1) x_l0_1 r2_l1 = r2_l1 := by simp only [ZX, h__0, cond_false]
   rw [e]
   exact outR (e := (.exit 2)) E0Ok Z3 [] Z70 [0, 1, 2] (sB h__0 <| sN) (by kernel_rfl) (by intro h; cases h)
def ZS (m_0 : GMesh) (x_l0 : Int) (r0_l1 : (List (List Int))) : (List Int) := (ZX m_0 x_l0 r0_l1 (((m_0.Triangles.length : Int) - 0).toNat + 1) 0 ([(((Z4 m_0).getD x_l0.toNat default).getD 0 default), (((Z4 m_0).getD x_l0.toNat default).getD 1 default)]))
def ZO (m_0 : GMesh) : Nat → Int → (List (List Int)) → (List (List Int))
  | 0, _, _ => default
  | k + 1, x_l0, r0_l1 => (cond (decide (x_l0 < ((Z4 m_0).length : Int)))
    (cond (((ZS m_0 x_l0 r0_l1).length : Int) == 4)
      (ZO m_0 k (x_l0 + 1) (r0_l1 ++ [(ZS m_0 x_l0 r0_l1)]))
      (ZO m_0 k (x_l0 + 1) r0_l1))
    r0_l1)
def Z4m (m_0 : GMesh) (r : (List (List Int))) : Ex × St := ((.exit 0), ⟨.ref (GMesh.cells m_0) 0 :: .any :: .nils :: .own 0 :: .own 1 :: an 7 (.ref (GMesh.cells m_0) 0 :: .own 1 :: .own 1 :: an 53 []), [.nest 49 (r.map fun l => l.map (cI .i64)) false, .nest 49 ((Z4 m_0).map fun l => l.map (cI .i64)) false]⟩)
def Z62 (m_0 : GMesh) (x_l0 : Int) (r0_l1 : (List (List Int))) : St := ⟨.ref (GMesh.cells m_0) 0 :: .any :: .nils :: .own 0 :: .own 1 :: an 7 (.ref (GMesh.cells m_0) 0 :: .own 1 :: .own 1 :: .i .i64 ((Z4 m_0).length : Int) :: .i .i64 x_l0 :: an 51 []), [.nest 49 (r0_l1.map fun l => l.map (cI .i64)) false, .nest 49 ((Z4 m_0).map fun l => l.map (cI .i64)) false]⟩
set_option maxHeartbeats 1000000 in
theorem Z7G (m_0 : GMesh) (hp0 : m_0.Places.length ≤ 1073741824) (hp1 : m_0.Triangles.length ≤ 1073741824) (hp2 : ∀ t ∈ m_0.Triangles, t.length ≤ 1073741824) (hp3 : OkE m_0.Places.length m_0.Triangles) : ∀ (k : Nat) (x_l0 : Int) (r0_l1 : (List (List Int))) (Z1f : 0 ≤ x_l0) (Z3l : (r0_l1.length : Int) ≤ x_l0) (hk : (((Z4 m_0).length : Int) - x_l0).toNat < k), Lp prog 0 (sub (bodyOf f101) [1, 1, 1, 0, 1, 0, 0]) (Z62 m_0 x_l0 r0_l1) (Z4m m_0 (ZO m_0 k x_l0 r0_l1)).1 (Z4m m_0 (ZO m_0 k x_l0 r0_l1)).2 := by
 intro k
 induction k with
 | zero => intro x_l0 r0_l1 Z1f Z3l hk; exact absurd hk (Nat.not_lt_zero _)
 | succ k ih =>
  intro x_l0 r0_l1 Z1f Z3l hk
  cases h_0 : (decide (x_l0 < ((Z4 m_0).length : Int))) with
  | true =>
   have gh_0 := of_decide_eq_true h_0
   have y_0 : (0 : Int) ≤ x_l0 := (by assumption)
   have y_1 : Int.toNat x_l0 < (Z4 m_0).length := (by omega)
   have y_2 : x_l0.toNat < (Z4 m_0).length := (by assumption)
   have y_3 : (0 : Int) ≤ 0 := (by omega)
   have y_4 : 0 < (((Z4 m_0).getD x_l0.toNat default).length : Int) := (by ((have q := Z3E m_0 hp3 Z1f (of_decide_eq_true (by assumption)); omega)))
   have y_5 : 0 < ((Z4 m_0).getD x_l0.toNat default).length := (by omega)
   have y_6 : (0 : Int) ≤ 1 := (by omega)
   have y_7 : 1 < (((Z4 m_0).getD x_l0.toNat default).length : Int) := (by ((have q := Z3E m_0 hp3 Z1f (of_decide_eq_true (by assumption)); omega)))
   have y_8 : 1 < ((Z4 m_0).getD x_l0.toNat default).length := (by omega)
   have p {a C} (s : Scr a C) := sB h_0 <| sC (nestix (c := (cI .i64)) (l := (Z4 m_0)) (i := x_l0) y_0 y_1) <| sC (nestlt (c := (cI .i64)) (l := (Z4 m_0)) y_2) <| sC (iidx_ok (c := (cI .i64)) (l := (Z4 m_0)) (j := x_l0.toNat) (i := 0) y_3 y_4) <| sE (iget_ok (c := (cI .i64)) (l := (Z4 m_0)) (j := x_l0.toNat) (k := 0) y_5) <| sC (nestix (c := (cI .i64)) (l := (Z4 m_0)) (i := x_l0) y_0 y_1) <| sC (nestlt (c := (cI .i64)) (l := (Z4 m_0)) y_2) <| sC (iidx_ok (c := (cI .i64)) (l := (Z4 m_0)) (j := x_l0.toNat) (i := 1) y_6 y_7) <| sE (iget_ok (c := (cI .i64)) (l := (Z4 m_0)) (j := x_l0.toNat) (k := 1) y_8) <| sZ (cL (cI .i64)) m_0.Triangles <| sL Z40 3 (lp_cast (st2 := ⟨.ref (GMesh.cells m_0) 0 :: .any :: .nils :: .own 0 :: .own 1 :: .i .i64 x_l0 :: .i .i64 (((Z4 m_0).getD x_l0.toNat default).getD 0 default) :: .i .i64 (((Z4 m_0).getD x_l0.toNat default).getD 1 default) :: .own 2 :: .any :: .any :: .any :: .ref (GMesh.cells m_0) 0 :: .own 1 :: .own 1 :: .i .i64 ((Z4 m_0).length : Int) :: .i .i64 x_l0 :: .b (decide (x_l0 < ((Z4 m_0).length : Int))) :: .i .i64 x_l0 :: .own 1 :: .i .i64 x_l0 :: .ptr 1 x_l0.toNat 0 :: .inn 1 x_l0.toNat :: .ipt 1 x_l0.toNat 0 :: .i .i64 (((Z4 m_0).getD x_l0.toNat default).getD 0 default) :: .own 1 :: .i .i64 x_l0 :: .ptr 1 x_l0.toNat 0 :: .inn 1 x_l0.toNat :: .ipt 1 x_l0.toNat 1 :: .i .i64 (((Z4 m_0).getD x_l0.toNat default).getD 1 default) :: .i .i64 (((Z4 m_0).getD x_l0.toNat default).getD 0 default) :: .i .i64 (((Z4 m_0).getD x_l0.toNat default).getD 1 default) :: .any :: .ref (GMesh.cells m_0) 0 :: .ref (GMesh.cells m_0) 0 :: .ref (GMesh.cells m_0) 1 :: .sl (m_0.Triangles.map (cL (cI .i64))) :: .i .i64 (m_0.Triangles.length : Int) :: .i .i64 0 :: an 28 [], [.nest 49 (r0_l1.map fun l => l.map (cI .i64)) false, .nest 49 ((Z4 m_0).map fun l => l.map (cI .i64)) false, .vec 2 1 ([[.i .i64 (((Z4 m_0).getD x_l0.toNat default).getD 0 default)], [.i .i64 (((Z4 m_0).getD x_l0.toNat default).getD 1 default)]] : List (List AV)) false]⟩) (lp_val (Z4l m_0 x_l0 r0_l1) (x := (ZS m_0 x_l0 r0_l1)) (Z7F m_0 x_l0 r0_l1 hp0 hp1 hp2 hp3 Z1f Z3l h_0 (((m_0.Triangles.length : Int) - 0).toNat + 1) 0 ([(((Z4 m_0).getD x_l0.toNat default).getD 0 default), (((Z4 m_0).getD x_l0.toNat default).getD 1 default)]) (show 0 ≤ 0 from (by omega)) (show (([(((Z4 m_0).getD x_l0.toNat default).getD 0 default), (((Z4 m_0).getD x_l0.toNat default).getD 1 default)]).length : Int) ≤ 2 + 0 from (by simp)) (Nat.lt_succ_self _)) rfl) (by simp [Z61, cI])) <| sZ (cI .i64) (ZS m_0 x_l0 r0_l1) <| s
   cases h_1 : (((ZS m_0 x_l0 r0_l1).length : Int) == 4) with
   | true =>
    have gh_1 := eq_of_beq h_1
    have y_9 : r0_l1.length + [(ZS m_0 x_l0 r0_l1)].length ≤ 1073741824 := by clear p; exact (by ((have q := Z3E m_0 hp3 Z1f (of_decide_eq_true (by assumption)); (simp only [List.length_append, List.length_cons, List.length_nil]; omega))))
    have y_10 : (-9223372036854775808 : Int) ≤ (x_l0 + 1) := by clear p; exact (by omega)
    have y_11 : (x_l0 + 1) ≤ (9223372036854775807 : Int) := by clear p; exact (by ((have q := Z3E m_0 hp3 Z1f (of_decide_eq_true (by assumption)); omega)))
    have e : ZO m_0 (k + 1) x_l0 r0_l1 = (ZO m_0 k (x_l0 + 1) (r0_l1 ++ [(ZS m_0 x_l0 r0_l1)])) := by simp only [ZO, h_0, h_1, cond_true]
    rw [e]
    exact nextS E0Ok Z3 [] (mR false [0, 1, 1, 3, 7, 5, 51]) [0, 1] (⟨.ref (GMesh.cells m_0) 0 :: .any :: .nils :: .own 0 :: .own 1 :: an 7 (.ref (GMesh.cells m_0) 0 :: .own 1 :: .own 1 :: .i .i64 ((Z4 m_0).length : Int) :: .i .i64 (x_l0 + 1) :: an 51 []), [.nest 49 ((r0_l1.map fun l => l.map (cI .i64)) ++ [((ZS m_0 x_l0 r0_l1).map (cI .i64))]) false, .nest 49 ((Z4 m_0).map fun l => l.map (cI .i64)) false]⟩) (p (sB h_1 <| sC (show (r0_l1.map fun l => l.map (cI .i64)).length + [((ZS m_0 x_l0 r0_l1).map (cI .i64))].length ≤ 1073741824 from (by simpa using y_9)) <| sI (x_l0 + 1) y_10 y_11 <| sN)) (by kernel_rfl) (show _ = ⟨.ref (GMesh.cells m_0) 0 :: .any :: .nils :: .own 0 :: .own 1 :: an 7 (.ref (GMesh.cells m_0) 0 :: .own 1 :: .own 1 :: .i .i64 ((Z4 m_0).length : Int) :: .i .i64 (x_l0 + 1) :: an 51 []), [.nest 49 ((r0_l1 ++ [(ZS m_0 x_l0 r0_l1)]).map fun l => l.map (cI .i64)) false, .nest 49 ((Z4 m_0).map fun l => l.map (cI .i64)) false]⟩ from (by simp [cL, cI])) (ih (x_l0 + 1) (r0_l1 ++ [(ZS m_0 x_l0 r0_l1)]) (show 0 ≤ (x_l0 + 1) from (by omega)) (show ((r0_l1 ++ [(ZS m_0 x_l0 r0_l1)]).length : Int) ≤ (x_l0 + 1) from (by ((have q := Z3E m_0 hp3 Z1f (of_decide_eq_true (by assumption)); (simp only [List.length_append, List.length_cons, List.length_nil]; omega))))) (by omega))
   | false =>
    have gh_1 := ne_of_beq_false h_1
    have y_9 : (-9223372036854775808 : Int) ≤ (x_l0 + 1) := by clear p; exact (by omega)
    have y_10 : (x_l0 + 1) ≤ (9223372036854775807 : Int) := by clear p; exact (by ((have q := Z3E m_0 hp3 Z1f (of_decide_eq_true (by assumption)); omega)))
    have e : ZO m_0 (k + 1) x_l0 r0_l1 = (ZO m_0 k (x_l0 + 1) r0_l1) := by simp only [ZO, h_0, h_1, cond_true, cond_false]
    rw [e]
    exact nextR E0Ok Z3 [] (mR false [0, 1, 1, 3, 7, 5, 51]) [0, 1] (ih (x_l0 + 1) r0_l1 (show 0 ≤ (x_l0 + 1) from (by omega)) (show (r0_l1.length : Int) ≤ (x_l0 + 1) from (by omega)) (by omega)) (p (sB h_1 <| sI (x_l0 + 1) y_9 y_10 <| sN)) (by kernel_rfl)
  | false =>
   have gh_0 := of_decide_eq_false h_0
   have e : ZO m_0 (k + 1) x_l0 r0_l1 = r0_l1 := by simp only [ZO, h_0, cond_false]
   rw [e]
   exact outR (e := (.exit 0)) E0Ok Z3 [] (mR false [0, 1, 1, 3, 7, 3, 53]) [0, 1] (sB h_0 <| sN) (by kernel_rfl) (by intro h; cases h)
def Z3m (m_0 : GMesh) : (List (List Int)) := (ZO m_0 ((((Z4 m_0).length : Int) - 0).toNat + 1) 0 ([] : List (List Int)))
def Z0 (m_0 : GMesh) : (List (List Int)) := (Z3m m_0)
theorem Zb3 (m : GMesh) (ok : OkE m.Places.length m.Triangles) (x : Int) (r0 : List (List Int)) (hab : ((Z4 m).getD x.toNat default).getD 0 default ≠ ((Z4 m).getD x.toNat default).getD 1 default) :
    ZS m x r0 = [((Z4 m).getD x.toNat default).getD 0 default, ((Z4 m).getD x.toNat default).getD 1 default] ++ (idxP m.Triangles (((Z4 m).getD x.toNat default).getD 0 default) (((Z4 m).getD x.toNat default).getD 1 default)).map fun i => thd (m.Triangles.getD i.toNat default) (((Z4 m).getD x.toNat default).getD 0 default) (((Z4 m).getD x.toNat default).getD 1 default) := by
  unfold ZS
  have hf := filt_loop (n := (m.Triangles.length : Int)) (f := fun i => !(decide (Z14 m x i ≥ 0))) (g := fun i => Z14 m x i) (lo := ZX m x r0) (fun k i r' => by
    rw [ZX]
    cases decide (Z14 m x i ≥ 0) <;> rfl) (((m.Triangles.length : Int) - 0).toNat + 1) 0 [((Z4 m).getD x.toNat default).getD 0 default, ((Z4 m).getD x.toNat default).getD 1 default] (Nat.lt_succ_self _)
  rw [hf]
  congr 1
  unfold Z14 idxP
  generalize ((Z4 m).getD x.toNat default).getD 0 default = a at *
  generalize ((Z4 m).getD x.toNat default).getD 1 default = b at *
  rw [List.map_map, show ((m.Triangles.length : Int) - 0).toNat = m.Triangles.length from by omega]
  have key : ∀ j : Nat, j < m.Triangles.length → Z2l (m.Triangles.getD ((0 : Int) + (j : Int)).toNat default) a b = if tHas (m.Triangles.getD j default) a b = true then thd (m.Triangles.getD j default) a b else -1 := by
    intro j hj
    rw [show ((0 : Int) + (j : Int)).toNat = j from by omega]
    have hm : m.Triangles.getD j default ∈ m.Triangles := by rw [List.getD_eq_getElem?_getD, List.getElem?_eq_getElem hj]; exact List.getElem_mem _
    obtain ⟨x, y, z, ht, r1, r2, r3, n1, n2, n3⟩ := ok.2.2 _ hm
    rw [ht]; exact Zar n1 n2 n3 hab
  have hfl : ((List.range m.Triangles.length).filter fun (j : Nat) => !(!(decide (Z2l (m.Triangles.getD ((0 : Int) + (j : Int)).toNat default) a b ≥ 0)))) = (List.range m.Triangles.length).filter fun j => tHas (m.Triangles.getD j default) a b := by
    refine List.filter_congr fun j hj => ?_
    rw [List.mem_range] at hj
    rw [Bool.not_not, key j hj]
    cases hh : tHas (m.Triangles.getD j default) a b with
    | false => rfl
    | true =>
      have hi : (j : Int) ∈ idxP m.Triangles a b := by
        unfold idxP; rw [List.mem_map]; exact ⟨j, List.mem_filter.2 ⟨List.mem_range.2 hj, hh⟩, rfl⟩
      have := (thd_bd ok hab hi).1
      rw [show ((j : Nat) : Int).toNat = j from by omega] at this
      rw [if_pos rfl]; exact decide_eq_true this
  rw [hfl]
  refine List.map_congr_left fun j hj => ?_
  rw [List.mem_filter, List.mem_range] at hj
  rw [key j hj.1, if_pos hj.2]
  show _ = thd (m.Triangles.getD ((j : Nat) : Int).toNat default) a b
  rw [show ((j : Nat) : Int).toNat = j from by omega]
theorem Z6J (m : GMesh) (ok : OkE m.Places.length m.Triangles) : Z0 m = hgL m.Places.length m.Triangles := by
  unfold Z0 Z3m
  refine (filtm_from (a := Z4 m) (p := fun x => decide ((idxP m.Triangles (x.getD 0 default) (x.getD 1 default)).length = 2)) (f := fun x => [x.getD 0 default, x.getD 1 default] ++ (idxP m.Triangles (x.getD 0 default) (x.getD 1 default)).map fun i => thd (m.Triangles.getD i.toNat default) (x.getD 0 default) (x.getD 1 default)) (lo := ZO m) (fun k i r h0 hi => ?_) (fun k i r hi => ?_)).trans ?_
  · have q := Z3E m ok h0 hi
    rw [ZO, decide_eq_true hi, cond_true, Zb3 m ok i r (by omega)]
    have hc : ((([((Z4 m).getD i.toNat default).getD 0 default, ((Z4 m).getD i.toNat default).getD 1 default] ++ (idxP m.Triangles (((Z4 m).getD i.toNat default).getD 0 default) (((Z4 m).getD i.toNat default).getD 1 default)).map fun i_1 => thd (m.Triangles.getD i_1.toNat default) (((Z4 m).getD i.toNat default).getD 0 default) (((Z4 m).getD i.toNat default).getD 1 default)).length : Int) == 4) = decide ((idxP m.Triangles (((Z4 m).getD i.toNat default).getD 0 default) (((Z4 m).getD i.toNat default).getD 1 default)).length = 2) := by
      rw [List.length_append, List.length_map, Bool.eq_iff_iff, beq_iff_eq, decide_eq_true_iff]
      simp only [List.length_cons, List.length_nil]; omega
    rw [hc]
  · rw [ZO, decide_eq_false (by omega), cond_false]
  · rw [Z6V m ok]
    unfold hgL
    rw [List.filter_map, List.map_map]
    rfl
theorem Z2G (m : GMesh) (ok : OkE m.Places.length m.Triangles) : (Z0 m).length ≤ 4096 := by rw [Z6J m ok]; exact hgL_len ok
theorem Zah (m : GMesh) (ok : OkE m.Places.length m.Triangles) {i : Int} (h0 : 0 ≤ i) (hi : i < ((Z0 m).length : Int)) : ((Z0 m).getD i.toNat default).length = 4 ∧ ∀ x ∈ (Z0 m).getD i.toNat default, 0 ≤ x ∧ x < (m.Places.length : Int) := by
  refine hgL_mem ok ?_
  rw [← Z6J m ok, List.getD_eq_getElem?_getD, List.getElem?_eq_getElem (by omega)]; exact List.getElem_mem _
theorem hin4 {m : GMesh} (ok : OkE m.Places.length m.Triangles) {i : Int} (h0 : 0 ≤ i) (hi : decide (i < ((Z0 m).length : Int)) = true) : ((Z0 m).getD i.toNat default).length = 4 ∧ ∀ x ∈ (Z0 m).getD i.toNat default, 0 ≤ x ∧ x < (m.Places.length : Int) := Zah m ok h0 (of_decide_eq_true hi)
theorem Zbv {m : GMesh} (ok : OkE m.Places.length m.Triangles) {i : Int} (h0 : 0 ≤ i) (hi : decide (i < ((Z0 m).length : Int)) = true) : ((Z0 m).getD i.toNat default).length ≤ 1073741824 := by have := (hin4 ok h0 hi).1; omega
theorem Z90 (m_0 : GMesh) (hp0 : m_0.Places.length ≤ 1073741824) (hp1 : m_0.Triangles.length ≤ 1073741824) (hp2 : ∀ t ∈ m_0.Triangles, t.length ≤ 1073741824) (hp3 : OkE m_0.Places.length m_0.Triangles)  : Fn prog 101 [.ref (GMesh.cells m_0) 0] (.own 0) [.nest 49 ((Z0 m_0).map fun l => l.map (cI .i64)) false] := by
 refine fnS E0Ok Z3 (c := bodyOf f101) [] (.own 0) [.nest 49 ((Z3m m_0).map fun l => l.map (cI .i64)) false] func101 (sF (Z9j m_0 hp0 hp1 hp2 hp3) <| sM (nlen_ok (l := (Z4 m_0)) (f := fun l => l.map (cI .i64))) <| sL (mR false [0, 1, 1, 3, 7, 5, 51]) 2 (lp_cast (st2 := ⟨.ref (GMesh.cells m_0) 0 :: .any :: .nils :: .own 0 :: .own 1 :: an 7 (.ref (GMesh.cells m_0) 0 :: .own 1 :: .own 1 :: .i .i64 ((Z4 m_0).length : Int) :: .i .i64 0 :: an 51 []), [.nest 49 [] false, .nest 49 ((Z4 m_0).map fun l => l.map (cI .i64)) false]⟩) (lp_val (Z4m m_0) (x := (Z3m m_0)) (Z7G m_0 hp0 hp1 hp2 hp3 ((((Z4 m_0).length : Int) - 0).toNat + 1) 0 ([] : List (List Int)) (show 0 ≤ 0 from (by omega)) (show (([] : List (List Int)).length : Int) ≤ 0 from (by simp)) (Nat.lt_succ_self _)) rfl) (by simp [Z62, cL, cI])) <| sK [0] sN) rfl (by kernel_rfl) (by kernel_rfl) rfl ?_ ?_
 · rfl
 · simp [Z0]
def Z3W (m_0 : GMesh) (h_1 : (List Int)) : GVector := (Z1e (ZG (m_0.Places.getD (h_1.getD 2 default).toNat default) (m_0.Places.getD (h_1.getD 3 default).toNat default)) (ZG (m_0.Places.getD (h_1.getD 0 default).toNat default) (m_0.Places.getD (h_1.getD 1 default).toNat default)))
def Z1b (m_0 : GMesh) (h_1 : (List Int)) : GVector := (Z3W m_0 h_1)
theorem Z9x (m_0 : GMesh) (h_1 : (List Int)) (hp0 : m_0.Places.length ≤ 1073741824) (hp1 : m_0.Triangles.length ≤ 1073741824) (hp2 : ∀ t ∈ m_0.Triangles, t.length ≤ 1073741824) (hp3 : h_1.length ≤ 1073741824) (hp4 : h_1.length = 4 ∧ ∀ x ∈ h_1, 0 ≤ x ∧ x < (m_0.Places.length : Int))  : Fn prog 102 [.ref (GMesh.cells m_0) 0, .sl (h_1.map (cI .i64))] (.agg [.f .f32 ((Z1b m_0 h_1).X), .f .f32 ((Z1b m_0 h_1).Y), .f .f32 ((Z1b m_0 h_1).Z)]) [] := by
 have y0 : (0 : Int) ≤ 2 := (by omega)
 have y1 : 2 < (h_1.length : Int) := (by omega)
 have y2 : (0 : Int) ≤ (h_1.getD 2 default) := (by have q := Okh.at hp4; omega)
 have y3 : (h_1.getD 2 default) < (m_0.Places.length : Int) := (by have q := Okh.at hp4; omega)
 have y4 : (0 : Int) ≤ 3 := (by omega)
 have y5 : 3 < (h_1.length : Int) := (by omega)
 have y6 : (0 : Int) ≤ (h_1.getD 3 default) := (by have q := Okh.at hp4; omega)
 have y7 : (h_1.getD 3 default) < (m_0.Places.length : Int) := (by have q := Okh.at hp4; omega)
 have y8 : (0 : Int) ≤ 0 := (by omega)
 have y9 : 0 < (h_1.length : Int) := (by omega)
 have y10 : (0 : Int) ≤ (h_1.getD 0 default) := (by have q := Okh.at hp4; omega)
 have y11 : (h_1.getD 0 default) < (m_0.Places.length : Int) := (by have q := Okh.at hp4; omega)
 have y12 : (0 : Int) ≤ 1 := (by omega)
 have y13 : 1 < (h_1.length : Int) := (by omega)
 have y14 : (0 : Int) ≤ (h_1.getD 1 default) := (by have q := Okh.at hp4; omega)
 have y15 : (h_1.getD 1 default) < (m_0.Places.length : Int) := (by have q := Okh.at hp4; omega)
 refine fnS E0Ok Z3 (c := bodyOf f102) [] (.agg [.f .f32 ((Z3W m_0 h_1).X), .f .f32 ((Z3W m_0 h_1).Y), .f .f32 ((Z3W m_0 h_1).Z)]) [] func102 (sK [37, 37] <| sG (cI .i64) h_1 2 y0 y1 <| sG GVector.cells m_0.Places (h_1.getD 2 default) y2 y3 <| sG (cI .i64) h_1 3 y4 y5 <| sG GVector.cells m_0.Places (h_1.getD 3 default) y6 y7 <| sF (Z2F (m_0.Places.getD (h_1.getD 2 default).toNat default) (m_0.Places.getD (h_1.getD 3 default).toNat default)) <| sG (cI .i64) h_1 0 y8 y9 <| sG GVector.cells m_0.Places (h_1.getD 0 default) y10 y11 <| sG (cI .i64) h_1 1 y12 y13 <| sG GVector.cells m_0.Places (h_1.getD 1 default) y14 y15 <| sF (Z2F (m_0.Places.getD (h_1.getD 0 default).toNat default) (m_0.Places.getD (h_1.getD 1 default).toNat default)) <| sF (Z3Z (ZG (m_0.Places.getD (h_1.getD 2 default).toNat default) (m_0.Places.getD (h_1.getD 3 default).toNat default)) (ZG (m_0.Places.getD (h_1.getD 0 default).toNat default) (m_0.Places.getD (h_1.getD 1 default).toNat default))) <| sK [] sN) rfl (by kernel_rfl) (by kernel_rfl) rfl ?_ ?_
 · rfl
 · rfl
def Zc (arr_0 : GBody) (x_l0 : Int) (r0_l1 : (List GVector)) : GVector := (ZG (r0_l1.getD (((arr_0.Springs.getD x_l0.toNat default).A).toNat) default) (Zq ((Z1U arr_0 (arr_0.Springs.getD x_l0.toNat default)).1) ((Z1U arr_0 (arr_0.Springs.getD x_l0.toNat default)).2)))
def Z63 (arr_0 : GBody) (x_l0 : Int) : GVector := (Zq ((Z1U arr_0 (arr_0.Springs.getD x_l0.toNat default)).1) (fneg .f32 ((Z1U arr_0 (arr_0.Springs.getD x_l0.toNat default)).2)))
def Z1L (arr_0 : GBody) (x_l0 : Int) (r0_l1 : (List GVector)) : GVector := (ZG ((r0_l1.set (((arr_0.Springs.getD x_l0.toNat default).A).toNat) (Zc arr_0 x_l0 r0_l1)).getD (((arr_0.Springs.getD x_l0.toNat default).B).toNat) default) (Z63 arr_0 x_l0))
def ZP (arr_0 : GBody) : Nat → Int → (List GVector) → (List GVector)
  | 0, _, _ => default
  | k + 1, x_l0, r0_l1 => (cond (decide (x_l0 < (arr_0.Springs.length : Int)))
    (ZP arr_0 k (x_l0 + 1) ((r0_l1.set (((arr_0.Springs.getD x_l0.toNat default).A).toNat) (Zc arr_0 x_l0 r0_l1)).set (((arr_0.Springs.getD x_l0.toNat default).B).toNat) (Z1L arr_0 x_l0 r0_l1)))
    r0_l1)
def Z4n (arr_0 : GBody) (r : (List GVector)) : Ex × St := ((.exit 0), ⟨.ref (GBody.cells arr_0) 0 :: .any :: .nils :: .ref (GBody.cells arr_0) 0 :: .own 0 :: an 15 (.ref (GBody.cells arr_0) 0 :: .ref (GBody.cells arr_0) 0 :: .ref (GBody.cells arr_0) 0 :: .ref (GBody.cells arr_0) 0 :: .ref (GBody.cells arr_0) 0 :: .ref (GBody.cells arr_0) 0 :: .sl (arr_0.Mesh.Places.map GVector.cells) :: .i .i64 (arr_0.Mesh.Places.length : Int) :: .own 0 :: .ref (GBody.cells arr_0) 0 :: .ref (GBody.cells arr_0) 0 :: .ref (GBody.cells arr_0) 2 :: .sl (arr_0.Springs.map GSpring.cells) :: an 247 []), [.vec 40 3 (r.map GVector.cells) false]⟩)
def Z64 (arr_0 : GBody) (x_l0 : Int) (r0_l1 : (List GVector)) : St := ⟨.ref (GBody.cells arr_0) 0 :: .any :: .nils :: .ref (GBody.cells arr_0) 0 :: .own 0 :: an 15 (.ref (GBody.cells arr_0) 0 :: .ref (GBody.cells arr_0) 0 :: .ref (GBody.cells arr_0) 0 :: .ref (GBody.cells arr_0) 0 :: .ref (GBody.cells arr_0) 0 :: .ref (GBody.cells arr_0) 0 :: .sl (arr_0.Mesh.Places.map GVector.cells) :: .i .i64 (arr_0.Mesh.Places.length : Int) :: .own 0 :: .ref (GBody.cells arr_0) 0 :: .ref (GBody.cells arr_0) 0 :: .ref (GBody.cells arr_0) 2 :: .sl (arr_0.Springs.map GSpring.cells) :: .i .i64 (arr_0.Springs.length : Int) :: .i .i64 x_l0 :: an 245 []), [.vec 40 3 (r0_l1.map GVector.cells) false]⟩
set_option maxHeartbeats 1000000 in
theorem Z7H (arr_0 : GBody) (hp0 : arr_0.Mesh.Places.length ≤ 1073741824) (hp1 : arr_0.Mesh.Triangles.length ≤ 1073741824) (hp2 : ∀ t ∈ arr_0.Mesh.Triangles, t.length ≤ 1073741824) (hp3 : arr_0.Springs.length ≤ 1073741824) (hp4 : arr_0.Weights.length ≤ 1073741824) (hp5 : OkBd arr_0) : ∀ (k : Nat) (x_l0 : Int) (r0_l1 : (List GVector)) (Z5c : 0 ≤ x_l0) (Z5d : r0_l1.length = arr_0.Mesh.Places.length) (hk : ((arr_0.Springs.length : Int) - x_l0).toNat < k), Lp prog 0 (sub (bodyOf f51) [1, 1, 1, 0, 1, 0, 0]) (Z64 arr_0 x_l0 r0_l1) (Z4n arr_0 (ZP arr_0 k x_l0 r0_l1)).1 (Z4n arr_0 (ZP arr_0 k x_l0 r0_l1)).2 := by
 intro k
 induction k with
 | zero => intro x_l0 r0_l1 Z5c Z5d hk; exact absurd hk (Nat.not_lt_zero _)
 | succ k ih =>
  intro x_l0 r0_l1 Z5c Z5d hk
  cases h_0 : (decide (x_l0 < (arr_0.Springs.length : Int))) with
  | true =>
   have gh_0 := of_decide_eq_true h_0
   have y_0 : (0 : Int) ≤ x_l0 := (by assumption)
   have y_1 : x_l0 < (arr_0.Springs.length : Int) := (by assumption)
   have y_2 : 0 ≤ (arr_0.Springs.getD x_l0.toNat default).A := (by have q := Z3p hp5 (by assumption) h_0; omega)
   have y_3 : (arr_0.Springs.getD x_l0.toNat default).A < (arr_0.Mesh.Places.length : Int) := (by have q := Z3p hp5 (by assumption) h_0; omega)
   have y_4 : 0 ≤ (arr_0.Springs.getD x_l0.toNat default).B := (by have q := Z3p hp5 (by assumption) h_0; omega)
   have y_5 : (arr_0.Springs.getD x_l0.toNat default).B < (arr_0.Mesh.Places.length : Int) := (by have q := Z3p hp5 (by assumption) h_0; omega)
   have y_6 : (0 : Int) ≤ ((arr_0.Springs.getD x_l0.toNat default).A) := (by assumption)
   have y_7 : ((arr_0.Springs.getD x_l0.toNat default).A) < (r0_l1.length : Int) := (by omega)
   have y_8 : ((arr_0.Springs.getD x_l0.toNat default).A).toNat < r0_l1.length := (by omega)
   have y_9 : (0 : Int) ≤ ((arr_0.Springs.getD x_l0.toNat default).B) := (by assumption)
   have y_10 : ((arr_0.Springs.getD x_l0.toNat default).B) < ((r0_l1.set (((arr_0.Springs.getD x_l0.toNat default).A).toNat) (Zc arr_0 x_l0 r0_l1)).length : Int) := (by have q := hp5.w; have q := Z3p hp5 (by assumption) h_0; (simp only [List.length_set]; omega))
   have y_11 : ((arr_0.Springs.getD x_l0.toNat default).B).toNat < (r0_l1.set (((arr_0.Springs.getD x_l0.toNat default).A).toNat) (Zc arr_0 x_l0 r0_l1)).length := (by omega)
   have y_12 : (-9223372036854775808 : Int) ≤ (x_l0 + 1) := (by omega)
   have y_13 : (x_l0 + 1) ≤ (9223372036854775807 : Int) := (by omega)
   have e : ZP arr_0 (k + 1) x_l0 r0_l1 = (ZP arr_0 k (x_l0 + 1) ((r0_l1.set (((arr_0.Springs.getD x_l0.toNat default).A).toNat) (Zc arr_0 x_l0 r0_l1)).set (((arr_0.Springs.getD x_l0.toNat default).B).toNat) (Z1L arr_0 x_l0 r0_l1))) := by simp only [ZP, h_0, cond_true]
   rw [e]
   exact nextS E0Ok Z3 [] (mR false [0, 1, 1, 3, 15, 15, 245]) [0] (⟨.ref (GBody.cells arr_0) 0 :: .any :: .nils :: .ref (GBody.cells arr_0) 0 :: .own 0 :: an 15 (.ref (GBody.cells arr_0) 0 :: .ref (GBody.cells arr_0) 0 :: .ref (GBody.cells arr_0) 0 :: .ref (GBody.cells arr_0) 0 :: .ref (GBody.cells arr_0) 0 :: .ref (GBody.cells arr_0) 0 :: .sl (arr_0.Mesh.Places.map GVector.cells) :: .i .i64 (arr_0.Mesh.Places.length : Int) :: .own 0 :: .ref (GBody.cells arr_0) 0 :: .ref (GBody.cells arr_0) 0 :: .ref (GBody.cells arr_0) 2 :: .sl (arr_0.Springs.map GSpring.cells) :: .i .i64 (arr_0.Springs.length : Int) :: .i .i64 (x_l0 + 1) :: an 245 []), [.vec 40 3 (((r0_l1.map GVector.cells).set (((arr_0.Springs.getD x_l0.toNat default).A).toNat) [.f .f32 ((Zc arr_0 x_l0 r0_l1).X), .f .f32 ((Zc arr_0 x_l0 r0_l1).Y), .f .f32 ((Zc arr_0 x_l0 r0_l1).Z)]).set (((arr_0.Springs.getD x_l0.toNat default).B).toNat) [.f .f32 ((Z1L arr_0 x_l0 r0_l1).X), .f .f32 ((Z1L arr_0 x_l0 r0_l1).Y), .f .f32 ((Z1L arr_0 x_l0 r0_l1).Z)]) false]⟩) (sB h_0 <| sG GSpring.cells arr_0.Springs x_l0 y_0 y_1 <| sF (Z9T arr_0 (arr_0.Springs.getD x_l0.toNat default) hp0 hp1 hp2 hp3 hp4 y_2 y_3 y_4 y_5) <| sK [16, 16] <| sX GVector.cells r0_l1 ((arr_0.Springs.getD x_l0.toNat default).A) y_6 y_7 <| sV GVector.cells r0_l1 (((arr_0.Springs.getD x_l0.toNat default).A).toNat) y_8 <| sF (Z2N ((Z1U arr_0 (arr_0.Springs.getD x_l0.toNat default)).1) ((Z1U arr_0 (arr_0.Springs.getD x_l0.toNat default)).2)) <| sF (Z2F (r0_l1.getD (((arr_0.Springs.getD x_l0.toNat default).A).toNat) default) (Zq ((Z1U arr_0 (arr_0.Springs.getD x_l0.toNat default)).1) ((Z1U arr_0 (arr_0.Springs.getD x_l0.toNat default)).2))) <| sX GVector.cells r0_l1 ((arr_0.Springs.getD x_l0.toNat default).A) y_6 y_7 <| sC (maplt (c := GVector.cells) (l := r0_l1) y_8) <| sK [17, 17] <| sC (show 0 ≤ ((arr_0.Springs.getD x_l0.toNat default).B) ∧ Int.toNat ((arr_0.Springs.getD x_l0.toNat default).B) < ((r0_l1.map GVector.cells).set (((arr_0.Springs.getD x_l0.toNat default).A).toNat) [.f .f32 ((Zc arr_0 x_l0 r0_l1).X), .f .f32 ((Zc arr_0 x_l0 r0_l1).Y), .f .f32 ((Zc arr_0 x_l0 r0_l1).Z)]).length from (by simpa using idx_ok (c := GVector.cells) (l := (r0_l1.set (((arr_0.Springs.getD x_l0.toNat default).A).toNat) (Zc arr_0 x_l0 r0_l1))) (i := (arr_0.Springs.getD x_l0.toNat default).B) y_9 y_10)) <| sE (show ((r0_l1.map GVector.cells).set (((arr_0.Springs.getD x_l0.toNat default).A).toNat) [.f .f32 ((Zc arr_0 x_l0 r0_l1).X), .f .f32 ((Zc arr_0 x_l0 r0_l1).Y), .f .f32 ((Zc arr_0 x_l0 r0_l1).Z)])[((arr_0.Springs.getD x_l0.toNat default).B).toNat]? = some [.f .f32 (((r0_l1.set (((arr_0.Springs.getD x_l0.toNat default).A).toNat) (Zc arr_0 x_l0 r0_l1)).getD (((arr_0.Springs.getD x_l0.toNat default).B).toNat) default).X), .f .f32 (((r0_l1.set (((arr_0.Springs.getD x_l0.toNat default).A).toNat) (Zc arr_0 x_l0 r0_l1)).getD (((arr_0.Springs.getD x_l0.toNat default).B).toNat) default).Y), .f .f32 (((r0_l1.set (((arr_0.Springs.getD x_l0.toNat default).A).toNat) (Zc arr_0 x_l0 r0_l1)).getD (((arr_0.Springs.getD x_l0.toNat default).B).toNat) default).Z)] from (by have q := vget_ok (c := GVector.cells) (l := (r0_l1.set (((arr_0.Springs.getD x_l0.toNat default).A).toNat) (Zc arr_0 x_l0 r0_l1))) (k := ((arr_0.Springs.getD x_l0.toNat default).B).toNat) y_11; (simp only [List.map_set, List.map_append, List.map_cons, List.map_nil, List.map_replicate] at q; exact q))) <| sF (Z2N ((Z1U arr_0 (arr_0.Springs.getD x_l0.toNat default)).1) (fneg .f32 ((Z1U arr_0 (arr_0.Springs.getD x_l0.toNat default)).2))) <| sF (Z2F ((r0_l1.set (((arr_0.Springs.getD x_l0.toNat default).A).toNat) (Zc arr_0 x_l0 r0_l1)).getD (((arr_0.Springs.getD x_l0.toNat default).B).toNat) default) (Z63 arr_0 x_l0)) <| sC (show 0 ≤ ((arr_0.Springs.getD x_l0.toNat default).B) ∧ Int.toNat ((arr_0.Springs.getD x_l0.toNat default).B) < ((r0_l1.map GVector.cells).set (((arr_0.Springs.getD x_l0.toNat default).A).toNat) [.f .f32 ((Zc arr_0 x_l0 r0_l1).X), .f .f32 ((Zc arr_0 x_l0 r0_l1).Y), .f .f32 ((Zc arr_0 x_l0 r0_l1).Z)]).length from (by simpa using idx_ok (c := GVector.cells) (l := (r0_l1.set (((arr_0.Springs.getD x_l0.toNat default).A).toNat) (Zc arr_0 x_l0 r0_l1))) (i := (arr_0.Springs.getD x_l0.toNat default).B) y_9 y_10)) <| sC (show ((arr_0.Springs.getD x_l0.toNat default).B).toNat < ((r0_l1.map GVector.cells).set (((arr_0.Springs.getD x_l0.toNat default).A).toNat) [.f .f32 ((Zc arr_0 x_l0 r0_l1).X), .f .f32 ((Zc arr_0 x_l0 r0_l1).Y), .f .f32 ((Zc arr_0 x_l0 r0_l1).Z)]).length from (by simpa using y_11)) <| sI (x_l0 + 1) y_12 y_13 <| sN) (by kernel_rfl) (show _ = ⟨.ref (GBody.cells arr_0) 0 :: .any :: .nils :: .ref (GBody.cells arr_0) 0 :: .own 0 :: an 15 (.ref (GBody.cells arr_0) 0 :: .ref (GBody.cells arr_0) 0 :: .ref (GBody.cells arr_0) 0 :: .ref (GBody.cells arr_0) 0 :: .ref (GBody.cells arr_0) 0 :: .ref (GBody.cells arr_0) 0 :: .sl (arr_0.Mesh.Places.map GVector.cells) :: .i .i64 (arr_0.Mesh.Places.length : Int) :: .own 0 :: .ref (GBody.cells arr_0) 0 :: .ref (GBody.cells arr_0) 0 :: .ref (GBody.cells arr_0) 2 :: .sl (arr_0.Springs.map GSpring.cells) :: .i .i64 (arr_0.Springs.length : Int) :: .i .i64 (x_l0 + 1) :: an 245 []), [.vec 40 3 (((r0_l1.set (((arr_0.Springs.getD x_l0.toNat default).A).toNat) (Zc arr_0 x_l0 r0_l1)).set (((arr_0.Springs.getD x_l0.toNat default).B).toNat) (Z1L arr_0 x_l0 r0_l1)).map GVector.cells) false]⟩ from (by simp [List.map_set, GVector.cells])) (ih (x_l0 + 1) ((r0_l1.set (((arr_0.Springs.getD x_l0.toNat default).A).toNat) (Zc arr_0 x_l0 r0_l1)).set (((arr_0.Springs.getD x_l0.toNat default).B).toNat) (Z1L arr_0 x_l0 r0_l1)) (show 0 ≤ (x_l0 + 1) from (by omega)) (show ((r0_l1.set (((arr_0.Springs.getD x_l0.toNat default).A).toNat) (Zc arr_0 x_l0 r0_l1)).set (((arr_0.Springs.getD x_l0.toNat default).B).toNat) (Z1L arr_0 x_l0 r0_l1)).length = arr_0.Mesh.Places.length from (by have q := hp5.w; have q := Z3p hp5 (by assumption) h_0; (simp only [List.length_set]; omega))) (by omega))
  | false =>
   have gh_0 := of_decide_eq_false h_0
   have e : ZP arr_0 (k + 1) x_l0 r0_l1 = r0_l1 := by simp only [ZP, h_0, cond_false]
   rw [e]
   exact outR (e := (.exit 0)) E0Ok Z3 [] (mR false [0, 1, 1, 3, 15, 13, 247]) [0] (sB h_0 <| sN) (by kernel_rfl) (by intro h; cases h)
theorem Z71 (arr_0 : GBody) : ∀ (k : Nat) (x_l0 : Int) (r0_l1 : (List GVector)) (hk : ((arr_0.Springs.length : Int) - x_l0).toNat < k), (ZP arr_0 k x_l0 r0_l1).length = r0_l1.length := by
  intro k
  induction k with
  | zero => intro x_l0 r0_l1 hk; exact absurd hk (Nat.not_lt_zero _)
  | succ k ih =>
    intro x_l0 r0_l1 hk
    cases h_0 : (decide (x_l0 < (arr_0.Springs.length : Int))) with
    | true =>
      have e : ZP arr_0 (k + 1) x_l0 r0_l1 = (ZP arr_0 k (x_l0 + 1) ((r0_l1.set (((arr_0.Springs.getD x_l0.toNat default).A).toNat) (Zc arr_0 x_l0 r0_l1)).set (((arr_0.Springs.getD x_l0.toNat default).B).toNat) (Z1L arr_0 x_l0 r0_l1))) := by simp only [ZP, h_0, cond_true]
      rw [e, ih (x_l0 + 1) ((r0_l1.set (((arr_0.Springs.getD x_l0.toNat default).A).toNat) (Zc arr_0 x_l0 r0_l1)).set (((arr_0.Springs.getD x_l0.toNat default).B).toNat) (Z1L arr_0 x_l0 r0_l1)) (by simp_all <;> omega)]; simp
    | false =>
      have e : ZP arr_0 (k + 1) x_l0 r0_l1 = r0_l1 := by simp only [ZP, h_0, cond_false]
      first | (rw [e]; done) | (rw [e]; rfl)
def Z23 (arr_0 : GBody) : (List GVector) := (ZP arr_0 (((arr_0.Springs.length : Int) - 0).toNat + 1) 0 (List.replicate (arr_0.Mesh.Places.length : Int).toNat (⟨0, 0, 0⟩ : GVector)))
@[simp] theorem Z9F (arr_0 : GBody) : (Z23 arr_0).length = ((List.replicate (arr_0.Mesh.Places.length : Int).toNat (⟨0, 0, 0⟩ : GVector)) : (List GVector)).length := Z71 arr_0 (((arr_0.Springs.length : Int) - 0).toNat + 1) 0 (List.replicate (arr_0.Mesh.Places.length : Int).toNat (⟨0, 0, 0⟩ : GVector)) (by exact Nat.lt_succ_self _)
def Z1k (arr_0 : GBody) (x_l0 : Int) : Nat := (Z3c (fneg .f32 (fop .mul .f32 1056964608 arr_0.Film)) (Zg (Z9 arr_0.Mesh (arr_0.Mesh.Triangles.getD x_l0.toNat default))))
def Z4o (arr_0 : GBody) (x_l0 : Int) (x_l0_1 : Int) : GVector := (Z1e (arr_0.Mesh.Places.getD ((arr_0.Mesh.Triangles.getD x_l0.toNat default).getD (Int.tmod (x_l0_1 + 2) 3).toNat default).toNat default) (arr_0.Mesh.Places.getD ((arr_0.Mesh.Triangles.getD x_l0.toNat default).getD (Int.tmod (x_l0_1 + 1) 3).toNat default).toNat default))
def Z3H (arr_0 : GBody) (x_l0 : Int) (x_l0_1 : Int) : GVector := (Zq (Z3k (Z9 arr_0.Mesh (arr_0.Mesh.Triangles.getD x_l0.toNat default)) (Z4o arr_0 x_l0 x_l0_1)) (Z1k arr_0 x_l0))
def Z1l (arr_0 : GBody) (x_l0 : Int) (x_l0_1 : Int) (r0_l1_1 : (List GVector)) : GVector := (ZG (r0_l1_1.getD (((arr_0.Mesh.Triangles.getD x_l0.toNat default).getD x_l0_1.toNat default).toNat) default) (Z3H arr_0 x_l0 x_l0_1))
def Zt (arr_0 : GBody) (x_l0 : Int) (r0_l1 : (List GVector)) : Nat → Int → (List GVector) → (List GVector)
  | 0, _, _ => default
  | k + 1, x_l0_1, r0_l1_1 => (cond (decide (x_l0_1 < 3))
    (Zt arr_0 x_l0 r0_l1 k (x_l0_1 + 1) (r0_l1_1.set (((arr_0.Mesh.Triangles.getD x_l0.toNat default).getD x_l0_1.toNat default).toNat) (Z1l arr_0 x_l0 x_l0_1 r0_l1_1)))
    r0_l1_1)
def Z4p (arr_0 : GBody) (x_l0 : Int) (r0_l1 : (List GVector)) (r : (List GVector)) : Ex × St := ((.exit 4), ⟨.ref (GBody.cells arr_0) 0 :: .any :: .nils :: .ref (GBody.cells arr_0) 0 :: .own 0 :: an 4 (.i .i64 x_l0 :: .sl ((arr_0.Mesh.Triangles.getD x_l0.toNat default).map (cI .i64)) :: .ptr 1 0 0 :: .f .f32 (Z1k arr_0 x_l0) :: an 7 (.ref (GBody.cells arr_0) 0 :: .ref (GBody.cells arr_0) 0 :: .ref (GBody.cells arr_0) 0 :: .ref (GBody.cells arr_0) 0 :: .ref (GBody.cells arr_0) 0 :: .ref (GBody.cells arr_0) 0 :: .sl (arr_0.Mesh.Places.map GVector.cells) :: .i .i64 (arr_0.Mesh.Places.length : Int) :: .own 0 :: .ref (GBody.cells arr_0) 0 :: .ref (GBody.cells arr_0) 0 :: .ref (GBody.cells arr_0) 2 :: .sl (arr_0.Springs.map GSpring.cells) :: an 52 (.ref (GBody.cells arr_0) 0 :: .ref (GBody.cells arr_0) 0 :: .ref (GBody.cells arr_0) 1 :: .sl (arr_0.Mesh.Triangles.map (cL (cI .i64))) :: .i .i64 (arr_0.Mesh.Triangles.length : Int) :: .i .i64 x_l0 :: .b (decide (x_l0 < (arr_0.Mesh.Triangles.length : Int))) :: .i .i64 x_l0 :: .ref (GBody.cells arr_0) 0 :: .ref (GBody.cells arr_0) 0 :: .ref (GBody.cells arr_0) 1 :: .sl (arr_0.Mesh.Triangles.map (cL (cI .i64))) :: .i .i64 x_l0 :: .ref [.sl ((arr_0.Mesh.Triangles.getD x_l0.toNat default).map (cI .i64))] 0 :: .sl ((arr_0.Mesh.Triangles.getD x_l0.toNat default).map (cI .i64)) :: .ref (GBody.cells arr_0) 0 :: .sl ((arr_0.Mesh.Triangles.getD x_l0.toNat default).map (cI .i64)) :: .agg [.f .f32 ((Z9 arr_0.Mesh (arr_0.Mesh.Triangles.getD x_l0.toNat default)).X), .f .f32 ((Z9 arr_0.Mesh (arr_0.Mesh.Triangles.getD x_l0.toNat default)).Y), .f .f32 ((Z9 arr_0.Mesh (arr_0.Mesh.Triangles.getD x_l0.toNat default)).Z)] :: .ref (GBody.cells arr_0) 0 :: .ref (GBody.cells arr_0) 0 :: .ref (GBody.cells arr_0) 3 :: .f .f32 arr_0.Film :: .f .f32 (fop .mul .f32 1056964608 arr_0.Film) :: .f .f32 (fneg .f32 (fop .mul .f32 1056964608 arr_0.Film)) :: .agg [.f .f32 ((Z9 arr_0.Mesh (arr_0.Mesh.Triangles.getD x_l0.toNat default)).X), .f .f32 ((Z9 arr_0.Mesh (arr_0.Mesh.Triangles.getD x_l0.toNat default)).Y), .f .f32 ((Z9 arr_0.Mesh (arr_0.Mesh.Triangles.getD x_l0.toNat default)).Z)] :: .f .f32 (Zg (Z9 arr_0.Mesh (arr_0.Mesh.Triangles.getD x_l0.toNat default))) :: .f .f32 (Z1k arr_0 x_l0) :: an 168 []))), [.vec 40 3 (r.map GVector.cells) false, .box 40 [.f .f32 ((Z9 arr_0.Mesh (arr_0.Mesh.Triangles.getD x_l0.toNat default)).X), .f .f32 ((Z9 arr_0.Mesh (arr_0.Mesh.Triangles.getD x_l0.toNat default)).Y), .f .f32 ((Z9 arr_0.Mesh (arr_0.Mesh.Triangles.getD x_l0.toNat default)).Z)]]⟩)
def Z7I (arr_0 : GBody) (x_l0 : Int) (r0_l1 : (List GVector)) (x_l0_1 : Int) (r0_l1_1 : (List GVector)) : St := ⟨.ref (GBody.cells arr_0) 0 :: .any :: .nils :: .ref (GBody.cells arr_0) 0 :: .own 0 :: an 4 (.i .i64 x_l0 :: .sl ((arr_0.Mesh.Triangles.getD x_l0.toNat default).map (cI .i64)) :: .ptr 1 0 0 :: .f .f32 (Z1k arr_0 x_l0) :: .i .i64 x_l0_1 :: an 6 (.ref (GBody.cells arr_0) 0 :: .ref (GBody.cells arr_0) 0 :: .ref (GBody.cells arr_0) 0 :: .ref (GBody.cells arr_0) 0 :: .ref (GBody.cells arr_0) 0 :: .ref (GBody.cells arr_0) 0 :: .sl (arr_0.Mesh.Places.map GVector.cells) :: .i .i64 (arr_0.Mesh.Places.length : Int) :: .own 0 :: .ref (GBody.cells arr_0) 0 :: .ref (GBody.cells arr_0) 0 :: .ref (GBody.cells arr_0) 2 :: .sl (arr_0.Springs.map GSpring.cells) :: an 52 (.ref (GBody.cells arr_0) 0 :: .ref (GBody.cells arr_0) 0 :: .ref (GBody.cells arr_0) 1 :: .sl (arr_0.Mesh.Triangles.map (cL (cI .i64))) :: .i .i64 (arr_0.Mesh.Triangles.length : Int) :: .i .i64 x_l0 :: .b (decide (x_l0 < (arr_0.Mesh.Triangles.length : Int))) :: .i .i64 x_l0 :: .ref (GBody.cells arr_0) 0 :: .ref (GBody.cells arr_0) 0 :: .ref (GBody.cells arr_0) 1 :: .sl (arr_0.Mesh.Triangles.map (cL (cI .i64))) :: .i .i64 x_l0 :: .ref [.sl ((arr_0.Mesh.Triangles.getD x_l0.toNat default).map (cI .i64))] 0 :: .sl ((arr_0.Mesh.Triangles.getD x_l0.toNat default).map (cI .i64)) :: .ref (GBody.cells arr_0) 0 :: .sl ((arr_0.Mesh.Triangles.getD x_l0.toNat default).map (cI .i64)) :: .agg [.f .f32 ((Z9 arr_0.Mesh (arr_0.Mesh.Triangles.getD x_l0.toNat default)).X), .f .f32 ((Z9 arr_0.Mesh (arr_0.Mesh.Triangles.getD x_l0.toNat default)).Y), .f .f32 ((Z9 arr_0.Mesh (arr_0.Mesh.Triangles.getD x_l0.toNat default)).Z)] :: .ref (GBody.cells arr_0) 0 :: .ref (GBody.cells arr_0) 0 :: .ref (GBody.cells arr_0) 3 :: .f .f32 arr_0.Film :: .f .f32 (fop .mul .f32 1056964608 arr_0.Film) :: .f .f32 (fneg .f32 (fop .mul .f32 1056964608 arr_0.Film)) :: .agg [.f .f32 ((Z9 arr_0.Mesh (arr_0.Mesh.Triangles.getD x_l0.toNat default)).X), .f .f32 ((Z9 arr_0.Mesh (arr_0.Mesh.Triangles.getD x_l0.toNat default)).Y), .f .f32 ((Z9 arr_0.Mesh (arr_0.Mesh.Triangles.getD x_l0.toNat default)).Z)] :: .f .f32 (Zg (Z9 arr_0.Mesh (arr_0.Mesh.Triangles.getD x_l0.toNat default))) :: .f .f32 (Z1k arr_0 x_l0) :: an 168 []))), [.vec 40 3 (r0_l1_1.map GVector.cells) false, .box 40 [.f .f32 ((Z9 arr_0.Mesh (arr_0.Mesh.Triangles.getD x_l0.toNat default)).X), .f .f32 ((Z9 arr_0.Mesh (arr_0.Mesh.Triangles.getD x_l0.toNat default)).Y), .f .f32 ((Z9 arr_0.Mesh (arr_0.Mesh.Triangles.getD x_l0.toNat default)).Z)]]⟩
def Z5e : List Bool := (mR false [0, 1, 1, 3, 4, 5, 6, 13, 52, 27, 168])
def Z72 : List Bool := (mR false [0, 1, 1, 3, 4, 4, 7, 13, 52, 27, 168])
set_option maxHeartbeats 1000000 in
theorem Z7J (arr_0 : GBody) (x_l0 : Int) (r0_l1 : (List GVector)) (hp0 : arr_0.Mesh.Places.length ≤ 1073741824) (hp1 : arr_0.Mesh.Triangles.length ≤ 1073741824) (hp2 : ∀ t ∈ arr_0.Mesh.Triangles, t.length ≤ 1073741824) (hp3 : arr_0.Springs.length ≤ 1073741824) (hp4 : arr_0.Weights.length ≤ 1073741824) (hp5 : OkBd arr_0) (Z3n : 0 ≤ x_l0) (Z3o : r0_l1.length = arr_0.Mesh.Places.length) (Z18 : (decide (x_l0 < (arr_0.Mesh.Triangles.length : Int))) = true) : ∀ (k : Nat) (x_l0_1 : Int) (r0_l1_1 : (List GVector)) (Z5f : 0 ≤ x_l0_1) (Z5g : r0_l1_1.length = r0_l1.length) (hk : ((3 : Int) - x_l0_1).toNat < k), Lp prog 0 (sub (bodyOf f51) [1, 1, 1, 1, 0, 1, 0, 0, 1, 1, 0, 0, 1, 1, 1, 1, 1, 0, 0]) (Z7I arr_0 x_l0 r0_l1 x_l0_1 r0_l1_1) (Z4p arr_0 x_l0 r0_l1 (Zt arr_0 x_l0 r0_l1 k x_l0_1 r0_l1_1)).1 (Z4p arr_0 x_l0 r0_l1 (Zt arr_0 x_l0 r0_l1 k x_l0_1 r0_l1_1)).2 := by
 intro k
 induction k with
 | zero => intro x_l0_1 r0_l1_1 Z5f Z5g hk; exact absurd hk (Nat.not_lt_zero _)
 | succ k ih =>
  intro x_l0_1 r0_l1_1 Z5f Z5g hk
  cases h__0 : (decide (x_l0_1 < 3)) with
  | true =>
   have gh__0 := of_decide_eq_true h__0
   have y__0 : (-9223372036854775808 : Int) ≤ (x_l0_1 + 2) := (by omega)
   have y__1 : (x_l0_1 + 2) ≤ (9223372036854775807 : Int) := (by omega)
   have y__2 : (0 : Int) ≤ (Int.tmod (x_l0_1 + 2) 3) := (by have q := Z1F hp5.e (by assumption) (of_decide_eq_true Z18) (by assumption) gh__0; omega)
   have y__3 : (Int.tmod (x_l0_1 + 2) 3) < ((arr_0.Mesh.Triangles.getD x_l0.toNat default).length : Int) := (by have q := Z1F hp5.e (by assumption) (of_decide_eq_true Z18) (by assumption) gh__0; omega)
   have y__4 : (0 : Int) ≤ ((arr_0.Mesh.Triangles.getD x_l0.toNat default).getD (Int.tmod (x_l0_1 + 2) 3).toNat default) := (by have q := Z1F hp5.e (by assumption) (of_decide_eq_true Z18) (by assumption) gh__0; omega)
   have y__5 : ((arr_0.Mesh.Triangles.getD x_l0.toNat default).getD (Int.tmod (x_l0_1 + 2) 3).toNat default) < (arr_0.Mesh.Places.length : Int) := (by have q := Z1F hp5.e (by assumption) (of_decide_eq_true Z18) (by assumption) gh__0; omega)
   have y__6 : (-9223372036854775808 : Int) ≤ (x_l0_1 + 1) := (by omega)
   have y__7 : (x_l0_1 + 1) ≤ (9223372036854775807 : Int) := (by omega)
   have y__8 : (0 : Int) ≤ (Int.tmod (x_l0_1 + 1) 3) := (by have q := Z1F hp5.e (by assumption) (of_decide_eq_true Z18) (by assumption) gh__0; omega)
   have y__9 : (Int.tmod (x_l0_1 + 1) 3) < ((arr_0.Mesh.Triangles.getD x_l0.toNat default).length : Int) := (by have q := Z1F hp5.e (by assumption) (of_decide_eq_true Z18) (by assumption) gh__0; omega)
   have y__10 : (0 : Int) ≤ ((arr_0.Mesh.Triangles.getD x_l0.toNat default).getD (Int.tmod (x_l0_1 + 1) 3).toNat default) := (by have q := Z1F hp5.e (by assumption) (of_decide_eq_true Z18) (by assumption) gh__0; omega)
   have y__11 : ((arr_0.Mesh.Triangles.getD x_l0.toNat default).getD (Int.tmod (x_l0_1 + 1) 3).toNat default) < (arr_0.Mesh.Places.length : Int) := (by have q := Z1F hp5.e (by assumption) (of_decide_eq_true Z18) (by assumption) gh__0; omega)
   have y__12 : (0 : Int) ≤ x_l0_1 := (by assumption)
   have y__13 : x_l0_1 < ((arr_0.Mesh.Triangles.getD x_l0.toNat default).length : Int) := (by have q := Z1F hp5.e (by assumption) (of_decide_eq_true Z18) (by assumption) gh__0; omega)
   have y__14 : (0 : Int) ≤ ((arr_0.Mesh.Triangles.getD x_l0.toNat default).getD x_l0_1.toNat default) := (by have q := Z1F hp5.e (by assumption) (of_decide_eq_true Z18) (by assumption) gh__0; omega)
   have y__15 : ((arr_0.Mesh.Triangles.getD x_l0.toNat default).getD x_l0_1.toNat default) < (r0_l1_1.length : Int) := (by have q := Z1F hp5.e (by assumption) (of_decide_eq_true Z18) (by assumption) gh__0; omega)
   have y__16 : ((arr_0.Mesh.Triangles.getD x_l0.toNat default).getD x_l0_1.toNat default).toNat < r0_l1_1.length := (by omega)
   have e : Zt arr_0 x_l0 r0_l1 (k + 1) x_l0_1 r0_l1_1 = (Zt arr_0 x_l0 r0_l1 k (x_l0_1 + 1) (r0_l1_1.set (((arr_0.Mesh.Triangles.getD x_l0.toNat default).getD x_l0_1.toNat default).toNat) (Z1l arr_0 x_l0 x_l0_1 r0_l1_1))) := by simp only [Zt, h__0, cond_true]
   rw [e]
   exact nextS E0Ok Z3 [] Z5e [0, 1] (⟨.ref (GBody.cells arr_0) 0 :: .any :: .nils :: .ref (GBody.cells arr_0) 0 :: .own 0 :: an 4 (.i .i64 x_l0 :: .sl ((arr_0.Mesh.Triangles.getD x_l0.toNat default).map (cI .i64)) :: .ptr 1 0 0 :: .f .f32 (Z1k arr_0 x_l0) :: .i .i64 (x_l0_1 + 1) :: an 6 (.ref (GBody.cells arr_0) 0 :: .ref (GBody.cells arr_0) 0 :: .ref (GBody.cells arr_0) 0 :: .ref (GBody.cells arr_0) 0 :: .ref (GBody.cells arr_0) 0 :: .ref (GBody.cells arr_0) 0 :: .sl (arr_0.Mesh.Places.map GVector.cells) :: .i .i64 (arr_0.Mesh.Places.length : Int) :: .own 0 :: .ref (GBody.cells arr_0) 0 :: .ref (GBody.cells arr_0) 0 :: .ref (GBody.cells arr_0) 2 :: .sl (arr_0.Springs.map GSpring.cells) :: an 52 (.ref (GBody.cells arr_0) 0 :: .ref (GBody.cells arr_0) 0 :: .ref (GBody.cells arr_0) 1 :: .sl (arr_0.Mesh.Triangles.map (cL (cI .i64))) :: .i .i64 (arr_0.Mesh.Triangles.length : Int) :: .i .i64 x_l0 :: .b (decide (x_l0 < (arr_0.Mesh.Triangles.length : Int))) :: .i .i64 x_l0 :: .ref (GBody.cells arr_0) 0 :: .ref (GBody.cells arr_0) 0 :: .ref (GBody.cells arr_0) 1 :: .sl (arr_0.Mesh.Triangles.map (cL (cI .i64))) :: .i .i64 x_l0 :: .ref [.sl ((arr_0.Mesh.Triangles.getD x_l0.toNat default).map (cI .i64))] 0 :: .sl ((arr_0.Mesh.Triangles.getD x_l0.toNat default).map (cI .i64)) :: .ref (GBody.cells arr_0) 0 :: .sl ((arr_0.Mesh.Triangles.getD x_l0.toNat default).map (cI .i64)) :: .agg [.f .f32 ((Z9 arr_0.Mesh (arr_0.Mesh.Triangles.getD x_l0.toNat default)).X), .f .f32 ((Z9 arr_0.Mesh (arr_0.Mesh.Triangles.getD x_l0.toNat default)).Y), .f .f32 ((Z9 arr_0.Mesh (arr_0.Mesh.Triangles.getD x_l0.toNat default)).Z)] :: .ref (GBody.cells arr_0) 0 :: .ref (GBody.cells arr_0) 0 :: .ref (GBody.cells arr_0) 3 :: .f .f32 arr_0.Film :: .f .f32 (fop .mul .f32 1056964608 arr_0.Film) :: .f .f32 (fneg .f32 (fop .mul .f32 1056964608 arr_0.Film)) :: .agg [.f .f32 ((Z9 arr_0.Mesh (arr_0.Mesh.Triangles.getD x_l0.toNat default)).X), .f .f32 ((Z9 arr_0.Mesh (arr_0.Mesh.Triangles.getD x_l0.toNat default)).Y), .f .f32 ((Z9 arr_0.Mesh (arr_0.Mesh.Triangles.getD x_l0.toNat default)).Z)] :: .f .f32 (Zg (Z9 arr_0.Mesh (arr_0.Mesh.Triangles.getD x_l0.toNat default))) :: .f .f32 (Z1k arr_0 x_l0) :: an 168 []))), [.vec 40 3 ((r0_l1_1.map GVector.cells).set (((arr_0.Mesh.Triangles.getD x_l0.toNat default).getD x_l0_1.toNat default).toNat) [.f .f32 ((Z1l arr_0 x_l0 x_l0_1 r0_l1_1).X), .f .f32 ((Z1l arr_0 x_l0 x_l0_1 r0_l1_1).Y), .f .f32 ((Z1l arr_0 x_l0 x_l0_1 r0_l1_1).Z)]) false, .box 40 [.f .f32 ((Z9 arr_0.Mesh (arr_0.Mesh.Triangles.getD x_l0.toNat default)).X), .f .f32 ((Z9 arr_0.Mesh (arr_0.Mesh.Triangles.getD x_l0.toNat default)).Y), .f .f32 ((Z9 arr_0.Mesh (arr_0.Mesh.Triangles.getD x_l0.toNat default)).Z)]]⟩) (sB h__0 <| sK [26, 26] <| sI (x_l0_1 + 2) y__0 y__1 <| sC (show (3 : Int) ≠ 0 from (by decide)) <| sQ (Int.tmod (x_l0_1 + 2) 3) <| sG (cI .i64) (arr_0.Mesh.Triangles.getD x_l0.toNat default) (Int.tmod (x_l0_1 + 2) 3) y__2 y__3 <| sG GVector.cells arr_0.Mesh.Places ((arr_0.Mesh.Triangles.getD x_l0.toNat default).getD (Int.tmod (x_l0_1 + 2) 3).toNat default) y__4 y__5 <| sI (x_l0_1 + 1) y__6 y__7 <| sC (show (3 : Int) ≠ 0 from (by decide)) <| sQ (Int.tmod (x_l0_1 + 1) 3) <| sG (cI .i64) (arr_0.Mesh.Triangles.getD x_l0.toNat default) (Int.tmod (x_l0_1 + 1) 3) y__8 y__9 <| sG GVector.cells arr_0.Mesh.Places ((arr_0.Mesh.Triangles.getD x_l0.toNat default).getD (Int.tmod (x_l0_1 + 1) 3).toNat default) y__10 y__11 <| sF (Z3Z (arr_0.Mesh.Places.getD ((arr_0.Mesh.Triangles.getD x_l0.toNat default).getD (Int.tmod (x_l0_1 + 2) 3).toNat default).toNat default) (arr_0.Mesh.Places.getD ((arr_0.Mesh.Triangles.getD x_l0.toNat default).getD (Int.tmod (x_l0_1 + 1) 3).toNat default).toNat default)) <| sK [18, 18] <| sG (cI .i64) (arr_0.Mesh.Triangles.getD x_l0.toNat default) x_l0_1 y__12 y__13 <| sG (cI .i64) (arr_0.Mesh.Triangles.getD x_l0.toNat default) x_l0_1 y__12 y__13 <| sX GVector.cells r0_l1_1 ((arr_0.Mesh.Triangles.getD x_l0.toNat default).getD x_l0_1.toNat default) y__14 y__15 <| sV GVector.cells r0_l1_1 (((arr_0.Mesh.Triangles.getD x_l0.toNat default).getD x_l0_1.toNat default).toNat) y__16 <| sF (Z6R (Z9 arr_0.Mesh (arr_0.Mesh.Triangles.getD x_l0.toNat default)) (Z4o arr_0 x_l0 x_l0_1)) <| sF (Z2N (Z3k (Z9 arr_0.Mesh (arr_0.Mesh.Triangles.getD x_l0.toNat default)) (Z4o arr_0 x_l0 x_l0_1)) (Z1k arr_0 x_l0)) <| sF (Z2F (r0_l1_1.getD (((arr_0.Mesh.Triangles.getD x_l0.toNat default).getD x_l0_1.toNat default).toNat) default) (Z3H arr_0 x_l0 x_l0_1)) <| sX GVector.cells r0_l1_1 ((arr_0.Mesh.Triangles.getD x_l0.toNat default).getD x_l0_1.toNat default) y__14 y__15 <| sC (maplt (c := GVector.cells) (l := r0_l1_1) y__16) <| sI (x_l0_1 + 1) y__6 y__7 <| sN) (by kernel_rfl) (show _ = ⟨.ref (GBody.cells arr_0) 0 :: .any :: .nils :: .ref (GBody.cells arr_0) 0 :: .own 0 :: an 4 (.i .i64 x_l0 :: .sl ((arr_0.Mesh.Triangles.getD x_l0.toNat default).map (cI .i64)) :: .ptr 1 0 0 :: .f .f32 (Z1k arr_0 x_l0) :: .i .i64 (x_l0_1 + 1) :: an 6 (.ref (GBody.cells arr_0) 0 :: .ref (GBody.cells arr_0) 0 :: .ref (GBody.cells arr_0) 0 :: .ref (GBody.cells arr_0) 0 :: .ref (GBody.cells arr_0) 0 :: .ref (GBody.cells arr_0) 0 :: .sl (arr_0.Mesh.Places.map GVector.cells) :: .i .i64 (arr_0.Mesh.Places.length : Int) :: .own 0 :: .ref (GBody.cells arr_0) 0 :: .ref (GBody.cells arr_0) 0 :: .ref (GBody.cells arr_0) 2 :: .sl (arr_0.Springs.map GSpring.cells) :: an 52 (.ref (GBody.cells arr_0) 0 :: .ref (GBody.cells arr_0) 0 :: .ref (GBody.cells arr_0) 1 :: .sl (arr_0.Mesh.Triangles.map (cL (cI .i64))) :: .i .i64 (arr_0.Mesh.Triangles.length : Int) :: .i .i64 x_l0 :: .b (decide (x_l0 < (arr_0.Mesh.Triangles.length : Int))) :: .i .i64 x_l0 :: .ref (GBody.cells arr_0) 0 :: .ref (GBody.cells arr_0) 0 :: .ref (GBody.cells arr_0) 1 :: .sl (arr_0.Mesh.Triangles.map (cL (cI .i64))) :: .i .i64 x_l0 :: .ref [.sl ((arr_0.Mesh.Triangles.getD x_l0.toNat default).map (cI .i64))] 0 :: .sl ((arr_0.Mesh.Triangles.getD x_l0.toNat default).map (cI .i64)) :: .ref (GBody.cells arr_0) 0 :: .sl ((arr_0.Mesh.Triangles.getD x_l0.toNat default).map (cI .i64)) :: .agg [.f .f32 ((Z9 arr_0.Mesh (arr_0.Mesh.Triangles.getD x_l0.toNat default)).X), .f .f32 ((Z9 arr_0.Mesh (arr_0.Mesh.Triangles.getD x_l0.toNat default)).Y), .f .f32 ((Z9 arr_0.Mesh (arr_0.Mesh.Triangles.getD x_l0.toNat default)).Z)] :: .ref (GBody.cells arr_0) 0 :: .ref (GBody.cells arr_0) 0 :: .ref (GBody.cells arr_0) 3 :: .f .f32 arr_0.Film :: .f .f32 (fop .mul .f32 1056964608 arr_0.Film) :: .f .f32 (fneg .f32 (fop .mul .f32 1056964608 arr_0.Film)) :: .agg [.f .f32 ((Z9 arr_0.Mesh (arr_0.Mesh.Triangles.getD x_l0.toNat default)).X), .f .f32 ((Z9 arr_0.Mesh (arr_0.Mesh.Triangles.getD x_l0.toNat default)).Y), .f .f32 ((Z9 arr_0.Mesh (arr_0.Mesh.Triangles.getD x_l0.toNat default)).Z)] :: .f .f32 (Zg (Z9 arr_0.Mesh (arr_0.Mesh.Triangles.getD x_l0.toNat default))) :: .f .f32 (Z1k arr_0 x_l0) :: an 168 []))), [.vec 40 3 ((r0_l1_1.set (((arr_0.Mesh.Triangles.getD x_l0.toNat default).getD x_l0_1.toNat default).toNat) (Z1l arr_0 x_l0 x_l0_1 r0_l1_1)).map GVector.cells) false, .box 40 [.f .f32 ((Z9 arr_0.Mesh (arr_0.Mesh.Triangles.getD x_l0.toNat default)).X), .f .f32 ((Z9 arr_0.Mesh (arr_0.Mesh.Triangles.getD x_l0.toNat default)).Y), .f .f32 ((Z9 arr_0.Mesh (arr_0.Mesh.Triangles.getD x_l0.toNat default)).Z)]]⟩ from (by simp [List.map_set, GVector.cells])) (ih (x_l0_1 + 1) (r0_l1_1.set (((arr_0.Mesh.Triangles.getD x_l0.toNat default).getD x_l0_1.toNat default).toNat) (Z1l arr_0 x_l0 x_l0_1 r0_l1_1)) (show 0 ≤ (x_l0_1 + 1) from (by omega)) (show (r0_l1_1.set (((arr_0.Mesh.Triangles.getD x_l0.toNat default).getD x_l0_1.toNat default).toNat) (Z1l arr_0 x_l0 x_l0_1 r0_l1_1)).length = r0_l1.length from (by have q := Z1F hp5.e (by assumption) (of_decide_eq_true Z18) (by assumption) gh__0; (simp only [List.length_set]; omega))) (by omega))
  | false =>
   have gh__0 := of_decide_eq_false h__0
   have e : Zt arr_0 x_l0 r0_l1 (k + 1) x_l0_1 r0_l1_1 = r0_l1_1 := by simp only [Zt, h__0, cond_false]
   rw [e]
   exact outR (e := (.exit 4)) E0Ok Z3 [] Z72 [0, 1] (sB h__0 <| sN) (by kernel_rfl) (by intro h; cases h)
end Go.Ab
