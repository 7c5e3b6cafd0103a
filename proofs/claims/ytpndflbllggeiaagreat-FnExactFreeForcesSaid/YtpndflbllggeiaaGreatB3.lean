/- The functions of this seat as plain Lean, and that the program's are these. Printed by a program of the prover's own. -/
import Derived.Test.YtpndflbllggeiaaGreatB2
set_option linter.unusedVariables false
set_option linter.unusedSimpArgs false
set_option maxRecDepth 100000
namespace Go.Ab
open Go.RowKit Go.Proofs.Tryz
def Z1K (list_0 : (List Int)) (n_1 : Int) : Nat → Int → (Unit) ⊕ (Unit)
  | 0, _ => .inl default
  | k + 1, i_l0 => (cond (decide (i_l0 < (list_0.length : Int)))
    (cond ((list_0.getD i_l0.toNat default) == n_1)
      (.inl ())
      (Z1K list_0 n_1 k (i_l0 + 1)))
    (.inr ()))
def Z4F (list_0 : (List Int)) (n_1 : Int) : (Unit) ⊕ (Unit) → Ex × St
  | .inl r => (.ret, ⟨an 4 (.b true :: an 13 []), []⟩)
  | .inr r => ((.exit 0), ⟨an 18 [], []⟩)
def Zaa (list_0 : (List Int)) (n_1 : Int) (i_l0 : Int) : St := ⟨.sl (list_0.map (cI .i64)) :: .i .i64 n_1 :: .any :: .any :: .any :: .i .i64 i_l0 :: an 12 [], []⟩
theorem Z7A (list_0 : (List Int)) (n_1 : Int) (hp0 : list_0.length ≤ 1073741824) : ∀ (k : Nat) (i_l0 : Int) (Z71 : 0 ≤ i_l0) (hk : ((list_0.length : Int) - i_l0).toNat < k), Lp prog 0 (sub (bodyOf f127) [1, 0, 1, 0, 0]) (Zaa list_0 n_1 i_l0) (Z4F list_0 n_1 (Z1K list_0 n_1 k i_l0)).1 (Z4F list_0 n_1 (Z1K list_0 n_1 k i_l0)).2 := by
 intro k
 induction k with
 | zero => intro i_l0 Z71 hk; exact absurd hk (Nat.not_lt_zero _)
 | succ k ih =>
  intro i_l0 Z71 hk
  have p {a C} (s : Scr a C) := sZ (cI .i64) list_0 <| s
  cases h_0 : (decide (i_l0 < (list_0.length : Int))) with
  | true =>
   have gh_0 := of_decide_eq_true h_0
   have y_0 : (0 : Int) ≤ i_l0 := by clear p; exact (by assumption)
   have y_1 : i_l0 < (list_0.length : Int) := by clear p; exact (by assumption)
   have q {a C} (s : Scr a C) := p (sB h_0 <| sG (cI .i64) list_0 i_l0 y_0 y_1 <| s)
   clear p
   cases h_1 : ((list_0.getD i_l0.toNat default) == n_1) with
   | true =>
    have gh_1 := eq_of_beq h_1
    have e : Z1K list_0 n_1 (k + 1) i_l0 = (.inl ()) := by simp only [Z1K, h_0, h_1, cond_true]
    rw [e]
    exact outR (e := .ret) E0Ok Z3 [] (mR false [4, 1, 13]) [] (q (sB h_1 <| sN)) (by kernel_rfl) (by intro h; cases h)
   | false =>
    have gh_1 := ne_of_beq_false h_1
    have y_2 : (-9223372036854775808 : Int) ≤ (i_l0 + 1) := by clear q; exact (by omega)
    have y_3 : (i_l0 + 1) ≤ (9223372036854775807 : Int) := by clear q; exact (by omega)
    have e : Z1K list_0 n_1 (k + 1) i_l0 = (Z1K list_0 n_1 k (i_l0 + 1)) := by simp only [Z1K, h_0, h_1, cond_true, cond_false]
    rw [e]
    exact nextR E0Ok Z3 [] (mR false [0, 2, 3, 1, 12]) [] (ih (i_l0 + 1) (show 0 ≤ (i_l0 + 1) from (by omega)) (by omega)) (q (sB h_1 <| sI (i_l0 + 1) y_2 y_3 <| sN)) (by kernel_rfl)
  | false =>
   have gh_0 := of_decide_eq_false h_0
   have e : Z1K list_0 n_1 (k + 1) i_l0 = (.inr ()) := by simp only [Z1K, h_0, cond_false]
   rw [e]
   exact outR (e := (.exit 0)) E0Ok Z3 [] (mR false [18]) [] (p (sB h_0 <| sN)) (by kernel_rfl) (by intro h; cases h)
def Z3v (list_0 : (List Int)) (n_1 : Int) : (Unit) ⊕ (Unit) := (Z1K list_0 n_1 (((list_0.length : Int) - 0).toNat + 1) 0)
def Z1b (list_0 : (List Int)) (n_1 : Int) : Bool := (match (Z3v list_0 n_1) with
  | .inl r1 => true
  | .inr r1 => false)
theorem Z8F (list_0 : (List Int)) (n_1 : Int) (hp0 : list_0.length ≤ 1073741824)  : Fn prog 127 [.sl (list_0.map (cI .i64)), .i .i64 n_1] (.b (Z1b list_0 n_1)) [] := by
 cases h0 : (Z3v list_0 n_1) with
 | inl r1 =>
  refine fnS E0Ok Z3 (c := bodyOf f127) [] (.b true) [] func127 (sL (mR false [0, 2, 3, 1, 12]) 0 (lp_val (Z4F list_0 n_1) (x := (Z3v list_0 n_1)) (Z7A list_0 n_1 hp0 (((list_0.length : Int) - 0).toNat + 1) 0 (show 0 ≤ 0 from (by omega)) (Nat.lt_succ_self _)) h0) <| sK [] sN) rfl (by kernel_rfl) (by kernel_rfl) rfl ?_ ?_
  · simp only [Z1b, h0]
  · rfl
 | inr r1 =>
  refine fnS E0Ok Z3 (c := bodyOf f127) [] (.b false) [] func127 (sL (mR false [0, 2, 3, 1, 12]) 0 (lp_val (Z4F list_0 n_1) (x := (Z3v list_0 n_1)) (Z7A list_0 n_1 hp0 (((list_0.length : Int) - 0).toNat + 1) 0 (show 0 ≤ 0 from (by omega)) (Nat.lt_succ_self _)) h0) <| sK [] sN) rfl (by kernel_rfl) (by kernel_rfl) rfl ?_ ?_
  · simp only [Z1b, h0]
  · rfl
def ZU (t_0 : (List Int)) (i_1 : Int) (j_2 : Int) : Nat → Int → (Int) ⊕ (Unit)
  | 0, _ => .inl default
  | k + 1, x_l0 => (cond (decide (x_l0 < (t_0.length : Int)))
    (cond ((t_0.getD x_l0.toNat default) != i_1)
      (cond ((t_0.getD x_l0.toNat default) != j_2)
        (.inl (t_0.getD x_l0.toNat default))
        (ZU t_0 i_1 j_2 k (x_l0 + 1)))
      (ZU t_0 i_1 j_2 k (x_l0 + 1)))
    (.inr ()))
def Z4e (t_0 : (List Int)) (i_1 : Int) (j_2 : Int) : (Int) ⊕ (Unit) → Ex × St
  | .inl r => (.ret, ⟨an 6 (.i .i64 r :: an 35 []), []⟩)
  | .inr r => ((.exit 0), ⟨.sl (t_0.map (cI .i64)) :: .i .i64 i_1 :: .i .i64 j_2 :: an 5 (.sl (t_0.map (cI .i64)) :: .i .i64 i_1 :: .b (Z1b t_0 i_1) :: .b (!(Z1b t_0 i_1)) :: .b (!(Z1b t_0 i_1)) :: .sl (t_0.map (cI .i64)) :: .i .i64 j_2 :: .b (Z1b t_0 j_2) :: .b (!(Z1b t_0 j_2)) :: .b (!(Z1b t_0 j_2)) :: .sl (t_0.map (cI .i64)) :: an 23 []), []⟩)
def Z9g (t_0 : (List Int)) (i_1 : Int) (j_2 : Int) (x_l0 : Int) : St := ⟨.sl (t_0.map (cI .i64)) :: .i .i64 i_1 :: .i .i64 j_2 :: an 5 (.sl (t_0.map (cI .i64)) :: .i .i64 i_1 :: .b (Z1b t_0 i_1) :: .b (!(Z1b t_0 i_1)) :: .b (!(Z1b t_0 i_1)) :: .sl (t_0.map (cI .i64)) :: .i .i64 j_2 :: .b (Z1b t_0 j_2) :: .b (!(Z1b t_0 j_2)) :: .b (!(Z1b t_0 j_2)) :: .sl (t_0.map (cI .i64)) :: .i .i64 (t_0.length : Int) :: .i .i64 x_l0 :: an 21 []), []⟩
theorem Z72 (t_0 : (List Int)) (i_1 : Int) (j_2 : Int) (hp0 : t_0.length ≤ 1073741824) : ∀ (k : Nat) (x_l0 : Int) (Z6j : 0 ≤ x_l0) (hk : ((t_0.length : Int) - x_l0).toNat < k), Lp prog 0 (sub (bodyOf f138) [1, 1, 0, 1, 0, 0]) (Z9g t_0 i_1 j_2 x_l0) (Z4e t_0 i_1 j_2 (ZU t_0 i_1 j_2 k x_l0)).1 (Z4e t_0 i_1 j_2 (ZU t_0 i_1 j_2 k x_l0)).2 := by
 intro k
 induction k with
 | zero => intro x_l0 Z6j hk; exact absurd hk (Nat.not_lt_zero _)
 | succ k ih =>
  intro x_l0 Z6j hk
  cases h_0 : (decide (x_l0 < (t_0.length : Int))) with
  | true =>
   have gh_0 := of_decide_eq_true h_0
   have y_0 : (0 : Int) ≤ x_l0 := (by assumption)
   have y_1 : x_l0 < (t_0.length : Int) := (by assumption)
   have p {a C} (s : Scr a C) := sB h_0 <| sG (cI .i64) t_0 x_l0 y_0 y_1 <| s
   cases h_1 : ((t_0.getD x_l0.toNat default) != i_1) with
   | true =>
    have gh_1 := bne_iff_ne.1 h_1
    have q {a C} (s : Scr a C) := p (sB h_1 <| sB h_1 <| sB h_1 <| sG (cI .i64) t_0 x_l0 y_0 y_1 <| sB h_1 <| sB h_1 <| sB h_1 <| sB h_1 <| s)
    clear p
    cases h_2 : ((t_0.getD x_l0.toNat default) != j_2) with
    | true =>
     have gh_2 := bne_iff_ne.1 h_2
     have e : ZU t_0 i_1 j_2 (k + 1) x_l0 = (.inl (t_0.getD x_l0.toNat default)) := by simp only [ZU, h_0, h_1, h_2, cond_true]
     rw [e]
     exact outR (e := .ret) E0Ok Z3 [] (mR false [6, 1, 35]) [] (q (sB h_2 <| sG (cI .i64) t_0 x_l0 y_0 y_1 <| sN)) (by kernel_rfl) (by intro h; cases h)
    | false =>
     have gh_2 := bne_eq_false_iff_eq.1 h_2
     have y_2 : (-9223372036854775808 : Int) ≤ (x_l0 + 1) := by clear q; exact (by omega)
     have y_3 : (x_l0 + 1) ≤ (9223372036854775807 : Int) := by clear q; exact (by omega)
     have e : ZU t_0 i_1 j_2 (k + 1) x_l0 = (ZU t_0 i_1 j_2 k (x_l0 + 1)) := by simp only [ZU, h_0, h_1, h_2, cond_true, cond_false]
     rw [e]
     exact nextR E0Ok Z3 [] (mR false [0, 3, 5, 13, 21]) [] (ih (x_l0 + 1) (show 0 ≤ (x_l0 + 1) from (by omega)) (by omega)) (q (sB h_2 <| sI (x_l0 + 1) y_2 y_3 <| sN)) (by kernel_rfl)
   | false =>
    have gh_1 := bne_eq_false_iff_eq.1 h_1
    have y_2 : (-9223372036854775808 : Int) ≤ (x_l0 + 1) := by clear p; exact (by omega)
    have y_3 : (x_l0 + 1) ≤ (9223372036854775807 : Int) := by clear p; exact (by omega)
    have e : ZU t_0 i_1 j_2 (k + 1) x_l0 = (ZU t_0 i_1 j_2 k (x_l0 + 1)) := by simp only [ZU, h_0, h_1, cond_true, cond_false]
    rw [e]
    exact nextR E0Ok Z3 [] (mR false [0, 3, 5, 13, 21]) [] (ih (x_l0 + 1) (show 0 ≤ (x_l0 + 1) from (by omega)) (by omega)) (p (sB h_1 <| sB h_1 <| sB h_1 <| sB h_1 <| sB h_1 <| sB h_1 <| sB h_1 <| sB (show false = false from rfl) <| sI (x_l0 + 1) y_2 y_3 <| sN)) (by kernel_rfl)
  | false =>
   have gh_0 := of_decide_eq_false h_0
   have e : ZU t_0 i_1 j_2 (k + 1) x_l0 = (.inr ()) := by simp only [ZU, h_0, cond_false]
   rw [e]
   exact outR (e := (.exit 0)) E0Ok Z3 [] (mR false [0, 3, 5, 11, 23]) [] (sB h_0 <| sN) (by kernel_rfl) (by intro h; cases h)
def Z3n (t_0 : (List Int)) (i_1 : Int) (j_2 : Int) : (Int) ⊕ (Unit) := (ZU t_0 i_1 j_2 (((t_0.length : Int) - 0).toNat + 1) 0)
def Z2E (t_0 : (List Int)) (i_1 : Int) (j_2 : Int) : Int := (cond (Z1b t_0 i_1)
  (cond (Z1b t_0 j_2)
    (match (Z3n t_0 i_1 j_2) with
      | .inl r3 => r3
      | .inr r3 => (-1))
    (-1))
  (-1))
theorem ZbE {x y z a b : Int} (n1 : x ≠ y) (n2 : y ≠ z) (n3 : x ≠ z) (hab : a ≠ b) : Z2E [x, y, z] a b = if tHas [x, y, z] a b = true then thd [x, y, z] a b else -1 := by
  have hs : ∀ c : Int, Z1b [x, y, z] c = (x == c || (y == c || z == c)) := by
    intro c
    unfold Z1b Z3v
    show (match Z1K [x, y, z] c 4 0 with | .inl r1 => true | .inr r1 => false) = _
    simp only [Z1K, List.length_cons, List.length_nil]
    cases h1 : (x == c) <;> cases h2 : (y == c) <;> cases h3 : (z == c) <;> simp [h1, h2, h3]
  unfold Z2E
  rw [hs, hs]
  by_cases hh : tHas [x, y, z] a b = true
  · rw [if_pos hh]
    have hq := hh
    unfold tHas at hq
    simp only [List.getD_cons_zero, List.getD_cons_succ, Bool.and_eq_true] at hq
    rw [hq.1, hq.2, cond_true, cond_true]
    unfold Z3n
    show (match ZU [x, y, z] a b 4 0 with | .inl r3 => r3 | .inr r3 => (-1)) = _
    simp only [ZU, List.length_cons, List.length_nil]
    rcases tHas_eq n1 n2 n3 hab hh with ⟨h0, h1, h2, h3, h4⟩ | ⟨h0, h1, h2, h3, h4⟩ | ⟨h0, h1, h2, h3, h4⟩
    · rw [h0]; simp [bne_iff_ne.2 h1, bne_iff_ne.2 h2]
    · rw [h0]
      rcases h3 with rfl | rfl
      · simp [bne_iff_ne.2 h1, bne_iff_ne.2 h2]
      · simp [bne_iff_ne.2 h1, bne_iff_ne.2 h2]
    · rw [h0]
      rcases h3 with rfl | rfl <;> rcases h4 with rfl | rfl <;> first | exact absurd rfl n1 | simp [bne_iff_ne.2 h1, bne_iff_ne.2 h2]
  · rw [if_neg hh]
    unfold tHas at hh
    simp only [List.getD_cons_zero, List.getD_cons_succ, Bool.and_eq_true, not_and, Bool.not_eq_true] at hh
    cases h1 : (x == a || (y == a || z == a)) with
    | false => rfl
    | true => rw [hh h1]; rfl
theorem Zax (t_0 : (List Int)) (i_1 : Int) (j_2 : Int) (hp0 : t_0.length ≤ 1073741824)  : Fn prog 138 [.sl (t_0.map (cI .i64)), .i .i64 i_1, .i .i64 j_2] (.i .i64 (Z2E t_0 i_1 j_2)) [] := by
 have p {a C} (s : Scr a C) := sF (Z8F t_0 i_1 hp0) <| s
 cases h0 : (Z1b t_0 i_1) with
 | true =>
  have q {a C} (s : Scr a C) := p (sB' h0 <| sB' h0 <| sB' h0 <| sF (Z8F t_0 j_2 hp0) <| sB' h0 <| sB' h0 <| s)
  clear p
  cases h1 : (Z1b t_0 j_2) with
  | true =>
   have p {a C} (s : Scr a C) := q (sB' h1 <| sZ (cI .i64) t_0 <| s)
   clear q
   cases h2 : (Z3n t_0 i_1 j_2) with
   | inl r3 =>
    refine fnS E0Ok Z3 (c := bodyOf f138) [] (.i .i64 r3) [] func138 (p (sL (mR false [0, 3, 5, 13, 21]) 0 (lp_val (Z4e t_0 i_1 j_2) (x := (Z3n t_0 i_1 j_2)) (Z72 t_0 i_1 j_2 hp0 (((t_0.length : Int) - 0).toNat + 1) 0 (show 0 ≤ 0 from (by omega)) (Nat.lt_succ_self _)) h2) <| sK [] sN)) rfl (by kernel_rfl) (by kernel_rfl) rfl ?_ ?_
    · simp only [Z2E, h0, h1, h2, cond_true]
    · rfl
   | inr r3 =>
    refine fnS E0Ok Z3 (c := bodyOf f138) [] (.i .i64 (-1)) [] func138 (p (sL (mR false [0, 3, 5, 13, 21]) 0 (lp_val (Z4e t_0 i_1 j_2) (x := (Z3n t_0 i_1 j_2)) (Z72 t_0 i_1 j_2 hp0 (((t_0.length : Int) - 0).toNat + 1) 0 (show 0 ≤ 0 from (by omega)) (Nat.lt_succ_self _)) h2) <| sK [] sN)) rfl (by kernel_rfl) (by kernel_rfl) rfl ?_ ?_
    · simp only [Z2E, h0, h1, h2, cond_true]
    · rfl
  | false =>
   refine fnS E0Ok Z3 (c := bodyOf f138) [] (.i .i64 (-1)) [] func138 (q (sB' h1 <| sK [] sN)) rfl (by kernel_rfl) (by kernel_rfl) rfl ?_ ?_
   · simp only [Z2E, h0, h1, cond_true, cond_false]
   · rfl
 | false =>
  refine fnS E0Ok Z3 (c := bodyOf f138) [] (.i .i64 (-1)) [] func138 (p (sB' h0 <| sB' h0 <| sB' h0 <| sB' h0 <| sB' h0 <| sB (show true = true from rfl) <| sK [] sN)) rfl (by kernel_rfl) (by kernel_rfl) rfl ?_ ?_
  · simp only [Z2E, h0, cond_false]
  · rfl
def Z1e (m_0 : GMesh) (x_l0 : Int) (x_l0_1 : Int) : Int := (Z2E (m_0.Triangles.getD x_l0_1.toNat default) (((Z4 m_0).getD x_l0.toNat default).getD 0 default) (((Z4 m_0).getD x_l0.toNat default).getD 1 default))
def Z15 (m_0 : GMesh) (x_l0 : Int) (r0_l1 : (List (List Int))) : Nat → Int → (List Int) → (List Int)
  | 0, _, _ => default
  | k + 1, x_l0_1, r2_l1 => (cond (decide (x_l0_1 < (m_0.Triangles.length : Int)))
    (cond (decide ((Z1e m_0 x_l0 x_l0_1) ≥ 0))
      (Z15 m_0 x_l0 r0_l1 k (x_l0_1 + 1) (r2_l1 ++ [(Z1e m_0 x_l0 x_l0_1)]))
      (Z15 m_0 x_l0 r0_l1 k (x_l0_1 + 1) r2_l1))
    r2_l1)
def Z4W (m_0 : GMesh) (x_l0 : Int) (r0_l1 : (List (List Int))) (r : (List Int)) : Ex × St := ((.exit 2), ⟨.ref (GMesh.cells m_0) 0 :: .any :: .nils :: .own 0 :: .own 1 :: .i .i64 x_l0 :: .i .i64 (((Z4 m_0).getD x_l0.toNat default).getD 0 default) :: .i .i64 (((Z4 m_0).getD x_l0.toNat default).getD 1 default) :: .own 2 :: .any :: .any :: .any :: .ref (GMesh.cells m_0) 0 :: .own 1 :: .own 1 :: .i .i64 ((Z4 m_0).length : Int) :: .i .i64 x_l0 :: .b (decide (x_l0 < ((Z4 m_0).length : Int))) :: .i .i64 x_l0 :: .own 1 :: .i .i64 x_l0 :: .ptr 1 x_l0.toNat 0 :: .inn 1 x_l0.toNat :: .ipt 1 x_l0.toNat 0 :: .i .i64 (((Z4 m_0).getD x_l0.toNat default).getD 0 default) :: .own 1 :: .i .i64 x_l0 :: .ptr 1 x_l0.toNat 0 :: .inn 1 x_l0.toNat :: .ipt 1 x_l0.toNat 1 :: .i .i64 (((Z4 m_0).getD x_l0.toNat default).getD 1 default) :: .i .i64 (((Z4 m_0).getD x_l0.toNat default).getD 0 default) :: .i .i64 (((Z4 m_0).getD x_l0.toNat default).getD 1 default) :: .any :: .ref (GMesh.cells m_0) 0 :: .ref (GMesh.cells m_0) 0 :: .ref (GMesh.cells m_0) 1 :: .sl (m_0.Triangles.map (cL (cI .i64))) :: .i .i64 (m_0.Triangles.length : Int) :: an 29 [], [.nest 49 (r0_l1.map fun l => l.map (cI .i64)) false, .nest 49 ((Z4 m_0).map fun l => l.map (cI .i64)) false, .vec 2 1 (r.map (cI .i64)) false]⟩)
def Z6H (m_0 : GMesh) (x_l0 : Int) (r0_l1 : (List (List Int))) (x_l0_1 : Int) (r2_l1 : (List Int)) : St := ⟨.ref (GMesh.cells m_0) 0 :: .any :: .nils :: .own 0 :: .own 1 :: .i .i64 x_l0 :: .i .i64 (((Z4 m_0).getD x_l0.toNat default).getD 0 default) :: .i .i64 (((Z4 m_0).getD x_l0.toNat default).getD 1 default) :: .own 2 :: .any :: .any :: .any :: .ref (GMesh.cells m_0) 0 :: .own 1 :: .own 1 :: .i .i64 ((Z4 m_0).length : Int) :: .i .i64 x_l0 :: .b (decide (x_l0 < ((Z4 m_0).length : Int))) :: .i .i64 x_l0 :: .own 1 :: .i .i64 x_l0 :: .ptr 1 x_l0.toNat 0 :: .inn 1 x_l0.toNat :: .ipt 1 x_l0.toNat 0 :: .i .i64 (((Z4 m_0).getD x_l0.toNat default).getD 0 default) :: .own 1 :: .i .i64 x_l0 :: .ptr 1 x_l0.toNat 0 :: .inn 1 x_l0.toNat :: .ipt 1 x_l0.toNat 1 :: .i .i64 (((Z4 m_0).getD x_l0.toNat default).getD 1 default) :: .i .i64 (((Z4 m_0).getD x_l0.toNat default).getD 0 default) :: .i .i64 (((Z4 m_0).getD x_l0.toNat default).getD 1 default) :: .any :: .ref (GMesh.cells m_0) 0 :: .ref (GMesh.cells m_0) 0 :: .ref (GMesh.cells m_0) 1 :: .sl (m_0.Triangles.map (cL (cI .i64))) :: .i .i64 (m_0.Triangles.length : Int) :: .i .i64 x_l0_1 :: an 28 [], [.nest 49 (r0_l1.map fun l => l.map (cI .i64)) false, .nest 49 ((Z4 m_0).map fun l => l.map (cI .i64)) false, .vec 2 1 (r2_l1.map (cI .i64)) false]⟩
def Z4n : List Bool := (mR false [0, 1, 1, 7, 3, 21, 1, 6, 28])
def Z85 : List Bool := (mR false [0, 1, 1, 7, 3, 21, 1, 5, 29])
set_option maxHeartbeats 1000000 in
theorem Z8N (m_0 : GMesh) (x_l0 : Int) (r0_l1 : (List (List Int))) (hp0 : m_0.Places.length ≤ 1073741824) (hp1 : m_0.Triangles.length ≤ 1073741824) (hp2 : ∀ t ∈ m_0.Triangles, t.length ≤ 1073741824) (hp3 : OkE m_0.Places.length m_0.Triangles) (Z1s : 0 ≤ x_l0) (Z3C : (r0_l1.length : Int) ≤ x_l0) (ZbR : (decide (x_l0 < ((Z4 m_0).length : Int))) = true) : ∀ (k : Nat) (x_l0_1 : Int) (r2_l1 : (List Int)) (Z5P : 0 ≤ x_l0_1) (Z5Q : (r2_l1.length : Int) ≤ 2 + x_l0_1) (hk : ((m_0.Triangles.length : Int) - x_l0_1).toNat < k), Lp prog 0 (sub (bodyOf f101) [1, 1, 1, 0, 1, 0, 0, 1, 1, 0, 0, 1, 1, 1, 1, 0, 1, 0, 0]) (Z6H m_0 x_l0 r0_l1 x_l0_1 r2_l1) (Z4W m_0 x_l0 r0_l1 (Z15 m_0 x_l0 r0_l1 k x_l0_1 r2_l1)).1 (Z4W m_0 x_l0 r0_l1 (Z15 m_0 x_l0 r0_l1 k x_l0_1 r2_l1)).2 := by
 intro k
 induction k with
 | zero => intro x_l0_1 r2_l1 Z5P Z5Q hk; exact absurd hk (Nat.not_lt_zero _)
 | succ k ih =>
  intro x_l0_1 r2_l1 Z5P Z5Q hk
  cases h__0 : (decide (x_l0_1 < (m_0.Triangles.length : Int))) with
  | true =>
   have gh__0 := of_decide_eq_true h__0
   have y__0 : (0 : Int) ≤ x_l0_1 := (by assumption)
   have y__1 : x_l0_1 < (m_0.Triangles.length : Int) := (by assumption)
   have y__2 : (m_0.Triangles.getD x_l0_1.toNat default).length ≤ 1073741824 := (by simp_all <;> omega)
   have p {a C} (s : Scr a C) := sB h__0 <| sG (cL (cI .i64)) m_0.Triangles x_l0_1 y__0 y__1 <| sF (Zax (m_0.Triangles.getD x_l0_1.toNat default) (((Z4 m_0).getD x_l0.toNat default).getD 0 default) (((Z4 m_0).getD x_l0.toNat default).getD 1 default) y__2) <| s
   cases h__1 : (decide ((Z1e m_0 x_l0 x_l0_1) ≥ 0)) with
   | true =>
    have gh__1 := of_decide_eq_true h__1
    have y__3 : r2_l1.length + ([(Z1e m_0 x_l0 x_l0_1)]).length ≤ 1073741824 := by clear p; exact (by ((have := hp3.2.1; have g4 := of_decide_eq_true h__0; (simp only [List.length_append, List.length_cons, List.length_nil]; omega))))
    have y__4 : (-9223372036854775808 : Int) ≤ (x_l0_1 + 1) := by clear p; exact (by omega)
    have y__5 : (x_l0_1 + 1) ≤ (9223372036854775807 : Int) := by clear p; exact (by omega)
    have e : Z15 m_0 x_l0 r0_l1 (k + 1) x_l0_1 r2_l1 = (Z15 m_0 x_l0 r0_l1 k (x_l0_1 + 1) (r2_l1 ++ [(Z1e m_0 x_l0 x_l0_1)])) := by simp only [Z15, h__0, h__1, cond_true]
    rw [e]
    exact nextS E0Ok Z3 [] Z4n [0, 1, 2] (⟨.ref (GMesh.cells m_0) 0 :: .any :: .nils :: .own 0 :: .own 1 :: .i .i64 x_l0 :: .i .i64 (((Z4 m_0).getD x_l0.toNat default).getD 0 default) :: .i .i64 (((Z4 m_0).getD x_l0.toNat default).getD 1 default) :: .own 2 :: .any :: .any :: .any :: .ref (GMesh.cells m_0) 0 :: .own 1 :: .own 1 :: .i .i64 ((Z4 m_0).length : Int) :: .i .i64 x_l0 :: .b (decide (x_l0 < ((Z4 m_0).length : Int))) :: .i .i64 x_l0 :: .own 1 :: .i .i64 x_l0 :: .ptr 1 x_l0.toNat 0 :: .inn 1 x_l0.toNat :: .ipt 1 x_l0.toNat 0 :: .i .i64 (((Z4 m_0).getD x_l0.toNat default).getD 0 default) :: .own 1 :: .i .i64 x_l0 :: .ptr 1 x_l0.toNat 0 :: .inn 1 x_l0.toNat :: .ipt 1 x_l0.toNat 1 :: .i .i64 (((Z4 m_0).getD x_l0.toNat default).getD 1 default) :: .i .i64 (((Z4 m_0).getD x_l0.toNat default).getD 0 default) :: .i .i64 (((Z4 m_0).getD x_l0.toNat default).getD 1 default) :: .any :: .ref (GMesh.cells m_0) 0 :: .ref (GMesh.cells m_0) 0 :: .ref (GMesh.cells m_0) 1 :: .sl (m_0.Triangles.map (cL (cI .i64))) :: .i .i64 (m_0.Triangles.length : Int) :: .i .i64 (x_l0_1 + 1) :: an 28 [], [.nest 49 (r0_l1.map fun l => l.map (cI .i64)) false, .nest 49 ((Z4 m_0).map fun l => l.map (cI .i64)) false, .vec 2 1 ((r2_l1.map (cI .i64)) ++ ([[.i .i64 (Z1e m_0 x_l0 x_l0_1)]] : List (List AV))) false]⟩) (p (sB h__1 <| sC (show (r2_l1.map (cI .i64)).length + ([[.i .i64 (Z1e m_0 x_l0 x_l0_1)]] : List (List AV)).length ≤ 1073741824 from (by simpa using y__3)) <| sI (x_l0_1 + 1) y__4 y__5 <| sN)) (by kernel_rfl) (show _ = ⟨.ref (GMesh.cells m_0) 0 :: .any :: .nils :: .own 0 :: .own 1 :: .i .i64 x_l0 :: .i .i64 (((Z4 m_0).getD x_l0.toNat default).getD 0 default) :: .i .i64 (((Z4 m_0).getD x_l0.toNat default).getD 1 default) :: .own 2 :: .any :: .any :: .any :: .ref (GMesh.cells m_0) 0 :: .own 1 :: .own 1 :: .i .i64 ((Z4 m_0).length : Int) :: .i .i64 x_l0 :: .b (decide (x_l0 < ((Z4 m_0).length : Int))) :: .i .i64 x_l0 :: .own 1 :: .i .i64 x_l0 :: .ptr 1 x_l0.toNat 0 :: .inn 1 x_l0.toNat :: .ipt 1 x_l0.toNat 0 :: .i .i64 (((Z4 m_0).getD x_l0.toNat default).getD 0 default) :: .own 1 :: .i .i64 x_l0 :: .ptr 1 x_l0.toNat 0 :: .inn 1 x_l0.toNat :: .ipt 1 x_l0.toNat 1 :: .i .i64 (((Z4 m_0).getD x_l0.toNat default).getD 1 default) :: .i .i64 (((Z4 m_0).getD x_l0.toNat default).getD 0 default) :: .i .i64 (((Z4 m_0).getD x_l0.toNat default).getD 1 default) :: .any :: .ref (GMesh.cells m_0) 0 :: .ref (GMesh.cells m_0) 0 :: .ref (GMesh.cells m_0) 1 :: .sl (m_0.Triangles.map (cL (cI .i64))) :: .i .i64 (m_0.Triangles.length : Int) :: .i .i64 (x_l0_1 + 1) :: an 28 [], [.nest 49 (r0_l1.map fun l => l.map (cI .i64)) false, .nest 49 ((Z4 m_0).map fun l => l.map (cI .i64)) false, .vec 2 1 ((r2_l1 ++ [(Z1e m_0 x_l0 x_l0_1)]).map (cI .i64)) false]⟩ from (by simp [cL, cI])) (ih (x_l0_1 + 1) (r2_l1 ++ [(Z1e m_0 x_l0 x_l0_1)]) (show 0 ≤ (x_l0_1 + 1) from (by omega)) (show ((r2_l1 ++ [(Z1e m_0 x_l0 x_l0_1)]).length : Int) ≤ 2 + (x_l0_1 + 1) from (by ((have q := Z3Z m_0 hp3 Z1s (of_decide_eq_true (by assumption)); (simp only [List.length_append, List.length_cons, List.length_nil]; omega))))) (by omega))
   | false =>
    have gh__1 := of_decide_eq_false h__1
    have y__3 : (-9223372036854775808 : Int) ≤ (x_l0_1 + 1) := by clear p; exact (by omega)
    have y__4 : (x_l0_1 + 1) ≤ (9223372036854775807 : Int) := by clear p; exact (by omega)
    have e : Z15 m_0 x_l0 r0_l1 (k + 1) x_l0_1 r2_l1 = (Z15 m_0 x_l0 r0_l1 k (x_l0_1 + 1) r2_l1) := by simp only [Z15, h__0, h__1, cond_true, cond_false]
    rw [e]
    exact nextR E0Ok Z3 [] Z4n [0, 1, 2] (ih (x_l0_1 + 1) r2_l1 (show 0 ≤ (x_l0_1 + 1) from (by omega)) (show (r2_l1.length : Int) ≤ 2 + (x_l0_1 + 1) from (by omega)) (by omega)) (p (sB h__1 <| sI (x_l0_1 + 1) y__3 y__4 <| sN)) (by kernel_rfl)
  | false =>
   have gh__0 := of_decide_eq_false h__0
   have e : Z15 m_0 x_l0 r0_l1 (k + 1) x_l0_1 r2_l1 = r2_l1 := by simp only [Z15, h__0, cond_false]
   rw [e]
   exact outR (e := (.exit 2)) E0Ok Z3 [] Z85 [0, 1, 2] (sB h__0 <| sN) (by kernel_rfl) (by intro h; cases h)
def Z10 (m_0 : GMesh) (x_l0 : Int) (r0_l1 : (List (List Int))) : (List Int) := (Z15 m_0 x_l0 r0_l1 (((m_0.Triangles.length : Int) - 0).toNat + 1) 0 ([(((Z4 m_0).getD x_l0.toNat default).getD 0 default), (((Z4 m_0).getD x_l0.toNat default).getD 1 default)]))
def ZX (m_0 : GMesh) : Nat → Int → (List (List Int)) → (List (List Int))
  | 0, _, _ => default
  | k + 1, x_l0, r0_l1 => (cond (decide (x_l0 < ((Z4 m_0).length : Int)))
    (cond (((Z10 m_0 x_l0 r0_l1).length : Int) == 4)
      (ZX m_0 k (x_l0 + 1) (r0_l1 ++ [(Z10 m_0 x_l0 r0_l1)]))
      (ZX m_0 k (x_l0 + 1) r0_l1))
    r0_l1)
def Z4X (m_0 : GMesh) (r : (List (List Int))) : Ex × St := ((.exit 0), ⟨.ref (GMesh.cells m_0) 0 :: .any :: .nils :: .own 0 :: .own 1 :: an 7 (.ref (GMesh.cells m_0) 0 :: .own 1 :: .own 1 :: an 53 []), [.nest 49 (r.map fun l => l.map (cI .i64)) false, .nest 49 ((Z4 m_0).map fun l => l.map (cI .i64)) false]⟩)
def Z6I (m_0 : GMesh) (x_l0 : Int) (r0_l1 : (List (List Int))) : St := ⟨.ref (GMesh.cells m_0) 0 :: .any :: .nils :: .own 0 :: .own 1 :: an 7 (.ref (GMesh.cells m_0) 0 :: .own 1 :: .own 1 :: .i .i64 ((Z4 m_0).length : Int) :: .i .i64 x_l0 :: an 51 []), [.nest 49 (r0_l1.map fun l => l.map (cI .i64)) false, .nest 49 ((Z4 m_0).map fun l => l.map (cI .i64)) false]⟩
set_option maxHeartbeats 1000000 in
theorem Z8O (m_0 : GMesh) (hp0 : m_0.Places.length ≤ 1073741824) (hp1 : m_0.Triangles.length ≤ 1073741824) (hp2 : ∀ t ∈ m_0.Triangles, t.length ≤ 1073741824) (hp3 : OkE m_0.Places.length m_0.Triangles) : ∀ (k : Nat) (x_l0 : Int) (r0_l1 : (List (List Int))) (Z1s : 0 ≤ x_l0) (Z3C : (r0_l1.length : Int) ≤ x_l0) (hk : (((Z4 m_0).length : Int) - x_l0).toNat < k), Lp prog 0 (sub (bodyOf f101) [1, 1, 1, 0, 1, 0, 0]) (Z6I m_0 x_l0 r0_l1) (Z4X m_0 (ZX m_0 k x_l0 r0_l1)).1 (Z4X m_0 (ZX m_0 k x_l0 r0_l1)).2 := by
 intro k
 induction k with
 | zero => intro x_l0 r0_l1 Z1s Z3C hk; exact absurd hk (Nat.not_lt_zero _)
 | succ k ih =>
  intro x_l0 r0_l1 Z1s Z3C hk
  cases h_0 : (decide (x_l0 < ((Z4 m_0).length : Int))) with
  | true =>
   have gh_0 := of_decide_eq_true h_0
   have y_0 : (0 : Int) ≤ x_l0 := (by assumption)
   have y_1 : Int.toNat x_l0 < (Z4 m_0).length := (by omega)
   have y_2 : x_l0.toNat < (Z4 m_0).length := (by assumption)
   have y_3 : (0 : Int) ≤ 0 := (by omega)
   have y_4 : 0 < (((Z4 m_0).getD x_l0.toNat default).length : Int) := (by ((have q := Z3Z m_0 hp3 Z1s (of_decide_eq_true (by assumption)); omega)))
   have y_5 : 0 < ((Z4 m_0).getD x_l0.toNat default).length := (by omega)
   have y_6 : (0 : Int) ≤ 1 := (by omega)
   have y_7 : 1 < (((Z4 m_0).getD x_l0.toNat default).length : Int) := (by ((have q := Z3Z m_0 hp3 Z1s (of_decide_eq_true (by assumption)); omega)))
   have y_8 : 1 < ((Z4 m_0).getD x_l0.toNat default).length := (by omega)
   have p {a C} (s : Scr a C) := sB h_0 <| sC (nestix (c := (cI .i64)) (l := (Z4 m_0)) (i := x_l0) y_0 y_1) <| sC (nestlt (c := (cI .i64)) (l := (Z4 m_0)) y_2) <| sC (iidx_ok (c := (cI .i64)) (l := (Z4 m_0)) (j := x_l0.toNat) (i := 0) y_3 y_4) <| sE (iget_ok (c := (cI .i64)) (l := (Z4 m_0)) (j := x_l0.toNat) (k := 0) y_5) <| sC (nestix (c := (cI .i64)) (l := (Z4 m_0)) (i := x_l0) y_0 y_1) <| sC (nestlt (c := (cI .i64)) (l := (Z4 m_0)) y_2) <| sC (iidx_ok (c := (cI .i64)) (l := (Z4 m_0)) (j := x_l0.toNat) (i := 1) y_6 y_7) <| sE (iget_ok (c := (cI .i64)) (l := (Z4 m_0)) (j := x_l0.toNat) (k := 1) y_8) <| sZ (cL (cI .i64)) m_0.Triangles <| sL Z4n 3 (lp_cast (st2 := ⟨.ref (GMesh.cells m_0) 0 :: .any :: .nils :: .own 0 :: .own 1 :: .i .i64 x_l0 :: .i .i64 (((Z4 m_0).getD x_l0.toNat default).getD 0 default) :: .i .i64 (((Z4 m_0).getD x_l0.toNat default).getD 1 default) :: .own 2 :: .any :: .any :: .any :: .ref (GMesh.cells m_0) 0 :: .own 1 :: .own 1 :: .i .i64 ((Z4 m_0).length : Int) :: .i .i64 x_l0 :: .b (decide (x_l0 < ((Z4 m_0).length : Int))) :: .i .i64 x_l0 :: .own 1 :: .i .i64 x_l0 :: .ptr 1 x_l0.toNat 0 :: .inn 1 x_l0.toNat :: .ipt 1 x_l0.toNat 0 :: .i .i64 (((Z4 m_0).getD x_l0.toNat default).getD 0 default) :: .own 1 :: .i .i64 x_l0 :: .ptr 1 x_l0.toNat 0 :: .inn 1 x_l0.toNat :: .ipt 1 x_l0.toNat 1 :: .i .i64 (((Z4 m_0).getD x_l0.toNat default).getD 1 default) :: .i .i64 (((Z4 m_0).getD x_l0.toNat default).getD 0 default) :: .i .i64 (((Z4 m_0).getD x_l0.toNat default).getD 1 default) :: .any :: .ref (GMesh.cells m_0) 0 :: .ref (GMesh.cells m_0) 0 :: .ref (GMesh.cells m_0) 1 :: .sl (m_0.Triangles.map (cL (cI .i64))) :: .i .i64 (m_0.Triangles.length : Int) :: .i .i64 0 :: an 28 [], [.nest 49 (r0_l1.map fun l => l.map (cI .i64)) false, .nest 49 ((Z4 m_0).map fun l => l.map (cI .i64)) false, .vec 2 1 ([[.i .i64 (((Z4 m_0).getD x_l0.toNat default).getD 0 default)], [.i .i64 (((Z4 m_0).getD x_l0.toNat default).getD 1 default)]] : List (List AV)) false]⟩) (lp_val (Z4W m_0 x_l0 r0_l1) (x := (Z10 m_0 x_l0 r0_l1)) (Z8N m_0 x_l0 r0_l1 hp0 hp1 hp2 hp3 Z1s Z3C h_0 (((m_0.Triangles.length : Int) - 0).toNat + 1) 0 ([(((Z4 m_0).getD x_l0.toNat default).getD 0 default), (((Z4 m_0).getD x_l0.toNat default).getD 1 default)]) (show 0 ≤ 0 from (by omega)) (show (([(((Z4 m_0).getD x_l0.toNat default).getD 0 default), (((Z4 m_0).getD x_l0.toNat default).getD 1 default)]).length : Int) ≤ 2 + 0 from (by simp)) (Nat.lt_succ_self _)) rfl) (by simp [Z6H, cI])) <| sZ (cI .i64) (Z10 m_0 x_l0 r0_l1) <| s
   cases h_1 : (((Z10 m_0 x_l0 r0_l1).length : Int) == 4) with
   | true =>
    have gh_1 := eq_of_beq h_1
    have y_9 : r0_l1.length + [(Z10 m_0 x_l0 r0_l1)].length ≤ 1073741824 := by clear p; exact (by ((have q := Z3Z m_0 hp3 Z1s (of_decide_eq_true (by assumption)); (simp only [List.length_append, List.length_cons, List.length_nil]; omega))))
    have y_10 : (-9223372036854775808 : Int) ≤ (x_l0 + 1) := by clear p; exact (by omega)
    have y_11 : (x_l0 + 1) ≤ (9223372036854775807 : Int) := by clear p; exact (by ((have q := Z3Z m_0 hp3 Z1s (of_decide_eq_true (by assumption)); omega)))
    have e : ZX m_0 (k + 1) x_l0 r0_l1 = (ZX m_0 k (x_l0 + 1) (r0_l1 ++ [(Z10 m_0 x_l0 r0_l1)])) := by simp only [ZX, h_0, h_1, cond_true]
    rw [e]
    exact nextS E0Ok Z3 [] (mR false [0, 1, 1, 3, 7, 5, 51]) [0, 1] (⟨.ref (GMesh.cells m_0) 0 :: .any :: .nils :: .own 0 :: .own 1 :: an 7 (.ref (GMesh.cells m_0) 0 :: .own 1 :: .own 1 :: .i .i64 ((Z4 m_0).length : Int) :: .i .i64 (x_l0 + 1) :: an 51 []), [.nest 49 ((r0_l1.map fun l => l.map (cI .i64)) ++ [((Z10 m_0 x_l0 r0_l1).map (cI .i64))]) false, .nest 49 ((Z4 m_0).map fun l => l.map (cI .i64)) false]⟩) (p (sB h_1 <| sC (show (r0_l1.map fun l => l.map (cI .i64)).length + [((Z10 m_0 x_l0 r0_l1).map (cI .i64))].length ≤ 1073741824 from (by simpa using y_9)) <| sI (x_l0 + 1) y_10 y_11 <| sN)) (by kernel_rfl) (show _ = ⟨.ref (GMesh.cells m_0) 0 :: .any :: .nils :: .own 0 :: .own 1 :: an 7 (.ref (GMesh.cells m_0) 0 :: .own 1 :: .own 1 :: .i .i64 ((Z4 m_0).length : Int) :: .i .i64 (x_l0 + 1) :: an 51 []), [.nest 49 ((r0_l1 ++ [(Z10 m_0 x_l0 r0_l1)]).map fun l => l.map (cI .i64)) false, .nest 49 ((Z4 m_0).map fun l => l.map (cI .i64)) false]⟩ from (by simp [cL, cI])) (ih (x_l0 + 1) (r0_l1 ++ [(Z10 m_0 x_l0 r0_l1)]) (show 0 ≤ (x_l0 + 1) from (by omega)) (show ((r0_l1 ++ [(Z10 m_0 x_l0 r0_l1)]).length : Int) ≤ (x_l0 + 1) from (by ((have q := Z3Z m_0 hp3 Z1s (of_decide_eq_true (by assumption)); (simp only [List.length_append, List.length_cons, List.length_nil]; omega))))) (by omega))
   | false =>
    have gh_1 := ne_of_beq_false h_1
    have y_9 : (-9223372036854775808 : Int) ≤ (x_l0 + 1) := by clear p; exact (by omega)
    have y_10 : (x_l0 + 1) ≤ (9223372036854775807 : Int) := by clear p; exact (by ((have q := Z3Z m_0 hp3 Z1s (of_decide_eq_true (by assumption)); omega)))
    have e : ZX m_0 (k + 1) x_l0 r0_l1 = (ZX m_0 k (x_l0 + 1) r0_l1) := by simp only [ZX, h_0, h_1, cond_true, cond_false]
    rw [e]
    exact nextR E0Ok Z3 [] (mR false [0, 1, 1, 3, 7, 5, 51]) [0, 1] (ih (x_l0 + 1) r0_l1 (show 0 ≤ (x_l0 + 1) from (by omega)) (show (r0_l1.length : Int) ≤ (x_l0 + 1) from (by omega)) (by omega)) (p (sB h_1 <| sI (x_l0 + 1) y_9 y_10 <| sN)) (by kernel_rfl)
  | false =>
   have gh_0 := of_decide_eq_false h_0
   have e : ZX m_0 (k + 1) x_l0 r0_l1 = r0_l1 := by simp only [ZX, h_0, cond_false]
   rw [e]
   exact outR (e := (.exit 0)) E0Ok Z3 [] (mR false [0, 1, 1, 3, 7, 3, 53]) [0, 1] (sB h_0 <| sN) (by kernel_rfl) (by intro h; cases h)
def Z3D (m_0 : GMesh) : (List (List Int)) := (ZX m_0 ((((Z4 m_0).length : Int) - 0).toNat + 1) 0 ([] : List (List Int)))
def Z0 (m_0 : GMesh) : (List (List Int)) := (Z3D m_0)
theorem Zcg (m : GMesh) (ok : OkE m.Places.length m.Triangles) (x : Int) (r0 : List (List Int)) (hab : ((Z4 m).getD x.toNat default).getD 0 default ≠ ((Z4 m).getD x.toNat default).getD 1 default) :
    Z10 m x r0 = [((Z4 m).getD x.toNat default).getD 0 default, ((Z4 m).getD x.toNat default).getD 1 default] ++ (idxP m.Triangles (((Z4 m).getD x.toNat default).getD 0 default) (((Z4 m).getD x.toNat default).getD 1 default)).map fun i => thd (m.Triangles.getD i.toNat default) (((Z4 m).getD x.toNat default).getD 0 default) (((Z4 m).getD x.toNat default).getD 1 default) := by
  unfold Z10
  have hf := filt_loop (n := (m.Triangles.length : Int)) (f := fun i => !(decide (Z1e m x i ≥ 0))) (g := fun i => Z1e m x i) (lo := Z15 m x r0) (fun k i r' => by
    rw [Z15]
    cases decide (Z1e m x i ≥ 0) <;> rfl) (((m.Triangles.length : Int) - 0).toNat + 1) 0 [((Z4 m).getD x.toNat default).getD 0 default, ((Z4 m).getD x.toNat default).getD 1 default] (Nat.lt_succ_self _)
  rw [hf]
  congr 1
  unfold Z1e idxP
  generalize ((Z4 m).getD x.toNat default).getD 0 default = a at *
  generalize ((Z4 m).getD x.toNat default).getD 1 default = b at *
  rw [List.map_map, show ((m.Triangles.length : Int) - 0).toNat = m.Triangles.length from by omega]
  have key : ∀ j : Nat, j < m.Triangles.length → Z2E (m.Triangles.getD ((0 : Int) + (j : Int)).toNat default) a b = if tHas (m.Triangles.getD j default) a b = true then thd (m.Triangles.getD j default) a b else -1 := by
    intro j hj
    rw [show ((0 : Int) + (j : Int)).toNat = j from by omega]
    have hm : m.Triangles.getD j default ∈ m.Triangles := by rw [List.getD_eq_getElem?_getD, List.getElem?_eq_getElem hj]; exact List.getElem_mem _
    obtain ⟨x, y, z, ht, r1, r2, r3, n1, n2, n3⟩ := ok.2.2 _ hm
    rw [ht]; exact ZbE n1 n2 n3 hab
  have hfl : ((List.range m.Triangles.length).filter fun (j : Nat) => !(!(decide (Z2E (m.Triangles.getD ((0 : Int) + (j : Int)).toNat default) a b ≥ 0)))) = (List.range m.Triangles.length).filter fun j => tHas (m.Triangles.getD j default) a b := by
    refine List.filter_congr fun j hj => ?_
    rw [List.mem_range] at hj
    rw [Bool.not_not, key j hj]
    cases hh : tHas (m.Triangles.getD j default) a b with
    | false => rfl
    | true =>
      have hi : (j : Int) ∈ idxP m.Triangles a b := by
        unfold idxP; rw [List.mem_map]; exact ⟨j, List.mem_filter.2 ⟨List.mem_range.2 hj, hh⟩, rfl⟩
      have := (thd_bd ok hab hi).1
      rw [show ((j : Nat) : Int).toNat = j from by omega] at this
      rw [if_pos rfl]; exact decide_eq_true this
  rw [hfl]
  refine List.map_congr_left fun j hj => ?_
  rw [List.mem_filter, List.mem_range] at hj
  rw [key j hj.1, if_pos hj.2]
  show _ = thd (m.Triangles.getD ((j : Nat) : Int).toNat default) a b
  rw [show ((j : Nat) : Int).toNat = j from by omega]
theorem Z7B (m : GMesh) (ok : OkE m.Places.length m.Triangles) : Z0 m = hgL m.Places.length m.Triangles := by
  unfold Z0 Z3D
  refine (filtm_from (a := Z4 m) (p := fun x => decide ((idxP m.Triangles (x.getD 0 default) (x.getD 1 default)).length = 2)) (f := fun x => [x.getD 0 default, x.getD 1 default] ++ (idxP m.Triangles (x.getD 0 default) (x.getD 1 default)).map fun i => thd (m.Triangles.getD i.toNat default) (x.getD 0 default) (x.getD 1 default)) (lo := ZX m) (fun k i r h0 hi => ?_) (fun k i r hi => ?_)).trans ?_
  · have q := Z3Z m ok h0 hi
    rw [ZX, decide_eq_true hi, cond_true, Zcg m ok i r (by omega)]
    have hc : ((([((Z4 m).getD i.toNat default).getD 0 default, ((Z4 m).getD i.toNat default).getD 1 default] ++ (idxP m.Triangles (((Z4 m).getD i.toNat default).getD 0 default) (((Z4 m).getD i.toNat default).getD 1 default)).map fun i_1 => thd (m.Triangles.getD i_1.toNat default) (((Z4 m).getD i.toNat default).getD 0 default) (((Z4 m).getD i.toNat default).getD 1 default)).length : Int) == 4) = decide ((idxP m.Triangles (((Z4 m).getD i.toNat default).getD 0 default) (((Z4 m).getD i.toNat default).getD 1 default)).length = 2) := by
      rw [List.length_append, List.length_map, Bool.eq_iff_iff, beq_iff_eq, decide_eq_true_iff]
      simp only [List.length_cons, List.length_nil]; omega
    rw [hc]
  · rw [ZX, decide_eq_false (by omega), cond_false]
  · rw [Z7V m ok]
    unfold hgL
    rw [List.filter_map, List.map_map]
    rfl
theorem Z2Y (m : GMesh) (ok : OkE m.Places.length m.Triangles) : (Z0 m).length ≤ 4096 := by rw [Z7B m ok]; exact hgL_len ok
theorem Zbu (m : GMesh) (ok : OkE m.Places.length m.Triangles) {i : Int} (h0 : 0 ≤ i) (hi : i < ((Z0 m).length : Int)) : ((Z0 m).getD i.toNat default).length = 4 ∧ ∀ x ∈ (Z0 m).getD i.toNat default, 0 ≤ x ∧ x < (m.Places.length : Int) := by
  refine hgL_mem ok ?_
  rw [← Z7B m ok, List.getD_eq_getElem?_getD, List.getElem?_eq_getElem (by omega)]; exact List.getElem_mem _
theorem hin4 {m : GMesh} (ok : OkE m.Places.length m.Triangles) {i : Int} (h0 : 0 ≤ i) (hi : decide (i < ((Z0 m).length : Int)) = true) : ((Z0 m).getD i.toNat default).length = 4 ∧ ∀ x ∈ (Z0 m).getD i.toNat default, 0 ≤ x ∧ x < (m.Places.length : Int) := Zbu m ok h0 (of_decide_eq_true hi)
theorem ZcJ {m : GMesh} (ok : OkE m.Places.length m.Triangles) {i : Int} (h0 : 0 ≤ i) (hi : decide (i < ((Z0 m).length : Int)) = true) : ((Z0 m).getD i.toNat default).length ≤ 1073741824 := by have := (hin4 ok h0 hi).1; omega
theorem Zab (m_0 : GMesh) (hp0 : m_0.Places.length ≤ 1073741824) (hp1 : m_0.Triangles.length ≤ 1073741824) (hp2 : ∀ t ∈ m_0.Triangles, t.length ≤ 1073741824) (hp3 : OkE m_0.Places.length m_0.Triangles)  : Fn prog 101 [.ref (GMesh.cells m_0) 0] (.own 0) [.nest 49 ((Z0 m_0).map fun l => l.map (cI .i64)) false] := by
 refine fnS E0Ok Z3 (c := bodyOf f101) [] (.own 0) [.nest 49 ((Z3D m_0).map fun l => l.map (cI .i64)) false] func101 (sF (Zaw m_0 hp0 hp1 hp2 hp3) <| sM (nlen_ok (l := (Z4 m_0)) (f := fun l => l.map (cI .i64))) <| sL (mR false [0, 1, 1, 3, 7, 5, 51]) 2 (lp_cast (st2 := ⟨.ref (GMesh.cells m_0) 0 :: .any :: .nils :: .own 0 :: .own 1 :: an 7 (.ref (GMesh.cells m_0) 0 :: .own 1 :: .own 1 :: .i .i64 ((Z4 m_0).length : Int) :: .i .i64 0 :: an 51 []), [.nest 49 [] false, .nest 49 ((Z4 m_0).map fun l => l.map (cI .i64)) false]⟩) (lp_val (Z4X m_0) (x := (Z3D m_0)) (Z8O m_0 hp0 hp1 hp2 hp3 ((((Z4 m_0).length : Int) - 0).toNat + 1) 0 ([] : List (List Int)) (show 0 ≤ 0 from (by omega)) (show (([] : List (List Int)).length : Int) ≤ 0 from (by simp)) (Nat.lt_succ_self _)) rfl) (by simp [Z6I, cL, cI])) <| sK [0] sN) rfl (by kernel_rfl) (by kernel_rfl) rfl ?_ ?_
 · rfl
 · simp [Z0]
def Z4j (m_0 : GMesh) (h_1 : (List Int)) : GVector := (Z1r (ZP (m_0.Places.getD (h_1.getD 2 default).toNat default) (m_0.Places.getD (h_1.getD 3 default).toNat default)) (ZP (m_0.Places.getD (h_1.getD 0 default).toNat default) (m_0.Places.getD (h_1.getD 1 default).toNat default)))
def Z1m (m_0 : GMesh) (h_1 : (List Int)) : GVector := (Z4j m_0 h_1)
theorem ZaL (m_0 : GMesh) (h_1 : (List Int)) (hp0 : m_0.Places.length ≤ 1073741824) (hp1 : m_0.Triangles.length ≤ 1073741824) (hp2 : ∀ t ∈ m_0.Triangles, t.length ≤ 1073741824) (hp3 : h_1.length ≤ 1073741824) (hp4 : h_1.length = 4 ∧ ∀ x ∈ h_1, 0 ≤ x ∧ x < (m_0.Places.length : Int))  : Fn prog 102 [.ref (GMesh.cells m_0) 0, .sl (h_1.map (cI .i64))] (.agg [.f .f32 ((Z1m m_0 h_1).X), .f .f32 ((Z1m m_0 h_1).Y), .f .f32 ((Z1m m_0 h_1).Z)]) [] := by
 have y0 : (0 : Int) ≤ 2 := (by omega)
 have y1 : 2 < (h_1.length : Int) := (by omega)
 have y2 : (0 : Int) ≤ (h_1.getD 2 default) := (by have q := Okh.at hp4; omega)
 have y3 : (h_1.getD 2 default) < (m_0.Places.length : Int) := (by have q := Okh.at hp4; omega)
 have y4 : (0 : Int) ≤ 3 := (by omega)
 have y5 : 3 < (h_1.length : Int) := (by omega)
 have y6 : (0 : Int) ≤ (h_1.getD 3 default) := (by have q := Okh.at hp4; omega)
 have y7 : (h_1.getD 3 default) < (m_0.Places.length : Int) := (by have q := Okh.at hp4; omega)
 have y8 : (0 : Int) ≤ 0 := (by omega)
 have y9 : 0 < (h_1.length : Int) := (by omega)
 have y10 : (0 : Int) ≤ (h_1.getD 0 default) := (by have q := Okh.at hp4; omega)
 have y11 : (h_1.getD 0 default) < (m_0.Places.length : Int) := (by have q := Okh.at hp4; omega)
 have y12 : (0 : Int) ≤ 1 := (by omega)
 have y13 : 1 < (h_1.length : Int) := (by omega)
 have y14 : (0 : Int) ≤ (h_1.getD 1 default) := (by have q := Okh.at hp4; omega)
 have y15 : (h_1.getD 1 default) < (m_0.Places.length : Int) := (by have q := Okh.at hp4; omega)
 refine fnS E0Ok Z3 (c := bodyOf f102) [] (.agg [.f .f32 ((Z4j m_0 h_1).X), .f .f32 ((Z4j m_0 h_1).Y), .f .f32 ((Z4j m_0 h_1).Z)]) [] func102 (sK [37, 37] <| sG (cI .i64) h_1 2 y0 y1 <| sG GVector.cells m_0.Places (h_1.getD 2 default) y2 y3 <| sG (cI .i64) h_1 3 y4 y5 <| sG GVector.cells m_0.Places (h_1.getD 3 default) y6 y7 <| sF (Z2X (m_0.Places.getD (h_1.getD 2 default).toNat default) (m_0.Places.getD (h_1.getD 3 default).toNat default)) <| sG (cI .i64) h_1 0 y8 y9 <| sG GVector.cells m_0.Places (h_1.getD 0 default) y10 y11 <| sG (cI .i64) h_1 1 y12 y13 <| sG GVector.cells m_0.Places (h_1.getD 1 default) y14 y15 <| sF (Z2X (m_0.Places.getD (h_1.getD 0 default).toNat default) (m_0.Places.getD (h_1.getD 1 default).toNat default)) <| sF (Z4m (ZP (m_0.Places.getD (h_1.getD 2 default).toNat default) (m_0.Places.getD (h_1.getD 3 default).toNat default)) (ZP (m_0.Places.getD (h_1.getD 0 default).toNat default) (m_0.Places.getD (h_1.getD 1 default).toNat default))) <| sK [] sN) rfl (by kernel_rfl) (by kernel_rfl) rfl ?_ ?_
 · rfl
 · rfl
def Zf (arr_0 : GBody) (x_l0 : Int) (r0_l1 : (List GVector)) : GVector := (ZP (r0_l1.getD (((arr_0.Springs.getD x_l0.toNat default).A).toNat) default) (Zw ((Z2c arr_0 (arr_0.Springs.getD x_l0.toNat default)).1) ((Z2c arr_0 (arr_0.Springs.getD x_l0.toNat default)).2)))
def Z6J (arr_0 : GBody) (x_l0 : Int) : GVector := (Zw ((Z2c arr_0 (arr_0.Springs.getD x_l0.toNat default)).1) (fneg .f32 ((Z2c arr_0 (arr_0.Springs.getD x_l0.toNat default)).2)))
def Z21 (arr_0 : GBody) (x_l0 : Int) (r0_l1 : (List GVector)) : GVector := (ZP ((r0_l1.set (((arr_0.Springs.getD x_l0.toNat default).A).toNat) (Zf arr_0 x_l0 r0_l1)).getD (((arr_0.Springs.getD x_l0.toNat default).B).toNat) default) (Z6J arr_0 x_l0))
def ZY (arr_0 : GBody) : Nat → Int → (List GVector) → (List GVector)
  | 0, _, _ => default
  | k + 1, x_l0, r0_l1 => (cond (decide (x_l0 < (arr_0.Springs.length : Int)))
    (ZY arr_0 k (x_l0 + 1) ((r0_l1.set (((arr_0.Springs.getD x_l0.toNat default).A).toNat) (Zf arr_0 x_l0 r0_l1)).set (((arr_0.Springs.getD x_l0.toNat default).B).toNat) (Z21 arr_0 x_l0 r0_l1)))
    r0_l1)
def Z4Y (arr_0 : GBody) (r : (List GVector)) : Ex × St := ((.exit 0), ⟨.ref (GBody.cells arr_0) 0 :: .any :: .nils :: .ref (GBody.cells arr_0) 0 :: .own 0 :: an 15 (.ref (GBody.cells arr_0) 0 :: .ref (GBody.cells arr_0) 0 :: .ref (GBody.cells arr_0) 0 :: .ref (GBody.cells arr_0) 0 :: .ref (GBody.cells arr_0) 0 :: .ref (GBody.cells arr_0) 0 :: .sl (arr_0.Mesh.Places.map GVector.cells) :: .i .i64 (arr_0.Mesh.Places.length : Int) :: .own 0 :: .ref (GBody.cells arr_0) 0 :: .ref (GBody.cells arr_0) 0 :: .ref (GBody.cells arr_0) 2 :: .sl (arr_0.Springs.map GSpring.cells) :: an 247 []), [.vec 40 3 (r.map GVector.cells) false]⟩)
def Z6K (arr_0 : GBody) (x_l0 : Int) (r0_l1 : (List GVector)) : St := ⟨.ref (GBody.cells arr_0) 0 :: .any :: .nils :: .ref (GBody.cells arr_0) 0 :: .own 0 :: an 15 (.ref (GBody.cells arr_0) 0 :: .ref (GBody.cells arr_0) 0 :: .ref (GBody.cells arr_0) 0 :: .ref (GBody.cells arr_0) 0 :: .ref (GBody.cells arr_0) 0 :: .ref (GBody.cells arr_0) 0 :: .sl (arr_0.Mesh.Places.map GVector.cells) :: .i .i64 (arr_0.Mesh.Places.length : Int) :: .own 0 :: .ref (GBody.cells arr_0) 0 :: .ref (GBody.cells arr_0) 0 :: .ref (GBody.cells arr_0) 2 :: .sl (arr_0.Springs.map GSpring.cells) :: .i .i64 (arr_0.Springs.length : Int) :: .i .i64 x_l0 :: an 245 []), [.vec 40 3 (r0_l1.map GVector.cells) false]⟩
set_option maxHeartbeats 1000000 in
theorem Z8P (arr_0 : GBody) (hp0 : arr_0.Mesh.Places.length ≤ 1073741824) (hp1 : arr_0.Mesh.Triangles.length ≤ 1073741824) (hp2 : ∀ t ∈ arr_0.Mesh.Triangles, t.length ≤ 1073741824) (hp3 : arr_0.Springs.length ≤ 1073741824) (hp4 : arr_0.Weights.length ≤ 1073741824) (hp5 : OkBd arr_0) : ∀ (k : Nat) (x_l0 : Int) (r0_l1 : (List GVector)) (Z5R : 0 ≤ x_l0) (Z5S : r0_l1.length = arr_0.Mesh.Places.length) (hk : ((arr_0.Springs.length : Int) - x_l0).toNat < k), Lp prog 0 (sub (bodyOf f51) [1, 1, 1, 0, 1, 0, 0]) (Z6K arr_0 x_l0 r0_l1) (Z4Y arr_0 (ZY arr_0 k x_l0 r0_l1)).1 (Z4Y arr_0 (ZY arr_0 k x_l0 r0_l1)).2 := by
 intro k
 induction k with
 | zero => intro x_l0 r0_l1 Z5R Z5S hk; exact absurd hk (Nat.not_lt_zero _)
 | succ k ih =>
  intro x_l0 r0_l1 Z5R Z5S hk
  cases h_0 : (decide (x_l0 < (arr_0.Springs.length : Int))) with
  | true =>
   have gh_0 := of_decide_eq_true h_0
   have y_0 : (0 : Int) ≤ x_l0 := (by assumption)
   have y_1 : x_l0 < (arr_0.Springs.length : Int) := (by assumption)
   have y_2 : 0 ≤ (arr_0.Springs.getD x_l0.toNat default).A := (by have q := Z3H hp5 (by assumption) h_0; omega)
   have y_3 : (arr_0.Springs.getD x_l0.toNat default).A < (arr_0.Mesh.Places.length : Int) := (by have q := Z3H hp5 (by assumption) h_0; omega)
   have y_4 : 0 ≤ (arr_0.Springs.getD x_l0.toNat default).B := (by have q := Z3H hp5 (by assumption) h_0; omega)
   have y_5 : (arr_0.Springs.getD x_l0.toNat default).B < (arr_0.Mesh.Places.length : Int) := (by have q := Z3H hp5 (by assumption) h_0; omega)
   have y_6 : (0 : Int) ≤ ((arr_0.Springs.getD x_l0.toNat default).A) := (by assumption)
   have y_7 : ((arr_0.Springs.getD x_l0.toNat default).A) < (r0_l1.length : Int) := (by omega)
   have y_8 : ((arr_0.Springs.getD x_l0.toNat default).A).toNat < r0_l1.length := (by omega)
   have y_9 : (0 : Int) ≤ ((arr_0.Springs.getD x_l0.toNat default).B) := (by assumption)
   have y_10 : ((arr_0.Springs.getD x_l0.toNat default).B) < ((r0_l1.set (((arr_0.Springs.getD x_l0.toNat default).A).toNat) (Zf arr_0 x_l0 r0_l1)).length : Int) := (by have q := hp5.w; have q := Z3H hp5 (by assumption) h_0; (simp only [List.length_set]; omega))
   have y_11 : ((arr_0.Springs.getD x_l0.toNat default).B).toNat < (r0_l1.set (((arr_0.Springs.getD x_l0.toNat default).A).toNat) (Zf arr_0 x_l0 r0_l1)).length := (by omega)
   have y_12 : (-9223372036854775808 : Int) ≤ (x_l0 + 1) := (by omega)
   have y_13 : (x_l0 + 1) ≤ (9223372036854775807 : Int) := (by omega)
   have e : ZY arr_0 (k + 1) x_l0 r0_l1 = (ZY arr_0 k (x_l0 + 1) ((r0_l1.set (((arr_0.Springs.getD x_l0.toNat default).A).toNat) (Zf arr_0 x_l0 r0_l1)).set (((arr_0.Springs.getD x_l0.toNat default).B).toNat) (Z21 arr_0 x_l0 r0_l1))) := by simp only [ZY, h_0, cond_true]
   rw [e]
   exact nextS E0Ok Z3 [] (mR false [0, 1, 1, 3, 15, 15, 245]) [0] (⟨.ref (GBody.cells arr_0) 0 :: .any :: .nils :: .ref (GBody.cells arr_0) 0 :: .own 0 :: an 15 (.ref (GBody.cells arr_0) 0 :: .ref (GBody.cells arr_0) 0 :: .ref (GBody.cells arr_0) 0 :: .ref (GBody.cells arr_0) 0 :: .ref (GBody.cells arr_0) 0 :: .ref (GBody.cells arr_0) 0 :: .sl (arr_0.Mesh.Places.map GVector.cells) :: .i .i64 (arr_0.Mesh.Places.length : Int) :: .own 0 :: .ref (GBody.cells arr_0) 0 :: .ref (GBody.cells arr_0) 0 :: .ref (GBody.cells arr_0) 2 :: .sl (arr_0.Springs.map GSpring.cells) :: .i .i64 (arr_0.Springs.length : Int) :: .i .i64 (x_l0 + 1) :: an 245 []), [.vec 40 3 (((r0_l1.map GVector.cells).set (((arr_0.Springs.getD x_l0.toNat default).A).toNat) [.f .f32 ((Zf arr_0 x_l0 r0_l1).X), .f .f32 ((Zf arr_0 x_l0 r0_l1).Y), .f .f32 ((Zf arr_0 x_l0 r0_l1).Z)]).set (((arr_0.Springs.getD x_l0.toNat default).B).toNat) [.f .f32 ((Z21 arr_0 x_l0 r0_l1).X), .f .f32 ((Z21 arr_0 x_l0 r0_l1).Y), .f .f32 ((Z21 arr_0 x_l0 r0_l1).Z)]) false]⟩) (sB h_0 <| sG GSpring.cells arr_0.Springs x_l0 y_0 y_1 <| sF (Zb7 arr_0 (arr_0.Springs.getD x_l0.toNat default) hp0 hp1 hp2 hp3 hp4 y_2 y_3 y_4 y_5) <| sK [16, 16] <| sX GVector.cells r0_l1 ((arr_0.Springs.getD x_l0.toNat default).A) y_6 y_7 <| sV GVector.cells r0_l1 (((arr_0.Springs.getD x_l0.toNat default).A).toNat) y_8 <| sF (Z35 ((Z2c arr_0 (arr_0.Springs.getD x_l0.toNat default)).1) ((Z2c arr_0 (arr_0.Springs.getD x_l0.toNat default)).2)) <| sF (Z2X (r0_l1.getD (((arr_0.Springs.getD x_l0.toNat default).A).toNat) default) (Zw ((Z2c arr_0 (arr_0.Springs.getD x_l0.toNat default)).1) ((Z2c arr_0 (arr_0.Springs.getD x_l0.toNat default)).2))) <| sX GVector.cells r0_l1 ((arr_0.Springs.getD x_l0.toNat default).A) y_6 y_7 <| sC (maplt (c := GVector.cells) (l := r0_l1) y_8) <| sK [17, 17] <| sC (show 0 ≤ ((arr_0.Springs.getD x_l0.toNat default).B) ∧ Int.toNat ((arr_0.Springs.getD x_l0.toNat default).B) < ((r0_l1.map GVector.cells).set (((arr_0.Springs.getD x_l0.toNat default).A).toNat) [.f .f32 ((Zf arr_0 x_l0 r0_l1).X), .f .f32 ((Zf arr_0 x_l0 r0_l1).Y), .f .f32 ((Zf arr_0 x_l0 r0_l1).Z)]).length from (by simpa using idx_ok (c := GVector.cells) (l := (r0_l1.set (((arr_0.Springs.getD x_l0.toNat default).A).toNat) (Zf arr_0 x_l0 r0_l1))) (i := (arr_0.Springs.getD x_l0.toNat default).B) y_9 y_10)) <| sE (show ((r0_l1.map GVector.cells).set (((arr_0.Springs.getD x_l0.toNat default).A).toNat) [.f .f32 ((Zf arr_0 x_l0 r0_l1).X), .f .f32 ((Zf arr_0 x_l0 r0_l1).Y), .f .f32 ((Zf arr_0 x_l0 r0_l1).Z)])[((arr_0.Springs.getD x_l0.toNat default).B).toNat]? = some [.f .f32 (((r0_l1.set (((arr_0.Springs.getD x_l0.toNat default).A).toNat) (Zf arr_0 x_l0 r0_l1)).getD (((arr_0.Springs.getD x_l0.toNat default).B).toNat) default).X), .f .f32 (((r0_l1.set (((arr_0.Springs.getD x_l0.toNat default).A).toNat) (Zf arr_0 x_l0 r0_l1)).getD (((arr_0.Springs.getD x_l0.toNat default).B).toNat) default).Y), .f .f32 (((r0_l1.set (((arr_0.Springs.getD x_l0.toNat default).A).toNat) (Zf arr_0 x_l0 r0_l1)).getD (((arr_0.Springs.getD x_l0.toNat default).B).toNat) default).Z)] from (by have q := vget_ok (c := GVector.cells) (l := (r0_l1.set (((arr_0.Springs.getD x_l0.toNat default).A).toNat) (Zf arr_0 x_l0 r0_l1))) (k := ((arr_0.Springs.getD x_l0.toNat default).B).toNat) y_11; (simp only [List.map_set, List.map_append, List.map_cons, List.map_nil, List.map_replicate] at q; exact q))) <| sF (Z35 ((Z2c arr_0 (arr_0.Springs.getD x_l0.toNat default)).1) (fneg .f32 ((Z2c arr_0 (arr_0.Springs.getD x_l0.toNat default)).2))) <| sF (Z2X ((r0_l1.set (((arr_0.Springs.getD x_l0.toNat default).A).toNat) (Zf arr_0 x_l0 r0_l1)).getD (((arr_0.Springs.getD x_l0.toNat default).B).toNat) default) (Z6J arr_0 x_l0)) <| sC (show 0 ≤ ((arr_0.Springs.getD x_l0.toNat default).B) ∧ Int.toNat ((arr_0.Springs.getD x_l0.toNat default).B) < ((r0_l1.map GVector.cells).set (((arr_0.Springs.getD x_l0.toNat default).A).toNat) [.f .f32 ((Zf arr_0 x_l0 r0_l1).X), .f .f32 ((Zf arr_0 x_l0 r0_l1).Y), .f .f32 ((Zf arr_0 x_l0 r0_l1).Z)]).length from (by simpa using idx_ok (c := GVector.cells) (l := (r0_l1.set (((arr_0.Springs.getD x_l0.toNat default).A).toNat) (Zf arr_0 x_l0 r0_l1))) (i := (arr_0.Springs.getD x_l0.toNat default).B) y_9 y_10)) <| sC (show ((arr_0.Springs.getD x_l0.toNat default).B).toNat < ((r0_l1.map GVector.cells).set (((arr_0.Springs.getD x_l0.toNat default).A).toNat) [.f .f32 ((Zf arr_0 x_l0 r0_l1).X), .f .f32 ((Zf arr_0 x_l0 r0_l1).Y), .f .f32 ((Zf arr_0 x_l0 r0_l1).Z)]).length from (by simpa using y_11)) <| sI (x_l0 + 1) y_12 y_13 <| sN) (by kernel_rfl) (show _ = ⟨.ref (GBody.cells arr_0) 0 :: .any :: .nils :: .ref (GBody.cells arr_0) 0 :: .own 0 :: an 15 (.ref (GBody.cells arr_0) 0 :: .ref (GBody.cells arr_0) 0 :: .ref (GBody.cells arr_0) 0 :: .ref (GBody.cells arr_0) 0 :: .ref (GBody.cells arr_0) 0 :: .ref (GBody.cells arr_0) 0 :: .sl (arr_0.Mesh.Places.map GVector.cells) :: .i .i64 (arr_0.Mesh.Places.length : Int) :: .own 0 :: .ref (GBody.cells arr_0) 0 :: .ref (GBody.cells arr_0) 0 :: .ref (GBody.cells arr_0) 2 :: .sl (arr_0.Springs.map GSpring.cells) :: .i .i64 (arr_0.Springs.length : Int) :: .i .i64 (x_l0 + 1) :: an 245 []), [.vec 40 3 (((r0_l1.set (((arr_0.Springs.getD x_l0.toNat default).A).toNat) (Zf arr_0 x_l0 r0_l1)).set (((arr_0.Springs.getD x_l0.toNat default).B).toNat) (Z21 arr_0 x_l0 r0_l1)).map GVector.cells) false]⟩ from (by simp [List.map_set, GVector.cells])) (ih (x_l0 + 1) ((r0_l1.set (((arr_0.Springs.getD x_l0.toNat default).A).toNat) (Zf arr_0 x_l0 r0_l1)).set (((arr_0.Springs.getD x_l0.toNat default).B).toNat) (Z21 arr_0 x_l0 r0_l1)) (show 0 ≤ (x_l0 + 1) from (by omega)) (show ((r0_l1.set (((arr_0.Springs.getD x_l0.toNat default).A).toNat) (Zf arr_0 x_l0 r0_l1)).set (((arr_0.Springs.getD x_l0.toNat default).B).toNat) (Z21 arr_0 x_l0 r0_l1)).length = arr_0.Mesh.Places.length from (by have q := hp5.w; have q := Z3H hp5 (by assumption) h_0; (simp only [List.length_set]; omega))) (by omega))
  | false =>
   have gh_0 := of_decide_eq_false h_0
   have e : ZY arr_0 (k + 1) x_l0 r0_l1 = r0_l1 := by simp only [ZY, h_0, cond_false]
   rw [e]
   exact outR (e := (.exit 0)) E0Ok Z3 [] (mR false [0, 1, 1, 3, 15, 13, 247]) [0] (sB h_0 <| sN) (by kernel_rfl) (by intro h; cases h)
theorem Z86 (arr_0 : GBody) : ∀ (k : Nat) (x_l0 : Int) (r0_l1 : (List GVector)) (hk : ((arr_0.Springs.length : Int) - x_l0).toNat < k), (ZY arr_0 k x_l0 r0_l1).length = r0_l1.length := by
  intro k
  induction k with
  | zero => intro x_l0 r0_l1 hk; exact absurd hk (Nat.not_lt_zero _)
  | succ k ih =>
    intro x_l0 r0_l1 hk
    cases h_0 : (decide (x_l0 < (arr_0.Springs.length : Int))) with
    | true =>
      have e : ZY arr_0 (k + 1) x_l0 r0_l1 = (ZY arr_0 k (x_l0 + 1) ((r0_l1.set (((arr_0.Springs.getD x_l0.toNat default).A).toNat) (Zf arr_0 x_l0 r0_l1)).set (((arr_0.Springs.getD x_l0.toNat default).B).toNat) (Z21 arr_0 x_l0 r0_l1))) := by simp only [ZY, h_0, cond_true]
      rw [e, ih (x_l0 + 1) ((r0_l1.set (((arr_0.Springs.getD x_l0.toNat default).A).toNat) (Zf arr_0 x_l0 r0_l1)).set (((arr_0.Springs.getD x_l0.toNat default).B).toNat) (Z21 arr_0 x_l0 r0_l1)) (by simp_all <;> omega)]; simp
    | false =>
      have e : ZY arr_0 (k + 1) x_l0 r0_l1 = r0_l1 := by simp only [ZY, h_0, cond_false]
      first | (rw [e]; done) | (rw [e]; rfl)
def Z2k (arr_0 : GBody) : (List GVector) := (ZY arr_0 (((arr_0.Springs.length : Int) - 0).toNat + 1) 0 (List.replicate (arr_0.Mesh.Places.length : Int).toNat (⟨0, 0, 0⟩ : GVector)))
@[simp] theorem ZaV (arr_0 : GBody) : (Z2k arr_0).length = ((List.replicate (arr_0.Mesh.Places.length : Int).toNat (⟨0, 0, 0⟩ : GVector)) : (List GVector)).length := Z86 arr_0 (((arr_0.Springs.length : Int) - 0).toNat + 1) 0 (List.replicate (arr_0.Mesh.Places.length : Int).toNat (⟨0, 0, 0⟩ : GVector)) (by exact Nat.lt_succ_self _)
def Z1x (arr_0 : GBody) (x_l0 : Int) : Nat := (Z3t (fneg .f32 (fop .mul .f32 1056964608 arr_0.Film)) (Z1V (Z9 arr_0.Mesh (arr_0.Mesh.Triangles.getD x_l0.toNat default))))
def Z4Z (arr_0 : GBody) (x_l0 : Int) (x_l0_1 : Int) : GVector := (Z1r (arr_0.Mesh.Places.getD ((arr_0.Mesh.Triangles.getD x_l0.toNat default).getD (Int.tmod (x_l0_1 + 2) 3).toNat default).toNat default) (arr_0.Mesh.Places.getD ((arr_0.Mesh.Triangles.getD x_l0.toNat default).getD (Int.tmod (x_l0_1 + 1) 3).toNat default).toNat default))
def Z44 (arr_0 : GBody) (x_l0 : Int) (x_l0_1 : Int) : GVector := (Zw (Z3B (Z9 arr_0.Mesh (arr_0.Mesh.Triangles.getD x_l0.toNat default)) (Z4Z arr_0 x_l0 x_l0_1)) (Z1x arr_0 x_l0))
def Z1y (arr_0 : GBody) (x_l0 : Int) (x_l0_1 : Int) (r0_l1_1 : (List GVector)) : GVector := (ZP (r0_l1_1.getD (((arr_0.Mesh.Triangles.getD x_l0.toNat default).getD x_l0_1.toNat default).toNat) default) (Z44 arr_0 x_l0 x_l0_1))
def ZA (arr_0 : GBody) (x_l0 : Int) (r0_l1 : (List GVector)) : Nat → Int → (List GVector) → (List GVector)
  | 0, _, _ => default
  | k + 1, x_l0_1, r0_l1_1 => (cond (decide (x_l0_1 < 3))
    (ZA arr_0 x_l0 r0_l1 k (x_l0_1 + 1) (r0_l1_1.set (((arr_0.Mesh.Triangles.getD x_l0.toNat default).getD x_l0_1.toNat default).toNat) (Z1y arr_0 x_l0 x_l0_1 r0_l1_1)))
    r0_l1_1)
def Z50 (arr_0 : GBody) (x_l0 : Int) (r0_l1 : (List GVector)) (r : (List GVector)) : Ex × St := ((.exit 4), ⟨.ref (GBody.cells arr_0) 0 :: .any :: .nils :: .ref (GBody.cells arr_0) 0 :: .own 0 :: an 4 (.i .i64 x_l0 :: .sl ((arr_0.Mesh.Triangles.getD x_l0.toNat default).map (cI .i64)) :: .ptr 1 0 0 :: .f .f32 (Z1x arr_0 x_l0) :: an 7 (.ref (GBody.cells arr_0) 0 :: .ref (GBody.cells arr_0) 0 :: .ref (GBody.cells arr_0) 0 :: .ref (GBody.cells arr_0) 0 :: .ref (GBody.cells arr_0) 0 :: .ref (GBody.cells arr_0) 0 :: .sl (arr_0.Mesh.Places.map GVector.cells) :: .i .i64 (arr_0.Mesh.Places.length : Int) :: .own 0 :: .ref (GBody.cells arr_0) 0 :: .ref (GBody.cells arr_0) 0 :: .ref (GBody.cells arr_0) 2 :: .sl (arr_0.Springs.map GSpring.cells) :: an 52 (.ref (GBody.cells arr_0) 0 :: .ref (GBody.cells arr_0) 0 :: .ref (GBody.cells arr_0) 1 :: .sl (arr_0.Mesh.Triangles.map (cL (cI .i64))) :: .i .i64 (arr_0.Mesh.Triangles.length : Int) :: .i .i64 x_l0 :: .b (decide (x_l0 < (arr_0.Mesh.Triangles.length : Int))) :: .i .i64 x_l0 :: .ref (GBody.cells arr_0) 0 :: .ref (GBody.cells arr_0) 0 :: .ref (GBody.cells arr_0) 1 :: .sl (arr_0.Mesh.Triangles.map (cL (cI .i64))) :: .i .i64 x_l0 :: .ref [.sl ((arr_0.Mesh.Triangles.getD x_l0.toNat default).map (cI .i64))] 0 :: .sl ((arr_0.Mesh.Triangles.getD x_l0.toNat default).map (cI .i64)) :: .ref (GBody.cells arr_0) 0 :: .sl ((arr_0.Mesh.Triangles.getD x_l0.toNat default).map (cI .i64)) :: .agg [.f .f32 ((Z9 arr_0.Mesh (arr_0.Mesh.Triangles.getD x_l0.toNat default)).X), .f .f32 ((Z9 arr_0.Mesh (arr_0.Mesh.Triangles.getD x_l0.toNat default)).Y), .f .f32 ((Z9 arr_0.Mesh (arr_0.Mesh.Triangles.getD x_l0.toNat default)).Z)] :: .ref (GBody.cells arr_0) 0 :: .ref (GBody.cells arr_0) 0 :: .ref (GBody.cells arr_0) 3 :: .f .f32 arr_0.Film :: .f .f32 (fop .mul .f32 1056964608 arr_0.Film) :: .f .f32 (fneg .f32 (fop .mul .f32 1056964608 arr_0.Film)) :: .agg [.f .f32 ((Z9 arr_0.Mesh (arr_0.Mesh.Triangles.getD x_l0.toNat default)).X), .f .f32 ((Z9 arr_0.Mesh (arr_0.Mesh.Triangles.getD x_l0.toNat default)).Y), .f .f32 ((Z9 arr_0.Mesh (arr_0.Mesh.Triangles.getD x_l0.toNat default)).Z)] :: .f .f32 (Z1V (Z9 arr_0.Mesh (arr_0.Mesh.Triangles.getD x_l0.toNat default))) :: .f .f32 (Z1x arr_0 x_l0) :: an 168 []))), [.vec 40 3 (r.map GVector.cells) false, .box 40 [.f .f32 ((Z9 arr_0.Mesh (arr_0.Mesh.Triangles.getD x_l0.toNat default)).X), .f .f32 ((Z9 arr_0.Mesh (arr_0.Mesh.Triangles.getD x_l0.toNat default)).Y), .f .f32 ((Z9 arr_0.Mesh (arr_0.Mesh.Triangles.getD x_l0.toNat default)).Z)]]⟩)
def Z8Q (arr_0 : GBody) (x_l0 : Int) (r0_l1 : (List GVector)) (x_l0_1 : Int) (r0_l1_1 : (List GVector)) : St := ⟨.ref (GBody.cells arr_0) 0 :: .any :: .nils :: .ref (GBody.cells arr_0) 0 :: .own 0 :: an 4 (.i .i64 x_l0 :: .sl ((arr_0.Mesh.Triangles.getD x_l0.toNat default).map (cI .i64)) :: .ptr 1 0 0 :: .f .f32 (Z1x arr_0 x_l0) :: .i .i64 x_l0_1 :: an 6 (.ref (GBody.cells arr_0) 0 :: .ref (GBody.cells arr_0) 0 :: .ref (GBody.cells arr_0) 0 :: .ref (GBody.cells arr_0) 0 :: .ref (GBody.cells arr_0) 0 :: .ref (GBody.cells arr_0) 0 :: .sl (arr_0.Mesh.Places.map GVector.cells) :: .i .i64 (arr_0.Mesh.Places.length : Int) :: .own 0 :: .ref (GBody.cells arr_0) 0 :: .ref (GBody.cells arr_0) 0 :: .ref (GBody.cells arr_0) 2 :: .sl (arr_0.Springs.map GSpring.cells) :: an 52 (.ref (GBody.cells arr_0) 0 :: .ref (GBody.cells arr_0) 0 :: .ref (GBody.cells arr_0) 1 :: .sl (arr_0.Mesh.Triangles.map (cL (cI .i64))) :: .i .i64 (arr_0.Mesh.Triangles.length : Int) :: .i .i64 x_l0 :: .b (decide (x_l0 < (arr_0.Mesh.Triangles.length : Int))) :: .i .i64 x_l0 :: .ref (GBody.cells arr_0) 0 :: .ref (GBody.cells arr_0) 0 :: .ref (GBody.cells arr_0) 1 :: .sl (arr_0.Mesh.Triangles.map (cL (cI .i64))) :: .i .i64 x_l0 :: .ref [.sl ((arr_0.Mesh.Triangles.getD x_l0.toNat default).map (cI .i64))] 0 :: .sl ((arr_0.Mesh.Triangles.getD x_l0.toNat default).map (cI .i64)) :: .ref (GBody.cells arr_0) 0 :: .sl ((arr_0.Mesh.Triangles.getD x_l0.toNat default).map (cI .i64)) :: .agg [.f .f32 ((Z9 arr_0.Mesh (arr_0.Mesh.Triangles.getD x_l0.toNat default)).X), .f .f32 ((Z9 arr_0.Mesh (arr_0.Mesh.Triangles.getD x_l0.toNat default)).Y), .f .f32 ((Z9 arr_0.Mesh (arr_0.Mesh.Triangles.getD x_l0.toNat default)).Z)] :: .ref (GBody.cells arr_0) 0 :: .ref (GBody.cells arr_0) 0 :: .ref (GBody.cells arr_0) 3 :: .f .f32 arr_0.Film :: .f .f32 (fop .mul .f32 1056964608 arr_0.Film) :: .f .f32 (fneg .f32 (fop .mul .f32 1056964608 arr_0.Film)) :: .agg [.f .f32 ((Z9 arr_0.Mesh (arr_0.Mesh.Triangles.getD x_l0.toNat default)).X), .f .f32 ((Z9 arr_0.Mesh (arr_0.Mesh.Triangles.getD x_l0.toNat default)).Y), .f .f32 ((Z9 arr_0.Mesh (arr_0.Mesh.Triangles.getD x_l0.toNat default)).Z)] :: .f .f32 (Z1V (Z9 arr_0.Mesh (arr_0.Mesh.Triangles.getD x_l0.toNat default))) :: .f .f32 (Z1x arr_0 x_l0) :: an 168 []))), [.vec 40 3 (r0_l1_1.map GVector.cells) false, .box 40 [.f .f32 ((Z9 arr_0.Mesh (arr_0.Mesh.Triangles.getD x_l0.toNat default)).X), .f .f32 ((Z9 arr_0.Mesh (arr_0.Mesh.Triangles.getD x_l0.toNat default)).Y), .f .f32 ((Z9 arr_0.Mesh (arr_0.Mesh.Triangles.getD x_l0.toNat default)).Z)]]⟩
def Z5T : List Bool := (mR false [0, 1, 1, 3, 4, 5, 6, 13, 52, 27, 168])
def Z87 : List Bool := (mR false [0, 1, 1, 3, 4, 4, 7, 13, 52, 27, 168])
set_option maxHeartbeats 1000000 in
theorem Z8R (arr_0 : GBody) (x_l0 : Int) (r0_l1 : (List GVector)) (hp0 : arr_0.Mesh.Places.length ≤ 1073741824) (hp1 : arr_0.Mesh.Triangles.length ≤ 1073741824) (hp2 : ∀ t ∈ arr_0.Mesh.Triangles, t.length ≤ 1073741824) (hp3 : arr_0.Springs.length ≤ 1073741824) (hp4 : arr_0.Weights.length ≤ 1073741824) (hp5 : OkBd arr_0) (Z3E : 0 ≤ x_l0) (Z3F : r0_l1.length = arr_0.Mesh.Places.length) (Z1j : (decide (x_l0 < (arr_0.Mesh.Triangles.length : Int))) = true) : ∀ (k : Nat) (x_l0_1 : Int) (r0_l1_1 : (List GVector)) (Z5U : 0 ≤ x_l0_1) (Z5V : r0_l1_1.length = r0_l1.length) (hk : ((3 : Int) - x_l0_1).toNat < k), Lp prog 0 (sub (bodyOf f51) [1, 1, 1, 1, 0, 1, 0, 0, 1, 1, 0, 0, 1, 1, 1, 1, 1, 0, 0]) (Z8Q arr_0 x_l0 r0_l1 x_l0_1 r0_l1_1) (Z50 arr_0 x_l0 r0_l1 (ZA arr_0 x_l0 r0_l1 k x_l0_1 r0_l1_1)).1 (Z50 arr_0 x_l0 r0_l1 (ZA arr_0 x_l0 r0_l1 k x_l0_1 r0_l1_1)).2 := by
 intro k
 induction k with
 | zero => intro x_l0_1 r0_l1_1 Z5U Z5V hk; exact absurd hk (Nat.not_lt_zero _)
 | succ k ih =>
  intro x_l0_1 r0_l1_1 Z5U Z5V hk
  cases h__0 : (decide (x_l0_1 < 3)) with
  | true =>
   have gh__0 := of_decide_eq_true h__0
   have y__0 : (-9223372036854775808 : Int) ≤ (x_l0_1 + 2) := (by omega)
   have y__1 : (x_l0_1 + 2) ≤ (9223372036854775807 : Int) := (by omega)
   have y__2 : (0 : Int) ≤ (Int.tmod (x_l0_1 + 2) 3) := (by have q := Z1U hp5.e (by assumption) (of_decide_eq_true Z1j) (by assumption) gh__0; omega)
   have y__3 : (Int.tmod (x_l0_1 + 2) 3) < ((arr_0.Mesh.Triangles.getD x_l0.toNat default).length : Int) := (by have q := Z1U hp5.e (by assumption) (of_decide_eq_true Z1j) (by assumption) gh__0; omega)
   have y__4 : (0 : Int) ≤ ((arr_0.Mesh.Triangles.getD x_l0.toNat default).getD (Int.tmod (x_l0_1 + 2) 3).toNat default) := (by have q := Z1U hp5.e (by assumption) (of_decide_eq_true Z1j) (by assumption) gh__0; omega)
   have y__5 : ((arr_0.Mesh.Triangles.getD x_l0.toNat default).getD (Int.tmod (x_l0_1 + 2) 3).toNat default) < (arr_0.Mesh.Places.length : Int) := (by have q := Z1U hp5.e (by assumption) (of_decide_eq_true Z1j) (by assumption) gh__0; omega)
   have y__6 : (-9223372036854775808 : Int) ≤ (x_l0_1 + 1) := (by omega)
   have y__7 : (x_l0_1 + 1) ≤ (9223372036854775807 : Int) := (by omega)
   have y__8 : (0 : Int) ≤ (Int.tmod (x_l0_1 + 1) 3) := (by have q := Z1U hp5.e (by assumption) (of_decide_eq_true Z1j) (by assumption) gh__0; omega)
   have y__9 : (Int.tmod (x_l0_1 + 1) 3) < ((arr_0.Mesh.Triangles.getD x_l0.toNat default).length : Int) := (by have q := Z1U hp5.e (by assumption) (of_decide_eq_true Z1j) (by assumption) gh__0; omega)
   have y__10 : (0 : Int) ≤ ((arr_0.Mesh.Triangles.getD x_l0.toNat default).getD (Int.tmod (x_l0_1 + 1) 3).toNat default) := (by have q := Z1U hp5.e (by assumption) (of_decide_eq_true Z1j) (by assumption) gh__0; omega)
   have y__11 : ((arr_0.Mesh.Triangles.getD x_l0.toNat default).getD (Int.tmod (x_l0_1 + 1) 3).toNat default) < (arr_0.Mesh.Places.length : Int) := (by have q := Z1U hp5.e (by assumption) (of_decide_eq_true Z1j) (by assumption) gh__0; omega)
   have y__12 : (0 : Int) ≤ x_l0_1 := (by assumption)
   have y__13 : x_l0_1 < ((arr_0.Mesh.Triangles.getD x_l0.toNat default).length : Int) := (by have q := Z1U hp5.e (by assumption) (of_decide_eq_true Z1j) (by assumption) gh__0; omega)
   have y__14 : (0 : Int) ≤ ((arr_0.Mesh.Triangles.getD x_l0.toNat default).getD x_l0_1.toNat default) := (by have q := Z1U hp5.e (by assumption) (of_decide_eq_true Z1j) (by assumption) gh__0; omega)
   have y__15 : ((arr_0.Mesh.Triangles.getD x_l0.toNat default).getD x_l0_1.toNat default) < (r0_l1_1.length : Int) := (by have q := Z1U hp5.e (by assumption) (of_decide_eq_true Z1j) (by assumption) gh__0; omega)
   have y__16 : ((arr_0.Mesh.Triangles.getD x_l0.toNat default).getD x_l0_1.toNat default).toNat < r0_l1_1.length := (by omega)
   have e : ZA arr_0 x_l0 r0_l1 (k + 1) x_l0_1 r0_l1_1 = (ZA arr_0 x_l0 r0_l1 k (x_l0_1 + 1) (r0_l1_1.set (((arr_0.Mesh.Triangles.getD x_l0.toNat default).getD x_l0_1.toNat default).toNat) (Z1y arr_0 x_l0 x_l0_1 r0_l1_1))) := by simp only [ZA, h__0, cond_true]
   rw [e]
   exact nextS E0Ok Z3 [] Z5T [0, 1] (⟨.ref (GBody.cells arr_0) 0 :: .any :: .nils :: .ref (GBody.cells arr_0) 0 :: .own 0 :: an 4 (.i .i64 x_l0 :: .sl ((arr_0.Mesh.Triangles.getD x_l0.toNat default).map (cI .i64)) :: .ptr 1 0 0 :: .f .f32 (Z1x arr_0 x_l0) :: .i .i64 (x_l0_1 + 1) :: an 6 (.ref (GBody.cells arr_0) 0 :: .ref (GBody.cells arr_0) 0 :: .ref (GBody.cells arr_0) 0 :: .ref (GBody.cells arr_0) 0 :: .ref (GBody.cells arr_0) 0 :: .ref (GBody.cells arr_0) 0 :: .sl (arr_0.Mesh.Places.map GVector.cells) :: .i .i64 (arr_0.Mesh.Places.length : Int) :: .own 0 :: .ref (GBody.cells arr_0) 0 :: .ref (GBody.cells arr_0) 0 :: .ref (GBody.cells arr_0) 2 :: .sl (arr_0.Springs.map GSpring.cells) :: an 52 (.ref (GBody.cells arr_0) 0 :: .ref (GBody.cells arr_0) 0 :: .ref (GBody.cells arr_0) 1 :: .sl (arr_0.Mesh.Triangles.map (cL (cI .i64))) :: .i .i64 (arr_0.Mesh.Triangles.length : Int) :: .i .i64 x_l0 :: .b (decide (x_l0 < (arr_0.Mesh.Triangles.length : Int))) :: .i .i64 x_l0 :: .ref (GBody.cells arr_0) 0 :: .ref (GBody.cells arr_0) 0 :: .ref (GBody.cells arr_0) 1 :: .sl (arr_0.Mesh.Triangles.map (cL (cI .i64))) :: .i .i64 x_l0 :: .ref [.sl ((arr_0.Mesh.Triangles.getD x_l0.toNat default).map (cI .i64))] 0 :: .sl ((arr_0.Mesh.Triangles.getD x_l0.toNat default).map (cI .i64)) :: .ref (GBody.cells arr_0) 0 :: .sl ((arr_0.Mesh.Triangles.getD x_l0.toNat default).map (cI .i64)) :: .agg [.f .f32 ((Z9 arr_0.Mesh (arr_0.Mesh.Triangles.getD x_l0.toNat default)).X), .f .f32 ((Z9 arr_0.Mesh (arr_0.Mesh.Triangles.getD x_l0.toNat default)).Y), .f .f32 ((Z9 arr_0.Mesh (arr_0.Mesh.Triangles.getD x_l0.toNat default)).Z)] :: .ref (GBody.cells arr_0) 0 :: .ref (GBody.cells arr_0) 0 :: .ref (GBody.cells arr_0) 3 :: .f .f32 arr_0.Film :: .f .f32 (fop .mul .f32 1056964608 arr_0.Film) :: .f .f32 (fneg .f32 (fop .mul .f32 1056964608 arr_0.Film)) :: .agg [.f .f32 ((Z9 arr_0.Mesh (arr_0.Mesh.Triangles.getD x_l0.toNat default)).X), .f .f32 ((Z9 arr_0.Mesh (arr_0.Mesh.Triangles.getD x_l0.toNat default)).Y), .f .f32 ((Z9 arr_0.Mesh (arr_0.Mesh.Triangles.getD x_l0.toNat default)).Z)] :: .f .f32 (Z1V (Z9 arr_0.Mesh (arr_0.Mesh.Triangles.getD x_l0.toNat default))) :: .f .f32 (Z1x arr_0 x_l0) :: an 168 []))), [.vec 40 3 ((r0_l1_1.map GVector.cells).set (((arr_0.Mesh.Triangles.getD x_l0.toNat default).getD x_l0_1.toNat default).toNat) [.f .f32 ((Z1y arr_0 x_l0 x_l0_1 r0_l1_1).X), .f .f32 ((Z1y arr_0 x_l0 x_l0_1 r0_l1_1).Y), .f .f32 ((Z1y arr_0 x_l0 x_l0_1 r0_l1_1).Z)]) false, .box 40 [.f .f32 ((Z9 arr_0.Mesh (arr_0.Mesh.Triangles.getD x_l0.toNat default)).X), .f .f32 ((Z9 arr_0.Mesh (arr_0.Mesh.Triangles.getD x_l0.toNat default)).Y), .f .f32 ((Z9 arr_0.Mesh (arr_0.Mesh.Triangles.getD x_l0.toNat default)).Z)]]⟩) (sB h__0 <| sK [26, 26] <| sI (x_l0_1 + 2) y__0 y__1 <| sC (show (3 : Int) ≠ 0 from (by decide)) <| sQ (Int.tmod (x_l0_1 + 2) 3) <| sG (cI .i64) (arr_0.Mesh.Triangles.getD x_l0.toNat default) (Int.tmod (x_l0_1 + 2) 3) y__2 y__3 <| sG GVector.cells arr_0.Mesh.Places ((arr_0.Mesh.Triangles.getD x_l0.toNat default).getD (Int.tmod (x_l0_1 + 2) 3).toNat default) y__4 y__5 <| sI (x_l0_1 + 1) y__6 y__7 <| sC (show (3 : Int) ≠ 0 from (by decide)) <| sQ (Int.tmod (x_l0_1 + 1) 3) <| sG (cI .i64) (arr_0.Mesh.Triangles.getD x_l0.toNat default) (Int.tmod (x_l0_1 + 1) 3) y__8 y__9 <| sG GVector.cells arr_0.Mesh.Places ((arr_0.Mesh.Triangles.getD x_l0.toNat default).getD (Int.tmod (x_l0_1 + 1) 3).toNat default) y__10 y__11 <| sF (Z4m (arr_0.Mesh.Places.getD ((arr_0.Mesh.Triangles.getD x_l0.toNat default).getD (Int.tmod (x_l0_1 + 2) 3).toNat default).toNat default) (arr_0.Mesh.Places.getD ((arr_0.Mesh.Triangles.getD x_l0.toNat default).getD (Int.tmod (x_l0_1 + 1) 3).toNat default).toNat default)) <| sK [18, 18] <| sG (cI .i64) (arr_0.Mesh.Triangles.getD x_l0.toNat default) x_l0_1 y__12 y__13 <| sG (cI .i64) (arr_0.Mesh.Triangles.getD x_l0.toNat default) x_l0_1 y__12 y__13 <| sX GVector.cells r0_l1_1 ((arr_0.Mesh.Triangles.getD x_l0.toNat default).getD x_l0_1.toNat default) y__14 y__15 <| sV GVector.cells r0_l1_1 (((arr_0.Mesh.Triangles.getD x_l0.toNat default).getD x_l0_1.toNat default).toNat) y__16 <| sF (Z7O (Z9 arr_0.Mesh (arr_0.Mesh.Triangles.getD x_l0.toNat default)) (Z4Z arr_0 x_l0 x_l0_1)) <| sF (Z35 (Z3B (Z9 arr_0.Mesh (arr_0.Mesh.Triangles.getD x_l0.toNat default)) (Z4Z arr_0 x_l0 x_l0_1)) (Z1x arr_0 x_l0)) <| sF (Z2X (r0_l1_1.getD (((arr_0.Mesh.Triangles.getD x_l0.toNat default).getD x_l0_1.toNat default).toNat) default) (Z44 arr_0 x_l0 x_l0_1)) <| sX GVector.cells r0_l1_1 ((arr_0.Mesh.Triangles.getD x_l0.toNat default).getD x_l0_1.toNat default) y__14 y__15 <| sC (maplt (c := GVector.cells) (l := r0_l1_1) y__16) <| sI (x_l0_1 + 1) y__6 y__7 <| sN) (by kernel_rfl) (show _ = ⟨.ref (GBody.cells arr_0) 0 :: .any :: .nils :: .ref (GBody.cells arr_0) 0 :: .own 0 :: an 4 (.i .i64 x_l0 :: .sl ((arr_0.Mesh.Triangles.getD x_l0.toNat default).map (cI .i64)) :: .ptr 1 0 0 :: .f .f32 (Z1x arr_0 x_l0) :: .i .i64 (x_l0_1 + 1) :: an 6 (.ref (GBody.cells arr_0) 0 :: .ref (GBody.cells arr_0) 0 :: .ref (GBody.cells arr_0) 0 :: .ref (GBody.cells arr_0) 0 :: .ref (GBody.cells arr_0) 0 :: .ref (GBody.cells arr_0) 0 :: .sl (arr_0.Mesh.Places.map GVector.cells) :: .i .i64 (arr_0.Mesh.Places.length : Int) :: .own 0 :: .ref (GBody.cells arr_0) 0 :: .ref (GBody.cells arr_0) 0 :: .ref (GBody.cells arr_0) 2 :: .sl (arr_0.Springs.map GSpring.cells) :: an 52 (.ref (GBody.cells arr_0) 0 :: .ref (GBody.cells arr_0) 0 :: .ref (GBody.cells arr_0) 1 :: .sl (arr_0.Mesh.Triangles.map (cL (cI .i64))) :: .i .i64 (arr_0.Mesh.Triangles.length : Int) :: .i .i64 x_l0 :: .b (decide (x_l0 < (arr_0.Mesh.Triangles.length : Int))) :: .i .i64 x_l0 :: .ref (GBody.cells arr_0) 0 :: .ref (GBody.cells arr_0) 0 :: .ref (GBody.cells arr_0) 1 :: .sl (arr_0.Mesh.Triangles.map (cL (cI .i64))) :: .i .i64 x_l0 :: .ref [.sl ((arr_0.Mesh.Triangles.getD x_l0.toNat default).map (cI .i64))] 0 :: .sl ((arr_0.Mesh.Triangles.getD x_l0.toNat default).map (cI .i64)) :: .ref (GBody.cells arr_0) 0 :: .sl ((arr_0.Mesh.Triangles.getD x_l0.toNat default).map (cI .i64)) :: .agg [.f .f32 ((Z9 arr_0.Mesh (arr_0.Mesh.Triangles.getD x_l0.toNat default)).X), .f .f32 ((Z9 arr_0.Mesh (arr_0.Mesh.Triangles.getD x_l0.toNat default)).Y), .f .f32 ((Z9 arr_0.Mesh (arr_0.Mesh.Triangles.getD x_l0.toNat default)).Z)] :: .ref (GBody.cells arr_0) 0 :: .ref (GBody.cells arr_0) 0 :: .ref (GBody.cells arr_0) 3 :: .f .f32 arr_0.Film :: .f .f32 (fop .mul .f32 1056964608 arr_0.Film) :: .f .f32 (fneg .f32 (fop .mul .f32 1056964608 arr_0.Film)) :: .agg [.f .f32 ((Z9 arr_0.Mesh (arr_0.Mesh.Triangles.getD x_l0.toNat default)).X), .f .f32 ((Z9 arr_0.Mesh (arr_0.Mesh.Triangles.getD x_l0.toNat default)).Y), .f .f32 ((Z9 arr_0.Mesh (arr_0.Mesh.Triangles.getD x_l0.toNat default)).Z)] :: .f .f32 (Z1V (Z9 arr_0.Mesh (arr_0.Mesh.Triangles.getD x_l0.toNat default))) :: .f .f32 (Z1x arr_0 x_l0) :: an 168 []))), [.vec 40 3 ((r0_l1_1.set (((arr_0.Mesh.Triangles.getD x_l0.toNat default).getD x_l0_1.toNat default).toNat) (Z1y arr_0 x_l0 x_l0_1 r0_l1_1)).map GVector.cells) false, .box 40 [.f .f32 ((Z9 arr_0.Mesh (arr_0.Mesh.Triangles.getD x_l0.toNat default)).X), .f .f32 ((Z9 arr_0.Mesh (arr_0.Mesh.Triangles.getD x_l0.toNat default)).Y), .f .f32 ((Z9 arr_0.Mesh (arr_0.Mesh.Triangles.getD x_l0.toNat default)).Z)]]⟩ from (by simp [List.map_set, GVector.cells])) (ih (x_l0_1 + 1) (r0_l1_1.set (((arr_0.Mesh.Triangles.getD x_l0.toNat default).getD x_l0_1.toNat default).toNat) (Z1y arr_0 x_l0 x_l0_1 r0_l1_1)) (show 0 ≤ (x_l0_1 + 1) from (by omega)) (show (r0_l1_1.set (((arr_0.Mesh.Triangles.getD x_l0.toNat default).getD x_l0_1.toNat default).toNat) (Z1y arr_0 x_l0 x_l0_1 r0_l1_1)).length = r0_l1.length from (by have q := Z1U hp5.e (by assumption) (of_decide_eq_true Z1j) (by assumption) gh__0; (simp only [List.length_set]; omega))) (by omega))
  | false =>
   have gh__0 := of_decide_eq_false h__0
   have e : ZA arr_0 x_l0 r0_l1 (k + 1) x_l0_1 r0_l1_1 = r0_l1_1 := by simp only [ZA, h__0, cond_false]
   rw [e]
   exact outR (e := (.exit 4)) E0Ok Z3 [] Z87 [0, 1] (sB h__0 <| sN) (by kernel_rfl) (by intro h; cases h)
end Go.Ab
