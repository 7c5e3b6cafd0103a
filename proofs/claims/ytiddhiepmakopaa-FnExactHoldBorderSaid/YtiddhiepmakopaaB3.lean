/- The functions of this seat as plain Lean, and that the program's are these. Printed by a program of the prover's own. -/
import Derived.Test.YtiddhiepmakopaaB2
set_option linter.unusedVariables false
set_option linter.unusedSimpArgs false
set_option maxRecDepth 100000
namespace Go.Ab
open Go.RowKit Go.Proofs.Try
def Z2y : List Bool := (mR false [0, 2, 1, 1, 1, 1, 2, 51, 10])
def Z4U : List Bool := (mR false [0, 2, 1, 1, 1, 1, 2, 50, 11])
theorem Z3X (Y0 : Gm) (Y3 : Int) (hp0 : Y0.Pq.length ≤ 1073741824) (hp1 : Y0.Tr.length ≤ 1073741824) (hp2 : ∀ t ∈ Y0.Tr, t.length ≤ 1073741824) (Z1J : (decide ((Y0.Pq.length : Int) > 64)) = false) (Z1K : (decide ((Y0.Tr.length : Int) > 128)) = false) (Z1L : 0 ≤ Y3) (Z6K : (((Y0.Tr.getD Y3.toNat default).length : Int) != 3) = false) (Z6L : (decide ((Y0.Pq.length : Int) > 64)) = false) (Z6M : (decide ((Y0.Tr.length : Int) > 128)) = false) (Z6N : (decide (Y3 < (Y0.Tr.length : Int))) = true) : ∀ (k : Nat) (Y8 : Int) (Z3z : 0 ≤ Y8) (hk : (((Y0.Tr.getD Y3.toNat default).length : Int) - Y8).toNat < k), Lp prog 0 (sub (bodyOf f68) [1, 1, 1, 0, 1, 0, 0, 1, 1, 0, 0, 1, 1, 1, 0, 0]) (Z5g Y0 Y3 Y8) (Z2m Y0 Y3 (ZS Y0 Y3 k Y8)).1 (Z2m Y0 Y3 (ZS Y0 Y3 k Y8)).2 := by
 intro k
 induction k with
 | zero => intro Y8 Z3z hk; exact absurd hk (Nat.not_lt_zero _)
 | succ k ih =>
  intro Y8 Z3z hk
  cases YA : (decide (Y8 < ((Y0.Tr.getD Y3.toNat default).length : Int))) with
  | true =>
   have YS := odt YA
   have YZ : (0 : Int) ≤ Y8 := (by assumption)
   have Y10 : Y8 < ((Y0.Tr.getD Y3.toNat default).length : Int) := (by assumption)
   have p {a C} (s : Scr a C) := sB YA <| sG (cI .i64) (Y0.Tr.getD Y3.toNat default) Y8 YZ Y10 <| sW .i64 ((Y0.Pq.length : Int) - 1) <| sF (Z4o ((Y0.Tr.getD Y3.toNat default).getD Y8.toNat default) 0 (IntKind.wrap .i64 ((Y0.Pq.length : Int) - 1))) <| s
   cases YI : (ZY ((Y0.Tr.getD Y3.toNat default).getD Y8.toNat default) 0 (IntKind.wrap .i64 ((Y0.Pq.length : Int) - 1))) with
   | true =>
    have YT : (-9223372036854775808 : Int) ≤ (Y8 + 1) := by clear p; exact (by omega)
    have YQ : (Y8 + 1) ≤ (9223372036854775807 : Int) := by clear p; exact (by simp_all <;> omega)
    have e : ZS Y0 Y3 (k + 1) Y8 = (ZS Y0 Y3 k (Y8 + 1)) := by simp only [ZS, YA, YI, cond_true]
    rw [e]
    exact nextR E0Ok Z3 [] Z2y [0] (ih (Y8 + 1) (show 0 ≤ (Y8 + 1) from (by omega)) (by omega)) (p (sB' YI <| sI (Y8 + 1) YT YQ <| sN)) (by kernel_rfl)
   | false =>
    have e : ZS Y0 Y3 (k + 1) Y8 = (.inl ()) := by simp only [ZS, YA, YI, cond_true, cond_false]
    rw [e]
    exact outR (e := .ret) E0Ok Z3 [] (mR false [2, 1, 66]) [] (p (sB' YI <| sN)) (by kernel_rfl) (by intro h; cases h)
  | false =>
   have YS := odf YA
   have e : ZS Y0 Y3 (k + 1) Y8 = (.inr ()) := by simp only [ZS, YA, cond_false]
   rw [e]
   exact outR (e := (.exit 2)) E0Ok Z3 [] Z4U [0] (sB YA <| sN) (by kernel_rfl) (by intro h; cases h)
def Z1z (Y0 : Gm) (Y3 : Int) : (Unit) ⊕ (Unit) := (ZS Y0 Y3 ((((Y0.Tr.getD Y3.toNat default).length : Int) - 0).toNat + 1) 0)
def Ze (Y0 : Gm) : Nat → Int → (Unit) ⊕ (Unit)
  | 0, _ => .inl default
  | k + 1, Y3 => (cond (decide (Y3 < (Y0.Tr.length : Int)))
    (cond (((Y0.Tr.getD Y3.toNat default).length : Int) != 3)
      (.inl ())
      (cond (((Y0.Tr.getD Y3.toNat default).getD 0 default) == ((Y0.Tr.getD Y3.toNat default).getD 1 default))
        (.inl ())
        (cond (((Y0.Tr.getD Y3.toNat default).getD 1 default) == ((Y0.Tr.getD Y3.toNat default).getD 2 default))
          (.inl ())
          (cond (((Y0.Tr.getD Y3.toNat default).getD 0 default) == ((Y0.Tr.getD Y3.toNat default).getD 2 default))
            (.inl ())
            (match (Z1z Y0 Y3) with
              | .inl r_6 => (.inl ())
              | .inr r_6 => (Ze Y0 k (Y3 + 1)))))))
    (.inr ()))
def Z2n (Y0 : Gm) : (Unit) ⊕ (Unit) → Ex × St
  | .inl r => (.ret, ⟨.any :: .any :: .b false :: an 66 [], []⟩)
  | .inr r => ((.exit 0), ⟨.agg [.sl (Y0.Pq.map Gv.c), .sl (Y0.Tr.map (cL (cI .i64)))] :: .ptr 0 0 0 :: .any :: .i .i64 (Y0.Pq.length : Int) :: an 4 (.ptr 0 0 0 :: .sl (Y0.Pq.map Gv.c) :: .i .i64 (Y0.Pq.length : Int) :: .i .i64 (Y0.Pq.length : Int) :: .b (decide ((Y0.Pq.length : Int) > 64)) :: .b (decide ((Y0.Pq.length : Int) > 64)) :: .ptr 0 0 1 :: .sl (Y0.Tr.map (cL (cI .i64))) :: .i .i64 (Y0.Tr.length : Int) :: .b (decide ((Y0.Tr.length : Int) > 128)) :: .b (decide ((Y0.Tr.length : Int) > 128)) :: .ptr 0 0 1 :: .sl (Y0.Tr.map (cL (cI .i64))) :: an 48 []), [.box 35 [.sl (Y0.Pq.map Gv.c), .sl (Y0.Tr.map (cL (cI .i64)))]]⟩)
def Z5h (Y0 : Gm) (Y3 : Int) : St := ⟨.agg [.sl (Y0.Pq.map Gv.c), .sl (Y0.Tr.map (cL (cI .i64)))] :: .ptr 0 0 0 :: .any :: .i .i64 (Y0.Pq.length : Int) :: an 4 (.ptr 0 0 0 :: .sl (Y0.Pq.map Gv.c) :: .i .i64 (Y0.Pq.length : Int) :: .i .i64 (Y0.Pq.length : Int) :: .b (decide ((Y0.Pq.length : Int) > 64)) :: .b (decide ((Y0.Pq.length : Int) > 64)) :: .ptr 0 0 1 :: .sl (Y0.Tr.map (cL (cI .i64))) :: .i .i64 (Y0.Tr.length : Int) :: .b (decide ((Y0.Tr.length : Int) > 128)) :: .b (decide ((Y0.Tr.length : Int) > 128)) :: .ptr 0 0 1 :: .sl (Y0.Tr.map (cL (cI .i64))) :: .i .i64 (Y0.Tr.length : Int) :: .i .i64 Y3 :: an 46 []), [.box 35 [.sl (Y0.Pq.map Gv.c), .sl (Y0.Tr.map (cL (cI .i64)))]]⟩
theorem Z3Y (Y0 : Gm) (hp0 : Y0.Pq.length ≤ 1073741824) (hp1 : Y0.Tr.length ≤ 1073741824) (hp2 : ∀ t ∈ Y0.Tr, t.length ≤ 1073741824) (Z1J : (decide ((Y0.Pq.length : Int) > 64)) = false) (Z1K : (decide ((Y0.Tr.length : Int) > 128)) = false) : ∀ (k : Nat) (Y3 : Int) (Z1L : 0 ≤ Y3) (hk : ((Y0.Tr.length : Int) - Y3).toNat < k), Lp prog 0 (sub (bodyOf f68) [1, 1, 1, 0, 1, 0, 0]) (Z5h Y0 Y3) (Z2n Y0 (Ze Y0 k Y3)).1 (Z2n Y0 (Ze Y0 k Y3)).2 := by
 intro k
 induction k with
 | zero => intro Y3 Z1L hk; exact absurd hk (Nat.not_lt_zero _)
 | succ k ih =>
  intro Y3 Z1L hk
  cases Ye : (decide (Y3 < (Y0.Tr.length : Int))) with
  | true =>
   have Yo := odt Ye
   have Yt : (0 : Int) ≤ Y3 := (by assumption)
   have Yu : Y3 < (Y0.Tr.length : Int) := (by assumption)
   have p {a C} (s : Scr a C) := sB Ye <| sG (cL (cI .i64)) Y0.Tr Y3 Yt Yu <| sK [28, 28] <| sZ (cI .i64) (Y0.Tr.getD Y3.toNat default) <| s
   cases Yk : (((Y0.Tr.getD Y3.toNat default).length : Int) != 3) with
   | true =>
    have YR := bne_iff_ne.1 Yk
    have e : Ze Y0 (k + 1) Y3 = (.inl ()) := by simp only [Ze, Ye, Yk, cond_true]
    rw [e]
    exact outR (e := .ret) E0Ok Z3 [] (mR false [2, 1, 66]) [] (p (sB Yk <| sB Yk <| sB Yk <| sB Yk <| sB Yk <| sB Yk <| sB Yk <| sB Yk <| sB (show true = true from rfl) <| sB (show true = true from rfl) <| sB (show true = true from rfl) <| sB (show true = true from rfl) <| sB (show true = true from rfl) <| sB (show true = true from rfl) <| sB (show true = true from rfl) <| sB (show true = true from rfl) <| sB (show true = true from rfl) <| sB (show true = true from rfl) <| sB (show true = true from rfl) <| sB (show true = true from rfl) <| sB (show true = true from rfl) <| sB (show true = true from rfl) <| sB (show true = true from rfl) <| sB (show true = true from rfl) <| sB (show true = true from rfl) <| sN)) (by kernel_rfl) (by intro h; cases h)
   | false =>
    have YR := bne_eq_false_iff_eq.1 Yk
    have Yy : (0 : Int) ≤ 0 := by clear p; exact (by omega)
    have YC : 0 < ((Y0.Tr.getD Y3.toNat default).length : Int) := by clear p; exact (by omega)
    have YE : (0 : Int) ≤ 1 := by clear p; exact (by omega)
    have YL : 1 < ((Y0.Tr.getD Y3.toNat default).length : Int) := by clear p; exact (by omega)
    have q {a C} (s : Scr a C) := p (sB Yk <| sB Yk <| sG (cI .i64) (Y0.Tr.getD Y3.toNat default) 0 Yy YC <| sB Yk <| sB Yk <| sB Yk <| sG (cI .i64) (Y0.Tr.getD Y3.toNat default) 1 YE YL <| sB Yk <| sB Yk <| sB Yk <| s)
    clear p
    cases YB : (((Y0.Tr.getD Y3.toNat default).getD 0 default) == ((Y0.Tr.getD Y3.toNat default).getD 1 default)) with
    | true =>
     have YV := eq_of_beq YB
     have e : Ze Y0 (k + 1) Y3 = (.inl ()) := by simp only [Ze, Ye, Yk, YB, cond_true, cond_false]
     rw [e]
     exact outR (e := .ret) E0Ok Z3 [] (mR false [2, 1, 66]) [] (q (sB YB <| sB YB <| sB YB <| sB YB <| sB YB <| sB YB <| sB YB <| sB YB <| sB (show true = true from rfl) <| sB (show true = true from rfl) <| sB (show true = true from rfl) <| sB (show true = true from rfl) <| sB (show true = true from rfl) <| sB (show true = true from rfl) <| sB (show true = true from rfl) <| sB (show true = true from rfl) <| sB (show true = true from rfl) <| sN)) (by kernel_rfl) (by intro h; cases h)
    | false =>
     have YV := ne_of_beq_false YB
     have YU : (0 : Int) ≤ 2 := by clear q; exact (by omega)
     have y_7 : 2 < ((Y0.Tr.getD Y3.toNat default).length : Int) := by clear q; exact (by omega)
     have p {a C} (s : Scr a C) := q (sB YB <| sB YB <| sG (cI .i64) (Y0.Tr.getD Y3.toNat default) 1 YE YL <| sB YB <| sB YB <| sB YB <| sG (cI .i64) (Y0.Tr.getD Y3.toNat default) 2 YU y_7 <| sB YB <| sB YB <| sB YB <| s)
     clear q
     cases YK : (((Y0.Tr.getD Y3.toNat default).getD 1 default) == ((Y0.Tr.getD Y3.toNat default).getD 2 default)) with
     | true =>
      have Y18 := eq_of_beq YK
      have e : Ze Y0 (k + 1) Y3 = (.inl ()) := by simp only [Ze, Ye, Yk, YB, YK, cond_true, cond_false]
      rw [e]
      exact outR (e := .ret) E0Ok Z3 [] (mR false [2, 1, 66]) [] (p (sB YK <| sB YK <| sB YK <| sB YK <| sB YK <| sB YK <| sB YK <| sB YK <| sB (show true = true from rfl) <| sN)) (by kernel_rfl) (by intro h; cases h)
     | false =>
      have Y18 := ne_of_beq_false YK
      have q {a C} (s : Scr a C) := p (sB YK <| sB YK <| sG (cI .i64) (Y0.Tr.getD Y3.toNat default) 0 Yy YC <| sB YK <| sB YK <| sB YK <| sG (cI .i64) (Y0.Tr.getD Y3.toNat default) 2 YU y_7 <| sB YK <| sB YK <| sB YK <| s)
      clear p
      cases YX : (((Y0.Tr.getD Y3.toNat default).getD 0 default) == ((Y0.Tr.getD Y3.toNat default).getD 2 default)) with
      | true =>
       have gh_4 := eq_of_beq YX
       have e : Ze Y0 (k + 1) Y3 = (.inl ()) := by simp only [Ze, Ye, Yk, YB, YK, YX, cond_true, cond_false]
       rw [e]
       exact outR (e := .ret) E0Ok Z3 [] (mR false [2, 1, 66]) [] (q (sB YX <| sN)) (by kernel_rfl) (by intro h; cases h)
      | false =>
       have gh_4 := ne_of_beq_false YX
       have p {a C} (s : Scr a C) := q (sB YX <| sZ (cI .i64) (Y0.Tr.getD Y3.toNat default) <| s)
       clear q
       cases h_5 : (Z1z Y0 Y3) with
       | inl r_6 =>
        have e : Ze Y0 (k + 1) Y3 = (.inl ()) := by simp only [Ze, Ye, Yk, YB, YK, YX, h_5, cond_true, cond_false]
        rw [e]
        exact outR (e := .ret) E0Ok Z3 [] (mR false [2, 1, 66]) [] (p (sL Z2y 1 (lp_val (Z2m Y0 Y3) (x := (Z1z Y0 Y3)) (Z3X Y0 Y3 hp0 hp1 hp2 Z1J Z1K Z1L Yk Z1J Z1K Ye ((((Y0.Tr.getD Y3.toNat default).length : Int) - 0).toNat + 1) 0 (show 0 ≤ 0 from (by assumption)) (Nat.lt_succ_self _)) h_5) <| sN)) (by kernel_rfl) (by intro h; cases h)
       | inr r_6 =>
        have y_8 : (-9223372036854775808 : Int) ≤ (Y3 + 1) := by clear p; exact (by omega)
        have y_9 : (Y3 + 1) ≤ (9223372036854775807 : Int) := by clear p; exact (by omega)
        have e : Ze Y0 (k + 1) Y3 = (Ze Y0 k (Y3 + 1)) := by simp only [Ze, Ye, Yk, YB, YK, YX, h_5, cond_true, cond_false]
        rw [e]
        exact nextR E0Ok Z3 [] (mR false [0, 2, 1, 1, 4, 15, 46]) [0] (ih (Y3 + 1) (show 0 ≤ (Y3 + 1) from (by omega)) (by omega)) (p (sL Z2y 1 (lp_val (Z2m Y0 Y3) (x := (Z1z Y0 Y3)) (Z3X Y0 Y3 hp0 hp1 hp2 Z1J Z1K Z1L Yk Z1J Z1K Ye ((((Y0.Tr.getD Y3.toNat default).length : Int) - 0).toNat + 1) 0 (show 0 ≤ 0 from (by assumption)) (Nat.lt_succ_self _)) h_5) <| sI (Y3 + 1) y_8 y_9 <| sN)) (by kernel_rfl)
  | false =>
   have Yo := odf Ye
   have e : Ze Y0 (k + 1) Y3 = (.inr ()) := by simp only [Ze, Ye, cond_false]
   rw [e]
   exact outR (e := (.exit 0)) E0Ok Z3 [] (mR false [0, 2, 1, 1, 4, 13, 48]) [0] (sB Ye <| sN) (by kernel_rfl) (by intro h; cases h)
def Z1M (Y0 : Gm) : (Unit) ⊕ (Unit) := (Ze Y0 (((Y0.Tr.length : Int) - 0).toNat + 1) 0)
def Z9 (Y0 : Gm) : Bool := (cond (decide ((Y0.Pq.length : Int) > 64))
  false
  (cond (decide ((Y0.Tr.length : Int) > 128))
    false
    (match (Z1M Y0) with
      | .inl r3 => false
      | .inr r3 => true)))
theorem Z4E (Y0 : Gm) (hp0 : Y0.Pq.length ≤ 1073741824) (hp1 : Y0.Tr.length ≤ 1073741824) (hp2 : ∀ t ∈ Y0.Tr, t.length ≤ 1073741824)  : Fn prog 68 [.agg [.sl (Y0.Pq.map Gv.c), .sl (Y0.Tr.map (cL (cI .i64)))]] (.b (Z9 Y0)) [] := by
 have p {a C} (s : Scr a C) := sZ Gv.c Y0.Pq <| s
 cases h0 : (decide ((Y0.Pq.length : Int) > 64)) with
 | true =>
  have gh0 := odt h0
  refine fnS E0Ok Z3 (c := bodyOf f68) [] (.b false) [] func68 (p (sB h0 <| sB h0 <| sB h0 <| sB h0 <| sB h0 <| sB (show true = true from rfl) <| sK [] sN)) rfl (by kernel_rfl) (by kernel_rfl) rfl ?_ ?_
  · simp only [Z9, h0, cond_true]
  · rfl
 | false =>
  have gh0 := odf h0
  have q {a C} (s : Scr a C) := p (sB h0 <| sB h0 <| sB h0 <| sZ (cL (cI .i64)) Y0.Tr <| sB h0 <| sB h0 <| s)
  clear p
  cases h1 : (decide ((Y0.Tr.length : Int) > 128)) with
  | true =>
   have gh1 := odt h1
   refine fnS E0Ok Z3 (c := bodyOf f68) [] (.b false) [] func68 (q (sB h1 <| sK [] sN)) rfl (by kernel_rfl) (by kernel_rfl) rfl ?_ ?_
   · simp only [Z9, h0, h1, cond_true, cond_false]
   · rfl
  | false =>
   have gh1 := odf h1
   have p {a C} (s : Scr a C) := q (sB h1 <| sZ (cL (cI .i64)) Y0.Tr <| s)
   clear q
   cases h2 : (Z1M Y0) with
   | inl r3 =>
    refine fnS E0Ok Z3 (c := bodyOf f68) [] (.b false) [] func68 (p (sL (mR false [0, 2, 1, 1, 4, 15, 46]) 1 (lp_val (Z2n Y0) (x := (Z1M Y0)) (Z3Y Y0 hp0 hp1 hp2 h0 h1 (((Y0.Tr.length : Int) - 0).toNat + 1) 0 (show 0 ≤ 0 from (by omega)) (Nat.lt_succ_self _)) h2) <| sK [] sN)) rfl (by kernel_rfl) (by kernel_rfl) rfl ?_ ?_
    · simp only [Z9, h0, h1, h2, cond_false]
    · rfl
   | inr r3 =>
    refine fnS E0Ok Z3 (c := bodyOf f68) [] (.b true) [] func68 (p (sL (mR false [0, 2, 1, 1, 4, 15, 46]) 1 (lp_val (Z2n Y0) (x := (Z1M Y0)) (Z3Y Y0 hp0 hp1 hp2 h0 h1 (((Y0.Tr.length : Int) - 0).toNat + 1) 0 (show 0 ≤ 0 from (by omega)) (Nat.lt_succ_self _)) h2) <| sK [] sN)) rfl (by kernel_rfl) (by kernel_rfl) rfl ?_ ?_
    · simp only [Z9, h0, h1, h2, cond_false]
    · rfl
theorem triB (t : List Int) (n : Int) : (!((t.length : Int) != 3) && (!(t.getD 0 default == t.getD 1 default) && (!(t.getD 1 default == t.getD 2 default) && (!(t.getD 0 default == t.getD 2 default) && t.all fun x => ZY x 0 (IntKind.wrap .i64 (n - 1)))))) = Zj t n := by
  unfold Zj
  cases hl : ((t.length : Int) != 3) with
  | true => rfl
  | false =>
    have hl3 : t.length = 3 := by simp at hl; omega
    match t, hl3 with
    | [a, b, c], _ =>
      simp only [List.getD_cons_zero, List.getD_cons_succ, List.all_cons, List.all_nil, Bool.and_true]
      rw [show ZY = Z1j from rfl]
      cases (a == b) <;> cases (b == c) <;> cases (a == c) <;> cases Z1j a 0 (IntKind.wrap .i64 (n - 1)) <;> cases Z1j b 0 (IntKind.wrap .i64 (n - 1)) <;> cases Z1j c 0 (IntKind.wrap .i64 (n - 1)) <;> rfl
theorem Z6A (m : Gm) (k : Nat) (i : Int) : Ze m (k + 1) i = cond (decide (i < (m.Tr.length : Int))) (cond (Zj (m.Tr.getD i.toNat default) (m.Pq.length : Int)) (Ze m k (i + 1)) (.inl ())) (.inr ()) := by
  rw [Ze, ← triB]
  have hin : Z1z m i = cond ((m.Tr.getD i.toNat default).all fun x => ZY x 0 (IntKind.wrap .i64 ((m.Pq.length : Int) - 1))) (.inr ()) (.inl ()) := by
    unfold Z1z
    exact all_from (a := m.Tr.getD i.toNat default) (p := fun x => ZY x 0 (IntKind.wrap .i64 ((m.Pq.length : Int) - 1))) (lo := ZS m i) (x := ()) (y := ()) (fun k i => rfl)
  rw [hin]
  generalize m.Tr.getD i.toNat default = t
  generalize (t.all fun x => ZY x 0 (IntKind.wrap .i64 ((m.Pq.length : Int) - 1))) = q
  cases ((t.length : Int) != 3) <;> cases (t.getD 0 default == t.getD 1 default) <;> cases (t.getD 1 default == t.getD 2 default) <;> cases (t.getD 0 default == t.getD 2 default) <;> cases q <;> rfl
theorem Z1F (m : Gm) : Z9 m = Zt m := by
  rw [Z5P]
  unfold Z9 Z1M
  rw [all_from (a := m.Tr) (p := fun t => Zj t (m.Pq.length : Int)) (lo := Ze m) (x := ()) (y := ()) (Z6A m)]
  cases (m.Tr.all fun t => Zj t (m.Pq.length : Int)) <;> rfl
def Z2N (Y6 : Int) (Yc : Int) : Gedge := (⟨(if Yc < Y6 then Yc else Y6), (if Yc > Y6 then Yc else Y6)⟩ : Gedge)
theorem Z6n (Y6 : Int) (Yc : Int)   : Fn prog 79 [.i .i64 Y6, .i .i64 Yc] (.agg [.i .i64 ((Z2N Y6 Yc).e0), .i .i64 ((Z2N Y6 Yc).e1)]) [] := by
 refine fnS E0Ok Z3 (c := bodyOf f79) [] (.agg [.i .i64 (if Yc < Y6 then Yc else Y6), .i .i64 (if Yc > Y6 then Yc else Y6)]) [] func79 (sC (show (if false = true then (if Yc > Y6 then Yc else Y6) else (if Yc < Y6 then Yc else Y6)) = (if Yc < Y6 then Yc else Y6) from (by simp)) <| sA (.num (if Yc < Y6 then Yc else Y6)) <| sC (show (if true = true then (if Yc > Y6 then Yc else Y6) else (if Yc < Y6 then Yc else Y6)) = (if Yc > Y6 then Yc else Y6) from (by simp)) <| sA (.num (if Yc > Y6 then Yc else Y6)) <| sK [] sN) rfl (by kernel_rfl) (by kernel_rfl) rfl ?_ ?_
 · rfl
 · rfl
theorem Z6Z (a b : Int) : Z2N a b = mkE a b := by
  unfold Z2N mkE
  by_cases h : a ≤ b
  · rw [if_pos h, if_neg (by omega)]
    by_cases h2 : b > a
    · rw [if_pos h2]
    · rw [if_neg h2, show a = b from by omega]
  · rw [if_neg h, if_pos (by omega), if_neg (by omega)]
def Z1r (YJ : Int) : Bool := (YJ != YJ)
theorem Z4f (YJ : Int)   : Fn prog 145 [.i .i64 YJ] (.b (Z1r YJ)) [] := by
 refine fnS E0Ok Z3 (c := bodyOf f145) [] (.b (YJ != YJ)) [] func145 (sK [] sN) rfl (by kernel_rfl) (by kernel_rfl) rfl ?_ ?_
 · rfl
 · rfl
def ZI (YJ : Int) (Yu : Int) : Int := (cond (Z1r YJ)
  (cond (Z1r Yu)
    0
    (-1))
  (cond (Z1r Yu)
    1
    (cond (decide (YJ < Yu))
      (-1)
      (cond (decide (YJ > Yu))
        1
        0))))
theorem Z52 (YJ : Int) (Yu : Int)   : Fn prog 137 [.i .i64 YJ, .i .i64 Yu] (.i .i64 (ZI YJ Yu)) [] := by
 have p {a C} (s : Scr a C) := sF (Z4f YJ) <| sF (Z4f Yu) <| s
 cases h0 : (Z1r YJ) with
 | true =>
  have q {a C} (s : Scr a C) := p (sB h0 <| s)
  clear p
  cases h1 : (Z1r Yu) with
  | true =>
   refine fnS E0Ok Z3 (c := bodyOf f137) [] (.i .i64 0) [] func137 (q (sB h1 <| sK [] sN)) rfl (by kernel_rfl) (by kernel_rfl) rfl ?_ ?_
   · simp only [ZI, h0, h1, cond_true]
   · rfl
  | false =>
   refine fnS E0Ok Z3 (c := bodyOf f137) [] (.i .i64 (-1)) [] func137 (q (sB h1 <| sK [] sN)) rfl (by kernel_rfl) (by kernel_rfl) rfl ?_ ?_
   · simp only [ZI, h0, h1, cond_true, cond_false]
   · rfl
 | false =>
  have q {a C} (s : Scr a C) := p (sB h0 <| s)
  clear p
  cases h1 : (Z1r Yu) with
  | true =>
   refine fnS E0Ok Z3 (c := bodyOf f137) [] (.i .i64 1) [] func137 (q (sB h1 <| sK [] sN)) rfl (by kernel_rfl) (by kernel_rfl) rfl ?_ ?_
   · simp only [ZI, h0, h1, cond_true, cond_false]
   · rfl
  | false =>
   have p {a C} (s : Scr a C) := q (sB h1 <| s)
   clear q
   cases h2 : (decide (YJ < Yu)) with
   | true =>
    have gh2 := odt h2
    refine fnS E0Ok Z3 (c := bodyOf f137) [] (.i .i64 (-1)) [] func137 (p (sB h2 <| sK [] sN)) rfl (by kernel_rfl) (by kernel_rfl) rfl ?_ ?_
    · simp only [ZI, h0, h1, h2, cond_true, cond_false]
    · rfl
   | false =>
    have gh2 := odf h2
    have q {a C} (s : Scr a C) := p (sB h2 <| s)
    clear p
    cases h3 : (decide (YJ > Yu)) with
    | true =>
     have gh3 := odt h3
     refine fnS E0Ok Z3 (c := bodyOf f137) [] (.i .i64 1) [] func137 (q (sB h3 <| sK [] sN)) rfl (by kernel_rfl) (by kernel_rfl) rfl ?_ ?_
     · simp only [ZI, h0, h1, h2, h3, cond_true, cond_false]
     · rfl
    | false =>
     have gh3 := odf h3
     refine fnS E0Ok Z3 (c := bodyOf f137) [] (.i .i64 0) [] func137 (q (sB h3 <| sK [] sN)) rfl (by kernel_rfl) (by kernel_rfl) rfl ?_ ?_
     · simp only [ZI, h0, h1, h2, h3, cond_false]
     · rfl
def Zb (Yp : (List Int)) (Ys : (List Int)) : Nat → Int → (Int) ⊕ (Unit)
  | 0, _ => .inl default
  | k + 1, Y3 => (cond (decide (Y3 < (Yp.length : Int)))
    (cond (decide (Y3 ≥ (Ys.length : Int)))
      (.inl 1)
      (cond ((ZI (Yp.getD Y3.toNat default) (Ys.getD Y3.toNat default)) != 0)
        (.inl (ZI (Yp.getD Y3.toNat default) (Ys.getD Y3.toNat default)))
        (Zb Yp Ys k (Y3 + 1))))
    (.inr ()))
def Z1m (Yp : (List Int)) (Ys : (List Int)) : (Int) ⊕ (Unit) → Ex × St
  | .inl r => (.ret, ⟨an 4 (.i .i64 r :: an 31 []), []⟩)
  | .inr r => ((.exit 0), ⟨.sl (Yp.map (cI .i64)) :: .sl (Ys.map (cI .i64)) :: an 7 (.sl (Yp.map (cI .i64)) :: an 26 []), []⟩)
def Z3i (Yp : (List Int)) (Ys : (List Int)) (Y3 : Int) : St := ⟨.sl (Yp.map (cI .i64)) :: .sl (Ys.map (cI .i64)) :: an 7 (.sl (Yp.map (cI .i64)) :: .i .i64 (Yp.length : Int) :: .i .i64 Y3 :: an 24 []), []⟩
theorem Z24 (Yp : (List Int)) (Ys : (List Int)) (hp0 : Yp.length ≤ 1073741824) (hp1 : Ys.length ≤ 1073741824) : ∀ (k : Nat) (Y3 : Int) (Z1Z : 0 ≤ Y3) (hk : ((Yp.length : Int) - Y3).toNat < k), Lp prog 0 (sub (bodyOf f123) [1, 0, 1, 0, 0]) (Z3i Yp Ys Y3) (Z1m Yp Ys (Zb Yp Ys k Y3)).1 (Z1m Yp Ys (Zb Yp Ys k Y3)).2 := by
 intro k
 induction k with
 | zero => intro Y3 Z1Z hk; exact absurd hk (Nat.not_lt_zero _)
 | succ k ih =>
  intro Y3 Z1Z hk
  cases Ye : (decide (Y3 < (Yp.length : Int))) with
  | true =>
   have Yo := odt Ye
   have Yt : (0 : Int) ≤ Y3 := (by assumption)
   have Yu : Y3 < (Yp.length : Int) := (by assumption)
   have p {a C} (s : Scr a C) := sB Ye <| sG (cI .i64) Yp Y3 Yt Yu <| sZ (cI .i64) Ys <| s
   cases Yk : (decide (Y3 ≥ (Ys.length : Int))) with
   | true =>
    have YR := odt Yk
    have e : Zb Yp Ys (k + 1) Y3 = (.inl 1) := by simp only [Zb, Ye, Yk, cond_true]
    rw [e]
    exact outR (e := .ret) E0Ok Z3 [] (mR false [4, 1, 31]) [] (p (sB Yk <| sN)) (by kernel_rfl) (by intro h; cases h)
   | false =>
    have YR := odf Yk
    have Yy : Y3 < (Ys.length : Int) := by clear p; exact (by omega)
    have q {a C} (s : Scr a C) := p (sB Yk <| sG (cI .i64) Ys Y3 Yt Yy <| sF (Z52 (Yp.getD Y3.toNat default) (Ys.getD Y3.toNat default)) <| s)
    clear p
    cases YB : ((ZI (Yp.getD Y3.toNat default) (Ys.getD Y3.toNat default)) != 0) with
    | true =>
     have YV := bne_iff_ne.1 YB
     have e : Zb Yp Ys (k + 1) Y3 = (.inl (ZI (Yp.getD Y3.toNat default) (Ys.getD Y3.toNat default))) := by simp only [Zb, Ye, Yk, YB, cond_true, cond_false]
     rw [e]
     exact outR (e := .ret) E0Ok Z3 [] (mR false [4, 1, 31]) [] (q (sB YB <| sN)) (by kernel_rfl) (by intro h; cases h)
    | false =>
     have YV := bne_eq_false_iff_eq.1 YB
     have YC : (-9223372036854775808 : Int) ≤ (Y3 + 1) := by clear q; exact (by omega)
     have YE : (Y3 + 1) ≤ (9223372036854775807 : Int) := by clear q; exact (by omega)
     have e : Zb Yp Ys (k + 1) Y3 = (Zb Yp Ys k (Y3 + 1)) := by simp only [Zb, Ye, Yk, YB, cond_true, cond_false]
     rw [e]
     exact nextR E0Ok Z3 [] (mR false [0, 2, 7, 3, 24]) [] (ih (Y3 + 1) (show 0 ≤ (Y3 + 1) from (by omega)) (by omega)) (q (sB YB <| sI (Y3 + 1) YC YE <| sN)) (by kernel_rfl)
  | false =>
   have Yo := odf Ye
   have e : Zb Yp Ys (k + 1) Y3 = (.inr ()) := by simp only [Zb, Ye, cond_false]
   rw [e]
   exact outR (e := (.exit 0)) E0Ok Z3 [] (mR false [0, 2, 7, 1, 26]) [] (sB Ye <| sN) (by kernel_rfl) (by intro h; cases h)
def Z15 (Yp : (List Int)) (Ys : (List Int)) : (Int) ⊕ (Unit) := (Zb Yp Ys (((Yp.length : Int) - 0).toNat + 1) 0)
def ZR (Yp : (List Int)) (Ys : (List Int)) : Int := (match (Z15 Yp Ys) with
  | .inl r1 => r1
  | .inr r1 => (cond (decide ((Yp.length : Int) < (Ys.length : Int)))
    (-1)
    0))
theorem Z3E (Yp : (List Int)) (Ys : (List Int)) (hp0 : Yp.length ≤ 1073741824) (hp1 : Ys.length ≤ 1073741824)  : Fn prog 123 [.sl (Yp.map (cI .i64)), .sl (Ys.map (cI .i64))] (.i .i64 (ZR Yp Ys)) [] := by
 have p {a C} (s : Scr a C) := sZ (cI .i64) Yp <| s
 cases h0 : (Z15 Yp Ys) with
 | inl r1 =>
  refine fnS E0Ok Z3 (c := bodyOf f123) [] (.i .i64 r1) [] func123 (p (sL (mR false [0, 2, 7, 3, 24]) 0 (lp_val (Z1m Yp Ys) (x := (Z15 Yp Ys)) (Z24 Yp Ys hp0 hp1 (((Yp.length : Int) - 0).toNat + 1) 0 (show 0 ≤ 0 from (by omega)) (Nat.lt_succ_self _)) h0) <| sK [] sN)) rfl (by kernel_rfl) (by kernel_rfl) rfl ?_ ?_
  · simp only [ZR, h0]
  · rfl
 | inr r1 =>
  have q {a C} (s : Scr a C) := p (sL (mR false [0, 2, 7, 3, 24]) 0 (lp_val (Z1m Yp Ys) (x := (Z15 Yp Ys)) (Z24 Yp Ys hp0 hp1 (((Yp.length : Int) - 0).toNat + 1) 0 (show 0 ≤ 0 from (by omega)) (Nat.lt_succ_self _)) h0) <| sZ (cI .i64) Yp <| sZ (cI .i64) Ys <| s)
  clear p
  cases h1 : (decide ((Yp.length : Int) < (Ys.length : Int))) with
  | true =>
   have gh1 := odt h1
   refine fnS E0Ok Z3 (c := bodyOf f123) [] (.i .i64 (-1)) [] func123 (q (sB h1 <| sK [] sN)) rfl (by kernel_rfl) (by kernel_rfl) rfl ?_ ?_
   · simp only [ZR, h0, h1, cond_true]
   · rfl
  | false =>
   have gh1 := odf h1
   refine fnS E0Ok Z3 (c := bodyOf f123) [] (.i .i64 0) [] func123 (q (sB h1 <| sK [] sN)) rfl (by kernel_rfl) (by kernel_rfl) rfl ?_ ?_
   · simp only [ZR, h0, h1, cond_false]
   · rfl
def Z2X (Y6 : Gedge) (Yc : Gedge) : Int := (ZR ([Y6.e0, Y6.e1]) ([Yc.e0, Yc.e1]))
theorem Z3Z (Y6 : Gedge) (Yc : Gedge)   : Fn prog 112 [.agg [.i .i64 Y6.e0, .i .i64 Y6.e1], .agg [.i .i64 Yc.e0, .i .i64 Yc.e1]] (.i .i64 (Z2X Y6 Yc)) [] := by
 have y0 : ([Y6.e0, Y6.e1]).length ≤ 1073741824 := (by simp_all <;> omega)
 have y1 : ([Yc.e0, Yc.e1]).length ≤ 1073741824 := (by assumption)
 refine fnS E0Ok Z3 (c := bodyOf f112) [] (.i .i64 (ZR ([Y6.e0, Y6.e1]) ([Yc.e0, Yc.e1]))) [] func112 (sK [2, 2] <| sF (Z3E ([Y6.e0, Y6.e1]) ([Yc.e0, Yc.e1]) y0 y1) <| sK [] sN) rfl (by kernel_rfl) (by kernel_rfl) rfl ?_ ?_
 · rfl
 · rfl
def Z0 (Y0 : Gm) (Y3 : Int) (Y8 : Int) : Gedge := (Z2N ((Y0.Tr.getD Y3.toNat default).getD Y8.toNat default) ((Y0.Tr.getD Y3.toNat default).getD (Int.tmod (Y8 + 1) 3).toNat default))
def Z6 (Y0 : Gm) (Y3 : Int) (Y9 : (List (Gedge × List Int))) (Ym : (List Gedge)) : Nat → Int → (List (Gedge × List Int)) → (List Gedge) → (List (Gedge × List Int)) × (List Gedge)
  | 0, _, _, _ => default
  | k + 1, Y8, Y7, Yi => (cond (decide (Y8 < 3))
    (cond (mhas Y7 (Z0 Y0 Y3 Y8))
      (cond (((Y7.getD (midx Y7 (Z0 Y0 Y3 Y8)) default).2.length : Int) == 0)
        (Z6 Y0 Y3 Y9 Ym k (Y8 + 1) (mput Y7 (midx Y7 (Z0 Y0 Y3 Y8)) ((Y7.getD (midx Y7 (Z0 Y0 Y3 Y8)) default).2 ++ [Y3])) (Yi ++ [(Z0 Y0 Y3 Y8)]))
        (Z6 Y0 Y3 Y9 Ym k (Y8 + 1) (mput Y7 (midx Y7 (Z0 Y0 Y3 Y8)) ((Y7.getD (midx Y7 (Z0 Y0 Y3 Y8)) default).2 ++ [Y3])) Yi))
      (Z6 Y0 Y3 Y9 Ym k (Y8 + 1) (Y7 ++ [((Z0 Y0 Y3 Y8), [Y3])]) (Yi ++ [(Z0 Y0 Y3 Y8)])))
    (Y7, Yi))
def Z2d (Y0 : Gm) (Y3 : Int) (Y9 : (List (Gedge × List Int))) (Ym : (List Gedge)) (r : (List (Gedge × List Int)) × (List Gedge)) : Ex × St := ((.exit 2), ⟨.agg [.sl (Y0.Pq.map Gv.c), .sl (Y0.Tr.map (cL (cI .i64)))] :: .ptr 0 0 0 :: .any :: .nils :: .mp 1 :: .own 2 :: .i .i64 Y3 :: .sl ((Y0.Tr.getD Y3.toNat default).map (cI .i64)) :: .any :: .any :: .mp 1 :: .any :: .ptr 0 0 1 :: .sl (Y0.Tr.map (cL (cI .i64))) :: .i .i64 (Y0.Tr.length : Int) :: .i .i64 Y3 :: .b (decide (Y3 < (Y0.Tr.length : Int))) :: .i .i64 Y3 :: .ref [.sl ((Y0.Tr.getD Y3.toNat default).map (cI .i64))] 0 :: .sl ((Y0.Tr.getD Y3.toNat default).map (cI .i64)) :: an 37 [], [.box 35 [.sl (Y0.Pq.map Gv.c), .sl (Y0.Tr.map (cL (cI .i64)))], .mapN 2 (mapC Gedge.pr (cI .i64) r.1) none, .vec 92 2 (r.2.map Gedge.cells) false]⟩)
def Z4v (Y0 : Gm) (Y3 : Int) (Y9 : (List (Gedge × List Int))) (Ym : (List Gedge)) (Y8 : Int) (Y7 : (List (Gedge × List Int))) (Yi : (List Gedge)) : St := ⟨.agg [.sl (Y0.Pq.map Gv.c), .sl (Y0.Tr.map (cL (cI .i64)))] :: .ptr 0 0 0 :: .any :: .nils :: .mp 1 :: .own 2 :: .i .i64 Y3 :: .sl ((Y0.Tr.getD Y3.toNat default).map (cI .i64)) :: .any :: .any :: .mp 1 :: .any :: .ptr 0 0 1 :: .sl (Y0.Tr.map (cL (cI .i64))) :: .i .i64 (Y0.Tr.length : Int) :: .i .i64 Y3 :: .b (decide (Y3 < (Y0.Tr.length : Int))) :: .i .i64 Y3 :: .ref [.sl ((Y0.Tr.getD Y3.toNat default).map (cI .i64))] 0 :: .sl ((Y0.Tr.getD Y3.toNat default).map (cI .i64)) :: .i .i64 Y8 :: an 36 [], [.box 35 [.sl (Y0.Pq.map Gv.c), .sl (Y0.Tr.map (cL (cI .i64)))], .mapN 2 (mapC Gedge.pr (cI .i64) Y7) none, .vec 92 2 (Yi.map Gedge.cells) false]⟩
set_option maxHeartbeats 1000000 in
theorem Z4w (Y0 : Gm) (Y3 : Int) (Y9 : (List (Gedge × List Int))) (Ym : (List Gedge)) (hp0 : Y0.Pq.length ≤ 1073741824) (hp1 : Y0.Tr.length ≤ 1073741824) (hp2 : ∀ t ∈ Y0.Tr, t.length ≤ 1073741824) (hp3 : OkE Y0.Pq.length Y0.Tr) (Zp : 0 ≤ Y3) (Z1C : (Ym.length : Int) ≤ 3 * Y3) (Z1s : ∀ y ∈ Y9, (y.2.length : Int) ≤ 3 * Y3) (Z16 : (decide (Y3 < (Y0.Tr.length : Int))) = true) : ∀ (k : Nat) (Y8 : Int) (Y7 : (List (Gedge × List Int))) (Yi : (List Gedge)) (ZL : 0 ≤ Y8) (Z2z : (Yi.length : Int) ≤ (Ym.length : Int) + Y8) (Z2A : ∀ y ∈ Y7, (y.2.length : Int) ≤ 3 * Y3 + Y8) (hk : ((3 : Int) - Y8).toNat < k), Lp prog 0 (sub (bodyOf f77) [1, 1, 0, 1, 0, 0, 1, 1, 0, 0, 1, 1, 0, 0]) (Z4v Y0 Y3 Y9 Ym Y8 Y7 Yi) (Z2d Y0 Y3 Y9 Ym (Z6 Y0 Y3 Y9 Ym k Y8 Y7 Yi)).1 (Z2d Y0 Y3 Y9 Ym (Z6 Y0 Y3 Y9 Ym k Y8 Y7 Yi)).2 := by
 intro k
 induction k with
 | zero => intro Y8 Y7 Yi ZL Z2z Z2A hk; exact absurd hk (Nat.not_lt_zero _)
 | succ k ih =>
  intro Y8 Y7 Yi ZL Z2z Z2A hk
  cases YA : (decide (Y8 < 3)) with
  | true =>
   have YS := odt YA
   have YZ : (0 : Int) ≤ Y8 := (by assumption)
   have Y10 : Y8 < ((Y0.Tr.getD Y3.toNat default).length : Int) := (by ((have g5 := odt Z16; have q := OkE.at hp3 Zp g5 ZL (odt (by assumption)); omega)))
   have YT : (-9223372036854775808 : Int) ≤ (Y8 + 1) := (by omega)
   have YQ : (Y8 + 1) ≤ (9223372036854775807 : Int) := (by omega)
   have Y11 : (0 : Int) ≤ (Int.tmod (Y8 + 1) 3) := (by ((have g5 := odt Z16; have q := OkE.at hp3 Zp g5 ZL (odt (by assumption)); omega)))
   have Y15 : (Int.tmod (Y8 + 1) 3) < ((Y0.Tr.getD Y3.toNat default).length : Int) := (by ((have g5 := odt Z16; have q := OkE.at hp3 Zp g5 ZL (odt (by assumption)); omega)))
   have p {a C} (s : Scr a C) := sB YA <| sK [12, 12] <| sG (cI .i64) (Y0.Tr.getD Y3.toNat default) Y8 YZ Y10 <| sI (Y8 + 1) YT YQ <| sC (show (3 : Int) ≠ 0 from (by decide)) <| sQ (Int.tmod (Y8 + 1) 3) <| sG (cI .i64) (Y0.Tr.getD Y3.toNat default) (Int.tmod (Y8 + 1) 3) Y11 Y15 <| sF (Z6n ((Y0.Tr.getD Y3.toNat default).getD Y8.toNat default) ((Y0.Tr.getD Y3.toNat default).getD (Int.tmod (Y8 + 1) 3).toNat default)) <| s
   cases YI : (mhas Y7 (Z0 Y0 Y3 Y8)) with
   | true =>
    have m__16 := midx_lt YI
    have q {a C} (s : Scr a C) := p (sA (.keep [midx Y7 (Z0 Y0 Y3 Y8)]) <| sC (mget_ok (ck := Gedge.pr) (cv := (cI .i64)) YI) <| sM (mget_len (ck := Gedge.pr) (cv := (cI .i64)) (l := Y7) (j := (midx Y7 (Z0 Y0 Y3 Y8)))) <| s)
    clear p
    cases Y14 : (((Y7.getD (midx Y7 (Z0 Y0 Y3 Y8)) default).2.length : Int) == 0) with
    | true =>
     have gh__2 := eq_of_beq Y14
     have YW : Yi.length + ([(Z0 Y0 Y3 Y8)]).length ≤ 1073741824 := by clear q; exact (by ((have g5 := odt Z16; have q := OkE.at hp3 Zp g5 ZL (odt (by assumption)); (simp only [List.length_append, List.length_cons, List.length_nil]; omega))))
     have Y13 : (midx Y7 (Z0 Y0 Y3 Y8)) < Y7.length := by clear q; exact (by assumption)
     have Y17 : ((Y7.getD (midx Y7 (Z0 Y0 Y3 Y8)) default).2).length + ([Y3]).length ≤ 1073741824 := by clear q; exact (by ((have g5 := odt Z16; have q := OkE.at hp3 Zp g5 ZL (odt (by assumption)); (simp only [List.length_append, List.length_cons, List.length_nil]; omega))))
     have e : Z6 Y0 Y3 Y9 Ym (k + 1) Y8 Y7 Yi = (Z6 Y0 Y3 Y9 Ym k (Y8 + 1) (mput Y7 (midx Y7 (Z0 Y0 Y3 Y8)) ((Y7.getD (midx Y7 (Z0 Y0 Y3 Y8)) default).2 ++ [Y3])) (Yi ++ [(Z0 Y0 Y3 Y8)])) := by simp only [Z6, YA, YI, Y14, cond_true]
     rw [e]
     exact nextS E0Ok Z3 [] (mR false [0, 2, 1, 5, 2, 1, 1, 9, 36]) [0, 1, 2] (⟨.agg [.sl (Y0.Pq.map Gv.c), .sl (Y0.Tr.map (cL (cI .i64)))] :: .ptr 0 0 0 :: .any :: .nils :: .mp 1 :: .own 2 :: .i .i64 Y3 :: .sl ((Y0.Tr.getD Y3.toNat default).map (cI .i64)) :: .any :: .any :: .mp 1 :: .any :: .ptr 0 0 1 :: .sl (Y0.Tr.map (cL (cI .i64))) :: .i .i64 (Y0.Tr.length : Int) :: .i .i64 Y3 :: .b (decide (Y3 < (Y0.Tr.length : Int))) :: .i .i64 Y3 :: .ref [.sl ((Y0.Tr.getD Y3.toNat default).map (cI .i64))] 0 :: .sl ((Y0.Tr.getD Y3.toNat default).map (cI .i64)) :: .i .i64 (Y8 + 1) :: an 36 [], [.box 35 [.sl (Y0.Pq.map Gv.c), .sl (Y0.Tr.map (cL (cI .i64)))], .mapN 2 (((mapC Gedge.pr (cI .i64) Y7).set (midx Y7 (Z0 Y0 Y3 Y8)) (((mapC Gedge.pr (cI .i64) Y7).getD (midx Y7 (Z0 Y0 Y3 Y8)) default).1, [])).set (midx Y7 (Z0 Y0 Y3 Y8)) ((((mapC Gedge.pr (cI .i64) Y7).set (midx Y7 (Z0 Y0 Y3 Y8)) (((mapC Gedge.pr (cI .i64) Y7).getD (midx Y7 (Z0 Y0 Y3 Y8)) default).1, [])).getD (midx Y7 (Z0 Y0 Y3 Y8)) default).1, (((mapC Gedge.pr (cI .i64) Y7).getD (midx Y7 (Z0 Y0 Y3 Y8)) default).2 ++ ([Y3].map (cI .i64))))) none, .vec 92 2 ((Yi.map Gedge.cells) ++ ([[.i .i64 ((Z0 Y0 Y3 Y8).e0), .i .i64 ((Z0 Y0 Y3 Y8).e1)]] : List (List AV))) false]⟩) (q (sB Y14 <| sC (show (Yi.map Gedge.cells).length + ([[.i .i64 ((Z0 Y0 Y3 Y8).e0), .i .i64 ((Z0 Y0 Y3 Y8).e1)]] : List (List AV)).length ≤ 1073741824 from (by simpa using YW)) <| sA (.keep [midx Y7 (Z0 Y0 Y3 Y8)]) <| sC (mget_ok (ck := Gedge.pr) (cv := (cI .i64)) YI) <| sC (show (midx Y7 (Z0 Y0 Y3 Y8)) < (mapC Gedge.pr (cI .i64) Y7).length from (by simpa using Y13)) <| sC (show (((mapC Gedge.pr (cI .i64) Y7).getD (midx Y7 (Z0 Y0 Y3 Y8)) default).2).length + ([[.i .i64 Y3]] : List (List AV)).length ≤ 1073741824 from (by simpa using Y17)) <| sA (.keep [(midx Y7 (Z0 Y0 Y3 Y8))]) <| sC (show ((midx Y7 (Z0 Y0 Y3 Y8)) : Int) = (((midx Y7 (Z0 Y0 Y3 Y8)) : Nat) : Int) from rfl) <| sC (show (midx Y7 (Z0 Y0 Y3 Y8)) < ((mapC Gedge.pr (cI .i64) Y7).set (midx Y7 (Z0 Y0 Y3 Y8)) (((mapC Gedge.pr (cI .i64) Y7).getD (midx Y7 (Z0 Y0 Y3 Y8)) default).1, [])).length from (by simpa using Y13)) <| sC (show ∀ i, some (midx Y7 (Z0 Y0 Y3 Y8)) = some i → i = (midx Y7 (Z0 Y0 Y3 Y8)) from (fun i h => by cases h; rfl)) <| sI (Y8 + 1) YT YQ <| sN)) (by kernel_rfl) (show _ = ⟨.agg [.sl (Y0.Pq.map Gv.c), .sl (Y0.Tr.map (cL (cI .i64)))] :: .ptr 0 0 0 :: .any :: .nils :: .mp 1 :: .own 2 :: .i .i64 Y3 :: .sl ((Y0.Tr.getD Y3.toNat default).map (cI .i64)) :: .any :: .any :: .mp 1 :: .any :: .ptr 0 0 1 :: .sl (Y0.Tr.map (cL (cI .i64))) :: .i .i64 (Y0.Tr.length : Int) :: .i .i64 Y3 :: .b (decide (Y3 < (Y0.Tr.length : Int))) :: .i .i64 Y3 :: .ref [.sl ((Y0.Tr.getD Y3.toNat default).map (cI .i64))] 0 :: .sl ((Y0.Tr.getD Y3.toNat default).map (cI .i64)) :: .i .i64 (Y8 + 1) :: an 36 [], [.box 35 [.sl (Y0.Pq.map Gv.c), .sl (Y0.Tr.map (cL (cI .i64)))], .mapN 2 (mapC Gedge.pr (cI .i64) (mput Y7 (midx Y7 (Z0 Y0 Y3 Y8)) ((Y7.getD (midx Y7 (Z0 Y0 Y3 Y8)) default).2 ++ [Y3]))) none, .vec 92 2 ((Yi ++ [(Z0 Y0 Y3 Y8)]).map Gedge.cells) false]⟩ from (by rw [mapC_put (midx_lt YI)]; simp [List.map_set, Gedge.cells])) (ih (Y8 + 1) (mput Y7 (midx Y7 (Z0 Y0 Y3 Y8)) ((Y7.getD (midx Y7 (Z0 Y0 Y3 Y8)) default).2 ++ [Y3])) (Yi ++ [(Z0 Y0 Y3 Y8)]) (show 0 ≤ (Y8 + 1) from (by omega)) (show ((Yi ++ [(Z0 Y0 Y3 Y8)]).length : Int) ≤ (Ym.length : Int) + (Y8 + 1) from (by simp only [List.length_append, List.length_cons, List.length_nil]; omega)) (show ∀ y ∈ (mput Y7 (midx Y7 (Z0 Y0 Y3 Y8)) ((Y7.getD (midx Y7 (Z0 Y0 Y3 Y8)) default).2 ++ [Y3])), (y.2.length : Int) ≤ 3 * Y3 + (Y8 + 1) from (by exact mput_inv (by assumption) (by omega) (by omega))) (by omega))
    | false =>
     have gh__2 := ne_of_beq_false Y14
     have YW : (midx Y7 (Z0 Y0 Y3 Y8)) < Y7.length := by clear q; exact (by assumption)
     have Y13 : ((Y7.getD (midx Y7 (Z0 Y0 Y3 Y8)) default).2).length + ([Y3]).length ≤ 1073741824 := by clear q; exact (by ((have g5 := odt Z16; have q := OkE.at hp3 Zp g5 ZL (odt (by assumption)); (have q3 := mlen_leI (N := 3 * Y3 + Y8) (by omega) (by assumption) (midx Y7 (Z0 Y0 Y3 Y8)); simp only [List.length_cons, List.length_nil]; omega))))
     have e : Z6 Y0 Y3 Y9 Ym (k + 1) Y8 Y7 Yi = (Z6 Y0 Y3 Y9 Ym k (Y8 + 1) (mput Y7 (midx Y7 (Z0 Y0 Y3 Y8)) ((Y7.getD (midx Y7 (Z0 Y0 Y3 Y8)) default).2 ++ [Y3])) Yi) := by simp only [Z6, YA, YI, Y14, cond_true, cond_false]
     rw [e]
     exact nextS E0Ok Z3 [] (mR false [0, 2, 1, 5, 2, 1, 1, 9, 36]) [0, 1, 2] (⟨.agg [.sl (Y0.Pq.map Gv.c), .sl (Y0.Tr.map (cL (cI .i64)))] :: .ptr 0 0 0 :: .any :: .nils :: .mp 1 :: .own 2 :: .i .i64 Y3 :: .sl ((Y0.Tr.getD Y3.toNat default).map (cI .i64)) :: .any :: .any :: .mp 1 :: .any :: .ptr 0 0 1 :: .sl (Y0.Tr.map (cL (cI .i64))) :: .i .i64 (Y0.Tr.length : Int) :: .i .i64 Y3 :: .b (decide (Y3 < (Y0.Tr.length : Int))) :: .i .i64 Y3 :: .ref [.sl ((Y0.Tr.getD Y3.toNat default).map (cI .i64))] 0 :: .sl ((Y0.Tr.getD Y3.toNat default).map (cI .i64)) :: .i .i64 (Y8 + 1) :: an 36 [], [.box 35 [.sl (Y0.Pq.map Gv.c), .sl (Y0.Tr.map (cL (cI .i64)))], .mapN 2 (((mapC Gedge.pr (cI .i64) Y7).set (midx Y7 (Z0 Y0 Y3 Y8)) (((mapC Gedge.pr (cI .i64) Y7).getD (midx Y7 (Z0 Y0 Y3 Y8)) default).1, [])).set (midx Y7 (Z0 Y0 Y3 Y8)) ((((mapC Gedge.pr (cI .i64) Y7).set (midx Y7 (Z0 Y0 Y3 Y8)) (((mapC Gedge.pr (cI .i64) Y7).getD (midx Y7 (Z0 Y0 Y3 Y8)) default).1, [])).getD (midx Y7 (Z0 Y0 Y3 Y8)) default).1, (((mapC Gedge.pr (cI .i64) Y7).getD (midx Y7 (Z0 Y0 Y3 Y8)) default).2 ++ ([Y3].map (cI .i64))))) none, .vec 92 2 (Yi.map Gedge.cells) false]⟩) (q (sB Y14 <| sA (.keep [midx Y7 (Z0 Y0 Y3 Y8)]) <| sC (mget_ok (ck := Gedge.pr) (cv := (cI .i64)) YI) <| sC (show (midx Y7 (Z0 Y0 Y3 Y8)) < (mapC Gedge.pr (cI .i64) Y7).length from (by simpa using YW)) <| sC (show (((mapC Gedge.pr (cI .i64) Y7).getD (midx Y7 (Z0 Y0 Y3 Y8)) default).2).length + ([[.i .i64 Y3]] : List (List AV)).length ≤ 1073741824 from (by simpa using Y13)) <| sA (.keep [(midx Y7 (Z0 Y0 Y3 Y8))]) <| sC (show ((midx Y7 (Z0 Y0 Y3 Y8)) : Int) = (((midx Y7 (Z0 Y0 Y3 Y8)) : Nat) : Int) from rfl) <| sC (show (midx Y7 (Z0 Y0 Y3 Y8)) < ((mapC Gedge.pr (cI .i64) Y7).set (midx Y7 (Z0 Y0 Y3 Y8)) (((mapC Gedge.pr (cI .i64) Y7).getD (midx Y7 (Z0 Y0 Y3 Y8)) default).1, [])).length from (by simpa using YW)) <| sC (show ∀ i, some (midx Y7 (Z0 Y0 Y3 Y8)) = some i → i = (midx Y7 (Z0 Y0 Y3 Y8)) from (fun i h => by cases h; rfl)) <| sI (Y8 + 1) YT YQ <| sN)) (by kernel_rfl) (show _ = ⟨.agg [.sl (Y0.Pq.map Gv.c), .sl (Y0.Tr.map (cL (cI .i64)))] :: .ptr 0 0 0 :: .any :: .nils :: .mp 1 :: .own 2 :: .i .i64 Y3 :: .sl ((Y0.Tr.getD Y3.toNat default).map (cI .i64)) :: .any :: .any :: .mp 1 :: .any :: .ptr 0 0 1 :: .sl (Y0.Tr.map (cL (cI .i64))) :: .i .i64 (Y0.Tr.length : Int) :: .i .i64 Y3 :: .b (decide (Y3 < (Y0.Tr.length : Int))) :: .i .i64 Y3 :: .ref [.sl ((Y0.Tr.getD Y3.toNat default).map (cI .i64))] 0 :: .sl ((Y0.Tr.getD Y3.toNat default).map (cI .i64)) :: .i .i64 (Y8 + 1) :: an 36 [], [.box 35 [.sl (Y0.Pq.map Gv.c), .sl (Y0.Tr.map (cL (cI .i64)))], .mapN 2 (mapC Gedge.pr (cI .i64) (mput Y7 (midx Y7 (Z0 Y0 Y3 Y8)) ((Y7.getD (midx Y7 (Z0 Y0 Y3 Y8)) default).2 ++ [Y3]))) none, .vec 92 2 (Yi.map Gedge.cells) false]⟩ from (by rw [mapC_put (midx_lt YI)]; done)) (ih (Y8 + 1) (mput Y7 (midx Y7 (Z0 Y0 Y3 Y8)) ((Y7.getD (midx Y7 (Z0 Y0 Y3 Y8)) default).2 ++ [Y3])) Yi (show 0 ≤ (Y8 + 1) from (by omega)) (show (Yi.length : Int) ≤ (Ym.length : Int) + (Y8 + 1) from (by omega)) (show ∀ y ∈ (mput Y7 (midx Y7 (Z0 Y0 Y3 Y8)) ((Y7.getD (midx Y7 (Z0 Y0 Y3 Y8)) default).2 ++ [Y3])), (y.2.length : Int) ≤ 3 * Y3 + (Y8 + 1) from (by exact mput_inv (by assumption) (by omega) (by omega))) (by omega))
   | false =>
    have YW : Yi.length + ([(Z0 Y0 Y3 Y8)]).length ≤ 1073741824 := by clear p; exact (by ((have g5 := odt Z16; have q := OkE.at hp3 Zp g5 ZL (odt (by assumption)); (simp only [List.length_append, List.length_cons, List.length_nil]; omega))))
    have e : Z6 Y0 Y3 Y9 Ym (k + 1) Y8 Y7 Yi = (Z6 Y0 Y3 Y9 Ym k (Y8 + 1) (Y7 ++ [((Z0 Y0 Y3 Y8), [Y3])]) (Yi ++ [(Z0 Y0 Y3 Y8)])) := by simp only [Z6, YA, YI, cond_true, cond_false]
    rw [e]
    exact nextS E0Ok Z3 [] (mR false [0, 2, 1, 5, 2, 1, 1, 9, 36]) [0, 1, 2] (⟨.agg [.sl (Y0.Pq.map Gv.c), .sl (Y0.Tr.map (cL (cI .i64)))] :: .ptr 0 0 0 :: .any :: .nils :: .mp 1 :: .own 2 :: .i .i64 Y3 :: .sl ((Y0.Tr.getD Y3.toNat default).map (cI .i64)) :: .any :: .any :: .mp 1 :: .any :: .ptr 0 0 1 :: .sl (Y0.Tr.map (cL (cI .i64))) :: .i .i64 (Y0.Tr.length : Int) :: .i .i64 Y3 :: .b (decide (Y3 < (Y0.Tr.length : Int))) :: .i .i64 Y3 :: .ref [.sl ((Y0.Tr.getD Y3.toNat default).map (cI .i64))] 0 :: .sl ((Y0.Tr.getD Y3.toNat default).map (cI .i64)) :: .i .i64 (Y8 + 1) :: an 36 [], [.box 35 [.sl (Y0.Pq.map Gv.c), .sl (Y0.Tr.map (cL (cI .i64)))], .mapN 2 (((mapC Gedge.pr (cI .i64) Y7) ++ [((Gedge.pr (Z0 Y0 Y3 Y8)), [])]).set (mapC Gedge.pr (cI .i64) Y7).length ((((mapC Gedge.pr (cI .i64) Y7) ++ [((Gedge.pr (Z0 Y0 Y3 Y8)), [])]).getD (mapC Gedge.pr (cI .i64) Y7).length default).1, (([Y3]).map (cI .i64)))) none, .vec 92 2 ((Yi.map Gedge.cells) ++ ([[.i .i64 ((Z0 Y0 Y3 Y8).e0), .i .i64 ((Z0 Y0 Y3 Y8).e1)]] : List (List AV))) false]⟩) (p (sA (.keep []) <| sC (mnot_ok (ck := Gedge.pr) (cv := (cI .i64)) Gedge.inj YI) <| sM (show ((0 : Nat) : Int) = 0 from rfl) <| sB (show (0 == 0) = true from rfl) <| sC (show (Yi.map Gedge.cells).length + ([[.i .i64 ((Z0 Y0 Y3 Y8).e0), .i .i64 ((Z0 Y0 Y3 Y8).e1)]] : List (List AV)).length ≤ 1073741824 from (by simpa using YW)) <| sA (.keep []) <| sC (mnot_ok (ck := Gedge.pr) (cv := (cI .i64)) Gedge.inj YI) <| sC (show ([[.i .i64 Y3]] : List (List AV)) ≠ [] from (by simp)) <| sC (show ([[.i .i64 Y3]] : List (List AV)).length ≤ 1073741824 from (by simp)) <| sA (.keep [(mapC Gedge.pr (cI .i64) Y7).length]) <| sC (show ((mapC Gedge.pr (cI .i64) Y7).length : Int) = (((mapC Gedge.pr (cI .i64) Y7).length : Nat) : Int) from rfl) <| sC (show (mapC Gedge.pr (cI .i64) Y7).length < ((mapC Gedge.pr (cI .i64) Y7) ++ [((Gedge.pr (Z0 Y0 Y3 Y8)), [])]).length from (by simp)) <| sC (show ∀ i, (none : Option Nat) = some i → i = (mapC Gedge.pr (cI .i64) Y7).length from (fun i h => by cases h)) <| sI (Y8 + 1) YT YQ <| sN)) (by kernel_rfl) (show _ = ⟨.agg [.sl (Y0.Pq.map Gv.c), .sl (Y0.Tr.map (cL (cI .i64)))] :: .ptr 0 0 0 :: .any :: .nils :: .mp 1 :: .own 2 :: .i .i64 Y3 :: .sl ((Y0.Tr.getD Y3.toNat default).map (cI .i64)) :: .any :: .any :: .mp 1 :: .any :: .ptr 0 0 1 :: .sl (Y0.Tr.map (cL (cI .i64))) :: .i .i64 (Y0.Tr.length : Int) :: .i .i64 Y3 :: .b (decide (Y3 < (Y0.Tr.length : Int))) :: .i .i64 Y3 :: .ref [.sl ((Y0.Tr.getD Y3.toNat default).map (cI .i64))] 0 :: .sl ((Y0.Tr.getD Y3.toNat default).map (cI .i64)) :: .i .i64 (Y8 + 1) :: an 36 [], [.box 35 [.sl (Y0.Pq.map Gv.c), .sl (Y0.Tr.map (cL (cI .i64)))], .mapN 2 (mapC Gedge.pr (cI .i64) (Y7 ++ [((Z0 Y0 Y3 Y8), [Y3])])) none, .vec 92 2 ((Yi ++ [(Z0 Y0 Y3 Y8)]).map Gedge.cells) false]⟩ from (by rw [mapC_new]; simp [List.map_set, Gedge.cells])) (ih (Y8 + 1) (Y7 ++ [((Z0 Y0 Y3 Y8), [Y3])]) (Yi ++ [(Z0 Y0 Y3 Y8)]) (show 0 ≤ (Y8 + 1) from (by omega)) (show ((Yi ++ [(Z0 Y0 Y3 Y8)]).length : Int) ≤ (Ym.length : Int) + (Y8 + 1) from (by simp only [List.length_append, List.length_cons, List.length_nil]; omega)) (show ∀ y ∈ (Y7 ++ [((Z0 Y0 Y3 Y8), [Y3])]), (y.2.length : Int) ≤ 3 * Y3 + (Y8 + 1) from (by exact mnew_inv (by assumption) (by omega) (by omega))) (by omega))
  | false =>
   have YS := odf YA
   have e : Z6 Y0 Y3 Y9 Ym (k + 1) Y8 Y7 Yi = (Y7, Yi) := by simp only [Z6, YA, cond_false]
   rw [e]
   exact outR (e := (.exit 2)) E0Ok Z3 [] (mR false [0, 2, 1, 5, 2, 1, 1, 8, 37]) [0, 1, 2] (sB YA <| sN) (by kernel_rfl) (by intro h; cases h)
def Zq (Y0 : Gm) (Y3 : Int) (Y9 : (List (Gedge × List Int))) (Ym : (List Gedge)) : (List (Gedge × List Int)) × (List Gedge) := (Z6 Y0 Y3 Y9 Ym (((3 : Int) - 0).toNat + 1) 0 Y9 Ym)
theorem Z78 (m : Gm) (i : Int) (b0 : List (Gedge × List Int)) (l0 : List Gedge) (h0 : 0 ≤ i) : ∀ (k : Nat) (x : Int) (b : List (Gedge × List Int)) (l : List Gedge), 0 ≤ x → (3 - x).toNat < k → x ≤ 3 → (l.length : Int) ≤ 3 * i + x → (∀ y ∈ b, (y.2.length : Int) ≤ 3 * i + x) → ((Z6 m i b0 l0 k x b l).2.length : Int) ≤ 3 * (i + 1) ∧ ∀ y ∈ (Z6 m i b0 l0 k x b l).1, (y.2.length : Int) ≤ 3 * (i + 1) := by
  intro k
  induction k with
  | zero => intro x b l _ hk; exact absurd hk (Nat.not_lt_zero _)
  | succ k ih =>
    intro x b l hx hk h3 hl hb
    rw [Z6]
    cases hc : decide (x < 3) with
    | false => rw [cond_false]; exact ⟨by simp only; omega, fun y hy => by have := hb y hy; omega⟩
    | true =>
      have hc' := odt hc
      rw [cond_true]
      cases mhas b (Z0 m i x) with
      | true =>
        rw [cond_true]
        cases (((b.getD (midx b (Z0 m i x)) default).2.length : Int) == 0) with
        | true => rw [cond_true]; exact ih _ _ _ (by omega) (by omega) (by omega) (by simp only [List.length_append, List.length_cons, List.length_nil]; omega) (mput_inv hb (by omega) (by omega))
        | false => rw [cond_false]; exact ih _ _ _ (by omega) (by omega) (by omega) (by omega) (mput_inv hb (by omega) (by omega))
      | false => rw [cond_false]; exact ih _ _ _ (by omega) (by omega) (by omega) (by simp only [List.length_append, List.length_cons, List.length_nil]; omega) (mnew_inv hb (by omega) (by omega))
theorem Z6O (m : Gm) (i : Int) (b : List (Gedge × List Int)) (l : List Gedge) (h0 : 0 ≤ i) (hl : (l.length : Int) ≤ 3 * i) (hb : ∀ y ∈ b, (y.2.length : Int) ≤ 3 * i) :
    ((Zq m i b l).2.length : Int) ≤ 3 * (i + 1) ∧ ∀ y ∈ (Zq m i b l).1, (y.2.length : Int) ≤ 3 * (i + 1) :=
  Z78 m i b l h0 _ 0 b l (Int.le_refl 0) (by omega) (by omega) (by omega) (fun y hy => by have := hb y hy; omega)
def Zu (Y0 : Gm) : Nat → Int → (List (Gedge × List Int)) → (List Gedge) → (List (Gedge × List Int)) × (List Gedge)
  | 0, _, _, _ => default
  | k + 1, Y3, Y9, Ym => (cond (decide (Y3 < (Y0.Tr.length : Int)))
    (Zu Y0 k (Y3 + 1) ((Zq Y0 Y3 Y9 Ym).1) ((Zq Y0 Y3 Y9 Ym).2))
    (Y9, Ym))
def Z2e (Y0 : Gm) (r : (List (Gedge × List Int)) × (List Gedge)) : Ex × St := ((.exit 0), ⟨.agg [.sl (Y0.Pq.map Gv.c), .sl (Y0.Tr.map (cL (cI .i64)))] :: .ptr 0 0 0 :: .any :: .nils :: .mp 1 :: .own 2 :: an 4 (.mp 1 :: .any :: .ptr 0 0 1 :: .sl (Y0.Tr.map (cL (cI .i64))) :: an 43 []), [.box 35 [.sl (Y0.Pq.map Gv.c), .sl (Y0.Tr.map (cL (cI .i64)))], .mapN 2 (mapC Gedge.pr (cI .i64) r.1) none, .vec 92 2 (r.2.map Gedge.cells) false]⟩)
def Z31 (Y0 : Gm) (Y3 : Int) (Y9 : (List (Gedge × List Int))) (Ym : (List Gedge)) : St := ⟨.agg [.sl (Y0.Pq.map Gv.c), .sl (Y0.Tr.map (cL (cI .i64)))] :: .ptr 0 0 0 :: .any :: .nils :: .mp 1 :: .own 2 :: an 4 (.mp 1 :: .any :: .ptr 0 0 1 :: .sl (Y0.Tr.map (cL (cI .i64))) :: .i .i64 (Y0.Tr.length : Int) :: .i .i64 Y3 :: an 41 []), [.box 35 [.sl (Y0.Pq.map Gv.c), .sl (Y0.Tr.map (cL (cI .i64)))], .mapN 2 (mapC Gedge.pr (cI .i64) Y9) none, .vec 92 2 (Ym.map Gedge.cells) false]⟩
theorem Z4x (Y0 : Gm) (hp0 : Y0.Pq.length ≤ 1073741824) (hp1 : Y0.Tr.length ≤ 1073741824) (hp2 : ∀ t ∈ Y0.Tr, t.length ≤ 1073741824) (hp3 : OkE Y0.Pq.length Y0.Tr) : ∀ (k : Nat) (Y3 : Int) (Y9 : (List (Gedge × List Int))) (Ym : (List Gedge)) (Zp : 0 ≤ Y3) (Z1C : (Ym.length : Int) ≤ 3 * Y3) (Z1s : ∀ y ∈ Y9, (y.2.length : Int) ≤ 3 * Y3) (hk : ((Y0.Tr.length : Int) - Y3).toNat < k), Lp prog 0 (sub (bodyOf f77) [1, 1, 0, 1, 0, 0]) (Z31 Y0 Y3 Y9 Ym) (Z2e Y0 (Zu Y0 k Y3 Y9 Ym)).1 (Z2e Y0 (Zu Y0 k Y3 Y9 Ym)).2 := by
 intro k
 induction k with
 | zero => intro Y3 Y9 Ym Zp Z1C Z1s hk; exact absurd hk (Nat.not_lt_zero _)
 | succ k ih =>
  intro Y3 Y9 Ym Zp Z1C Z1s hk
  cases Ye : (decide (Y3 < (Y0.Tr.length : Int))) with
  | true =>
   have Yo := odt Ye
   have Yt : (0 : Int) ≤ Y3 := (by assumption)
   have Yu : Y3 < (Y0.Tr.length : Int) := (by assumption)
   have Yy : (-9223372036854775808 : Int) ≤ (Y3 + 1) := (by omega)
   have YC : (Y3 + 1) ≤ (9223372036854775807 : Int) := (by omega)
   have e : Zu Y0 (k + 1) Y3 Y9 Ym = (Zu Y0 k (Y3 + 1) ((Zq Y0 Y3 Y9 Ym).1) ((Zq Y0 Y3 Y9 Ym).2)) := by simp only [Zu, Ye, cond_true]
   rw [e]
   exact nextR E0Ok Z3 [] (mR false [0, 2, 1, 3, 4, 1, 1, 4, 41]) [0, 1, 2] (ih (Y3 + 1) ((Zq Y0 Y3 Y9 Ym).1) ((Zq Y0 Y3 Y9 Ym).2) (show 0 ≤ (Y3 + 1) from (by omega)) (show (((Zq Y0 Y3 Y9 Ym).2).length : Int) ≤ 3 * (Y3 + 1) from (by exact (Z6O _ _ _ _ Zp (by assumption) (by assumption)).1)) (show ∀ y ∈ ((Zq Y0 Y3 Y9 Ym).1), (y.2.length : Int) ≤ 3 * (Y3 + 1) from (by exact (Z6O _ _ _ _ Zp (by assumption) (by assumption)).2)) (by omega)) (sB Ye <| sG (cL (cI .i64)) Y0.Tr Y3 Yt Yu <| sL (mR false [0, 2, 1, 5, 2, 1, 1, 9, 36]) 3 (lp_val (Z2d Y0 Y3 Y9 Ym) (x := (Zq Y0 Y3 Y9 Ym)) (Z4w Y0 Y3 Y9 Ym hp0 hp1 hp2 hp3 Zp Z1C Z1s Ye (((3 : Int) - 0).toNat + 1) 0 Y9 Ym (show 0 ≤ 0 from (by omega)) (show (Ym.length : Int) ≤ (Ym.length : Int) + 0 from (by omega)) (show ∀ y ∈ Y9, (y.2.length : Int) ≤ 3 * Y3 + 0 from (by intro y hy; have q := Z1s y hy; omega)) (Nat.lt_succ_self _)) rfl) <| sI (Y3 + 1) Yy YC <| sN) (by kernel_rfl)
  | false =>
   have Yo := odf Ye
   have e : Zu Y0 (k + 1) Y3 Y9 Ym = (Y9, Ym) := by simp only [Zu, Ye, cond_false]
   rw [e]
   exact outR (e := (.exit 0)) E0Ok Z3 [] (mR false [0, 2, 1, 3, 4, 1, 1, 2, 43]) [0, 1, 2] (sB Ye <| sN) (by kernel_rfl) (by intro h; cases h)
def Zs (Y0 : Gm) : (List (Gedge × List Int)) × (List Gedge) := (Zu Y0 (((Y0.Tr.length : Int) - 0).toNat + 1) 0 ([] : (List (Gedge × List Int))) ([] : List Gedge))
theorem Z7e (m : Gm) (k : Nat) (i : Int) (b : List (Gedge × List Int)) (l : List Gedge) (h0 : 0 ≤ i) : Zu m (k + 1) i b l = cond (decide (i < (m.Tr.length : Int))) (Zu m k (i + 1) (stT (b, l) (m.Tr.getD i.toNat default) i).1 (stT (b, l) (m.Tr.getD i.toNat default) i).2) (b, l) := by
  have st : ∀ (x : Int) (k : Nat) (b : List (Gedge × List Int)) (l : List Gedge), x < 3 → Z6 m i b l (k + 1) x b l = Z6 m i b l (k + 1) x b l := fun _ _ _ _ _ => rfl
  have one : ∀ (b0 : List (Gedge × List Int)) (l0 : List Gedge) (k : Nat) (x : Int) (s : List (Gedge × List Int) × List Gedge), x < 3 → Z6 m i b0 l0 (k + 1) x s.1 s.2 = Z6 m i b0 l0 k (x + 1) (stE s (Z0 m i x) i).1 (stE s (Z0 m i x) i).2 := by
    intro b0 l0 k x s hx
    rw [Z6, decide_eq_true hx, cond_true]
    unfold stE
    cases mhas s.1 (Z0 m i x) with
    | true =>
      rw [cond_true, cond_true]
      cases (((s.1.getD (midx s.1 (Z0 m i x)) default).2.length : Int) == 0) <;> rfl
    | false => rfl
  have tri : Zq m i b l = stT (b, l) (m.Tr.getD i.toNat default) i := by
    unfold Zq
    show Z6 m i b l 4 0 (b, l).1 (b, l).2 = _
    rw [one b l 3 0 (b, l) (by omega), one b l 2 (0 + 1) _ (by omega), one b l 1 (0 + 1 + 1) _ (by omega), Z6]
    show cond (decide ((3 : Int) < 3)) _ _ = _
    rw [decide_eq_false (by omega), cond_false]
    unfold Z0 stT
    simp only [Z6Z]
    rfl
  rw [Zu, tri]
theorem Z6b (m : Gm) (ok : OkE m.Pq.length m.Tr) : ETab m.Tr m.Tr.length (Zs m) := by
  unfold Zs
  exact ETab.loop ok (Z7e m) _ 0 ([], []) (Nat.zero_le _) (ETab.nil _) (by omega)
theorem Z79 (m : Gm) (ok : OkE m.Pq.length m.Tr) : (Zs m).2.length ≤ 4096 := by
  have h := congrArg List.length ((Z6b m ok).sorted ok)
  rw [length_sortE] at h
  rw [h]; exact edgL_len ok
end Go.Ab
namespace Go.Proofs
open Go.Shelf
def Try.laysF0n6_ren : Go.Shelf.Ren := ⟨fun | 6 => 111 | 15 => 122 | 14 => 121 | 28 => 135 | 29 => 136 | 20 => 127 | 21 => 128 | 22 => 129 | 23 => 130 | 24 => 131 | 25 => 132 | 26 => 133 | 27 => 134 | 46 => 140 | 47 => 141 | 48 => 142 | 49 => 143 | 50 => 144 | 57 => 146 | n => n, fun | 22 => 76 | 24 => 92 | 25 => 121 | 3 => 3 | 39 => 130 | 0 => 0 | 53 => 141 | 55 => 125 | 4 => 4 | 46 => 134 | 45 => 133 | 50 => 138 | 5 => 5 | 9 => 9 | 66 => 145 | 70 => 149 | 76 => 152 | 77 => 153 | n => n, fun | n => n⟩
theorem Try.laysF0n6 : Go.Proofs.SlLaysF0.n6 Try.prog Try.laysF0n6_ren := {
  mixed := by kernel_rfl
  f6 := ⟨Try.f111.name, by decide, Try.func111.trans (congrArg some (by kernel_rfl))⟩
  f14 := ⟨Try.f121.name, by decide, Try.func121.trans (congrArg some (by kernel_rfl))⟩
  f15 := Try.func122.trans (congrArg some (by kernel_rfl))
  f20 := ⟨Try.f127.name, by decide, Try.func127.trans (congrArg some (by kernel_rfl))⟩
  f21 := ⟨Try.f128.name, by decide, Try.func128.trans (congrArg some (by kernel_rfl))⟩
  f22 := ⟨Try.f129.name, by decide, Try.func129.trans (congrArg some (by kernel_rfl))⟩
  f23 := ⟨Try.f130.name, by decide, Try.func130.trans (congrArg some (by kernel_rfl))⟩
  f24 := ⟨Try.f131.name, by decide, Try.func131.trans (congrArg some (by kernel_rfl))⟩
  f25 := ⟨Try.f132.name, by decide, Try.func132.trans (congrArg some (by kernel_rfl))⟩
  f26 := ⟨Try.f133.name, by decide, Try.func133.trans (congrArg some (by kernel_rfl))⟩
  f27 := ⟨Try.f134.name, by decide, Try.func134.trans (congrArg some (by kernel_rfl))⟩
  f28 := Try.func135.trans (congrArg some (by kernel_rfl))
  f29 := Try.func136.trans (congrArg some (by kernel_rfl))
  f46 := ⟨Try.f140.name, by decide, Try.func140.trans (congrArg some (by kernel_rfl))⟩
  f47 := Try.func141.trans (congrArg some (by kernel_rfl))
  f48 := Try.func142.trans (congrArg some (by kernel_rfl))
  f49 := ⟨Try.f143.name, by decide, Try.func143.trans (congrArg some (by kernel_rfl))⟩
  f50 := ⟨Try.f144.name, by decide, Try.func144.trans (congrArg some (by kernel_rfl))⟩
  f57 := ⟨Try.f146.name, by decide, Try.func146.trans (congrArg some (by kernel_rfl))⟩
  t0 := Try.underlying0
  a0 := Try.isAgg0
  z0 := Try.sizeOf0
  v0 := Try.zeroValue0
  t3 := Try.underlying3
  a3 := Try.isAgg3
  z3 := Try.sizeOf3
  v3 := Try.zeroValue3
  t4 := Try.underlying4
  a4 := Try.isAgg4
  z4 := Try.sizeOf4
  v4 := Try.zeroValue4
  t5 := Try.underlying5
  a5 := Try.isAgg5
  z5 := Try.sizeOf5
  v5 := Try.zeroValue5
  t9 := Try.underlying9
  a9 := Try.isAgg9
  z9 := Try.sizeOf9
  v9 := Try.zeroValue9
  t22 := Try.underlying76
  a22 := Try.isAgg76
  z22 := Try.sizeOf76
  v22 := Try.zeroValue76
  t25 := Try.underlying121
  a25 := Try.isAgg121
  z25 := Try.sizeOf121
  v25 := Try.zeroValue121
  t39 := Try.underlying130
  a39 := Try.isAgg130
  z39 := Try.sizeOf130
  v39 := Try.zeroValue130
  t45 := Try.underlying133
  a45 := Try.isAgg133
  z45 := Try.sizeOf133
  v45 := Try.zeroValue133
  t46 := Try.underlying134
  a46 := Try.isAgg134
  z46 := Try.sizeOf134
  v46 := Try.zeroValue134
  t50 := Try.underlying138
  a50 := Try.isAgg138
  z50 := Try.sizeOf138
  v50 := Try.zeroValue138
  t53 := Try.underlying141
  a53 := Try.isAgg141
  z53 := Try.sizeOf141
  v53 := Try.zeroValue141
  t55 := Try.underlying125
  a55 := Try.isAgg125
  z55 := Try.sizeOf125
  v55 := Try.zeroValue125
  t66 := Try.underlying145
  a66 := Try.isAgg145
  z66 := Try.sizeOf145
  v66 := Try.zeroValue145
  t70 := Try.underlying149
  a70 := Try.isAgg149
  z70 := Try.sizeOf149
  v70 := Try.zeroValue149
  t76 := Try.underlying152
  a76 := Try.isAgg152
  z76 := Try.sizeOf152
  v76 := Try.zeroValue152
  t77 := Try.underlying153
  a77 := Try.isAgg153
  z77 := Try.sizeOf153
  v77 := Try.zeroValue153 }
end Go.Proofs
namespace Go.Ab
open Go.RowKit Go.Proofs.Try
theorem Z7g (x y : Int) : ZI x y = if x < y then -1 else if x > y then 1 else 0 := by
  unfold ZI Z1r
  simp only [bne_self_eq_false, cond_false]
  by_cases h1 : x < y
  · simp [h1]
  · by_cases h2 : x > y <;> simp [h1, h2]
theorem Z7h (a b : Gedge) : Z2X a b = cmpP a.pr b.pr := by
  unfold Z2X ZR Z15 cmpP Gedge.pr
  show (match Zb [a.e0, a.e1] [b.e0, b.e1] 3 0 with | .inl r1 => r1 | .inr r1 => cond (decide (((2 : Nat) : Int) < ((2 : Nat) : Int))) (-1) 0) = _
  simp only [Zb, Z7g, List.length_cons, List.length_nil]
  by_cases h1 : a.e0 < b.e0
  · simp [h1]
  · by_cases h2 : a.e0 > b.e0
    · simp [h1, h2]
    · by_cases h3 : a.e1 < b.e1
      · simp [h1, h2, h3]
      · by_cases h4 : a.e1 > b.e1 <;> simp [h1, h2, h3, h4]
def Z2u (l : List Gedge) : List Gedge := sortE Gedge.pr l
theorem Z4F (l : List Gedge) (h : l.length ≤ 1073741824) : CallSt prog 111 [.vec 92 2 (l.map Gedge.cells) false] [.own 0, .fn 112 []] (.tup []) [.vec 92 2 ((Z2u l).map Gedge.cells) false] :=
  sort_row laysF0n6 isAgg92 sizeOf92 Gedge.pr Gedge.inj Gedge.cells (fun _ => rfl) 92 112 ⟨_, func111, rfl, by kernel_rfl⟩ (Z3Z default default).1
    (fun a b W => ((Z3Z a b).2 W #[keyV a.pr, keyV b.pr] ⟨rfl, fun j c e => by match j, e with | 0, e => cases e; exact Rep.agg _ _ rfl (fun i c e => by match i, e with | 0, e => cases e; exact .i _ _ | 1, e => cases e; exact .i _ _) | 1, e => cases e; exact Rep.agg _ _ rfl (fun i c e => by match i, e with | 0, e => cases e; exact .i _ _ | 1, e => cases e; exact .i _ _)⟩).mono fun e w' ⟨v, μ', he, hb, _, hr⟩ => by
      cases hr; rw [Z7h] at he; exact ⟨he, hb⟩) l h
def Z1 (Y0 : Gm) : (List (Gedge × List Int)) × (List Gedge) := ((Zs Y0).1, (Z2u ((Zs Y0).2)))
theorem Z4G (m : Gm) (ok : OkE m.Pq.length m.Tr) : (Z1 m).2 = edgL m.Pq.length m.Tr := (Z6b m ok).sorted ok
theorem Z7a (m : Gm) (ok : OkE m.Pq.length m.Tr) {e : Gedge} (he : e ∈ (Z1 m).2) : mhas (Z1 m).1 e = true ∧ ((Z1 m).1.getD (midx (Z1 m).1 e) default).2 = idxP m.Tr e.e0 e.e1 := by
  rw [Z4G m ok] at he
  have h := (Z6b m ok).at ok he
  exact ⟨h.1, h.2.trans (idxE_eq ok (mem_edgL.1 he).1.2.1)⟩
theorem Z70 (m : Gm) (ok : OkE m.Pq.length m.Tr) : (Z1 m).2.length ≤ 4096 := by
  rw [Z4G m ok]; exact edgL_len ok
theorem Z6h (m : Gm) (ok : OkE m.Pq.length m.Tr) {i : Int} (h0 : 0 ≤ i) (hi : i < ((Z1 m).2.length : Int)) : (Z1 m).2.getD i.toNat default ∈ (Z1 m).2 := by
  have hn : i.toNat < (Z1 m).2.length := by omega
  rw [List.getD_eq_getElem?_getD, List.getElem?_eq_getElem hn]; exact List.getElem_mem hn
theorem Z4g (m : Gm) (ok : OkE m.Pq.length m.Tr) {i : Int} (h0 : 0 ≤ i) (hi : i < ((Z1 m).2.length : Int)) :
    0 ≤ ((Z1 m).2.getD i.toNat default).e0 ∧ ((Z1 m).2.getD i.toNat default).e0 < ((Z1 m).2.getD i.toNat default).e1 ∧ ((Z1 m).2.getD i.toNat default).e1 < (m.Pq.length : Int) ∧ (m.Pq.length : Int) ≤ 64 ∧ ((Z1 m).2.length : Int) ≤ 4096 := by
  have hl := Z70 m ok
  have h64 := ok.1
  have hm := Z6h m ok h0 hi
  rw [Z4G m ok] at hm
  have hb := edgL_at hm
  rw [← Z4G m ok] at hb
  exact ⟨hb.1, hb.2.1, hb.2.2, by omega, by omega⟩
theorem Z4N (Y0 : Gm) (hp0 : Y0.Pq.length ≤ 1073741824) (hp1 : Y0.Tr.length ≤ 1073741824) (hp2 : ∀ t ∈ Y0.Tr, t.length ≤ 1073741824) (hp3 : OkE Y0.Pq.length Y0.Tr)  : Fn prog 77 [.agg [.sl (Y0.Pq.map Gv.c), .sl (Y0.Tr.map (cL (cI .i64)))]] (.tup [.mp 0, .own 1]) [.mapN 2 (mapC Gedge.pr (cI .i64) ((Z1 Y0).1)) none, .vec 92 2 (((Z1 Y0).2).map Gedge.cells) false] := by
 have y0 : ((Zs Y0).2).length ≤ 1073741824 := (by (have q := Z79 Y0 hp3; omega))
 refine fnS E0Ok Z3 (c := bodyOf f77) [] (.tup [.mp 0, .own 1]) [.mapN 2 (mapC Gedge.pr (cI .i64) ((Zs Y0).1)) none, .vec 92 2 ((Z2u ((Zs Y0).2)).map Gedge.cells) false] func77 (sZ (cL (cI .i64)) Y0.Tr <| sL (mR false [0, 2, 1, 3, 4, 1, 1, 4, 41]) 3 (lp_cast (st2 := ⟨.agg [.sl (Y0.Pq.map Gv.c), .sl (Y0.Tr.map (cL (cI .i64)))] :: .ptr 0 0 0 :: .any :: .nils :: .mp 1 :: .own 2 :: an 4 (.mp 1 :: .any :: .ptr 0 0 1 :: .sl (Y0.Tr.map (cL (cI .i64))) :: .i .i64 (Y0.Tr.length : Int) :: .i .i64 0 :: an 41 []), [.box 35 [.sl (Y0.Pq.map Gv.c), .sl (Y0.Tr.map (cL (cI .i64)))], .mapN 2 [] none, .vec 92 2 ([] : List (List AV)) false]⟩) (lp_val (Z2e Y0) (x := (Zs Y0)) (Z4x Y0 hp0 hp1 hp2 hp3 (((Y0.Tr.length : Int) - 0).toNat + 1) 0 ([] : (List (Gedge × List Int))) ([] : List Gedge) (show 0 ≤ 0 from (by omega)) (show (([] : List Gedge).length : Int) ≤ 3 * 0 from (by simp; done)) (show ∀ y ∈ ([] : (List (Gedge × List Int))), (y.2.length : Int) ≤ 3 * 0 from (by simp; done)) (Nat.lt_succ_self _)) rfl) (by simp [Z31, mapC, Gedge.cells])) <| sS (CallSt.frame (Z4F ((Zs Y0).2) y0) [2] (R := [.box 35 [.sl (Y0.Pq.map Gv.c), .sl (Y0.Tr.map (cL (cI .i64)))], .mapN 2 (mapC Gedge.pr (cI .i64) ((Zs Y0).1)) none, .vec 92 2 (((Zs Y0).2).map Gedge.cells) false]) (args' := [.own 2, .fn 112 []]) rfl rfl rfl rfl rfl rfl) <| sK [1, 2] sN) rfl (by kernel_rfl) (by kernel_rfl) rfl ?_ ?_
 · rfl
 · simp [Z1]
def Zr (Y0 : Gm) : Nat → Int → (List Gedge) → (List Gedge)
  | 0, _, _ => default
  | k + 1, Y3, Y9 => (cond (decide (Y3 < (((Z1 Y0).2).length : Int)))
    (cond (mhas ((Z1 Y0).1) (((Z1 Y0).2).getD Y3.toNat default))
      (cond (((((Z1 Y0).1).getD (midx ((Z1 Y0).1) (((Z1 Y0).2).getD Y3.toNat default)) default).2.length : Int) == 1)
        (Zr Y0 k (Y3 + 1) (Y9 ++ [(((Z1 Y0).2).getD Y3.toNat default)]))
        (Zr Y0 k (Y3 + 1) Y9))
      (Zr Y0 k (Y3 + 1) Y9))
    Y9)
def Z3d (Y0 : Gm) (r : (List Gedge)) : Ex × St := ((.exit 0), ⟨.agg [.sl (Y0.Pq.map Gv.c), .sl (Y0.Tr.map (cL (cI .i64)))] :: .ptr 0 0 0 :: .nils :: .own 1 :: .any :: .own 2 :: an 4 (.agg [.sl (Y0.Pq.map Gv.c), .sl (Y0.Tr.map (cL (cI .i64)))] :: .any :: .mp 3 :: .own 2 :: .own 2 :: an 16 []), [.box 35 [.sl (Y0.Pq.map Gv.c), .sl (Y0.Tr.map (cL (cI .i64)))], .vec 92 2 (r.map Gedge.cells) false, .vec 92 2 (((Z1 Y0).2).map Gedge.cells) false, .mapN 2 (mapC Gedge.pr (cI .i64) ((Z1 Y0).1)) none]⟩)
def Z3e (Y0 : Gm) (Y3 : Int) (Y9 : (List Gedge)) : St := ⟨.agg [.sl (Y0.Pq.map Gv.c), .sl (Y0.Tr.map (cL (cI .i64)))] :: .ptr 0 0 0 :: .nils :: .own 1 :: .mp 2 :: .own 3 :: an 4 (.agg [.sl (Y0.Pq.map Gv.c), .sl (Y0.Tr.map (cL (cI .i64)))] :: .any :: .mp 2 :: .own 3 :: .own 3 :: .i .i64 (((Z1 Y0).2).length : Int) :: .i .i64 Y3 :: an 14 []), [.box 35 [.sl (Y0.Pq.map Gv.c), .sl (Y0.Tr.map (cL (cI .i64)))], .vec 92 2 (Y9.map Gedge.cells) false, .mapN 2 (mapC Gedge.pr (cI .i64) ((Z1 Y0).1)) none, .vec 92 2 (((Z1 Y0).2).map Gedge.cells) false]⟩
theorem Z5r (Y0 : Gm) (hp0 : Y0.Pq.length ≤ 1073741824) (hp1 : Y0.Tr.length ≤ 1073741824) (hp2 : ∀ t ∈ Y0.Tr, t.length ≤ 1073741824) (hp3 : OkE Y0.Pq.length Y0.Tr) : ∀ (k : Nat) (Y3 : Int) (Y9 : (List Gedge)) (Z1v : 0 ≤ Y3) (Z3Q : (Y9.length : Int) ≤ Y3) (hk : ((((Z1 Y0).2).length : Int) - Y3).toNat < k), Lp prog 0 (sub (bodyOf f65) [1, 1, 1, 0, 1, 0, 0]) (Z3e Y0 Y3 Y9) (Z3d Y0 (Zr Y0 k Y3 Y9)).1 (Z3d Y0 (Zr Y0 k Y3 Y9)).2 := by
 intro k
 induction k with
 | zero => intro Y3 Y9 Z1v Z3Q hk; exact absurd hk (Nat.not_lt_zero _)
 | succ k ih =>
  intro Y3 Y9 Z1v Z3Q hk
  cases Ye : (decide (Y3 < (((Z1 Y0).2).length : Int))) with
  | true =>
   have Yo := odt Ye
   have Yt : (0 : Int) ≤ Y3 := (by assumption)
   have Yu : Y3 < (((Z1 Y0).2).length : Int) := (by assumption)
   have Yy : Y3.toNat < ((Z1 Y0).2).length := (by omega)
   have p {a C} (s : Scr a C) := sB Ye <| sX Gedge.cells ((Z1 Y0).2) Y3 Yt Yu <| sV Gedge.cells ((Z1 Y0).2) Y3.toNat Yy <| s
   cases Yk : (mhas ((Z1 Y0).1) (((Z1 Y0).2).getD Y3.toNat default)) with
   | true =>
    have m_8 := midx_lt Yk
    have q {a C} (s : Scr a C) := p (sA (.keep [midx ((Z1 Y0).1) (((Z1 Y0).2).getD Y3.toNat default)]) <| sC (mget_ok (ck := Gedge.pr) (cv := (cI .i64)) Yk) <| sM (mget_len (ck := Gedge.pr) (cv := (cI .i64)) (l := (Z1 Y0).1) (j := (midx ((Z1 Y0).1) (((Z1 Y0).2).getD Y3.toNat default)))) <| s)
    clear p
    cases YB : (((((Z1 Y0).1).getD (midx ((Z1 Y0).1) (((Z1 Y0).2).getD Y3.toNat default)) default).2.length : Int) == 1) with
    | true =>
     have YV := eq_of_beq YB
     have YC : Y9.length + ([(((Z1 Y0).2).getD Y3.toNat default)]).length ≤ 1073741824 := by clear q; exact (by ((have q := Z4g Y0 hp3 Z1v (odt (by assumption)); (simp only [List.length_append, List.length_cons, List.length_nil]; omega))))
     have YE : (-9223372036854775808 : Int) ≤ (Y3 + 1) := by clear q; exact (by omega)
     have YL : (Y3 + 1) ≤ (9223372036854775807 : Int) := by clear q; exact (by ((have q := Z4g Y0 hp3 Z1v (odt (by assumption)); omega)))
     have e : Zr Y0 (k + 1) Y3 Y9 = (Zr Y0 k (Y3 + 1) (Y9 ++ [(((Z1 Y0).2).getD Y3.toNat default)])) := by simp only [Zr, Ye, Yk, YB, cond_true]
     rw [e]
     exact nextS E0Ok Z3 [] (mR false [0, 6, 4, 1, 1, 5, 14]) [0, 1, 2, 3] (⟨.agg [.sl (Y0.Pq.map Gv.c), .sl (Y0.Tr.map (cL (cI .i64)))] :: .ptr 0 0 0 :: .nils :: .own 1 :: .mp 2 :: .own 3 :: an 4 (.agg [.sl (Y0.Pq.map Gv.c), .sl (Y0.Tr.map (cL (cI .i64)))] :: .any :: .mp 2 :: .own 3 :: .own 3 :: .i .i64 (((Z1 Y0).2).length : Int) :: .i .i64 (Y3 + 1) :: an 14 []), [.box 35 [.sl (Y0.Pq.map Gv.c), .sl (Y0.Tr.map (cL (cI .i64)))], .vec 92 2 ((Y9.map Gedge.cells) ++ ([[.i .i64 ((((Z1 Y0).2).getD Y3.toNat default).e0), .i .i64 ((((Z1 Y0).2).getD Y3.toNat default).e1)]] : List (List AV))) false, .mapN 2 (mapC Gedge.pr (cI .i64) ((Z1 Y0).1)) none, .vec 92 2 (((Z1 Y0).2).map Gedge.cells) false]⟩) (q (sB YB <| sC (show (Y9.map Gedge.cells).length + ([[.i .i64 ((((Z1 Y0).2).getD Y3.toNat default).e0), .i .i64 ((((Z1 Y0).2).getD Y3.toNat default).e1)]] : List (List AV)).length ≤ 1073741824 from (by simpa using YC)) <| sI (Y3 + 1) YE YL <| sN)) (by kernel_rfl) (by simp [Z3e, Gedge.cells]) (ih (Y3 + 1) (Y9 ++ [(((Z1 Y0).2).getD Y3.toNat default)]) (show 0 ≤ (Y3 + 1) from (by omega)) (show ((Y9 ++ [(((Z1 Y0).2).getD Y3.toNat default)]).length : Int) ≤ (Y3 + 1) from (by ((have q := Z4g Y0 hp3 Z1v (odt (by assumption)); (simp only [List.length_append, List.length_cons, List.length_nil]; omega))))) (by omega))
    | false =>
     have YV := ne_of_beq_false YB
     have YC : (-9223372036854775808 : Int) ≤ (Y3 + 1) := by clear q; exact (by omega)
     have YE : (Y3 + 1) ≤ (9223372036854775807 : Int) := by clear q; exact (by ((have q := Z4g Y0 hp3 Z1v (odt (by assumption)); omega)))
     have e : Zr Y0 (k + 1) Y3 Y9 = (Zr Y0 k (Y3 + 1) Y9) := by simp only [Zr, Ye, Yk, YB, cond_true, cond_false]
     rw [e]
     exact nextR E0Ok Z3 [] (mR false [0, 6, 4, 1, 1, 5, 14]) [0, 1, 2, 3] (ih (Y3 + 1) Y9 (show 0 ≤ (Y3 + 1) from (by omega)) (show (Y9.length : Int) ≤ (Y3 + 1) from (by omega)) (by omega)) (q (sB YB <| sI (Y3 + 1) YC YE <| sN)) (by kernel_rfl)
   | false =>
    have YC : (-9223372036854775808 : Int) ≤ (Y3 + 1) := by clear p; exact (by omega)
    have YE : (Y3 + 1) ≤ (9223372036854775807 : Int) := by clear p; exact (by ((have q := Z4g Y0 hp3 Z1v (odt (by assumption)); omega)))
    have e : Zr Y0 (k + 1) Y3 Y9 = (Zr Y0 k (Y3 + 1) Y9) := by simp only [Zr, Ye, Yk, cond_true, cond_false]
    rw [e]
    exact nextR E0Ok Z3 [] (mR false [0, 6, 4, 1, 1, 5, 14]) [0, 1, 2, 3] (ih (Y3 + 1) Y9 (show 0 ≤ (Y3 + 1) from (by omega)) (show (Y9.length : Int) ≤ (Y3 + 1) from (by omega)) (by omega)) (p (sA (.keep []) <| sC (mnot_ok (ck := Gedge.pr) (cv := (cI .i64)) Gedge.inj Yk) <| sM (show ((0 : Nat) : Int) = 0 from rfl) <| sB (show (0 == 1) = false from rfl) <| sI (Y3 + 1) YC YE <| sN)) (by kernel_rfl)
  | false =>
   have Yo := odf Ye
   have e : Zr Y0 (k + 1) Y3 Y9 = Y9 := by simp only [Zr, Ye, cond_false]
   rw [e]
   exact outR (e := (.exit 0)) E0Ok Z3 [] (mR false [0, 4, 1, 1, 4, 1, 1, 3, 16]) [0, 1, 3, 2] (sB Ye <| sN) (by kernel_rfl) (by intro h; cases h)
def Z2f (Y0 : Gm) : (List Gedge) := (Zr Y0 (((((Z1 Y0).2).length : Int) - 0).toNat + 1) 0 ([] : List Gedge))
def Z2 (Y0 : Gm) : (List Gedge) := (Z2f Y0)
theorem Z46 (m : Gm) (ok : OkE m.Pq.length m.Tr) : Z2 m = brL m.Pq.length m.Tr := by
  unfold Z2 Z2f
  refine (filtm_from (a := (Z1 m).2) (p := fun e => decide ((idxP m.Tr e.e0 e.e1).length = 1)) (f := fun e => e) (lo := Zr m) (fun k i r h0 hi => ?_) (fun k i r hi => ?_)).trans ?_
  · obtain ⟨g1, g2⟩ := Z7a m ok (Z6h m ok h0 hi)
    rw [Zr, decide_eq_true hi, cond_true, g1, cond_true, g2]
    have hc : ((((idxP m.Tr ((Z1 m).2.getD i.toNat default).e0 ((Z1 m).2.getD i.toNat default).e1).length : Nat) : Int) == 1) = decide ((idxP m.Tr ((Z1 m).2.getD i.toNat default).e0 ((Z1 m).2.getD i.toNat default).e1).length = 1) := by
      rw [Bool.eq_iff_iff, beq_iff_eq, decide_eq_true_iff]; omega
    rw [hc]
  · rw [Zr, decide_eq_false (by omega), cond_false]
  · rw [Z4G m ok, List.map_id']; rfl
theorem Z6B (m : Gm) (ok : OkE m.Pq.length m.Tr) : (Z2 m).length ≤ 4096 := by rw [Z46 m ok]; exact brL_len ok
theorem Z2R (m : Gm) (ok : OkE m.Pq.length m.Tr) {i : Int} (h0 : 0 ≤ i) (hi : i < ((Z2 m).length : Int)) : 0 ≤ ((Z2 m).getD i.toNat default).e0 ∧ ((Z2 m).getD i.toNat default).e0 < ((Z2 m).getD i.toNat default).e1 ∧ ((Z2 m).getD i.toNat default).e1 < (m.Pq.length : Int) ∧ ((Z2 m).length : Int) ≤ 4096 := by
  have hl := Z6B m ok
  have hm : (Z2 m).getD i.toNat default ∈ Z2 m := by rw [List.getD_eq_getElem?_getD, List.getElem?_eq_getElem (by omega)]; exact List.getElem_mem _
  have hm2 := hm
  rw [Z46 m ok] at hm2
  have := brL_at hm2
  rw [← Z46 m ok] at this
  omega
end Go.Ab
