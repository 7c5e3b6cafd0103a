/- The functions of this seat as plain Lean, and that the program's are these. Printed by a program of the prover's own. -/
import Derived.Test.YtpndflbllggeiaaGreatB2
set_option linter.unusedVariables false
set_option linter.unusedSimpArgs false
set_option maxRecDepth 100000
namespace Go.Ab
open Go.RowKit Go.Proofs.Tryz
def Z2l (Ym : (List Int)) (YU : Int) : Nat → Int → (Unit) ⊕ (Unit)
  | 0, _ => .inl default
  | k + 1, Y7 => (cond (decide (Y7 < (Ym.length : Int)))
    (cond ((Ym.getD Y7.toNat default) == YU)
      (.inl ())
      (Z2l Ym YU k (Y7 + 1)))
    (.inr ()))
def Z5X (Ym : (List Int)) (YU : Int) : (Unit) ⊕ (Unit) → Ex × St
  | .inl r => (.ret, ⟨an 4 (.b true :: an 13 []), []⟩)
  | .inr r => ((.exit 0), ⟨an 18 [], []⟩)
def Zee (Ym : (List Int)) (YU : Int) (Y7 : Int) : St := ⟨.sl (Ym.map (cI .i64)) :: .i .i64 YU :: .any :: .any :: .any :: .i .i64 Y7 :: an 12 [], []⟩
theorem Zar (Ym : (List Int)) (YU : Int) (hp0 : Ym.length ≤ 1073741824) : ∀ (k : Nat) (Y7 : Int) (Z9p : 0 ≤ Y7) (hk : ((Ym.length : Int) - Y7).toNat < k), Lp prog 0 (sub (bodyOf f127) [1, 0, 1, 0, 0]) (Zee Ym YU Y7) (Z5X Ym YU (Z2l Ym YU k Y7)).1 (Z5X Ym YU (Z2l Ym YU k Y7)).2 := by
 intro k
 induction k with
 | zero => intro Y7 Z9p hk; exact absurd hk (Nat.not_lt_zero _)
 | succ k ih =>
  intro Y7 Z9p hk
  have p {a C} (s : Scr a C) := sZ (cI .i64) Ym <| s
  cases Yg : (decide (Y7 < (Ym.length : Int))) with
  | true =>
   have Yt := of_decide_eq_true Yg
   have YA : (0 : Int) ≤ Y7 := by clear p; exact (by assumption)
   have YE : Y7 < (Ym.length : Int) := by clear p; exact (by assumption)
   have q {a C} (s : Scr a C) := p (sB Yg <| sG (cI .i64) Ym Y7 YA YE <| s)
   clear p
   cases Yq : ((Ym.getD Y7.toNat default) == YU) with
   | true =>
    have Y11 := eq_of_beq Yq
    have e : Z2l Ym YU (k + 1) Y7 = (.inl ()) := by simp only [Z2l, Yg, Yq, cond_true]
    rw [e]
    exact outR (e := .ret) E0Ok Z4 [] (mR false [4, 1, 13]) [] (q (sB Yq <| sN)) (by kernel_rfl) (by intro h; cases h)
   | false =>
    have Y11 := ne_of_beq_false Yq
    have YG : (-9223372036854775808 : Int) ≤ (Y7 + 1) := by clear q; exact (by omega)
    have YH : (Y7 + 1) ≤ (9223372036854775807 : Int) := by clear q; exact (by omega)
    have e : Z2l Ym YU (k + 1) Y7 = (Z2l Ym YU k (Y7 + 1)) := by simp only [Z2l, Yg, Yq, cond_true, cond_false]
    rw [e]
    exact nextR E0Ok Z4 [] (mR false [0, 2, 3, 1, 12]) [] (ih (Y7 + 1) (show 0 ≤ (Y7 + 1) from (by omega)) (by omega)) (q (sB Yq <| sI (Y7 + 1) YG YH <| sN)) (by kernel_rfl)
  | false =>
   have Yt := of_decide_eq_false Yg
   have e : Z2l Ym YU (k + 1) Y7 = (.inr ()) := by simp only [Z2l, Yg, cond_false]
   rw [e]
   exact outR (e := (.exit 0)) E0Ok Z4 [] (mR false [18]) [] (p (sB Yg <| sN)) (by kernel_rfl) (by intro h; cases h)
def Z4z (Ym : (List Int)) (YU : Int) : (Unit) ⊕ (Unit) := (Z2l Ym YU (((Ym.length : Int) - 0).toNat + 1) 0)
def Z1G (Ym : (List Int)) (YU : Int) : Bool := (match (Z4z Ym YU) with
  | .inl r1 => true
  | .inr r1 => false)
theorem Zc6 (Ym : (List Int)) (YU : Int) (hp0 : Ym.length ≤ 1073741824)  : Fn prog 127 [.sl (Ym.map (cI .i64)), .i .i64 YU] (.b (Z1G Ym YU)) [] := by
 cases h0 : (Z4z Ym YU) with
 | inl r1 =>
  refine fnS E0Ok Z4 (c := bodyOf f127) [] (.b true) [] func127 (sL (mR false [0, 2, 3, 1, 12]) 0 (lp_val (Z5X Ym YU) (x := (Z4z Ym YU)) (Zar Ym YU hp0 (((Ym.length : Int) - 0).toNat + 1) 0 (show 0 ≤ 0 from (by omega)) (Nat.lt_succ_self _)) h0) <| sK [] sN) rfl (by kernel_rfl) (by kernel_rfl) rfl ?_ ?_
  · simp only [Z1G, h0]
  · rfl
 | inr r1 =>
  refine fnS E0Ok Z4 (c := bodyOf f127) [] (.b false) [] func127 (sL (mR false [0, 2, 3, 1, 12]) 0 (lp_val (Z5X Ym YU) (x := (Z4z Ym YU)) (Zar Ym YU hp0 (((Ym.length : Int) - 0).toNat + 1) 0 (show 0 ≤ 0 from (by omega)) (Nat.lt_succ_self _)) h0) <| sK [] sN) rfl (by kernel_rfl) (by kernel_rfl) rfl ?_ ?_
  · simp only [Z1G, h0]
  · rfl
def Z1b (YC : (List Int)) (i_1 : Int) (j_2 : Int) : Nat → Int → (Int) ⊕ (Unit)
  | 0, _ => .inl default
  | k + 1, Y1 => (cond (decide (Y1 < (YC.length : Int)))
    (cond ((YC.getD Y1.toNat default) != i_1)
      (cond ((YC.getD Y1.toNat default) != j_2)
        (.inl (YC.getD Y1.toNat default))
        (Z1b YC i_1 j_2 k (Y1 + 1)))
      (Z1b YC i_1 j_2 k (Y1 + 1)))
    (.inr ()))
def Z5r (YC : (List Int)) (i_1 : Int) (j_2 : Int) : (Int) ⊕ (Unit) → Ex × St
  | .inl r => (.ret, ⟨an 6 (.i .i64 r :: an 35 []), []⟩)
  | .inr r => ((.exit 0), ⟨.sl (YC.map (cI .i64)) :: .i .i64 i_1 :: .i .i64 j_2 :: an 5 (.sl (YC.map (cI .i64)) :: .i .i64 i_1 :: .b (Z1G YC i_1) :: .b (!(Z1G YC i_1)) :: .b (!(Z1G YC i_1)) :: .sl (YC.map (cI .i64)) :: .i .i64 j_2 :: .b (Z1G YC j_2) :: .b (!(Z1G YC j_2)) :: .b (!(Z1G YC j_2)) :: .sl (YC.map (cI .i64)) :: an 23 []), []⟩)
def ZcR (YC : (List Int)) (i_1 : Int) (j_2 : Int) (Y1 : Int) : St := ⟨.sl (YC.map (cI .i64)) :: .i .i64 i_1 :: .i .i64 j_2 :: an 5 (.sl (YC.map (cI .i64)) :: .i .i64 i_1 :: .b (Z1G YC i_1) :: .b (!(Z1G YC i_1)) :: .b (!(Z1G YC i_1)) :: .sl (YC.map (cI .i64)) :: .i .i64 j_2 :: .b (Z1G YC j_2) :: .b (!(Z1G YC j_2)) :: .b (!(Z1G YC j_2)) :: .sl (YC.map (cI .i64)) :: .i .i64 (YC.length : Int) :: .i .i64 Y1 :: an 21 []), []⟩
theorem Z9q (YC : (List Int)) (i_1 : Int) (j_2 : Int) (hp0 : YC.length ≤ 1073741824) : ∀ (k : Nat) (Y1 : Int) (Z89 : 0 ≤ Y1) (hk : ((YC.length : Int) - Y1).toNat < k), Lp prog 0 (sub (bodyOf f138) [1, 1, 0, 1, 0, 0]) (ZcR YC i_1 j_2 Y1) (Z5r YC i_1 j_2 (Z1b YC i_1 j_2 k Y1)).1 (Z5r YC i_1 j_2 (Z1b YC i_1 j_2 k Y1)).2 := by
 intro k
 induction k with
 | zero => intro Y1 Z89 hk; exact absurd hk (Nat.not_lt_zero _)
 | succ k ih =>
  intro Y1 Z89 hk
  cases Yg : (decide (Y1 < (YC.length : Int))) with
  | true =>
   have Yt := of_decide_eq_true Yg
   have YA : (0 : Int) ≤ Y1 := (by assumption)
   have YE : Y1 < (YC.length : Int) := (by assumption)
   have p {a C} (s : Scr a C) := sB Yg <| sG (cI .i64) YC Y1 YA YE <| s
   cases Yq : ((YC.getD Y1.toNat default) != i_1) with
   | true =>
    have Y11 := bne_iff_ne.1 Yq
    have q {a C} (s : Scr a C) := p (sB Yq <| sB Yq <| sB Yq <| sG (cI .i64) YC Y1 YA YE <| sB Yq <| sB Yq <| sB Yq <| sB Yq <| s)
    clear p
    cases YM : ((YC.getD Y1.toNat default) != j_2) with
    | true =>
     have Y1e := bne_iff_ne.1 YM
     have e : Z1b YC i_1 j_2 (k + 1) Y1 = (.inl (YC.getD Y1.toNat default)) := by simp only [Z1b, Yg, Yq, YM, cond_true]
     rw [e]
     exact outR (e := .ret) E0Ok Z4 [] (mR false [6, 1, 35]) [] (q (sB YM <| sG (cI .i64) YC Y1 YA YE <| sN)) (by kernel_rfl) (by intro h; cases h)
    | false =>
     have Y1e := bne_eq_false_iff_eq.1 YM
     have YG : (-9223372036854775808 : Int) ≤ (Y1 + 1) := by clear q; exact (by omega)
     have YH : (Y1 + 1) ≤ (9223372036854775807 : Int) := by clear q; exact (by omega)
     have e : Z1b YC i_1 j_2 (k + 1) Y1 = (Z1b YC i_1 j_2 k (Y1 + 1)) := by simp only [Z1b, Yg, Yq, YM, cond_true, cond_false]
     rw [e]
     exact nextR E0Ok Z4 [] (mR false [0, 3, 5, 13, 21]) [] (ih (Y1 + 1) (show 0 ≤ (Y1 + 1) from (by omega)) (by omega)) (q (sB YM <| sI (Y1 + 1) YG YH <| sN)) (by kernel_rfl)
   | false =>
    have Y11 := bne_eq_false_iff_eq.1 Yq
    have YG : (-9223372036854775808 : Int) ≤ (Y1 + 1) := by clear p; exact (by omega)
    have YH : (Y1 + 1) ≤ (9223372036854775807 : Int) := by clear p; exact (by omega)
    have e : Z1b YC i_1 j_2 (k + 1) Y1 = (Z1b YC i_1 j_2 k (Y1 + 1)) := by simp only [Z1b, Yg, Yq, cond_true, cond_false]
    rw [e]
    exact nextR E0Ok Z4 [] (mR false [0, 3, 5, 13, 21]) [] (ih (Y1 + 1) (show 0 ≤ (Y1 + 1) from (by omega)) (by omega)) (p (sB Yq <| sB Yq <| sB Yq <| sB Yq <| sB Yq <| sB Yq <| sB Yq <| sB (show false = false from rfl) <| sI (Y1 + 1) YG YH <| sN)) (by kernel_rfl)
  | false =>
   have Yt := of_decide_eq_false Yg
   have e : Z1b YC i_1 j_2 (k + 1) Y1 = (.inr ()) := by simp only [Z1b, Yg, cond_false]
   rw [e]
   exact outR (e := (.exit 0)) E0Ok Z4 [] (mR false [0, 3, 5, 11, 23]) [] (sB Yg <| sN) (by kernel_rfl) (by intro h; cases h)
def Z4j (YC : (List Int)) (i_1 : Int) (j_2 : Int) : (Int) ⊕ (Unit) := (Z1b YC i_1 j_2 (((YC.length : Int) - 0).toNat + 1) 0)
def Z3m (YC : (List Int)) (i_1 : Int) (j_2 : Int) : Int := (cond (Z1G YC i_1)
  (cond (Z1G YC j_2)
    (match (Z4j YC i_1 j_2) with
      | .inl r3 => r3
      | .inr r3 => (-1))
    (-1))
  (-1))
theorem Zgd {x y z a b : Int} (n1 : x ≠ y) (n2 : y ≠ z) (n3 : x ≠ z) (hab : a ≠ b) : Z3m [x, y, z] a b = if tHas [x, y, z] a b = true then thd [x, y, z] a b else -1 := by
  have hs : ∀ c : Int, Z1G [x, y, z] c = (x == c || (y == c || z == c)) := by
    intro c
    unfold Z1G Z4z
    show (match Z2l [x, y, z] c 4 0 with | .inl r1 => true | .inr r1 => false) = _
    simp only [Z2l, List.length_cons, List.length_nil]
    cases h1 : (x == c) <;> cases h2 : (y == c) <;> cases h3 : (z == c) <;> simp [h1, h2, h3]
  unfold Z3m
  rw [hs, hs]
  by_cases hh : tHas [x, y, z] a b = true
  · rw [if_pos hh]
    have hq := hh
    unfold tHas at hq
    simp only [List.getD_cons_zero, List.getD_cons_succ, Bool.and_eq_true] at hq
    rw [hq.1, hq.2, cond_true, cond_true]
    unfold Z4j
    show (match Z1b [x, y, z] a b 4 0 with | .inl r3 => r3 | .inr r3 => (-1)) = _
    simp only [Z1b, List.length_cons, List.length_nil]
    rcases tHas_eq n1 n2 n3 hab hh with ⟨h0, h1, h2, h3, h4⟩ | ⟨h0, h1, h2, h3, h4⟩ | ⟨h0, h1, h2, h3, h4⟩
    · rw [h0]; simp [bne_iff_ne.2 h1, bne_iff_ne.2 h2]
    · rw [h0]
      rcases h3 with rfl | rfl
      · simp [bne_iff_ne.2 h1, bne_iff_ne.2 h2]
      · simp [bne_iff_ne.2 h1, bne_iff_ne.2 h2]
    · rw [h0]
      rcases h3 with rfl | rfl <;> rcases h4 with rfl | rfl <;> first | exact absurd rfl n1 | simp [bne_iff_ne.2 h1, bne_iff_ne.2 h2]
  · rw [if_neg hh]
    unfold tHas at hh
    simp only [List.getD_cons_zero, List.getD_cons_succ, Bool.and_eq_true, not_and, Bool.not_eq_true] at hh
    cases h1 : (x == a || (y == a || z == a)) with
    | false => rfl
    | true => rw [hh h1]; rfl
theorem ZeH (YC : (List Int)) (i_1 : Int) (j_2 : Int) (hp0 : YC.length ≤ 1073741824)  : Fn prog 138 [.sl (YC.map (cI .i64)), .i .i64 i_1, .i .i64 j_2] (.i .i64 (Z3m YC i_1 j_2)) [] := by
 have p {a C} (s : Scr a C) := sF (Zc6 YC i_1 hp0) <| s
 cases h0 : (Z1G YC i_1) with
 | true =>
  have q {a C} (s : Scr a C) := p (sB' h0 <| sB' h0 <| sB' h0 <| sF (Zc6 YC j_2 hp0) <| sB' h0 <| sB' h0 <| s)
  clear p
  cases h1 : (Z1G YC j_2) with
  | true =>
   have p {a C} (s : Scr a C) := q (sB' h1 <| sZ (cI .i64) YC <| s)
   clear q
   cases h2 : (Z4j YC i_1 j_2) with
   | inl r3 =>
    refine fnS E0Ok Z4 (c := bodyOf f138) [] (.i .i64 r3) [] func138 (p (sL (mR false [0, 3, 5, 13, 21]) 0 (lp_val (Z5r YC i_1 j_2) (x := (Z4j YC i_1 j_2)) (Z9q YC i_1 j_2 hp0 (((YC.length : Int) - 0).toNat + 1) 0 (show 0 ≤ 0 from (by omega)) (Nat.lt_succ_self _)) h2) <| sK [] sN)) rfl (by kernel_rfl) (by kernel_rfl) rfl ?_ ?_
    · simp only [Z3m, h0, h1, h2, cond_true]
    · rfl
   | inr r3 =>
    refine fnS E0Ok Z4 (c := bodyOf f138) [] (.i .i64 (-1)) [] func138 (p (sL (mR false [0, 3, 5, 13, 21]) 0 (lp_val (Z5r YC i_1 j_2) (x := (Z4j YC i_1 j_2)) (Z9q YC i_1 j_2 hp0 (((YC.length : Int) - 0).toNat + 1) 0 (show 0 ≤ 0 from (by omega)) (Nat.lt_succ_self _)) h2) <| sK [] sN)) rfl (by kernel_rfl) (by kernel_rfl) rfl ?_ ?_
    · simp only [Z3m, h0, h1, h2, cond_true]
    · rfl
  | false =>
   refine fnS E0Ok Z4 (c := bodyOf f138) [] (.i .i64 (-1)) [] func138 (q (sB' h1 <| sK [] sN)) rfl (by kernel_rfl) (by kernel_rfl) rfl ?_ ?_
   · simp only [Z3m, h0, h1, cond_true, cond_false]
   · rfl
 | false =>
  refine fnS E0Ok Z4 (c := bodyOf f138) [] (.i .i64 (-1)) [] func138 (p (sB' h0 <| sB' h0 <| sB' h0 <| sB' h0 <| sB' h0 <| sB (show true = true from rfl) <| sK [] sN)) rfl (by kernel_rfl) (by kernel_rfl) rfl ?_ ?_
  · simp only [Z3m, h0, cond_false]
  · rfl
def Z1I (Y4 : GMesh) (Y1 : Int) (Y6 : Int) : Int := (Z3m (Y4.Triangles.getD Y6.toNat default) (((Z7 Y4).getD Y1.toNat default).getD 0 default) (((Z7 Y4).getD Y1.toNat default).getD 1 default))
def Z1v (Y4 : GMesh) (Y1 : Int) (Y2 : (List (List Int))) : Nat → Int → (List Int) → (List Int)
  | 0, _, _ => default
  | k + 1, Y6, Yd => (cond (decide (Y6 < (Y4.Triangles.length : Int)))
    (cond (decide ((Z1I Y4 Y1 Y6) ≥ 0))
      (Z1v Y4 Y1 Y2 k (Y6 + 1) (Yd ++ [(Z1I Y4 Y1 Y6)]))
      (Z1v Y4 Y1 Y2 k (Y6 + 1) Yd))
    Yd)
def Z6k (Y4 : GMesh) (Y1 : Int) (Y2 : (List (List Int))) (r : (List Int)) : Ex × St := ((.exit 2), ⟨.ref (GMesh.cells Y4) 0 :: .any :: .nils :: .own 0 :: .own 1 :: .i .i64 Y1 :: .i .i64 (((Z7 Y4).getD Y1.toNat default).getD 0 default) :: .i .i64 (((Z7 Y4).getD Y1.toNat default).getD 1 default) :: .own 2 :: .any :: .any :: .any :: .ref (GMesh.cells Y4) 0 :: .own 1 :: .own 1 :: .i .i64 ((Z7 Y4).length : Int) :: .i .i64 Y1 :: .b (decide (Y1 < ((Z7 Y4).length : Int))) :: .i .i64 Y1 :: .own 1 :: .i .i64 Y1 :: .ptr 1 Y1.toNat 0 :: .inn 1 Y1.toNat :: .ipt 1 Y1.toNat 0 :: .i .i64 (((Z7 Y4).getD Y1.toNat default).getD 0 default) :: .own 1 :: .i .i64 Y1 :: .ptr 1 Y1.toNat 0 :: .inn 1 Y1.toNat :: .ipt 1 Y1.toNat 1 :: .i .i64 (((Z7 Y4).getD Y1.toNat default).getD 1 default) :: .i .i64 (((Z7 Y4).getD Y1.toNat default).getD 0 default) :: .i .i64 (((Z7 Y4).getD Y1.toNat default).getD 1 default) :: .any :: .ref (GMesh.cells Y4) 0 :: .ref (GMesh.cells Y4) 0 :: .ref (GMesh.cells Y4) 1 :: .sl (Y4.Triangles.map (cL (cI .i64))) :: .i .i64 (Y4.Triangles.length : Int) :: an 29 [], [.nest 49 (Y2.map fun l => l.map (cI .i64)) false, .nest 49 ((Z7 Y4).map fun l => l.map (cI .i64)) false, .vec 2 1 (r.map (cI .i64)) false]⟩)
def Z8R (Y4 : GMesh) (Y1 : Int) (Y2 : (List (List Int))) (Y6 : Int) (Yd : (List Int)) : St := ⟨.ref (GMesh.cells Y4) 0 :: .any :: .nils :: .own 0 :: .own 1 :: .i .i64 Y1 :: .i .i64 (((Z7 Y4).getD Y1.toNat default).getD 0 default) :: .i .i64 (((Z7 Y4).getD Y1.toNat default).getD 1 default) :: .own 2 :: .any :: .any :: .any :: .ref (GMesh.cells Y4) 0 :: .own 1 :: .own 1 :: .i .i64 ((Z7 Y4).length : Int) :: .i .i64 Y1 :: .b (decide (Y1 < ((Z7 Y4).length : Int))) :: .i .i64 Y1 :: .own 1 :: .i .i64 Y1 :: .ptr 1 Y1.toNat 0 :: .inn 1 Y1.toNat :: .ipt 1 Y1.toNat 0 :: .i .i64 (((Z7 Y4).getD Y1.toNat default).getD 0 default) :: .own 1 :: .i .i64 Y1 :: .ptr 1 Y1.toNat 0 :: .inn 1 Y1.toNat :: .ipt 1 Y1.toNat 1 :: .i .i64 (((Z7 Y4).getD Y1.toNat default).getD 1 default) :: .i .i64 (((Z7 Y4).getD Y1.toNat default).getD 0 default) :: .i .i64 (((Z7 Y4).getD Y1.toNat default).getD 1 default) :: .any :: .ref (GMesh.cells Y4) 0 :: .ref (GMesh.cells Y4) 0 :: .ref (GMesh.cells Y4) 1 :: .sl (Y4.Triangles.map (cL (cI .i64))) :: .i .i64 (Y4.Triangles.length : Int) :: .i .i64 Y6 :: an 28 [], [.nest 49 (Y2.map fun l => l.map (cI .i64)) false, .nest 49 ((Z7 Y4).map fun l => l.map (cI .i64)) false, .vec 2 1 (Yd.map (cI .i64)) false]⟩
def Z5D : List Bool := (mR false [0, 1, 1, 7, 3, 21, 1, 6, 28])
def Zbi : List Bool := (mR false [0, 1, 1, 7, 3, 21, 1, 5, 29])
set_option maxHeartbeats 1000000 in
theorem Zcf (Y4 : GMesh) (Y1 : Int) (Y2 : (List (List Int))) (hp0 : Y4.Places.length ≤ 1073741824) (hp1 : Y4.Triangles.length ≤ 1073741824) (hp2 : ∀ t ∈ Y4.Triangles, t.length ≤ 1073741824) (hp3 : OkE Y4.Places.length Y4.Triangles) (Z1V : 0 ≤ Y1) (Z4H : (Y2.length : Int) ≤ Y1) (Zgt : (decide (Y1 < ((Z7 Y4).length : Int))) = true) : ∀ (k : Nat) (Y6 : Int) (Yd : (List Int)) (Z7B : 0 ≤ Y6) (Z7C : (Yd.length : Int) ≤ 2 + Y6) (hk : ((Y4.Triangles.length : Int) - Y6).toNat < k), Lp prog 0 (sub (bodyOf f101) [1, 1, 1, 0, 1, 0, 0, 1, 1, 0, 0, 1, 1, 1, 1, 0, 1, 0, 0]) (Z8R Y4 Y1 Y2 Y6 Yd) (Z6k Y4 Y1 Y2 (Z1v Y4 Y1 Y2 k Y6 Yd)).1 (Z6k Y4 Y1 Y2 (Z1v Y4 Y1 Y2 k Y6 Yd)).2 := by
 intro k
 induction k with
 | zero => intro Y6 Yd Z7B Z7C hk; exact absurd hk (Nat.not_lt_zero _)
 | succ k ih =>
  intro Y6 Yd Z7B Z7C hk
  cases YD : (decide (Y6 < (Y4.Triangles.length : Int))) with
  | true =>
   have YB := of_decide_eq_true YD
   have Y15 : (0 : Int) ≤ Y6 := (by assumption)
   have Y16 : Y6 < (Y4.Triangles.length : Int) := (by assumption)
   have Y12 : (Y4.Triangles.getD Y6.toNat default).length ≤ 1073741824 := (by simp_all <;> omega)
   have p {a C} (s : Scr a C) := sB YD <| sG (cL (cI .i64)) Y4.Triangles Y6 Y15 Y16 <| sF (ZeH (Y4.Triangles.getD Y6.toNat default) (((Z7 Y4).getD Y1.toNat default).getD 0 default) (((Z7 Y4).getD Y1.toNat default).getD 1 default) Y12) <| s
   cases YV : (decide ((Z1I Y4 Y1 Y6) ≥ 0)) with
   | true =>
    have gh__1 := of_decide_eq_true YV
    have Y10 : Yd.length + ([(Z1I Y4 Y1 Y6)]).length ≤ 1073741824 := by clear p; exact (by ((have := hp3.2.1; have g4 := of_decide_eq_true YD; (simp only [List.length_append, List.length_cons, List.length_nil]; omega))))
    have Y17 : (-9223372036854775808 : Int) ≤ (Y6 + 1) := by clear p; exact (by omega)
    have Y1a : (Y6 + 1) ≤ (9223372036854775807 : Int) := by clear p; exact (by omega)
    have e : Z1v Y4 Y1 Y2 (k + 1) Y6 Yd = (Z1v Y4 Y1 Y2 k (Y6 + 1) (Yd ++ [(Z1I Y4 Y1 Y6)])) := by simp only [Z1v, YD, YV, cond_true]
    rw [e]
    exact nextS E0Ok Z4 [] Z5D [0, 1, 2] (⟨.ref (GMesh.cells Y4) 0 :: .any :: .nils :: .own 0 :: .own 1 :: .i .i64 Y1 :: .i .i64 (((Z7 Y4).getD Y1.toNat default).getD 0 default) :: .i .i64 (((Z7 Y4).getD Y1.toNat default).getD 1 default) :: .own 2 :: .any :: .any :: .any :: .ref (GMesh.cells Y4) 0 :: .own 1 :: .own 1 :: .i .i64 ((Z7 Y4).length : Int) :: .i .i64 Y1 :: .b (decide (Y1 < ((Z7 Y4).length : Int))) :: .i .i64 Y1 :: .own 1 :: .i .i64 Y1 :: .ptr 1 Y1.toNat 0 :: .inn 1 Y1.toNat :: .ipt 1 Y1.toNat 0 :: .i .i64 (((Z7 Y4).getD Y1.toNat default).getD 0 default) :: .own 1 :: .i .i64 Y1 :: .ptr 1 Y1.toNat 0 :: .inn 1 Y1.toNat :: .ipt 1 Y1.toNat 1 :: .i .i64 (((Z7 Y4).getD Y1.toNat default).getD 1 default) :: .i .i64 (((Z7 Y4).getD Y1.toNat default).getD 0 default) :: .i .i64 (((Z7 Y4).getD Y1.toNat default).getD 1 default) :: .any :: .ref (GMesh.cells Y4) 0 :: .ref (GMesh.cells Y4) 0 :: .ref (GMesh.cells Y4) 1 :: .sl (Y4.Triangles.map (cL (cI .i64))) :: .i .i64 (Y4.Triangles.length : Int) :: .i .i64 (Y6 + 1) :: an 28 [], [.nest 49 (Y2.map fun l => l.map (cI .i64)) false, .nest 49 ((Z7 Y4).map fun l => l.map (cI .i64)) false, .vec 2 1 ((Yd.map (cI .i64)) ++ ([[.i .i64 (Z1I Y4 Y1 Y6)]] : List (List AV))) false]⟩) (p (sB YV <| sC (show (Yd.map (cI .i64)).length + ([[.i .i64 (Z1I Y4 Y1 Y6)]] : List (List AV)).length ≤ 1073741824 from (by simpa using Y10)) <| sI (Y6 + 1) Y17 Y1a <| sN)) (by kernel_rfl) (show _ = ⟨.ref (GMesh.cells Y4) 0 :: .any :: .nils :: .own 0 :: .own 1 :: .i .i64 Y1 :: .i .i64 (((Z7 Y4).getD Y1.toNat default).getD 0 default) :: .i .i64 (((Z7 Y4).getD Y1.toNat default).getD 1 default) :: .own 2 :: .any :: .any :: .any :: .ref (GMesh.cells Y4) 0 :: .own 1 :: .own 1 :: .i .i64 ((Z7 Y4).length : Int) :: .i .i64 Y1 :: .b (decide (Y1 < ((Z7 Y4).length : Int))) :: .i .i64 Y1 :: .own 1 :: .i .i64 Y1 :: .ptr 1 Y1.toNat 0 :: .inn 1 Y1.toNat :: .ipt 1 Y1.toNat 0 :: .i .i64 (((Z7 Y4).getD Y1.toNat default).getD 0 default) :: .own 1 :: .i .i64 Y1 :: .ptr 1 Y1.toNat 0 :: .inn 1 Y1.toNat :: .ipt 1 Y1.toNat 1 :: .i .i64 (((Z7 Y4).getD Y1.toNat default).getD 1 default) :: .i .i64 (((Z7 Y4).getD Y1.toNat default).getD 0 default) :: .i .i64 (((Z7 Y4).getD Y1.toNat default).getD 1 default) :: .any :: .ref (GMesh.cells Y4) 0 :: .ref (GMesh.cells Y4) 0 :: .ref (GMesh.cells Y4) 1 :: .sl (Y4.Triangles.map (cL (cI .i64))) :: .i .i64 (Y4.Triangles.length : Int) :: .i .i64 (Y6 + 1) :: an 28 [], [.nest 49 (Y2.map fun l => l.map (cI .i64)) false, .nest 49 ((Z7 Y4).map fun l => l.map (cI .i64)) false, .vec 2 1 ((Yd ++ [(Z1I Y4 Y1 Y6)]).map (cI .i64)) false]⟩ from (by simp [cL, cI])) (ih (Y6 + 1) (Yd ++ [(Z1I Y4 Y1 Y6)]) (show 0 ≤ (Y6 + 1) from (by omega)) (show ((Yd ++ [(Z1I Y4 Y1 Y6)]).length : Int) ≤ 2 + (Y6 + 1) from (by ((have q := Z58 Y4 hp3 Z1V (of_decide_eq_true (by assumption)); (simp only [List.length_append, List.length_cons, List.length_nil]; omega))))) (by omega))
   | false =>
    have gh__1 := of_decide_eq_false YV
    have Y10 : (-9223372036854775808 : Int) ≤ (Y6 + 1) := by clear p; exact (by omega)
    have Y17 : (Y6 + 1) ≤ (9223372036854775807 : Int) := by clear p; exact (by omega)
    have e : Z1v Y4 Y1 Y2 (k + 1) Y6 Yd = (Z1v Y4 Y1 Y2 k (Y6 + 1) Yd) := by simp only [Z1v, YD, YV, cond_true, cond_false]
    rw [e]
    exact nextR E0Ok Z4 [] Z5D [0, 1, 2] (ih (Y6 + 1) Yd (show 0 ≤ (Y6 + 1) from (by omega)) (show (Yd.length : Int) ≤ 2 + (Y6 + 1) from (by omega)) (by omega)) (p (sB YV <| sI (Y6 + 1) Y10 Y17 <| sN)) (by kernel_rfl)
  | false =>
   have YB := of_decide_eq_false YD
   have e : Z1v Y4 Y1 Y2 (k + 1) Y6 Yd = Yd := by simp only [Z1v, YD, cond_false]
   rw [e]
   exact outR (e := (.exit 2)) E0Ok Z4 [] Zbi [0, 1, 2] (sB YD <| sN) (by kernel_rfl) (by intro h; cases h)
def Z1l (Y4 : GMesh) (Y1 : Int) (Y2 : (List (List Int))) : (List Int) := (Z1v Y4 Y1 Y2 (((Y4.Triangles.length : Int) - 0).toNat + 1) 0 ([(((Z7 Y4).getD Y1.toNat default).getD 0 default), (((Z7 Y4).getD Y1.toNat default).getD 1 default)]))
def Z1g (Y4 : GMesh) : Nat → Int → (List (List Int)) → (List (List Int))
  | 0, _, _ => default
  | k + 1, Y1, Y2 => (cond (decide (Y1 < ((Z7 Y4).length : Int)))
    (cond (((Z1l Y4 Y1 Y2).length : Int) == 4)
      (Z1g Y4 k (Y1 + 1) (Y2 ++ [(Z1l Y4 Y1 Y2)]))
      (Z1g Y4 k (Y1 + 1) Y2))
    Y2)
def Z6l (Y4 : GMesh) (r : (List (List Int))) : Ex × St := ((.exit 0), ⟨.ref (GMesh.cells Y4) 0 :: .any :: .nils :: .own 0 :: .own 1 :: an 7 (.ref (GMesh.cells Y4) 0 :: .own 1 :: .own 1 :: an 53 []), [.nest 49 (r.map fun l => l.map (cI .i64)) false, .nest 49 ((Z7 Y4).map fun l => l.map (cI .i64)) false]⟩)
def Z8S (Y4 : GMesh) (Y1 : Int) (Y2 : (List (List Int))) : St := ⟨.ref (GMesh.cells Y4) 0 :: .any :: .nils :: .own 0 :: .own 1 :: an 7 (.ref (GMesh.cells Y4) 0 :: .own 1 :: .own 1 :: .i .i64 ((Z7 Y4).length : Int) :: .i .i64 Y1 :: an 51 []), [.nest 49 (Y2.map fun l => l.map (cI .i64)) false, .nest 49 ((Z7 Y4).map fun l => l.map (cI .i64)) false]⟩
set_option maxHeartbeats 1000000 in
theorem Zcg (Y4 : GMesh) (hp0 : Y4.Places.length ≤ 1073741824) (hp1 : Y4.Triangles.length ≤ 1073741824) (hp2 : ∀ t ∈ Y4.Triangles, t.length ≤ 1073741824) (hp3 : OkE Y4.Places.length Y4.Triangles) : ∀ (k : Nat) (Y1 : Int) (Y2 : (List (List Int))) (Z1V : 0 ≤ Y1) (Z4H : (Y2.length : Int) ≤ Y1) (hk : (((Z7 Y4).length : Int) - Y1).toNat < k), Lp prog 0 (sub (bodyOf f101) [1, 1, 1, 0, 1, 0, 0]) (Z8S Y4 Y1 Y2) (Z6l Y4 (Z1g Y4 k Y1 Y2)).1 (Z6l Y4 (Z1g Y4 k Y1 Y2)).2 := by
 intro k
 induction k with
 | zero => intro Y1 Y2 Z1V Z4H hk; exact absurd hk (Nat.not_lt_zero _)
 | succ k ih =>
  intro Y1 Y2 Z1V Z4H hk
  cases Yg : (decide (Y1 < ((Z7 Y4).length : Int))) with
  | true =>
   have Yt := of_decide_eq_true Yg
   have YA : (0 : Int) ≤ Y1 := (by assumption)
   have YE : Int.toNat Y1 < (Z7 Y4).length := (by omega)
   have YG : Y1.toNat < (Z7 Y4).length := (by assumption)
   have YH : (0 : Int) ≤ 0 := (by omega)
   have YL : 0 < (((Z7 Y4).getD Y1.toNat default).length : Int) := (by ((have q := Z58 Y4 hp3 Z1V (of_decide_eq_true (by assumption)); omega)))
   have YQ : 0 < ((Z7 Y4).getD Y1.toNat default).length := (by omega)
   have YW : (0 : Int) ≤ 1 := (by omega)
   have y_7 : 1 < (((Z7 Y4).getD Y1.toNat default).length : Int) := (by ((have q := Z58 Y4 hp3 Z1V (of_decide_eq_true (by assumption)); omega)))
   have y_8 : 1 < ((Z7 Y4).getD Y1.toNat default).length := (by omega)
   have p {a C} (s : Scr a C) := sB Yg <| sC (nestix (c := (cI .i64)) (l := (Z7 Y4)) (i := Y1) YA YE) <| sC (nestlt (c := (cI .i64)) (l := (Z7 Y4)) YG) <| sC (iidx_ok (c := (cI .i64)) (l := (Z7 Y4)) (j := Y1.toNat) (i := 0) YH YL) <| sE (iget_ok (c := (cI .i64)) (l := (Z7 Y4)) (j := Y1.toNat) (k := 0) YQ) <| sC (nestix (c := (cI .i64)) (l := (Z7 Y4)) (i := Y1) YA YE) <| sC (nestlt (c := (cI .i64)) (l := (Z7 Y4)) YG) <| sC (iidx_ok (c := (cI .i64)) (l := (Z7 Y4)) (j := Y1.toNat) (i := 1) YW y_7) <| sE (iget_ok (c := (cI .i64)) (l := (Z7 Y4)) (j := Y1.toNat) (k := 1) y_8) <| sZ (cL (cI .i64)) Y4.Triangles <| sL Z5D 3 (lp_cast (st2 := ⟨.ref (GMesh.cells Y4) 0 :: .any :: .nils :: .own 0 :: .own 1 :: .i .i64 Y1 :: .i .i64 (((Z7 Y4).getD Y1.toNat default).getD 0 default) :: .i .i64 (((Z7 Y4).getD Y1.toNat default).getD 1 default) :: .own 2 :: .any :: .any :: .any :: .ref (GMesh.cells Y4) 0 :: .own 1 :: .own 1 :: .i .i64 ((Z7 Y4).length : Int) :: .i .i64 Y1 :: .b (decide (Y1 < ((Z7 Y4).length : Int))) :: .i .i64 Y1 :: .own 1 :: .i .i64 Y1 :: .ptr 1 Y1.toNat 0 :: .inn 1 Y1.toNat :: .ipt 1 Y1.toNat 0 :: .i .i64 (((Z7 Y4).getD Y1.toNat default).getD 0 default) :: .own 1 :: .i .i64 Y1 :: .ptr 1 Y1.toNat 0 :: .inn 1 Y1.toNat :: .ipt 1 Y1.toNat 1 :: .i .i64 (((Z7 Y4).getD Y1.toNat default).getD 1 default) :: .i .i64 (((Z7 Y4).getD Y1.toNat default).getD 0 default) :: .i .i64 (((Z7 Y4).getD Y1.toNat default).getD 1 default) :: .any :: .ref (GMesh.cells Y4) 0 :: .ref (GMesh.cells Y4) 0 :: .ref (GMesh.cells Y4) 1 :: .sl (Y4.Triangles.map (cL (cI .i64))) :: .i .i64 (Y4.Triangles.length : Int) :: .i .i64 0 :: an 28 [], [.nest 49 (Y2.map fun l => l.map (cI .i64)) false, .nest 49 ((Z7 Y4).map fun l => l.map (cI .i64)) false, .vec 2 1 ([[.i .i64 (((Z7 Y4).getD Y1.toNat default).getD 0 default)], [.i .i64 (((Z7 Y4).getD Y1.toNat default).getD 1 default)]] : List (List AV)) false]⟩) (lp_val (Z6k Y4 Y1 Y2) (x := (Z1l Y4 Y1 Y2)) (Zcf Y4 Y1 Y2 hp0 hp1 hp2 hp3 Z1V Z4H Yg (((Y4.Triangles.length : Int) - 0).toNat + 1) 0 ([(((Z7 Y4).getD Y1.toNat default).getD 0 default), (((Z7 Y4).getD Y1.toNat default).getD 1 default)]) (show 0 ≤ 0 from (by omega)) (show (([(((Z7 Y4).getD Y1.toNat default).getD 0 default), (((Z7 Y4).getD Y1.toNat default).getD 1 default)]).length : Int) ≤ 2 + 0 from (by simp)) (Nat.lt_succ_self _)) rfl) (by simp [Z8R, cI])) <| sZ (cI .i64) (Z1l Y4 Y1 Y2) <| s
   cases Yq : (((Z1l Y4 Y1 Y2).length : Int) == 4) with
   | true =>
    have Y11 := eq_of_beq Yq
    have y_9 : Y2.length + [(Z1l Y4 Y1 Y2)].length ≤ 1073741824 := by clear p; exact (by ((have q := Z58 Y4 hp3 Z1V (of_decide_eq_true (by assumption)); (simp only [List.length_append, List.length_cons, List.length_nil]; omega))))
    have Y13 : (-9223372036854775808 : Int) ≤ (Y1 + 1) := by clear p; exact (by omega)
    have Y1c : (Y1 + 1) ≤ (9223372036854775807 : Int) := by clear p; exact (by ((have q := Z58 Y4 hp3 Z1V (of_decide_eq_true (by assumption)); omega)))
    have e : Z1g Y4 (k + 1) Y1 Y2 = (Z1g Y4 k (Y1 + 1) (Y2 ++ [(Z1l Y4 Y1 Y2)])) := by simp only [Z1g, Yg, Yq, cond_true]
    rw [e]
    exact nextS E0Ok Z4 [] (mR false [0, 1, 1, 3, 7, 5, 51]) [0, 1] (⟨.ref (GMesh.cells Y4) 0 :: .any :: .nils :: .own 0 :: .own 1 :: an 7 (.ref (GMesh.cells Y4) 0 :: .own 1 :: .own 1 :: .i .i64 ((Z7 Y4).length : Int) :: .i .i64 (Y1 + 1) :: an 51 []), [.nest 49 ((Y2.map fun l => l.map (cI .i64)) ++ [((Z1l Y4 Y1 Y2).map (cI .i64))]) false, .nest 49 ((Z7 Y4).map fun l => l.map (cI .i64)) false]⟩) (p (sB Yq <| sC (show (Y2.map fun l => l.map (cI .i64)).length + [((Z1l Y4 Y1 Y2).map (cI .i64))].length ≤ 1073741824 from (by simpa using y_9)) <| sI (Y1 + 1) Y13 Y1c <| sN)) (by kernel_rfl) (show _ = ⟨.ref (GMesh.cells Y4) 0 :: .any :: .nils :: .own 0 :: .own 1 :: an 7 (.ref (GMesh.cells Y4) 0 :: .own 1 :: .own 1 :: .i .i64 ((Z7 Y4).length : Int) :: .i .i64 (Y1 + 1) :: an 51 []), [.nest 49 ((Y2 ++ [(Z1l Y4 Y1 Y2)]).map fun l => l.map (cI .i64)) false, .nest 49 ((Z7 Y4).map fun l => l.map (cI .i64)) false]⟩ from (by simp [cL, cI])) (ih (Y1 + 1) (Y2 ++ [(Z1l Y4 Y1 Y2)]) (show 0 ≤ (Y1 + 1) from (by omega)) (show ((Y2 ++ [(Z1l Y4 Y1 Y2)]).length : Int) ≤ (Y1 + 1) from (by ((have q := Z58 Y4 hp3 Z1V (of_decide_eq_true (by assumption)); (simp only [List.length_append, List.length_cons, List.length_nil]; omega))))) (by omega))
   | false =>
    have Y11 := ne_of_beq_false Yq
    have y_9 : (-9223372036854775808 : Int) ≤ (Y1 + 1) := by clear p; exact (by omega)
    have Y13 : (Y1 + 1) ≤ (9223372036854775807 : Int) := by clear p; exact (by ((have q := Z58 Y4 hp3 Z1V (of_decide_eq_true (by assumption)); omega)))
    have e : Z1g Y4 (k + 1) Y1 Y2 = (Z1g Y4 k (Y1 + 1) Y2) := by simp only [Z1g, Yg, Yq, cond_true, cond_false]
    rw [e]
    exact nextR E0Ok Z4 [] (mR false [0, 1, 1, 3, 7, 5, 51]) [0, 1] (ih (Y1 + 1) Y2 (show 0 ≤ (Y1 + 1) from (by omega)) (show (Y2.length : Int) ≤ (Y1 + 1) from (by omega)) (by omega)) (p (sB Yq <| sI (Y1 + 1) y_9 Y13 <| sN)) (by kernel_rfl)
  | false =>
   have Yt := of_decide_eq_false Yg
   have e : Z1g Y4 (k + 1) Y1 Y2 = Y2 := by simp only [Z1g, Yg, cond_false]
   rw [e]
   exact outR (e := (.exit 0)) E0Ok Z4 [] (mR false [0, 1, 1, 3, 7, 3, 53]) [0, 1] (sB Yg <| sN) (by kernel_rfl) (by intro h; cases h)
def Z4I (Y4 : GMesh) : (List (List Int)) := (Z1g Y4 ((((Z7 Y4).length : Int) - 0).toNat + 1) 0 ([] : List (List Int)))
def Z0 (Y4 : GMesh) : (List (List Int)) := (Z4I Y4)
theorem ZgT (m : GMesh) (ok : OkE m.Places.length m.Triangles) (x : Int) (r0 : List (List Int)) (hab : ((Z7 m).getD x.toNat default).getD 0 default ≠ ((Z7 m).getD x.toNat default).getD 1 default) :
    Z1l m x r0 = [((Z7 m).getD x.toNat default).getD 0 default, ((Z7 m).getD x.toNat default).getD 1 default] ++ (idxP m.Triangles (((Z7 m).getD x.toNat default).getD 0 default) (((Z7 m).getD x.toNat default).getD 1 default)).map fun i => thd (m.Triangles.getD i.toNat default) (((Z7 m).getD x.toNat default).getD 0 default) (((Z7 m).getD x.toNat default).getD 1 default) := by
  unfold Z1l
  have hf := filt_loop (n := (m.Triangles.length : Int)) (f := fun i => !(decide (Z1I m x i ≥ 0))) (g := fun i => Z1I m x i) (lo := Z1v m x r0) (fun k i r' => by
    rw [Z1v]
    cases decide (Z1I m x i ≥ 0) <;> rfl) (((m.Triangles.length : Int) - 0).toNat + 1) 0 [((Z7 m).getD x.toNat default).getD 0 default, ((Z7 m).getD x.toNat default).getD 1 default] (Nat.lt_succ_self _)
  rw [hf]
  congr 1
  unfold Z1I idxP
  generalize ((Z7 m).getD x.toNat default).getD 0 default = a at *
  generalize ((Z7 m).getD x.toNat default).getD 1 default = b at *
  rw [List.map_map, show ((m.Triangles.length : Int) - 0).toNat = m.Triangles.length from by omega]
  have key : ∀ j : Nat, j < m.Triangles.length → Z3m (m.Triangles.getD ((0 : Int) + (j : Int)).toNat default) a b = if tHas (m.Triangles.getD j default) a b = true then thd (m.Triangles.getD j default) a b else -1 := by
    intro j hj
    rw [show ((0 : Int) + (j : Int)).toNat = j from by omega]
    have hm : m.Triangles.getD j default ∈ m.Triangles := by rw [List.getD_eq_getElem?_getD, List.getElem?_eq_getElem hj]; exact List.getElem_mem _
    obtain ⟨x, y, z, ht, r1, r2, r3, n1, n2, n3⟩ := ok.2.2 _ hm
    rw [ht]; exact Zgd n1 n2 n3 hab
  have hfl : ((List.range m.Triangles.length).filter fun (j : Nat) => !(!(decide (Z3m (m.Triangles.getD ((0 : Int) + (j : Int)).toNat default) a b ≥ 0)))) = (List.range m.Triangles.length).filter fun j => tHas (m.Triangles.getD j default) a b := by
    refine List.filter_congr fun j hj => ?_
    rw [List.mem_range] at hj
    rw [Bool.not_not, key j hj]
    cases hh : tHas (m.Triangles.getD j default) a b with
    | false => rfl
    | true =>
      have hi : (j : Int) ∈ idxP m.Triangles a b := by
        unfold idxP; rw [List.mem_map]; exact ⟨j, List.mem_filter.2 ⟨List.mem_range.2 hj, hh⟩, rfl⟩
      have := (thd_bd ok hab hi).1
      rw [show ((j : Nat) : Int).toNat = j from by omega] at this
      rw [if_pos rfl]; exact decide_eq_true this
  rw [hfl]
  refine List.map_congr_left fun j hj => ?_
  rw [List.mem_filter, List.mem_range] at hj
  rw [key j hj.1, if_pos hj.2]
  show _ = thd (m.Triangles.getD ((j : Nat) : Int).toNat default) a b
  rw [show ((j : Nat) : Int).toNat = j from by omega]
theorem Z8a (m : GMesh) (ok : OkE m.Places.length m.Triangles) : Z0 m = hgL m.Places.length m.Triangles := by
  unfold Z0 Z4I
  refine (filtm_from (a := Z7 m) (p := fun x => decide ((idxP m.Triangles (x.getD 0 default) (x.getD 1 default)).length = 2)) (f := fun x => [x.getD 0 default, x.getD 1 default] ++ (idxP m.Triangles (x.getD 0 default) (x.getD 1 default)).map fun i => thd (m.Triangles.getD i.toNat default) (x.getD 0 default) (x.getD 1 default)) (lo := Z1g m) (fun k i r h0 hi => ?_) (fun k i r hi => ?_)).trans ?_
  · have q := Z58 m ok h0 hi
    rw [Z1g, decide_eq_true hi, cond_true, ZgT m ok i r (by omega)]
    have hc : ((([((Z7 m).getD i.toNat default).getD 0 default, ((Z7 m).getD i.toNat default).getD 1 default] ++ (idxP m.Triangles (((Z7 m).getD i.toNat default).getD 0 default) (((Z7 m).getD i.toNat default).getD 1 default)).map fun i_1 => thd (m.Triangles.getD i_1.toNat default) (((Z7 m).getD i.toNat default).getD 0 default) (((Z7 m).getD i.toNat default).getD 1 default)).length : Int) == 4) = decide ((idxP m.Triangles (((Z7 m).getD i.toNat default).getD 0 default) (((Z7 m).getD i.toNat default).getD 1 default)).length = 2) := by
      rw [List.length_append, List.length_map, Bool.eq_iff_iff, beq_iff_eq, decide_eq_true_iff]
      simp only [List.length_cons, List.length_nil]; omega
    rw [hc]
  · rw [Z1g, decide_eq_false (by omega), cond_false]
  · rw [Zb7 m ok]
    unfold hgL
    rw [List.filter_map, List.map_map]
    rfl
theorem Z3B (m : GMesh) (ok : OkE m.Places.length m.Triangles) : (Z0 m).length ≤ 4096 := by rw [Z8a m ok]; exact hgL_len ok
theorem Zg0 (m : GMesh) (ok : OkE m.Places.length m.Triangles) {i : Int} (h0 : 0 ≤ i) (hi : i < ((Z0 m).length : Int)) : ((Z0 m).getD i.toNat default).length = 4 ∧ ∀ x ∈ (Z0 m).getD i.toNat default, 0 ≤ x ∧ x < (m.Places.length : Int) := by
  refine hgL_mem ok ?_
  rw [← Z8a m ok, List.getD_eq_getElem?_getD, List.getElem?_eq_getElem (by omega)]; exact List.getElem_mem _
theorem hin4 {m : GMesh} (ok : OkE m.Places.length m.Triangles) {i : Int} (h0 : 0 ≤ i) (hi : decide (i < ((Z0 m).length : Int)) = true) : ((Z0 m).getD i.toNat default).length = 4 ∧ ∀ x ∈ (Z0 m).getD i.toNat default, 0 ≤ x ∧ x < (m.Places.length : Int) := Zg0 m ok h0 (of_decide_eq_true hi)
theorem Zhk {m : GMesh} (ok : OkE m.Places.length m.Triangles) {i : Int} (h0 : 0 ≤ i) (hi : decide (i < ((Z0 m).length : Int)) = true) : ((Z0 m).getD i.toNat default).length ≤ 1073741824 := by have := (hin4 ok h0 hi).1; omega
theorem Zas (Y4 : GMesh) (hp0 : Y4.Places.length ≤ 1073741824) (hp1 : Y4.Triangles.length ≤ 1073741824) (hp2 : ∀ t ∈ Y4.Triangles, t.length ≤ 1073741824) (hp3 : OkE Y4.Places.length Y4.Triangles)  : Fn prog 101 [.ref (GMesh.cells Y4) 0] (.own 0) [.nest 49 ((Z0 Y4).map fun l => l.map (cI .i64)) false] := by
 refine fnS E0Ok Z4 (c := bodyOf f101) [] (.own 0) [.nest 49 ((Z4I Y4).map fun l => l.map (cI .i64)) false] func101 (sF (ZeG Y4 hp0 hp1 hp2 hp3) <| sM (nlen_ok (l := (Z7 Y4)) (f := fun l => l.map (cI .i64))) <| sL (mR false [0, 1, 1, 3, 7, 5, 51]) 2 (lp_cast (st2 := ⟨.ref (GMesh.cells Y4) 0 :: .any :: .nils :: .own 0 :: .own 1 :: an 7 (.ref (GMesh.cells Y4) 0 :: .own 1 :: .own 1 :: .i .i64 ((Z7 Y4).length : Int) :: .i .i64 0 :: an 51 []), [.nest 49 [] false, .nest 49 ((Z7 Y4).map fun l => l.map (cI .i64)) false]⟩) (lp_val (Z6l Y4) (x := (Z4I Y4)) (Zcg Y4 hp0 hp1 hp2 hp3 ((((Z7 Y4).length : Int) - 0).toNat + 1) 0 ([] : List (List Int)) (show 0 ≤ 0 from (by omega)) (show (([] : List (List Int)).length : Int) ≤ 0 from (by simp)) (Nat.lt_succ_self _)) rfl) (by simp [Z8S, cL, cI])) <| sK [0] sN) rfl (by kernel_rfl) (by kernel_rfl) rfl ?_ ?_
 · rfl
 · simp [Z0]
def Z5z (Y4 : GMesh) (Yq : (List Int)) : GVector := (Z1P (Zx (Y4.Places.getD (Yq.getD 2 default).toNat default) (Y4.Places.getD (Yq.getD 3 default).toNat default)) (Zx (Y4.Places.getD (Yq.getD 0 default).toNat default) (Y4.Places.getD (Yq.getD 1 default).toNat default)))
def ZO (Y4 : GMesh) (Yq : (List Int)) : GVector := (Z5z Y4 Yq)
theorem Zbj (Y4 : GMesh) (Yq : (List Int)) (hp0 : Y4.Places.length ≤ 1073741824) (hp1 : Y4.Triangles.length ≤ 1073741824) (hp2 : ∀ t ∈ Y4.Triangles, t.length ≤ 1073741824) (hp3 : Yq.length ≤ 1073741824) (hp4 : Yq.length = 4 ∧ ∀ x ∈ Yq, 0 ≤ x ∧ x < (Y4.Places.length : Int))  : Fn prog 102 [.ref (GMesh.cells Y4) 0, .sl (Yq.map (cI .i64))] (.agg [.f .f32 ((ZO Y4 Yq).X), .f .f32 ((ZO Y4 Yq).Y), .f .f32 ((ZO Y4 Yq).Z)]) [] := by
 have y0 : (0 : Int) ≤ 2 := (by omega)
 have y1 : 2 < (Yq.length : Int) := (by omega)
 have y2 : (0 : Int) ≤ (Yq.getD 2 default) := (by have q := Okh.at hp4; omega)
 have y3 : (Yq.getD 2 default) < (Y4.Places.length : Int) := (by have q := Okh.at hp4; omega)
 have y4 : (0 : Int) ≤ 3 := (by omega)
 have y5 : 3 < (Yq.length : Int) := (by omega)
 have y6 : (0 : Int) ≤ (Yq.getD 3 default) := (by have q := Okh.at hp4; omega)
 have y7 : (Yq.getD 3 default) < (Y4.Places.length : Int) := (by have q := Okh.at hp4; omega)
 have y8 : (0 : Int) ≤ 0 := (by omega)
 have y9 : 0 < (Yq.length : Int) := (by omega)
 have y10 : (0 : Int) ≤ (Yq.getD 0 default) := (by have q := Okh.at hp4; omega)
 have y11 : (Yq.getD 0 default) < (Y4.Places.length : Int) := (by have q := Okh.at hp4; omega)
 have y12 : (0 : Int) ≤ 1 := (by omega)
 have y13 : 1 < (Yq.length : Int) := (by omega)
 have y14 : (0 : Int) ≤ (Yq.getD 1 default) := (by have q := Okh.at hp4; omega)
 have y15 : (Yq.getD 1 default) < (Y4.Places.length : Int) := (by have q := Okh.at hp4; omega)
 refine fnS E0Ok Z4 (c := bodyOf f102) [] (.agg [.f .f32 ((Z5z Y4 Yq).X), .f .f32 ((Z5z Y4 Yq).Y), .f .f32 ((Z5z Y4 Yq).Z)]) [] func102 (sK [37, 37] <| sG (cI .i64) Yq 2 y0 y1 <| sG GVector.cells Y4.Places (Yq.getD 2 default) y2 y3 <| sG (cI .i64) Yq 3 y4 y5 <| sG GVector.cells Y4.Places (Yq.getD 3 default) y6 y7 <| sF (Z3A (Y4.Places.getD (Yq.getD 2 default).toNat default) (Y4.Places.getD (Yq.getD 3 default).toNat default)) <| sG (cI .i64) Yq 0 y8 y9 <| sG GVector.cells Y4.Places (Yq.getD 0 default) y10 y11 <| sG (cI .i64) Yq 1 y12 y13 <| sG GVector.cells Y4.Places (Yq.getD 1 default) y14 y15 <| sF (Z3A (Y4.Places.getD (Yq.getD 0 default).toNat default) (Y4.Places.getD (Yq.getD 1 default).toNat default)) <| sF (Z59 (Zx (Y4.Places.getD (Yq.getD 2 default).toNat default) (Y4.Places.getD (Yq.getD 3 default).toNat default)) (Zx (Y4.Places.getD (Yq.getD 0 default).toNat default) (Y4.Places.getD (Yq.getD 1 default).toNat default))) <| sK [] sN) rfl (by kernel_rfl) (by kernel_rfl) rfl ?_ ?_
 · rfl
 · rfl
def Zj (Y0 : GBody) (Y1 : Int) (Y2 : (List GVector)) : GVector := (Zx (Y2.getD (((Y0.Springs.getD Y1.toNat default).A).toNat) default) (Zl ((Z2Q Y0 (Y0.Springs.getD Y1.toNat default)).1) ((Z2Q Y0 (Y0.Springs.getD Y1.toNat default)).2)))
def Z8T (Y0 : GBody) (Y1 : Int) : GVector := (Zl ((Z2Q Y0 (Y0.Springs.getD Y1.toNat default)).1) (fneg .f32 ((Z2Q Y0 (Y0.Springs.getD Y1.toNat default)).2)))
def Z2E (Y0 : GBody) (Y1 : Int) (Y2 : (List GVector)) : GVector := (Zx ((Y2.set (((Y0.Springs.getD Y1.toNat default).A).toNat) (Zj Y0 Y1 Y2)).getD (((Y0.Springs.getD Y1.toNat default).B).toNat) default) (Z8T Y0 Y1))
def Z1h (Y0 : GBody) : Nat → Int → (List GVector) → (List GVector)
  | 0, _, _ => default
  | k + 1, Y1, Y2 => (cond (decide (Y1 < (Y0.Springs.length : Int)))
    (Z1h Y0 k (Y1 + 1) ((Y2.set (((Y0.Springs.getD Y1.toNat default).A).toNat) (Zj Y0 Y1 Y2)).set (((Y0.Springs.getD Y1.toNat default).B).toNat) (Z2E Y0 Y1 Y2)))
    Y2)
def Z6m (Y0 : GBody) (r : (List GVector)) : Ex × St := ((.exit 0), ⟨.ref (GBody.cells Y0) 0 :: .any :: .nils :: .ref (GBody.cells Y0) 0 :: .own 0 :: an 15 (.ref (GBody.cells Y0) 0 :: .ref (GBody.cells Y0) 0 :: .ref (GBody.cells Y0) 0 :: .ref (GBody.cells Y0) 0 :: .ref (GBody.cells Y0) 0 :: .ref (GBody.cells Y0) 0 :: .sl (Y0.Mesh.Places.map GVector.cells) :: .i .i64 (Y0.Mesh.Places.length : Int) :: .own 0 :: .ref (GBody.cells Y0) 0 :: .ref (GBody.cells Y0) 0 :: .ref (GBody.cells Y0) 2 :: .sl (Y0.Springs.map GSpring.cells) :: an 247 []), [.vec 40 3 (r.map GVector.cells) false]⟩)
def Z8U (Y0 : GBody) (Y1 : Int) (Y2 : (List GVector)) : St := ⟨.ref (GBody.cells Y0) 0 :: .any :: .nils :: .ref (GBody.cells Y0) 0 :: .own 0 :: an 15 (.ref (GBody.cells Y0) 0 :: .ref (GBody.cells Y0) 0 :: .ref (GBody.cells Y0) 0 :: .ref (GBody.cells Y0) 0 :: .ref (GBody.cells Y0) 0 :: .ref (GBody.cells Y0) 0 :: .sl (Y0.Mesh.Places.map GVector.cells) :: .i .i64 (Y0.Mesh.Places.length : Int) :: .own 0 :: .ref (GBody.cells Y0) 0 :: .ref (GBody.cells Y0) 0 :: .ref (GBody.cells Y0) 2 :: .sl (Y0.Springs.map GSpring.cells) :: .i .i64 (Y0.Springs.length : Int) :: .i .i64 Y1 :: an 245 []), [.vec 40 3 (Y2.map GVector.cells) false]⟩
set_option maxHeartbeats 1000000 in
theorem Zch (Y0 : GBody) (hp0 : Y0.Mesh.Places.length ≤ 1073741824) (hp1 : Y0.Mesh.Triangles.length ≤ 1073741824) (hp2 : ∀ t ∈ Y0.Mesh.Triangles, t.length ≤ 1073741824) (hp3 : Y0.Springs.length ≤ 1073741824) (hp4 : Y0.Weights.length ≤ 1073741824) (hp5 : OkBd Y0) : ∀ (k : Nat) (Y1 : Int) (Y2 : (List GVector)) (Z7D : 0 ≤ Y1) (Z7E : Y2.length = Y0.Mesh.Places.length) (hk : ((Y0.Springs.length : Int) - Y1).toNat < k), Lp prog 0 (sub (bodyOf f51) [1, 1, 1, 0, 1, 0, 0]) (Z8U Y0 Y1 Y2) (Z6m Y0 (Z1h Y0 k Y1 Y2)).1 (Z6m Y0 (Z1h Y0 k Y1 Y2)).2 := by
 intro k
 induction k with
 | zero => intro Y1 Y2 Z7D Z7E hk; exact absurd hk (Nat.not_lt_zero _)
 | succ k ih =>
  intro Y1 Y2 Z7D Z7E hk
  cases Yg : (decide (Y1 < (Y0.Springs.length : Int))) with
  | true =>
   have Yt := of_decide_eq_true Yg
   have YA : (0 : Int) ≤ Y1 := (by assumption)
   have YE : Y1 < (Y0.Springs.length : Int) := (by assumption)
   have YG : 0 ≤ (Y0.Springs.getD Y1.toNat default).A := (by have q := Z3l hp5 (by assumption) Yg; omega)
   have YH : (Y0.Springs.getD Y1.toNat default).A < (Y0.Mesh.Places.length : Int) := (by have q := Z3l hp5 (by assumption) Yg; omega)
   have YL : 0 ≤ (Y0.Springs.getD Y1.toNat default).B := (by have q := Z3l hp5 (by assumption) Yg; omega)
   have YQ : (Y0.Springs.getD Y1.toNat default).B < (Y0.Mesh.Places.length : Int) := (by have q := Z3l hp5 (by assumption) Yg; omega)
   have YW : (0 : Int) ≤ ((Y0.Springs.getD Y1.toNat default).A) := (by assumption)
   have y_7 : ((Y0.Springs.getD Y1.toNat default).A) < (Y2.length : Int) := (by omega)
   have y_8 : ((Y0.Springs.getD Y1.toNat default).A).toNat < Y2.length := (by omega)
   have y_9 : (0 : Int) ≤ ((Y0.Springs.getD Y1.toNat default).B) := (by assumption)
   have Y13 : ((Y0.Springs.getD Y1.toNat default).B) < ((Y2.set (((Y0.Springs.getD Y1.toNat default).A).toNat) (Zj Y0 Y1 Y2)).length : Int) := (by have q := hp5.w; have q := Z3l hp5 (by assumption) Yg; (simp only [List.length_set]; omega))
   have Y1c : ((Y0.Springs.getD Y1.toNat default).B).toNat < (Y2.set (((Y0.Springs.getD Y1.toNat default).A).toNat) (Zj Y0 Y1 Y2)).length := (by omega)
   have Y1g : (-9223372036854775808 : Int) ≤ (Y1 + 1) := (by omega)
   have Y1h : (Y1 + 1) ≤ (9223372036854775807 : Int) := (by omega)
   have e : Z1h Y0 (k + 1) Y1 Y2 = (Z1h Y0 k (Y1 + 1) ((Y2.set (((Y0.Springs.getD Y1.toNat default).A).toNat) (Zj Y0 Y1 Y2)).set (((Y0.Springs.getD Y1.toNat default).B).toNat) (Z2E Y0 Y1 Y2))) := by simp only [Z1h, Yg, cond_true]
   rw [e]
   exact nextS E0Ok Z4 [] (mR false [0, 1, 1, 3, 15, 15, 245]) [0] (⟨.ref (GBody.cells Y0) 0 :: .any :: .nils :: .ref (GBody.cells Y0) 0 :: .own 0 :: an 15 (.ref (GBody.cells Y0) 0 :: .ref (GBody.cells Y0) 0 :: .ref (GBody.cells Y0) 0 :: .ref (GBody.cells Y0) 0 :: .ref (GBody.cells Y0) 0 :: .ref (GBody.cells Y0) 0 :: .sl (Y0.Mesh.Places.map GVector.cells) :: .i .i64 (Y0.Mesh.Places.length : Int) :: .own 0 :: .ref (GBody.cells Y0) 0 :: .ref (GBody.cells Y0) 0 :: .ref (GBody.cells Y0) 2 :: .sl (Y0.Springs.map GSpring.cells) :: .i .i64 (Y0.Springs.length : Int) :: .i .i64 (Y1 + 1) :: an 245 []), [.vec 40 3 (((Y2.map GVector.cells).set (((Y0.Springs.getD Y1.toNat default).A).toNat) [.f .f32 ((Zj Y0 Y1 Y2).X), .f .f32 ((Zj Y0 Y1 Y2).Y), .f .f32 ((Zj Y0 Y1 Y2).Z)]).set (((Y0.Springs.getD Y1.toNat default).B).toNat) [.f .f32 ((Z2E Y0 Y1 Y2).X), .f .f32 ((Z2E Y0 Y1 Y2).Y), .f .f32 ((Z2E Y0 Y1 Y2).Z)]) false]⟩) (sB Yg <| sG GSpring.cells Y0.Springs Y1 YA YE <| sF (Zfy Y0 (Y0.Springs.getD Y1.toNat default) hp0 hp1 hp2 hp3 hp4 YG YH YL YQ) <| sK [16, 16] <| sX GVector.cells Y2 ((Y0.Springs.getD Y1.toNat default).A) YW y_7 <| sV GVector.cells Y2 (((Y0.Springs.getD Y1.toNat default).A).toNat) y_8 <| sF (Z3H ((Z2Q Y0 (Y0.Springs.getD Y1.toNat default)).1) ((Z2Q Y0 (Y0.Springs.getD Y1.toNat default)).2)) <| sF (Z3A (Y2.getD (((Y0.Springs.getD Y1.toNat default).A).toNat) default) (Zl ((Z2Q Y0 (Y0.Springs.getD Y1.toNat default)).1) ((Z2Q Y0 (Y0.Springs.getD Y1.toNat default)).2))) <| sX GVector.cells Y2 ((Y0.Springs.getD Y1.toNat default).A) YW y_7 <| sC (maplt (c := GVector.cells) (l := Y2) y_8) <| sK [17, 17] <| sC (show 0 ≤ ((Y0.Springs.getD Y1.toNat default).B) ∧ Int.toNat ((Y0.Springs.getD Y1.toNat default).B) < ((Y2.map GVector.cells).set (((Y0.Springs.getD Y1.toNat default).A).toNat) [.f .f32 ((Zj Y0 Y1 Y2).X), .f .f32 ((Zj Y0 Y1 Y2).Y), .f .f32 ((Zj Y0 Y1 Y2).Z)]).length from (by simpa using idx_ok (c := GVector.cells) (l := (Y2.set (((Y0.Springs.getD Y1.toNat default).A).toNat) (Zj Y0 Y1 Y2))) (i := (Y0.Springs.getD Y1.toNat default).B) y_9 Y13)) <| sE (show ((Y2.map GVector.cells).set (((Y0.Springs.getD Y1.toNat default).A).toNat) [.f .f32 ((Zj Y0 Y1 Y2).X), .f .f32 ((Zj Y0 Y1 Y2).Y), .f .f32 ((Zj Y0 Y1 Y2).Z)])[((Y0.Springs.getD Y1.toNat default).B).toNat]? = some [.f .f32 (((Y2.set (((Y0.Springs.getD Y1.toNat default).A).toNat) (Zj Y0 Y1 Y2)).getD (((Y0.Springs.getD Y1.toNat default).B).toNat) default).X), .f .f32 (((Y2.set (((Y0.Springs.getD Y1.toNat default).A).toNat) (Zj Y0 Y1 Y2)).getD (((Y0.Springs.getD Y1.toNat default).B).toNat) default).Y), .f .f32 (((Y2.set (((Y0.Springs.getD Y1.toNat default).A).toNat) (Zj Y0 Y1 Y2)).getD (((Y0.Springs.getD Y1.toNat default).B).toNat) default).Z)] from (by have q := vget_ok (c := GVector.cells) (l := (Y2.set (((Y0.Springs.getD Y1.toNat default).A).toNat) (Zj Y0 Y1 Y2))) (k := ((Y0.Springs.getD Y1.toNat default).B).toNat) Y1c; (simp only [List.map_set, List.map_append, List.map_cons, List.map_nil, List.map_replicate] at q; exact q))) <| sF (Z3H ((Z2Q Y0 (Y0.Springs.getD Y1.toNat default)).1) (fneg .f32 ((Z2Q Y0 (Y0.Springs.getD Y1.toNat default)).2))) <| sF (Z3A ((Y2.set (((Y0.Springs.getD Y1.toNat default).A).toNat) (Zj Y0 Y1 Y2)).getD (((Y0.Springs.getD Y1.toNat default).B).toNat) default) (Z8T Y0 Y1)) <| sC (show 0 ≤ ((Y0.Springs.getD Y1.toNat default).B) ∧ Int.toNat ((Y0.Springs.getD Y1.toNat default).B) < ((Y2.map GVector.cells).set (((Y0.Springs.getD Y1.toNat default).A).toNat) [.f .f32 ((Zj Y0 Y1 Y2).X), .f .f32 ((Zj Y0 Y1 Y2).Y), .f .f32 ((Zj Y0 Y1 Y2).Z)]).length from (by simpa using idx_ok (c := GVector.cells) (l := (Y2.set (((Y0.Springs.getD Y1.toNat default).A).toNat) (Zj Y0 Y1 Y2))) (i := (Y0.Springs.getD Y1.toNat default).B) y_9 Y13)) <| sC (show ((Y0.Springs.getD Y1.toNat default).B).toNat < ((Y2.map GVector.cells).set (((Y0.Springs.getD Y1.toNat default).A).toNat) [.f .f32 ((Zj Y0 Y1 Y2).X), .f .f32 ((Zj Y0 Y1 Y2).Y), .f .f32 ((Zj Y0 Y1 Y2).Z)]).length from (by simpa using Y1c)) <| sI (Y1 + 1) Y1g Y1h <| sN) (by kernel_rfl) (show _ = ⟨.ref (GBody.cells Y0) 0 :: .any :: .nils :: .ref (GBody.cells Y0) 0 :: .own 0 :: an 15 (.ref (GBody.cells Y0) 0 :: .ref (GBody.cells Y0) 0 :: .ref (GBody.cells Y0) 0 :: .ref (GBody.cells Y0) 0 :: .ref (GBody.cells Y0) 0 :: .ref (GBody.cells Y0) 0 :: .sl (Y0.Mesh.Places.map GVector.cells) :: .i .i64 (Y0.Mesh.Places.length : Int) :: .own 0 :: .ref (GBody.cells Y0) 0 :: .ref (GBody.cells Y0) 0 :: .ref (GBody.cells Y0) 2 :: .sl (Y0.Springs.map GSpring.cells) :: .i .i64 (Y0.Springs.length : Int) :: .i .i64 (Y1 + 1) :: an 245 []), [.vec 40 3 (((Y2.set (((Y0.Springs.getD Y1.toNat default).A).toNat) (Zj Y0 Y1 Y2)).set (((Y0.Springs.getD Y1.toNat default).B).toNat) (Z2E Y0 Y1 Y2)).map GVector.cells) false]⟩ from (by simp [List.map_set, GVector.cells])) (ih (Y1 + 1) ((Y2.set (((Y0.Springs.getD Y1.toNat default).A).toNat) (Zj Y0 Y1 Y2)).set (((Y0.Springs.getD Y1.toNat default).B).toNat) (Z2E Y0 Y1 Y2)) (show 0 ≤ (Y1 + 1) from (by omega)) (show ((Y2.set (((Y0.Springs.getD Y1.toNat default).A).toNat) (Zj Y0 Y1 Y2)).set (((Y0.Springs.getD Y1.toNat default).B).toNat) (Z2E Y0 Y1 Y2)).length = Y0.Mesh.Places.length from (by have q := hp5.w; have q := Z3l hp5 (by assumption) Yg; (simp only [List.length_set]; omega))) (by omega))
  | false =>
   have Yt := of_decide_eq_false Yg
   have e : Z1h Y0 (k + 1) Y1 Y2 = Y2 := by simp only [Z1h, Yg, cond_false]
   rw [e]
   exact outR (e := (.exit 0)) E0Ok Z4 [] (mR false [0, 1, 1, 3, 15, 13, 247]) [0] (sB Yg <| sN) (by kernel_rfl) (by intro h; cases h)
theorem Zbk (Y0 : GBody) : ∀ (k : Nat) (Y1 : Int) (Y2 : (List GVector)) (hk : ((Y0.Springs.length : Int) - Y1).toNat < k), (Z1h Y0 k Y1 Y2).length = Y2.length := by
  intro k
  induction k with
  | zero => intro Y1 Y2 hk; exact absurd hk (Nat.not_lt_zero _)
  | succ k ih =>
    intro Y1 Y2 hk
    cases Yg : (decide (Y1 < (Y0.Springs.length : Int))) with
    | true =>
      have e : Z1h Y0 (k + 1) Y1 Y2 = (Z1h Y0 k (Y1 + 1) ((Y2.set (((Y0.Springs.getD Y1.toNat default).A).toNat) (Zj Y0 Y1 Y2)).set (((Y0.Springs.getD Y1.toNat default).B).toNat) (Z2E Y0 Y1 Y2))) := by simp only [Z1h, Yg, cond_true]
      rw [e, ih (Y1 + 1) ((Y2.set (((Y0.Springs.getD Y1.toNat default).A).toNat) (Zj Y0 Y1 Y2)).set (((Y0.Springs.getD Y1.toNat default).B).toNat) (Z2E Y0 Y1 Y2)) (by simp_all <;> omega)]; simp
    | false =>
      have e : Z1h Y0 (k + 1) Y1 Y2 = Y2 := by simp only [Z1h, Yg, cond_false]
      first | (rw [e]; done) | (rw [e]; rfl)
def Z31 (Y0 : GBody) : (List GVector) := (Z1h Y0 (((Y0.Springs.length : Int) - 0).toNat + 1) 0 (List.replicate (Y0.Mesh.Places.length : Int).toNat (⟨0, 0, 0⟩ : GVector)))
@[simp] theorem Zfm (Y0 : GBody) : (Z31 Y0).length = ((List.replicate (Y0.Mesh.Places.length : Int).toNat (⟨0, 0, 0⟩ : GVector)) : (List GVector)).length := Zbk Y0 (((Y0.Springs.length : Int) - 0).toNat + 1) 0 (List.replicate (Y0.Mesh.Places.length : Int).toNat (⟨0, 0, 0⟩ : GVector)) (by exact Nat.lt_succ_self _)
def Z22 (Y0 : GBody) (Y1 : Int) : Nat := (Z4w (fneg .f32 (fop .mul .f32 1056964608 Y0.Film)) (Z1U (Zc Y0.Mesh (Y0.Mesh.Triangles.getD Y1.toNat default))))
def Z6n (Y0 : GBody) (Y1 : Int) (Y6 : Int) : GVector := (Z1P (Y0.Mesh.Places.getD ((Y0.Mesh.Triangles.getD Y1.toNat default).getD (Int.tmod (Y6 + 2) 3).toNat default).toNat default) (Y0.Mesh.Places.getD ((Y0.Mesh.Triangles.getD Y1.toNat default).getD (Int.tmod (Y6 + 1) 3).toNat default).toNat default))
def Z5f (Y0 : GBody) (Y1 : Int) (Y6 : Int) : GVector := (Zl (Z4G (Zc Y0.Mesh (Y0.Mesh.Triangles.getD Y1.toNat default)) (Z6n Y0 Y1 Y6)) (Z22 Y0 Y1))
def Z23 (Y0 : GBody) (Y1 : Int) (Y6 : Int) (Yo : (List GVector)) : GVector := (Zx (Yo.getD (((Y0.Mesh.Triangles.getD Y1.toNat default).getD Y6.toNat default).toNat) default) (Z5f Y0 Y1 Y6))
def ZM (Y0 : GBody) (Y1 : Int) (Y2 : (List GVector)) : Nat → Int → (List GVector) → (List GVector)
  | 0, _, _ => default
  | k + 1, Y6, Yo => (cond (decide (Y6 < 3))
    (ZM Y0 Y1 Y2 k (Y6 + 1) (Yo.set (((Y0.Mesh.Triangles.getD Y1.toNat default).getD Y6.toNat default).toNat) (Z23 Y0 Y1 Y6 Yo)))
    Yo)
def Z6o (Y0 : GBody) (Y1 : Int) (Y2 : (List GVector)) (r : (List GVector)) : Ex × St := ((.exit 4), ⟨.ref (GBody.cells Y0) 0 :: .any :: .nils :: .ref (GBody.cells Y0) 0 :: .own 0 :: an 4 (.i .i64 Y1 :: .sl ((Y0.Mesh.Triangles.getD Y1.toNat default).map (cI .i64)) :: .ptr 1 0 0 :: .f .f32 (Z22 Y0 Y1) :: an 7 (.ref (GBody.cells Y0) 0 :: .ref (GBody.cells Y0) 0 :: .ref (GBody.cells Y0) 0 :: .ref (GBody.cells Y0) 0 :: .ref (GBody.cells Y0) 0 :: .ref (GBody.cells Y0) 0 :: .sl (Y0.Mesh.Places.map GVector.cells) :: .i .i64 (Y0.Mesh.Places.length : Int) :: .own 0 :: .ref (GBody.cells Y0) 0 :: .ref (GBody.cells Y0) 0 :: .ref (GBody.cells Y0) 2 :: .sl (Y0.Springs.map GSpring.cells) :: an 52 (.ref (GBody.cells Y0) 0 :: .ref (GBody.cells Y0) 0 :: .ref (GBody.cells Y0) 1 :: .sl (Y0.Mesh.Triangles.map (cL (cI .i64))) :: .i .i64 (Y0.Mesh.Triangles.length : Int) :: .i .i64 Y1 :: .b (decide (Y1 < (Y0.Mesh.Triangles.length : Int))) :: .i .i64 Y1 :: .ref (GBody.cells Y0) 0 :: .ref (GBody.cells Y0) 0 :: .ref (GBody.cells Y0) 1 :: .sl (Y0.Mesh.Triangles.map (cL (cI .i64))) :: .i .i64 Y1 :: .ref [.sl ((Y0.Mesh.Triangles.getD Y1.toNat default).map (cI .i64))] 0 :: .sl ((Y0.Mesh.Triangles.getD Y1.toNat default).map (cI .i64)) :: .ref (GBody.cells Y0) 0 :: .sl ((Y0.Mesh.Triangles.getD Y1.toNat default).map (cI .i64)) :: .agg [.f .f32 ((Zc Y0.Mesh (Y0.Mesh.Triangles.getD Y1.toNat default)).X), .f .f32 ((Zc Y0.Mesh (Y0.Mesh.Triangles.getD Y1.toNat default)).Y), .f .f32 ((Zc Y0.Mesh (Y0.Mesh.Triangles.getD Y1.toNat default)).Z)] :: .ref (GBody.cells Y0) 0 :: .ref (GBody.cells Y0) 0 :: .ref (GBody.cells Y0) 3 :: .f .f32 Y0.Film :: .f .f32 (fop .mul .f32 1056964608 Y0.Film) :: .f .f32 (fneg .f32 (fop .mul .f32 1056964608 Y0.Film)) :: .agg [.f .f32 ((Zc Y0.Mesh (Y0.Mesh.Triangles.getD Y1.toNat default)).X), .f .f32 ((Zc Y0.Mesh (Y0.Mesh.Triangles.getD Y1.toNat default)).Y), .f .f32 ((Zc Y0.Mesh (Y0.Mesh.Triangles.getD Y1.toNat default)).Z)] :: .f .f32 (Z1U (Zc Y0.Mesh (Y0.Mesh.Triangles.getD Y1.toNat default))) :: .f .f32 (Z22 Y0 Y1) :: an 168 []))), [.vec 40 3 (r.map GVector.cells) false, .box 40 [.f .f32 ((Zc Y0.Mesh (Y0.Mesh.Triangles.getD Y1.toNat default)).X), .f .f32 ((Zc Y0.Mesh (Y0.Mesh.Triangles.getD Y1.toNat default)).Y), .f .f32 ((Zc Y0.Mesh (Y0.Mesh.Triangles.getD Y1.toNat default)).Z)]]⟩)
def Zci (Y0 : GBody) (Y1 : Int) (Y2 : (List GVector)) (Y6 : Int) (Yo : (List GVector)) : St := ⟨.ref (GBody.cells Y0) 0 :: .any :: .nils :: .ref (GBody.cells Y0) 0 :: .own 0 :: an 4 (.i .i64 Y1 :: .sl ((Y0.Mesh.Triangles.getD Y1.toNat default).map (cI .i64)) :: .ptr 1 0 0 :: .f .f32 (Z22 Y0 Y1) :: .i .i64 Y6 :: an 6 (.ref (GBody.cells Y0) 0 :: .ref (GBody.cells Y0) 0 :: .ref (GBody.cells Y0) 0 :: .ref (GBody.cells Y0) 0 :: .ref (GBody.cells Y0) 0 :: .ref (GBody.cells Y0) 0 :: .sl (Y0.Mesh.Places.map GVector.cells) :: .i .i64 (Y0.Mesh.Places.length : Int) :: .own 0 :: .ref (GBody.cells Y0) 0 :: .ref (GBody.cells Y0) 0 :: .ref (GBody.cells Y0) 2 :: .sl (Y0.Springs.map GSpring.cells) :: an 52 (.ref (GBody.cells Y0) 0 :: .ref (GBody.cells Y0) 0 :: .ref (GBody.cells Y0) 1 :: .sl (Y0.Mesh.Triangles.map (cL (cI .i64))) :: .i .i64 (Y0.Mesh.Triangles.length : Int) :: .i .i64 Y1 :: .b (decide (Y1 < (Y0.Mesh.Triangles.length : Int))) :: .i .i64 Y1 :: .ref (GBody.cells Y0) 0 :: .ref (GBody.cells Y0) 0 :: .ref (GBody.cells Y0) 1 :: .sl (Y0.Mesh.Triangles.map (cL (cI .i64))) :: .i .i64 Y1 :: .ref [.sl ((Y0.Mesh.Triangles.getD Y1.toNat default).map (cI .i64))] 0 :: .sl ((Y0.Mesh.Triangles.getD Y1.toNat default).map (cI .i64)) :: .ref (GBody.cells Y0) 0 :: .sl ((Y0.Mesh.Triangles.getD Y1.toNat default).map (cI .i64)) :: .agg [.f .f32 ((Zc Y0.Mesh (Y0.Mesh.Triangles.getD Y1.toNat default)).X), .f .f32 ((Zc Y0.Mesh (Y0.Mesh.Triangles.getD Y1.toNat default)).Y), .f .f32 ((Zc Y0.Mesh (Y0.Mesh.Triangles.getD Y1.toNat default)).Z)] :: .ref (GBody.cells Y0) 0 :: .ref (GBody.cells Y0) 0 :: .ref (GBody.cells Y0) 3 :: .f .f32 Y0.Film :: .f .f32 (fop .mul .f32 1056964608 Y0.Film) :: .f .f32 (fneg .f32 (fop .mul .f32 1056964608 Y0.Film)) :: .agg [.f .f32 ((Zc Y0.Mesh (Y0.Mesh.Triangles.getD Y1.toNat default)).X), .f .f32 ((Zc Y0.Mesh (Y0.Mesh.Triangles.getD Y1.toNat default)).Y), .f .f32 ((Zc Y0.Mesh (Y0.Mesh.Triangles.getD Y1.toNat default)).Z)] :: .f .f32 (Z1U (Zc Y0.Mesh (Y0.Mesh.Triangles.getD Y1.toNat default))) :: .f .f32 (Z22 Y0 Y1) :: an 168 []))), [.vec 40 3 (Yo.map GVector.cells) false, .box 40 [.f .f32 ((Zc Y0.Mesh (Y0.Mesh.Triangles.getD Y1.toNat default)).X), .f .f32 ((Zc Y0.Mesh (Y0.Mesh.Triangles.getD Y1.toNat default)).Y), .f .f32 ((Zc Y0.Mesh (Y0.Mesh.Triangles.getD Y1.toNat default)).Z)]]⟩
def Z7F : List Bool := (mR false [0, 1, 1, 3, 4, 5, 6, 13, 52, 27, 168])
def Zbl : List Bool := (mR false [0, 1, 1, 3, 4, 4, 7, 13, 52, 27, 168])
set_option maxHeartbeats 1000000 in
theorem Zcj (Y0 : GBody) (Y1 : Int) (Y2 : (List GVector)) (hp0 : Y0.Mesh.Places.length ≤ 1073741824) (hp1 : Y0.Mesh.Triangles.length ≤ 1073741824) (hp2 : ∀ t ∈ Y0.Mesh.Triangles, t.length ≤ 1073741824) (hp3 : Y0.Springs.length ≤ 1073741824) (hp4 : Y0.Weights.length ≤ 1073741824) (hp5 : OkBd Y0) (Z4J : 0 ≤ Y1) (Z4K : Y2.length = Y0.Mesh.Places.length) (Z1L : (decide (Y1 < (Y0.Mesh.Triangles.length : Int))) = true) : ∀ (k : Nat) (Y6 : Int) (Yo : (List GVector)) (Z7G : 0 ≤ Y6) (Z7H : Yo.length = Y2.length) (hk : ((3 : Int) - Y6).toNat < k), Lp prog 0 (sub (bodyOf f51) [1, 1, 1, 1, 0, 1, 0, 0, 1, 1, 0, 0, 1, 1, 1, 1, 1, 0, 0]) (Zci Y0 Y1 Y2 Y6 Yo) (Z6o Y0 Y1 Y2 (ZM Y0 Y1 Y2 k Y6 Yo)).1 (Z6o Y0 Y1 Y2 (ZM Y0 Y1 Y2 k Y6 Yo)).2 := by
 intro k
 induction k with
 | zero => intro Y6 Yo Z7G Z7H hk; exact absurd hk (Nat.not_lt_zero _)
 | succ k ih =>
  intro Y6 Yo Z7G Z7H hk
  cases YD : (decide (Y6 < 3)) with
  | true =>
   have YB := of_decide_eq_true YD
   have Y15 : (-9223372036854775808 : Int) ≤ (Y6 + 2) := (by omega)
   have Y16 : (Y6 + 2) ≤ (9223372036854775807 : Int) := (by omega)
   have Y12 : (0 : Int) ≤ (Int.tmod (Y6 + 2) 3) := (by have q := Z2y hp5.e (by assumption) (of_decide_eq_true Z1L) (by assumption) YB; omega)
   have Y10 : (Int.tmod (Y6 + 2) 3) < ((Y0.Mesh.Triangles.getD Y1.toNat default).length : Int) := (by have q := Z2y hp5.e (by assumption) (of_decide_eq_true Z1L) (by assumption) YB; omega)
   have Y17 : (0 : Int) ≤ ((Y0.Mesh.Triangles.getD Y1.toNat default).getD (Int.tmod (Y6 + 2) 3).toNat default) := (by have q := Z2y hp5.e (by assumption) (of_decide_eq_true Z1L) (by assumption) YB; omega)
   have Y1a : ((Y0.Mesh.Triangles.getD Y1.toNat default).getD (Int.tmod (Y6 + 2) 3).toNat default) < (Y0.Mesh.Places.length : Int) := (by have q := Z2y hp5.e (by assumption) (of_decide_eq_true Z1L) (by assumption) YB; omega)
   have Y19 : (-9223372036854775808 : Int) ≤ (Y6 + 1) := (by omega)
   have Y1b : (Y6 + 1) ≤ (9223372036854775807 : Int) := (by omega)
   have Y1n : (0 : Int) ≤ (Int.tmod (Y6 + 1) 3) := (by have q := Z2y hp5.e (by assumption) (of_decide_eq_true Z1L) (by assumption) YB; omega)
   have Y1y : (Int.tmod (Y6 + 1) 3) < ((Y0.Mesh.Triangles.getD Y1.toNat default).length : Int) := (by have q := Z2y hp5.e (by assumption) (of_decide_eq_true Z1L) (by assumption) YB; omega)
   have Y1o : (0 : Int) ≤ ((Y0.Mesh.Triangles.getD Y1.toNat default).getD (Int.tmod (Y6 + 1) 3).toNat default) := (by have q := Z2y hp5.e (by assumption) (of_decide_eq_true Z1L) (by assumption) YB; omega)
   have Y1p : ((Y0.Mesh.Triangles.getD Y1.toNat default).getD (Int.tmod (Y6 + 1) 3).toNat default) < (Y0.Mesh.Places.length : Int) := (by have q := Z2y hp5.e (by assumption) (of_decide_eq_true Z1L) (by assumption) YB; omega)
   have Y1i : (0 : Int) ≤ Y6 := (by assumption)
   have Y1j : Y6 < ((Y0.Mesh.Triangles.getD Y1.toNat default).length : Int) := (by have q := Z2y hp5.e (by assumption) (of_decide_eq_true Z1L) (by assumption) YB; omega)
   have Y1k : (0 : Int) ≤ ((Y0.Mesh.Triangles.getD Y1.toNat default).getD Y6.toNat default) := (by have q := Z2y hp5.e (by assumption) (of_decide_eq_true Z1L) (by assumption) YB; omega)
   have Y1l : ((Y0.Mesh.Triangles.getD Y1.toNat default).getD Y6.toNat default) < (Yo.length : Int) := (by have q := Z2y hp5.e (by assumption) (of_decide_eq_true Z1L) (by assumption) YB; omega)
   have Y1m : ((Y0.Mesh.Triangles.getD Y1.toNat default).getD Y6.toNat default).toNat < Yo.length := (by omega)
   have e : ZM Y0 Y1 Y2 (k + 1) Y6 Yo = (ZM Y0 Y1 Y2 k (Y6 + 1) (Yo.set (((Y0.Mesh.Triangles.getD Y1.toNat default).getD Y6.toNat default).toNat) (Z23 Y0 Y1 Y6 Yo))) := by simp only [ZM, YD, cond_true]
   rw [e]
   exact nextS E0Ok Z4 [] Z7F [0, 1] (⟨.ref (GBody.cells Y0) 0 :: .any :: .nils :: .ref (GBody.cells Y0) 0 :: .own 0 :: an 4 (.i .i64 Y1 :: .sl ((Y0.Mesh.Triangles.getD Y1.toNat default).map (cI .i64)) :: .ptr 1 0 0 :: .f .f32 (Z22 Y0 Y1) :: .i .i64 (Y6 + 1) :: an 6 (.ref (GBody.cells Y0) 0 :: .ref (GBody.cells Y0) 0 :: .ref (GBody.cells Y0) 0 :: .ref (GBody.cells Y0) 0 :: .ref (GBody.cells Y0) 0 :: .ref (GBody.cells Y0) 0 :: .sl (Y0.Mesh.Places.map GVector.cells) :: .i .i64 (Y0.Mesh.Places.length : Int) :: .own 0 :: .ref (GBody.cells Y0) 0 :: .ref (GBody.cells Y0) 0 :: .ref (GBody.cells Y0) 2 :: .sl (Y0.Springs.map GSpring.cells) :: an 52 (.ref (GBody.cells Y0) 0 :: .ref (GBody.cells Y0) 0 :: .ref (GBody.cells Y0) 1 :: .sl (Y0.Mesh.Triangles.map (cL (cI .i64))) :: .i .i64 (Y0.Mesh.Triangles.length : Int) :: .i .i64 Y1 :: .b (decide (Y1 < (Y0.Mesh.Triangles.length : Int))) :: .i .i64 Y1 :: .ref (GBody.cells Y0) 0 :: .ref (GBody.cells Y0) 0 :: .ref (GBody.cells Y0) 1 :: .sl (Y0.Mesh.Triangles.map (cL (cI .i64))) :: .i .i64 Y1 :: .ref [.sl ((Y0.Mesh.Triangles.getD Y1.toNat default).map (cI .i64))] 0 :: .sl ((Y0.Mesh.Triangles.getD Y1.toNat default).map (cI .i64)) :: .ref (GBody.cells Y0) 0 :: .sl ((Y0.Mesh.Triangles.getD Y1.toNat default).map (cI .i64)) :: .agg [.f .f32 ((Zc Y0.Mesh (Y0.Mesh.Triangles.getD Y1.toNat default)).X), .f .f32 ((Zc Y0.Mesh (Y0.Mesh.Triangles.getD Y1.toNat default)).Y), .f .f32 ((Zc Y0.Mesh (Y0.Mesh.Triangles.getD Y1.toNat default)).Z)] :: .ref (GBody.cells Y0) 0 :: .ref (GBody.cells Y0) 0 :: .ref (GBody.cells Y0) 3 :: .f .f32 Y0.Film :: .f .f32 (fop .mul .f32 1056964608 Y0.Film) :: .f .f32 (fneg .f32 (fop .mul .f32 1056964608 Y0.Film)) :: .agg [.f .f32 ((Zc Y0.Mesh (Y0.Mesh.Triangles.getD Y1.toNat default)).X), .f .f32 ((Zc Y0.Mesh (Y0.Mesh.Triangles.getD Y1.toNat default)).Y), .f .f32 ((Zc Y0.Mesh (Y0.Mesh.Triangles.getD Y1.toNat default)).Z)] :: .f .f32 (Z1U (Zc Y0.Mesh (Y0.Mesh.Triangles.getD Y1.toNat default))) :: .f .f32 (Z22 Y0 Y1) :: an 168 []))), [.vec 40 3 ((Yo.map GVector.cells).set (((Y0.Mesh.Triangles.getD Y1.toNat default).getD Y6.toNat default).toNat) [.f .f32 ((Z23 Y0 Y1 Y6 Yo).X), .f .f32 ((Z23 Y0 Y1 Y6 Yo).Y), .f .f32 ((Z23 Y0 Y1 Y6 Yo).Z)]) false, .box 40 [.f .f32 ((Zc Y0.Mesh (Y0.Mesh.Triangles.getD Y1.toNat default)).X), .f .f32 ((Zc Y0.Mesh (Y0.Mesh.Triangles.getD Y1.toNat default)).Y), .f .f32 ((Zc Y0.Mesh (Y0.Mesh.Triangles.getD Y1.toNat default)).Z)]]⟩) (sB YD <| sK [26, 26] <| sI (Y6 + 2) Y15 Y16 <| sC (show (3 : Int) ≠ 0 from (by decide)) <| sQ (Int.tmod (Y6 + 2) 3) <| sG (cI .i64) (Y0.Mesh.Triangles.getD Y1.toNat default) (Int.tmod (Y6 + 2) 3) Y12 Y10 <| sG GVector.cells Y0.Mesh.Places ((Y0.Mesh.Triangles.getD Y1.toNat default).getD (Int.tmod (Y6 + 2) 3).toNat default) Y17 Y1a <| sI (Y6 + 1) Y19 Y1b <| sC (show (3 : Int) ≠ 0 from (by decide)) <| sQ (Int.tmod (Y6 + 1) 3) <| sG (cI .i64) (Y0.Mesh.Triangles.getD Y1.toNat default) (Int.tmod (Y6 + 1) 3) Y1n Y1y <| sG GVector.cells Y0.Mesh.Places ((Y0.Mesh.Triangles.getD Y1.toNat default).getD (Int.tmod (Y6 + 1) 3).toNat default) Y1o Y1p <| sF (Z59 (Y0.Mesh.Places.getD ((Y0.Mesh.Triangles.getD Y1.toNat default).getD (Int.tmod (Y6 + 2) 3).toNat default).toNat default) (Y0.Mesh.Places.getD ((Y0.Mesh.Triangles.getD Y1.toNat default).getD (Int.tmod (Y6 + 1) 3).toNat default).toNat default)) <| sK [18, 18] <| sG (cI .i64) (Y0.Mesh.Triangles.getD Y1.toNat default) Y6 Y1i Y1j <| sG (cI .i64) (Y0.Mesh.Triangles.getD Y1.toNat default) Y6 Y1i Y1j <| sX GVector.cells Yo ((Y0.Mesh.Triangles.getD Y1.toNat default).getD Y6.toNat default) Y1k Y1l <| sV GVector.cells Yo (((Y0.Mesh.Triangles.getD Y1.toNat default).getD Y6.toNat default).toNat) Y1m <| sF (ZaO (Zc Y0.Mesh (Y0.Mesh.Triangles.getD Y1.toNat default)) (Z6n Y0 Y1 Y6)) <| sF (Z3H (Z4G (Zc Y0.Mesh (Y0.Mesh.Triangles.getD Y1.toNat default)) (Z6n Y0 Y1 Y6)) (Z22 Y0 Y1)) <| sF (Z3A (Yo.getD (((Y0.Mesh.Triangles.getD Y1.toNat default).getD Y6.toNat default).toNat) default) (Z5f Y0 Y1 Y6)) <| sX GVector.cells Yo ((Y0.Mesh.Triangles.getD Y1.toNat default).getD Y6.toNat default) Y1k Y1l <| sC (maplt (c := GVector.cells) (l := Yo) Y1m) <| sI (Y6 + 1) Y19 Y1b <| sN) (by kernel_rfl) (show _ = ⟨.ref (GBody.cells Y0) 0 :: .any :: .nils :: .ref (GBody.cells Y0) 0 :: .own 0 :: an 4 (.i .i64 Y1 :: .sl ((Y0.Mesh.Triangles.getD Y1.toNat default).map (cI .i64)) :: .ptr 1 0 0 :: .f .f32 (Z22 Y0 Y1) :: .i .i64 (Y6 + 1) :: an 6 (.ref (GBody.cells Y0) 0 :: .ref (GBody.cells Y0) 0 :: .ref (GBody.cells Y0) 0 :: .ref (GBody.cells Y0) 0 :: .ref (GBody.cells Y0) 0 :: .ref (GBody.cells Y0) 0 :: .sl (Y0.Mesh.Places.map GVector.cells) :: .i .i64 (Y0.Mesh.Places.length : Int) :: .own 0 :: .ref (GBody.cells Y0) 0 :: .ref (GBody.cells Y0) 0 :: .ref (GBody.cells Y0) 2 :: .sl (Y0.Springs.map GSpring.cells) :: an 52 (.ref (GBody.cells Y0) 0 :: .ref (GBody.cells Y0) 0 :: .ref (GBody.cells Y0) 1 :: .sl (Y0.Mesh.Triangles.map (cL (cI .i64))) :: .i .i64 (Y0.Mesh.Triangles.length : Int) :: .i .i64 Y1 :: .b (decide (Y1 < (Y0.Mesh.Triangles.length : Int))) :: .i .i64 Y1 :: .ref (GBody.cells Y0) 0 :: .ref (GBody.cells Y0) 0 :: .ref (GBody.cells Y0) 1 :: .sl (Y0.Mesh.Triangles.map (cL (cI .i64))) :: .i .i64 Y1 :: .ref [.sl ((Y0.Mesh.Triangles.getD Y1.toNat default).map (cI .i64))] 0 :: .sl ((Y0.Mesh.Triangles.getD Y1.toNat default).map (cI .i64)) :: .ref (GBody.cells Y0) 0 :: .sl ((Y0.Mesh.Triangles.getD Y1.toNat default).map (cI .i64)) :: .agg [.f .f32 ((Zc Y0.Mesh (Y0.Mesh.Triangles.getD Y1.toNat default)).X), .f .f32 ((Zc Y0.Mesh (Y0.Mesh.Triangles.getD Y1.toNat default)).Y), .f .f32 ((Zc Y0.Mesh (Y0.Mesh.Triangles.getD Y1.toNat default)).Z)] :: .ref (GBody.cells Y0) 0 :: .ref (GBody.cells Y0) 0 :: .ref (GBody.cells Y0) 3 :: .f .f32 Y0.Film :: .f .f32 (fop .mul .f32 1056964608 Y0.Film) :: .f .f32 (fneg .f32 (fop .mul .f32 1056964608 Y0.Film)) :: .agg [.f .f32 ((Zc Y0.Mesh (Y0.Mesh.Triangles.getD Y1.toNat default)).X), .f .f32 ((Zc Y0.Mesh (Y0.Mesh.Triangles.getD Y1.toNat default)).Y), .f .f32 ((Zc Y0.Mesh (Y0.Mesh.Triangles.getD Y1.toNat default)).Z)] :: .f .f32 (Z1U (Zc Y0.Mesh (Y0.Mesh.Triangles.getD Y1.toNat default))) :: .f .f32 (Z22 Y0 Y1) :: an 168 []))), [.vec 40 3 ((Yo.set (((Y0.Mesh.Triangles.getD Y1.toNat default).getD Y6.toNat default).toNat) (Z23 Y0 Y1 Y6 Yo)).map GVector.cells) false, .box 40 [.f .f32 ((Zc Y0.Mesh (Y0.Mesh.Triangles.getD Y1.toNat default)).X), .f .f32 ((Zc Y0.Mesh (Y0.Mesh.Triangles.getD Y1.toNat default)).Y), .f .f32 ((Zc Y0.Mesh (Y0.Mesh.Triangles.getD Y1.toNat default)).Z)]]⟩ from (by simp [List.map_set, GVector.cells])) (ih (Y6 + 1) (Yo.set (((Y0.Mesh.Triangles.getD Y1.toNat default).getD Y6.toNat default).toNat) (Z23 Y0 Y1 Y6 Yo)) (show 0 ≤ (Y6 + 1) from (by omega)) (show (Yo.set (((Y0.Mesh.Triangles.getD Y1.toNat default).getD Y6.toNat default).toNat) (Z23 Y0 Y1 Y6 Yo)).length = Y2.length from (by have q := Z2y hp5.e (by assumption) (of_decide_eq_true Z1L) (by assumption) YB; (simp only [List.length_set]; omega))) (by omega))
  | false =>
   have YB := of_decide_eq_false YD
   have e : ZM Y0 Y1 Y2 (k + 1) Y6 Yo = Yo := by simp only [ZM, YD, cond_false]
   rw [e]
   exact outR (e := (.exit 4)) E0Ok Z4 [] Zbl [0, 1] (sB YD <| sN) (by kernel_rfl) (by intro h; cases h)
end Go.Ab
