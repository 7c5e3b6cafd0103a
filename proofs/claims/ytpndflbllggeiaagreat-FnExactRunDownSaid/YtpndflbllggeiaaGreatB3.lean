/- The functions of this seat as plain Lean, and that the program's are these. Printed by a program of the prover's own. -/
import Derived.Test.YtpndflbllggeiaaGreatB2
set_option linter.unusedVariables false
set_option linter.unusedSimpArgs false
set_option maxRecDepth 100000
namespace Go.Ab
open Go.RowKit Go.Proofs.Tryz
theorem Zfe (Y7 : Gm) (hp0 : Y7.Pq.length ≤ 1073741824) (hp1 : Y7.Tr.length ≤ 1073741824) (hp2 : ∀ t ∈ Y7.Tr, t.length ≤ 1073741824) (hp3 : OkE Y7.Pq.length Y7.Tr)  : Fn prog 137 [.ref (Gm.c Y7) 0] (.own 0) [.nest 49 ((Z8 Y7).map fun l => l.map (cI .i64)) false] := by
 have y0 : (0 : Int) ≤ (IntKind.wrap .i64 ((Y7.Pq.length : Int) * (Y7.Pq.length : Int))) := (by (have q2 := ixN hp3.1; omega))
 have y1 : ((IntKind.wrap .i64 ((Y7.Pq.length : Int) * (Y7.Pq.length : Int))) : Int) ≤ 2147483648 := (by (have q2 := ixN hp3.1; omega))
 refine fnS E0Ok Z5 (c := bodyOf f137) [] (.own 0) [.nest 49 ((Z54 Y7).map fun l => l.map (cI .i64)) false] func137 (sZ Gv.c Y7.Pq <| sW .i64 ((Y7.Pq.length : Int) * (Y7.Pq.length : Int)) <| sC (show (IntKind.wrap .i64 ((Y7.Pq.length : Int) * (Y7.Pq.length : Int))) = (IntKind.wrap .i64 ((Y7.Pq.length : Int) * (Y7.Pq.length : Int))) from rfl) <| sC y0 <| sC y1 <| sL (mR false [0, 1, 1, 4, 7, 9, 69]) 1 (lp_cast (st2 := ⟨.ref (Gm.c Y7) 0 :: .any :: .nils :: .i .i64 (Y7.Pq.length : Int) :: .own 0 :: .i .i64 0 :: an 7 (.ref (Gm.c Y7) 0 :: .ref (Gm.c Y7) 0 :: .ref (Gm.c Y7) 0 :: .sl (Y7.Pq.map Gv.c) :: .i .i64 (Y7.Pq.length : Int) :: .i .i64 (Y7.Pq.length : Int) :: .i .i64 (Y7.Pq.length : Int) :: .i .i64 (IntKind.wrap .i64 ((Y7.Pq.length : Int) * (Y7.Pq.length : Int))) :: .own 0 :: an 69 []), [.vec 4 1 (List.replicate (Int.toNat (IntKind.wrap .i64 ((Y7.Pq.length : Int) * (Y7.Pq.length : Int)))) [.b false]) false]⟩) (lp_val (Z72 Y7) (x := (ZM Y7)) (Zdv Y7 hp0 hp1 hp2 hp3 (((Y7.Tr.length : Int) - 0).toNat + 1) 0 (List.replicate (IntKind.wrap .i64 ((Y7.Pq.length : Int) * (Y7.Pq.length : Int))).toNat false) (show 0 ≤ 0 from (by omega)) (show (List.replicate (IntKind.wrap .i64 ((Y7.Pq.length : Int) * (Y7.Pq.length : Int))).toNat false).length = (IntKind.wrap .i64 ((Y7.Pq.length : Int) * (Y7.Pq.length : Int))).toNat from (by simp)) (Nat.lt_succ_self _)) rfl) (by simp [Za4, cB])) <| sL (mR false [0, 1, 1, 3, 5, 2, 1, 9, 69]) 2 (lp_cast (st2 := ⟨.ref (Gm.c Y7) 0 :: .any :: .nils :: .i .i64 (Y7.Pq.length : Int) :: .own 0 :: an 5 (.own 1 :: .i .i64 0 :: .any :: .ref (Gm.c Y7) 0 :: .ref (Gm.c Y7) 0 :: .ref (Gm.c Y7) 0 :: .sl (Y7.Pq.map Gv.c) :: .i .i64 (Y7.Pq.length : Int) :: .i .i64 (Y7.Pq.length : Int) :: .i .i64 (Y7.Pq.length : Int) :: .i .i64 (IntKind.wrap .i64 ((Y7.Pq.length : Int) * (Y7.Pq.length : Int))) :: .own 0 :: an 69 []), [.vec 4 1 ((ZM Y7).map cB) false, .nest 49 [] false]⟩) (lp_val (Z74 Y7) (x := (Z54 Y7)) (Zdx Y7 hp0 hp1 hp2 hp3 (((Y7.Pq.length : Int) - 0).toNat + 1) 0 ([] : List (List Int)) (show 0 ≤ 0 from (by omega)) (show (([] : List (List Int)).length : Int) ≤ 64 * 0 from (by simp)) (Nat.lt_succ_self _)) rfl) (by simp [Za6, cL, cI])) <| sK [1] sN) rfl (by kernel_rfl) (by kernel_rfl) rfl ?_ ?_
 · rfl
 · simp [Z8]
def Z2u (YD : (List Int)) (n_1 : Int) : Nat → Int → (Unit) ⊕ (Unit)
  | 0, _ => .inl default
  | k + 1, Yb => (cond (decide (Yb < (YD.length : Int)))
    (cond ((YD.getD Yb.toNat default) == n_1)
      (.inl ())
      (Z2u YD n_1 k (Yb + 1)))
    (.inr ()))
def Z66 (YD : (List Int)) (n_1 : Int) : (Unit) ⊕ (Unit) → Ex × St
  | .inl r => (.ret, ⟨an 4 (.b true :: an 13 []), []⟩)
  | .inr r => ((.exit 0), ⟨an 18 [], []⟩)
def ZeN (YD : (List Int)) (n_1 : Int) (Yb : Int) : St := ⟨.sl (YD.map (cI .i64)) :: .i .i64 n_1 :: .any :: .any :: .any :: .i .i64 Yb :: an 12 [], []⟩
theorem Zb4 (YD : (List Int)) (n_1 : Int) (hp0 : YD.length ≤ 1073741824) : ∀ (k : Nat) (Yb : Int) (Za7 : 0 ≤ Yb) (hk : ((YD.length : Int) - Yb).toNat < k), Lp prog 0 (sub (bodyOf f127) [1, 0, 1, 0, 0]) (ZeN YD n_1 Yb) (Z66 YD n_1 (Z2u YD n_1 k Yb)).1 (Z66 YD n_1 (Z2u YD n_1 k Yb)).2 := by
 intro k
 induction k with
 | zero => intro Yb Za7 hk; exact absurd hk (Nat.not_lt_zero _)
 | succ k ih =>
  intro Yb Za7 hk
  have p {a C} (s : Scr a C) := sZ (cI .i64) YD <| s
  cases Yj : (decide (Yb < (YD.length : Int))) with
  | true =>
   have YM := odt Yj
   have YS : (0 : Int) ≤ Yb := by clear p; exact (by assumption)
   have YT : Yb < (YD.length : Int) := by clear p; exact (by assumption)
   have q {a C} (s : Scr a C) := p (sB Yj <| sG (cI .i64) YD Yb YS YT <| s)
   clear p
   cases YJ : ((YD.getD Yb.toNat default) == n_1) with
   | true =>
    have Y1d := eq_of_beq YJ
    have e : Z2u YD n_1 (k + 1) Yb = (.inl ()) := by simp only [Z2u, Yj, YJ, cond_true]
    rw [e]
    exact outR (e := .ret) E0Ok Z5 [] (mR false [4, 1, 13]) [] (q (sB YJ <| sN)) (by kernel_rfl) (by intro h; cases h)
   | false =>
    have Y1d := ne_of_beq_false YJ
    have YY : (-9223372036854775808 : Int) ≤ (Yb + 1) := by clear q; exact (by omega)
    have YZ : (Yb + 1) ≤ (9223372036854775807 : Int) := by clear q; exact (by omega)
    have e : Z2u YD n_1 (k + 1) Yb = (Z2u YD n_1 k (Yb + 1)) := by simp only [Z2u, Yj, YJ, cond_true, cond_false]
    rw [e]
    exact nextR E0Ok Z5 [] (mR false [0, 2, 3, 1, 12]) [] (ih (Yb + 1) (show 0 ≤ (Yb + 1) from (by omega)) (by omega)) (q (sB YJ <| sI (Yb + 1) YY YZ <| sN)) (by kernel_rfl)
  | false =>
   have YM := odf Yj
   have e : Z2u YD n_1 (k + 1) Yb = (.inr ()) := by simp only [Z2u, Yj, cond_false]
   rw [e]
   exact outR (e := (.exit 0)) E0Ok Z5 [] (mR false [18]) [] (p (sB Yj <| sN)) (by kernel_rfl) (by intro h; cases h)
def Z4G (YD : (List Int)) (n_1 : Int) : (Unit) ⊕ (Unit) := (Z2u YD n_1 (((YD.length : Int) - 0).toNat + 1) 0)
def Z1N (YD : (List Int)) (n_1 : Int) : Bool := (match (Z4G YD n_1) with
  | .inl r1 => true
  | .inr r1 => false)
theorem ZcU (YD : (List Int)) (n_1 : Int) (hp0 : YD.length ≤ 1073741824)  : Fn prog 127 [.sl (YD.map (cI .i64)), .i .i64 n_1] (.b (Z1N YD n_1)) [] := by
 cases h0 : (Z4G YD n_1) with
 | inl r1 =>
  refine fnS E0Ok Z5 (c := bodyOf f127) [] (.b true) [] func127 (sL (mR false [0, 2, 3, 1, 12]) 0 (lp_val (Z66 YD n_1) (x := (Z4G YD n_1)) (Zb4 YD n_1 hp0 (((YD.length : Int) - 0).toNat + 1) 0 (show 0 ≤ 0 from (by omega)) (Nat.lt_succ_self _)) h0) <| sK [] sN) rfl (by kernel_rfl) (by kernel_rfl) rfl ?_ ?_
  · simp only [Z1N, h0]
  · rfl
 | inr r1 =>
  refine fnS E0Ok Z5 (c := bodyOf f127) [] (.b false) [] func127 (sL (mR false [0, 2, 3, 1, 12]) 0 (lp_val (Z66 YD n_1) (x := (Z4G YD n_1)) (Zb4 YD n_1 hp0 (((YD.length : Int) - 0).toNat + 1) 0 (show 0 ≤ 0 from (by omega)) (Nat.lt_succ_self _)) h0) <| sK [] sN) rfl (by kernel_rfl) (by kernel_rfl) rfl ?_ ?_
  · simp only [Z1N, h0]
  · rfl
def Z1i (YV : (List Int)) (i_1 : Int) (j_2 : Int) : Nat → Int → (Int) ⊕ (Unit)
  | 0, _ => .inl default
  | k + 1, Y1 => (cond (decide (Y1 < (YV.length : Int)))
    (cond ((YV.getD Y1.toNat default) != i_1)
      (cond ((YV.getD Y1.toNat default) != j_2)
        (.inl (YV.getD Y1.toNat default))
        (Z1i YV i_1 j_2 k (Y1 + 1)))
      (Z1i YV i_1 j_2 k (Y1 + 1)))
    (.inr ()))
def Z5z (YV : (List Int)) (i_1 : Int) (j_2 : Int) : (Int) ⊕ (Unit) → Ex × St
  | .inl r => (.ret, ⟨an 6 (.i .i64 r :: an 35 []), []⟩)
  | .inr r => ((.exit 0), ⟨.sl (YV.map (cI .i64)) :: .i .i64 i_1 :: .i .i64 j_2 :: an 5 (.sl (YV.map (cI .i64)) :: .i .i64 i_1 :: .b (Z1N YV i_1) :: .b (!(Z1N YV i_1)) :: .b (!(Z1N YV i_1)) :: .sl (YV.map (cI .i64)) :: .i .i64 j_2 :: .b (Z1N YV j_2) :: .b (!(Z1N YV j_2)) :: .b (!(Z1N YV j_2)) :: .sl (YV.map (cI .i64)) :: an 23 []), []⟩)
def Zdy (YV : (List Int)) (i_1 : Int) (j_2 : Int) (Y1 : Int) : St := ⟨.sl (YV.map (cI .i64)) :: .i .i64 i_1 :: .i .i64 j_2 :: an 5 (.sl (YV.map (cI .i64)) :: .i .i64 i_1 :: .b (Z1N YV i_1) :: .b (!(Z1N YV i_1)) :: .b (!(Z1N YV i_1)) :: .sl (YV.map (cI .i64)) :: .i .i64 j_2 :: .b (Z1N YV j_2) :: .b (!(Z1N YV j_2)) :: .b (!(Z1N YV j_2)) :: .sl (YV.map (cI .i64)) :: .i .i64 (YV.length : Int) :: .i .i64 Y1 :: an 21 []), []⟩
theorem Za8 (YV : (List Int)) (i_1 : Int) (j_2 : Int) (hp0 : YV.length ≤ 1073741824) : ∀ (k : Nat) (Y1 : Int) (Z8K : 0 ≤ Y1) (hk : ((YV.length : Int) - Y1).toNat < k), Lp prog 0 (sub (bodyOf f138) [1, 1, 0, 1, 0, 0]) (Zdy YV i_1 j_2 Y1) (Z5z YV i_1 j_2 (Z1i YV i_1 j_2 k Y1)).1 (Z5z YV i_1 j_2 (Z1i YV i_1 j_2 k Y1)).2 := by
 intro k
 induction k with
 | zero => intro Y1 Z8K hk; exact absurd hk (Nat.not_lt_zero _)
 | succ k ih =>
  intro Y1 Z8K hk
  cases Yj : (decide (Y1 < (YV.length : Int))) with
  | true =>
   have YM := odt Yj
   have YS : (0 : Int) ≤ Y1 := (by assumption)
   have YT : Y1 < (YV.length : Int) := (by assumption)
   have p {a C} (s : Scr a C) := sB Yj <| sG (cI .i64) YV Y1 YS YT <| s
   cases YJ : ((YV.getD Y1.toNat default) != i_1) with
   | true =>
    have Y1d := bne_iff_ne.1 YJ
    have q {a C} (s : Scr a C) := p (sB YJ <| sB YJ <| sB YJ <| sG (cI .i64) YV Y1 YS YT <| sB YJ <| sB YJ <| sB YJ <| sB YJ <| s)
    clear p
    cases h_2 : ((YV.getD Y1.toNat default) != j_2) with
    | true =>
     have Y1r := bne_iff_ne.1 h_2
     have e : Z1i YV i_1 j_2 (k + 1) Y1 = (.inl (YV.getD Y1.toNat default)) := by simp only [Z1i, Yj, YJ, h_2, cond_true]
     rw [e]
     exact outR (e := .ret) E0Ok Z5 [] (mR false [6, 1, 35]) [] (q (sB h_2 <| sG (cI .i64) YV Y1 YS YT <| sN)) (by kernel_rfl) (by intro h; cases h)
    | false =>
     have Y1r := bne_eq_false_iff_eq.1 h_2
     have YY : (-9223372036854775808 : Int) ≤ (Y1 + 1) := by clear q; exact (by omega)
     have YZ : (Y1 + 1) ≤ (9223372036854775807 : Int) := by clear q; exact (by omega)
     have e : Z1i YV i_1 j_2 (k + 1) Y1 = (Z1i YV i_1 j_2 k (Y1 + 1)) := by simp only [Z1i, Yj, YJ, h_2, cond_true, cond_false]
     rw [e]
     exact nextR E0Ok Z5 [] (mR false [0, 3, 5, 13, 21]) [] (ih (Y1 + 1) (show 0 ≤ (Y1 + 1) from (by omega)) (by omega)) (q (sB h_2 <| sI (Y1 + 1) YY YZ <| sN)) (by kernel_rfl)
   | false =>
    have Y1d := bne_eq_false_iff_eq.1 YJ
    have YY : (-9223372036854775808 : Int) ≤ (Y1 + 1) := by clear p; exact (by omega)
    have YZ : (Y1 + 1) ≤ (9223372036854775807 : Int) := by clear p; exact (by omega)
    have e : Z1i YV i_1 j_2 (k + 1) Y1 = (Z1i YV i_1 j_2 k (Y1 + 1)) := by simp only [Z1i, Yj, YJ, cond_true, cond_false]
    rw [e]
    exact nextR E0Ok Z5 [] (mR false [0, 3, 5, 13, 21]) [] (ih (Y1 + 1) (show 0 ≤ (Y1 + 1) from (by omega)) (by omega)) (p (sB YJ <| sB YJ <| sB YJ <| sB YJ <| sB YJ <| sB YJ <| sB YJ <| sB (show false = false from rfl) <| sI (Y1 + 1) YY YZ <| sN)) (by kernel_rfl)
  | false =>
   have YM := odf Yj
   have e : Z1i YV i_1 j_2 (k + 1) Y1 = (.inr ()) := by simp only [Z1i, Yj, cond_false]
   rw [e]
   exact outR (e := (.exit 0)) E0Ok Z5 [] (mR false [0, 3, 5, 11, 23]) [] (sB Yj <| sN) (by kernel_rfl) (by intro h; cases h)
def Z4v (YV : (List Int)) (i_1 : Int) (j_2 : Int) : (Int) ⊕ (Unit) := (Z1i YV i_1 j_2 (((YV.length : Int) - 0).toNat + 1) 0)
def Z3s (YV : (List Int)) (i_1 : Int) (j_2 : Int) : Int := (cond (Z1N YV i_1)
  (cond (Z1N YV j_2)
    (match (Z4v YV i_1 j_2) with
      | .inl r3 => r3
      | .inr r3 => (-1))
    (-1))
  (-1))
theorem ZgP {x y z a b : Int} (n1 : x ≠ y) (n2 : y ≠ z) (n3 : x ≠ z) (hab : a ≠ b) : Z3s [x, y, z] a b = if tHas [x, y, z] a b = true then thd [x, y, z] a b else -1 := by
  have hs : ∀ c : Int, Z1N [x, y, z] c = (x == c || (y == c || z == c)) := by
    intro c
    unfold Z1N Z4G
    show (match Z2u [x, y, z] c 4 0 with | .inl r1 => true | .inr r1 => false) = _
    simp only [Z2u, List.length_cons, List.length_nil]
    cases h1 : (x == c) <;> cases h2 : (y == c) <;> cases h3 : (z == c) <;> simp [h1, h2, h3]
  unfold Z3s
  rw [hs, hs]
  by_cases hh : tHas [x, y, z] a b = true
  · rw [if_pos hh]
    have hq := hh
    unfold tHas at hq
    simp only [List.getD_cons_zero, List.getD_cons_succ, Bool.and_eq_true] at hq
    rw [hq.1, hq.2, cond_true, cond_true]
    unfold Z4v
    show (match Z1i [x, y, z] a b 4 0 with | .inl r3 => r3 | .inr r3 => (-1)) = _
    simp only [Z1i, List.length_cons, List.length_nil]
    rcases tHas_eq n1 n2 n3 hab hh with ⟨h0, h1, h2, h3, h4⟩ | ⟨h0, h1, h2, h3, h4⟩ | ⟨h0, h1, h2, h3, h4⟩
    · rw [h0]; simp [bne_iff_ne.2 h1, bne_iff_ne.2 h2]
    · rw [h0]
      rcases h3 with rfl | rfl
      · simp [bne_iff_ne.2 h1, bne_iff_ne.2 h2]
      · simp [bne_iff_ne.2 h1, bne_iff_ne.2 h2]
    · rw [h0]
      rcases h3 with rfl | rfl <;> rcases h4 with rfl | rfl <;> first | exact absurd rfl n1 | simp [bne_iff_ne.2 h1, bne_iff_ne.2 h2]
  · rw [if_neg hh]
    unfold tHas at hh
    simp only [List.getD_cons_zero, List.getD_cons_succ, Bool.and_eq_true, not_and, Bool.not_eq_true] at hh
    cases h1 : (x == a || (y == a || z == a)) with
    | false => rfl
    | true => rw [hh h1]; rfl
theorem Zff (YV : (List Int)) (i_1 : Int) (j_2 : Int) (hp0 : YV.length ≤ 1073741824)  : Fn prog 138 [.sl (YV.map (cI .i64)), .i .i64 i_1, .i .i64 j_2] (.i .i64 (Z3s YV i_1 j_2)) [] := by
 have p {a C} (s : Scr a C) := sF (ZcU YV i_1 hp0) <| s
 cases h0 : (Z1N YV i_1) with
 | true =>
  have q {a C} (s : Scr a C) := p (sB' h0 <| sB' h0 <| sB' h0 <| sF (ZcU YV j_2 hp0) <| sB' h0 <| sB' h0 <| s)
  clear p
  cases h1 : (Z1N YV j_2) with
  | true =>
   have p {a C} (s : Scr a C) := q (sB' h1 <| sZ (cI .i64) YV <| s)
   clear q
   cases h2 : (Z4v YV i_1 j_2) with
   | inl r3 =>
    refine fnS E0Ok Z5 (c := bodyOf f138) [] (.i .i64 r3) [] func138 (p (sL (mR false [0, 3, 5, 13, 21]) 0 (lp_val (Z5z YV i_1 j_2) (x := (Z4v YV i_1 j_2)) (Za8 YV i_1 j_2 hp0 (((YV.length : Int) - 0).toNat + 1) 0 (show 0 ≤ 0 from (by omega)) (Nat.lt_succ_self _)) h2) <| sK [] sN)) rfl (by kernel_rfl) (by kernel_rfl) rfl ?_ ?_
    · simp only [Z3s, h0, h1, h2, cond_true]
    · rfl
   | inr r3 =>
    refine fnS E0Ok Z5 (c := bodyOf f138) [] (.i .i64 (-1)) [] func138 (p (sL (mR false [0, 3, 5, 13, 21]) 0 (lp_val (Z5z YV i_1 j_2) (x := (Z4v YV i_1 j_2)) (Za8 YV i_1 j_2 hp0 (((YV.length : Int) - 0).toNat + 1) 0 (show 0 ≤ 0 from (by omega)) (Nat.lt_succ_self _)) h2) <| sK [] sN)) rfl (by kernel_rfl) (by kernel_rfl) rfl ?_ ?_
    · simp only [Z3s, h0, h1, h2, cond_true]
    · rfl
  | false =>
   refine fnS E0Ok Z5 (c := bodyOf f138) [] (.i .i64 (-1)) [] func138 (q (sB' h1 <| sK [] sN)) rfl (by kernel_rfl) (by kernel_rfl) rfl ?_ ?_
   · simp only [Z3s, h0, h1, cond_true, cond_false]
   · rfl
 | false =>
  refine fnS E0Ok Z5 (c := bodyOf f138) [] (.i .i64 (-1)) [] func138 (p (sB' h0 <| sB' h0 <| sB' h0 <| sB' h0 <| sB' h0 <| sB (show true = true from rfl) <| sK [] sN)) rfl (by kernel_rfl) (by kernel_rfl) rfl ?_ ?_
  · simp only [Z3s, h0, cond_false]
  · rfl
def Z1W (Y7 : Gm) (Y1 : Int) (Y6 : Int) : Int := (Z3s (Y7.Tr.getD Y6.toNat default) (((Z8 Y7).getD Y1.toNat default).getD 0 default) (((Z8 Y7).getD Y1.toNat default).getD 1 default))
def Z1A (Y7 : Gm) (Y1 : Int) (Y3 : (List (List Int))) : Nat → Int → (List Int) → (List Int)
  | 0, _, _ => default
  | k + 1, Y6, Ya => (cond (decide (Y6 < (Y7.Tr.length : Int)))
    (cond (decide ((Z1W Y7 Y1 Y6) ≥ 0))
      (Z1A Y7 Y1 Y3 k (Y6 + 1) (Ya ++ [(Z1W Y7 Y1 Y6)]))
      (Z1A Y7 Y1 Y3 k (Y6 + 1) Ya))
    Ya)
def Z6y (Y7 : Gm) (Y1 : Int) (Y3 : (List (List Int))) (r : (List Int)) : Ex × St := ((.exit 2), ⟨.ref (Gm.c Y7) 0 :: .any :: .nils :: .own 0 :: .own 1 :: .i .i64 Y1 :: .i .i64 (((Z8 Y7).getD Y1.toNat default).getD 0 default) :: .i .i64 (((Z8 Y7).getD Y1.toNat default).getD 1 default) :: .own 2 :: .any :: .any :: .any :: .ref (Gm.c Y7) 0 :: .own 1 :: .own 1 :: .i .i64 ((Z8 Y7).length : Int) :: .i .i64 Y1 :: .b (decide (Y1 < ((Z8 Y7).length : Int))) :: .i .i64 Y1 :: .own 1 :: .i .i64 Y1 :: .ptr 1 Y1.toNat 0 :: .inn 1 Y1.toNat :: .ipt 1 Y1.toNat 0 :: .i .i64 (((Z8 Y7).getD Y1.toNat default).getD 0 default) :: .own 1 :: .i .i64 Y1 :: .ptr 1 Y1.toNat 0 :: .inn 1 Y1.toNat :: .ipt 1 Y1.toNat 1 :: .i .i64 (((Z8 Y7).getD Y1.toNat default).getD 1 default) :: .i .i64 (((Z8 Y7).getD Y1.toNat default).getD 0 default) :: .i .i64 (((Z8 Y7).getD Y1.toNat default).getD 1 default) :: .any :: .ref (Gm.c Y7) 0 :: .ref (Gm.c Y7) 0 :: .ref (Gm.c Y7) 1 :: .sl (Y7.Tr.map (cL (cI .i64))) :: .i .i64 (Y7.Tr.length : Int) :: an 29 [], [.nest 49 (Y3.map fun l => l.map (cI .i64)) false, .nest 49 ((Z8 Y7).map fun l => l.map (cI .i64)) false, .vec 2 1 (r.map (cI .i64)) false]⟩)
def Z6z (Y7 : Gm) (Y1 : Int) (Y3 : (List (List Int))) (Y6 : Int) (Ya : (List Int)) : St := ⟨.ref (Gm.c Y7) 0 :: .any :: .nils :: .own 0 :: .own 1 :: .i .i64 Y1 :: .i .i64 (((Z8 Y7).getD Y1.toNat default).getD 0 default) :: .i .i64 (((Z8 Y7).getD Y1.toNat default).getD 1 default) :: .own 2 :: .any :: .any :: .any :: .ref (Gm.c Y7) 0 :: .own 1 :: .own 1 :: .i .i64 ((Z8 Y7).length : Int) :: .i .i64 Y1 :: .b (decide (Y1 < ((Z8 Y7).length : Int))) :: .i .i64 Y1 :: .own 1 :: .i .i64 Y1 :: .ptr 1 Y1.toNat 0 :: .inn 1 Y1.toNat :: .ipt 1 Y1.toNat 0 :: .i .i64 (((Z8 Y7).getD Y1.toNat default).getD 0 default) :: .own 1 :: .i .i64 Y1 :: .ptr 1 Y1.toNat 0 :: .inn 1 Y1.toNat :: .ipt 1 Y1.toNat 1 :: .i .i64 (((Z8 Y7).getD Y1.toNat default).getD 1 default) :: .i .i64 (((Z8 Y7).getD Y1.toNat default).getD 0 default) :: .i .i64 (((Z8 Y7).getD Y1.toNat default).getD 1 default) :: .any :: .ref (Gm.c Y7) 0 :: .ref (Gm.c Y7) 0 :: .ref (Gm.c Y7) 1 :: .sl (Y7.Tr.map (cL (cI .i64))) :: .i .i64 (Y7.Tr.length : Int) :: .i .i64 Y6 :: an 28 [], [.nest 49 (Y3.map fun l => l.map (cI .i64)) false, .nest 49 ((Z8 Y7).map fun l => l.map (cI .i64)) false, .vec 2 1 (Ya.map (cI .i64)) false]⟩
def Z5K : List Bool := (mR false [0, 1, 1, 7, 3, 21, 1, 6, 28])
def Zc2 : List Bool := (mR false [0, 1, 1, 7, 3, 21, 1, 5, 29])
set_option maxHeartbeats 1000000 in
theorem Zd2 (Y7 : Gm) (Y1 : Int) (Y3 : (List (List Int))) (hp0 : Y7.Pq.length ≤ 1073741824) (hp1 : Y7.Tr.length ≤ 1073741824) (hp2 : ∀ t ∈ Y7.Tr, t.length ≤ 1073741824) (hp3 : OkE Y7.Pq.length Y7.Tr) (Z22 : 0 ≤ Y1) (Z4O : (Y3.length : Int) ≤ Y1) (Zh5 : (decide (Y1 < ((Z8 Y7).length : Int))) = true) : ∀ (k : Nat) (Y6 : Int) (Ya : (List Int)) (Z8c : 0 ≤ Y6) (Z8d : (Ya.length : Int) ≤ 2 + Y6) (hk : ((Y7.Tr.length : Int) - Y6).toNat < k), Lp prog 0 (sub (bodyOf f101) [1, 1, 1, 0, 1, 0, 0, 1, 1, 0, 0, 1, 1, 1, 1, 0, 1, 0, 0]) (Z6z Y7 Y1 Y3 Y6 Ya) (Z6y Y7 Y1 Y3 (Z1A Y7 Y1 Y3 k Y6 Ya)).1 (Z6y Y7 Y1 Y3 (Z1A Y7 Y1 Y3 k Y6 Ya)).2 := by
 intro k
 induction k with
 | zero => intro Y6 Ya Z8c Z8d hk; exact absurd hk (Nat.not_lt_zero _)
 | succ k ih =>
  intro Y6 Ya Z8c Z8d hk
  cases YW : (decide (Y6 < (Y7.Tr.length : Int))) with
  | true =>
   have YU := odt YW
   have Y1g : (0 : Int) ≤ Y6 := (by assumption)
   have Y1h : Y6 < (Y7.Tr.length : Int) := (by assumption)
   have Y1e : (Y7.Tr.getD Y6.toNat default).length ≤ 1073741824 := (by simp_all <;> omega)
   have p {a C} (s : Scr a C) := sB YW <| sG (cL (cI .i64)) Y7.Tr Y6 Y1g Y1h <| sF (Zff (Y7.Tr.getD Y6.toNat default) (((Z8 Y7).getD Y1.toNat default).getD 0 default) (((Z8 Y7).getD Y1.toNat default).getD 1 default) Y1e) <| s
   cases Y19 : (decide ((Z1W Y7 Y1 Y6) ≥ 0)) with
   | true =>
    have gh__1 := odt Y19
    have Y1b : Ya.length + ([(Z1W Y7 Y1 Y6)]).length ≤ 1073741824 := by clear p; exact (by ((have := hp3.2.1; have g4 := odt YW; (simp only [List.length_append, List.length_cons, List.length_nil]; omega))))
    have Y1i : (-9223372036854775808 : Int) ≤ (Y6 + 1) := by clear p; exact (by omega)
    have Y1o : (Y6 + 1) ≤ (9223372036854775807 : Int) := by clear p; exact (by omega)
    have e : Z1A Y7 Y1 Y3 (k + 1) Y6 Ya = (Z1A Y7 Y1 Y3 k (Y6 + 1) (Ya ++ [(Z1W Y7 Y1 Y6)])) := by simp only [Z1A, YW, Y19, cond_true]
    rw [e]
    exact nextS E0Ok Z5 [] Z5K [0, 1, 2] (⟨.ref (Gm.c Y7) 0 :: .any :: .nils :: .own 0 :: .own 1 :: .i .i64 Y1 :: .i .i64 (((Z8 Y7).getD Y1.toNat default).getD 0 default) :: .i .i64 (((Z8 Y7).getD Y1.toNat default).getD 1 default) :: .own 2 :: .any :: .any :: .any :: .ref (Gm.c Y7) 0 :: .own 1 :: .own 1 :: .i .i64 ((Z8 Y7).length : Int) :: .i .i64 Y1 :: .b (decide (Y1 < ((Z8 Y7).length : Int))) :: .i .i64 Y1 :: .own 1 :: .i .i64 Y1 :: .ptr 1 Y1.toNat 0 :: .inn 1 Y1.toNat :: .ipt 1 Y1.toNat 0 :: .i .i64 (((Z8 Y7).getD Y1.toNat default).getD 0 default) :: .own 1 :: .i .i64 Y1 :: .ptr 1 Y1.toNat 0 :: .inn 1 Y1.toNat :: .ipt 1 Y1.toNat 1 :: .i .i64 (((Z8 Y7).getD Y1.toNat default).getD 1 default) :: .i .i64 (((Z8 Y7).getD Y1.toNat default).getD 0 default) :: .i .i64 (((Z8 Y7).getD Y1.toNat default).getD 1 default) :: .any :: .ref (Gm.c Y7) 0 :: .ref (Gm.c Y7) 0 :: .ref (Gm.c Y7) 1 :: .sl (Y7.Tr.map (cL (cI .i64))) :: .i .i64 (Y7.Tr.length : Int) :: .i .i64 (Y6 + 1) :: an 28 [], [.nest 49 (Y3.map fun l => l.map (cI .i64)) false, .nest 49 ((Z8 Y7).map fun l => l.map (cI .i64)) false, .vec 2 1 ((Ya.map (cI .i64)) ++ ([[.i .i64 (Z1W Y7 Y1 Y6)]] : List (List AV))) false]⟩) (p (sB Y19 <| sC (show (Ya.map (cI .i64)).length + ([[.i .i64 (Z1W Y7 Y1 Y6)]] : List (List AV)).length ≤ 1073741824 from (by simpa using Y1b)) <| sI (Y6 + 1) Y1i Y1o <| sN)) (by kernel_rfl) (by simp [Z6z, cL, cI]) (ih (Y6 + 1) (Ya ++ [(Z1W Y7 Y1 Y6)]) (show 0 ≤ (Y6 + 1) from (by omega)) (show ((Ya ++ [(Z1W Y7 Y1 Y6)]).length : Int) ≤ 2 + (Y6 + 1) from (by ((have q := Z5f Y7 hp3 Z22 (odt (by assumption)); (simp only [List.length_append, List.length_cons, List.length_nil]; omega))))) (by omega))
   | false =>
    have gh__1 := odf Y19
    have Y1b : (-9223372036854775808 : Int) ≤ (Y6 + 1) := by clear p; exact (by omega)
    have Y1i : (Y6 + 1) ≤ (9223372036854775807 : Int) := by clear p; exact (by omega)
    have e : Z1A Y7 Y1 Y3 (k + 1) Y6 Ya = (Z1A Y7 Y1 Y3 k (Y6 + 1) Ya) := by simp only [Z1A, YW, Y19, cond_true, cond_false]
    rw [e]
    exact nextR E0Ok Z5 [] Z5K [0, 1, 2] (ih (Y6 + 1) Ya (show 0 ≤ (Y6 + 1) from (by omega)) (show (Ya.length : Int) ≤ 2 + (Y6 + 1) from (by omega)) (by omega)) (p (sB Y19 <| sI (Y6 + 1) Y1b Y1i <| sN)) (by kernel_rfl)
  | false =>
   have YU := odf YW
   have e : Z1A Y7 Y1 Y3 (k + 1) Y6 Ya = Ya := by simp only [Z1A, YW, cond_false]
   rw [e]
   exact outR (e := (.exit 2)) E0Ok Z5 [] Zc2 [0, 1, 2] (sB YW <| sN) (by kernel_rfl) (by intro h; cases h)
def Z1B (Y7 : Gm) (Y1 : Int) (Y3 : (List (List Int))) : (List Int) := (Z1A Y7 Y1 Y3 (((Y7.Tr.length : Int) - 0).toNat + 1) 0 ([(((Z8 Y7).getD Y1.toNat default).getD 0 default), (((Z8 Y7).getD Y1.toNat default).getD 1 default)]))
def Z1n (Y7 : Gm) : Nat → Int → (List (List Int)) → (List (List Int))
  | 0, _, _ => default
  | k + 1, Y1, Y3 => (cond (decide (Y1 < ((Z8 Y7).length : Int)))
    (cond (((Z1B Y7 Y1 Y3).length : Int) == 4)
      (Z1n Y7 k (Y1 + 1) (Y3 ++ [(Z1B Y7 Y1 Y3)]))
      (Z1n Y7 k (Y1 + 1) Y3))
    Y3)
def Z6A (Y7 : Gm) (r : (List (List Int))) : Ex × St := ((.exit 0), ⟨.ref (Gm.c Y7) 0 :: .any :: .nils :: .own 0 :: .own 1 :: an 7 (.ref (Gm.c Y7) 0 :: .own 1 :: .own 1 :: an 53 []), [.nest 49 (r.map fun l => l.map (cI .i64)) false, .nest 49 ((Z8 Y7).map fun l => l.map (cI .i64)) false]⟩)
def Z6B (Y7 : Gm) (Y1 : Int) (Y3 : (List (List Int))) : St := ⟨.ref (Gm.c Y7) 0 :: .any :: .nils :: .own 0 :: .own 1 :: an 7 (.ref (Gm.c Y7) 0 :: .own 1 :: .own 1 :: .i .i64 ((Z8 Y7).length : Int) :: .i .i64 Y1 :: an 51 []), [.nest 49 (Y3.map fun l => l.map (cI .i64)) false, .nest 49 ((Z8 Y7).map fun l => l.map (cI .i64)) false]⟩
set_option maxHeartbeats 1000000 in
theorem Zd3 (Y7 : Gm) (hp0 : Y7.Pq.length ≤ 1073741824) (hp1 : Y7.Tr.length ≤ 1073741824) (hp2 : ∀ t ∈ Y7.Tr, t.length ≤ 1073741824) (hp3 : OkE Y7.Pq.length Y7.Tr) : ∀ (k : Nat) (Y1 : Int) (Y3 : (List (List Int))) (Z22 : 0 ≤ Y1) (Z4O : (Y3.length : Int) ≤ Y1) (hk : (((Z8 Y7).length : Int) - Y1).toNat < k), Lp prog 0 (sub (bodyOf f101) [1, 1, 1, 0, 1, 0, 0]) (Z6B Y7 Y1 Y3) (Z6A Y7 (Z1n Y7 k Y1 Y3)).1 (Z6A Y7 (Z1n Y7 k Y1 Y3)).2 := by
 intro k
 induction k with
 | zero => intro Y1 Y3 Z22 Z4O hk; exact absurd hk (Nat.not_lt_zero _)
 | succ k ih =>
  intro Y1 Y3 Z22 Z4O hk
  cases Yj : (decide (Y1 < ((Z8 Y7).length : Int))) with
  | true =>
   have YM := odt Yj
   have YS : (0 : Int) ≤ Y1 := (by assumption)
   have YT : Int.toNat Y1 < (Z8 Y7).length := (by omega)
   have YY : Y1.toNat < (Z8 Y7).length := (by assumption)
   have YZ : (0 : Int) ≤ 0 := (by omega)
   have y_4 : 0 < (((Z8 Y7).getD Y1.toNat default).length : Int) := (by ((have q := Z5f Y7 hp3 Z22 (odt (by assumption)); omega)))
   have y_5 : 0 < ((Z8 Y7).getD Y1.toNat default).length := (by omega)
   have y_6 : (0 : Int) ≤ 1 := (by omega)
   have y_7 : 1 < (((Z8 Y7).getD Y1.toNat default).length : Int) := (by ((have q := Z5f Y7 hp3 Z22 (odt (by assumption)); omega)))
   have y_8 : 1 < ((Z8 Y7).getD Y1.toNat default).length := (by omega)
   have p {a C} (s : Scr a C) := sB Yj <| sC (nestix (c := (cI .i64)) (l := (Z8 Y7)) (i := Y1) YS YT) <| sC (nestlt (c := (cI .i64)) (l := (Z8 Y7)) YY) <| sC (iidx_ok (c := (cI .i64)) (l := (Z8 Y7)) (j := Y1.toNat) (i := 0) YZ y_4) <| sE (iget_ok (c := (cI .i64)) (l := (Z8 Y7)) (j := Y1.toNat) (k := 0) y_5) <| sC (nestix (c := (cI .i64)) (l := (Z8 Y7)) (i := Y1) YS YT) <| sC (nestlt (c := (cI .i64)) (l := (Z8 Y7)) YY) <| sC (iidx_ok (c := (cI .i64)) (l := (Z8 Y7)) (j := Y1.toNat) (i := 1) y_6 y_7) <| sE (iget_ok (c := (cI .i64)) (l := (Z8 Y7)) (j := Y1.toNat) (k := 1) y_8) <| sZ (cL (cI .i64)) Y7.Tr <| sL Z5K 3 (lp_cast (st2 := ⟨.ref (Gm.c Y7) 0 :: .any :: .nils :: .own 0 :: .own 1 :: .i .i64 Y1 :: .i .i64 (((Z8 Y7).getD Y1.toNat default).getD 0 default) :: .i .i64 (((Z8 Y7).getD Y1.toNat default).getD 1 default) :: .own 2 :: .any :: .any :: .any :: .ref (Gm.c Y7) 0 :: .own 1 :: .own 1 :: .i .i64 ((Z8 Y7).length : Int) :: .i .i64 Y1 :: .b (decide (Y1 < ((Z8 Y7).length : Int))) :: .i .i64 Y1 :: .own 1 :: .i .i64 Y1 :: .ptr 1 Y1.toNat 0 :: .inn 1 Y1.toNat :: .ipt 1 Y1.toNat 0 :: .i .i64 (((Z8 Y7).getD Y1.toNat default).getD 0 default) :: .own 1 :: .i .i64 Y1 :: .ptr 1 Y1.toNat 0 :: .inn 1 Y1.toNat :: .ipt 1 Y1.toNat 1 :: .i .i64 (((Z8 Y7).getD Y1.toNat default).getD 1 default) :: .i .i64 (((Z8 Y7).getD Y1.toNat default).getD 0 default) :: .i .i64 (((Z8 Y7).getD Y1.toNat default).getD 1 default) :: .any :: .ref (Gm.c Y7) 0 :: .ref (Gm.c Y7) 0 :: .ref (Gm.c Y7) 1 :: .sl (Y7.Tr.map (cL (cI .i64))) :: .i .i64 (Y7.Tr.length : Int) :: .i .i64 0 :: an 28 [], [.nest 49 (Y3.map fun l => l.map (cI .i64)) false, .nest 49 ((Z8 Y7).map fun l => l.map (cI .i64)) false, .vec 2 1 ([[.i .i64 (((Z8 Y7).getD Y1.toNat default).getD 0 default)], [.i .i64 (((Z8 Y7).getD Y1.toNat default).getD 1 default)]] : List (List AV)) false]⟩) (lp_val (Z6y Y7 Y1 Y3) (x := (Z1B Y7 Y1 Y3)) (Zd2 Y7 Y1 Y3 hp0 hp1 hp2 hp3 Z22 Z4O Yj (((Y7.Tr.length : Int) - 0).toNat + 1) 0 ([(((Z8 Y7).getD Y1.toNat default).getD 0 default), (((Z8 Y7).getD Y1.toNat default).getD 1 default)]) (show 0 ≤ 0 from (by omega)) (show (([(((Z8 Y7).getD Y1.toNat default).getD 0 default), (((Z8 Y7).getD Y1.toNat default).getD 1 default)]).length : Int) ≤ 2 + 0 from (by simp)) (Nat.lt_succ_self _)) rfl) (by simp [Z6z, cI])) <| sZ (cI .i64) (Z1B Y7 Y1 Y3) <| s
   cases YJ : (((Z1B Y7 Y1 Y3).length : Int) == 4) with
   | true =>
    have Y1d := eq_of_beq YJ
    have y_9 : Y3.length + [(Z1B Y7 Y1 Y3)].length ≤ 1073741824 := by clear p; exact (by ((have q := Z5f Y7 hp3 Z22 (odt (by assumption)); (simp only [List.length_append, List.length_cons, List.length_nil]; omega))))
    have Y1c : (-9223372036854775808 : Int) ≤ (Y1 + 1) := by clear p; exact (by omega)
    have Y1j : (Y1 + 1) ≤ (9223372036854775807 : Int) := by clear p; exact (by ((have q := Z5f Y7 hp3 Z22 (odt (by assumption)); omega)))
    have e : Z1n Y7 (k + 1) Y1 Y3 = (Z1n Y7 k (Y1 + 1) (Y3 ++ [(Z1B Y7 Y1 Y3)])) := by simp only [Z1n, Yj, YJ, cond_true]
    rw [e]
    exact nextS E0Ok Z5 [] (mR false [0, 1, 1, 3, 7, 5, 51]) [0, 1] (⟨.ref (Gm.c Y7) 0 :: .any :: .nils :: .own 0 :: .own 1 :: an 7 (.ref (Gm.c Y7) 0 :: .own 1 :: .own 1 :: .i .i64 ((Z8 Y7).length : Int) :: .i .i64 (Y1 + 1) :: an 51 []), [.nest 49 ((Y3.map fun l => l.map (cI .i64)) ++ [((Z1B Y7 Y1 Y3).map (cI .i64))]) false, .nest 49 ((Z8 Y7).map fun l => l.map (cI .i64)) false]⟩) (p (sB YJ <| sC (show (Y3.map fun l => l.map (cI .i64)).length + [((Z1B Y7 Y1 Y3).map (cI .i64))].length ≤ 1073741824 from (by simpa using y_9)) <| sI (Y1 + 1) Y1c Y1j <| sN)) (by kernel_rfl) (by simp [Z6B, cL, cI]) (ih (Y1 + 1) (Y3 ++ [(Z1B Y7 Y1 Y3)]) (show 0 ≤ (Y1 + 1) from (by omega)) (show ((Y3 ++ [(Z1B Y7 Y1 Y3)]).length : Int) ≤ (Y1 + 1) from (by ((have q := Z5f Y7 hp3 Z22 (odt (by assumption)); (simp only [List.length_append, List.length_cons, List.length_nil]; omega))))) (by omega))
   | false =>
    have Y1d := ne_of_beq_false YJ
    have y_9 : (-9223372036854775808 : Int) ≤ (Y1 + 1) := by clear p; exact (by omega)
    have Y1c : (Y1 + 1) ≤ (9223372036854775807 : Int) := by clear p; exact (by ((have q := Z5f Y7 hp3 Z22 (odt (by assumption)); omega)))
    have e : Z1n Y7 (k + 1) Y1 Y3 = (Z1n Y7 k (Y1 + 1) Y3) := by simp only [Z1n, Yj, YJ, cond_true, cond_false]
    rw [e]
    exact nextR E0Ok Z5 [] (mR false [0, 1, 1, 3, 7, 5, 51]) [0, 1] (ih (Y1 + 1) Y3 (show 0 ≤ (Y1 + 1) from (by omega)) (show (Y3.length : Int) ≤ (Y1 + 1) from (by omega)) (by omega)) (p (sB YJ <| sI (Y1 + 1) y_9 Y1c <| sN)) (by kernel_rfl)
  | false =>
   have YM := odf Yj
   have e : Z1n Y7 (k + 1) Y1 Y3 = Y3 := by simp only [Z1n, Yj, cond_false]
   rw [e]
   exact outR (e := (.exit 0)) E0Ok Z5 [] (mR false [0, 1, 1, 3, 7, 3, 53]) [0, 1] (sB Yj <| sN) (by kernel_rfl) (by intro h; cases h)
def Z4P (Y7 : Gm) : (List (List Int)) := (Z1n Y7 ((((Z8 Y7).length : Int) - 0).toNat + 1) 0 ([] : List (List Int)))
def Z0 (Y7 : Gm) : (List (List Int)) := (Z4P Y7)
theorem Zhy (m : Gm) (ok : OkE m.Pq.length m.Tr) (x : Int) (r0 : List (List Int)) (hab : ((Z8 m).getD x.toNat default).getD 0 default ≠ ((Z8 m).getD x.toNat default).getD 1 default) :
    Z1B m x r0 = [((Z8 m).getD x.toNat default).getD 0 default, ((Z8 m).getD x.toNat default).getD 1 default] ++ (idxP m.Tr (((Z8 m).getD x.toNat default).getD 0 default) (((Z8 m).getD x.toNat default).getD 1 default)).map fun i => thd (m.Tr.getD i.toNat default) (((Z8 m).getD x.toNat default).getD 0 default) (((Z8 m).getD x.toNat default).getD 1 default) := by
  unfold Z1B
  have hf := filt_loop (n := (m.Tr.length : Int)) (f := fun i => !(decide (Z1W m x i ≥ 0))) (g := fun i => Z1W m x i) (lo := Z1A m x r0) (fun k i r' => by
    rw [Z1A]
    cases decide (Z1W m x i ≥ 0) <;> rfl) (((m.Tr.length : Int) - 0).toNat + 1) 0 [((Z8 m).getD x.toNat default).getD 0 default, ((Z8 m).getD x.toNat default).getD 1 default] (Nat.lt_succ_self _)
  rw [hf]
  congr 1
  unfold Z1W idxP
  generalize ((Z8 m).getD x.toNat default).getD 0 default = a at *
  generalize ((Z8 m).getD x.toNat default).getD 1 default = b at *
  rw [List.map_map, show ((m.Tr.length : Int) - 0).toNat = m.Tr.length from by omega]
  have key : ∀ j : Nat, j < m.Tr.length → Z3s (m.Tr.getD ((0 : Int) + (j : Int)).toNat default) a b = if tHas (m.Tr.getD j default) a b = true then thd (m.Tr.getD j default) a b else -1 := by
    intro j hj
    rw [show ((0 : Int) + (j : Int)).toNat = j from by omega]
    have hm : m.Tr.getD j default ∈ m.Tr := by rw [List.getD_eq_getElem?_getD, List.getElem?_eq_getElem hj]; exact List.getElem_mem _
    obtain ⟨x, y, z, ht, r1, r2, r3, n1, n2, n3⟩ := ok.2.2 _ hm
    rw [ht]; exact ZgP n1 n2 n3 hab
  have hfl : ((List.range m.Tr.length).filter fun (j : Nat) => !(!(decide (Z3s (m.Tr.getD ((0 : Int) + (j : Int)).toNat default) a b ≥ 0)))) = (List.range m.Tr.length).filter fun j => tHas (m.Tr.getD j default) a b := by
    refine List.filter_congr fun j hj => ?_
    rw [List.mem_range] at hj
    rw [Bool.not_not, key j hj]
    cases hh : tHas (m.Tr.getD j default) a b with
    | false => rfl
    | true =>
      have hi : (j : Int) ∈ idxP m.Tr a b := by
        unfold idxP; rw [List.mem_map]; exact ⟨j, List.mem_filter.2 ⟨List.mem_range.2 hj, hh⟩, rfl⟩
      have := (thd_bd ok hab hi).1
      rw [show ((j : Nat) : Int).toNat = j from by omega] at this
      rw [if_pos rfl]; exact decide_eq_true this
  rw [hfl]
  refine List.map_congr_left fun j hj => ?_
  rw [List.mem_filter, List.mem_range] at hj
  rw [key j hj.1, if_pos hj.2]
  show _ = thd (m.Tr.getD ((j : Nat) : Int).toNat default) a b
  rw [show ((j : Nat) : Int).toNat = j from by omega]
theorem Z8L (m : Gm) (ok : OkE m.Pq.length m.Tr) : Z0 m = hgL m.Pq.length m.Tr := by
  unfold Z0 Z4P
  refine (filtm_from (a := Z8 m) (p := fun x => decide ((idxP m.Tr (x.getD 0 default) (x.getD 1 default)).length = 2)) (f := fun x => [x.getD 0 default, x.getD 1 default] ++ (idxP m.Tr (x.getD 0 default) (x.getD 1 default)).map fun i => thd (m.Tr.getD i.toNat default) (x.getD 0 default) (x.getD 1 default)) (lo := Z1n m) (fun k i r h0 hi => ?_) (fun k i r hi => ?_)).trans ?_
  · have q := Z5f m ok h0 hi
    rw [Z1n, decide_eq_true hi, cond_true, Zhy m ok i r (by omega)]
    have hc : ((([((Z8 m).getD i.toNat default).getD 0 default, ((Z8 m).getD i.toNat default).getD 1 default] ++ (idxP m.Tr (((Z8 m).getD i.toNat default).getD 0 default) (((Z8 m).getD i.toNat default).getD 1 default)).map fun i_1 => thd (m.Tr.getD i_1.toNat default) (((Z8 m).getD i.toNat default).getD 0 default) (((Z8 m).getD i.toNat default).getD 1 default)).length : Int) == 4) = decide ((idxP m.Tr (((Z8 m).getD i.toNat default).getD 0 default) (((Z8 m).getD i.toNat default).getD 1 default)).length = 2) := by
      rw [List.length_append, List.length_map, Bool.eq_iff_iff, beq_iff_eq, decide_eq_true_iff]
      simp only [List.length_cons, List.length_nil]; omega
    rw [hc]
  · rw [Z1n, decide_eq_false (by omega), cond_false]
  · rw [ZbT m ok]
    unfold hgL
    rw [List.filter_map, List.map_map]
    rfl
theorem Z3I (m : Gm) (ok : OkE m.Pq.length m.Tr) : (Z0 m).length ≤ 4096 := by rw [Z8L m ok]; exact hgL_len ok
theorem ZgC (m : Gm) (ok : OkE m.Pq.length m.Tr) {i : Int} (h0 : 0 ≤ i) (hi : i < ((Z0 m).length : Int)) : ((Z0 m).getD i.toNat default).length = 4 ∧ ∀ x ∈ (Z0 m).getD i.toNat default, 0 ≤ x ∧ x < (m.Pq.length : Int) := by
  refine hgL_mem ok ?_
  rw [← Z8L m ok, List.getD_eq_getElem?_getD, List.getElem?_eq_getElem (by omega)]; exact List.getElem_mem _
theorem hin4 {m : Gm} (ok : OkE m.Pq.length m.Tr) {i : Int} (h0 : 0 ≤ i) (hi : decide (i < ((Z0 m).length : Int)) = true) : ((Z0 m).getD i.toNat default).length = 4 ∧ ∀ x ∈ (Z0 m).getD i.toNat default, 0 ≤ x ∧ x < (m.Pq.length : Int) := ZgC m ok h0 (odt hi)
theorem ZhW {m : Gm} (ok : OkE m.Pq.length m.Tr) {i : Int} (h0 : 0 ≤ i) (hi : decide (i < ((Z0 m).length : Int)) = true) : ((Z0 m).getD i.toNat default).length ≤ 1073741824 := by have := (hin4 ok h0 hi).1; omega
theorem Zb5 (Y7 : Gm) (hp0 : Y7.Pq.length ≤ 1073741824) (hp1 : Y7.Tr.length ≤ 1073741824) (hp2 : ∀ t ∈ Y7.Tr, t.length ≤ 1073741824) (hp3 : OkE Y7.Pq.length Y7.Tr)  : Fn prog 101 [.ref (Gm.c Y7) 0] (.own 0) [.nest 49 ((Z0 Y7).map fun l => l.map (cI .i64)) false] := by
 refine fnS E0Ok Z5 (c := bodyOf f101) [] (.own 0) [.nest 49 ((Z4P Y7).map fun l => l.map (cI .i64)) false] func101 (sF (Zfe Y7 hp0 hp1 hp2 hp3) <| sM (nlen_ok (l := (Z8 Y7)) (f := fun l => l.map (cI .i64))) <| sL (mR false [0, 1, 1, 3, 7, 5, 51]) 2 (lp_cast (st2 := ⟨.ref (Gm.c Y7) 0 :: .any :: .nils :: .own 0 :: .own 1 :: an 7 (.ref (Gm.c Y7) 0 :: .own 1 :: .own 1 :: .i .i64 ((Z8 Y7).length : Int) :: .i .i64 0 :: an 51 []), [.nest 49 [] false, .nest 49 ((Z8 Y7).map fun l => l.map (cI .i64)) false]⟩) (lp_val (Z6A Y7) (x := (Z4P Y7)) (Zd3 Y7 hp0 hp1 hp2 hp3 ((((Z8 Y7).length : Int) - 0).toNat + 1) 0 ([] : List (List Int)) (show 0 ≤ 0 from (by omega)) (show (([] : List (List Int)).length : Int) ≤ 0 from (by simp)) (Nat.lt_succ_self _)) rfl) (by simp [Z6B, cL, cI])) <| sK [0] sN) rfl (by kernel_rfl) (by kernel_rfl) rfl ?_ ?_
 · rfl
 · simp [Z0]
def ZI (Y5 : Gv) (YA : Gv) : Gv := (⟨(fop .add .f32 Y5.X YA.X), (fop .add .f32 Y5.Y YA.Y), (fop .add .f32 Y5.Z YA.Z)⟩ : Gv)
theorem Z3J (Y5 : Gv) (YA : Gv)   : Fn prog 89 [.agg [.f .f32 Y5.X, .f .f32 Y5.Y, .f .f32 Y5.Z], .agg [.f .f32 YA.X, .f .f32 YA.Y, .f .f32 YA.Z]] (.agg [.f .f32 ((ZI Y5 YA).X), .f .f32 ((ZI Y5 YA).Y), .f .f32 ((ZI Y5 YA).Z)]) [] := by
 refine fnS E0Ok Z5 (c := bodyOf f89) [] (.agg [.f .f32 (fop .add .f32 Y5.X YA.X), .f .f32 (fop .add .f32 Y5.Y YA.Y), .f .f32 (fop .add .f32 Y5.Z YA.Z)]) [] func89 (sK [] sN) rfl (by kernel_rfl) (by kernel_rfl) rfl ?_ ?_
 · rfl
 · rfl
def Z5G (Y7 : Gm) (YJ : (List Int)) : Gv := (Z1V (ZI (Y7.Pq.getD (YJ.getD 2 default).toNat default) (Y7.Pq.getD (YJ.getD 3 default).toNat default)) (ZI (Y7.Pq.getD (YJ.getD 0 default).toNat default) (Y7.Pq.getD (YJ.getD 1 default).toNat default)))
def ZW (Y7 : Gm) (YJ : (List Int)) : Gv := (Z5G Y7 YJ)
theorem Zc3 (Y7 : Gm) (YJ : (List Int)) (hp0 : Y7.Pq.length ≤ 1073741824) (hp1 : Y7.Tr.length ≤ 1073741824) (hp2 : ∀ t ∈ Y7.Tr, t.length ≤ 1073741824) (hp3 : YJ.length ≤ 1073741824) (hp4 : YJ.length = 4 ∧ ∀ x ∈ YJ, 0 ≤ x ∧ x < (Y7.Pq.length : Int))  : Fn prog 102 [.ref (Gm.c Y7) 0, .sl (YJ.map (cI .i64))] (.agg [.f .f32 ((ZW Y7 YJ).X), .f .f32 ((ZW Y7 YJ).Y), .f .f32 ((ZW Y7 YJ).Z)]) [] := by
 have y0 : (0 : Int) ≤ 2 := (by omega)
 have y1 : 2 < (YJ.length : Int) := (by omega)
 have y2 : (0 : Int) ≤ (YJ.getD 2 default) := (by have q := Okh.at hp4; omega)
 have y3 : (YJ.getD 2 default) < (Y7.Pq.length : Int) := (by have q := Okh.at hp4; omega)
 have y4 : (0 : Int) ≤ 3 := (by omega)
 have y5 : 3 < (YJ.length : Int) := (by omega)
 have y6 : (0 : Int) ≤ (YJ.getD 3 default) := (by have q := Okh.at hp4; omega)
 have y7 : (YJ.getD 3 default) < (Y7.Pq.length : Int) := (by have q := Okh.at hp4; omega)
 have y8 : (0 : Int) ≤ 0 := (by omega)
 have y9 : 0 < (YJ.length : Int) := (by omega)
 have y10 : (0 : Int) ≤ (YJ.getD 0 default) := (by have q := Okh.at hp4; omega)
 have y11 : (YJ.getD 0 default) < (Y7.Pq.length : Int) := (by have q := Okh.at hp4; omega)
 have y12 : (0 : Int) ≤ 1 := (by omega)
 have y13 : 1 < (YJ.length : Int) := (by omega)
 have y14 : (0 : Int) ≤ (YJ.getD 1 default) := (by have q := Okh.at hp4; omega)
 have y15 : (YJ.getD 1 default) < (Y7.Pq.length : Int) := (by have q := Okh.at hp4; omega)
 refine fnS E0Ok Z5 (c := bodyOf f102) [] (.agg [.f .f32 ((Z5G Y7 YJ).X), .f .f32 ((Z5G Y7 YJ).Y), .f .f32 ((Z5G Y7 YJ).Z)]) [] func102 (sK [37, 37] <| sG (cI .i64) YJ 2 y0 y1 <| sG Gv.c Y7.Pq (YJ.getD 2 default) y2 y3 <| sG (cI .i64) YJ 3 y4 y5 <| sG Gv.c Y7.Pq (YJ.getD 3 default) y6 y7 <| sF (Z3J (Y7.Pq.getD (YJ.getD 2 default).toNat default) (Y7.Pq.getD (YJ.getD 3 default).toNat default)) <| sG (cI .i64) YJ 0 y8 y9 <| sG Gv.c Y7.Pq (YJ.getD 0 default) y10 y11 <| sG (cI .i64) YJ 1 y12 y13 <| sG Gv.c Y7.Pq (YJ.getD 1 default) y14 y15 <| sF (Z3J (Y7.Pq.getD (YJ.getD 0 default).toNat default) (Y7.Pq.getD (YJ.getD 1 default).toNat default)) <| sF (Z5g (ZI (Y7.Pq.getD (YJ.getD 2 default).toNat default) (Y7.Pq.getD (YJ.getD 3 default).toNat default)) (ZI (Y7.Pq.getD (YJ.getD 0 default).toNat default) (Y7.Pq.getD (YJ.getD 1 default).toNat default))) <| sK [] sN) rfl (by kernel_rfl) (by kernel_rfl) rfl ?_ ?_
 · rfl
 · rfl
def Z75 (Y0 : Gb) (Y1 : Int) : Gv := (Z1V (Y0.Me.Pq.getD ((Y0.Sp.getD Y1.toNat default).B).toNat default) (Y0.Me.Pq.getD ((Y0.Sp.getD Y1.toNat default).A).toNat default))
def Zdz (Y0 : Gb) (Y1 : Int) : Nat := (fop .mul .f32 (fop .sub .f32 (Z2k (Z75 Y0 Y1)) ((Y0.Sp.getD Y1.toNat default).Long)) (fop .sub .f32 (Z2k (Z75 Y0 Y1)) ((Y0.Sp.getD Y1.toNat default).Long)))
def Z3Q (Y0 : Gb) (Y1 : Int) (Y3 : (List Nat)) : Nat := (fop .add .f32 (Y3.getD 0 default) (fop .mul .f32 (fop .mul .f32 1056964608 ((Y0.Sp.getD Y1.toNat default).Stiff)) (Zdz Y0 Y1)))
def Z1v (Y0 : Gb) : Nat → Int → (List Nat) → (List Nat)
  | 0, _, _ => default
  | k + 1, Y1, Y3 => (cond (decide (Y1 < (Y0.Sp.length : Int)))
    (Z1v Y0 k (Y1 + 1) (Y3.set 0 (Z3Q Y0 Y1 Y3)))
    Y3)
def Z76 (Y0 : Gb) (r : (List Nat)) : Ex × St := ((.exit 0), ⟨.ref (Gb.c Y0) 0 :: .any :: .nils :: .own 0 :: .ref (Gb.c Y0) 0 :: an 8 (.own 0 :: .ref (Gb.c Y0) 0 :: .ref (Gb.c Y0) 0 :: .ref (Gb.c Y0) 0 :: .ref (Gb.c Y0) 0 :: .ref (Gb.c Y0) 0 :: .ref (Gb.c Y0) 2 :: .sl (Y0.Sp.map Gs.c) :: an 139 []), [.vec 27 1 (r.map (cF .f32)) false]⟩)
def Z77 (Y0 : Gb) (Y1 : Int) (Y3 : (List Nat)) : St := ⟨.ref (Gb.c Y0) 0 :: .any :: .nils :: .own 0 :: .ref (Gb.c Y0) 0 :: an 8 (.own 0 :: .ref (Gb.c Y0) 0 :: .ref (Gb.c Y0) 0 :: .ref (Gb.c Y0) 0 :: .ref (Gb.c Y0) 0 :: .ref (Gb.c Y0) 0 :: .ref (Gb.c Y0) 2 :: .sl (Y0.Sp.map Gs.c) :: .i .i64 (Y0.Sp.length : Int) :: .i .i64 Y1 :: an 137 []), [.vec 27 1 (Y3.map (cF .f32)) false]⟩
theorem ZdA (Y0 : Gb) (hp0 : Y0.Me.Pq.length ≤ 1073741824) (hp1 : Y0.Me.Tr.length ≤ 1073741824) (hp2 : ∀ t ∈ Y0.Me.Tr, t.length ≤ 1073741824) (hp3 : Y0.Sp.length ≤ 1073741824) (hp4 : Y0.We.length ≤ 1073741824) (hp5 : OkBd Y0) : ∀ (k : Nat) (Y1 : Int) (Y3 : (List Nat)) (Z8M : 0 ≤ Y1) (Z8N : Y3.length = 4) (hk : ((Y0.Sp.length : Int) - Y1).toNat < k), Lp prog 0 (sub (bodyOf f133) [1, 1, 1, 0, 1, 0, 0]) (Z77 Y0 Y1 Y3) (Z76 Y0 (Z1v Y0 k Y1 Y3)).1 (Z76 Y0 (Z1v Y0 k Y1 Y3)).2 := by
 intro k
 induction k with
 | zero => intro Y1 Y3 Z8M Z8N hk; exact absurd hk (Nat.not_lt_zero _)
 | succ k ih =>
  intro Y1 Y3 Z8M Z8N hk
  cases Yj : (decide (Y1 < (Y0.Sp.length : Int))) with
  | true =>
   have YM := odt Yj
   have YS : (0 : Int) ≤ Y1 := (by assumption)
   have YT : Y1 < (Y0.Sp.length : Int) := (by assumption)
   have YY : (0 : Int) ≤ ((Y0.Sp.getD Y1.toNat default).B) := (by (have q := hp5.w; (have q := Z3q hp5 (by assumption) Yj; omega)))
   have YZ : ((Y0.Sp.getD Y1.toNat default).B) < (Y0.Me.Pq.length : Int) := (by (have q := hp5.w; (have q := Z3q hp5 (by assumption) Yj; omega)))
   have y_4 : (0 : Int) ≤ ((Y0.Sp.getD Y1.toNat default).A) := (by (have q := hp5.w; (have q := Z3q hp5 (by assumption) Yj; omega)))
   have y_5 : ((Y0.Sp.getD Y1.toNat default).A) < (Y0.Me.Pq.length : Int) := (by (have q := hp5.w; (have q := Z3q hp5 (by assumption) Yj; omega)))
   have y_6 : (0 : Int) ≤ 0 := (by omega)
   have y_7 : 0 < (Y3.length : Int) := (by omega)
   have y_8 : 0 < Y3.length := (by omega)
   have y_9 : (-9223372036854775808 : Int) ≤ (Y1 + 1) := (by omega)
   have Y1c : (Y1 + 1) ≤ (9223372036854775807 : Int) := (by omega)
   have e : Z1v Y0 (k + 1) Y1 Y3 = (Z1v Y0 k (Y1 + 1) (Y3.set 0 (Z3Q Y0 Y1 Y3))) := by simp only [Z1v, Yj, cond_true]
   rw [e]
   exact nextS E0Ok Z5 [] (mR false [0, 1, 1, 3, 8, 10, 137]) [0] (⟨.ref (Gb.c Y0) 0 :: .any :: .nils :: .own 0 :: .ref (Gb.c Y0) 0 :: an 8 (.own 0 :: .ref (Gb.c Y0) 0 :: .ref (Gb.c Y0) 0 :: .ref (Gb.c Y0) 0 :: .ref (Gb.c Y0) 0 :: .ref (Gb.c Y0) 0 :: .ref (Gb.c Y0) 2 :: .sl (Y0.Sp.map Gs.c) :: .i .i64 (Y0.Sp.length : Int) :: .i .i64 (Y1 + 1) :: an 137 []), [.vec 27 1 ((Y3.map (cF .f32)).set 0 [.f .f32 (Z3Q Y0 Y1 Y3)]) false]⟩) (sB Yj <| sG Gs.c Y0.Sp Y1 YS YT <| sK [20, 20] <| sG Gv.c Y0.Me.Pq ((Y0.Sp.getD Y1.toNat default).B) YY YZ <| sG Gv.c Y0.Me.Pq ((Y0.Sp.getD Y1.toNat default).A) y_4 y_5 <| sF (Z5g (Y0.Me.Pq.getD ((Y0.Sp.getD Y1.toNat default).B).toNat default) (Y0.Me.Pq.getD ((Y0.Sp.getD Y1.toNat default).A).toNat default)) <| sF (Z7t (Z75 Y0 Y1)) <| sK [10, 10] <| sX (cF .f32) Y3 0 y_6 y_7 <| sV (cF .f32) Y3 0 y_8 <| sX (cF .f32) Y3 0 y_6 y_7 <| sC (maplt (c := (cF .f32)) (l := Y3) y_8) <| sI (Y1 + 1) y_9 Y1c <| sN) (by kernel_rfl) (by simp [Z77, List.map_set, cF]) (ih (Y1 + 1) (Y3.set 0 (Z3Q Y0 Y1 Y3)) (show 0 ≤ (Y1 + 1) from (by omega)) (show (Y3.set 0 (Z3Q Y0 Y1 Y3)).length = 4 from (by simp_all <;> omega)) (by omega))
  | false =>
   have YM := odf Yj
   have e : Z1v Y0 (k + 1) Y1 Y3 = Y3 := by simp only [Z1v, Yj, cond_false]
   rw [e]
   exact outR (e := (.exit 0)) E0Ok Z5 [] (mR false [0, 1, 1, 3, 8, 8, 139]) [0] (sB Yj <| sN) (by kernel_rfl) (by intro h; cases h)
theorem Zcv (Y0 : Gb) : ∀ (k : Nat) (Y1 : Int) (Y3 : (List Nat)) (hk : ((Y0.Sp.length : Int) - Y1).toNat < k), (Z1v Y0 k Y1 Y3).length = Y3.length := by
  intro k
  induction k with
  | zero => intro Y1 Y3 hk; exact absurd hk (Nat.not_lt_zero _)
  | succ k ih =>
    intro Y1 Y3 hk
    cases Yj : (decide (Y1 < (Y0.Sp.length : Int))) with
    | true =>
      have e : Z1v Y0 (k + 1) Y1 Y3 = (Z1v Y0 k (Y1 + 1) (Y3.set 0 (Z3Q Y0 Y1 Y3))) := by simp only [Z1v, Yj, cond_true]
      rw [e, ih (Y1 + 1) (Y3.set 0 (Z3Q Y0 Y1 Y3)) (by simp_all <;> omega)]; simp
    | false =>
      have e : Z1v Y0 (k + 1) Y1 Y3 = Y3 := by simp only [Z1v, Yj, cond_false]
      first | (rw [e]; done) | (rw [e]; rfl)
def Z2f (Y0 : Gb) : (List Nat) := (Z1v Y0 (((Y0.Sp.length : Int) - 0).toNat + 1) 0 (List.replicate 4 0))
@[simp] theorem Zaz (Y0 : Gb) : (Z2f Y0).length = ((List.replicate 4 0) : (List Nat)).length := Zcv Y0 (((Y0.Sp.length : Int) - 0).toNat + 1) 0 (List.replicate 4 0) (by exact Nat.lt_succ_self _)
def Z3R (Y0 : Gb) (Y1 : Int) (Y3 : (List Nat)) : Nat := (fop .add .f32 (Y3.getD 1 default) (fop .mul .f32 Y0.Film (fop .mul .f32 1056964608 (Z2k (Zi Y0.Me (Y0.Me.Tr.getD Y1.toNat default))))))
def Z1w (Y0 : Gb) : Nat → Int → (List Nat) → (List Nat)
  | 0, _, _ => default
  | k + 1, Y1, Y3 => (cond (decide (Y1 < (Y0.Me.Tr.length : Int)))
    (Z1w Y0 k (Y1 + 1) (Y3.set 1 (Z3R Y0 Y1 Y3)))
    Y3)
def Z78 (Y0 : Gb) (r : (List Nat)) : Ex × St := ((.exit 2), ⟨.ref (Gb.c Y0) 0 :: .any :: .nils :: .own 0 :: .ref (Gb.c Y0) 0 :: an 8 (.own 0 :: .ref (Gb.c Y0) 0 :: .ref (Gb.c Y0) 0 :: .ref (Gb.c Y0) 0 :: .ref (Gb.c Y0) 0 :: .ref (Gb.c Y0) 0 :: .ref (Gb.c Y0) 2 :: .sl (Y0.Sp.map Gs.c) :: an 45 (.ref (Gb.c Y0) 0 :: .ref (Gb.c Y0) 0 :: .ref (Gb.c Y0) 1 :: .sl (Y0.Me.Tr.map (cL (cI .i64))) :: an 90 [])), [.vec 27 1 (r.map (cF .f32)) false]⟩)
def Za9 (Y0 : Gb) (Y1 : Int) (Y3 : (List Nat)) : St := ⟨.ref (Gb.c Y0) 0 :: .any :: .nils :: .own 0 :: .ref (Gb.c Y0) 0 :: an 8 (.own 0 :: .ref (Gb.c Y0) 0 :: .ref (Gb.c Y0) 0 :: .ref (Gb.c Y0) 0 :: .ref (Gb.c Y0) 0 :: .ref (Gb.c Y0) 0 :: .ref (Gb.c Y0) 2 :: .sl (Y0.Sp.map Gs.c) :: an 45 (.ref (Gb.c Y0) 0 :: .ref (Gb.c Y0) 0 :: .ref (Gb.c Y0) 1 :: .sl (Y0.Me.Tr.map (cL (cI .i64))) :: .i .i64 (Y0.Me.Tr.length : Int) :: .i .i64 Y1 :: an 88 [])), [.vec 27 1 (Y3.map (cF .f32)) false]⟩
def Z8O : List Bool := (mR false [0, 1, 1, 3, 8, 8, 45, 6, 88])
def Zcw : List Bool := (mR false [0, 1, 1, 3, 8, 8, 45, 4, 90])
theorem ZdB (Y0 : Gb) (hp0 : Y0.Me.Pq.length ≤ 1073741824) (hp1 : Y0.Me.Tr.length ≤ 1073741824) (hp2 : ∀ t ∈ Y0.Me.Tr, t.length ≤ 1073741824) (hp3 : Y0.Sp.length ≤ 1073741824) (hp4 : Y0.We.length ≤ 1073741824) (hp5 : OkBd Y0) : ∀ (k : Nat) (Y1 : Int) (Y3 : (List Nat)) (Z8P : 0 ≤ Y1) (Z8Q : Y3.length = (Z2f Y0).length) (hk : ((Y0.Me.Tr.length : Int) - Y1).toNat < k), Lp prog 0 (sub (bodyOf f133) [1, 1, 1, 1, 0, 1, 0, 0]) (Za9 Y0 Y1 Y3) (Z78 Y0 (Z1w Y0 k Y1 Y3)).1 (Z78 Y0 (Z1w Y0 k Y1 Y3)).2 := by
 intro k
 induction k with
 | zero => intro Y1 Y3 Z8P Z8Q hk; exact absurd hk (Nat.not_lt_zero _)
 | succ k ih =>
  intro Y1 Y3 Z8P Z8Q hk
  cases Yj : (decide (Y1 < (Y0.Me.Tr.length : Int))) with
  | true =>
   have YM := odt Yj
   have YS : (0 : Int) ≤ 1 := (by omega)
   have YT : 1 < (Y3.length : Int) := (by simp_all <;> omega)
   have YY : 1 < Y3.length := (by omega)
   have YZ : (0 : Int) ≤ Y1 := (by assumption)
   have y_4 : Y1 < (Y0.Me.Tr.length : Int) := (by assumption)
   have y_5 : (Y0.Me.Tr.getD Y1.toNat default).length ≤ 1073741824 := (by exact tri3L hp5.e (by assumption) Yj)
   have y_6 : (Y0.Me.Tr.getD Y1.toNat default).length = 3 ∧ ∀ x ∈ (Y0.Me.Tr.getD Y1.toNat default), 0 ≤ x ∧ x < (Y0.Me.Pq.length : Int) := (by exact tri3 hp5.e (by assumption) Yj)
   have y_7 : (-9223372036854775808 : Int) ≤ (Y1 + 1) := (by omega)
   have y_8 : (Y1 + 1) ≤ (9223372036854775807 : Int) := (by omega)
   have e : Z1w Y0 (k + 1) Y1 Y3 = (Z1w Y0 k (Y1 + 1) (Y3.set 1 (Z3R Y0 Y1 Y3))) := by simp only [Z1w, Yj, cond_true]
   rw [e]
   exact nextS E0Ok Z5 [] Z8O [0] (⟨.ref (Gb.c Y0) 0 :: .any :: .nils :: .own 0 :: .ref (Gb.c Y0) 0 :: an 8 (.own 0 :: .ref (Gb.c Y0) 0 :: .ref (Gb.c Y0) 0 :: .ref (Gb.c Y0) 0 :: .ref (Gb.c Y0) 0 :: .ref (Gb.c Y0) 0 :: .ref (Gb.c Y0) 2 :: .sl (Y0.Sp.map Gs.c) :: an 45 (.ref (Gb.c Y0) 0 :: .ref (Gb.c Y0) 0 :: .ref (Gb.c Y0) 1 :: .sl (Y0.Me.Tr.map (cL (cI .i64))) :: .i .i64 (Y0.Me.Tr.length : Int) :: .i .i64 (Y1 + 1) :: an 88 [])), [.vec 27 1 ((Y3.map (cF .f32)).set 1 [.f .f32 (Z3R Y0 Y1 Y3)]) false]⟩) (sB Yj <| sK [19, 19] <| sX (cF .f32) Y3 1 YS YT <| sV (cF .f32) Y3 1 YY <| sG (cL (cI .i64)) Y0.Me.Tr Y1 YZ y_4 <| sF (Fn.sub (args := [.ref (Gb.c Y0) 0, .sl ((Y0.Me.Tr.getD Y1.toNat default).map (cI .i64))]) (r := .agg [.f .f32 ((Zi Y0.Me (Y0.Me.Tr.getD Y1.toNat default)).X), .f .f32 ((Zi Y0.Me (Y0.Me.Tr.getD Y1.toNat default)).Y), .f .f32 ((Zi Y0.Me (Y0.Me.Tr.getD Y1.toNat default)).Z)]) (new := []) [some 2, none] (Zb1 Y0.Me (Y0.Me.Tr.getD Y1.toNat default) hp0 hp1 hp2 y_5 y_6)) <| sF (Z7t (Zi Y0.Me (Y0.Me.Tr.getD Y1.toNat default))) <| sX (cF .f32) Y3 1 YS YT <| sC (maplt (c := (cF .f32)) (l := Y3) YY) <| sI (Y1 + 1) y_7 y_8 <| sN) (by kernel_rfl) (by simp [Za9, List.map_set, cF]) (ih (Y1 + 1) (Y3.set 1 (Z3R Y0 Y1 Y3)) (show 0 ≤ (Y1 + 1) from (by omega)) (show (Y3.set 1 (Z3R Y0 Y1 Y3)).length = (Z2f Y0).length from (by simp_all <;> omega)) (by omega))
  | false =>
   have YM := odf Yj
   have e : Z1w Y0 (k + 1) Y1 Y3 = Y3 := by simp only [Z1w, Yj, cond_false]
   rw [e]
   exact outR (e := (.exit 2)) E0Ok Z5 [] Zcw [0] (sB Yj <| sN) (by kernel_rfl) (by intro h; cases h)
theorem Zcx (Y0 : Gb) : ∀ (k : Nat) (Y1 : Int) (Y3 : (List Nat)) (hk : ((Y0.Me.Tr.length : Int) - Y1).toNat < k), (Z1w Y0 k Y1 Y3).length = Y3.length := by
  intro k
  induction k with
  | zero => intro Y1 Y3 hk; exact absurd hk (Nat.not_lt_zero _)
  | succ k ih =>
    intro Y1 Y3 hk
    cases Yj : (decide (Y1 < (Y0.Me.Tr.length : Int))) with
    | true =>
      have e : Z1w Y0 (k + 1) Y1 Y3 = (Z1w Y0 k (Y1 + 1) (Y3.set 1 (Z3R Y0 Y1 Y3))) := by simp only [Z1w, Yj, cond_true]
      rw [e, ih (Y1 + 1) (Y3.set 1 (Z3R Y0 Y1 Y3)) (by simp_all <;> omega)]; simp
    | false =>
      have e : Z1w Y0 (k + 1) Y1 Y3 = Y3 := by simp only [Z1w, Yj, cond_false]
      first | (rw [e]; done) | (rw [e]; rfl)
def Z2g (Y0 : Gb) : (List Nat) := (Z1w Y0 (((Y0.Me.Tr.length : Int) - 0).toNat + 1) 0 (Z2f Y0))
@[simp] theorem ZaA (Y0 : Gb) : (Z2g Y0).length = ((Z2f Y0) : (List Nat)).length := Zcx Y0 (((Y0.Me.Tr.length : Int) - 0).toNat + 1) 0 (Z2f Y0) (by exact Nat.lt_succ_self _)
def Z3t (Y0 : Gb) (Y1 : Int) : Nat := (Z4M (ZW Y0.Me ((Z0 Y0.Me).getD Y1.toNat default)) (ZW Y0.Me ((Z0 Y0.Me).getD Y1.toNat default)))
def Z1j (Y0 : Gb) : Nat → Int → (List Nat) → (List Nat)
  | 0, _, _ => default
  | k + 1, Y1, Y3 => (cond (decide (Y1 < ((Z0 Y0.Me).length : Int)))
    (Z1j Y0 k (Y1 + 1) (Y3.set 2 (fop .add .f32 (Y3.getD 2 default) (fop .mul .f32 (fop .mul .f32 1056964608 Y0.Bend) (Z3t Y0 Y1)))))
    Y3)
def Z79 (Y0 : Gb) (r : (List Nat)) : Ex × St := ((.exit 4), ⟨.ref (Gb.c Y0) 0 :: .any :: .nils :: .own 0 :: .ref (Gb.c Y0) 0 :: an 4 (.own 1 :: .any :: .any :: .any :: .own 0 :: .ref (Gb.c Y0) 0 :: .ref (Gb.c Y0) 0 :: .ref (Gb.c Y0) 0 :: .ref (Gb.c Y0) 0 :: .ref (Gb.c Y0) 0 :: .ref (Gb.c Y0) 2 :: .sl (Y0.Sp.map Gs.c) :: an 45 (.ref (Gb.c Y0) 0 :: .ref (Gb.c Y0) 0 :: .ref (Gb.c Y0) 1 :: .sl (Y0.Me.Tr.map (cL (cI .i64))) :: an 26 (.ref (Gb.c Y0) 0 :: .own 1 :: .own 1 :: an 61 []))), [.vec 27 1 (r.map (cF .f32)) false, .nest 49 ((Z0 Y0.Me).map fun l => l.map (cI .i64)) false]⟩)
def Zaa (Y0 : Gb) (Y1 : Int) (Y3 : (List Nat)) : St := ⟨.ref (Gb.c Y0) 0 :: .any :: .nils :: .own 0 :: .ref (Gb.c Y0) 0 :: an 4 (.own 1 :: .any :: .any :: .any :: .own 0 :: .ref (Gb.c Y0) 0 :: .ref (Gb.c Y0) 0 :: .ref (Gb.c Y0) 0 :: .ref (Gb.c Y0) 0 :: .ref (Gb.c Y0) 0 :: .ref (Gb.c Y0) 2 :: .sl (Y0.Sp.map Gs.c) :: an 45 (.ref (Gb.c Y0) 0 :: .ref (Gb.c Y0) 0 :: .ref (Gb.c Y0) 1 :: .sl (Y0.Me.Tr.map (cL (cI .i64))) :: an 26 (.ref (Gb.c Y0) 0 :: .own 1 :: .own 1 :: .i .i64 ((Z0 Y0.Me).length : Int) :: .i .i64 Y1 :: an 59 []))), [.vec 27 1 (Y3.map (cF .f32)) false, .nest 49 ((Z0 Y0.Me).map fun l => l.map (cI .i64)) false]⟩
def Z8R : List Bool := (mR false [0, 1, 1, 3, 4, 1, 3, 8, 45, 4, 26, 5, 59])
def Zcy : List Bool := (mR false [0, 1, 1, 3, 4, 1, 3, 8, 45, 4, 26, 3, 61])
theorem ZdC (Y0 : Gb) (hp0 : Y0.Me.Pq.length ≤ 1073741824) (hp1 : Y0.Me.Tr.length ≤ 1073741824) (hp2 : ∀ t ∈ Y0.Me.Tr, t.length ≤ 1073741824) (hp3 : Y0.Sp.length ≤ 1073741824) (hp4 : Y0.We.length ≤ 1073741824) (hp5 : OkBd Y0) : ∀ (k : Nat) (Y1 : Int) (Y3 : (List Nat)) (Z8S : 0 ≤ Y1) (Z8T : Y3.length = (Z2g Y0).length) (hk : (((Z0 Y0.Me).length : Int) - Y1).toNat < k), Lp prog 0 (sub (bodyOf f133) [1, 1, 1, 1, 1, 1, 0, 1, 0, 0]) (Zaa Y0 Y1 Y3) (Z79 Y0 (Z1j Y0 k Y1 Y3)).1 (Z79 Y0 (Z1j Y0 k Y1 Y3)).2 := by
 intro k
 induction k with
 | zero => intro Y1 Y3 Z8S Z8T hk; exact absurd hk (Nat.not_lt_zero _)
 | succ k ih =>
  intro Y1 Y3 Z8S Z8T hk
  cases Yj : (decide (Y1 < ((Z0 Y0.Me).length : Int))) with
  | true =>
   have YM := odt Yj
   have YS : (0 : Int) ≤ Y1 := (by assumption)
   have YT : Int.toNat Y1 < (Z0 Y0.Me).length := (by omega)
   have YY : Y1.toNat < (Z0 Y0.Me).length := (by assumption)
   have YZ : ((Z0 Y0.Me).getD Y1.toNat default).length ≤ 1073741824 := (by exact ZhW hp5.e (by assumption) Yj)
   have y_4 : ((Z0 Y0.Me).getD Y1.toNat default).length = 4 ∧ ∀ x ∈ ((Z0 Y0.Me).getD Y1.toNat default), 0 ≤ x ∧ x < (Y0.Me.Pq.length : Int) := (by exact hin4 hp5.e (by assumption) Yj)
   have y_5 : (0 : Int) ≤ 2 := (by omega)
   have y_6 : 2 < (Y3.length : Int) := (by simp_all <;> omega)
   have y_7 : 2 < Y3.length := (by omega)
   have y_8 : (-9223372036854775808 : Int) ≤ (Y1 + 1) := (by omega)
   have y_9 : (Y1 + 1) ≤ (9223372036854775807 : Int) := (by have q := hp5.w; (have q := Z3I _ hp5.e; omega))
   have e : Z1j Y0 (k + 1) Y1 Y3 = (Z1j Y0 k (Y1 + 1) (Y3.set 2 (fop .add .f32 (Y3.getD 2 default) (fop .mul .f32 (fop .mul .f32 1056964608 Y0.Bend) (Z3t Y0 Y1))))) := by simp only [Z1j, Yj, cond_true]
   rw [e]
   exact nextS E0Ok Z5 [] Z8R [0, 1] (⟨.ref (Gb.c Y0) 0 :: .any :: .nils :: .own 0 :: .ref (Gb.c Y0) 0 :: an 4 (.own 1 :: .any :: .any :: .any :: .own 0 :: .ref (Gb.c Y0) 0 :: .ref (Gb.c Y0) 0 :: .ref (Gb.c Y0) 0 :: .ref (Gb.c Y0) 0 :: .ref (Gb.c Y0) 0 :: .ref (Gb.c Y0) 2 :: .sl (Y0.Sp.map Gs.c) :: an 45 (.ref (Gb.c Y0) 0 :: .ref (Gb.c Y0) 0 :: .ref (Gb.c Y0) 1 :: .sl (Y0.Me.Tr.map (cL (cI .i64))) :: an 26 (.ref (Gb.c Y0) 0 :: .own 1 :: .own 1 :: .i .i64 ((Z0 Y0.Me).length : Int) :: .i .i64 (Y1 + 1) :: an 59 []))), [.vec 27 1 ((Y3.map (cF .f32)).set 2 [.f .f32 (fop .add .f32 (Y3.getD 2 default) (fop .mul .f32 (fop .mul .f32 1056964608 Y0.Bend) (Z3t Y0 Y1)))]) false, .nest 49 ((Z0 Y0.Me).map fun l => l.map (cI .i64)) false]⟩) (sB Yj <| sC (nestix (c := (cI .i64)) (l := (Z0 Y0.Me)) (i := Y1) YS YT) <| sC (nestlt (c := (cI .i64)) (l := (Z0 Y0.Me)) YY) <| sF (Fn.sub (args := [.ref (Gb.c Y0) 0, .sl (((Z0 Y0.Me).map fun l => l.map (cI .i64)).getD Y1.toNat [])]) (r := .agg [.f .f32 ((ZW Y0.Me ((Z0 Y0.Me).getD Y1.toNat default)).X), .f .f32 ((ZW Y0.Me ((Z0 Y0.Me).getD Y1.toNat default)).Y), .f .f32 ((ZW Y0.Me ((Z0 Y0.Me).getD Y1.toNat default)).Z)]) (new := []) [some 2, none] (Fn.castA (args' := [.ref [.sl (Y0.Me.Pq.map Gv.c), .sl (Y0.Me.Tr.map (cL (cI .i64)))] 0, .sl (((Z0 Y0.Me).map fun l => l.map (cI .i64)).getD Y1.toNat [])]) (Zc3 Y0.Me ((Z0 Y0.Me).getD Y1.toNat default) hp0 hp1 hp2 YZ y_4) (by simp [cI]; rfl))) <| sK [12, 12] <| sX (cF .f32) Y3 2 y_5 y_6 <| sV (cF .f32) Y3 2 y_7 <| sF (Z8F (ZW Y0.Me ((Z0 Y0.Me).getD Y1.toNat default)) (ZW Y0.Me ((Z0 Y0.Me).getD Y1.toNat default))) <| sX (cF .f32) Y3 2 y_5 y_6 <| sC (maplt (c := (cF .f32)) (l := Y3) y_7) <| sI (Y1 + 1) y_8 y_9 <| sN) (by kernel_rfl) (by simp [Zaa, List.map_set, cF]) (ih (Y1 + 1) (Y3.set 2 (fop .add .f32 (Y3.getD 2 default) (fop .mul .f32 (fop .mul .f32 1056964608 Y0.Bend) (Z3t Y0 Y1)))) (show 0 ≤ (Y1 + 1) from (by omega)) (show (Y3.set 2 (fop .add .f32 (Y3.getD 2 default) (fop .mul .f32 (fop .mul .f32 1056964608 Y0.Bend) (Z3t Y0 Y1)))).length = (Z2g Y0).length from (by simp_all <;> omega)) (by omega))
  | false =>
   have YM := odf Yj
   have e : Z1j Y0 (k + 1) Y1 Y3 = Y3 := by simp only [Z1j, Yj, cond_false]
   rw [e]
   exact outR (e := (.exit 4)) E0Ok Z5 [] Zcy [0, 1] (sB Yj <| sN) (by kernel_rfl) (by intro h; cases h)
theorem Zcz (Y0 : Gb) : ∀ (k : Nat) (Y1 : Int) (Y3 : (List Nat)) (hk : (((Z0 Y0.Me).length : Int) - Y1).toNat < k), (Z1j Y0 k Y1 Y3).length = Y3.length := by
  intro k
  induction k with
  | zero => intro Y1 Y3 hk; exact absurd hk (Nat.not_lt_zero _)
  | succ k ih =>
    intro Y1 Y3 hk
    cases Yj : (decide (Y1 < ((Z0 Y0.Me).length : Int))) with
    | true =>
      have e : Z1j Y0 (k + 1) Y1 Y3 = (Z1j Y0 k (Y1 + 1) (Y3.set 2 (fop .add .f32 (Y3.getD 2 default) (fop .mul .f32 (fop .mul .f32 1056964608 Y0.Bend) (Z3t Y0 Y1))))) := by simp only [Z1j, Yj, cond_true]
      rw [e, ih (Y1 + 1) (Y3.set 2 (fop .add .f32 (Y3.getD 2 default) (fop .mul .f32 (fop .mul .f32 1056964608 Y0.Bend) (Z3t Y0 Y1)))) (by simp_all <;> omega)]; simp
    | false =>
      have e : Z1j Y0 (k + 1) Y1 Y3 = Y3 := by simp only [Z1j, Yj, cond_false]
      first | (rw [e]; done) | (rw [e]; rfl)
def Z2h (Y0 : Gb) : (List Nat) := (Z1j Y0 ((((Z0 Y0.Me).length : Int) - 0).toNat + 1) 0 (Z2g Y0))
@[simp] theorem ZaB (Y0 : Gb) : (Z2h Y0).length = ((Z2g Y0) : (List Nat)).length := Zcz Y0 ((((Z0 Y0.Me).length : Int) - 0).toNat + 1) 0 (Z2g Y0) (by exact Nat.lt_succ_self _)
def Z3S (Y0 : Gb) (Y1 : Int) (Y3 : (List Nat)) : Nat := (fop .add .f32 (Y3.getD 3 default) (fneg .f32 (fop .mul .f32 (Y0.We.getD Y1.toNat default) (Z4M Y0.Fall (Y0.Me.Pq.getD Y1.toNat default)))))
def Z1x (Y0 : Gb) : Nat → Int → (List Nat) → (List Nat)
  | 0, _, _ => default
  | k + 1, Y1, Y3 => (cond (decide (Y1 < (Y0.Me.Pq.length : Int)))
    (Z1x Y0 k (Y1 + 1) (Y3.set 3 (Z3S Y0 Y1 Y3)))
    Y3)
def Z7a (Y0 : Gb) (r : (List Nat)) : Ex × St := ((.exit 6), ⟨.ref (Gb.c Y0) 0 :: .any :: .nils :: .own 0 :: .ref (Gb.c Y0) 0 :: an 4 (.own 1 :: .any :: .any :: .any :: .own 0 :: .ref (Gb.c Y0) 0 :: .ref (Gb.c Y0) 0 :: .ref (Gb.c Y0) 0 :: .ref (Gb.c Y0) 0 :: .ref (Gb.c Y0) 0 :: .ref (Gb.c Y0) 2 :: .sl (Y0.Sp.map Gs.c) :: an 45 (.ref (Gb.c Y0) 0 :: .ref (Gb.c Y0) 0 :: .ref (Gb.c Y0) 1 :: .sl (Y0.Me.Tr.map (cL (cI .i64))) :: an 26 (.ref (Gb.c Y0) 0 :: .own 1 :: .own 1 :: an 25 (.ref (Gb.c Y0) 0 :: .ref (Gb.c Y0) 0 :: .ref (Gb.c Y0) 0 :: .sl (Y0.Me.Pq.map Gv.c) :: an 32 [])))), [.vec 27 1 (r.map (cF .f32)) false, .nest 49 ((Z0 Y0.Me).map fun l => l.map (cI .i64)) false]⟩)
def Zab (Y0 : Gb) (Y1 : Int) (Y3 : (List Nat)) : St := ⟨.ref (Gb.c Y0) 0 :: .any :: .nils :: .own 0 :: .ref (Gb.c Y0) 0 :: an 4 (.own 1 :: .any :: .any :: .any :: .own 0 :: .ref (Gb.c Y0) 0 :: .ref (Gb.c Y0) 0 :: .ref (Gb.c Y0) 0 :: .ref (Gb.c Y0) 0 :: .ref (Gb.c Y0) 0 :: .ref (Gb.c Y0) 2 :: .sl (Y0.Sp.map Gs.c) :: an 45 (.ref (Gb.c Y0) 0 :: .ref (Gb.c Y0) 0 :: .ref (Gb.c Y0) 1 :: .sl (Y0.Me.Tr.map (cL (cI .i64))) :: an 26 (.ref (Gb.c Y0) 0 :: .own 1 :: .own 1 :: an 25 (.ref (Gb.c Y0) 0 :: .ref (Gb.c Y0) 0 :: .ref (Gb.c Y0) 0 :: .sl (Y0.Me.Pq.map Gv.c) :: .i .i64 (Y0.Me.Pq.length : Int) :: .i .i64 Y1 :: an 30 [])))), [.vec 27 1 (Y3.map (cF .f32)) false, .nest 49 ((Z0 Y0.Me).map fun l => l.map (cI .i64)) false]⟩
def Z8U : List Bool := (mR false [0, 1, 1, 3, 4, 1, 3, 8, 45, 4, 26, 3, 25, 6, 30])
def ZcA : List Bool := (mR false [0, 1, 1, 3, 4, 1, 3, 8, 45, 4, 26, 3, 25, 4, 32])
end Go.Ab
