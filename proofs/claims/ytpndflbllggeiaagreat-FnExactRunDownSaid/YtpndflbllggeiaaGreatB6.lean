/- The functions of this seat as plain Lean, and that the program's are these. Printed by a program of the prover's own. -/
import Derived.Test.YtpndflbllggeiaaGreatB5
set_option linter.unusedVariables false
set_option linter.unusedSimpArgs false
set_option maxRecDepth 100000
namespace Go.Ab
open Go.RowKit Go.Proofs.Tryz
def Zo (n_0 : Int) (YX : Int) (YO : Int) : Bool := (cond (decide (n_0 ≥ YX))
  (decide (n_0 ≤ YO))
  false)
theorem Z6j (n_0 : Int) (YX : Int) (YO : Int)   : Fn prog 83 [.i .i64 n_0, .i .i64 YX, .i .i64 YO] (.b (Zo n_0 YX YO)) [] := by
 cases h0 : (decide (n_0 ≥ YX)) with
 | true =>
  have gh0 := odt h0
  refine fnS E0Ok Z5 (c := bodyOf f83) [] (.b (decide (n_0 ≤ YO))) [] func83 (sB h0 <| sB h0 <| sB h0 <| sB h0 <| sK [] sN) rfl (by kernel_rfl) (by kernel_rfl) rfl ?_ ?_
  · simp only [Zo, h0, cond_true]
  · rfl
 | false =>
  have gh0 := odf h0
  refine fnS E0Ok Z5 (c := bodyOf f83) [] (.b false) [] func83 (sB h0 <| sB h0 <| sB h0 <| sB h0 <| sK [] sN) rfl (by kernel_rfl) (by kernel_rfl) rfl ?_ ?_
  · simp only [Zo, h0, cond_false]
  · rfl
def Z2a (Y7 : Gm) (Y1 : Int) : Nat → Int → (Unit) ⊕ (Unit)
  | 0, _ => .inl default
  | k + 1, Y6 => (cond (decide (Y6 < ((Y7.Tr.getD Y1.toNat default).length : Int)))
    (cond (Zo ((Y7.Tr.getD Y1.toNat default).getD Y6.toNat default) 0 (IntKind.wrap .i64 ((Y7.Pq.length : Int) - 1)))
      (Z2a Y7 Y1 k (Y6 + 1))
      (.inl ()))
    (.inr ()))
def Z5o (Y7 : Gm) (Y1 : Int) : (Unit) ⊕ (Unit) → Ex × St
  | .inl r => (.ret, ⟨.any :: .any :: .b false :: an 66 [], []⟩)
  | .inr r => ((.exit 2), ⟨.agg [.sl (Y7.Pq.map Gv.c), .sl (Y7.Tr.map (cL (cI .i64)))] :: .ptr 0 0 0 :: .any :: .i .i64 (Y7.Pq.length : Int) :: .any :: .sl ((Y7.Tr.getD Y1.toNat default).map (cI .i64)) :: .any :: .any :: .ptr 0 0 0 :: .sl (Y7.Pq.map Gv.c) :: .i .i64 (Y7.Pq.length : Int) :: .i .i64 (Y7.Pq.length : Int) :: .b (decide ((Y7.Pq.length : Int) > 64)) :: .b (decide ((Y7.Pq.length : Int) > 64)) :: .ptr 0 0 1 :: .sl (Y7.Tr.map (cL (cI .i64))) :: .i .i64 (Y7.Tr.length : Int) :: .b (decide ((Y7.Tr.length : Int) > 128)) :: .b (decide ((Y7.Tr.length : Int) > 128)) :: .ptr 0 0 1 :: .sl (Y7.Tr.map (cL (cI .i64))) :: .i .i64 (Y7.Tr.length : Int) :: .i .i64 Y1 :: .b (decide (Y1 < (Y7.Tr.length : Int))) :: .ref [.sl ((Y7.Tr.getD Y1.toNat default).map (cI .i64))] 0 :: .sl ((Y7.Tr.getD Y1.toNat default).map (cI .i64)) :: .sl ((Y7.Tr.getD Y1.toNat default).map (cI .i64)) :: .i .i64 ((Y7.Tr.getD Y1.toNat default).length : Int) :: .b (((Y7.Tr.getD Y1.toNat default).length : Int) != 3) :: .b (((Y7.Tr.getD Y1.toNat default).length : Int) != 3) :: .sl ((Y7.Tr.getD Y1.toNat default).map (cI .i64)) :: .ref [.i .i64 ((Y7.Tr.getD Y1.toNat default).getD 0 default)] 0 :: .i .i64 ((Y7.Tr.getD Y1.toNat default).getD 0 default) :: .sl ((Y7.Tr.getD Y1.toNat default).map (cI .i64)) :: .ref [.i .i64 ((Y7.Tr.getD Y1.toNat default).getD 1 default)] 0 :: .i .i64 ((Y7.Tr.getD Y1.toNat default).getD 1 default) :: .b (((Y7.Tr.getD Y1.toNat default).getD 0 default) == ((Y7.Tr.getD Y1.toNat default).getD 1 default)) :: .b (((Y7.Tr.getD Y1.toNat default).getD 0 default) == ((Y7.Tr.getD Y1.toNat default).getD 1 default)) :: .b (((Y7.Tr.getD Y1.toNat default).getD 0 default) == ((Y7.Tr.getD Y1.toNat default).getD 1 default)) :: .sl ((Y7.Tr.getD Y1.toNat default).map (cI .i64)) :: .ref [.i .i64 ((Y7.Tr.getD Y1.toNat default).getD 1 default)] 0 :: .i .i64 ((Y7.Tr.getD Y1.toNat default).getD 1 default) :: .sl ((Y7.Tr.getD Y1.toNat default).map (cI .i64)) :: .ref [.i .i64 ((Y7.Tr.getD Y1.toNat default).getD 2 default)] 0 :: .i .i64 ((Y7.Tr.getD Y1.toNat default).getD 2 default) :: .b (((Y7.Tr.getD Y1.toNat default).getD 1 default) == ((Y7.Tr.getD Y1.toNat default).getD 2 default)) :: .b (((Y7.Tr.getD Y1.toNat default).getD 1 default) == ((Y7.Tr.getD Y1.toNat default).getD 2 default)) :: .b (((Y7.Tr.getD Y1.toNat default).getD 1 default) == ((Y7.Tr.getD Y1.toNat default).getD 2 default)) :: .sl ((Y7.Tr.getD Y1.toNat default).map (cI .i64)) :: .ref [.i .i64 ((Y7.Tr.getD Y1.toNat default).getD 0 default)] 0 :: .i .i64 ((Y7.Tr.getD Y1.toNat default).getD 0 default) :: .sl ((Y7.Tr.getD Y1.toNat default).map (cI .i64)) :: .ref [.i .i64 ((Y7.Tr.getD Y1.toNat default).getD 2 default)] 0 :: .i .i64 ((Y7.Tr.getD Y1.toNat default).getD 2 default) :: .b (((Y7.Tr.getD Y1.toNat default).getD 0 default) == ((Y7.Tr.getD Y1.toNat default).getD 2 default)) :: .b (((Y7.Tr.getD Y1.toNat default).getD 0 default) == ((Y7.Tr.getD Y1.toNat default).getD 2 default)) :: .sl ((Y7.Tr.getD Y1.toNat default).map (cI .i64)) :: .i .i64 ((Y7.Tr.getD Y1.toNat default).length : Int) :: an 11 [], [.box 38 [.sl (Y7.Pq.map Gv.c), .sl (Y7.Tr.map (cL (cI .i64)))]]⟩)
def Zdb (Y7 : Gm) (Y1 : Int) (Y6 : Int) : St := ⟨.agg [.sl (Y7.Pq.map Gv.c), .sl (Y7.Tr.map (cL (cI .i64)))] :: .ptr 0 0 0 :: .any :: .i .i64 (Y7.Pq.length : Int) :: .any :: .sl ((Y7.Tr.getD Y1.toNat default).map (cI .i64)) :: .any :: .any :: .ptr 0 0 0 :: .sl (Y7.Pq.map Gv.c) :: .i .i64 (Y7.Pq.length : Int) :: .i .i64 (Y7.Pq.length : Int) :: .b (decide ((Y7.Pq.length : Int) > 64)) :: .b (decide ((Y7.Pq.length : Int) > 64)) :: .ptr 0 0 1 :: .sl (Y7.Tr.map (cL (cI .i64))) :: .i .i64 (Y7.Tr.length : Int) :: .b (decide ((Y7.Tr.length : Int) > 128)) :: .b (decide ((Y7.Tr.length : Int) > 128)) :: .ptr 0 0 1 :: .sl (Y7.Tr.map (cL (cI .i64))) :: .i .i64 (Y7.Tr.length : Int) :: .i .i64 Y1 :: .b (decide (Y1 < (Y7.Tr.length : Int))) :: .ref [.sl ((Y7.Tr.getD Y1.toNat default).map (cI .i64))] 0 :: .sl ((Y7.Tr.getD Y1.toNat default).map (cI .i64)) :: .sl ((Y7.Tr.getD Y1.toNat default).map (cI .i64)) :: .i .i64 ((Y7.Tr.getD Y1.toNat default).length : Int) :: .b (((Y7.Tr.getD Y1.toNat default).length : Int) != 3) :: .b (((Y7.Tr.getD Y1.toNat default).length : Int) != 3) :: .sl ((Y7.Tr.getD Y1.toNat default).map (cI .i64)) :: .ref [.i .i64 ((Y7.Tr.getD Y1.toNat default).getD 0 default)] 0 :: .i .i64 ((Y7.Tr.getD Y1.toNat default).getD 0 default) :: .sl ((Y7.Tr.getD Y1.toNat default).map (cI .i64)) :: .ref [.i .i64 ((Y7.Tr.getD Y1.toNat default).getD 1 default)] 0 :: .i .i64 ((Y7.Tr.getD Y1.toNat default).getD 1 default) :: .b (((Y7.Tr.getD Y1.toNat default).getD 0 default) == ((Y7.Tr.getD Y1.toNat default).getD 1 default)) :: .b (((Y7.Tr.getD Y1.toNat default).getD 0 default) == ((Y7.Tr.getD Y1.toNat default).getD 1 default)) :: .b (((Y7.Tr.getD Y1.toNat default).getD 0 default) == ((Y7.Tr.getD Y1.toNat default).getD 1 default)) :: .sl ((Y7.Tr.getD Y1.toNat default).map (cI .i64)) :: .ref [.i .i64 ((Y7.Tr.getD Y1.toNat default).getD 1 default)] 0 :: .i .i64 ((Y7.Tr.getD Y1.toNat default).getD 1 default) :: .sl ((Y7.Tr.getD Y1.toNat default).map (cI .i64)) :: .ref [.i .i64 ((Y7.Tr.getD Y1.toNat default).getD 2 default)] 0 :: .i .i64 ((Y7.Tr.getD Y1.toNat default).getD 2 default) :: .b (((Y7.Tr.getD Y1.toNat default).getD 1 default) == ((Y7.Tr.getD Y1.toNat default).getD 2 default)) :: .b (((Y7.Tr.getD Y1.toNat default).getD 1 default) == ((Y7.Tr.getD Y1.toNat default).getD 2 default)) :: .b (((Y7.Tr.getD Y1.toNat default).getD 1 default) == ((Y7.Tr.getD Y1.toNat default).getD 2 default)) :: .sl ((Y7.Tr.getD Y1.toNat default).map (cI .i64)) :: .ref [.i .i64 ((Y7.Tr.getD Y1.toNat default).getD 0 default)] 0 :: .i .i64 ((Y7.Tr.getD Y1.toNat default).getD 0 default) :: .sl ((Y7.Tr.getD Y1.toNat default).map (cI .i64)) :: .ref [.i .i64 ((Y7.Tr.getD Y1.toNat default).getD 2 default)] 0 :: .i .i64 ((Y7.Tr.getD Y1.toNat default).getD 2 default) :: .b (((Y7.Tr.getD Y1.toNat default).getD 0 default) == ((Y7.Tr.getD Y1.toNat default).getD 2 default)) :: .b (((Y7.Tr.getD Y1.toNat default).getD 0 default) == ((Y7.Tr.getD Y1.toNat default).getD 2 default)) :: .sl ((Y7.Tr.getD Y1.toNat default).map (cI .i64)) :: .i .i64 ((Y7.Tr.getD Y1.toNat default).length : Int) :: .i .i64 Y6 :: an 10 [], [.box 38 [.sl (Y7.Pq.map Gv.c), .sl (Y7.Tr.map (cL (cI .i64)))]]⟩
def Z5M : List Bool := (mR false [0, 2, 1, 1, 1, 1, 2, 51, 10])
def Zcf : List Bool := (mR false [0, 2, 1, 1, 1, 1, 2, 50, 11])
theorem Z9v (Y7 : Gm) (Y1 : Int) (hp0 : Y7.Pq.length ≤ 1073741824) (hp1 : Y7.Tr.length ≤ 1073741824) (hp2 : ∀ t ∈ Y7.Tr, t.length ≤ 1073741824) (Z4l : (decide ((Y7.Pq.length : Int) > 64)) = false) (Z4m : (decide ((Y7.Tr.length : Int) > 128)) = false) (Z4n : 0 ≤ Y1) (Zh6 : (((Y7.Tr.getD Y1.toNat default).length : Int) != 3) = false) (Zh7 : (decide ((Y7.Pq.length : Int) > 64)) = false) (Zh8 : (decide ((Y7.Tr.length : Int) > 128)) = false) (Zh9 : (decide (Y1 < (Y7.Tr.length : Int))) = true) : ∀ (k : Nat) (Y6 : Int) (Z8r : 0 ≤ Y6) (hk : (((Y7.Tr.getD Y1.toNat default).length : Int) - Y6).toNat < k), Lp prog 0 (sub (bodyOf f105) [1, 1, 1, 0, 1, 0, 0, 1, 1, 0, 0, 1, 1, 1, 0, 0]) (Zdb Y7 Y1 Y6) (Z5o Y7 Y1 (Z2a Y7 Y1 k Y6)).1 (Z5o Y7 Y1 (Z2a Y7 Y1 k Y6)).2 := by
 intro k
 induction k with
 | zero => intro Y6 Z8r hk; exact absurd hk (Nat.not_lt_zero _)
 | succ k ih =>
  intro Y6 Z8r hk
  cases YW : (decide (Y6 < ((Y7.Tr.getD Y1.toNat default).length : Int))) with
  | true =>
   have YU := odt YW
   have Y1g : (0 : Int) ≤ Y6 := (by assumption)
   have Y1h : Y6 < ((Y7.Tr.getD Y1.toNat default).length : Int) := (by assumption)
   have p {a C} (s : Scr a C) := sB YW <| sG (cI .i64) (Y7.Tr.getD Y1.toNat default) Y6 Y1g Y1h <| sW .i64 ((Y7.Pq.length : Int) - 1) <| sF (Z6j ((Y7.Tr.getD Y1.toNat default).getD Y6.toNat default) 0 (IntKind.wrap .i64 ((Y7.Pq.length : Int) - 1))) <| s
   cases Y19 : (Zo ((Y7.Tr.getD Y1.toNat default).getD Y6.toNat default) 0 (IntKind.wrap .i64 ((Y7.Pq.length : Int) - 1))) with
   | true =>
    have Y1e : (-9223372036854775808 : Int) ≤ (Y6 + 1) := by clear p; exact (by omega)
    have Y1b : (Y6 + 1) ≤ (9223372036854775807 : Int) := by clear p; exact (by simp_all <;> omega)
    have e : Z2a Y7 Y1 (k + 1) Y6 = (Z2a Y7 Y1 k (Y6 + 1)) := by simp only [Z2a, YW, Y19, cond_true]
    rw [e]
    exact nextR E0Ok Z5 [] Z5M [0] (ih (Y6 + 1) (show 0 ≤ (Y6 + 1) from (by omega)) (by omega)) (p (sB' Y19 <| sI (Y6 + 1) Y1e Y1b <| sN)) (by kernel_rfl)
   | false =>
    have e : Z2a Y7 Y1 (k + 1) Y6 = (.inl ()) := by simp only [Z2a, YW, Y19, cond_true, cond_false]
    rw [e]
    exact outR (e := .ret) E0Ok Z5 [] (mR false [2, 1, 66]) [] (p (sB' Y19 <| sN)) (by kernel_rfl) (by intro h; cases h)
  | false =>
   have YU := odf YW
   have e : Z2a Y7 Y1 (k + 1) Y6 = (.inr ()) := by simp only [Z2a, YW, cond_false]
   rw [e]
   exact outR (e := (.exit 2)) E0Ok Z5 [] Zcf [0] (sB YW <| sN) (by kernel_rfl) (by intro h; cases h)
def Z3N (Y7 : Gm) (Y1 : Int) : (Unit) ⊕ (Unit) := (Z2a Y7 Y1 ((((Y7.Tr.getD Y1.toNat default).length : Int) - 0).toNat + 1) 0)
def ZB (Y7 : Gm) : Nat → Int → (Unit) ⊕ (Unit)
  | 0, _ => .inl default
  | k + 1, Y1 => (cond (decide (Y1 < (Y7.Tr.length : Int)))
    (cond (((Y7.Tr.getD Y1.toNat default).length : Int) != 3)
      (.inl ())
      (cond (((Y7.Tr.getD Y1.toNat default).getD 0 default) == ((Y7.Tr.getD Y1.toNat default).getD 1 default))
        (.inl ())
        (cond (((Y7.Tr.getD Y1.toNat default).getD 1 default) == ((Y7.Tr.getD Y1.toNat default).getD 2 default))
          (.inl ())
          (cond (((Y7.Tr.getD Y1.toNat default).getD 0 default) == ((Y7.Tr.getD Y1.toNat default).getD 2 default))
            (.inl ())
            (match (Z3N Y7 Y1) with
              | .inl r_6 => (.inl ())
              | .inr r_6 => (ZB Y7 k (Y1 + 1)))))))
    (.inr ()))
def Z5p (Y7 : Gm) : (Unit) ⊕ (Unit) → Ex × St
  | .inl r => (.ret, ⟨.any :: .any :: .b false :: an 66 [], []⟩)
  | .inr r => ((.exit 0), ⟨.agg [.sl (Y7.Pq.map Gv.c), .sl (Y7.Tr.map (cL (cI .i64)))] :: .ptr 0 0 0 :: .any :: .i .i64 (Y7.Pq.length : Int) :: an 4 (.ptr 0 0 0 :: .sl (Y7.Pq.map Gv.c) :: .i .i64 (Y7.Pq.length : Int) :: .i .i64 (Y7.Pq.length : Int) :: .b (decide ((Y7.Pq.length : Int) > 64)) :: .b (decide ((Y7.Pq.length : Int) > 64)) :: .ptr 0 0 1 :: .sl (Y7.Tr.map (cL (cI .i64))) :: .i .i64 (Y7.Tr.length : Int) :: .b (decide ((Y7.Tr.length : Int) > 128)) :: .b (decide ((Y7.Tr.length : Int) > 128)) :: .ptr 0 0 1 :: .sl (Y7.Tr.map (cL (cI .i64))) :: an 48 []), [.box 38 [.sl (Y7.Pq.map Gv.c), .sl (Y7.Tr.map (cL (cI .i64)))]]⟩)
def Zdc (Y7 : Gm) (Y1 : Int) : St := ⟨.agg [.sl (Y7.Pq.map Gv.c), .sl (Y7.Tr.map (cL (cI .i64)))] :: .ptr 0 0 0 :: .any :: .i .i64 (Y7.Pq.length : Int) :: an 4 (.ptr 0 0 0 :: .sl (Y7.Pq.map Gv.c) :: .i .i64 (Y7.Pq.length : Int) :: .i .i64 (Y7.Pq.length : Int) :: .b (decide ((Y7.Pq.length : Int) > 64)) :: .b (decide ((Y7.Pq.length : Int) > 64)) :: .ptr 0 0 1 :: .sl (Y7.Tr.map (cL (cI .i64))) :: .i .i64 (Y7.Tr.length : Int) :: .b (decide ((Y7.Tr.length : Int) > 128)) :: .b (decide ((Y7.Tr.length : Int) > 128)) :: .ptr 0 0 1 :: .sl (Y7.Tr.map (cL (cI .i64))) :: .i .i64 (Y7.Tr.length : Int) :: .i .i64 Y1 :: an 46 []), [.box 38 [.sl (Y7.Pq.map Gv.c), .sl (Y7.Tr.map (cL (cI .i64)))]]⟩
theorem Z9w (Y7 : Gm) (hp0 : Y7.Pq.length ≤ 1073741824) (hp1 : Y7.Tr.length ≤ 1073741824) (hp2 : ∀ t ∈ Y7.Tr, t.length ≤ 1073741824) (Z4l : (decide ((Y7.Pq.length : Int) > 64)) = false) (Z4m : (decide ((Y7.Tr.length : Int) > 128)) = false) : ∀ (k : Nat) (Y1 : Int) (Z4n : 0 ≤ Y1) (hk : ((Y7.Tr.length : Int) - Y1).toNat < k), Lp prog 0 (sub (bodyOf f105) [1, 1, 1, 0, 1, 0, 0]) (Zdc Y7 Y1) (Z5p Y7 (ZB Y7 k Y1)).1 (Z5p Y7 (ZB Y7 k Y1)).2 := by
 intro k
 induction k with
 | zero => intro Y1 Z4n hk; exact absurd hk (Nat.not_lt_zero _)
 | succ k ih =>
  intro Y1 Z4n hk
  cases Yj : (decide (Y1 < (Y7.Tr.length : Int))) with
  | true =>
   have YM := odt Yj
   have YS : (0 : Int) ≤ Y1 := (by assumption)
   have YT : Y1 < (Y7.Tr.length : Int) := (by assumption)
   have p {a C} (s : Scr a C) := sB Yj <| sG (cL (cI .i64)) Y7.Tr Y1 YS YT <| sK [28, 28] <| sZ (cI .i64) (Y7.Tr.getD Y1.toNat default) <| s
   cases YJ : (((Y7.Tr.getD Y1.toNat default).length : Int) != 3) with
   | true =>
    have Y1d := bne_iff_ne.1 YJ
    have e : ZB Y7 (k + 1) Y1 = (.inl ()) := by simp only [ZB, Yj, YJ, cond_true]
    rw [e]
    exact outR (e := .ret) E0Ok Z5 [] (mR false [2, 1, 66]) [] (p (sB YJ <| sB YJ <| sB YJ <| sB YJ <| sB YJ <| sB YJ <| sB YJ <| sB YJ <| sB (show true = true from rfl) <| sB (show true = true from rfl) <| sB (show true = true from rfl) <| sB (show true = true from rfl) <| sB (show true = true from rfl) <| sB (show true = true from rfl) <| sB (show true = true from rfl) <| sB (show true = true from rfl) <| sB (show true = true from rfl) <| sB (show true = true from rfl) <| sB (show true = true from rfl) <| sB (show true = true from rfl) <| sB (show true = true from rfl) <| sB (show true = true from rfl) <| sB (show true = true from rfl) <| sB (show true = true from rfl) <| sB (show true = true from rfl) <| sN)) (by kernel_rfl) (by intro h; cases h)
   | false =>
    have Y1d := bne_eq_false_iff_eq.1 YJ
    have YY : (0 : Int) ≤ 0 := by clear p; exact (by omega)
    have YZ : 0 < ((Y7.Tr.getD Y1.toNat default).length : Int) := by clear p; exact (by omega)
    have y_4 : (0 : Int) ≤ 1 := by clear p; exact (by omega)
    have y_5 : 1 < ((Y7.Tr.getD Y1.toNat default).length : Int) := by clear p; exact (by omega)
    have q {a C} (s : Scr a C) := p (sB YJ <| sB YJ <| sG (cI .i64) (Y7.Tr.getD Y1.toNat default) 0 YY YZ <| sB YJ <| sB YJ <| sB YJ <| sG (cI .i64) (Y7.Tr.getD Y1.toNat default) 1 y_4 y_5 <| sB YJ <| sB YJ <| sB YJ <| s)
    clear p
    cases h_2 : (((Y7.Tr.getD Y1.toNat default).getD 0 default) == ((Y7.Tr.getD Y1.toNat default).getD 1 default)) with
    | true =>
     have Y1r := eq_of_beq h_2
     have e : ZB Y7 (k + 1) Y1 = (.inl ()) := by simp only [ZB, Yj, YJ, h_2, cond_true, cond_false]
     rw [e]
     exact outR (e := .ret) E0Ok Z5 [] (mR false [2, 1, 66]) [] (q (sB h_2 <| sB h_2 <| sB h_2 <| sB h_2 <| sB h_2 <| sB h_2 <| sB h_2 <| sB h_2 <| sB (show true = true from rfl) <| sB (show true = true from rfl) <| sB (show true = true from rfl) <| sB (show true = true from rfl) <| sB (show true = true from rfl) <| sB (show true = true from rfl) <| sB (show true = true from rfl) <| sB (show true = true from rfl) <| sB (show true = true from rfl) <| sN)) (by kernel_rfl) (by intro h; cases h)
    | false =>
     have Y1r := ne_of_beq_false h_2
     have y_6 : (0 : Int) ≤ 2 := by clear q; exact (by omega)
     have y_7 : 2 < ((Y7.Tr.getD Y1.toNat default).length : Int) := by clear q; exact (by omega)
     have p {a C} (s : Scr a C) := q (sB h_2 <| sB h_2 <| sG (cI .i64) (Y7.Tr.getD Y1.toNat default) 1 y_4 y_5 <| sB h_2 <| sB h_2 <| sB h_2 <| sG (cI .i64) (Y7.Tr.getD Y1.toNat default) 2 y_6 y_7 <| sB h_2 <| sB h_2 <| sB h_2 <| s)
     clear q
     cases h_3 : (((Y7.Tr.getD Y1.toNat default).getD 1 default) == ((Y7.Tr.getD Y1.toNat default).getD 2 default)) with
     | true =>
      have Y1I := eq_of_beq h_3
      have e : ZB Y7 (k + 1) Y1 = (.inl ()) := by simp only [ZB, Yj, YJ, h_2, h_3, cond_true, cond_false]
      rw [e]
      exact outR (e := .ret) E0Ok Z5 [] (mR false [2, 1, 66]) [] (p (sB h_3 <| sB h_3 <| sB h_3 <| sB h_3 <| sB h_3 <| sB h_3 <| sB h_3 <| sB h_3 <| sB (show true = true from rfl) <| sN)) (by kernel_rfl) (by intro h; cases h)
     | false =>
      have Y1I := ne_of_beq_false h_3
      have q {a C} (s : Scr a C) := p (sB h_3 <| sB h_3 <| sG (cI .i64) (Y7.Tr.getD Y1.toNat default) 0 YY YZ <| sB h_3 <| sB h_3 <| sB h_3 <| sG (cI .i64) (Y7.Tr.getD Y1.toNat default) 2 y_6 y_7 <| sB h_3 <| sB h_3 <| sB h_3 <| s)
      clear p
      cases h_4 : (((Y7.Tr.getD Y1.toNat default).getD 0 default) == ((Y7.Tr.getD Y1.toNat default).getD 2 default)) with
      | true =>
       have gh_4 := eq_of_beq h_4
       have e : ZB Y7 (k + 1) Y1 = (.inl ()) := by simp only [ZB, Yj, YJ, h_2, h_3, h_4, cond_true, cond_false]
       rw [e]
       exact outR (e := .ret) E0Ok Z5 [] (mR false [2, 1, 66]) [] (q (sB h_4 <| sN)) (by kernel_rfl) (by intro h; cases h)
      | false =>
       have gh_4 := ne_of_beq_false h_4
       have p {a C} (s : Scr a C) := q (sB h_4 <| sZ (cI .i64) (Y7.Tr.getD Y1.toNat default) <| s)
       clear q
       cases h_5 : (Z3N Y7 Y1) with
       | inl r_6 =>
        have e : ZB Y7 (k + 1) Y1 = (.inl ()) := by simp only [ZB, Yj, YJ, h_2, h_3, h_4, h_5, cond_true, cond_false]
        rw [e]
        exact outR (e := .ret) E0Ok Z5 [] (mR false [2, 1, 66]) [] (p (sL Z5M 1 (lp_val (Z5o Y7 Y1) (x := (Z3N Y7 Y1)) (Z9v Y7 Y1 hp0 hp1 hp2 Z4l Z4m Z4n YJ Z4l Z4m Yj ((((Y7.Tr.getD Y1.toNat default).length : Int) - 0).toNat + 1) 0 (show 0 ≤ 0 from (by assumption)) (Nat.lt_succ_self _)) h_5) <| sN)) (by kernel_rfl) (by intro h; cases h)
       | inr r_6 =>
        have y_8 : (-9223372036854775808 : Int) ≤ (Y1 + 1) := by clear p; exact (by omega)
        have y_9 : (Y1 + 1) ≤ (9223372036854775807 : Int) := by clear p; exact (by omega)
        have e : ZB Y7 (k + 1) Y1 = (ZB Y7 k (Y1 + 1)) := by simp only [ZB, Yj, YJ, h_2, h_3, h_4, h_5, cond_true, cond_false]
        rw [e]
        exact nextR E0Ok Z5 [] (mR false [0, 2, 1, 1, 4, 15, 46]) [0] (ih (Y1 + 1) (show 0 ≤ (Y1 + 1) from (by omega)) (by omega)) (p (sL Z5M 1 (lp_val (Z5o Y7 Y1) (x := (Z3N Y7 Y1)) (Z9v Y7 Y1 hp0 hp1 hp2 Z4l Z4m Z4n YJ Z4l Z4m Yj ((((Y7.Tr.getD Y1.toNat default).length : Int) - 0).toNat + 1) 0 (show 0 ≤ 0 from (by assumption)) (Nat.lt_succ_self _)) h_5) <| sI (Y1 + 1) y_8 y_9 <| sN)) (by kernel_rfl)
  | false =>
   have YM := odf Yj
   have e : ZB Y7 (k + 1) Y1 = (.inr ()) := by simp only [ZB, Yj, cond_false]
   rw [e]
   exact outR (e := (.exit 0)) E0Ok Z5 [] (mR false [0, 2, 1, 1, 4, 13, 48]) [0] (sB Yj <| sN) (by kernel_rfl) (by intro h; cases h)
def Z4o (Y7 : Gm) : (Unit) ⊕ (Unit) := (ZB Y7 (((Y7.Tr.length : Int) - 0).toNat + 1) 0)
def Z1S (Y7 : Gm) : Bool := (cond (decide ((Y7.Pq.length : Int) > 64))
  false
  (cond (decide ((Y7.Tr.length : Int) > 128))
    false
    (match (Z4o Y7) with
      | .inl r3 => false
      | .inr r3 => true)))
theorem ZeR (Y7 : Gm) (hp0 : Y7.Pq.length ≤ 1073741824) (hp1 : Y7.Tr.length ≤ 1073741824) (hp2 : ∀ t ∈ Y7.Tr, t.length ≤ 1073741824)  : Fn prog 105 [.agg [.sl (Y7.Pq.map Gv.c), .sl (Y7.Tr.map (cL (cI .i64)))]] (.b (Z1S Y7)) [] := by
 have p {a C} (s : Scr a C) := sZ Gv.c Y7.Pq <| s
 cases h0 : (decide ((Y7.Pq.length : Int) > 64)) with
 | true =>
  have gh0 := odt h0
  refine fnS E0Ok Z5 (c := bodyOf f105) [] (.b false) [] func105 (p (sB h0 <| sB h0 <| sB h0 <| sB h0 <| sB h0 <| sB (show true = true from rfl) <| sK [] sN)) rfl (by kernel_rfl) (by kernel_rfl) rfl ?_ ?_
  · simp only [Z1S, h0, cond_true]
  · rfl
 | false =>
  have gh0 := odf h0
  have q {a C} (s : Scr a C) := p (sB h0 <| sB h0 <| sB h0 <| sZ (cL (cI .i64)) Y7.Tr <| sB h0 <| sB h0 <| s)
  clear p
  cases h1 : (decide ((Y7.Tr.length : Int) > 128)) with
  | true =>
   have gh1 := odt h1
   refine fnS E0Ok Z5 (c := bodyOf f105) [] (.b false) [] func105 (q (sB h1 <| sK [] sN)) rfl (by kernel_rfl) (by kernel_rfl) rfl ?_ ?_
   · simp only [Z1S, h0, h1, cond_true, cond_false]
   · rfl
  | false =>
   have gh1 := odf h1
   have p {a C} (s : Scr a C) := q (sB h1 <| sZ (cL (cI .i64)) Y7.Tr <| s)
   clear q
   cases h2 : (Z4o Y7) with
   | inl r3 =>
    refine fnS E0Ok Z5 (c := bodyOf f105) [] (.b false) [] func105 (p (sL (mR false [0, 2, 1, 1, 4, 15, 46]) 1 (lp_val (Z5p Y7) (x := (Z4o Y7)) (Z9w Y7 hp0 hp1 hp2 h0 h1 (((Y7.Tr.length : Int) - 0).toNat + 1) 0 (show 0 ≤ 0 from (by omega)) (Nat.lt_succ_self _)) h2) <| sK [] sN)) rfl (by kernel_rfl) (by kernel_rfl) rfl ?_ ?_
    · simp only [Z1S, h0, h1, h2, cond_false]
    · rfl
   | inr r3 =>
    refine fnS E0Ok Z5 (c := bodyOf f105) [] (.b true) [] func105 (p (sL (mR false [0, 2, 1, 1, 4, 15, 46]) 1 (lp_val (Z5p Y7) (x := (Z4o Y7)) (Z9w Y7 hp0 hp1 hp2 h0 h1 (((Y7.Tr.length : Int) - 0).toNat + 1) 0 (show 0 ≤ 0 from (by omega)) (Nat.lt_succ_self _)) h2) <| sK [] sN)) rfl (by kernel_rfl) (by kernel_rfl) rfl ?_ ?_
    · simp only [Z1S, h0, h1, h2, cond_false]
    · rfl
theorem triB (t : List Int) (n : Int) : (!((t.length : Int) != 3) && (!(t.getD 0 default == t.getD 1 default) && (!(t.getD 1 default == t.getD 2 default) && (!(t.getD 0 default == t.getD 2 default) && t.all fun x => Zo x 0 (IntKind.wrap .i64 (n - 1)))))) = ZT t n := by
  unfold ZT
  cases hl : ((t.length : Int) != 3) with
  | true => rfl
  | false =>
    have hl3 : t.length = 3 := by simp at hl; omega
    match t, hl3 with
    | [a, b, c], _ =>
      simp only [List.getD_cons_zero, List.getD_cons_succ, List.all_cons, List.all_nil, Bool.and_true]
      rw [show Zo = Zz from rfl]
      cases (a == b) <;> cases (b == c) <;> cases (a == c) <;> cases Zz a 0 (IntKind.wrap .i64 (n - 1)) <;> cases Zz b 0 (IntKind.wrap .i64 (n - 1)) <;> cases Zz c 0 (IntKind.wrap .i64 (n - 1)) <;> rfl
theorem ZgD (m : Gm) (k : Nat) (i : Int) : ZB m (k + 1) i = cond (decide (i < (m.Tr.length : Int))) (cond (ZT (m.Tr.getD i.toNat default) (m.Pq.length : Int)) (ZB m k (i + 1)) (.inl ())) (.inr ()) := by
  rw [ZB, ← triB]
  have hin : Z3N m i = cond ((m.Tr.getD i.toNat default).all fun x => Zo x 0 (IntKind.wrap .i64 ((m.Pq.length : Int) - 1))) (.inr ()) (.inl ()) := by
    unfold Z3N
    exact all_from (a := m.Tr.getD i.toNat default) (p := fun x => Zo x 0 (IntKind.wrap .i64 ((m.Pq.length : Int) - 1))) (lo := Z2a m i) (x := ()) (y := ()) (fun k i => rfl)
  rw [hin]
  generalize m.Tr.getD i.toNat default = t
  generalize (t.all fun x => Zo x 0 (IntKind.wrap .i64 ((m.Pq.length : Int) - 1))) = q
  cases ((t.length : Int) != 3) <;> cases (t.getD 0 default == t.getD 1 default) <;> cases (t.getD 1 default == t.getD 2 default) <;> cases (t.getD 0 default == t.getD 2 default) <;> cases q <;> rfl
theorem ZgE (m : Gm) : Z1S m = Z1s m := by
  rw [Z9R]
  unfold Z1S Z4o
  rw [all_from (a := m.Tr) (p := fun t => ZT t (m.Pq.length : Int)) (lo := ZB m) (x := ()) (y := ()) (ZgD m)]
  cases (m.Tr.all fun t => ZT t (m.Pq.length : Int)) <;> rfl
def ZO (Y2 : Gb) : Nat → Int → (Unit) ⊕ (Unit)
  | 0, _ => .inl default
  | k + 1, Y1 => (cond (decide (Y1 < (Y2.Sp.length : Int)))
    (cond (Zo ((Y2.Sp.getD Y1.toNat default).A) 0 (IntKind.wrap .i64 ((Y2.Me.Pq.length : Int) - 1)))
      (cond (Zo ((Y2.Sp.getD Y1.toNat default).B) 0 (IntKind.wrap .i64 ((Y2.Me.Pq.length : Int) - 1)))
        (cond ((Y2.Sp.getD Y1.toNat default).A == (Y2.Sp.getD Y1.toNat default).B)
          (.inl ())
          (cond (fcmp .geq .f32 ((Y2.Sp.getD Y1.toNat default).Long) 0)
            (ZO Y2 k (Y1 + 1))
            (.inl ())))
        (.inl ()))
      (.inl ()))
    (.inr ()))
def Z5q (Y2 : Gb) : (Unit) ⊕ (Unit) → Ex × St
  | .inl r => (.ret, ⟨.any :: .any :: .b false :: an 59 [], []⟩)
  | .inr r => ((.exit 0), ⟨.agg [.sl (Y2.Me.Pq.map Gv.c), .sl (Y2.Me.Tr.map (cL (cI .i64))), .sl (Y2.Sp.map Gs.c), .f .f32 Y2.Film, .f .f32 Y2.Bend, .sl (Y2.We.map (cF .f32)), .f .f32 Y2.Fall.X, .f .f32 Y2.Fall.Y, .f .f32 Y2.Fall.Z] :: .ptr 0 0 0 :: .any :: .i .i64 (Y2.Me.Pq.length : Int) :: .any :: .any :: .ptr 0 0 0 :: .ptr 0 0 0 :: .sl (Y2.Me.Pq.map Gv.c) :: .i .i64 (Y2.Me.Pq.length : Int) :: .ptr 0 0 0 :: .agg [.sl (Y2.Me.Pq.map Gv.c), .sl (Y2.Me.Tr.map (cL (cI .i64)))] :: .b (Z1S Y2.Me) :: .b (!(Z1S Y2.Me)) :: .b (!(Z1S Y2.Me)) :: .ptr 0 0 2 :: .sl (Y2.Sp.map Gs.c) :: .i .i64 (Y2.Sp.length : Int) :: .b (decide ((Y2.Sp.length : Int) > 200)) :: .b (decide ((Y2.Sp.length : Int) > 200)) :: .b (decide ((Y2.Sp.length : Int) > 200)) :: .ptr 0 0 5 :: .sl (Y2.We.map (cF .f32)) :: .i .i64 (Y2.We.length : Int) :: .i .i64 (Y2.Me.Pq.length : Int) :: .b ((Y2.We.length : Int) != (Y2.Me.Pq.length : Int)) :: .b ((Y2.We.length : Int) != (Y2.Me.Pq.length : Int)) :: .ptr 0 0 2 :: .sl (Y2.Sp.map Gs.c) :: an 33 [], [.box 42 [.sl (Y2.Me.Pq.map Gv.c), .sl (Y2.Me.Tr.map (cL (cI .i64))), .sl (Y2.Sp.map Gs.c), .f .f32 Y2.Film, .f .f32 Y2.Bend, .sl (Y2.We.map (cF .f32)), .f .f32 Y2.Fall.X, .f .f32 Y2.Fall.Y, .f .f32 Y2.Fall.Z]]⟩)
def Zdd (Y2 : Gb) (Y1 : Int) : St := ⟨.agg [.sl (Y2.Me.Pq.map Gv.c), .sl (Y2.Me.Tr.map (cL (cI .i64))), .sl (Y2.Sp.map Gs.c), .f .f32 Y2.Film, .f .f32 Y2.Bend, .sl (Y2.We.map (cF .f32)), .f .f32 Y2.Fall.X, .f .f32 Y2.Fall.Y, .f .f32 Y2.Fall.Z] :: .ptr 0 0 0 :: .any :: .i .i64 (Y2.Me.Pq.length : Int) :: .any :: .any :: .ptr 0 0 0 :: .ptr 0 0 0 :: .sl (Y2.Me.Pq.map Gv.c) :: .i .i64 (Y2.Me.Pq.length : Int) :: .ptr 0 0 0 :: .agg [.sl (Y2.Me.Pq.map Gv.c), .sl (Y2.Me.Tr.map (cL (cI .i64)))] :: .b (Z1S Y2.Me) :: .b (!(Z1S Y2.Me)) :: .b (!(Z1S Y2.Me)) :: .ptr 0 0 2 :: .sl (Y2.Sp.map Gs.c) :: .i .i64 (Y2.Sp.length : Int) :: .b (decide ((Y2.Sp.length : Int) > 200)) :: .b (decide ((Y2.Sp.length : Int) > 200)) :: .b (decide ((Y2.Sp.length : Int) > 200)) :: .ptr 0 0 5 :: .sl (Y2.We.map (cF .f32)) :: .i .i64 (Y2.We.length : Int) :: .i .i64 (Y2.Me.Pq.length : Int) :: .b ((Y2.We.length : Int) != (Y2.Me.Pq.length : Int)) :: .b ((Y2.We.length : Int) != (Y2.Me.Pq.length : Int)) :: .ptr 0 0 2 :: .sl (Y2.Sp.map Gs.c) :: .i .i64 (Y2.Sp.length : Int) :: .i .i64 Y1 :: an 31 [], [.box 42 [.sl (Y2.Me.Pq.map Gv.c), .sl (Y2.Me.Tr.map (cL (cI .i64))), .sl (Y2.Sp.map Gs.c), .f .f32 Y2.Film, .f .f32 Y2.Bend, .sl (Y2.We.map (cF .f32)), .f .f32 Y2.Fall.X, .f .f32 Y2.Fall.Y, .f .f32 Y2.Fall.Z]]⟩
theorem Z9x (Y2 : Gb) (hp0 : Y2.Me.Pq.length ≤ 1073741824) (hp1 : Y2.Me.Tr.length ≤ 1073741824) (hp2 : ∀ t ∈ Y2.Me.Tr, t.length ≤ 1073741824) (hp3 : Y2.Sp.length ≤ 1073741824) (hp4 : Y2.We.length ≤ 1073741824) (Zha : ((Y2.We.length : Int) != (Y2.Me.Pq.length : Int)) = false) (Zhb : (decide ((Y2.Sp.length : Int) > 200)) = false) (Zhc : (Z1S Y2.Me) = true) : ∀ (k : Nat) (Y1 : Int) (Z8s : 0 ≤ Y1) (hk : ((Y2.Sp.length : Int) - Y1).toNat < k), Lp prog 0 (sub (bodyOf f56) [1, 1, 1, 0, 1, 0, 0]) (Zdd Y2 Y1) (Z5q Y2 (ZO Y2 k Y1)).1 (Z5q Y2 (ZO Y2 k Y1)).2 := by
 intro k
 induction k with
 | zero => intro Y1 Z8s hk; exact absurd hk (Nat.not_lt_zero _)
 | succ k ih =>
  intro Y1 Z8s hk
  cases Yj : (decide (Y1 < (Y2.Sp.length : Int))) with
  | true =>
   have YM := odt Yj
   have YS : (0 : Int) ≤ Y1 := (by assumption)
   have YT : Y1 < (Y2.Sp.length : Int) := (by assumption)
   have p {a C} (s : Scr a C) := sB Yj <| sG Gs.c Y2.Sp Y1 YS YT <| sW .i64 ((Y2.Me.Pq.length : Int) - 1) <| sF (Z6j ((Y2.Sp.getD Y1.toNat default).A) 0 (IntKind.wrap .i64 ((Y2.Me.Pq.length : Int) - 1))) <| s
   cases YJ : (Zo ((Y2.Sp.getD Y1.toNat default).A) 0 (IntKind.wrap .i64 ((Y2.Me.Pq.length : Int) - 1))) with
   | true =>
    have q {a C} (s : Scr a C) := p (sB' YJ <| sB' YJ <| sB' YJ <| sB' YJ <| sW .i64 ((Y2.Me.Pq.length : Int) - 1) <| sB' YJ <| sF (Z6j ((Y2.Sp.getD Y1.toNat default).B) 0 (IntKind.wrap .i64 ((Y2.Me.Pq.length : Int) - 1))) <| sB' YJ <| sB' YJ <| s)
    clear p
    cases h_2 : (Zo ((Y2.Sp.getD Y1.toNat default).B) 0 (IntKind.wrap .i64 ((Y2.Me.Pq.length : Int) - 1))) with
    | true =>
     have p {a C} (s : Scr a C) := q (sB' h_2 <| sB' h_2 <| sB' h_2 <| sB' h_2 <| sB' h_2 <| sB' h_2 <| s)
     clear q
     cases h_3 : ((Y2.Sp.getD Y1.toNat default).A == (Y2.Sp.getD Y1.toNat default).B) with
     | true =>
      have Y1I := eq_of_beq h_3
      have e : ZO Y2 (k + 1) Y1 = (.inl ()) := by simp only [ZO, Yj, YJ, h_2, h_3, cond_true]
      rw [e]
      exact outR (e := .ret) E0Ok Z5 [] (mR false [2, 1, 59]) [] (p (sB h_3 <| sB h_3 <| sB h_3 <| sB h_3 <| sB h_3 <| sB (show true = true from rfl) <| sN)) (by kernel_rfl) (by intro h; cases h)
     | false =>
      have Y1I := ne_of_beq_false h_3
      have q {a C} (s : Scr a C) := p (sB h_3 <| sB h_3 <| sB h_3 <| sB h_3 <| sB h_3 <| s)
      clear p
      cases h_4 : (fcmp .geq .f32 ((Y2.Sp.getD Y1.toNat default).Long) 0) with
      | true =>
       have YY : (-9223372036854775808 : Int) ≤ (Y1 + 1) := by clear q; exact (by omega)
       have YZ : (Y1 + 1) ≤ (9223372036854775807 : Int) := by clear q; exact (by omega)
       have e : ZO Y2 (k + 1) Y1 = (ZO Y2 k (Y1 + 1)) := by simp only [ZO, Yj, YJ, h_2, h_3, h_4, cond_true, cond_false]
       rw [e]
       exact nextR E0Ok Z5 [] (mR false [0, 2, 1, 1, 2, 25, 31]) [0] (ih (Y1 + 1) (show 0 ≤ (Y1 + 1) from (by omega)) (by omega)) (q (sB' h_4 <| sI (Y1 + 1) YY YZ <| sN)) (by kernel_rfl)
      | false =>
       have e : ZO Y2 (k + 1) Y1 = (.inl ()) := by simp only [ZO, Yj, YJ, h_2, h_3, h_4, cond_true, cond_false]
       rw [e]
       exact outR (e := .ret) E0Ok Z5 [] (mR false [2, 1, 59]) [] (q (sB' h_4 <| sN)) (by kernel_rfl) (by intro h; cases h)
    | false =>
     have e : ZO Y2 (k + 1) Y1 = (.inl ()) := by simp only [ZO, Yj, YJ, h_2, cond_true, cond_false]
     rw [e]
     exact outR (e := .ret) E0Ok Z5 [] (mR false [2, 1, 59]) [] (q (sB' h_2 <| sB' h_2 <| sB' h_2 <| sB' h_2 <| sB' h_2 <| sB' h_2 <| sB (show true = true from rfl) <| sB (show true = true from rfl) <| sB (show true = true from rfl) <| sB (show true = true from rfl) <| sB (show true = true from rfl) <| sB (show true = true from rfl) <| sN)) (by kernel_rfl) (by intro h; cases h)
   | false =>
    have e : ZO Y2 (k + 1) Y1 = (.inl ()) := by simp only [ZO, Yj, YJ, cond_true, cond_false]
    rw [e]
    exact outR (e := .ret) E0Ok Z5 [] (mR false [2, 1, 59]) [] (p (sB' YJ <| sB' YJ <| sB' YJ <| sB' YJ <| sB' YJ <| sB' YJ <| sB' YJ <| sB (show true = true from rfl) <| sB (show true = true from rfl) <| sB (show true = true from rfl) <| sB (show true = true from rfl) <| sB (show true = true from rfl) <| sB (show true = true from rfl) <| sB (show true = true from rfl) <| sB (show true = true from rfl) <| sB (show true = true from rfl) <| sB (show true = true from rfl) <| sB (show true = true from rfl) <| sB (show true = true from rfl) <| sN)) (by kernel_rfl) (by intro h; cases h)
  | false =>
   have YM := odf Yj
   have e : ZO Y2 (k + 1) Y1 = (.inr ()) := by simp only [ZO, Yj, cond_false]
   rw [e]
   exact outR (e := (.exit 0)) E0Ok Z5 [] (mR false [0, 2, 1, 1, 2, 23, 33]) [0] (sB Yj <| sN) (by kernel_rfl) (by intro h; cases h)
def Z4p (Y2 : Gb) : (Unit) ⊕ (Unit) := (ZO Y2 (((Y2.Sp.length : Int) - 0).toNat + 1) 0)
def Z20 (Y2 : Gb) : Bool := (cond (Z1S Y2.Me)
  (cond (decide ((Y2.Sp.length : Int) > 200))
    false
    (cond ((Y2.We.length : Int) != (Y2.Me.Pq.length : Int))
      false
      (match (Z4p Y2) with
        | .inl r4 => false
        | .inr r4 => true)))
  false)
theorem ZeS (Y2 : Gb) (hp0 : Y2.Me.Pq.length ≤ 1073741824) (hp1 : Y2.Me.Tr.length ≤ 1073741824) (hp2 : ∀ t ∈ Y2.Me.Tr, t.length ≤ 1073741824) (hp3 : Y2.Sp.length ≤ 1073741824) (hp4 : Y2.We.length ≤ 1073741824)  : Fn prog 56 [.agg [.sl (Y2.Me.Pq.map Gv.c), .sl (Y2.Me.Tr.map (cL (cI .i64))), .sl (Y2.Sp.map Gs.c), .f .f32 Y2.Film, .f .f32 Y2.Bend, .sl (Y2.We.map (cF .f32)), .f .f32 Y2.Fall.X, .f .f32 Y2.Fall.Y, .f .f32 Y2.Fall.Z]] (.b (Z20 Y2)) [] := by
 have p {a C} (s : Scr a C) := sZ Gv.c Y2.Me.Pq <| sF (ZeR Y2.Me hp0 hp1 hp2) <| s
 cases h0 : (Z1S Y2.Me) with
 | true =>
  have q {a C} (s : Scr a C) := p (sB' h0 <| sB' h0 <| sB' h0 <| sZ Gs.c Y2.Sp <| sB' h0 <| sB' h0 <| s)
  clear p
  cases h1 : (decide ((Y2.Sp.length : Int) > 200)) with
  | true =>
   have gh1 := odt h1
   refine fnS E0Ok Z5 (c := bodyOf f56) [] (.b false) [] func56 (q (sB h1 <| sB h1 <| sB h1 <| sB h1 <| sB h1 <| sB h1 <| sB (show true = true from rfl) <| sK [] sN)) rfl (by kernel_rfl) (by kernel_rfl) rfl ?_ ?_
   · simp only [Z20, h0, h1, cond_true]
   · rfl
  | false =>
   have gh1 := odf h1
   have p {a C} (s : Scr a C) := q (sB h1 <| sB h1 <| sB h1 <| sZ (cF .f32) Y2.We <| sB h1 <| sB h1 <| sB h1 <| s)
   clear q
   cases h2 : ((Y2.We.length : Int) != (Y2.Me.Pq.length : Int)) with
   | true =>
    have gh2 := bne_iff_ne.1 h2
    refine fnS E0Ok Z5 (c := bodyOf f56) [] (.b false) [] func56 (p (sB h2 <| sK [] sN)) rfl (by kernel_rfl) (by kernel_rfl) rfl ?_ ?_
    · simp only [Z20, h0, h1, h2, cond_true, cond_false]
    · rfl
   | false =>
    have gh2 := bne_eq_false_iff_eq.1 h2
    have q {a C} (s : Scr a C) := p (sB h2 <| sZ Gs.c Y2.Sp <| s)
    clear p
    cases h3 : (Z4p Y2) with
    | inl r4 =>
     refine fnS E0Ok Z5 (c := bodyOf f56) [] (.b false) [] func56 (q (sL (mR false [0, 2, 1, 1, 2, 25, 31]) 1 (lp_val (Z5q Y2) (x := (Z4p Y2)) (Z9x Y2 hp0 hp1 hp2 hp3 hp4 h2 h1 h0 (((Y2.Sp.length : Int) - 0).toNat + 1) 0 (show 0 ≤ 0 from (by omega)) (Nat.lt_succ_self _)) h3) <| sK [] sN)) rfl (by kernel_rfl) (by kernel_rfl) rfl ?_ ?_
     · simp only [Z20, h0, h1, h2, h3, cond_true, cond_false]
     · rfl
    | inr r4 =>
     refine fnS E0Ok Z5 (c := bodyOf f56) [] (.b true) [] func56 (q (sL (mR false [0, 2, 1, 1, 2, 25, 31]) 1 (lp_val (Z5q Y2) (x := (Z4p Y2)) (Z9x Y2 hp0 hp1 hp2 hp3 hp4 h2 h1 h0 (((Y2.Sp.length : Int) - 0).toNat + 1) 0 (show 0 ≤ 0 from (by omega)) (Nat.lt_succ_self _)) h3) <| sK [] sN)) rfl (by kernel_rfl) (by kernel_rfl) rfl ?_ ?_
     · simp only [Z20, h0, h1, h2, h3, cond_true, cond_false]
     · rfl
 | false =>
  refine fnS E0Ok Z5 (c := bodyOf f56) [] (.b false) [] func56 (p (sB' h0 <| sB' h0 <| sB' h0 <| sB' h0 <| sB' h0 <| sB (show true = true from rfl) <| sB (show true = true from rfl) <| sB (show true = true from rfl) <| sB (show true = true from rfl) <| sB (show true = true from rfl) <| sB (show true = true from rfl) <| sB (show true = true from rfl) <| sK [] sN)) rfl (by kernel_rfl) (by kernel_rfl) rfl ?_ ?_
  · simp only [Z20, h0, cond_false]
  · rfl
theorem ZhZ (s : Gs) (n : Int) : cond (Zo s.A 0 (IntKind.wrap .i64 (n - 1))) (cond (Zo s.B 0 (IntKind.wrap .i64 (n - 1))) (cond (s.A == s.B) false (fcmp .geq .f32 s.Long 0)) false) false = Z1J s n := by
  unfold Z1J
  rw [show Zo = Zz from rfl, show (s.A != s.B) = !(s.A == s.B) from rfl]
  cases (s.A == s.B) <;> rfl
theorem ZgF (b : Gb) (k : Nat) (i : Int) : ZO b (k + 1) i = cond (decide (i < (b.Sp.length : Int))) (cond (Z1J (b.Sp.getD i.toNat default) (b.Me.Pq.length : Int)) (ZO b k (i + 1)) (.inl ())) (.inr ()) := by
  rw [ZO, ← ZhZ]
  generalize b.Sp.getD i.toNat default = s
  cases Zo s.A 0 (IntKind.wrap .i64 ((b.Me.Pq.length : Int) - 1)) <;> cases Zo s.B 0 (IntKind.wrap .i64 ((b.Me.Pq.length : Int) - 1)) <;> cases (s.A == s.B) <;> cases fcmp .geq .f32 s.Long 0 <;> rfl
theorem ZgG (b : Gb) : Z20 b = Z1K b := by
  unfold Z20 Z1K Z4p Z4z
  rw [ZgE, all_from (a := b.Sp) (p := fun s => Z1J s (b.Me.Pq.length : Int)) (lo := ZO b) (x := ()) (y := ()) (ZgF b),
    all_from (a := b.Sp) (p := fun s => Z1J s (b.Me.Pq.length : Int)) (lo := Z2F b) (x := ()) (y := ()) (fun k i => rfl)]
  rfl
theorem Zhz (b : Gb) (h : Z1K b = true) : Z1s b.Me = true := by
  cases hm : Z1s b.Me with
  | true => rfl
  | false => simp [Z1K, hm] at h
theorem ZhA (m : Gm) (h : Z1s m = true) : m.Pq.length ≤ 64 ∧ m.Tr.length ≤ 128 := by
  rw [Z9R] at h
  cases h1 : decide ((m.Pq.length : Int) > 64) <;> rw [h1] at h <;> (try (cases h; done))
  cases h2 : decide ((m.Tr.length : Int) > 128) <;> rw [h2] at h <;> (try (cases h; done))
  simp only [decide_eq_false_iff_not] at h1 h2
  omega
def Z2v (Y2 : Gb) (Y4 : (List Int)) : Nat → Int → Int → (Unit) ⊕ (Unit)
  | 0, _, _ => .inl default
  | k + 1, Y15, Y17 => (cond (decide (Y17 < (Y4.length : Int)))
    (cond (Zo (Y4.getD Y17.toNat default) (IntKind.wrap .i64 (Y15 + 1)) (IntKind.wrap .i64 ((Y2.Me.Pq.length : Int) - 1)))
      (Z2v Y2 Y4 k (Y4.getD Y17.toNat default) (Y17 + 1))
      (.inl ()))
    (.inr ()))
def Z69 (Y2 : Gb) (Y4 : (List Int)) : (Unit) ⊕ (Unit) → Ex × St
  | .inl r => (.ret, ⟨an 4 (.b false :: an 24 []), []⟩)
  | .inr r => ((.exit 0), ⟨.agg [.sl (Y2.Me.Pq.map Gv.c), .sl (Y2.Me.Tr.map (cL (cI .i64))), .sl (Y2.Sp.map Gs.c), .f .f32 Y2.Film, .f .f32 Y2.Bend, .sl (Y2.We.map (cF .f32)), .f .f32 Y2.Fall.X, .f .f32 Y2.Fall.Y, .f .f32 Y2.Fall.Z] :: .sl (Y4.map (cI .i64)) :: .ptr 0 0 0 :: an 5 (.agg [.sl (Y2.Me.Pq.map Gv.c), .sl (Y2.Me.Tr.map (cL (cI .i64))), .sl (Y2.Sp.map Gs.c), .f .f32 Y2.Film, .f .f32 Y2.Bend, .sl (Y2.We.map (cF .f32)), .f .f32 Y2.Fall.X, .f .f32 Y2.Fall.Y, .f .f32 Y2.Fall.Z] :: .b (Z20 Y2) :: .b (!(Z20 Y2)) :: .sl (Y4.map (cI .i64)) :: an 17 []), [.box 42 [.sl (Y2.Me.Pq.map Gv.c), .sl (Y2.Me.Tr.map (cL (cI .i64))), .sl (Y2.Sp.map Gs.c), .f .f32 Y2.Film, .f .f32 Y2.Bend, .sl (Y2.We.map (cF .f32)), .f .f32 Y2.Fall.X, .f .f32 Y2.Fall.Y, .f .f32 Y2.Fall.Z]]⟩)
def ZeT (Y2 : Gb) (Y4 : (List Int)) (Y15 : Int) (Y17 : Int) : St := ⟨.agg [.sl (Y2.Me.Pq.map Gv.c), .sl (Y2.Me.Tr.map (cL (cI .i64))), .sl (Y2.Sp.map Gs.c), .f .f32 Y2.Film, .f .f32 Y2.Bend, .sl (Y2.We.map (cF .f32)), .f .f32 Y2.Fall.X, .f .f32 Y2.Fall.Y, .f .f32 Y2.Fall.Z] :: .sl (Y4.map (cI .i64)) :: .ptr 0 0 0 :: .any :: .any :: .i .i64 Y15 :: .any :: .any :: .agg [.sl (Y2.Me.Pq.map Gv.c), .sl (Y2.Me.Tr.map (cL (cI .i64))), .sl (Y2.Sp.map Gs.c), .f .f32 Y2.Film, .f .f32 Y2.Bend, .sl (Y2.We.map (cF .f32)), .f .f32 Y2.Fall.X, .f .f32 Y2.Fall.Y, .f .f32 Y2.Fall.Z] :: .b (Z20 Y2) :: .b (!(Z20 Y2)) :: .sl (Y4.map (cI .i64)) :: .i .i64 (Y4.length : Int) :: .i .i64 Y17 :: an 15 [], [.box 42 [.sl (Y2.Me.Pq.map Gv.c), .sl (Y2.Me.Tr.map (cL (cI .i64))), .sl (Y2.Sp.map Gs.c), .f .f32 Y2.Film, .f .f32 Y2.Bend, .sl (Y2.We.map (cF .f32)), .f .f32 Y2.Fall.X, .f .f32 Y2.Fall.Y, .f .f32 Y2.Fall.Z]]⟩
theorem Zbg (Y2 : Gb) (Y4 : (List Int)) (hp0 : Y2.Me.Pq.length ≤ 1073741824) (hp1 : Y2.Me.Tr.length ≤ 1073741824) (hp2 : ∀ t ∈ Y2.Me.Tr, t.length ≤ 1073741824) (hp3 : Y2.Sp.length ≤ 1073741824) (hp4 : Y2.We.length ≤ 1073741824) (hp5 : Y4.length ≤ 1073741824) (ZhB : (Z20 Y2) = true) : ∀ (k : Nat) (Y15 : Int) (Y17 : Int) (Zag : 0 ≤ Y17) (hk : ((Y4.length : Int) - Y17).toNat < k), Lp prog 0 (sub (bodyOf f67) [1, 1, 1, 0, 1, 0, 0]) (ZeT Y2 Y4 Y15 Y17) (Z69 Y2 Y4 (Z2v Y2 Y4 k Y15 Y17)).1 (Z69 Y2 Y4 (Z2v Y2 Y4 k Y15 Y17)).2 := by
 intro k
 induction k with
 | zero => intro Y15 Y17 Zag hk; exact absurd hk (Nat.not_lt_zero _)
 | succ k ih =>
  intro Y15 Y17 Zag hk
  cases Yj : (decide (Y17 < (Y4.length : Int))) with
  | true =>
   have YM := odt Yj
   have YS : (0 : Int) ≤ Y17 := (by assumption)
   have YT : Y17 < (Y4.length : Int) := (by assumption)
   have p {a C} (s : Scr a C) := sB Yj <| sG (cI .i64) Y4 Y17 YS YT <| sW .i64 (Y15 + 1) <| sZ Gv.c Y2.Me.Pq <| sW .i64 ((Y2.Me.Pq.length : Int) - 1) <| sF (Z6j (Y4.getD Y17.toNat default) (IntKind.wrap .i64 (Y15 + 1)) (IntKind.wrap .i64 ((Y2.Me.Pq.length : Int) - 1))) <| s
   cases YJ : (Zo (Y4.getD Y17.toNat default) (IntKind.wrap .i64 (Y15 + 1)) (IntKind.wrap .i64 ((Y2.Me.Pq.length : Int) - 1))) with
   | true =>
    have YY : (-9223372036854775808 : Int) ≤ (Y17 + 1) := by clear p; exact (by omega)
    have YZ : (Y17 + 1) ≤ (9223372036854775807 : Int) := by clear p; exact (by omega)
    have e : Z2v Y2 Y4 (k + 1) Y15 Y17 = (Z2v Y2 Y4 k (Y4.getD Y17.toNat default) (Y17 + 1)) := by simp only [Z2v, Yj, YJ, cond_true]
    rw [e]
    exact nextR E0Ok Z5 [] (mR false [0, 3, 2, 1, 2, 6, 15]) [0] (ih (Y4.getD Y17.toNat default) (Y17 + 1) (show 0 ≤ (Y17 + 1) from (by omega)) (by omega)) (p (sB' YJ <| sI (Y17 + 1) YY YZ <| sN)) (by kernel_rfl)
   | false =>
    have e : Z2v Y2 Y4 (k + 1) Y15 Y17 = (.inl ()) := by simp only [Z2v, Yj, YJ, cond_true, cond_false]
    rw [e]
    exact outR (e := .ret) E0Ok Z5 [] (mR false [4, 1, 24]) [] (p (sB' YJ <| sN)) (by kernel_rfl) (by intro h; cases h)
  | false =>
   have YM := odf Yj
   have e : Z2v Y2 Y4 (k + 1) Y15 Y17 = (.inr ()) := by simp only [Z2v, Yj, cond_false]
   rw [e]
   exact outR (e := (.exit 0)) E0Ok Z5 [] (mR false [0, 3, 5, 4, 17]) [0] (sB Yj <| sN) (by kernel_rfl) (by intro h; cases h)
def Z4H (Y2 : Gb) (Y4 : (List Int)) : (Unit) ⊕ (Unit) := (Z2v Y2 Y4 (((Y4.length : Int) - 0).toNat + 1) (-1) 0)
def Z13 (Y2 : Gb) (Y4 : (List Int)) : Bool := (cond (Z20 Y2)
  (match (Z4H Y2 Y4) with
    | .inl r2 => false
    | .inr r2 => true)
  false)
theorem Zgk (Y2 : Gb) (Y4 : (List Int)) (hp0 : Y2.Me.Pq.length ≤ 1073741824) (hp1 : Y2.Me.Tr.length ≤ 1073741824) (hp2 : ∀ t ∈ Y2.Me.Tr, t.length ≤ 1073741824) (hp3 : Y2.Sp.length ≤ 1073741824) (hp4 : Y2.We.length ≤ 1073741824) (hp5 : Y4.length ≤ 1073741824)  : Fn prog 67 [.agg [.sl (Y2.Me.Pq.map Gv.c), .sl (Y2.Me.Tr.map (cL (cI .i64))), .sl (Y2.Sp.map Gs.c), .f .f32 Y2.Film, .f .f32 Y2.Bend, .sl (Y2.We.map (cF .f32)), .f .f32 Y2.Fall.X, .f .f32 Y2.Fall.Y, .f .f32 Y2.Fall.Z], .sl (Y4.map (cI .i64))] (.b (Z13 Y2 Y4)) [] := by
 have p {a C} (s : Scr a C) := sF (ZeS Y2 hp0 hp1 hp2 hp3 hp4) <| s
 cases h0 : (Z20 Y2) with
 | true =>
  have q {a C} (s : Scr a C) := p (sB' h0 <| sZ (cI .i64) Y4 <| s)
  clear p
  cases h1 : (Z4H Y2 Y4) with
  | inl r2 =>
   refine fnS E0Ok Z5 (c := bodyOf f67) [] (.b false) [] func67 (q (sL (mR false [0, 3, 2, 1, 2, 6, 15]) 1 (lp_val (Z69 Y2 Y4) (x := (Z4H Y2 Y4)) (Zbg Y2 Y4 hp0 hp1 hp2 hp3 hp4 hp5 h0 (((Y4.length : Int) - 0).toNat + 1) (-1) 0 (show 0 ≤ 0 from (by omega)) (Nat.lt_succ_self _)) h1) <| sK [] sN)) rfl (by kernel_rfl) (by kernel_rfl) rfl ?_ ?_
   · simp only [Z13, h0, h1, cond_true]
   · rfl
  | inr r2 =>
   refine fnS E0Ok Z5 (c := bodyOf f67) [] (.b true) [] func67 (q (sL (mR false [0, 3, 2, 1, 2, 6, 15]) 1 (lp_val (Z69 Y2 Y4) (x := (Z4H Y2 Y4)) (Zbg Y2 Y4 hp0 hp1 hp2 hp3 hp4 hp5 h0 (((Y4.length : Int) - 0).toNat + 1) (-1) 0 (show 0 ≤ 0 from (by omega)) (Nat.lt_succ_self _)) h1) <| sK [] sN)) rfl (by kernel_rfl) (by kernel_rfl) rfl ?_ ?_
   · simp only [Z13, h0, h1, cond_true]
   · rfl
 | false =>
  refine fnS E0Ok Z5 (c := bodyOf f67) [] (.b false) [] func67 (p (sB' h0 <| sK [] sN)) rfl (by kernel_rfl) (by kernel_rfl) rfl ?_ ?_
  · simp only [Z13, h0, cond_false]
  · rfl
theorem ZgH (p last n : Int) (h0 : -1 ≤ last) (hn : 0 ≤ n) (hn' : n ≤ 64) (hl : last < n ∨ last = -1) : Zo p (IntKind.wrap .i64 (last + 1)) (IntKind.wrap .i64 (n - 1)) = (Zz p 0 (IntKind.wrap .i64 (n - 1)) && !(decide (last ≥ p))) := by
  rw [show Zo = Zz from rfl]
  unfold Zz
  rw [wrap_id (n := last + 1) (by omega) (by omega), wrap_id (n := n - 1) (by omega) (by omega)]
  by_cases h1 : p ≥ last + 1 <;> by_cases h2 : p ≤ n - 1 <;> by_cases h3 : p ≥ 0 <;> by_cases h4 : last ≥ p <;> simp [h1, h2, h3, h4] <;> omega
theorem ZhC (b : Gb) (hs : List Int) (hn : b.Me.Pq.length ≤ 64) : ∀ (k : Nat) (last i : Int), 0 ≤ i → (i = 0 ∧ last = -1 ∨ 0 < i ∧ last = hs.getD (i - 1).toNat default ∧ 0 ≤ last ∧ last < (b.Me.Pq.length : Int)) → Z2v b hs k last i = ZG hs 0 (IntKind.wrap .i64 ((b.Me.Pq.length : Int) - 1)) k i := by
  intro k
  induction k with
  | zero => intros; rfl
  | succ k ih =>
    intro last i h0 hl
    rw [Z2v, ZG]
    cases decide (i < (hs.length : Int)) with
    | false => rfl
    | true =>
      rw [cond_true, cond_true, ZgH _ last (b.Me.Pq.length : Int) (by omega) (by omega) (by omega) (by omega)]
      cases hP : Zz (hs.getD i.toNat default) 0 (IntKind.wrap .i64 ((b.Me.Pq.length : Int) - 1)) with
      | false => rfl
      | true =>
        rw [Bool.true_and, cond_true]
        have hb : 0 ≤ hs.getD i.toNat default ∧ hs.getD i.toNat default < (b.Me.Pq.length : Int) := by
          unfold Zz at hP
          rw [wrap_id (n := (b.Me.Pq.length : Int) - 1) (by omega) (by omega)] at hP
          generalize hs.getD i.toNat default = P at hP ⊢
          by_cases h1 : P ≥ 0 <;> simp [h1] at hP
          omega
        have hi := ih (hs.getD i.toNat default) (i + 1) (by omega) (.inr ⟨by omega, by rw [show i + 1 - 1 = i from by omega], hb.1, hb.2⟩)
        rw [hi]
        rcases hl with ⟨hi0, hl⟩ | ⟨hi0, hl, _⟩
        · rw [decide_eq_false (show ¬ last ≥ hs.getD i.toNat default from by omega), decide_eq_false (show ¬ i > 0 from by omega)]; rfl
        · rw [decide_eq_true (show i > 0 from hi0), cond_true, ← hl]
          cases decide (last ≥ hs.getD i.toNat default) <;> rfl
theorem Zg3 (b : Gb) (hs : List Int) : Z13 b hs = cond (Z1K b) (Z40 b hs) false := by
  unfold Z13
  rw [ZgG]
  cases h : Z1K b with
  | false => rfl
  | true =>
    unfold Z40 Z4u Z4H Z3Z
    rw [ZhC b hs (ZhA _ (Zhz b h)).1 _ _ _ (Int.le_refl 0) (.inl ⟨rfl, rfl⟩)]
    rfl
def Z90 (x_0 : Nat) : Bool := (fcmp .eql .f32 (fop .sub .f32 x_0 x_0) 0)
theorem Zfo (x_0 : Nat)   : Fn prog 123 [.f .f32 x_0] (.b (Z90 x_0)) [] := by
 refine fnS E0Ok Z5 (c := bodyOf f123) [] (.b (fcmp .eql .f32 (fop .sub .f32 x_0 x_0) 0)) [] func123 (sK [] sN) rfl (by kernel_rfl) (by kernel_rfl) rfl ?_ ?_
 · rfl
 · rfl
def ZS (x_0 : Nat) : Bool := (cond (Z90 x_0)
  (fcmp .gtr .f32 x_0 0)
  false)
theorem Zgl (x_0 : Nat)   : Fn prog 71 [.f .f32 x_0] (.b (ZS x_0)) [] := by
 have p {a C} (s : Scr a C) := sF (Zfo x_0) <| s
 cases h0 : (Z90 x_0) with
 | true =>
  refine fnS E0Ok Z5 (c := bodyOf f71) [] (.b (fcmp .gtr .f32 x_0 0)) [] func71 (p (sB h0 <| sB h0 <| sB h0 <| sK [] sN)) rfl (by kernel_rfl) (by kernel_rfl) rfl ?_ ?_
  · simp only [ZS, h0, cond_true]
  · rfl
 | false =>
  refine fnS E0Ok Z5 (c := bodyOf f71) [] (.b false) [] func71 (p (sB h0 <| sB h0 <| sB h0 <| sK [] sN)) rfl (by kernel_rfl) (by kernel_rfl) rfl ?_ ?_
  · simp only [ZS, h0, cond_false]
  · rfl
def Z2U (Y7 : Gm) : Nat → Int → (List (List Int)) → (List (List Int))
  | 0, _, _ => default
  | k + 1, Y1, Y18 => (cond (decide (Y1 < (Y7.Tr.length : Int)))
    (Z2U Y7 k (Y1 + 1) (Y18 ++ [(([] : List Int) ++ (Y7.Tr.getD Y1.toNat default))]))
    Y18)
def Z7d (Y7 : Gm) (r : (List (List Int))) : Ex × St := ((.exit 0), ⟨.agg [.sl (Y7.Pq.map Gv.c), .sl (Y7.Tr.map (cL (cI .i64)))] :: .ptr 0 0 0 :: .ptr 1 0 0 :: .ptr 2 0 0 :: .any :: .any :: .any :: .ptr 0 0 0 :: .sl (Y7.Pq.map Gv.c) :: .own 3 :: .agg [.own 3, .nils] :: .ptr 0 0 1 :: .sl (Y7.Tr.map (cL (cI .i64))) :: an 15 [], [.box 38 [.sl (Y7.Pq.map Gv.c), .sl (Y7.Tr.map (cL (cI .i64)))], .box 38 [.nils, .nils], .box 38 [.own 3, .own 4], .vec 40 3 (([] : List (List AV)) ++ (Y7.Pq.map Gv.c)) false, .nest 49 (r.map fun l => l.map (cI .i64)) false]⟩)
def Z7e (Y7 : Gm) (Y1 : Int) (Y18 : (List (List Int))) : St := ⟨.agg [.sl (Y7.Pq.map Gv.c), .sl (Y7.Tr.map (cL (cI .i64)))] :: .ptr 0 0 0 :: .ptr 1 0 0 :: .ptr 3 0 0 :: .any :: .any :: .any :: .ptr 0 0 0 :: .sl (Y7.Pq.map Gv.c) :: .own 2 :: .agg [.own 2, .nils] :: .ptr 0 0 1 :: .sl (Y7.Tr.map (cL (cI .i64))) :: .i .i64 (Y7.Tr.length : Int) :: .i .i64 Y1 :: an 13 [], [.box 38 [.sl (Y7.Pq.map Gv.c), .sl (Y7.Tr.map (cL (cI .i64)))], .box 38 [.nils, .nils], .vec 40 3 (([] : List (List AV)) ++ (Y7.Pq.map Gv.c)) false, .box 38 [.own 2, .own 4], .nest 49 (Y18.map fun l => l.map (cI .i64)) false]⟩
theorem ZdF (Y7 : Gm) (hp0 : Y7.Pq.length ≤ 1073741824) (hp1 : Y7.Tr.length ≤ 1073741824) (hp2 : ∀ t ∈ Y7.Tr, t.length ≤ 1073741824) (hp3 : OkTris Y7.Pq.length Y7.Tr) : ∀ (k : Nat) (Y1 : Int) (Y18 : (List (List Int))) (Z6a : 0 ≤ Y1) (Z91 : (Y18.length : Int) = Y1) (hk : ((Y7.Tr.length : Int) - Y1).toNat < k), Lp prog 0 (sub (bodyOf f128) [1, 1, 0, 1, 0, 0]) (Z7e Y7 Y1 Y18) (Z7d Y7 (Z2U Y7 k Y1 Y18)).1 (Z7d Y7 (Z2U Y7 k Y1 Y18)).2 := by
 intro k
 induction k with
 | zero => intro Y1 Y18 Z6a Z91 hk; exact absurd hk (Nat.not_lt_zero _)
 | succ k ih =>
  intro Y1 Y18 Z6a Z91 hk
  cases Yj : (decide (Y1 < (Y7.Tr.length : Int))) with
  | true =>
   have YM := odt Yj
   have YS : (0 : Int) ≤ Y1 := (by assumption)
   have YT : Y1 < (Y7.Tr.length : Int) := (by assumption)
   have YY : ([] : List Int).length + (Y7.Tr.getD Y1.toNat default).length ≤ 1073741824 := (by simp_all <;> omega)
   have YZ : Y18.length + [(([] : List Int) ++ (Y7.Tr.getD Y1.toNat default))].length ≤ 1073741824 := (by simp_all <;> omega)
   have y_4 : (-9223372036854775808 : Int) ≤ (Y1 + 1) := (by omega)
   have y_5 : (Y1 + 1) ≤ (9223372036854775807 : Int) := (by omega)
   have e : Z2U Y7 (k + 1) Y1 Y18 = (Z2U Y7 k (Y1 + 1) (Y18 ++ [(([] : List Int) ++ (Y7.Tr.getD Y1.toNat default))])) := by simp only [Z2U, Yj, cond_true]
   rw [e]
   exact nextS E0Ok Z5 [] (mR false [0, 4, 3, 8, 13]) [0, 1, 2, 3, 4] (⟨.agg [.sl (Y7.Pq.map Gv.c), .sl (Y7.Tr.map (cL (cI .i64)))] :: .ptr 0 0 0 :: .ptr 1 0 0 :: .ptr 3 0 0 :: .any :: .any :: .any :: .ptr 0 0 0 :: .sl (Y7.Pq.map Gv.c) :: .own 2 :: .agg [.own 2, .nils] :: .ptr 0 0 1 :: .sl (Y7.Tr.map (cL (cI .i64))) :: .i .i64 (Y7.Tr.length : Int) :: .i .i64 (Y1 + 1) :: an 13 [], [.box 38 [.sl (Y7.Pq.map Gv.c), .sl (Y7.Tr.map (cL (cI .i64)))], .box 38 [.nils, .nils], .vec 40 3 (([] : List (List AV)) ++ (Y7.Pq.map Gv.c)) false, .box 38 [.own 2, .own 4], .nest 49 ((Y18.map fun l => l.map (cI .i64)) ++ [(([] : List (List AV)) ++ ((Y7.Tr.getD Y1.toNat default).map (cI .i64)))]) false]⟩) (sB Yj <| sG (cL (cI .i64)) Y7.Tr Y1 YS YT <| sK [6, 6] <| sC (show ((Y7.Tr.getD Y1.toNat default).map (cI .i64)) ≠ [] from (by have q := (OkTris.at hp3 Z6a (odt (by assumption))).1; have q2 : (Y7.Tr.getD Y1.toNat default) ≠ [] := (by intro hq; rw [hq] at q; simp at q); simpa using q2)) <| sC (show ([] : List (List AV)).length + ((Y7.Tr.getD Y1.toNat default).map (cI .i64)).length ≤ 1073741824 from (by simpa using YY)) <| sC (show ((Y7.Tr.getD Y1.toNat default).map (cI .i64)).all (fun cs => cs.length == 1 && cs.all isS) = true from (src_ok (fun _ => rfl))) <| sC (show (Y18.map fun l => l.map (cI .i64)).length + [(([] : List (List AV)) ++ ((Y7.Tr.getD Y1.toNat default).map (cI .i64)))].length ≤ 1073741824 from (by simpa using YZ)) <| sI (Y1 + 1) y_4 y_5 <| sN) (by kernel_rfl) (by simp [Z7e, Gv.c, cL, cI]) (ih (Y1 + 1) (Y18 ++ [(([] : List Int) ++ (Y7.Tr.getD Y1.toNat default))]) (show 0 ≤ (Y1 + 1) from (by omega)) (show ((Y18 ++ [(([] : List Int) ++ (Y7.Tr.getD Y1.toNat default))]).length : Int) = (Y1 + 1) from (by simp_all <;> omega)) (by omega))
  | false =>
   have YM := odf Yj
   have e : Z2U Y7 (k + 1) Y1 Y18 = Y18 := by simp only [Z2U, Yj, cond_false]
   rw [e]
   exact outR (e := (.exit 0)) E0Ok Z5 [] (mR false [0, 4, 3, 6, 15]) [0, 1, 3, 2, 4] (sB Yj <| sN) (by kernel_rfl) (by intro h; cases h)
def Z55 (Y7 : Gm) : (List (List Int)) := (Z2U Y7 (((Y7.Tr.length : Int) - 0).toNat + 1) 0 ([] : List (List Int)))
def Z5A (Y7 : Gm) : Gm := (⟨(([] : List Gv) ++ Y7.Pq), (Z55 Y7)⟩ : Gm)
theorem Zfp (Y7 : Gm) (hp0 : Y7.Pq.length ≤ 1073741824) (hp1 : Y7.Tr.length ≤ 1073741824) (hp2 : ∀ t ∈ Y7.Tr, t.length ≤ 1073741824) (hp3 : OkTris Y7.Pq.length Y7.Tr)  : Fn prog 128 [.agg [.sl (Y7.Pq.map Gv.c), .sl (Y7.Tr.map (cL (cI .i64)))]] (.agg [.own 0, .own 1]) [.vec 40 3 (((Z5A Y7).Pq).map Gv.c) false, .nest 49 (((Z5A Y7).Tr).map fun l => l.map (cI .i64)) false] := by
 have y0 : ([] : List Gv).length + Y7.Pq.length ≤ 1073741824 := (by simp_all <;> omega)
 refine fnS E0Ok Z5 (c := bodyOf f128) [] (.agg [.own 0, .own 1]) [.vec 40 3 (([] : List (List AV)) ++ (Y7.Pq.map Gv.c)) false, .nest 49 ((Z55 Y7).map fun l => l.map (cI .i64)) false] func128 (sC (show ([] : List (List AV)).length + (Y7.Pq.map Gv.c).length ≤ 1073741824 from (by simpa using y0)) <| sC (show (Y7.Pq.map Gv.c).all (fun cs => cs.length == 3 && cs.all isS) = true from (src_ok (fun _ => rfl))) <| sZ (cL (cI .i64)) Y7.Tr <| sL (mR false [0, 4, 3, 8, 13]) 4 (Lp.nil (st := ⟨.agg [.sl (Y7.Pq.map Gv.c), .sl (Y7.Tr.map (cL (cI .i64)))] :: .ptr 0 0 0 :: .ptr 1 0 0 :: .ptr 3 0 0 :: .any :: .any :: .any :: .ptr 0 0 0 :: .sl (Y7.Pq.map Gv.c) :: .own 2 :: .agg [.own 2, .nils] :: .ptr 0 0 1 :: .sl (Y7.Tr.map (cL (cI .i64))) :: .i .i64 (Y7.Tr.length : Int) :: .i .i64 0 :: an 13 [], [.box 38 [.sl (Y7.Pq.map Gv.c), .sl (Y7.Tr.map (cL (cI .i64)))], .box 38 [.nils, .nils], .vec 40 3 (([] : List (List AV)) ++ (Y7.Pq.map Gv.c)) false, .box 38 [.own 2, .nils]]⟩) (st2 := ⟨.agg [.sl (Y7.Pq.map Gv.c), .sl (Y7.Tr.map (cL (cI .i64)))] :: .ptr 0 0 0 :: .ptr 1 0 0 :: .ptr 3 0 0 :: .any :: .any :: .any :: .ptr 0 0 0 :: .sl (Y7.Pq.map Gv.c) :: .own 2 :: .agg [.own 2, .nils] :: .ptr 0 0 1 :: .sl (Y7.Tr.map (cL (cI .i64))) :: .i .i64 (Y7.Tr.length : Int) :: .i .i64 0 :: an 13 [], [.box 38 [.sl (Y7.Pq.map Gv.c), .sl (Y7.Tr.map (cL (cI .i64)))], .box 38 [.nils, .nils], .vec 40 3 (([] : List (List AV)) ++ (Y7.Pq.map Gv.c)) false, .box 38 [.own 2, .own 4], .nest 49 [] false]⟩) (ps := [(.row 3 1, .nest 49 [] false)]) rfl (lp_cast (st2 := ⟨.agg [.sl (Y7.Pq.map Gv.c), .sl (Y7.Tr.map (cL (cI .i64)))] :: .ptr 0 0 0 :: .ptr 1 0 0 :: .ptr 3 0 0 :: .any :: .any :: .any :: .ptr 0 0 0 :: .sl (Y7.Pq.map Gv.c) :: .own 2 :: .agg [.own 2, .nils] :: .ptr 0 0 1 :: .sl (Y7.Tr.map (cL (cI .i64))) :: .i .i64 (Y7.Tr.length : Int) :: .i .i64 0 :: an 13 [], [.box 38 [.sl (Y7.Pq.map Gv.c), .sl (Y7.Tr.map (cL (cI .i64)))], .box 38 [.nils, .nils], .vec 40 3 (([] : List (List AV)) ++ (Y7.Pq.map Gv.c)) false, .box 38 [.own 2, .own 4], .nest 49 [] false]⟩) (lp_val (Z7d Y7) (x := (Z55 Y7)) (ZdF Y7 hp0 hp1 hp2 hp3 (((Y7.Tr.length : Int) - 0).toNat + 1) 0 ([] : List (List Int)) (show 0 ≤ 0 from (by omega)) (show (([] : List (List Int)).length : Int) = 0 from (by simp)) (Nat.lt_succ_self _)) rfl) (by simp [Z7e, Gv.c, cL, cI]))) <| sK [3, 4] sN) rfl (by kernel_rfl) (by kernel_rfl) rfl ?_ ?_
 · rfl
 · simp [Z5A, Gv.c]
@[simp] theorem ZgR (m : Gm) : Z5A m = m := by
  unfold Z5A Z55
  rw [app_loop (f := fun i => (m.Tr.getD i.toNat default)) (n := (m.Tr.length : Int)) (lo := Z2U m) (fun k i r => rfl) _ _ _ (Nat.lt_succ_self _)]
  simp [getD_range2]
theorem Zfq (Y7 : Gm) (hp0 : Y7.Pq.length ≤ 1073741824) (hp1 : Y7.Tr.length ≤ 1073741824) (hp2 : ∀ t ∈ Y7.Tr, t.length ≤ 1073741824) (hp3 : OkTris Y7.Pq.length Y7.Tr) : Fn prog 128 [.agg [.sl (Y7.Pq.map Gv.c), .sl (Y7.Tr.map (cL (cI .i64)))]] (.agg [.own 0, .own 1]) [.vec 40 3 (Y7.Pq.map Gv.c) false, .nest 49 (Y7.Tr.map fun l => l.map (cI .i64)) false] := by
 simpa only [ZgR] using Zfp  Y7 hp0 hp1 hp2 hp3
def Z2Y (Y2 : Gb) : Gb := (⟨Y2.Me, (([] : List Gs) ++ Y2.Sp), Y2.Film, Y2.Bend, (([] : List Nat) ++ Y2.We), Y2.Fall⟩ : Gb)
theorem Zfr (Y2 : Gb) (hp0 : Y2.Me.Pq.length ≤ 1073741824) (hp1 : Y2.Me.Tr.length ≤ 1073741824) (hp2 : ∀ t ∈ Y2.Me.Tr, t.length ≤ 1073741824) (hp3 : Y2.Sp.length ≤ 1073741824) (hp4 : Y2.We.length ≤ 1073741824) (hp5 : OkTris Y2.Me.Pq.length Y2.Me.Tr)  : Fn prog 84 [.agg [.sl (Y2.Me.Pq.map Gv.c), .sl (Y2.Me.Tr.map (cL (cI .i64))), .sl (Y2.Sp.map Gs.c), .f .f32 Y2.Film, .f .f32 Y2.Bend, .sl (Y2.We.map (cF .f32)), .f .f32 Y2.Fall.X, .f .f32 Y2.Fall.Y, .f .f32 Y2.Fall.Z]] (.agg [.own 0, .own 1, .own 2, .f .f32 ((Z2Y Y2).Film), .f .f32 ((Z2Y Y2).Bend), .own 3, .f .f32 ((Z2Y Y2).Fall.X), .f .f32 ((Z2Y Y2).Fall.Y), .f .f32 ((Z2Y Y2).Fall.Z)]) [.vec 40 3 (((Z2Y Y2).Me.Pq).map Gv.c) false, .nest 49 (((Z2Y Y2).Me.Tr).map fun l => l.map (cI .i64)) false, .vec 133 4 (((Z2Y Y2).Sp).map Gs.c) false, .vec 27 1 (((Z2Y Y2).We).map (cF .f32)) false] := by
 have y0 : ([] : List Gs).length + Y2.Sp.length ≤ 1073741824 := (by simp_all <;> omega)
 have y1 : ([] : List Nat).length + Y2.We.length ≤ 1073741824 := (by simp_all <;> omega)
 refine fnS E0Ok Z5 (c := bodyOf f84) [] (.agg [.own 0, .own 1, .own 2, .f .f32 Y2.Film, .f .f32 Y2.Bend, .own 3, .f .f32 Y2.Fall.X, .f .f32 Y2.Fall.Y, .f .f32 Y2.Fall.Z]) [.vec 40 3 (Y2.Me.Pq.map Gv.c) false, .nest 49 (Y2.Me.Tr.map fun l => l.map (cI .i64)) false, .vec 133 4 (([] : List (List AV)) ++ (Y2.Sp.map Gs.c)) false, .vec 27 1 (([] : List (List AV)) ++ (Y2.We.map (cF .f32))) false] func84 (sF (Zfq Y2.Me hp0 hp1 hp2 hp5) <| sC (show ([] : List (List AV)).length + (Y2.Sp.map Gs.c).length ≤ 1073741824 from (by simpa using y0)) <| sC (show (Y2.Sp.map Gs.c).all (fun cs => cs.length == 4 && cs.all isS) = true from (src_ok (fun _ => rfl))) <| sC (show ([] : List (List AV)).length + (Y2.We.map (cF .f32)).length ≤ 1073741824 from (by simpa using y1)) <| sC (show (Y2.We.map (cF .f32)).all (fun cs => cs.length == 1 && cs.all isS) = true from (src_ok (fun _ => rfl))) <| sK [2, 3, 4, 5] sN) rfl (by kernel_rfl) (by kernel_rfl) rfl ?_ ?_
 · rfl
 · simp [Z2Y, Gs.c, cF]
@[simp] theorem ZgS (b : Gb) : Z2Y b = b := by simp [Z2Y]
theorem Z92 (Y2 : Gb) (hp0 : Y2.Me.Pq.length ≤ 1073741824) (hp1 : Y2.Me.Tr.length ≤ 1073741824) (hp2 : ∀ t ∈ Y2.Me.Tr, t.length ≤ 1073741824) (hp3 : Y2.Sp.length ≤ 1073741824) (hp4 : Y2.We.length ≤ 1073741824) (hp5 : OkTris Y2.Me.Pq.length Y2.Me.Tr) : Fn prog 84 [.agg [.sl (Y2.Me.Pq.map Gv.c), .sl (Y2.Me.Tr.map (cL (cI .i64))), .sl (Y2.Sp.map Gs.c), .f .f32 Y2.Film, .f .f32 Y2.Bend, .sl (Y2.We.map (cF .f32)), .f .f32 Y2.Fall.X, .f .f32 Y2.Fall.Y, .f .f32 Y2.Fall.Z]] (.agg [.own 0, .own 1, .own 2, .f .f32 Y2.Film, .f .f32 Y2.Bend, .own 3, .f .f32 Y2.Fall.X, .f .f32 Y2.Fall.Y, .f .f32 Y2.Fall.Z]) [.vec 40 3 (Y2.Me.Pq.map Gv.c) false, .nest 49 (Y2.Me.Tr.map fun l => l.map (cI .i64)) false, .vec 133 4 (Y2.Sp.map Gs.c) false, .vec 27 1 (Y2.We.map (cF .f32)) false] := by
 simpa only [ZgS] using Zfr  Y2 hp0 hp1 hp2 hp3 hp4 hp5
def Z23 (Y5 : Gv) (YA : Gv) : Gv := (⟨(fop .sub .f32 Y5.X YA.X), (fop .sub .f32 Y5.Y YA.Y), (fop .sub .f32 Y5.Z YA.Z)⟩ : Gv)
theorem Z4q (Y5 : Gv) (YA : Gv)   : Fn prog 114 [.agg [.f .f32 Y5.X, .f .f32 Y5.Y, .f .f32 Y5.Z], .agg [.f .f32 YA.X, .f .f32 YA.Y, .f .f32 YA.Z]] (.agg [.f .f32 ((Z23 Y5 YA).X), .f .f32 ((Z23 Y5 YA).Y), .f .f32 ((Z23 Y5 YA).Z)]) [] := by
 refine fnS E0Ok Z5 (c := bodyOf f114) [] (.agg [.f .f32 (fop .sub .f32 Y5.X YA.X), .f .f32 (fop .sub .f32 Y5.Y YA.Y), .f .f32 (fop .sub .f32 Y5.Z YA.Z)]) [] func114 (sK [] sN) rfl (by kernel_rfl) (by kernel_rfl) rfl ?_ ?_
 · rfl
 · rfl
def Zr (Y2 : Gb) (s_1 : Gs) : Gv := (Z23 (Y2.Me.Pq.getD s_1.B.toNat default) (Y2.Me.Pq.getD s_1.A.toNat default))
theorem Zah (Y2 : Gb) (s_1 : Gs) (hp0 : Y2.Me.Pq.length ≤ 1073741824) (hp1 : Y2.Me.Tr.length ≤ 1073741824) (hp2 : ∀ t ∈ Y2.Me.Tr, t.length ≤ 1073741824) (hp3 : Y2.Sp.length ≤ 1073741824) (hp4 : Y2.We.length ≤ 1073741824) (hp5 : 0 ≤ s_1.A) (hp6 : s_1.A < (Y2.Me.Pq.length : Int)) (hp7 : 0 ≤ s_1.B) (hp8 : s_1.B < (Y2.Me.Pq.length : Int))  : Fn prog 109 [.agg [.sl (Y2.Me.Pq.map Gv.c), .sl (Y2.Me.Tr.map (cL (cI .i64))), .sl (Y2.Sp.map Gs.c), .f .f32 Y2.Film, .f .f32 Y2.Bend, .sl (Y2.We.map (cF .f32)), .f .f32 Y2.Fall.X, .f .f32 Y2.Fall.Y, .f .f32 Y2.Fall.Z], .agg [.i .i64 s_1.A, .i .i64 s_1.B, .f .f32 s_1.Long, .f .f32 s_1.Stiff]] (.agg [.f .f32 ((Zr Y2 s_1).X), .f .f32 ((Zr Y2 s_1).Y), .f .f32 ((Zr Y2 s_1).Z)]) [] := by
 have y0 : (0 : Int) ≤ s_1.B := (by assumption)
 have y1 : (0 : Int) ≤ s_1.A := (by assumption)
 refine fnS E0Ok Z5 (c := bodyOf f109) [] (.agg [.f .f32 ((Z23 (Y2.Me.Pq.getD s_1.B.toNat default) (Y2.Me.Pq.getD s_1.A.toNat default)).X), .f .f32 ((Z23 (Y2.Me.Pq.getD s_1.B.toNat default) (Y2.Me.Pq.getD s_1.A.toNat default)).Y), .f .f32 ((Z23 (Y2.Me.Pq.getD s_1.B.toNat default) (Y2.Me.Pq.getD s_1.A.toNat default)).Z)]) [] func109 (sK [14, 14] <| sG Gv.c Y2.Me.Pq s_1.B y0 hp8 <| sG Gv.c Y2.Me.Pq s_1.A y1 hp6 <| sF (Z4q (Y2.Me.Pq.getD s_1.B.toNat default) (Y2.Me.Pq.getD s_1.A.toNat default)) <| sK [] sN) rfl (by kernel_rfl) (by kernel_rfl) rfl ?_ ?_
 · rfl
 · rfl
def Z5h (Y5 : Gv) (YA : Gv) : Nat := (fop .add .f32 (fop .add .f32 (fop .mul .f32 Y5.X YA.X) (fop .mul .f32 Y5.Y YA.Y)) (fop .mul .f32 Y5.Z YA.Z))
theorem Z9V (Y5 : Gv) (YA : Gv)   : Fn prog 140 [.agg [.f .f32 Y5.X, .f .f32 Y5.Y, .f .f32 Y5.Z], .agg [.f .f32 YA.X, .f .f32 YA.Y, .f .f32 YA.Z]] (.f .f32 (Z5h Y5 YA)) [] := by
 refine fnS E0Ok Z5 (c := bodyOf f140) [] (.f .f32 (fop .add .f32 (fop .add .f32 (fop .mul .f32 Y5.X YA.X) (fop .mul .f32 Y5.Y YA.Y)) (fop .mul .f32 Y5.Z YA.Z))) [] func140 (sK [] sN) rfl (by kernel_rfl) (by kernel_rfl) rfl ?_ ?_
 · rfl
 · rfl
def Z7D (x_0 : Nat) : Nat := (fcv .f64 .f32 (Z5e (fcv .f32 .f64 x_0)))
theorem Zeh (x_0 : Nat)   : Fn prog 139 [.f .f32 x_0] (.f .f32 (Z7D x_0)) [] := by
 have y0 : fcvOk .f64 .f32 (Z5e (fcv .f32 .f64 x_0)) = true := (narrow_sqrt _)
 refine fnS E0Ok Z5 (c := bodyOf f139) [] (.f .f32 (fcv .f64 .f32 (Z5e (fcv .f32 .f64 x_0)))) [] func139 (sC (widenOk x_0) <| sF (Zer (fcv .f32 .f64 x_0)) <| sC y0 <| sK [] sN) rfl (by kernel_rfl) (by kernel_rfl) rfl ?_ ?_
 · rfl
 · rfl
def Zv (v_0 : Gv) : Nat := (Z7D (Z5h v_0 v_0))
theorem Z7W (v_0 : Gv)   : Fn prog 112 [.agg [.f .f32 v_0.X, .f .f32 v_0.Y, .f .f32 v_0.Z]] (.f .f32 (Zv v_0)) [] := by
 refine fnS E0Ok Z5 (c := bodyOf f112) [] (.f .f32 (Z7D (Z5h v_0 v_0))) [] func112 (sF (Z9V v_0 v_0) <| sF (Zeh (Z5h v_0 v_0)) <| sK [] sN) rfl (by kernel_rfl) (by kernel_rfl) rfl ?_ ?_
 · rfl
 · rfl
def Z2I (Y5 : Gv) (YA : Gv) : Gv := (⟨(fop .sub .f32 (fop .mul .f32 Y5.Y YA.Z) (fop .mul .f32 Y5.Z YA.Y)), (fop .sub .f32 (fop .mul .f32 Y5.Z YA.X) (fop .mul .f32 Y5.X YA.Z)), (fop .sub .f32 (fop .mul .f32 Y5.X YA.Y) (fop .mul .f32 Y5.Y YA.X))⟩ : Gv)
theorem Z9W (Y5 : Gv) (YA : Gv)   : Fn prog 113 [.agg [.f .f32 Y5.X, .f .f32 Y5.Y, .f .f32 Y5.Z], .agg [.f .f32 YA.X, .f .f32 YA.Y, .f .f32 YA.Z]] (.agg [.f .f32 ((Z2I Y5 YA).X), .f .f32 ((Z2I Y5 YA).Y), .f .f32 ((Z2I Y5 YA).Z)]) [] := by
 refine fnS E0Ok Z5 (c := bodyOf f113) [] (.agg [.f .f32 (fop .sub .f32 (fop .mul .f32 Y5.Y YA.Z) (fop .mul .f32 Y5.Z YA.Y)), .f .f32 (fop .sub .f32 (fop .mul .f32 Y5.Z YA.X) (fop .mul .f32 Y5.X YA.Z)), .f .f32 (fop .sub .f32 (fop .mul .f32 Y5.X YA.Y) (fop .mul .f32 Y5.Y YA.X))]) [] func113 (sK [] sN) rfl (by kernel_rfl) (by kernel_rfl) rfl ?_ ?_
 · rfl
 · rfl
def Z5B (Y7 : Gm) (t_1 : (List Int)) : Gv := (Z2I (Z23 (Y7.Pq.getD (t_1.getD 1 default).toNat default) (Y7.Pq.getD (t_1.getD 0 default).toNat default)) (Z23 (Y7.Pq.getD (t_1.getD 2 default).toNat default) (Y7.Pq.getD (t_1.getD 0 default).toNat default)))
def Zc (Y7 : Gm) (t_1 : (List Int)) : Gv := (Z5B Y7 t_1)
theorem ZbH (Y7 : Gm) (t_1 : (List Int)) (hp0 : Y7.Pq.length ≤ 1073741824) (hp1 : Y7.Tr.length ≤ 1073741824) (hp2 : ∀ t ∈ Y7.Tr, t.length ≤ 1073741824) (hp3 : t_1.length ≤ 1073741824) (hp4 : t_1.length = 3 ∧ ∀ x ∈ t_1, 0 ≤ x ∧ x < (Y7.Pq.length : Int))  : Fn prog 111 [.agg [.sl (Y7.Pq.map Gv.c), .sl (Y7.Tr.map (cL (cI .i64)))], .sl (t_1.map (cI .i64))] (.agg [.f .f32 ((Zc Y7 t_1).X), .f .f32 ((Zc Y7 t_1).Y), .f .f32 ((Zc Y7 t_1).Z)]) [] := by
 have y0 : (0 : Int) ≤ 0 := (by omega)
 have y1 : 0 < (t_1.length : Int) := (by omega)
 have y2 : (0 : Int) ≤ (t_1.getD 0 default) := (by have q := Okt.at hp4; omega)
 have y3 : (t_1.getD 0 default) < (Y7.Pq.length : Int) := (by have q := Okt.at hp4; omega)
 have y4 : (0 : Int) ≤ 1 := (by omega)
 have y5 : 1 < (t_1.length : Int) := (by omega)
 have y6 : (0 : Int) ≤ (t_1.getD 1 default) := (by have q := Okt.at hp4; omega)
 have y7 : (t_1.getD 1 default) < (Y7.Pq.length : Int) := (by have q := Okt.at hp4; omega)
 have y8 : (0 : Int) ≤ 2 := (by omega)
 have y9 : 2 < (t_1.length : Int) := (by omega)
 have y10 : (0 : Int) ≤ (t_1.getD 2 default) := (by have q := Okt.at hp4; omega)
 have y11 : (t_1.getD 2 default) < (Y7.Pq.length : Int) := (by have q := Okt.at hp4; omega)
 refine fnS E0Ok Z5 (c := bodyOf f111) [] (.agg [.f .f32 ((Z5B Y7 t_1).X), .f .f32 ((Z5B Y7 t_1).Y), .f .f32 ((Z5B Y7 t_1).Z)]) [] func111 (sK [8, 8] <| sG (cI .i64) t_1 0 y0 y1 <| sG Gv.c Y7.Pq (t_1.getD 0 default) y2 y3 <| sK [17, 17] <| sG (cI .i64) t_1 1 y4 y5 <| sG Gv.c Y7.Pq (t_1.getD 1 default) y6 y7 <| sF (Z4q (Y7.Pq.getD (t_1.getD 1 default).toNat default) (Y7.Pq.getD (t_1.getD 0 default).toNat default)) <| sG (cI .i64) t_1 2 y8 y9 <| sG Gv.c Y7.Pq (t_1.getD 2 default) y10 y11 <| sF (Z4q (Y7.Pq.getD (t_1.getD 2 default).toNat default) (Y7.Pq.getD (t_1.getD 0 default).toNat default)) <| sF (Z9W (Z23 (Y7.Pq.getD (t_1.getD 1 default).toNat default) (Y7.Pq.getD (t_1.getD 0 default).toNat default)) (Z23 (Y7.Pq.getD (t_1.getD 2 default).toNat default) (Y7.Pq.getD (t_1.getD 0 default).toNat default))) <| sK [] sN) rfl (by kernel_rfl) (by kernel_rfl) rfl ?_ ?_
 · rfl
 · rfl
def Z6k (Y5 : Int) (YA : Int) : Gedge := (⟨(if YA < Y5 then YA else Y5), (if YA > Y5 then YA else Y5)⟩ : Gedge)
theorem Zgm (Y5 : Int) (YA : Int)   : Fn prog 149 [.i .i64 Y5, .i .i64 YA] (.agg [.i .i64 ((Z6k Y5 YA).e0), .i .i64 ((Z6k Y5 YA).e1)]) [] := by
 refine fnS E0Ok Z5 (c := bodyOf f149) [] (.agg [.i .i64 (if YA < Y5 then YA else Y5), .i .i64 (if YA > Y5 then YA else Y5)]) [] func149 (sC (show (if false = true then (if YA > Y5 then YA else Y5) else (if YA < Y5 then YA else Y5)) = (if YA < Y5 then YA else Y5) from (by simp)) <| sA (.num (if YA < Y5 then YA else Y5)) <| sC (show (if true = true then (if YA > Y5 then YA else Y5) else (if YA < Y5 then YA else Y5)) = (if YA > Y5 then YA else Y5) from (by simp)) <| sA (.num (if YA > Y5 then YA else Y5)) <| sK [] sN) rfl (by kernel_rfl) (by kernel_rfl) rfl ?_ ?_
 · rfl
 · rfl
theorem ZhD (a b : Int) : Z6k a b = mkE a b := by
  unfold Z6k mkE
  by_cases h : a ≤ b
  · rw [if_pos h, if_neg (by omega)]
    by_cases h2 : b > a
    · rw [if_pos h2]
    · rw [if_neg h2, show a = b from by omega]
  · rw [if_neg h, if_pos (by omega), if_neg (by omega)]
def Z3v (x_0 : Int) : Bool := (x_0 != x_0)
theorem Zai (x_0 : Int)   : Fn prog 172 [.i .i64 x_0] (.b (Z3v x_0)) [] := by
 refine fnS E0Ok Z5 (c := bodyOf f172) [] (.b (x_0 != x_0)) [] func172 (sK [] sN) rfl (by kernel_rfl) (by kernel_rfl) rfl ?_ ?_
 · rfl
 · rfl
def Z1P (x_0 : Int) (YT : Int) : Int := (cond (Z3v x_0)
  (cond (Z3v YT)
    0
    (-1))
  (cond (Z3v YT)
    1
    (cond (decide (x_0 < YT))
      (-1)
      (cond (decide (x_0 > YT))
        1
        0))))
theorem ZcF (x_0 : Int) (YT : Int)   : Fn prog 166 [.i .i64 x_0, .i .i64 YT] (.i .i64 (Z1P x_0 YT)) [] := by
 have p {a C} (s : Scr a C) := sF (Zai x_0) <| sF (Zai YT) <| s
 cases h0 : (Z3v x_0) with
 | true =>
  have q {a C} (s : Scr a C) := p (sB h0 <| s)
  clear p
  cases h1 : (Z3v YT) with
  | true =>
   refine fnS E0Ok Z5 (c := bodyOf f166) [] (.i .i64 0) [] func166 (q (sB h1 <| sK [] sN)) rfl (by kernel_rfl) (by kernel_rfl) rfl ?_ ?_
   · simp only [Z1P, h0, h1, cond_true]
   · rfl
  | false =>
   refine fnS E0Ok Z5 (c := bodyOf f166) [] (.i .i64 (-1)) [] func166 (q (sB h1 <| sK [] sN)) rfl (by kernel_rfl) (by kernel_rfl) rfl ?_ ?_
   · simp only [Z1P, h0, h1, cond_true, cond_false]
   · rfl
 | false =>
  have q {a C} (s : Scr a C) := p (sB h0 <| s)
  clear p
  cases h1 : (Z3v YT) with
  | true =>
   refine fnS E0Ok Z5 (c := bodyOf f166) [] (.i .i64 1) [] func166 (q (sB h1 <| sK [] sN)) rfl (by kernel_rfl) (by kernel_rfl) rfl ?_ ?_
   · simp only [Z1P, h0, h1, cond_true, cond_false]
   · rfl
  | false =>
   have p {a C} (s : Scr a C) := q (sB h1 <| s)
   clear q
   cases h2 : (decide (x_0 < YT)) with
   | true =>
    have gh2 := odt h2
    refine fnS E0Ok Z5 (c := bodyOf f166) [] (.i .i64 (-1)) [] func166 (p (sB h2 <| sK [] sN)) rfl (by kernel_rfl) (by kernel_rfl) rfl ?_ ?_
    · simp only [Z1P, h0, h1, h2, cond_true, cond_false]
    · rfl
   | false =>
    have gh2 := odf h2
    have q {a C} (s : Scr a C) := p (sB h2 <| s)
    clear p
    cases h3 : (decide (x_0 > YT)) with
    | true =>
     have gh3 := odt h3
     refine fnS E0Ok Z5 (c := bodyOf f166) [] (.i .i64 1) [] func166 (q (sB h3 <| sK [] sN)) rfl (by kernel_rfl) (by kernel_rfl) rfl ?_ ?_
     · simp only [Z1P, h0, h1, h2, h3, cond_true, cond_false]
     · rfl
    | false =>
     have gh3 := odf h3
     refine fnS E0Ok Z5 (c := bodyOf f166) [] (.i .i64 0) [] func166 (q (sB h3 <| sK [] sN)) rfl (by kernel_rfl) (by kernel_rfl) rfl ?_ ?_
     · simp only [Z1P, h0, h1, h2, h3, cond_false]
     · rfl
def Zp (Y10 : (List Int)) (Y14 : (List Int)) : Nat → Int → (Int) ⊕ (Unit)
  | 0, _ => .inl default
  | k + 1, Y1 => (cond (decide (Y1 < (Y10.length : Int)))
    (cond (decide (Y1 ≥ (Y14.length : Int)))
      (.inl 1)
      (cond ((Z1P (Y10.getD Y1.toNat default) (Y14.getD Y1.toNat default)) != 0)
        (.inl (Z1P (Y10.getD Y1.toNat default) (Y14.getD Y1.toNat default)))
        (Zp Y10 Y14 k (Y1 + 1))))
    (.inr ()))
def Z3l (Y10 : (List Int)) (Y14 : (List Int)) : (Int) ⊕ (Unit) → Ex × St
  | .inl r => (.ret, ⟨an 4 (.i .i64 r :: an 31 []), []⟩)
  | .inr r => ((.exit 0), ⟨.sl (Y10.map (cI .i64)) :: .sl (Y14.map (cI .i64)) :: an 7 (.sl (Y10.map (cI .i64)) :: an 26 []), []⟩)
def Z7E (Y10 : (List Int)) (Y14 : (List Int)) (Y1 : Int) : St := ⟨.sl (Y10.map (cI .i64)) :: .sl (Y14.map (cI .i64)) :: an 7 (.sl (Y10.map (cI .i64)) :: .i .i64 (Y10.length : Int) :: .i .i64 Y1 :: an 24 []), []⟩
theorem Z4X (Y10 : (List Int)) (Y14 : (List Int)) (hp0 : Y10.length ≤ 1073741824) (hp1 : Y14.length ≤ 1073741824) : ∀ (k : Nat) (Y1 : Int) (Z4I : 0 ≤ Y1) (hk : ((Y10.length : Int) - Y1).toNat < k), Lp prog 0 (sub (bodyOf f155) [1, 0, 1, 0, 0]) (Z7E Y10 Y14 Y1) (Z3l Y10 Y14 (Zp Y10 Y14 k Y1)).1 (Z3l Y10 Y14 (Zp Y10 Y14 k Y1)).2 := by
 intro k
 induction k with
 | zero => intro Y1 Z4I hk; exact absurd hk (Nat.not_lt_zero _)
 | succ k ih =>
  intro Y1 Z4I hk
  cases Yj : (decide (Y1 < (Y10.length : Int))) with
  | true =>
   have YM := odt Yj
   have YS : (0 : Int) ≤ Y1 := (by assumption)
   have YT : Y1 < (Y10.length : Int) := (by assumption)
   have p {a C} (s : Scr a C) := sB Yj <| sG (cI .i64) Y10 Y1 YS YT <| sZ (cI .i64) Y14 <| s
   cases YJ : (decide (Y1 ≥ (Y14.length : Int))) with
   | true =>
    have Y1d := odt YJ
    have e : Zp Y10 Y14 (k + 1) Y1 = (.inl 1) := by simp only [Zp, Yj, YJ, cond_true]
    rw [e]
    exact outR (e := .ret) E0Ok Z5 [] (mR false [4, 1, 31]) [] (p (sB YJ <| sN)) (by kernel_rfl) (by intro h; cases h)
   | false =>
    have Y1d := odf YJ
    have YY : Y1 < (Y14.length : Int) := by clear p; exact (by omega)
    have q {a C} (s : Scr a C) := p (sB YJ <| sG (cI .i64) Y14 Y1 YS YY <| sF (ZcF (Y10.getD Y1.toNat default) (Y14.getD Y1.toNat default)) <| s)
    clear p
    cases h_2 : ((Z1P (Y10.getD Y1.toNat default) (Y14.getD Y1.toNat default)) != 0) with
    | true =>
     have Y1r := bne_iff_ne.1 h_2
     have e : Zp Y10 Y14 (k + 1) Y1 = (.inl (Z1P (Y10.getD Y1.toNat default) (Y14.getD Y1.toNat default))) := by simp only [Zp, Yj, YJ, h_2, cond_true, cond_false]
     rw [e]
     exact outR (e := .ret) E0Ok Z5 [] (mR false [4, 1, 31]) [] (q (sB h_2 <| sN)) (by kernel_rfl) (by intro h; cases h)
    | false =>
     have Y1r := bne_eq_false_iff_eq.1 h_2
     have YZ : (-9223372036854775808 : Int) ≤ (Y1 + 1) := by clear q; exact (by omega)
     have y_4 : (Y1 + 1) ≤ (9223372036854775807 : Int) := by clear q; exact (by omega)
     have e : Zp Y10 Y14 (k + 1) Y1 = (Zp Y10 Y14 k (Y1 + 1)) := by simp only [Zp, Yj, YJ, h_2, cond_true, cond_false]
     rw [e]
     exact nextR E0Ok Z5 [] (mR false [0, 2, 7, 3, 24]) [] (ih (Y1 + 1) (show 0 ≤ (Y1 + 1) from (by omega)) (by omega)) (q (sB h_2 <| sI (Y1 + 1) YZ y_4 <| sN)) (by kernel_rfl)
  | false =>
   have YM := odf Yj
   have e : Zp Y10 Y14 (k + 1) Y1 = (.inr ()) := by simp only [Zp, Yj, cond_false]
   rw [e]
   exact outR (e := (.exit 0)) E0Ok Z5 [] (mR false [0, 2, 7, 1, 26]) [] (sB Yj <| sN) (by kernel_rfl) (by intro h; cases h)
def Z2A (Y10 : (List Int)) (Y14 : (List Int)) : (Int) ⊕ (Unit) := (Zp Y10 Y14 (((Y10.length : Int) - 0).toNat + 1) 0)
def Z29 (Y10 : (List Int)) (Y14 : (List Int)) : Int := (match (Z2A Y10 Y14) with
  | .inl r1 => r1
  | .inr r1 => (cond (decide ((Y10.length : Int) < (Y14.length : Int)))
    (-1)
    0))
theorem Z8B (Y10 : (List Int)) (Y14 : (List Int)) (hp0 : Y10.length ≤ 1073741824) (hp1 : Y14.length ≤ 1073741824)  : Fn prog 155 [.sl (Y10.map (cI .i64)), .sl (Y14.map (cI .i64))] (.i .i64 (Z29 Y10 Y14)) [] := by
 have p {a C} (s : Scr a C) := sZ (cI .i64) Y10 <| s
 cases h0 : (Z2A Y10 Y14) with
 | inl r1 =>
  refine fnS E0Ok Z5 (c := bodyOf f155) [] (.i .i64 r1) [] func155 (p (sL (mR false [0, 2, 7, 3, 24]) 0 (lp_val (Z3l Y10 Y14) (x := (Z2A Y10 Y14)) (Z4X Y10 Y14 hp0 hp1 (((Y10.length : Int) - 0).toNat + 1) 0 (show 0 ≤ 0 from (by omega)) (Nat.lt_succ_self _)) h0) <| sK [] sN)) rfl (by kernel_rfl) (by kernel_rfl) rfl ?_ ?_
  · simp only [Z29, h0]
  · rfl
 | inr r1 =>
  have q {a C} (s : Scr a C) := p (sL (mR false [0, 2, 7, 3, 24]) 0 (lp_val (Z3l Y10 Y14) (x := (Z2A Y10 Y14)) (Z4X Y10 Y14 hp0 hp1 (((Y10.length : Int) - 0).toNat + 1) 0 (show 0 ≤ 0 from (by omega)) (Nat.lt_succ_self _)) h0) <| sZ (cI .i64) Y10 <| sZ (cI .i64) Y14 <| s)
  clear p
  cases h1 : (decide ((Y10.length : Int) < (Y14.length : Int))) with
  | true =>
   have gh1 := odt h1
   refine fnS E0Ok Z5 (c := bodyOf f155) [] (.i .i64 (-1)) [] func155 (q (sB h1 <| sK [] sN)) rfl (by kernel_rfl) (by kernel_rfl) rfl ?_ ?_
   · simp only [Z29, h0, h1, cond_true]
   · rfl
  | false =>
   have gh1 := odf h1
   refine fnS E0Ok Z5 (c := bodyOf f155) [] (.i .i64 0) [] func155 (q (sB h1 <| sK [] sN)) rfl (by kernel_rfl) (by kernel_rfl) rfl ?_ ?_
   · simp only [Z29, h0, h1, cond_false]
   · rfl
def Z6K (Y5 : Gedge) (YA : Gedge) : Int := (Z29 ([Y5.e0, Y5.e1]) ([YA.e0, YA.e1]))
theorem Z9y (Y5 : Gedge) (YA : Gedge)   : Fn prog 151 [.agg [.i .i64 Y5.e0, .i .i64 Y5.e1], .agg [.i .i64 YA.e0, .i .i64 YA.e1]] (.i .i64 (Z6K Y5 YA)) [] := by
 have y0 : ([Y5.e0, Y5.e1]).length ≤ 1073741824 := (by simp_all <;> omega)
 have y1 : ([YA.e0, YA.e1]).length ≤ 1073741824 := (by assumption)
 refine fnS E0Ok Z5 (c := bodyOf f151) [] (.i .i64 (Z29 ([Y5.e0, Y5.e1]) ([YA.e0, YA.e1]))) [] func151 (sK [2, 2] <| sF (Z8B ([Y5.e0, Y5.e1]) ([YA.e0, YA.e1]) y0 y1) <| sK [] sN) rfl (by kernel_rfl) (by kernel_rfl) rfl ?_ ?_
 · rfl
 · rfl
def Z4 (Y7 : Gm) (Y1 : Int) (Y6 : Int) : Gedge := (Z6k ((Y7.Tr.getD Y1.toNat default).getD Y6.toNat default) ((Y7.Tr.getD Y1.toNat default).getD (Int.tmod (Y6 + 1) 3).toNat default))
def Zj (Y7 : Gm) (Y1 : Int) (Y8 : (List (Gedge × List Int))) (Yi : (List Gedge)) : Nat → Int → (List (Gedge × List Int)) → (List Gedge) → (List (Gedge × List Int)) × (List Gedge)
  | 0, _, _, _ => default
  | k + 1, Y6, Yg, YP => (cond (decide (Y6 < 3))
    (cond (mhas Yg (Z4 Y7 Y1 Y6))
      (cond (((Yg.getD (midx Yg (Z4 Y7 Y1 Y6)) default).2.length : Int) == 0)
        (Zj Y7 Y1 Y8 Yi k (Y6 + 1) (mput Yg (midx Yg (Z4 Y7 Y1 Y6)) ((Yg.getD (midx Yg (Z4 Y7 Y1 Y6)) default).2 ++ [Y1])) (YP ++ [(Z4 Y7 Y1 Y6)]))
        (Zj Y7 Y1 Y8 Yi k (Y6 + 1) (mput Yg (midx Yg (Z4 Y7 Y1 Y6)) ((Yg.getD (midx Yg (Z4 Y7 Y1 Y6)) default).2 ++ [Y1])) YP))
      (Zj Y7 Y1 Y8 Yi k (Y6 + 1) (Yg ++ [((Z4 Y7 Y1 Y6), [Y1])]) (YP ++ [(Z4 Y7 Y1 Y6)])))
    (Yg, YP))
def Z56 (Y7 : Gm) (Y1 : Int) (Y8 : (List (Gedge × List Int))) (Yi : (List Gedge)) (r : (List (Gedge × List Int)) × (List Gedge)) : Ex × St := ((.exit 2), ⟨.agg [.sl (Y7.Pq.map Gv.c), .sl (Y7.Tr.map (cL (cI .i64)))] :: .ptr 0 0 0 :: .any :: .nils :: .mp 1 :: .own 2 :: .i .i64 Y1 :: .sl ((Y7.Tr.getD Y1.toNat default).map (cI .i64)) :: .any :: .any :: .mp 1 :: .any :: .ptr 0 0 1 :: .sl (Y7.Tr.map (cL (cI .i64))) :: .i .i64 (Y7.Tr.length : Int) :: .i .i64 Y1 :: .b (decide (Y1 < (Y7.Tr.length : Int))) :: .i .i64 Y1 :: .ref [.sl ((Y7.Tr.getD Y1.toNat default).map (cI .i64))] 0 :: .sl ((Y7.Tr.getD Y1.toNat default).map (cI .i64)) :: an 37 [], [.box 38 [.sl (Y7.Pq.map Gv.c), .sl (Y7.Tr.map (cL (cI .i64)))], .mapN 2 (mapC Gedge.pr (cI .i64) r.1) none, .vec 167 2 (r.2.map Gedge.cells) false]⟩)
def ZaQ (Y7 : Gm) (Y1 : Int) (Y8 : (List (Gedge × List Int))) (Yi : (List Gedge)) (Y6 : Int) (Yg : (List (Gedge × List Int))) (YP : (List Gedge)) : St := ⟨.agg [.sl (Y7.Pq.map Gv.c), .sl (Y7.Tr.map (cL (cI .i64)))] :: .ptr 0 0 0 :: .any :: .nils :: .mp 1 :: .own 2 :: .i .i64 Y1 :: .sl ((Y7.Tr.getD Y1.toNat default).map (cI .i64)) :: .any :: .any :: .mp 1 :: .any :: .ptr 0 0 1 :: .sl (Y7.Tr.map (cL (cI .i64))) :: .i .i64 (Y7.Tr.length : Int) :: .i .i64 Y1 :: .b (decide (Y1 < (Y7.Tr.length : Int))) :: .i .i64 Y1 :: .ref [.sl ((Y7.Tr.getD Y1.toNat default).map (cI .i64))] 0 :: .sl ((Y7.Tr.getD Y1.toNat default).map (cI .i64)) :: .i .i64 Y6 :: an 36 [], [.box 38 [.sl (Y7.Pq.map Gv.c), .sl (Y7.Tr.map (cL (cI .i64)))], .mapN 2 (mapC Gedge.pr (cI .i64) Yg) none, .vec 167 2 (YP.map Gedge.cells) false]⟩
set_option maxHeartbeats 1000000 in
theorem ZaR (Y7 : Gm) (Y1 : Int) (Y8 : (List (Gedge × List Int))) (Yi : (List Gedge)) (hp0 : Y7.Pq.length ≤ 1073741824) (hp1 : Y7.Tr.length ≤ 1073741824) (hp2 : ∀ t ∈ Y7.Tr, t.length ≤ 1073741824) (hp3 : OkE Y7.Pq.length Y7.Tr) (ZX : 0 ≤ Y1) (Z4c : (Yi.length : Int) ≤ 3 * Y1) (Z3w : ∀ y ∈ Y8, (y.2.length : Int) ≤ 3 * Y1) (Z2B : (decide (Y1 < (Y7.Tr.length : Int))) = true) : ∀ (k : Nat) (Y6 : Int) (Yg : (List (Gedge × List Int))) (YP : (List Gedge)) (Z1T : 0 ≤ Y6) (Z5R : (YP.length : Int) ≤ (Yi.length : Int) + Y6) (Z5S : ∀ y ∈ Yg, (y.2.length : Int) ≤ 3 * Y1 + Y6) (hk : ((3 : Int) - Y6).toNat < k), Lp prog 0 (sub (bodyOf f141) [1, 1, 0, 1, 0, 0, 1, 1, 0, 0, 1, 1, 0, 0]) (ZaQ Y7 Y1 Y8 Yi Y6 Yg YP) (Z56 Y7 Y1 Y8 Yi (Zj Y7 Y1 Y8 Yi k Y6 Yg YP)).1 (Z56 Y7 Y1 Y8 Yi (Zj Y7 Y1 Y8 Yi k Y6 Yg YP)).2 := by
 intro k
 induction k with
 | zero => intro Y6 Yg YP Z1T Z5R Z5S hk; exact absurd hk (Nat.not_lt_zero _)
 | succ k ih =>
  intro Y6 Yg YP Z1T Z5R Z5S hk
  cases YW : (decide (Y6 < 3)) with
  | true =>
   have YU := odt YW
   have Y1g : (0 : Int) ≤ Y6 := (by assumption)
   have Y1h : Y6 < ((Y7.Tr.getD Y1.toNat default).length : Int) := (by ((have g5 := odt Z2B; have q := OkE.at hp3 ZX g5 Z1T (odt (by assumption)); omega)))
   have Y1e : (-9223372036854775808 : Int) ≤ (Y6 + 1) := (by omega)
   have Y1b : (Y6 + 1) ≤ (9223372036854775807 : Int) := (by omega)
   have Y1i : (0 : Int) ≤ (Int.tmod (Y6 + 1) 3) := (by ((have g5 := odt Z2B; have q := OkE.at hp3 ZX g5 Z1T (odt (by assumption)); omega)))
   have Y1o : (Int.tmod (Y6 + 1) 3) < ((Y7.Tr.getD Y1.toNat default).length : Int) := (by ((have g5 := odt Z2B; have q := OkE.at hp3 ZX g5 Z1T (odt (by assumption)); omega)))
   have p {a C} (s : Scr a C) := sB YW <| sK [12, 12] <| sG (cI .i64) (Y7.Tr.getD Y1.toNat default) Y6 Y1g Y1h <| sI (Y6 + 1) Y1e Y1b <| sC (show (3 : Int) ≠ 0 from (by decide)) <| sQ (Int.tmod (Y6 + 1) 3) <| sG (cI .i64) (Y7.Tr.getD Y1.toNat default) (Int.tmod (Y6 + 1) 3) Y1i Y1o <| sF (Zgm ((Y7.Tr.getD Y1.toNat default).getD Y6.toNat default) ((Y7.Tr.getD Y1.toNat default).getD (Int.tmod (Y6 + 1) 3).toNat default)) <| s
   cases Y19 : (mhas Yg (Z4 Y7 Y1 Y6)) with
   | true =>
    have m__16 := midx_lt Y19
    have q {a C} (s : Scr a C) := p (sA (.keep [midx Yg (Z4 Y7 Y1 Y6)]) <| sC (mget_ok (ck := Gedge.pr) (cv := (cI .i64)) Y19) <| sM (mget_len (ck := Gedge.pr) (cv := (cI .i64)) (l := Yg) (j := (midx Yg (Z4 Y7 Y1 Y6)))) <| s)
    clear p
    cases Y1H : (((Yg.getD (midx Yg (Z4 Y7 Y1 Y6)) default).2.length : Int) == 0) with
    | true =>
     have gh__2 := eq_of_beq Y1H
     have Y1k : YP.length + ([(Z4 Y7 Y1 Y6)]).length ≤ 1073741824 := by clear q; exact (by ((have g5 := odt Z2B; have q := OkE.at hp3 ZX g5 Z1T (odt (by assumption)); (simp only [List.length_append, List.length_cons, List.length_nil]; omega))))
     have Y1p : (midx Yg (Z4 Y7 Y1 Y6)) < Yg.length := by clear q; exact (by assumption)
     have Y1C : ((Yg.getD (midx Yg (Z4 Y7 Y1 Y6)) default).2).length + ([Y1]).length ≤ 1073741824 := by clear q; exact (by ((have g5 := odt Z2B; have q := OkE.at hp3 ZX g5 Z1T (odt (by assumption)); (simp only [List.length_append, List.length_cons, List.length_nil]; omega))))
     have e : Zj Y7 Y1 Y8 Yi (k + 1) Y6 Yg YP = (Zj Y7 Y1 Y8 Yi k (Y6 + 1) (mput Yg (midx Yg (Z4 Y7 Y1 Y6)) ((Yg.getD (midx Yg (Z4 Y7 Y1 Y6)) default).2 ++ [Y1])) (YP ++ [(Z4 Y7 Y1 Y6)])) := by simp only [Zj, YW, Y19, Y1H, cond_true]
     rw [e]
     exact nextS E0Ok Z5 [] (mR false [0, 2, 1, 5, 2, 1, 1, 9, 36]) [0, 1, 2] (⟨.agg [.sl (Y7.Pq.map Gv.c), .sl (Y7.Tr.map (cL (cI .i64)))] :: .ptr 0 0 0 :: .any :: .nils :: .mp 1 :: .own 2 :: .i .i64 Y1 :: .sl ((Y7.Tr.getD Y1.toNat default).map (cI .i64)) :: .any :: .any :: .mp 1 :: .any :: .ptr 0 0 1 :: .sl (Y7.Tr.map (cL (cI .i64))) :: .i .i64 (Y7.Tr.length : Int) :: .i .i64 Y1 :: .b (decide (Y1 < (Y7.Tr.length : Int))) :: .i .i64 Y1 :: .ref [.sl ((Y7.Tr.getD Y1.toNat default).map (cI .i64))] 0 :: .sl ((Y7.Tr.getD Y1.toNat default).map (cI .i64)) :: .i .i64 (Y6 + 1) :: an 36 [], [.box 38 [.sl (Y7.Pq.map Gv.c), .sl (Y7.Tr.map (cL (cI .i64)))], .mapN 2 (((mapC Gedge.pr (cI .i64) Yg).set (midx Yg (Z4 Y7 Y1 Y6)) (((mapC Gedge.pr (cI .i64) Yg).getD (midx Yg (Z4 Y7 Y1 Y6)) default).1, [])).set (midx Yg (Z4 Y7 Y1 Y6)) ((((mapC Gedge.pr (cI .i64) Yg).set (midx Yg (Z4 Y7 Y1 Y6)) (((mapC Gedge.pr (cI .i64) Yg).getD (midx Yg (Z4 Y7 Y1 Y6)) default).1, [])).getD (midx Yg (Z4 Y7 Y1 Y6)) default).1, (((mapC Gedge.pr (cI .i64) Yg).getD (midx Yg (Z4 Y7 Y1 Y6)) default).2 ++ ([Y1].map (cI .i64))))) none, .vec 167 2 ((YP.map Gedge.cells) ++ ([[.i .i64 ((Z4 Y7 Y1 Y6).e0), .i .i64 ((Z4 Y7 Y1 Y6).e1)]] : List (List AV))) false]⟩) (q (sB Y1H <| sC (show (YP.map Gedge.cells).length + ([[.i .i64 ((Z4 Y7 Y1 Y6).e0), .i .i64 ((Z4 Y7 Y1 Y6).e1)]] : List (List AV)).length ≤ 1073741824 from (by simpa using Y1k)) <| sA (.keep [midx Yg (Z4 Y7 Y1 Y6)]) <| sC (mget_ok (ck := Gedge.pr) (cv := (cI .i64)) Y19) <| sC (show (midx Yg (Z4 Y7 Y1 Y6)) < (mapC Gedge.pr (cI .i64) Yg).length from (by simpa using Y1p)) <| sC (show (((mapC Gedge.pr (cI .i64) Yg).getD (midx Yg (Z4 Y7 Y1 Y6)) default).2).length + ([[.i .i64 Y1]] : List (List AV)).length ≤ 1073741824 from (by simpa using Y1C)) <| sA (.keep [(midx Yg (Z4 Y7 Y1 Y6))]) <| sC (show ((midx Yg (Z4 Y7 Y1 Y6)) : Int) = (((midx Yg (Z4 Y7 Y1 Y6)) : Nat) : Int) from rfl) <| sC (show (midx Yg (Z4 Y7 Y1 Y6)) < ((mapC Gedge.pr (cI .i64) Yg).set (midx Yg (Z4 Y7 Y1 Y6)) (((mapC Gedge.pr (cI .i64) Yg).getD (midx Yg (Z4 Y7 Y1 Y6)) default).1, [])).length from (by simpa using Y1p)) <| sC (show ∀ i, some (midx Yg (Z4 Y7 Y1 Y6)) = some i → i = (midx Yg (Z4 Y7 Y1 Y6)) from (fun i h => by cases h; rfl)) <| sI (Y6 + 1) Y1e Y1b <| sN)) (by kernel_rfl) (show _ = ⟨.agg [.sl (Y7.Pq.map Gv.c), .sl (Y7.Tr.map (cL (cI .i64)))] :: .ptr 0 0 0 :: .any :: .nils :: .mp 1 :: .own 2 :: .i .i64 Y1 :: .sl ((Y7.Tr.getD Y1.toNat default).map (cI .i64)) :: .any :: .any :: .mp 1 :: .any :: .ptr 0 0 1 :: .sl (Y7.Tr.map (cL (cI .i64))) :: .i .i64 (Y7.Tr.length : Int) :: .i .i64 Y1 :: .b (decide (Y1 < (Y7.Tr.length : Int))) :: .i .i64 Y1 :: .ref [.sl ((Y7.Tr.getD Y1.toNat default).map (cI .i64))] 0 :: .sl ((Y7.Tr.getD Y1.toNat default).map (cI .i64)) :: .i .i64 (Y6 + 1) :: an 36 [], [.box 38 [.sl (Y7.Pq.map Gv.c), .sl (Y7.Tr.map (cL (cI .i64)))], .mapN 2 (mapC Gedge.pr (cI .i64) (mput Yg (midx Yg (Z4 Y7 Y1 Y6)) ((Yg.getD (midx Yg (Z4 Y7 Y1 Y6)) default).2 ++ [Y1]))) none, .vec 167 2 ((YP ++ [(Z4 Y7 Y1 Y6)]).map Gedge.cells) false]⟩ from (by rw [mapC_put (midx_lt Y19)]; simp [List.map_set, Gedge.cells])) (ih (Y6 + 1) (mput Yg (midx Yg (Z4 Y7 Y1 Y6)) ((Yg.getD (midx Yg (Z4 Y7 Y1 Y6)) default).2 ++ [Y1])) (YP ++ [(Z4 Y7 Y1 Y6)]) (show 0 ≤ (Y6 + 1) from (by omega)) (show ((YP ++ [(Z4 Y7 Y1 Y6)]).length : Int) ≤ (Yi.length : Int) + (Y6 + 1) from (by simp only [List.length_append, List.length_cons, List.length_nil]; omega)) (show ∀ y ∈ (mput Yg (midx Yg (Z4 Y7 Y1 Y6)) ((Yg.getD (midx Yg (Z4 Y7 Y1 Y6)) default).2 ++ [Y1])), (y.2.length : Int) ≤ 3 * Y1 + (Y6 + 1) from (by exact mput_inv (by assumption) (by omega) (by omega))) (by omega))
    | false =>
     have gh__2 := ne_of_beq_false Y1H
     have Y1k : (midx Yg (Z4 Y7 Y1 Y6)) < Yg.length := by clear q; exact (by assumption)
     have Y1p : ((Yg.getD (midx Yg (Z4 Y7 Y1 Y6)) default).2).length + ([Y1]).length ≤ 1073741824 := by clear q; exact (by ((have g5 := odt Z2B; have q := OkE.at hp3 ZX g5 Z1T (odt (by assumption)); (have q3 := mlen_leI (N := 3 * Y1 + Y6) (by omega) (by assumption) (midx Yg (Z4 Y7 Y1 Y6)); simp only [List.length_cons, List.length_nil]; omega))))
     have e : Zj Y7 Y1 Y8 Yi (k + 1) Y6 Yg YP = (Zj Y7 Y1 Y8 Yi k (Y6 + 1) (mput Yg (midx Yg (Z4 Y7 Y1 Y6)) ((Yg.getD (midx Yg (Z4 Y7 Y1 Y6)) default).2 ++ [Y1])) YP) := by simp only [Zj, YW, Y19, Y1H, cond_true, cond_false]
     rw [e]
     exact nextS E0Ok Z5 [] (mR false [0, 2, 1, 5, 2, 1, 1, 9, 36]) [0, 1, 2] (⟨.agg [.sl (Y7.Pq.map Gv.c), .sl (Y7.Tr.map (cL (cI .i64)))] :: .ptr 0 0 0 :: .any :: .nils :: .mp 1 :: .own 2 :: .i .i64 Y1 :: .sl ((Y7.Tr.getD Y1.toNat default).map (cI .i64)) :: .any :: .any :: .mp 1 :: .any :: .ptr 0 0 1 :: .sl (Y7.Tr.map (cL (cI .i64))) :: .i .i64 (Y7.Tr.length : Int) :: .i .i64 Y1 :: .b (decide (Y1 < (Y7.Tr.length : Int))) :: .i .i64 Y1 :: .ref [.sl ((Y7.Tr.getD Y1.toNat default).map (cI .i64))] 0 :: .sl ((Y7.Tr.getD Y1.toNat default).map (cI .i64)) :: .i .i64 (Y6 + 1) :: an 36 [], [.box 38 [.sl (Y7.Pq.map Gv.c), .sl (Y7.Tr.map (cL (cI .i64)))], .mapN 2 (((mapC Gedge.pr (cI .i64) Yg).set (midx Yg (Z4 Y7 Y1 Y6)) (((mapC Gedge.pr (cI .i64) Yg).getD (midx Yg (Z4 Y7 Y1 Y6)) default).1, [])).set (midx Yg (Z4 Y7 Y1 Y6)) ((((mapC Gedge.pr (cI .i64) Yg).set (midx Yg (Z4 Y7 Y1 Y6)) (((mapC Gedge.pr (cI .i64) Yg).getD (midx Yg (Z4 Y7 Y1 Y6)) default).1, [])).getD (midx Yg (Z4 Y7 Y1 Y6)) default).1, (((mapC Gedge.pr (cI .i64) Yg).getD (midx Yg (Z4 Y7 Y1 Y6)) default).2 ++ ([Y1].map (cI .i64))))) none, .vec 167 2 (YP.map Gedge.cells) false]⟩) (q (sB Y1H <| sA (.keep [midx Yg (Z4 Y7 Y1 Y6)]) <| sC (mget_ok (ck := Gedge.pr) (cv := (cI .i64)) Y19) <| sC (show (midx Yg (Z4 Y7 Y1 Y6)) < (mapC Gedge.pr (cI .i64) Yg).length from (by simpa using Y1k)) <| sC (show (((mapC Gedge.pr (cI .i64) Yg).getD (midx Yg (Z4 Y7 Y1 Y6)) default).2).length + ([[.i .i64 Y1]] : List (List AV)).length ≤ 1073741824 from (by simpa using Y1p)) <| sA (.keep [(midx Yg (Z4 Y7 Y1 Y6))]) <| sC (show ((midx Yg (Z4 Y7 Y1 Y6)) : Int) = (((midx Yg (Z4 Y7 Y1 Y6)) : Nat) : Int) from rfl) <| sC (show (midx Yg (Z4 Y7 Y1 Y6)) < ((mapC Gedge.pr (cI .i64) Yg).set (midx Yg (Z4 Y7 Y1 Y6)) (((mapC Gedge.pr (cI .i64) Yg).getD (midx Yg (Z4 Y7 Y1 Y6)) default).1, [])).length from (by simpa using Y1k)) <| sC (show ∀ i, some (midx Yg (Z4 Y7 Y1 Y6)) = some i → i = (midx Yg (Z4 Y7 Y1 Y6)) from (fun i h => by cases h; rfl)) <| sI (Y6 + 1) Y1e Y1b <| sN)) (by kernel_rfl) (show _ = ⟨.agg [.sl (Y7.Pq.map Gv.c), .sl (Y7.Tr.map (cL (cI .i64)))] :: .ptr 0 0 0 :: .any :: .nils :: .mp 1 :: .own 2 :: .i .i64 Y1 :: .sl ((Y7.Tr.getD Y1.toNat default).map (cI .i64)) :: .any :: .any :: .mp 1 :: .any :: .ptr 0 0 1 :: .sl (Y7.Tr.map (cL (cI .i64))) :: .i .i64 (Y7.Tr.length : Int) :: .i .i64 Y1 :: .b (decide (Y1 < (Y7.Tr.length : Int))) :: .i .i64 Y1 :: .ref [.sl ((Y7.Tr.getD Y1.toNat default).map (cI .i64))] 0 :: .sl ((Y7.Tr.getD Y1.toNat default).map (cI .i64)) :: .i .i64 (Y6 + 1) :: an 36 [], [.box 38 [.sl (Y7.Pq.map Gv.c), .sl (Y7.Tr.map (cL (cI .i64)))], .mapN 2 (mapC Gedge.pr (cI .i64) (mput Yg (midx Yg (Z4 Y7 Y1 Y6)) ((Yg.getD (midx Yg (Z4 Y7 Y1 Y6)) default).2 ++ [Y1]))) none, .vec 167 2 (YP.map Gedge.cells) false]⟩ from (by rw [mapC_put (midx_lt Y19)]; done)) (ih (Y6 + 1) (mput Yg (midx Yg (Z4 Y7 Y1 Y6)) ((Yg.getD (midx Yg (Z4 Y7 Y1 Y6)) default).2 ++ [Y1])) YP (show 0 ≤ (Y6 + 1) from (by omega)) (show (YP.length : Int) ≤ (Yi.length : Int) + (Y6 + 1) from (by omega)) (show ∀ y ∈ (mput Yg (midx Yg (Z4 Y7 Y1 Y6)) ((Yg.getD (midx Yg (Z4 Y7 Y1 Y6)) default).2 ++ [Y1])), (y.2.length : Int) ≤ 3 * Y1 + (Y6 + 1) from (by exact mput_inv (by assumption) (by omega) (by omega))) (by omega))
   | false =>
    have Y1k : YP.length + ([(Z4 Y7 Y1 Y6)]).length ≤ 1073741824 := by clear p; exact (by ((have g5 := odt Z2B; have q := OkE.at hp3 ZX g5 Z1T (odt (by assumption)); (simp only [List.length_append, List.length_cons, List.length_nil]; omega))))
    have e : Zj Y7 Y1 Y8 Yi (k + 1) Y6 Yg YP = (Zj Y7 Y1 Y8 Yi k (Y6 + 1) (Yg ++ [((Z4 Y7 Y1 Y6), [Y1])]) (YP ++ [(Z4 Y7 Y1 Y6)])) := by simp only [Zj, YW, Y19, cond_true, cond_false]
    rw [e]
    exact nextS E0Ok Z5 [] (mR false [0, 2, 1, 5, 2, 1, 1, 9, 36]) [0, 1, 2] (⟨.agg [.sl (Y7.Pq.map Gv.c), .sl (Y7.Tr.map (cL (cI .i64)))] :: .ptr 0 0 0 :: .any :: .nils :: .mp 1 :: .own 2 :: .i .i64 Y1 :: .sl ((Y7.Tr.getD Y1.toNat default).map (cI .i64)) :: .any :: .any :: .mp 1 :: .any :: .ptr 0 0 1 :: .sl (Y7.Tr.map (cL (cI .i64))) :: .i .i64 (Y7.Tr.length : Int) :: .i .i64 Y1 :: .b (decide (Y1 < (Y7.Tr.length : Int))) :: .i .i64 Y1 :: .ref [.sl ((Y7.Tr.getD Y1.toNat default).map (cI .i64))] 0 :: .sl ((Y7.Tr.getD Y1.toNat default).map (cI .i64)) :: .i .i64 (Y6 + 1) :: an 36 [], [.box 38 [.sl (Y7.Pq.map Gv.c), .sl (Y7.Tr.map (cL (cI .i64)))], .mapN 2 (((mapC Gedge.pr (cI .i64) Yg) ++ [((Gedge.pr (Z4 Y7 Y1 Y6)), [])]).set (mapC Gedge.pr (cI .i64) Yg).length ((((mapC Gedge.pr (cI .i64) Yg) ++ [((Gedge.pr (Z4 Y7 Y1 Y6)), [])]).getD (mapC Gedge.pr (cI .i64) Yg).length default).1, (([Y1]).map (cI .i64)))) none, .vec 167 2 ((YP.map Gedge.cells) ++ ([[.i .i64 ((Z4 Y7 Y1 Y6).e0), .i .i64 ((Z4 Y7 Y1 Y6).e1)]] : List (List AV))) false]⟩) (p (sA (.keep []) <| sC (mnot_ok (ck := Gedge.pr) (cv := (cI .i64)) Gedge.inj Y19) <| sM (show ((0 : Nat) : Int) = 0 from rfl) <| sB (show (0 == 0) = true from rfl) <| sC (show (YP.map Gedge.cells).length + ([[.i .i64 ((Z4 Y7 Y1 Y6).e0), .i .i64 ((Z4 Y7 Y1 Y6).e1)]] : List (List AV)).length ≤ 1073741824 from (by simpa using Y1k)) <| sA (.keep []) <| sC (mnot_ok (ck := Gedge.pr) (cv := (cI .i64)) Gedge.inj Y19) <| sC (show ([[.i .i64 Y1]] : List (List AV)) ≠ [] from (by simp)) <| sC (show ([[.i .i64 Y1]] : List (List AV)).length ≤ 1073741824 from (by simp)) <| sA (.keep [(mapC Gedge.pr (cI .i64) Yg).length]) <| sC (show ((mapC Gedge.pr (cI .i64) Yg).length : Int) = (((mapC Gedge.pr (cI .i64) Yg).length : Nat) : Int) from rfl) <| sC (show (mapC Gedge.pr (cI .i64) Yg).length < ((mapC Gedge.pr (cI .i64) Yg) ++ [((Gedge.pr (Z4 Y7 Y1 Y6)), [])]).length from (by simp)) <| sC (show ∀ i, (none : Option Nat) = some i → i = (mapC Gedge.pr (cI .i64) Yg).length from (fun i h => by cases h)) <| sI (Y6 + 1) Y1e Y1b <| sN)) (by kernel_rfl) (show _ = ⟨.agg [.sl (Y7.Pq.map Gv.c), .sl (Y7.Tr.map (cL (cI .i64)))] :: .ptr 0 0 0 :: .any :: .nils :: .mp 1 :: .own 2 :: .i .i64 Y1 :: .sl ((Y7.Tr.getD Y1.toNat default).map (cI .i64)) :: .any :: .any :: .mp 1 :: .any :: .ptr 0 0 1 :: .sl (Y7.Tr.map (cL (cI .i64))) :: .i .i64 (Y7.Tr.length : Int) :: .i .i64 Y1 :: .b (decide (Y1 < (Y7.Tr.length : Int))) :: .i .i64 Y1 :: .ref [.sl ((Y7.Tr.getD Y1.toNat default).map (cI .i64))] 0 :: .sl ((Y7.Tr.getD Y1.toNat default).map (cI .i64)) :: .i .i64 (Y6 + 1) :: an 36 [], [.box 38 [.sl (Y7.Pq.map Gv.c), .sl (Y7.Tr.map (cL (cI .i64)))], .mapN 2 (mapC Gedge.pr (cI .i64) (Yg ++ [((Z4 Y7 Y1 Y6), [Y1])])) none, .vec 167 2 ((YP ++ [(Z4 Y7 Y1 Y6)]).map Gedge.cells) false]⟩ from (by rw [mapC_new]; simp [List.map_set, Gedge.cells])) (ih (Y6 + 1) (Yg ++ [((Z4 Y7 Y1 Y6), [Y1])]) (YP ++ [(Z4 Y7 Y1 Y6)]) (show 0 ≤ (Y6 + 1) from (by omega)) (show ((YP ++ [(Z4 Y7 Y1 Y6)]).length : Int) ≤ (Yi.length : Int) + (Y6 + 1) from (by simp only [List.length_append, List.length_cons, List.length_nil]; omega)) (show ∀ y ∈ (Yg ++ [((Z4 Y7 Y1 Y6), [Y1])]), (y.2.length : Int) ≤ 3 * Y1 + (Y6 + 1) from (by exact mnew_inv (by assumption) (by omega) (by omega))) (by omega))
  | false =>
   have YU := odf YW
   have e : Zj Y7 Y1 Y8 Yi (k + 1) Y6 Yg YP = (Yg, YP) := by simp only [Zj, YW, cond_false]
   rw [e]
   exact outR (e := (.exit 2)) E0Ok Z5 [] (mR false [0, 2, 1, 5, 2, 1, 1, 8, 37]) [0, 1, 2] (sB YW <| sN) (by kernel_rfl) (by intro h; cases h)
end Go.Ab
