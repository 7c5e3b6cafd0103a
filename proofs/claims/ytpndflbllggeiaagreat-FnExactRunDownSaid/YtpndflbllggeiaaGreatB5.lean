/- The functions of this seat as plain Lean, and that the program's are these. Printed by a program of the prover's own. -/
import Derived.Test.YtpndflbllggeiaaGreatB4
set_option linter.unusedVariables false
set_option linter.unusedSimpArgs false
set_option maxRecDepth 100000
namespace Go.Ab
open Go.RowKit Go.Proofs.Tryz
def Z3a (Y0 : Gb) : (List Gv) := (Z16 Y0 ((((Z0 Y0.Me).length : Int) - 0).toNat + 1) 0 (Z39 Y0))
@[simp] theorem Zg0 (Y0 : Gb) : (Z3a Y0).length = ((Z39 Y0) : (List Gv)).length := Zcb Y0 ((((Z0 Y0.Me).length : Int) - 0).toNat + 1) 0 (Z39 Y0) (by exact Nat.lt_succ_self _)
def Z17 (Y0 : Gb) : Nat → Int → (List Gv) → (List Gv)
  | 0, _, _ => default
  | k + 1, Y1, Y3 => (cond (decide (Y1 < (Y0.Me.Pq.length : Int)))
    (Z17 Y0 k (Y1 + 1) (Y3.set Y1.toNat (ZI (Y3.getD Y1.toNat default) (Zq Y0.Fall (Y0.We.getD Y1.toNat default)))))
    Y3)
def Z6J (Y0 : Gb) (r : (List Gv)) : Ex × St := ((.exit 8), ⟨.ref (Gb.c Y0) 0 :: .any :: .nils :: .ref (Gb.c Y0) 0 :: .own 0 :: an 10 (.own 1 :: an 4 (.ref (Gb.c Y0) 0 :: .ref (Gb.c Y0) 0 :: .ref (Gb.c Y0) 0 :: .ref (Gb.c Y0) 0 :: .ref (Gb.c Y0) 0 :: .ref (Gb.c Y0) 0 :: .sl (Y0.Me.Pq.map Gv.c) :: .i .i64 (Y0.Me.Pq.length : Int) :: .own 0 :: .ref (Gb.c Y0) 0 :: .ref (Gb.c Y0) 0 :: .ref (Gb.c Y0) 2 :: .sl (Y0.Sp.map Gs.c) :: an 52 (.ref (Gb.c Y0) 0 :: .ref (Gb.c Y0) 0 :: .ref (Gb.c Y0) 1 :: .sl (Y0.Me.Tr.map (cL (cI .i64))) :: an 72 (.ref (Gb.c Y0) 0 :: .own 1 :: .own 1 :: an 86 (.ref (Gb.c Y0) 0 :: .ref (Gb.c Y0) 0 :: .ref (Gb.c Y0) 0 :: .sl (Y0.Me.Pq.map Gv.c) :: an 26 []))))), [.vec 40 3 (r.map Gv.c) false, .nest 49 ((Z0 Y0.Me).map fun l => l.map (cI .i64)) false]⟩)
def Z9s (Y0 : Gb) (Y1 : Int) (Y3 : (List Gv)) : St := ⟨.ref (Gb.c Y0) 0 :: .any :: .nils :: .ref (Gb.c Y0) 0 :: .own 0 :: an 10 (.own 1 :: an 4 (.ref (Gb.c Y0) 0 :: .ref (Gb.c Y0) 0 :: .ref (Gb.c Y0) 0 :: .ref (Gb.c Y0) 0 :: .ref (Gb.c Y0) 0 :: .ref (Gb.c Y0) 0 :: .sl (Y0.Me.Pq.map Gv.c) :: .i .i64 (Y0.Me.Pq.length : Int) :: .own 0 :: .ref (Gb.c Y0) 0 :: .ref (Gb.c Y0) 0 :: .ref (Gb.c Y0) 2 :: .sl (Y0.Sp.map Gs.c) :: an 52 (.ref (Gb.c Y0) 0 :: .ref (Gb.c Y0) 0 :: .ref (Gb.c Y0) 1 :: .sl (Y0.Me.Tr.map (cL (cI .i64))) :: an 72 (.ref (Gb.c Y0) 0 :: .own 1 :: .own 1 :: an 86 (.ref (Gb.c Y0) 0 :: .ref (Gb.c Y0) 0 :: .ref (Gb.c Y0) 0 :: .sl (Y0.Me.Pq.map Gv.c) :: .i .i64 (Y0.Me.Pq.length : Int) :: .i .i64 Y1 :: an 24 []))))), [.vec 40 3 (Y3.map Gv.c) false, .nest 49 ((Z0 Y0.Me).map fun l => l.map (cI .i64)) false]⟩
def Z8n : List Bool := (mR false [0, 1, 1, 3, 10, 1, 4, 13, 52, 4, 72, 3, 86, 6, 24])
def Zcc : List Bool := (mR false [0, 1, 1, 3, 10, 1, 4, 13, 52, 4, 72, 3, 86, 4, 26])
theorem Zd9 (Y0 : Gb) (hp0 : Y0.Me.Pq.length ≤ 1073741824) (hp1 : Y0.Me.Tr.length ≤ 1073741824) (hp2 : ∀ t ∈ Y0.Me.Tr, t.length ≤ 1073741824) (hp3 : Y0.Sp.length ≤ 1073741824) (hp4 : Y0.We.length ≤ 1073741824) (hp5 : OkBd Y0) : ∀ (k : Nat) (Y1 : Int) (Y3 : (List Gv)) (Z8o : 0 ≤ Y1) (Z8p : Y3.length = Y0.Me.Pq.length) (hk : ((Y0.Me.Pq.length : Int) - Y1).toNat < k), Lp prog 0 (sub (bodyOf f51) [1, 1, 1, 1, 1, 1, 1, 0, 1, 0, 0]) (Z9s Y0 Y1 Y3) (Z6J Y0 (Z17 Y0 k Y1 Y3)).1 (Z6J Y0 (Z17 Y0 k Y1 Y3)).2 := by
 intro k
 induction k with
 | zero => intro Y1 Y3 Z8o Z8p hk; exact absurd hk (Nat.not_lt_zero _)
 | succ k ih =>
  intro Y1 Y3 Z8o Z8p hk
  cases Yj : (decide (Y1 < (Y0.Me.Pq.length : Int))) with
  | true =>
   have YM := odt Yj
   have YS : (0 : Int) ≤ Y1 := (by assumption)
   have YT : Y1 < (Y3.length : Int) := (by omega)
   have YY : Y1.toNat < Y3.length := (by omega)
   have YZ : Y1 < (Y0.We.length : Int) := (by have q := hp5.w; omega)
   have y_4 : (-9223372036854775808 : Int) ≤ (Y1 + 1) := (by omega)
   have y_5 : (Y1 + 1) ≤ (9223372036854775807 : Int) := (by omega)
   have e : Z17 Y0 (k + 1) Y1 Y3 = (Z17 Y0 k (Y1 + 1) (Y3.set Y1.toNat (ZI (Y3.getD Y1.toNat default) (Zq Y0.Fall (Y0.We.getD Y1.toNat default))))) := by simp only [Z17, Yj, cond_true]
   rw [e]
   exact nextS E0Ok Z5 [] Z8n [0, 1] (⟨.ref (Gb.c Y0) 0 :: .any :: .nils :: .ref (Gb.c Y0) 0 :: .own 0 :: an 10 (.own 1 :: an 4 (.ref (Gb.c Y0) 0 :: .ref (Gb.c Y0) 0 :: .ref (Gb.c Y0) 0 :: .ref (Gb.c Y0) 0 :: .ref (Gb.c Y0) 0 :: .ref (Gb.c Y0) 0 :: .sl (Y0.Me.Pq.map Gv.c) :: .i .i64 (Y0.Me.Pq.length : Int) :: .own 0 :: .ref (Gb.c Y0) 0 :: .ref (Gb.c Y0) 0 :: .ref (Gb.c Y0) 2 :: .sl (Y0.Sp.map Gs.c) :: an 52 (.ref (Gb.c Y0) 0 :: .ref (Gb.c Y0) 0 :: .ref (Gb.c Y0) 1 :: .sl (Y0.Me.Tr.map (cL (cI .i64))) :: an 72 (.ref (Gb.c Y0) 0 :: .own 1 :: .own 1 :: an 86 (.ref (Gb.c Y0) 0 :: .ref (Gb.c Y0) 0 :: .ref (Gb.c Y0) 0 :: .sl (Y0.Me.Pq.map Gv.c) :: .i .i64 (Y0.Me.Pq.length : Int) :: .i .i64 (Y1 + 1) :: an 24 []))))), [.vec 40 3 ((Y3.map Gv.c).set Y1.toNat [.f .f32 ((ZI (Y3.getD Y1.toNat default) (Zq Y0.Fall (Y0.We.getD Y1.toNat default))).X), .f .f32 ((ZI (Y3.getD Y1.toNat default) (Zq Y0.Fall (Y0.We.getD Y1.toNat default))).Y), .f .f32 ((ZI (Y3.getD Y1.toNat default) (Zq Y0.Fall (Y0.We.getD Y1.toNat default))).Z)]) false, .nest 49 ((Z0 Y0.Me).map fun l => l.map (cI .i64)) false]⟩) (sB Yj <| sK [19, 19] <| sX Gv.c Y3 Y1 YS YT <| sV Gv.c Y3 Y1.toNat YY <| sG (cF .f32) Y0.We Y1 YS YZ <| sF (Z3M Y0.Fall (Y0.We.getD Y1.toNat default)) <| sF (Z3J (Y3.getD Y1.toNat default) (Zq Y0.Fall (Y0.We.getD Y1.toNat default))) <| sX Gv.c Y3 Y1 YS YT <| sC (maplt (c := Gv.c) (l := Y3) YY) <| sI (Y1 + 1) y_4 y_5 <| sN) (by kernel_rfl) (by simp [Z9s, List.map_set, Gv.c]) (ih (Y1 + 1) (Y3.set Y1.toNat (ZI (Y3.getD Y1.toNat default) (Zq Y0.Fall (Y0.We.getD Y1.toNat default)))) (show 0 ≤ (Y1 + 1) from (by omega)) (show (Y3.set Y1.toNat (ZI (Y3.getD Y1.toNat default) (Zq Y0.Fall (Y0.We.getD Y1.toNat default)))).length = Y0.Me.Pq.length from (by simp_all <;> omega)) (by omega))
  | false =>
   have YM := odf Yj
   have e : Z17 Y0 (k + 1) Y1 Y3 = Y3 := by simp only [Z17, Yj, cond_false]
   rw [e]
   exact outR (e := (.exit 8)) E0Ok Z5 [] Zcc [0, 1] (sB Yj <| sN) (by kernel_rfl) (by intro h; cases h)
theorem Zcd (Y0 : Gb) : ∀ (k : Nat) (Y1 : Int) (Y3 : (List Gv)) (hk : ((Y0.Me.Pq.length : Int) - Y1).toNat < k), (Z17 Y0 k Y1 Y3).length = Y3.length := by
  intro k
  induction k with
  | zero => intro Y1 Y3 hk; exact absurd hk (Nat.not_lt_zero _)
  | succ k ih =>
    intro Y1 Y3 hk
    cases Yj : (decide (Y1 < (Y0.Me.Pq.length : Int))) with
    | true =>
      have e : Z17 Y0 (k + 1) Y1 Y3 = (Z17 Y0 k (Y1 + 1) (Y3.set Y1.toNat (ZI (Y3.getD Y1.toNat default) (Zq Y0.Fall (Y0.We.getD Y1.toNat default))))) := by simp only [Z17, Yj, cond_true]
      rw [e, ih (Y1 + 1) (Y3.set Y1.toNat (ZI (Y3.getD Y1.toNat default) (Zq Y0.Fall (Y0.We.getD Y1.toNat default)))) (by simp_all <;> omega)]; simp
    | false =>
      have e : Z17 Y0 (k + 1) Y1 Y3 = Y3 := by simp only [Z17, Yj, cond_false]
      first | (rw [e]; done) | (rw [e]; rfl)
def Z4j (Y0 : Gb) : (List Gv) := (Z17 Y0 (((Y0.Me.Pq.length : Int) - 0).toNat + 1) 0 (Z3a Y0))
@[simp] theorem Zg1 (Y0 : Gb) : (Z4j Y0).length = ((Z3a Y0) : (List Gv)).length := Zcd Y0 (((Y0.Me.Pq.length : Int) - 0).toNat + 1) 0 (Z3a Y0) (by exact Nat.lt_succ_self _)
def Z33 (Y0 : Gb) : (List Gv) := (Z4j Y0)
@[simp] theorem ZgQ (Y0 : Gb) : (Z33 Y0).length = Y0.Me.Pq.length := by
  first | (simp [Z33]; done)
theorem ZeO (Y0 : Gb) (hp0 : Y0.Me.Pq.length ≤ 1073741824) (hp1 : Y0.Me.Tr.length ≤ 1073741824) (hp2 : ∀ t ∈ Y0.Me.Tr, t.length ≤ 1073741824) (hp3 : Y0.Sp.length ≤ 1073741824) (hp4 : Y0.We.length ≤ 1073741824) (hp5 : OkBd Y0)  : Fn prog 51 [.ref (Gb.c Y0) 0] (.own 0) [.vec 40 3 ((Z33 Y0).map Gv.c) false] := by
 have y0 : (0 : Int) ≤ (Y0.Me.Pq.length : Int) := (by omega)
 have y1 : ((Y0.Me.Pq.length : Int) : Int) ≤ 2147483648 := (by omega)
 have y2 : OkE Y0.Me.Pq.length Y0.Me.Tr := (by exact hp5.e)
 refine fnS E0Ok Z5 (c := bodyOf f51) [] (.own 0) [.vec 40 3 ((Z4j Y0).map Gv.c) false] func51 (sZ Gv.c Y0.Me.Pq <| sC (show (Y0.Me.Pq.length : Int) = (Y0.Me.Pq.length : Int) from rfl) <| sC y0 <| sC y1 <| sZ Gs.c Y0.Sp <| sL (mR false [0, 1, 1, 3, 15, 15, 245]) 1 (lp_cast (st2 := ⟨.ref (Gb.c Y0) 0 :: .any :: .nils :: .ref (Gb.c Y0) 0 :: .own 0 :: an 15 (.ref (Gb.c Y0) 0 :: .ref (Gb.c Y0) 0 :: .ref (Gb.c Y0) 0 :: .ref (Gb.c Y0) 0 :: .ref (Gb.c Y0) 0 :: .ref (Gb.c Y0) 0 :: .sl (Y0.Me.Pq.map Gv.c) :: .i .i64 (Y0.Me.Pq.length : Int) :: .own 0 :: .ref (Gb.c Y0) 0 :: .ref (Gb.c Y0) 0 :: .ref (Gb.c Y0) 2 :: .sl (Y0.Sp.map Gs.c) :: .i .i64 (Y0.Sp.length : Int) :: .i .i64 0 :: an 245 []), [.vec 40 3 (List.replicate (Int.toNat (Y0.Me.Pq.length : Int)) [.f .f32 0, .f .f32 0, .f .f32 0]) false]⟩) (lp_val (Z6D Y0) (x := (Z38 Y0)) (Zd4 Y0 hp0 hp1 hp2 hp3 hp4 hp5 (((Y0.Sp.length : Int) - 0).toNat + 1) 0 (List.replicate (Y0.Me.Pq.length : Int).toNat (⟨0, 0, 0⟩ : Gv)) (show 0 ≤ 0 from (by omega)) (show (List.replicate (Y0.Me.Pq.length : Int).toNat (⟨0, 0, 0⟩ : Gv)).length = Y0.Me.Pq.length from (by simp; done)) (Nat.lt_succ_self _)) rfl) (by simp [Z6E, Gv.c])) <| sZ (cL (cI .i64)) Y0.Me.Tr <| sL Z8j 1 (lp_val (Z6H Y0) (x := (Z39 Y0)) (Zd7 Y0 hp0 hp1 hp2 hp3 hp4 hp5 (((Y0.Me.Tr.length : Int) - 0).toNat + 1) 0 (Z38 Y0) (show 0 ≤ 0 from (by omega)) (show (Z38 Y0).length = Y0.Me.Pq.length from (by simp; done)) (Nat.lt_succ_self _)) rfl) <| sF (Fn.sub (args := [.ref (Gb.c Y0) 0]) (r := .own 0) (new := [.nest 49 ((Z0 Y0.Me).map fun l => l.map (cI .i64)) false]) [some 2] (Zb5 Y0.Me hp0 hp1 hp2 y2)) <| sM (nlen_ok (l := (Z0 Y0.Me)) (f := fun l => l.map (cI .i64))) <| sL Z8k 2 (lp_val (Z6I Y0) (x := (Z3a Y0)) (Zd8 Y0 hp0 hp1 hp2 hp3 hp4 hp5 ((((Z0 Y0.Me).length : Int) - 0).toNat + 1) 0 (Z39 Y0) (show 0 ≤ 0 from (by omega)) (show (Z39 Y0).length = Y0.Me.Pq.length from (by simp; done)) (Nat.lt_succ_self _)) rfl) <| sZ Gv.c Y0.Me.Pq <| sL Z8n 2 (lp_val (Z6J Y0) (x := (Z4j Y0)) (Zd9 Y0 hp0 hp1 hp2 hp3 hp4 hp5 (((Y0.Me.Pq.length : Int) - 0).toNat + 1) 0 (Z3a Y0) (show 0 ≤ 0 from (by omega)) (show (Z3a Y0).length = Y0.Me.Pq.length from (by simp; done)) (Nat.lt_succ_self _)) rfl) <| sK [0] sN) rfl (by kernel_rfl) (by kernel_rfl) rfl ?_ ?_
 · rfl
 · simp [Z33]
def Z1D (Y2 : Gb) (Y4 : (List Int)) : Nat → Int → (List Gv) → (List Gv)
  | 0, _, _ => default
  | k + 1, Y1, Y3 => (cond (decide (Y1 < (Y4.length : Int)))
    (Z1D Y2 Y4 k (Y1 + 1) (Y3.set ((Y4.getD Y1.toNat default).toNat) (⟨0, 0, 0⟩ : Gv)))
    Y3)
def Z7y (Y2 : Gb) (Y4 : (List Int)) (r : (List Gv)) : Ex × St := ((.exit 0), ⟨.ref (Gb.c Y2) 0 :: .sl (Y4.map (cI .i64)) :: .any :: .any :: .nils :: .own 0 :: .any :: .ref (Gb.c Y2) 0 :: .own 0 :: .sl (Y4.map (cI .i64)) :: an 13 [], [.vec 40 3 (r.map Gv.c) false]⟩)
def ZaH (Y2 : Gb) (Y4 : (List Int)) (Y1 : Int) (Y3 : (List Gv)) : St := ⟨.ref (Gb.c Y2) 0 :: .sl (Y4.map (cI .i64)) :: .any :: .any :: .nils :: .own 0 :: .any :: .ref (Gb.c Y2) 0 :: .own 0 :: .sl (Y4.map (cI .i64)) :: .i .i64 (Y4.length : Int) :: .i .i64 Y1 :: an 11 [], [.vec 40 3 (Y3.map Gv.c) false]⟩
theorem Zeg (Y2 : Gb) (Y4 : (List Int)) (hp0 : Y2.Me.Pq.length ≤ 1073741824) (hp1 : Y2.Me.Tr.length ≤ 1073741824) (hp2 : ∀ t ∈ Y2.Me.Tr, t.length ≤ 1073741824) (hp3 : Y2.Sp.length ≤ 1073741824) (hp4 : Y2.We.length ≤ 1073741824) (hp5 : Y4.length ≤ 1073741824) (hp6 : OkBd Y2) (hp7 : OkIx Y2.Me.Pq.length (fun x => x) Y4) : ∀ (k : Nat) (Y1 : Int) (Y3 : (List Gv)) (Z9t : 0 ≤ Y1) (Z9u : Y3.length = Y2.Me.Pq.length) (hk : ((Y4.length : Int) - Y1).toNat < k), Lp prog 0 (sub (bodyOf f65) [1, 1, 0, 1, 0, 0]) (ZaH Y2 Y4 Y1 Y3) (Z7y Y2 Y4 (Z1D Y2 Y4 k Y1 Y3)).1 (Z7y Y2 Y4 (Z1D Y2 Y4 k Y1 Y3)).2 := by
 intro k
 induction k with
 | zero => intro Y1 Y3 Z9t Z9u hk; exact absurd hk (Nat.not_lt_zero _)
 | succ k ih =>
  intro Y1 Y3 Z9t Z9u hk
  cases Yj : (decide (Y1 < (Y4.length : Int))) with
  | true =>
   have YM := odt Yj
   have YS : (0 : Int) ≤ Y1 := (by assumption)
   have YT : Y1 < (Y4.length : Int) := (by assumption)
   have YY : (0 : Int) ≤ (Y4.getD Y1.toNat default) := (by have q := OkIx.at hp7 (by assumption) YM; omega)
   have YZ : (Y4.getD Y1.toNat default) < (Y3.length : Int) := (by have q := OkIx.at hp7 (by assumption) YM; omega)
   have y_4 : (Y4.getD Y1.toNat default).toNat < Y3.length := (by omega)
   have y_5 : (-9223372036854775808 : Int) ≤ (Y1 + 1) := (by omega)
   have y_6 : (Y1 + 1) ≤ (9223372036854775807 : Int) := (by omega)
   have e : Z1D Y2 Y4 (k + 1) Y1 Y3 = (Z1D Y2 Y4 k (Y1 + 1) (Y3.set ((Y4.getD Y1.toNat default).toNat) (⟨0, 0, 0⟩ : Gv))) := by simp only [Z1D, Yj, cond_true]
   rw [e]
   exact nextS E0Ok Z5 [] (mR false [0, 2, 2, 2, 1, 5, 11]) [0] (⟨.ref (Gb.c Y2) 0 :: .sl (Y4.map (cI .i64)) :: .any :: .any :: .nils :: .own 0 :: .any :: .ref (Gb.c Y2) 0 :: .own 0 :: .sl (Y4.map (cI .i64)) :: .i .i64 (Y4.length : Int) :: .i .i64 (Y1 + 1) :: an 11 [], [.vec 40 3 ((Y3.map Gv.c).set ((Y4.getD Y1.toNat default).toNat) [.f .f32 0, .f .f32 0, .f .f32 0]) false]⟩) (sB Yj <| sG (cI .i64) Y4 Y1 YS YT <| sX Gv.c Y3 (Y4.getD Y1.toNat default) YY YZ <| sC (maplt (c := Gv.c) (l := Y3) y_4) <| sI (Y1 + 1) y_5 y_6 <| sN) (by kernel_rfl) (by simp [ZaH, List.map_set, Gv.c]) (ih (Y1 + 1) (Y3.set ((Y4.getD Y1.toNat default).toNat) (⟨0, 0, 0⟩ : Gv)) (show 0 ≤ (Y1 + 1) from (by omega)) (show (Y3.set ((Y4.getD Y1.toNat default).toNat) (⟨0, 0, 0⟩ : Gv)).length = Y2.Me.Pq.length from (by have q := OkIx.at hp7 (by assumption) YM; (simp only [List.length_set]; omega))) (by omega))
  | false =>
   have YM := odf Yj
   have e : Z1D Y2 Y4 (k + 1) Y1 Y3 = Y3 := by simp only [Z1D, Yj, cond_false]
   rw [e]
   exact outR (e := (.exit 0)) E0Ok Z5 [] (mR false [0, 2, 2, 2, 1, 3, 13]) [0] (sB Yj <| sN) (by kernel_rfl) (by intro h; cases h)
theorem Zda (Y2 : Gb) (Y4 : (List Int)) : ∀ (k : Nat) (Y1 : Int) (Y3 : (List Gv)) (hk : ((Y4.length : Int) - Y1).toNat < k), (Z1D Y2 Y4 k Y1 Y3).length = Y3.length := by
  intro k
  induction k with
  | zero => intro Y1 Y3 hk; exact absurd hk (Nat.not_lt_zero _)
  | succ k ih =>
    intro Y1 Y3 hk
    cases Yj : (decide (Y1 < (Y4.length : Int))) with
    | true =>
      have e : Z1D Y2 Y4 (k + 1) Y1 Y3 = (Z1D Y2 Y4 k (Y1 + 1) (Y3.set ((Y4.getD Y1.toNat default).toNat) (⟨0, 0, 0⟩ : Gv))) := by simp only [Z1D, Yj, cond_true]
      rw [e, ih (Y1 + 1) (Y3.set ((Y4.getD Y1.toNat default).toNat) (⟨0, 0, 0⟩ : Gv)) (by simp_all <;> omega)]; simp
    | false =>
      have e : Z1D Y2 Y4 (k + 1) Y1 Y3 = Y3 := by simp only [Z1D, Yj, cond_false]
      first | (rw [e]; done) | (rw [e]; rfl)
def Z4B (Y2 : Gb) (Y4 : (List Int)) : (List Gv) := (Z1D Y2 Y4 (((Y4.length : Int) - 0).toNat + 1) 0 (Z33 Y2))
@[simp] theorem Zgx (Y2 : Gb) (Y4 : (List Int)) : (Z4B Y2 Y4).length = ((Z33 Y2) : (List Gv)).length := Zda Y2 Y4 (((Y4.length : Int) - 0).toNat + 1) 0 (Z33 Y2) (by exact Nat.lt_succ_self _)
def Ze (Y2 : Gb) (Y4 : (List Int)) : (List Gv) := (Z4B Y2 Y4)
@[simp] theorem Z41 (Y2 : Gb) (Y4 : (List Int)) : (Ze Y2 Y4).length = Y2.Me.Pq.length := by
  first | (simp [Ze]; done)
theorem ZfE (Y2 : Gb) (Y4 : (List Int)) (hp0 : Y2.Me.Pq.length ≤ 1073741824) (hp1 : Y2.Me.Tr.length ≤ 1073741824) (hp2 : ∀ t ∈ Y2.Me.Tr, t.length ≤ 1073741824) (hp3 : Y2.Sp.length ≤ 1073741824) (hp4 : Y2.We.length ≤ 1073741824) (hp5 : Y4.length ≤ 1073741824) (hp6 : OkBd Y2) (hp7 : OkIx Y2.Me.Pq.length (fun x => x) Y4)  : Fn prog 65 [.ref (Gb.c Y2) 0, .sl (Y4.map (cI .i64))] (.own 0) [.vec 40 3 ((Ze Y2 Y4).map Gv.c) false] := by
 refine fnS E0Ok Z5 (c := bodyOf f65) [] (.own 0) [.vec 40 3 ((Z4B Y2 Y4).map Gv.c) false] func65 (sF (ZeO Y2 hp0 hp1 hp2 hp3 hp4 hp6) <| sZ (cI .i64) Y4 <| sL (mR false [0, 2, 2, 2, 1, 5, 11]) 1 (lp_val (Z7y Y2 Y4) (x := (Z4B Y2 Y4)) (Zeg Y2 Y4 hp0 hp1 hp2 hp3 hp4 hp5 hp6 hp7 (((Y4.length : Int) - 0).toNat + 1) 0 (Z33 Y2) (show 0 ≤ 0 from (by omega)) (show (Z33 Y2).length = Y2.Me.Pq.length from (by simp; done)) (Nat.lt_succ_self _)) rfl) <| sK [0] sN) rfl (by kernel_rfl) (by kernel_rfl) rfl ?_ ?_
 · rfl
 · simp [Ze]
def Z1k (Y2 : Gb) (YB : (List Gv)) (Yz : Nat) : Nat → Int → (List Gv) → (List Gv)
  | 0, _, _ => default
  | k + 1, Y1, Y8 => (cond (decide (Y1 < (YB.length : Int)))
    (Z1k Y2 YB Yz k (Y1 + 1) (Y8.set Y1.toNat (ZI (Y2.Me.Pq.getD Y1.toNat default) (Zq (YB.getD Y1.toNat default) Yz))))
    Y8)
def Z7b (Y2 : Gb) (YB : (List Gv)) (Yz : Nat) (r : (List Gv)) : Ex × St := ((.exit 0), ⟨.ref (Gb.c Y2) 0 :: .sl (YB.map Gv.c) :: an 4 (.ptr 0 0 0 :: .ptr 1 0 0 :: .any :: .ref (Gb.c Y2) 0 :: .agg [.own 2, .own 3, .own 4, .f .f32 Y2.Film, .f .f32 Y2.Bend, .own 5, .f .f32 Y2.Fall.X, .f .f32 Y2.Fall.Y, .f .f32 Y2.Fall.Z] :: .sl (YB.map Gv.c) :: an 26 []), [.box 42 [.nils, .nils, .nils, .f .f32 0, .f .f32 0, .nils, .f .f32 0, .f .f32 0, .f .f32 0], .box 42 [.own 2, .own 3, .own 4, .f .f32 Y2.Film, .f .f32 Y2.Bend, .own 5, .f .f32 Y2.Fall.X, .f .f32 Y2.Fall.Y, .f .f32 Y2.Fall.Z], .vec 40 3 (r.map Gv.c) false, .nest 49 (Y2.Me.Tr.map fun l => l.map (cI .i64)) false, .vec 133 4 (Y2.Sp.map Gs.c) false, .vec 27 1 (Y2.We.map (cF .f32)) false]⟩)
def Zac (Y2 : Gb) (YB : (List Gv)) (Yz : Nat) (Y1 : Int) (Y8 : (List Gv)) : St := ⟨.ref (Gb.c Y2) 0 :: .sl (YB.map Gv.c) :: .f .f32 Yz :: .any :: .any :: .any :: .ptr 0 0 0 :: .ptr 5 0 0 :: .any :: .ref (Gb.c Y2) 0 :: .agg [.own 1, .own 2, .own 3, .f .f32 Y2.Film, .f .f32 Y2.Bend, .own 4, .f .f32 Y2.Fall.X, .f .f32 Y2.Fall.Y, .f .f32 Y2.Fall.Z] :: .sl (YB.map Gv.c) :: .i .i64 (YB.length : Int) :: .i .i64 Y1 :: an 24 [], [.box 42 [.nils, .nils, .nils, .f .f32 0, .f .f32 0, .nils, .f .f32 0, .f .f32 0, .f .f32 0], .vec 40 3 (Y8.map Gv.c) false, .nest 49 (Y2.Me.Tr.map fun l => l.map (cI .i64)) false, .vec 133 4 (Y2.Sp.map Gs.c) false, .vec 27 1 (Y2.We.map (cF .f32)) false, .box 42 [.own 1, .own 2, .own 3, .f .f32 Y2.Film, .f .f32 Y2.Bend, .own 4, .f .f32 Y2.Fall.X, .f .f32 Y2.Fall.Y, .f .f32 Y2.Fall.Z]]⟩
theorem ZdE (Y2 : Gb) (YB : (List Gv)) (Yz : Nat) (hp0 : Y2.Me.Pq.length ≤ 1073741824) (hp1 : Y2.Me.Tr.length ≤ 1073741824) (hp2 : ∀ t ∈ Y2.Me.Tr, t.length ≤ 1073741824) (hp3 : Y2.Sp.length ≤ 1073741824) (hp4 : Y2.We.length ≤ 1073741824) (hp5 : YB.length ≤ 1073741824) (hp6 : YB.length ≤ Y2.Me.Pq.length) : ∀ (k : Nat) (Y1 : Int) (Y8 : (List Gv)) (Z8Y : 0 ≤ Y1) (Z8Z : Y8.length = Y2.Me.Pq.length) (hk : ((YB.length : Int) - Y1).toNat < k), Lp prog 0 (sub (bodyOf f122) [1, 1, 0, 1, 0, 0]) (Zac Y2 YB Yz Y1 Y8) (Z7b Y2 YB Yz (Z1k Y2 YB Yz k Y1 Y8)).1 (Z7b Y2 YB Yz (Z1k Y2 YB Yz k Y1 Y8)).2 := by
 intro k
 induction k with
 | zero => intro Y1 Y8 Z8Y Z8Z hk; exact absurd hk (Nat.not_lt_zero _)
 | succ k ih =>
  intro Y1 Y8 Z8Y Z8Z hk
  cases Yj : (decide (Y1 < (YB.length : Int))) with
  | true =>
   have YM := odt Yj
   have YS : (0 : Int) ≤ Y1 := (by assumption)
   have YT : Y1 < (Y2.Me.Pq.length : Int) := (by omega)
   have YY : Y1 < (YB.length : Int) := (by assumption)
   have YZ : Y1 < (Y8.length : Int) := (by omega)
   have y_4 : Y1.toNat < Y8.length := (by omega)
   have y_5 : (-9223372036854775808 : Int) ≤ (Y1 + 1) := (by omega)
   have y_6 : (Y1 + 1) ≤ (9223372036854775807 : Int) := (by omega)
   have e : Z1k Y2 YB Yz (k + 1) Y1 Y8 = (Z1k Y2 YB Yz k (Y1 + 1) (Y8.set Y1.toNat (ZI (Y2.Me.Pq.getD Y1.toNat default) (Zq (YB.getD Y1.toNat default) Yz)))) := by simp only [Z1k, Yj, cond_true]
   rw [e]
   exact nextS E0Ok Z5 [] (mR false [0, 3, 3, 2, 1, 5, 24]) [0, 1, 2, 3, 4, 5] (⟨.ref (Gb.c Y2) 0 :: .sl (YB.map Gv.c) :: .f .f32 Yz :: .any :: .any :: .any :: .ptr 0 0 0 :: .ptr 5 0 0 :: .any :: .ref (Gb.c Y2) 0 :: .agg [.own 1, .own 2, .own 3, .f .f32 Y2.Film, .f .f32 Y2.Bend, .own 4, .f .f32 Y2.Fall.X, .f .f32 Y2.Fall.Y, .f .f32 Y2.Fall.Z] :: .sl (YB.map Gv.c) :: .i .i64 (YB.length : Int) :: .i .i64 (Y1 + 1) :: an 24 [], [.box 42 [.nils, .nils, .nils, .f .f32 0, .f .f32 0, .nils, .f .f32 0, .f .f32 0, .f .f32 0], .vec 40 3 ((Y8.map Gv.c).set Y1.toNat [.f .f32 ((ZI (Y2.Me.Pq.getD Y1.toNat default) (Zq (YB.getD Y1.toNat default) Yz)).X), .f .f32 ((ZI (Y2.Me.Pq.getD Y1.toNat default) (Zq (YB.getD Y1.toNat default) Yz)).Y), .f .f32 ((ZI (Y2.Me.Pq.getD Y1.toNat default) (Zq (YB.getD Y1.toNat default) Yz)).Z)]) false, .nest 49 (Y2.Me.Tr.map fun l => l.map (cI .i64)) false, .vec 133 4 (Y2.Sp.map Gs.c) false, .vec 27 1 (Y2.We.map (cF .f32)) false, .box 42 [.own 1, .own 2, .own 3, .f .f32 Y2.Film, .f .f32 Y2.Bend, .own 4, .f .f32 Y2.Fall.X, .f .f32 Y2.Fall.Y, .f .f32 Y2.Fall.Z]]⟩) (sB Yj <| sK [19, 19] <| sG Gv.c Y2.Me.Pq Y1 YS YT <| sG Gv.c YB Y1 YS YY <| sF (Z3M (YB.getD Y1.toNat default) Yz) <| sF (Z3J (Y2.Me.Pq.getD Y1.toNat default) (Zq (YB.getD Y1.toNat default) Yz)) <| sX Gv.c Y8 Y1 YS YZ <| sC (maplt (c := Gv.c) (l := Y8) y_4) <| sI (Y1 + 1) y_5 y_6 <| sN) (by kernel_rfl) (by simp [Zac, List.map_set, Gv.c]) (ih (Y1 + 1) (Y8.set Y1.toNat (ZI (Y2.Me.Pq.getD Y1.toNat default) (Zq (YB.getD Y1.toNat default) Yz))) (show 0 ≤ (Y1 + 1) from (by omega)) (show (Y8.set Y1.toNat (ZI (Y2.Me.Pq.getD Y1.toNat default) (Zq (YB.getD Y1.toNat default) Yz))).length = Y2.Me.Pq.length from (by simp_all <;> omega)) (by omega))
  | false =>
   have YM := odf Yj
   have e : Z1k Y2 YB Yz (k + 1) Y1 Y8 = Y8 := by simp only [Z1k, Yj, cond_false]
   rw [e]
   exact outR (e := (.exit 0)) E0Ok Z5 [] (mR false [0, 2, 4, 2, 1, 3, 26]) [0, 5, 1, 2, 3, 4] (sB Yj <| sN) (by kernel_rfl) (by intro h; cases h)
theorem ZcC (Y2 : Gb) (YB : (List Gv)) (Yz : Nat) : ∀ (k : Nat) (Y1 : Int) (Y8 : (List Gv)) (hk : ((YB.length : Int) - Y1).toNat < k), (Z1k Y2 YB Yz k Y1 Y8).length = Y8.length := by
  intro k
  induction k with
  | zero => intro Y1 Y8 hk; exact absurd hk (Nat.not_lt_zero _)
  | succ k ih =>
    intro Y1 Y8 hk
    cases Yj : (decide (Y1 < (YB.length : Int))) with
    | true =>
      have e : Z1k Y2 YB Yz (k + 1) Y1 Y8 = (Z1k Y2 YB Yz k (Y1 + 1) (Y8.set Y1.toNat (ZI (Y2.Me.Pq.getD Y1.toNat default) (Zq (YB.getD Y1.toNat default) Yz)))) := by simp only [Z1k, Yj, cond_true]
      rw [e, ih (Y1 + 1) (Y8.set Y1.toNat (ZI (Y2.Me.Pq.getD Y1.toNat default) (Zq (YB.getD Y1.toNat default) Yz))) (by simp_all <;> omega)]; simp
    | false =>
      have e : Z1k Y2 YB Yz (k + 1) Y1 Y8 = Y8 := by simp only [Z1k, Yj, cond_false]
      first | (rw [e]; done) | (rw [e]; rfl)
def Z42 (Y2 : Gb) (YB : (List Gv)) (Yz : Nat) : (List Gv) := (Z1k Y2 YB Yz (((YB.length : Int) - 0).toNat + 1) 0 Y2.Me.Pq)
@[simp] theorem Zgh (Y2 : Gb) (YB : (List Gv)) (Yz : Nat) : (Z42 Y2 YB Yz).length = (Y2.Me.Pq : (List Gv)).length := ZcC Y2 YB Yz (((YB.length : Int) - 0).toNat + 1) 0 Y2.Me.Pq (by exact Nat.lt_succ_self _)
def Zg (Y2 : Gb) (YB : (List Gv)) (Yz : Nat) : Gb := (⟨(⟨(Z42 Y2 YB Yz), Y2.Me.Tr⟩ : Gm), Y2.Sp, Y2.Film, Y2.Bend, Y2.We, Y2.Fall⟩ : Gb)
theorem Z7z (b : Gb) (v : List Gv) (s : Nat) : (Zg b v s).Me.Pq.length ≤ b.Me.Pq.length := by
  unfold Zg
  simp
theorem Z7A (b : Gb) (v : List Gv) (s : Nat) : (Zg b v s).Me.Tr.length ≤ b.Me.Tr.length := by
  unfold Zg
  simp
theorem Z7B (b : Gb) (v : List Gv) (s : Nat) : (Zg b v s).We.length ≤ b.We.length := by
  unfold Zg
  simp
theorem Z7C (b : Gb) (v : List Gv) (s : Nat) : (Zg b v s).Sp.length ≤ b.Sp.length := by
  unfold Zg
  simp
theorem Zfh (Y2 : Gb) (YB : (List Gv)) (Yz : Nat) (hp0 : Y2.Me.Pq.length ≤ 1073741824) (hp1 : Y2.Me.Tr.length ≤ 1073741824) (hp2 : ∀ t ∈ Y2.Me.Tr, t.length ≤ 1073741824) (hp3 : Y2.Sp.length ≤ 1073741824) (hp4 : Y2.We.length ≤ 1073741824) (hp5 : YB.length ≤ 1073741824) (hp6 : YB.length ≤ Y2.Me.Pq.length)  : Fn prog 122 [.ref (Gb.c Y2) 0, .sl (YB.map Gv.c), .f .f32 Yz] (.agg [.own 0, .own 1, .own 2, .f .f32 ((Zg Y2 YB Yz).Film), .f .f32 ((Zg Y2 YB Yz).Bend), .own 3, .f .f32 ((Zg Y2 YB Yz).Fall.X), .f .f32 ((Zg Y2 YB Yz).Fall.Y), .f .f32 ((Zg Y2 YB Yz).Fall.Z)]) [.vec 40 3 (((Zg Y2 YB Yz).Me.Pq).map Gv.c) false, .nest 49 (((Zg Y2 YB Yz).Me.Tr).map fun l => l.map (cI .i64)) false, .vec 133 4 (((Zg Y2 YB Yz).Sp).map Gs.c) false, .vec 27 1 (((Zg Y2 YB Yz).We).map (cF .f32)) false] := by
 refine fnS E0Ok Z5 (c := bodyOf f122) [] (.agg [.own 0, .own 1, .own 2, .f .f32 Y2.Film, .f .f32 Y2.Bend, .own 3, .f .f32 Y2.Fall.X, .f .f32 Y2.Fall.Y, .f .f32 Y2.Fall.Z]) [.vec 40 3 ((Z42 Y2 YB Yz).map Gv.c) false, .nest 49 (Y2.Me.Tr.map fun l => l.map (cI .i64)) false, .vec 133 4 (Y2.Sp.map Gs.c) false, .vec 27 1 (Y2.We.map (cF .f32)) false] func122 (sF (Zaw Y2 hp0 hp1 hp2 hp3 hp4) <| sZ Gv.c YB <| sL (mR false [0, 3, 3, 2, 1, 5, 24]) 6 (lp_val (Z7b Y2 YB Yz) (x := (Z42 Y2 YB Yz)) (ZdE Y2 YB Yz hp0 hp1 hp2 hp3 hp4 hp5 hp6 (((YB.length : Int) - 0).toNat + 1) 0 Y2.Me.Pq (show 0 ≤ 0 from (by omega)) (show Y2.Me.Pq.length = Y2.Me.Pq.length from (by simp)) (Nat.lt_succ_self _)) rfl) <| sK [2, 3, 4, 5] sN) rfl (by kernel_rfl) (by kernel_rfl) rfl ?_ ?_
 · rfl
 · simp [Zg]
theorem Z7c (b : Gb) (v : List Gv) (s : Nat) : (Z42 b v s).length = b.Me.Pq.length := by simp
theorem ZcD {b : Gb} (h : OkBd b) (v : List Gv) (s : Nat) : OkBd (Zg b v s) := by
  unfold Zg
  exact ⟨by simp only [Z7c]; exact h.e, by simp only [Z7c]; exact h.w, by simp only [Z7c]; exact h.a, by simp only [Z7c]; exact h.b⟩
def Z1M (Y2 : Gb) (YB : (List Gv)) (Y9 : Nat) : Nat → Nat → Int → (Int × Nat × Nat × Nat × Nat × Nat × (List Gv) × (List (List Int)) × (List Gs) × (List Nat)) ⊕ (Unit)
  | 0, _, _ => .inl default
  | k + 1, Yk, Y1a => (cond (decide (Y1a ≤ 20))
    (cond (fcmp .lss .f32 (ZD (Zg Y2 YB Yk)) (ZD Y2))
      (.inl (Y1a, (Zg Y2 YB Yk).Film, (Zg Y2 YB Yk).Bend, (Zg Y2 YB Yk).Fall.X, (Zg Y2 YB Yk).Fall.Y, (Zg Y2 YB Yk).Fall.Z, (Zg Y2 YB Yk).Me.Pq, (Zg Y2 YB Yk).Me.Tr, (Zg Y2 YB Yk).Sp, (Zg Y2 YB Yk).We))
      (Z1M Y2 YB Y9 k (fop .quo .f32 Yk 1073741824) (Y1a + 1)))
    (.inr ()))
def Z68 (Y2 : Gb) (YB : (List Gv)) (Y9 : Nat) : (Int × Nat × Nat × Nat × Nat × Nat × (List Gv) × (List (List Int)) × (List Gs) × (List Nat)) ⊕ (Unit) → Ex × St
  | .inl r => (.ret, ⟨an 6 (.ptr 0 0 0 :: .i .i64 r.1 :: .b true :: an 22 []), [.box 42 [.own 1, .own 2, .own 3, .f .f32 r.2.1, .f .f32 r.2.2.1, .own 4, .f .f32 r.2.2.2.1, .f .f32 r.2.2.2.2.1, .f .f32 r.2.2.2.2.2.1], .vec 40 3 (r.2.2.2.2.2.2.1.map Gv.c) false, .nest 49 (r.2.2.2.2.2.2.2.1.map fun l => l.map (cI .i64)) false, .vec 133 4 (r.2.2.2.2.2.2.2.2.1.map Gs.c) false, .vec 27 1 (r.2.2.2.2.2.2.2.2.2.map (cF .f32)) false]⟩)
  | .inr r => ((.exit 0), ⟨.ref (Gb.c Y2) 0 :: an 5 (.ptr 0 0 0 :: an 5 (.ref (Gb.c Y2) 0 :: .f .f32 (ZD Y2) :: an 17 [])), [.box 42 [.nils, .nils, .nils, .f .f32 0, .f .f32 0, .nils, .f .f32 0, .f .f32 0, .f .f32 0]]⟩)
def ZeP (Y2 : Gb) (YB : (List Gv)) (Y9 : Nat) (Yk : Nat) (Y1a : Int) : St := ⟨.ref (Gb.c Y2) 0 :: .sl (YB.map Gv.c) :: .f .f32 Yk :: .any :: .any :: .any :: .ptr 0 0 0 :: .any :: .any :: .f .f32 (ZD Y2) :: .i .i64 Y1a :: .any :: .ref (Gb.c Y2) 0 :: .f .f32 (ZD Y2) :: an 17 [], [.box 42 [.nils, .nils, .nils, .f .f32 0, .f .f32 0, .nils, .f .f32 0, .f .f32 0, .f .f32 0]]⟩
theorem Zb8 (Y2 : Gb) (YB : (List Gv)) (Y9 : Nat) (hp0 : Y2.Me.Pq.length ≤ 1073741824) (hp1 : Y2.Me.Tr.length ≤ 1073741824) (hp2 : ∀ t ∈ Y2.Me.Tr, t.length ≤ 1073741824) (hp3 : Y2.Sp.length ≤ 1073741824) (hp4 : Y2.We.length ≤ 1073741824) (hp5 : YB.length ≤ 1073741824) (hp6 : OkBd Y2) (hp7 : YB.length ≤ Y2.Me.Pq.length) : ∀ (k : Nat) (Yk : Nat) (Y1a : Int) (Zad : 0 ≤ Y1a) (hk : (21 + (YB.length : Int) - Y1a).toNat < k), Lp prog 0 (sub (bodyOf f70) [1, 1, 0, 1, 0, 0]) (ZeP Y2 YB Y9 Yk Y1a) (Z68 Y2 YB Y9 (Z1M Y2 YB Y9 k Yk Y1a)).1 (Z68 Y2 YB Y9 (Z1M Y2 YB Y9 k Yk Y1a)).2 := by
 intro k
 induction k with
 | zero => intro Yk Y1a Zad hk; exact absurd hk (Nat.not_lt_zero _)
 | succ k ih =>
  intro Yk Y1a Zad hk
  cases Yj : (decide (Y1a ≤ 20)) with
  | true =>
   have YM := odt Yj
   have l_1 := (Z7z Y2 YB Yk)
   have l_2 := (Z7A Y2 YB Yk)
   have l_3 := (Z7B Y2 YB Yk)
   have l_4 := (Z7C Y2 YB Yk)
   have YS : (Zg Y2 YB Yk).Me.Pq.length ≤ 1073741824 := (by omega)
   have YT : (Zg Y2 YB Yk).Me.Tr.length ≤ 1073741824 := (by assumption)
   have YY : ∀ t ∈ (Zg Y2 YB Yk).Me.Tr, t.length ≤ 1073741824 := (by assumption)
   have YZ : (Zg Y2 YB Yk).Sp.length ≤ 1073741824 := (by assumption)
   have y_4 : (Zg Y2 YB Yk).We.length ≤ 1073741824 := (by assumption)
   have y_5 : OkBd (Zg Y2 YB Yk) := (by exact ZcD hp6 _ _)
   have p {a C} (s : Scr a C) := sB Yj <| sF (Zfh Y2 YB Yk hp0 hp1 hp2 hp3 hp4 hp5 hp7) <| sF (Fn.castA (args' := [.ref [.sl (((Zg Y2 YB Yk).Me.Pq).map Gv.c), .sl ((((Zg Y2 YB Yk).Me.Tr).map fun l => l.map (cI .i64)).map fun l => [.sl l]), .sl (((Zg Y2 YB Yk).Sp).map Gs.c), .f .f32 ((Zg Y2 YB Yk).Film), .f .f32 ((Zg Y2 YB Yk).Bend), .sl (((Zg Y2 YB Yk).We).map (cF .f32)), .f .f32 ((Zg Y2 YB Yk).Fall.X), .f .f32 ((Zg Y2 YB Yk).Fall.Y), .f .f32 ((Zg Y2 YB Yk).Fall.Z)] 0]) (Z67 (Zg Y2 YB Yk) YS YT YY YZ y_4 y_5) (by simp [cL, Function.comp_def]; rfl)) <| s
   cases YJ : (fcmp .lss .f32 (ZD (Zg Y2 YB Yk)) (ZD Y2)) with
   | true =>
    have e : Z1M Y2 YB Y9 (k + 1) Yk Y1a = (.inl (Y1a, (Zg Y2 YB Yk).Film, (Zg Y2 YB Yk).Bend, (Zg Y2 YB Yk).Fall.X, (Zg Y2 YB Yk).Fall.Y, (Zg Y2 YB Yk).Fall.Z, (Zg Y2 YB Yk).Me.Pq, (Zg Y2 YB Yk).Me.Tr, (Zg Y2 YB Yk).Sp, (Zg Y2 YB Yk).We)) := by simp only [Z1M, Yj, YJ, cond_true]
    rw [e]
    exact outR (e := .ret) E0Ok Z5 [] (mR false [6, 3, 22]) [0, 1, 2, 3, 4] (p (sB YJ <| sN)) (by kernel_rfl) (by intro h; cases h)
   | false =>
    have y_6 : (-9223372036854775808 : Int) ≤ (Y1a + 1) := by clear p; exact (by omega)
    have y_7 : (Y1a + 1) ≤ (9223372036854775807 : Int) := by clear p; exact (by omega)
    have e : Z1M Y2 YB Y9 (k + 1) Yk Y1a = (Z1M Y2 YB Y9 k (fop .quo .f32 Yk 1073741824) (Y1a + 1)) := by simp only [Z1M, Yj, YJ, cond_true, cond_false]
    rw [e]
    exact nextR E0Ok Z5 [] (mR false [0, 3, 3, 1, 2, 2, 1, 2, 17]) [0] (ih (fop .quo .f32 Yk 1073741824) (Y1a + 1) (show 0 ≤ (Y1a + 1) from (by omega)) (by omega)) (p (sB YJ <| sI (Y1a + 1) y_6 y_7 <| sN)) (by kernel_rfl)
  | false =>
   have YM := odf Yj
   have e : Z1M Y2 YB Y9 (k + 1) Yk Y1a = (.inr ()) := by simp only [Z1M, Yj, cond_false]
   rw [e]
   exact outR (e := (.exit 0)) E0Ok Z5 [] (mR false [0, 1, 5, 1, 5, 2, 17]) [0] (sB Yj <| sN) (by kernel_rfl) (by intro h; cases h)
def Z4k (Y2 : Gb) (YB : (List Gv)) (Y9 : Nat) : (Int × Nat × Nat × Nat × Nat × Nat × (List Gv) × (List (List Int)) × (List Gs) × (List Nat)) ⊕ (Unit) := (Z1M Y2 YB Y9 ((21 + (YB.length : Int) - 0).toNat + 1) Y9 0)
def Zd (Y2 : Gb) (YB : (List Gv)) (Y9 : Nat) : Gb × Int × Bool := (match (Z4k Y2 YB Y9) with
  | .inl r1 => ((⟨(⟨r1.2.2.2.2.2.2.1, r1.2.2.2.2.2.2.2.1⟩ : Gm), r1.2.2.2.2.2.2.2.2.1, r1.2.1, r1.2.2.1, r1.2.2.2.2.2.2.2.2.2, (⟨r1.2.2.2.1, r1.2.2.2.2.1, r1.2.2.2.2.2.1⟩ : Gv)⟩ : Gb), r1.1, true)
  | .inr r1 => (Y2, 20, false))
theorem Zi6 (b : Gb) (v : List Gv) (s : Nat) : ∀ (k x : Nat) (n : Int), (21 + (v.length : Int) - n).toNat < k → ∀ r, Z1M b v s k x n = .inl r → ∃ y, (⟨(⟨r.2.2.2.2.2.2.1, r.2.2.2.2.2.2.2.1⟩ : Gm), r.2.2.2.2.2.2.2.2.1, r.2.1, r.2.2.1, r.2.2.2.2.2.2.2.2.2, (⟨r.2.2.2.1, r.2.2.2.2.1, r.2.2.2.2.2.1⟩ : Gv)⟩ : Gb) = Zg b v y := by
  intro k
  induction k with
  | zero => intro x n hk; exact absurd hk (Nat.not_lt_zero _)
  | succ k ih =>
    intro x n hk r e
    rw [Z1M] at e
    cases h : decide (n ≤ 20) with
    | false => rw [h] at e; cases e
    | true =>
      have hn := odt h
      rw [h, cond_true] at e
      cases h2 : fcmp .lss .f32 (ZD (Zg b v x)) (ZD b) with
      | true => rw [h2, cond_true] at e; cases e; exact ⟨x, rfl⟩
      | false => rw [h2, cond_false] at e; exact ih _ _ (by omega) r e
theorem Zb9 (b : Gb) (v : List Gv) (s : Nat) : (Zd b v s).1 = b ∨ ∃ y, (Zd b v s).1 = Zg b v y := by
  unfold Zd Z4k
  cases h : Z1M b v s ((21 + (v.length : Int) - 0).toNat + 1) s 0 with
  | inl r => exact .inr (Zi6 b v s _ s 0 (Nat.lt_succ_self _) r h)
  | inr r => exact .inl rfl
def Like (b B : Gb) : Prop := B.Me.Pq.length = b.Me.Pq.length ∧ B.Me.Tr = b.Me.Tr ∧ B.Sp = b.Sp ∧ B.We = b.We
theorem Z48 {b B : Gb} (h : Like b B) : B.Me.Pq.length = b.Me.Pq.length ∧ B.Me.Tr.length = b.Me.Tr.length ∧ B.Sp.length = b.Sp.length ∧ B.We.length = b.We.length := ⟨h.1, by rw [h.2.1], by rw [h.2.2.1], by rw [h.2.2.2]⟩
theorem Zfi {b B : Gb} (h : Like b B) (v : List Gv) (s : Nat) : Like b (Zg B v s) := ⟨(Z7c B v s).trans h.1, h.2.1, h.2.2.1, h.2.2.2⟩
theorem Ze2 {b X : Gb} (h : Like b X) : Like b ⟨⟨X.Me.Pq, X.Me.Tr⟩, X.Sp, X.Film, X.Bend, X.We, ⟨X.Fall.X, X.Fall.Y, X.Fall.Z⟩⟩ := h
theorem Z8q {b B : Gb} (ok : OkBd b) (h : Like b B) : OkBd B := ⟨by rw [h.1, h.2.1]; exact ok.e, by rw [h.2.2.2, h.1]; exact ok.w, by rw [h.1, h.2.2.1]; exact ok.a, by rw [h.1, h.2.2.1]; exact ok.b⟩
theorem Zg2 {b B : Gb} {f : Int → Int} {l : List Int} (k : OkIx b.Me.Pq.length f l) (h : Like b B) : OkIx B.Me.Pq.length f l := by rw [h.1]; exact k
theorem ZcE {b B : Gb} {n : Nat} (k : ∀ t ∈ b.Me.Tr, t.length ≤ n) (h : Like b B) : ∀ t ∈ B.Me.Tr, t.length ≤ n := by rw [h.2.1]; exact k
theorem Z9U {b B : Gb} (h : Like b B) (v : List Gv) (s : Nat) : Like b (Zd B v s).1 := by
  rcases Zb9 B v s with e | ⟨y, e⟩ <;> rw [e]
  · exact h
  · exact Zfi h v y
theorem Zfj (b : Gb) (v : List Gv) (s : Nat) : (Zd b v s).1.Me.Pq.length ≤ b.Me.Pq.length := by
  rcases Zb9 b v s with h | ⟨y, h⟩ <;> rw [h]
  · exact Nat.le_refl _
  · exact Z7z b v y
theorem Zfk (b : Gb) (v : List Gv) (s : Nat) : (Zd b v s).1.Me.Tr.length ≤ b.Me.Tr.length := by
  rcases Zb9 b v s with h | ⟨y, h⟩ <;> rw [h]
  · exact Nat.le_refl _
  · exact Z7A b v y
theorem Zfl (b : Gb) (v : List Gv) (s : Nat) : (Zd b v s).1.We.length ≤ b.We.length := by
  rcases Zb9 b v s with h | ⟨y, h⟩ <;> rw [h]
  · exact Nat.le_refl _
  · exact Z7B b v y
theorem Zfm (b : Gb) (v : List Gv) (s : Nat) : (Zd b v s).1.Sp.length ≤ b.Sp.length := by
  rcases Zb9 b v s with h | ⟨y, h⟩ <;> rw [h]
  · exact Nat.le_refl _
  · exact Z7C b v y
theorem Zgi (Y2 : Gb) (YB : (List Gv)) (Y9 : Nat) (hp0 : Y2.Me.Pq.length ≤ 1073741824) (hp1 : Y2.Me.Tr.length ≤ 1073741824) (hp2 : ∀ t ∈ Y2.Me.Tr, t.length ≤ 1073741824) (hp3 : Y2.Sp.length ≤ 1073741824) (hp4 : Y2.We.length ≤ 1073741824) (hp5 : YB.length ≤ 1073741824) (hp6 : OkBd Y2) (hp7 : YB.length ≤ Y2.Me.Pq.length)  : Fn prog 70 [.ref (Gb.c Y2) 0, .sl (YB.map Gv.c), .f .f32 Y9] (.tup [.agg [.own 0, .own 1, .own 2, .f .f32 ((Zd Y2 YB Y9).1.Film), .f .f32 ((Zd Y2 YB Y9).1.Bend), .own 3, .f .f32 ((Zd Y2 YB Y9).1.Fall.X), .f .f32 ((Zd Y2 YB Y9).1.Fall.Y), .f .f32 ((Zd Y2 YB Y9).1.Fall.Z)], .i .i64 ((Zd Y2 YB Y9).2.1), .b ((Zd Y2 YB Y9).2.2)]) [.vec 40 3 (((Zd Y2 YB Y9).1.Me.Pq).map Gv.c) false, .nest 49 (((Zd Y2 YB Y9).1.Me.Tr).map fun l => l.map (cI .i64)) false, .vec 133 4 (((Zd Y2 YB Y9).1.Sp).map Gs.c) false, .vec 27 1 (((Zd Y2 YB Y9).1.We).map (cF .f32)) false] := by
 have p {a C} (s : Scr a C) := sF (Z67 Y2 hp0 hp1 hp2 hp3 hp4 hp6) <| s
 cases h0 : (Z4k Y2 YB Y9) with
 | inl r1 =>
  have hv : Zd Y2 YB Y9 = ((⟨(⟨r1.2.2.2.2.2.2.1, r1.2.2.2.2.2.2.2.1⟩ : Gm), r1.2.2.2.2.2.2.2.2.1, r1.2.1, r1.2.2.1, r1.2.2.2.2.2.2.2.2.2, (⟨r1.2.2.2.1, r1.2.2.2.2.1, r1.2.2.2.2.2.1⟩ : Gv)⟩ : Gb), r1.1, true) := by unfold Zd; rw [h0]
  refine fnS E0Ok Z5 (c := bodyOf f70) [] (.tup [.agg [.own 0, .own 1, .own 2, .f .f32 r1.2.1, .f .f32 r1.2.2.1, .own 3, .f .f32 r1.2.2.2.1, .f .f32 r1.2.2.2.2.1, .f .f32 r1.2.2.2.2.2.1], .i .i64 r1.1, .b true]) [.vec 40 3 (r1.2.2.2.2.2.2.1.map Gv.c) false, .nest 49 (r1.2.2.2.2.2.2.2.1.map fun l => l.map (cI .i64)) false, .vec 133 4 (r1.2.2.2.2.2.2.2.2.1.map Gs.c) false, .vec 27 1 (r1.2.2.2.2.2.2.2.2.2.map (cF .f32)) false] func70 (p (sL (mR false [0, 3, 3, 1, 2, 2, 1, 2, 17]) 1 (lp_val (Z68 Y2 YB Y9) (x := (Z4k Y2 YB Y9)) (Zb8 Y2 YB Y9 hp0 hp1 hp2 hp3 hp4 hp5 hp6 hp7 ((21 + (YB.length : Int) - 0).toNat + 1) Y9 0 (show 0 ≤ 0 from (by omega)) (Nat.lt_succ_self _)) h0) <| sK [1, 2, 3, 4] sN)) rfl (by kernel_rfl) (by kernel_rfl) rfl ?_ ?_
  · rw [hv]
  · rw [hv]
 | inr r1 =>
  have hv : Zd Y2 YB Y9 = (Y2, 20, false) := by unfold Zd; rw [h0]
  refine fnS E0Ok Z5 (c := bodyOf f70) [] (.tup [.agg [.own 0, .own 1, .own 2, .f .f32 Y2.Film, .f .f32 Y2.Bend, .own 3, .f .f32 Y2.Fall.X, .f .f32 Y2.Fall.Y, .f .f32 Y2.Fall.Z], .i .i64 20, .b false]) [.vec 40 3 (Y2.Me.Pq.map Gv.c) false, .nest 49 (Y2.Me.Tr.map fun l => l.map (cI .i64)) false, .vec 133 4 (Y2.Sp.map Gs.c) false, .vec 27 1 (Y2.We.map (cF .f32)) false] func70 (p (sL (mR false [0, 3, 3, 1, 2, 2, 1, 2, 17]) 1 (lp_val (Z68 Y2 YB Y9) (x := (Z4k Y2 YB Y9)) (Zb8 Y2 YB Y9 hp0 hp1 hp2 hp3 hp4 hp5 hp6 hp7 ((21 + (YB.length : Int) - 0).toNat + 1) Y9 0 (show 0 ≤ 0 from (by omega)) (Nat.lt_succ_self _)) h0) <| sF (Zaw Y2 hp0 hp1 hp2 hp3 hp4) <| sK [1, 2, 3, 4] sN)) rfl (by kernel_rfl) (by kernel_rfl) rfl ?_ ?_
  · rw [hv]
  · rw [hv]
def Z1Z (Y2 : Gb) (Y4 : (List Int)) (Y9 : Nat) (Yc : Int) : Nat → Int → (List Gv) → (List (List Int)) → (List Gs) → (List Nat) → Nat → Nat → Nat → Nat → Nat → (List Nat) → Nat × Nat × Nat × Nat × Nat × (List Nat) × (List Gv) × (List (List Int)) × (List Gs) × (List Nat)
  | 0, _, _, _, _, _, _, _, _, _, _, _ => default
  | k + 1, YQ, Y8, Yi, Yl, Ym, Yn, Yo, Yp, Yq, Yr, Y13 => (cond (decide (YQ > 0))
    (cond (Zd (⟨(⟨Y8, Yi⟩ : Gm), Yl, Yn, Yo, Ym, (⟨Yp, Yq, Yr⟩ : Gv)⟩ : Gb) (Ze (⟨(⟨Y8, Yi⟩ : Gm), Yl, Yn, Yo, Ym, (⟨Yp, Yq, Yr⟩ : Gv)⟩ : Gb) Y4) Y9).2.2
      (Z1Z Y2 Y4 Y9 Yc k (YQ - 1) ((Zd (⟨(⟨Y8, Yi⟩ : Gm), Yl, Yn, Yo, Ym, (⟨Yp, Yq, Yr⟩ : Gv)⟩ : Gb) (Ze (⟨(⟨Y8, Yi⟩ : Gm), Yl, Yn, Yo, Ym, (⟨Yp, Yq, Yr⟩ : Gv)⟩ : Gb) Y4) Y9).1.Me.Pq) ((Zd (⟨(⟨Y8, Yi⟩ : Gm), Yl, Yn, Yo, Ym, (⟨Yp, Yq, Yr⟩ : Gv)⟩ : Gb) (Ze (⟨(⟨Y8, Yi⟩ : Gm), Yl, Yn, Yo, Ym, (⟨Yp, Yq, Yr⟩ : Gv)⟩ : Gb) Y4) Y9).1.Me.Tr) ((Zd (⟨(⟨Y8, Yi⟩ : Gm), Yl, Yn, Yo, Ym, (⟨Yp, Yq, Yr⟩ : Gv)⟩ : Gb) (Ze (⟨(⟨Y8, Yi⟩ : Gm), Yl, Yn, Yo, Ym, (⟨Yp, Yq, Yr⟩ : Gv)⟩ : Gb) Y4) Y9).1.Sp) ((Zd (⟨(⟨Y8, Yi⟩ : Gm), Yl, Yn, Yo, Ym, (⟨Yp, Yq, Yr⟩ : Gv)⟩ : Gb) (Ze (⟨(⟨Y8, Yi⟩ : Gm), Yl, Yn, Yo, Ym, (⟨Yp, Yq, Yr⟩ : Gv)⟩ : Gb) Y4) Y9).1.We) ((Zd (⟨(⟨Y8, Yi⟩ : Gm), Yl, Yn, Yo, Ym, (⟨Yp, Yq, Yr⟩ : Gv)⟩ : Gb) (Ze (⟨(⟨Y8, Yi⟩ : Gm), Yl, Yn, Yo, Ym, (⟨Yp, Yq, Yr⟩ : Gv)⟩ : Gb) Y4) Y9).1.Film) ((Zd (⟨(⟨Y8, Yi⟩ : Gm), Yl, Yn, Yo, Ym, (⟨Yp, Yq, Yr⟩ : Gv)⟩ : Gb) (Ze (⟨(⟨Y8, Yi⟩ : Gm), Yl, Yn, Yo, Ym, (⟨Yp, Yq, Yr⟩ : Gv)⟩ : Gb) Y4) Y9).1.Bend) ((Zd (⟨(⟨Y8, Yi⟩ : Gm), Yl, Yn, Yo, Ym, (⟨Yp, Yq, Yr⟩ : Gv)⟩ : Gb) (Ze (⟨(⟨Y8, Yi⟩ : Gm), Yl, Yn, Yo, Ym, (⟨Yp, Yq, Yr⟩ : Gv)⟩ : Gb) Y4) Y9).1.Fall.X) ((Zd (⟨(⟨Y8, Yi⟩ : Gm), Yl, Yn, Yo, Ym, (⟨Yp, Yq, Yr⟩ : Gv)⟩ : Gb) (Ze (⟨(⟨Y8, Yi⟩ : Gm), Yl, Yn, Yo, Ym, (⟨Yp, Yq, Yr⟩ : Gv)⟩ : Gb) Y4) Y9).1.Fall.Y) ((Zd (⟨(⟨Y8, Yi⟩ : Gm), Yl, Yn, Yo, Ym, (⟨Yp, Yq, Yr⟩ : Gv)⟩ : Gb) (Ze (⟨(⟨Y8, Yi⟩ : Gm), Yl, Yn, Yo, Ym, (⟨Yp, Yq, Yr⟩ : Gv)⟩ : Gb) Y4) Y9).1.Fall.Z) (Y13 ++ [(ZD ((Zd (⟨(⟨Y8, Yi⟩ : Gm), Yl, Yn, Yo, Ym, (⟨Yp, Yq, Yr⟩ : Gv)⟩ : Gb) (Ze (⟨(⟨Y8, Yi⟩ : Gm), Yl, Yn, Yo, Ym, (⟨Yp, Yq, Yr⟩ : Gv)⟩ : Gb) Y4) Y9).1))]))
      (Yn, Yo, Yp, Yq, Yr, Y13, Y8, Yi, Yl, Ym))
    (Yn, Yo, Yp, Yq, Yr, Y13, Y8, Yi, Yl, Ym))
def Z82 (Y2 : Gb) (Y4 : (List Int)) (Y9 : Nat) (Yc : Int) (r : Nat × Nat × Nat × Nat × Nat × (List Nat) × (List Gv) × (List (List Int)) × (List Gs) × (List Nat)) : Ex × St := ((.exit 0), ⟨.ref (Gb.c Y2) 0 :: an 7 (.ptr 0 0 0 :: .nils :: .ptr 1 0 0 :: .own 2 :: .any :: .any :: .any :: .ref (Gb.c Y2) 0 :: .any :: .ref (Gb.c Y2) 0 :: .f .f32 (ZD Y2) :: an 22 []), [.box 42 [.nils, .nils, .nils, .f .f32 0, .f .f32 0, .nils, .f .f32 0, .f .f32 0, .f .f32 0], .box 42 [.own 3, .own 4, .own 5, .f .f32 r.1, .f .f32 r.2.1, .own 6, .f .f32 r.2.2.1, .f .f32 r.2.2.2.1, .f .f32 r.2.2.2.2.1], .vec 27 1 (r.2.2.2.2.2.1.map (cF .f32)) false, .vec 40 3 (r.2.2.2.2.2.2.1.map Gv.c) false, .nest 49 (r.2.2.2.2.2.2.2.1.map fun l => l.map (cI .i64)) false, .vec 133 4 (r.2.2.2.2.2.2.2.2.1.map Gs.c) false, .vec 27 1 (r.2.2.2.2.2.2.2.2.2.map (cF .f32)) false]⟩)
def Z83 (Y2 : Gb) (Y4 : (List Int)) (Y9 : Nat) (Yc : Int) (YQ : Int) (Y8 : (List Gv)) (Yi : (List (List Int))) (Yl : (List Gs)) (Ym : (List Nat)) (Yn : Nat) (Yo : Nat) (Yp : Nat) (Yq : Nat) (Yr : Nat) (Y13 : (List Nat)) : St := ⟨.ref (Gb.c Y2) 0 :: .sl (Y4.map (cI .i64)) :: .f .f32 Y9 :: .i .i64 YQ :: an 4 (.ptr 0 0 0 :: .nils :: .ptr 5 0 0 :: .own 6 :: .any :: .any :: .any :: .ref (Gb.c Y2) 0 :: .any :: .ref (Gb.c Y2) 0 :: .f .f32 (ZD Y2) :: an 22 []), [.box 42 [.nils, .nils, .nils, .f .f32 0, .f .f32 0, .nils, .f .f32 0, .f .f32 0, .f .f32 0], .vec 40 3 (Y8.map Gv.c) false, .nest 49 (Yi.map fun l => l.map (cI .i64)) false, .vec 133 4 (Yl.map Gs.c) false, .vec 27 1 (Ym.map (cF .f32)) false, .box 42 [.own 1, .own 2, .own 3, .f .f32 Yn, .f .f32 Yo, .own 4, .f .f32 Yp, .f .f32 Yq, .f .f32 Yr], .vec 27 1 (Y13.map (cF .f32)) false]⟩
set_option maxHeartbeats 1000000 in
theorem ZeQ (Y2 : Gb) (Y4 : (List Int)) (Y9 : Nat) (Yc : Int) (hp0 : Y2.Me.Pq.length ≤ 1073741824) (hp1 : Y2.Me.Tr.length ≤ 1073741824) (hp2 : ∀ t ∈ Y2.Me.Tr, t.length ≤ 1073741824) (hp3 : Y2.Sp.length ≤ 1073741824) (hp4 : Y2.We.length ≤ 1073741824) (hp5 : Y4.length ≤ 1073741824) (hp6 : OkBd Y2) (hp7 : OkIx Y2.Me.Pq.length (fun x => x) Y4) (hp8 : 0 ≤ Yc) (hp9 : Yc ≤ 40) : ∀ (k : Nat) (YQ : Int) (Y8 : (List Gv)) (Yi : (List (List Int))) (Yl : (List Gs)) (Ym : (List Nat)) (Yn : Nat) (Yo : Nat) (Yp : Nat) (Yq : Nat) (Yr : Nat) (Y13 : (List Nat)) (Zae : 0 ≤ YQ) (Z3u : Like Y2 (⟨(⟨Y8, Yi⟩ : Gm), Yl, Yn, Yo, Ym, (⟨Yp, Yq, Yr⟩ : Gv)⟩ : Gb)) (Zaf : (Y13.length : Int) + YQ ≤ Yc + 1) (hk : YQ.toNat < k), Lp prog 0 (sub (bodyOf f82) [1, 1, 1, 0, 0, 0]) (Z83 Y2 Y4 Y9 Yc YQ Y8 Yi Yl Ym Yn Yo Yp Yq Yr Y13) (Z82 Y2 Y4 Y9 Yc (Z1Z Y2 Y4 Y9 Yc k YQ Y8 Yi Yl Ym Yn Yo Yp Yq Yr Y13)).1 (Z82 Y2 Y4 Y9 Yc (Z1Z Y2 Y4 Y9 Yc k YQ Y8 Yi Yl Ym Yn Yo Yp Yq Yr Y13)).2 := by
 intro k
 induction k with
 | zero => intro YQ Y8 Yi Yl Ym Yn Yo Yp Yq Yr Y13 Zae Z3u Zaf hk; exact absurd hk (Nat.not_lt_zero _)
 | succ k ih =>
  intro YQ Y8 Yi Yl Ym Yn Yo Yp Yq Yr Y13 Zae Z3u Zaf hk
  cases Yj : (decide (YQ > 0)) with
  | true =>
   have YM := odt Yj
   have YS : (⟨(⟨Y8, Yi⟩ : Gm), Yl, Yn, Yo, Ym, (⟨Yp, Yq, Yr⟩ : Gv)⟩ : Gb).Me.Pq.length ≤ 1073741824 := (by have q := Z48 Z3u; simp only [Z41] at q ⊢; omega)
   have YT : (⟨(⟨Y8, Yi⟩ : Gm), Yl, Yn, Yo, Ym, (⟨Yp, Yq, Yr⟩ : Gv)⟩ : Gb).Me.Tr.length ≤ 1073741824 := (by have q := Z48 Z3u; simp only [Z41] at q ⊢; omega)
   have YY : ∀ t ∈ (⟨(⟨Y8, Yi⟩ : Gm), Yl, Yn, Yo, Ym, (⟨Yp, Yq, Yr⟩ : Gv)⟩ : Gb).Me.Tr, t.length ≤ 1073741824 := (by with_reducible exact ZcE hp2 (by with_reducible assumption))
   have YZ : (⟨(⟨Y8, Yi⟩ : Gm), Yl, Yn, Yo, Ym, (⟨Yp, Yq, Yr⟩ : Gv)⟩ : Gb).Sp.length ≤ 1073741824 := (by have q := Z48 Z3u; simp only [Z41] at q ⊢; omega)
   have y_4 : (⟨(⟨Y8, Yi⟩ : Gm), Yl, Yn, Yo, Ym, (⟨Yp, Yq, Yr⟩ : Gv)⟩ : Gb).We.length ≤ 1073741824 := (by have q := Z48 Z3u; simp only [Z41] at q ⊢; omega)
   have y_5 : OkBd (⟨(⟨Y8, Yi⟩ : Gm), Yl, Yn, Yo, Ym, (⟨Yp, Yq, Yr⟩ : Gv)⟩ : Gb) := (by with_reducible exact Z8q hp6 (by with_reducible assumption))
   have y_6 : OkIx (⟨(⟨Y8, Yi⟩ : Gm), Yl, Yn, Yo, Ym, (⟨Yp, Yq, Yr⟩ : Gv)⟩ : Gb).Me.Pq.length (fun x => x) Y4 := (by with_reducible exact Zg2 hp7 (by with_reducible assumption))
   have y_7 : (Ze (⟨(⟨Y8, Yi⟩ : Gm), Yl, Yn, Yo, Ym, (⟨Yp, Yq, Yr⟩ : Gv)⟩ : Gb) Y4).length ≤ 1073741824 := (by have q := Z48 Z3u; simp only [Z41] at q ⊢; omega)
   have y_8 : (Ze (⟨(⟨Y8, Yi⟩ : Gm), Yl, Yn, Yo, Ym, (⟨Yp, Yq, Yr⟩ : Gv)⟩ : Gb) Y4).length ≤ (⟨(⟨Y8, Yi⟩ : Gm), Yl, Yn, Yo, Ym, (⟨Yp, Yq, Yr⟩ : Gv)⟩ : Gb).Me.Pq.length := (by have q := Z48 Z3u; simp only [Z41] at q ⊢; omega)
   have l_1 := (Zfj (⟨(⟨Y8, Yi⟩ : Gm), Yl, Yn, Yo, Ym, (⟨Yp, Yq, Yr⟩ : Gv)⟩ : Gb) (Ze (⟨(⟨Y8, Yi⟩ : Gm), Yl, Yn, Yo, Ym, (⟨Yp, Yq, Yr⟩ : Gv)⟩ : Gb) Y4) Y9)
   have l_2 := (Zfk (⟨(⟨Y8, Yi⟩ : Gm), Yl, Yn, Yo, Ym, (⟨Yp, Yq, Yr⟩ : Gv)⟩ : Gb) (Ze (⟨(⟨Y8, Yi⟩ : Gm), Yl, Yn, Yo, Ym, (⟨Yp, Yq, Yr⟩ : Gv)⟩ : Gb) Y4) Y9)
   have l_3 := (Zfl (⟨(⟨Y8, Yi⟩ : Gm), Yl, Yn, Yo, Ym, (⟨Yp, Yq, Yr⟩ : Gv)⟩ : Gb) (Ze (⟨(⟨Y8, Yi⟩ : Gm), Yl, Yn, Yo, Ym, (⟨Yp, Yq, Yr⟩ : Gv)⟩ : Gb) Y4) Y9)
   have l_4 := (Zfm (⟨(⟨Y8, Yi⟩ : Gm), Yl, Yn, Yo, Ym, (⟨Yp, Yq, Yr⟩ : Gv)⟩ : Gb) (Ze (⟨(⟨Y8, Yi⟩ : Gm), Yl, Yn, Yo, Ym, (⟨Yp, Yq, Yr⟩ : Gv)⟩ : Gb) Y4) Y9)
   have p {a C} (s : Scr a C) := sB Yj <| sF (Fn.castA (args' := [.ref [.sl (Y8.map Gv.c), .sl ((Yi.map fun l => l.map (cI .i64)).map fun l => [.sl l]), .sl (Yl.map Gs.c), .f .f32 Yn, .f .f32 Yo, .sl (Ym.map (cF .f32)), .f .f32 Yp, .f .f32 Yq, .f .f32 Yr] 0, .sl (Y4.map (cI .i64))]) (ZfE (⟨(⟨Y8, Yi⟩ : Gm), Yl, Yn, Yo, Ym, (⟨Yp, Yq, Yr⟩ : Gv)⟩ : Gb) Y4 YS YT YY YZ y_4 hp5 y_5 y_6) (by simp [cL, Function.comp_def]; rfl)) <| sF (Fn.castA (args' := [.ref [.sl (Y8.map Gv.c), .sl ((Yi.map fun l => l.map (cI .i64)).map fun l => [.sl l]), .sl (Yl.map Gs.c), .f .f32 Yn, .f .f32 Yo, .sl (Ym.map (cF .f32)), .f .f32 Yp, .f .f32 Yq, .f .f32 Yr] 0, .sl ((Ze (⟨(⟨Y8, Yi⟩ : Gm), Yl, Yn, Yo, Ym, (⟨Yp, Yq, Yr⟩ : Gv)⟩ : Gb) Y4).map Gv.c), .f .f32 Y9]) (Zgi (⟨(⟨Y8, Yi⟩ : Gm), Yl, Yn, Yo, Ym, (⟨Yp, Yq, Yr⟩ : Gv)⟩ : Gb) (Ze (⟨(⟨Y8, Yi⟩ : Gm), Yl, Yn, Yo, Ym, (⟨Yp, Yq, Yr⟩ : Gv)⟩ : Gb) Y4) Y9 YS YT YY YZ y_4 y_7 y_5 y_8) (by simp [cL, Function.comp_def]; rfl)) <| s
   cases YJ : (Zd (⟨(⟨Y8, Yi⟩ : Gm), Yl, Yn, Yo, Ym, (⟨Yp, Yq, Yr⟩ : Gv)⟩ : Gb) (Ze (⟨(⟨Y8, Yi⟩ : Gm), Yl, Yn, Yo, Ym, (⟨Yp, Yq, Yr⟩ : Gv)⟩ : Gb) Y4) Y9).2.2 with
   | true =>
    have y_9 : ((Zd (⟨(⟨Y8, Yi⟩ : Gm), Yl, Yn, Yo, Ym, (⟨Yp, Yq, Yr⟩ : Gv)⟩ : Gb) (Ze (⟨(⟨Y8, Yi⟩ : Gm), Yl, Yn, Yo, Ym, (⟨Yp, Yq, Yr⟩ : Gv)⟩ : Gb) Y4) Y9).1).Me.Pq.length ≤ 1073741824 := by clear p; exact (by omega)
    have Y1c : ((Zd (⟨(⟨Y8, Yi⟩ : Gm), Yl, Yn, Yo, Ym, (⟨Yp, Yq, Yr⟩ : Gv)⟩ : Gb) (Ze (⟨(⟨Y8, Yi⟩ : Gm), Yl, Yn, Yo, Ym, (⟨Yp, Yq, Yr⟩ : Gv)⟩ : Gb) Y4) Y9).1).Me.Tr.length ≤ 1073741824 := by clear p; exact (by omega)
    have Y1j : ∀ t ∈ ((Zd (⟨(⟨Y8, Yi⟩ : Gm), Yl, Yn, Yo, Ym, (⟨Yp, Yq, Yr⟩ : Gv)⟩ : Gb) (Ze (⟨(⟨Y8, Yi⟩ : Gm), Yl, Yn, Yo, Ym, (⟨Yp, Yq, Yr⟩ : Gv)⟩ : Gb) Y4) Y9).1).Me.Tr, t.length ≤ 1073741824 := by clear p; exact (by with_reducible exact ZcE hp2 (Z9U (by with_reducible assumption) _ _))
    have Y1m : ((Zd (⟨(⟨Y8, Yi⟩ : Gm), Yl, Yn, Yo, Ym, (⟨Yp, Yq, Yr⟩ : Gv)⟩ : Gb) (Ze (⟨(⟨Y8, Yi⟩ : Gm), Yl, Yn, Yo, Ym, (⟨Yp, Yq, Yr⟩ : Gv)⟩ : Gb) Y4) Y9).1).Sp.length ≤ 1073741824 := by clear p; exact (by omega)
    have Y1n : ((Zd (⟨(⟨Y8, Yi⟩ : Gm), Yl, Yn, Yo, Ym, (⟨Yp, Yq, Yr⟩ : Gv)⟩ : Gb) (Ze (⟨(⟨Y8, Yi⟩ : Gm), Yl, Yn, Yo, Ym, (⟨Yp, Yq, Yr⟩ : Gv)⟩ : Gb) Y4) Y9).1).We.length ≤ 1073741824 := by clear p; exact (by omega)
    have Y1t : OkBd ((Zd (⟨(⟨Y8, Yi⟩ : Gm), Yl, Yn, Yo, Ym, (⟨Yp, Yq, Yr⟩ : Gv)⟩ : Gb) (Ze (⟨(⟨Y8, Yi⟩ : Gm), Yl, Yn, Yo, Ym, (⟨Yp, Yq, Yr⟩ : Gv)⟩ : Gb) Y4) Y9).1) := by clear p; exact (by with_reducible exact Z8q hp6 (Z9U (by with_reducible assumption) _ _))
    have Y1u : Y13.length + ([(ZD ((Zd (⟨(⟨Y8, Yi⟩ : Gm), Yl, Yn, Yo, Ym, (⟨Yp, Yq, Yr⟩ : Gv)⟩ : Gb) (Ze (⟨(⟨Y8, Yi⟩ : Gm), Yl, Yn, Yo, Ym, (⟨Yp, Yq, Yr⟩ : Gv)⟩ : Gb) Y4) Y9).1))]).length ≤ 1073741824 := by clear p; exact (by (simp; omega))
    have Y1v : (-9223372036854775808 : Int) ≤ (YQ - 1) := by clear p; exact (by omega)
    have Y1w : (YQ - 1) ≤ (9223372036854775807 : Int) := by clear p; exact (by omega)
    have e : Z1Z Y2 Y4 Y9 Yc (k + 1) YQ Y8 Yi Yl Ym Yn Yo Yp Yq Yr Y13 = (Z1Z Y2 Y4 Y9 Yc k (YQ - 1) ((Zd (⟨(⟨Y8, Yi⟩ : Gm), Yl, Yn, Yo, Ym, (⟨Yp, Yq, Yr⟩ : Gv)⟩ : Gb) (Ze (⟨(⟨Y8, Yi⟩ : Gm), Yl, Yn, Yo, Ym, (⟨Yp, Yq, Yr⟩ : Gv)⟩ : Gb) Y4) Y9).1.Me.Pq) ((Zd (⟨(⟨Y8, Yi⟩ : Gm), Yl, Yn, Yo, Ym, (⟨Yp, Yq, Yr⟩ : Gv)⟩ : Gb) (Ze (⟨(⟨Y8, Yi⟩ : Gm), Yl, Yn, Yo, Ym, (⟨Yp, Yq, Yr⟩ : Gv)⟩ : Gb) Y4) Y9).1.Me.Tr) ((Zd (⟨(⟨Y8, Yi⟩ : Gm), Yl, Yn, Yo, Ym, (⟨Yp, Yq, Yr⟩ : Gv)⟩ : Gb) (Ze (⟨(⟨Y8, Yi⟩ : Gm), Yl, Yn, Yo, Ym, (⟨Yp, Yq, Yr⟩ : Gv)⟩ : Gb) Y4) Y9).1.Sp) ((Zd (⟨(⟨Y8, Yi⟩ : Gm), Yl, Yn, Yo, Ym, (⟨Yp, Yq, Yr⟩ : Gv)⟩ : Gb) (Ze (⟨(⟨Y8, Yi⟩ : Gm), Yl, Yn, Yo, Ym, (⟨Yp, Yq, Yr⟩ : Gv)⟩ : Gb) Y4) Y9).1.We) ((Zd (⟨(⟨Y8, Yi⟩ : Gm), Yl, Yn, Yo, Ym, (⟨Yp, Yq, Yr⟩ : Gv)⟩ : Gb) (Ze (⟨(⟨Y8, Yi⟩ : Gm), Yl, Yn, Yo, Ym, (⟨Yp, Yq, Yr⟩ : Gv)⟩ : Gb) Y4) Y9).1.Film) ((Zd (⟨(⟨Y8, Yi⟩ : Gm), Yl, Yn, Yo, Ym, (⟨Yp, Yq, Yr⟩ : Gv)⟩ : Gb) (Ze (⟨(⟨Y8, Yi⟩ : Gm), Yl, Yn, Yo, Ym, (⟨Yp, Yq, Yr⟩ : Gv)⟩ : Gb) Y4) Y9).1.Bend) ((Zd (⟨(⟨Y8, Yi⟩ : Gm), Yl, Yn, Yo, Ym, (⟨Yp, Yq, Yr⟩ : Gv)⟩ : Gb) (Ze (⟨(⟨Y8, Yi⟩ : Gm), Yl, Yn, Yo, Ym, (⟨Yp, Yq, Yr⟩ : Gv)⟩ : Gb) Y4) Y9).1.Fall.X) ((Zd (⟨(⟨Y8, Yi⟩ : Gm), Yl, Yn, Yo, Ym, (⟨Yp, Yq, Yr⟩ : Gv)⟩ : Gb) (Ze (⟨(⟨Y8, Yi⟩ : Gm), Yl, Yn, Yo, Ym, (⟨Yp, Yq, Yr⟩ : Gv)⟩ : Gb) Y4) Y9).1.Fall.Y) ((Zd (⟨(⟨Y8, Yi⟩ : Gm), Yl, Yn, Yo, Ym, (⟨Yp, Yq, Yr⟩ : Gv)⟩ : Gb) (Ze (⟨(⟨Y8, Yi⟩ : Gm), Yl, Yn, Yo, Ym, (⟨Yp, Yq, Yr⟩ : Gv)⟩ : Gb) Y4) Y9).1.Fall.Z) (Y13 ++ [(ZD ((Zd (⟨(⟨Y8, Yi⟩ : Gm), Yl, Yn, Yo, Ym, (⟨Yp, Yq, Yr⟩ : Gv)⟩ : Gb) (Ze (⟨(⟨Y8, Yi⟩ : Gm), Yl, Yn, Yo, Ym, (⟨Yp, Yq, Yr⟩ : Gv)⟩ : Gb) Y4) Y9).1))])) := by simp only [Z1Z, Yj, YJ, cond_true]
    rw [e]
    exact nextS E0Ok Z5 [] (mR false [0, 4, 4, 4, 3, 1, 1, 2, 22]) [0, 8, 9, 10, 11, 5, 6] (⟨.ref (Gb.c Y2) 0 :: .sl (Y4.map (cI .i64)) :: .f .f32 Y9 :: .i .i64 (YQ - 1) :: an 4 (.ptr 0 0 0 :: .nils :: .ptr 5 0 0 :: .own 6 :: .any :: .any :: .any :: .ref (Gb.c Y2) 0 :: .any :: .ref (Gb.c Y2) 0 :: .f .f32 (ZD Y2) :: an 22 []), [.box 42 [.nils, .nils, .nils, .f .f32 0, .f .f32 0, .nils, .f .f32 0, .f .f32 0, .f .f32 0], .vec 40 3 (((Zd (⟨(⟨Y8, Yi⟩ : Gm), Yl, Yn, Yo, Ym, (⟨Yp, Yq, Yr⟩ : Gv)⟩ : Gb) (Ze (⟨(⟨Y8, Yi⟩ : Gm), Yl, Yn, Yo, Ym, (⟨Yp, Yq, Yr⟩ : Gv)⟩ : Gb) Y4) Y9).1.Me.Pq).map Gv.c) false, .nest 49 (((Zd (⟨(⟨Y8, Yi⟩ : Gm), Yl, Yn, Yo, Ym, (⟨Yp, Yq, Yr⟩ : Gv)⟩ : Gb) (Ze (⟨(⟨Y8, Yi⟩ : Gm), Yl, Yn, Yo, Ym, (⟨Yp, Yq, Yr⟩ : Gv)⟩ : Gb) Y4) Y9).1.Me.Tr).map fun l => l.map (cI .i64)) false, .vec 133 4 (((Zd (⟨(⟨Y8, Yi⟩ : Gm), Yl, Yn, Yo, Ym, (⟨Yp, Yq, Yr⟩ : Gv)⟩ : Gb) (Ze (⟨(⟨Y8, Yi⟩ : Gm), Yl, Yn, Yo, Ym, (⟨Yp, Yq, Yr⟩ : Gv)⟩ : Gb) Y4) Y9).1.Sp).map Gs.c) false, .vec 27 1 (((Zd (⟨(⟨Y8, Yi⟩ : Gm), Yl, Yn, Yo, Ym, (⟨Yp, Yq, Yr⟩ : Gv)⟩ : Gb) (Ze (⟨(⟨Y8, Yi⟩ : Gm), Yl, Yn, Yo, Ym, (⟨Yp, Yq, Yr⟩ : Gv)⟩ : Gb) Y4) Y9).1.We).map (cF .f32)) false, .box 42 [.own 1, .own 2, .own 3, .f .f32 ((Zd (⟨(⟨Y8, Yi⟩ : Gm), Yl, Yn, Yo, Ym, (⟨Yp, Yq, Yr⟩ : Gv)⟩ : Gb) (Ze (⟨(⟨Y8, Yi⟩ : Gm), Yl, Yn, Yo, Ym, (⟨Yp, Yq, Yr⟩ : Gv)⟩ : Gb) Y4) Y9).1.Film), .f .f32 ((Zd (⟨(⟨Y8, Yi⟩ : Gm), Yl, Yn, Yo, Ym, (⟨Yp, Yq, Yr⟩ : Gv)⟩ : Gb) (Ze (⟨(⟨Y8, Yi⟩ : Gm), Yl, Yn, Yo, Ym, (⟨Yp, Yq, Yr⟩ : Gv)⟩ : Gb) Y4) Y9).1.Bend), .own 4, .f .f32 ((Zd (⟨(⟨Y8, Yi⟩ : Gm), Yl, Yn, Yo, Ym, (⟨Yp, Yq, Yr⟩ : Gv)⟩ : Gb) (Ze (⟨(⟨Y8, Yi⟩ : Gm), Yl, Yn, Yo, Ym, (⟨Yp, Yq, Yr⟩ : Gv)⟩ : Gb) Y4) Y9).1.Fall.X), .f .f32 ((Zd (⟨(⟨Y8, Yi⟩ : Gm), Yl, Yn, Yo, Ym, (⟨Yp, Yq, Yr⟩ : Gv)⟩ : Gb) (Ze (⟨(⟨Y8, Yi⟩ : Gm), Yl, Yn, Yo, Ym, (⟨Yp, Yq, Yr⟩ : Gv)⟩ : Gb) Y4) Y9).1.Fall.Y), .f .f32 ((Zd (⟨(⟨Y8, Yi⟩ : Gm), Yl, Yn, Yo, Ym, (⟨Yp, Yq, Yr⟩ : Gv)⟩ : Gb) (Ze (⟨(⟨Y8, Yi⟩ : Gm), Yl, Yn, Yo, Ym, (⟨Yp, Yq, Yr⟩ : Gv)⟩ : Gb) Y4) Y9).1.Fall.Z)], .vec 27 1 ((Y13.map (cF .f32)) ++ ([[.f .f32 (ZD ((Zd (⟨(⟨Y8, Yi⟩ : Gm), Yl, Yn, Yo, Ym, (⟨Yp, Yq, Yr⟩ : Gv)⟩ : Gb) (Ze (⟨(⟨Y8, Yi⟩ : Gm), Yl, Yn, Yo, Ym, (⟨Yp, Yq, Yr⟩ : Gv)⟩ : Gb) Y4) Y9).1))]] : List (List AV))) false]⟩) (p (sB' YJ <| sF (Fn.castA (args' := [.ref [.sl (((Zd (⟨(⟨Y8, Yi⟩ : Gm), Yl, Yn, Yo, Ym, (⟨Yp, Yq, Yr⟩ : Gv)⟩ : Gb) (Ze (⟨(⟨Y8, Yi⟩ : Gm), Yl, Yn, Yo, Ym, (⟨Yp, Yq, Yr⟩ : Gv)⟩ : Gb) Y4) Y9).1.Me.Pq).map Gv.c), .sl ((((Zd (⟨(⟨Y8, Yi⟩ : Gm), Yl, Yn, Yo, Ym, (⟨Yp, Yq, Yr⟩ : Gv)⟩ : Gb) (Ze (⟨(⟨Y8, Yi⟩ : Gm), Yl, Yn, Yo, Ym, (⟨Yp, Yq, Yr⟩ : Gv)⟩ : Gb) Y4) Y9).1.Me.Tr).map fun l => l.map (cI .i64)).map fun l => [.sl l]), .sl (((Zd (⟨(⟨Y8, Yi⟩ : Gm), Yl, Yn, Yo, Ym, (⟨Yp, Yq, Yr⟩ : Gv)⟩ : Gb) (Ze (⟨(⟨Y8, Yi⟩ : Gm), Yl, Yn, Yo, Ym, (⟨Yp, Yq, Yr⟩ : Gv)⟩ : Gb) Y4) Y9).1.Sp).map Gs.c), .f .f32 ((Zd (⟨(⟨Y8, Yi⟩ : Gm), Yl, Yn, Yo, Ym, (⟨Yp, Yq, Yr⟩ : Gv)⟩ : Gb) (Ze (⟨(⟨Y8, Yi⟩ : Gm), Yl, Yn, Yo, Ym, (⟨Yp, Yq, Yr⟩ : Gv)⟩ : Gb) Y4) Y9).1.Film), .f .f32 ((Zd (⟨(⟨Y8, Yi⟩ : Gm), Yl, Yn, Yo, Ym, (⟨Yp, Yq, Yr⟩ : Gv)⟩ : Gb) (Ze (⟨(⟨Y8, Yi⟩ : Gm), Yl, Yn, Yo, Ym, (⟨Yp, Yq, Yr⟩ : Gv)⟩ : Gb) Y4) Y9).1.Bend), .sl (((Zd (⟨(⟨Y8, Yi⟩ : Gm), Yl, Yn, Yo, Ym, (⟨Yp, Yq, Yr⟩ : Gv)⟩ : Gb) (Ze (⟨(⟨Y8, Yi⟩ : Gm), Yl, Yn, Yo, Ym, (⟨Yp, Yq, Yr⟩ : Gv)⟩ : Gb) Y4) Y9).1.We).map (cF .f32)), .f .f32 ((Zd (⟨(⟨Y8, Yi⟩ : Gm), Yl, Yn, Yo, Ym, (⟨Yp, Yq, Yr⟩ : Gv)⟩ : Gb) (Ze (⟨(⟨Y8, Yi⟩ : Gm), Yl, Yn, Yo, Ym, (⟨Yp, Yq, Yr⟩ : Gv)⟩ : Gb) Y4) Y9).1.Fall.X), .f .f32 ((Zd (⟨(⟨Y8, Yi⟩ : Gm), Yl, Yn, Yo, Ym, (⟨Yp, Yq, Yr⟩ : Gv)⟩ : Gb) (Ze (⟨(⟨Y8, Yi⟩ : Gm), Yl, Yn, Yo, Ym, (⟨Yp, Yq, Yr⟩ : Gv)⟩ : Gb) Y4) Y9).1.Fall.Y), .f .f32 ((Zd (⟨(⟨Y8, Yi⟩ : Gm), Yl, Yn, Yo, Ym, (⟨Yp, Yq, Yr⟩ : Gv)⟩ : Gb) (Ze (⟨(⟨Y8, Yi⟩ : Gm), Yl, Yn, Yo, Ym, (⟨Yp, Yq, Yr⟩ : Gv)⟩ : Gb) Y4) Y9).1.Fall.Z)] 0]) (Z67 ((Zd (⟨(⟨Y8, Yi⟩ : Gm), Yl, Yn, Yo, Ym, (⟨Yp, Yq, Yr⟩ : Gv)⟩ : Gb) (Ze (⟨(⟨Y8, Yi⟩ : Gm), Yl, Yn, Yo, Ym, (⟨Yp, Yq, Yr⟩ : Gv)⟩ : Gb) Y4) Y9).1) y_9 Y1c Y1j Y1m Y1n Y1t) (by simp [cL, Function.comp_def]; rfl)) <| sC (show (Y13.map (cF .f32)).length + ([[.f .f32 (ZD ((Zd (⟨(⟨Y8, Yi⟩ : Gm), Yl, Yn, Yo, Ym, (⟨Yp, Yq, Yr⟩ : Gv)⟩ : Gb) (Ze (⟨(⟨Y8, Yi⟩ : Gm), Yl, Yn, Yo, Ym, (⟨Yp, Yq, Yr⟩ : Gv)⟩ : Gb) Y4) Y9).1))]] : List (List AV)).length ≤ 1073741824 from (by simpa using Y1u)) <| sI (YQ - 1) Y1v Y1w <| sN)) (by kernel_rfl) (by simp [Z83, cF]) (ih (YQ - 1) ((Zd (⟨(⟨Y8, Yi⟩ : Gm), Yl, Yn, Yo, Ym, (⟨Yp, Yq, Yr⟩ : Gv)⟩ : Gb) (Ze (⟨(⟨Y8, Yi⟩ : Gm), Yl, Yn, Yo, Ym, (⟨Yp, Yq, Yr⟩ : Gv)⟩ : Gb) Y4) Y9).1.Me.Pq) ((Zd (⟨(⟨Y8, Yi⟩ : Gm), Yl, Yn, Yo, Ym, (⟨Yp, Yq, Yr⟩ : Gv)⟩ : Gb) (Ze (⟨(⟨Y8, Yi⟩ : Gm), Yl, Yn, Yo, Ym, (⟨Yp, Yq, Yr⟩ : Gv)⟩ : Gb) Y4) Y9).1.Me.Tr) ((Zd (⟨(⟨Y8, Yi⟩ : Gm), Yl, Yn, Yo, Ym, (⟨Yp, Yq, Yr⟩ : Gv)⟩ : Gb) (Ze (⟨(⟨Y8, Yi⟩ : Gm), Yl, Yn, Yo, Ym, (⟨Yp, Yq, Yr⟩ : Gv)⟩ : Gb) Y4) Y9).1.Sp) ((Zd (⟨(⟨Y8, Yi⟩ : Gm), Yl, Yn, Yo, Ym, (⟨Yp, Yq, Yr⟩ : Gv)⟩ : Gb) (Ze (⟨(⟨Y8, Yi⟩ : Gm), Yl, Yn, Yo, Ym, (⟨Yp, Yq, Yr⟩ : Gv)⟩ : Gb) Y4) Y9).1.We) ((Zd (⟨(⟨Y8, Yi⟩ : Gm), Yl, Yn, Yo, Ym, (⟨Yp, Yq, Yr⟩ : Gv)⟩ : Gb) (Ze (⟨(⟨Y8, Yi⟩ : Gm), Yl, Yn, Yo, Ym, (⟨Yp, Yq, Yr⟩ : Gv)⟩ : Gb) Y4) Y9).1.Film) ((Zd (⟨(⟨Y8, Yi⟩ : Gm), Yl, Yn, Yo, Ym, (⟨Yp, Yq, Yr⟩ : Gv)⟩ : Gb) (Ze (⟨(⟨Y8, Yi⟩ : Gm), Yl, Yn, Yo, Ym, (⟨Yp, Yq, Yr⟩ : Gv)⟩ : Gb) Y4) Y9).1.Bend) ((Zd (⟨(⟨Y8, Yi⟩ : Gm), Yl, Yn, Yo, Ym, (⟨Yp, Yq, Yr⟩ : Gv)⟩ : Gb) (Ze (⟨(⟨Y8, Yi⟩ : Gm), Yl, Yn, Yo, Ym, (⟨Yp, Yq, Yr⟩ : Gv)⟩ : Gb) Y4) Y9).1.Fall.X) ((Zd (⟨(⟨Y8, Yi⟩ : Gm), Yl, Yn, Yo, Ym, (⟨Yp, Yq, Yr⟩ : Gv)⟩ : Gb) (Ze (⟨(⟨Y8, Yi⟩ : Gm), Yl, Yn, Yo, Ym, (⟨Yp, Yq, Yr⟩ : Gv)⟩ : Gb) Y4) Y9).1.Fall.Y) ((Zd (⟨(⟨Y8, Yi⟩ : Gm), Yl, Yn, Yo, Ym, (⟨Yp, Yq, Yr⟩ : Gv)⟩ : Gb) (Ze (⟨(⟨Y8, Yi⟩ : Gm), Yl, Yn, Yo, Ym, (⟨Yp, Yq, Yr⟩ : Gv)⟩ : Gb) Y4) Y9).1.Fall.Z) (Y13 ++ [(ZD ((Zd (⟨(⟨Y8, Yi⟩ : Gm), Yl, Yn, Yo, Ym, (⟨Yp, Yq, Yr⟩ : Gv)⟩ : Gb) (Ze (⟨(⟨Y8, Yi⟩ : Gm), Yl, Yn, Yo, Ym, (⟨Yp, Yq, Yr⟩ : Gv)⟩ : Gb) Y4) Y9).1))]) (show 0 ≤ (YQ - 1) from (by omega)) (show Like Y2 (⟨(⟨((Zd (⟨(⟨Y8, Yi⟩ : Gm), Yl, Yn, Yo, Ym, (⟨Yp, Yq, Yr⟩ : Gv)⟩ : Gb) (Ze (⟨(⟨Y8, Yi⟩ : Gm), Yl, Yn, Yo, Ym, (⟨Yp, Yq, Yr⟩ : Gv)⟩ : Gb) Y4) Y9).1.Me.Pq), ((Zd (⟨(⟨Y8, Yi⟩ : Gm), Yl, Yn, Yo, Ym, (⟨Yp, Yq, Yr⟩ : Gv)⟩ : Gb) (Ze (⟨(⟨Y8, Yi⟩ : Gm), Yl, Yn, Yo, Ym, (⟨Yp, Yq, Yr⟩ : Gv)⟩ : Gb) Y4) Y9).1.Me.Tr)⟩ : Gm), ((Zd (⟨(⟨Y8, Yi⟩ : Gm), Yl, Yn, Yo, Ym, (⟨Yp, Yq, Yr⟩ : Gv)⟩ : Gb) (Ze (⟨(⟨Y8, Yi⟩ : Gm), Yl, Yn, Yo, Ym, (⟨Yp, Yq, Yr⟩ : Gv)⟩ : Gb) Y4) Y9).1.Sp), ((Zd (⟨(⟨Y8, Yi⟩ : Gm), Yl, Yn, Yo, Ym, (⟨Yp, Yq, Yr⟩ : Gv)⟩ : Gb) (Ze (⟨(⟨Y8, Yi⟩ : Gm), Yl, Yn, Yo, Ym, (⟨Yp, Yq, Yr⟩ : Gv)⟩ : Gb) Y4) Y9).1.Film), ((Zd (⟨(⟨Y8, Yi⟩ : Gm), Yl, Yn, Yo, Ym, (⟨Yp, Yq, Yr⟩ : Gv)⟩ : Gb) (Ze (⟨(⟨Y8, Yi⟩ : Gm), Yl, Yn, Yo, Ym, (⟨Yp, Yq, Yr⟩ : Gv)⟩ : Gb) Y4) Y9).1.Bend), ((Zd (⟨(⟨Y8, Yi⟩ : Gm), Yl, Yn, Yo, Ym, (⟨Yp, Yq, Yr⟩ : Gv)⟩ : Gb) (Ze (⟨(⟨Y8, Yi⟩ : Gm), Yl, Yn, Yo, Ym, (⟨Yp, Yq, Yr⟩ : Gv)⟩ : Gb) Y4) Y9).1.We), (⟨((Zd (⟨(⟨Y8, Yi⟩ : Gm), Yl, Yn, Yo, Ym, (⟨Yp, Yq, Yr⟩ : Gv)⟩ : Gb) (Ze (⟨(⟨Y8, Yi⟩ : Gm), Yl, Yn, Yo, Ym, (⟨Yp, Yq, Yr⟩ : Gv)⟩ : Gb) Y4) Y9).1.Fall.X), ((Zd (⟨(⟨Y8, Yi⟩ : Gm), Yl, Yn, Yo, Ym, (⟨Yp, Yq, Yr⟩ : Gv)⟩ : Gb) (Ze (⟨(⟨Y8, Yi⟩ : Gm), Yl, Yn, Yo, Ym, (⟨Yp, Yq, Yr⟩ : Gv)⟩ : Gb) Y4) Y9).1.Fall.Y), ((Zd (⟨(⟨Y8, Yi⟩ : Gm), Yl, Yn, Yo, Ym, (⟨Yp, Yq, Yr⟩ : Gv)⟩ : Gb) (Ze (⟨(⟨Y8, Yi⟩ : Gm), Yl, Yn, Yo, Ym, (⟨Yp, Yq, Yr⟩ : Gv)⟩ : Gb) Y4) Y9).1.Fall.Z)⟩ : Gv)⟩ : Gb) from (by with_reducible exact Ze2 (Z9U (by with_reducible assumption) _ _))) (show ((Y13 ++ [(ZD ((Zd (⟨(⟨Y8, Yi⟩ : Gm), Yl, Yn, Yo, Ym, (⟨Yp, Yq, Yr⟩ : Gv)⟩ : Gb) (Ze (⟨(⟨Y8, Yi⟩ : Gm), Yl, Yn, Yo, Ym, (⟨Yp, Yq, Yr⟩ : Gv)⟩ : Gb) Y4) Y9).1))]).length : Int) + (YQ - 1) ≤ Yc + 1 from (by simp; omega)) (by omega))
   | false =>
    have e : Z1Z Y2 Y4 Y9 Yc (k + 1) YQ Y8 Yi Yl Ym Yn Yo Yp Yq Yr Y13 = (Yn, Yo, Yp, Yq, Yr, Y13, Y8, Yi, Yl, Ym) := by simp only [Z1Z, Yj, YJ, cond_true, cond_false]
    rw [e]
    exact outR (e := (.exit 0)) E0Ok Z5 [] (mR false [0, 1, 7, 4, 3, 1, 1, 2, 22]) [0, 5, 6, 1, 2, 3, 4] (p (sB' YJ <| sN)) (by kernel_rfl) (by intro h; cases h)
  | false =>
   have YM := odf Yj
   have e : Z1Z Y2 Y4 Y9 Yc (k + 1) YQ Y8 Yi Yl Ym Yn Yo Yp Yq Yr Y13 = (Yn, Yo, Yp, Yq, Yr, Y13, Y8, Yi, Yl, Ym) := by simp only [Z1Z, Yj, cond_false]
   rw [e]
   exact outR (e := (.exit 0)) E0Ok Z5 [] (mR false [0, 1, 7, 4, 3, 1, 1, 2, 22]) [0, 5, 6, 1, 2, 3, 4] (sB Yj <| sN) (by kernel_rfl) (by intro h; cases h)
def ZP (Y2 : Gb) (Y4 : (List Int)) (Y9 : Nat) (Yc : Int) : Nat × Nat × Nat × Nat × Nat × (List Nat) × (List Gv) × (List (List Int)) × (List Gs) × (List Nat) := (Z1Z Y2 Y4 Y9 Yc (Yc.toNat + 1) Yc Y2.Me.Pq Y2.Me.Tr Y2.Sp Y2.We Y2.Film Y2.Bend Y2.Fall.X Y2.Fall.Y Y2.Fall.Z ([(ZD Y2)]))
def ZC (Y2 : Gb) (Y4 : (List Int)) (Y9 : Nat) (Yc : Int) : Gb × (List Nat) := ((⟨(⟨(ZP Y2 Y4 Y9 Yc).2.2.2.2.2.2.1, (ZP Y2 Y4 Y9 Yc).2.2.2.2.2.2.2.1⟩ : Gm), (ZP Y2 Y4 Y9 Yc).2.2.2.2.2.2.2.2.1, (ZP Y2 Y4 Y9 Yc).1, (ZP Y2 Y4 Y9 Yc).2.1, (ZP Y2 Y4 Y9 Yc).2.2.2.2.2.2.2.2.2, (⟨(ZP Y2 Y4 Y9 Yc).2.2.1, (ZP Y2 Y4 Y9 Yc).2.2.2.1, (ZP Y2 Y4 Y9 Yc).2.2.2.2.1⟩ : Gv)⟩ : Gb), (ZP Y2 Y4 Y9 Yc).2.2.2.2.2.1)
theorem Zi7 (b : Gb) (l : List Int) (s : Nat) (n : Int) : ∀ (k : Nat) (y : Int) P T S W f d x1 x2 x3 E, y.toNat < k → Like b ⟨⟨P, T⟩, S, f, d, W, ⟨x1, x2, x3⟩⟩ → ∀ r, Z1Z b l s n k y P T S W f d x1 x2 x3 E = r →
    Like b ⟨⟨r.2.2.2.2.2.2.1, r.2.2.2.2.2.2.2.1⟩, r.2.2.2.2.2.2.2.2.1, r.1, r.2.1, r.2.2.2.2.2.2.2.2.2, ⟨r.2.2.1, r.2.2.2.1, r.2.2.2.2.1⟩⟩ ∧ r.2.2.2.2.2.1.length ≤ E.length + y.toNat := by
  intro k
  induction k with
  | zero => intro y P T S W f d x1 x2 x3 E hk; exact absurd hk (Nat.not_lt_zero _)
  | succ k ih =>
    intro y P T S W f d x1 x2 x3 E hk hL r e
    rw [Z1Z] at e
    cases h1 : decide (y > 0) with
    | false => rw [h1, cond_false] at e; subst e; exact ⟨hL, Nat.le_add_right _ _⟩
    | true =>
      have hy := odt h1
      rw [h1, cond_true] at e
      cases h2 : (Zd (⟨(⟨P, T⟩ : Gm), S, f, d, W, (⟨x1, x2, x3⟩ : Gv)⟩ : Gb) (Ze (⟨(⟨P, T⟩ : Gm), S, f, d, W, (⟨x1, x2, x3⟩ : Gv)⟩ : Gb) l) s).2.2 with
      | false => rw [h2, cond_false] at e; subst e; exact ⟨hL, Nat.le_add_right _ _⟩
      | true =>
        rw [h2, cond_true] at e
        have := ih _ _ _ _ _ _ _ _ _ _ _ (by omega) (Ze2 (Z9U hL _ _)) r e
        refine ⟨this.1, Nat.le_trans this.2 ?_⟩
        rw [List.length_append]; simp only [List.length_cons, List.length_nil]; omega
theorem Zce (b : Gb) (l : List Int) (s : Nat) (n : Int) : Like b (ZC b l s n).1 ∧ (ZC b l s n).2.length ≤ 1 + n.toNat := Zi7 b l s n _ _ _ _ _ _ _ _ _ _ _ _ (Nat.lt_succ_self _) ⟨rfl, rfl, rfl, rfl⟩ _ rfl
theorem ZbC (b : Gb) (l : List Int) (s : Nat) (n : Int) : (ZC b l s n).1.Me.Pq.length ≤ b.Me.Pq.length := Nat.le_of_eq (Z48 (Zce b l s n).1).1
theorem ZbD (b : Gb) (l : List Int) (s : Nat) (n : Int) : (ZC b l s n).1.Me.Tr.length ≤ b.Me.Tr.length := Nat.le_of_eq (Z48 (Zce b l s n).1).2.1
theorem ZbE (b : Gb) (l : List Int) (s : Nat) (n : Int) : (ZC b l s n).1.We.length ≤ b.We.length := Nat.le_of_eq (Z48 (Zce b l s n).1).2.2.2
theorem ZbF (b : Gb) (l : List Int) (s : Nat) (n : Int) : (ZC b l s n).1.Sp.length ≤ b.Sp.length := Nat.le_of_eq (Z48 (Zce b l s n).1).2.2.1
theorem ZbG (b : Gb) (l : List Int) (s : Nat) (n : Int) : (ZC b l s n).2.length ≤ 1 + n.toNat := (Zce b l s n).2
theorem Zfn (b : Gb) (l : List Int) (s : Nat) (n : Int) : ∀ t ∈ (ZC b l s n).1.Me.Tr, t ∈ b.Me.Tr := by rw [(Zce b l s n).1.2.1]; exact fun t ht => ht
theorem Zgj (Y2 : Gb) (Y4 : (List Int)) (Y9 : Nat) (Yc : Int) (hp0 : Y2.Me.Pq.length ≤ 1073741824) (hp1 : Y2.Me.Tr.length ≤ 1073741824) (hp2 : ∀ t ∈ Y2.Me.Tr, t.length ≤ 1073741824) (hp3 : Y2.Sp.length ≤ 1073741824) (hp4 : Y2.We.length ≤ 1073741824) (hp5 : Y4.length ≤ 1073741824) (hp6 : OkBd Y2) (hp7 : OkIx Y2.Me.Pq.length (fun x => x) Y4) (hp8 : 0 ≤ Yc) (hp9 : Yc ≤ 40)  : Fn prog 82 [.ref (Gb.c Y2) 0, .sl (Y4.map (cI .i64)), .f .f32 Y9, .i .i64 Yc] (.tup [.agg [.own 0, .own 1, .own 2, .f .f32 ((ZC Y2 Y4 Y9 Yc).1.Film), .f .f32 ((ZC Y2 Y4 Y9 Yc).1.Bend), .own 3, .f .f32 ((ZC Y2 Y4 Y9 Yc).1.Fall.X), .f .f32 ((ZC Y2 Y4 Y9 Yc).1.Fall.Y), .f .f32 ((ZC Y2 Y4 Y9 Yc).1.Fall.Z)], .own 4]) [.vec 40 3 (((ZC Y2 Y4 Y9 Yc).1.Me.Pq).map Gv.c) false, .nest 49 (((ZC Y2 Y4 Y9 Yc).1.Me.Tr).map fun l => l.map (cI .i64)) false, .vec 133 4 (((ZC Y2 Y4 Y9 Yc).1.Sp).map Gs.c) false, .vec 27 1 (((ZC Y2 Y4 Y9 Yc).1.We).map (cF .f32)) false, .vec 27 1 (((ZC Y2 Y4 Y9 Yc).2).map (cF .f32)) false] := by
 refine fnS E0Ok Z5 (c := bodyOf f82) [] (.tup [.agg [.own 0, .own 1, .own 2, .f .f32 ((ZP Y2 Y4 Y9 Yc).1), .f .f32 ((ZP Y2 Y4 Y9 Yc).2.1), .own 3, .f .f32 ((ZP Y2 Y4 Y9 Yc).2.2.1), .f .f32 ((ZP Y2 Y4 Y9 Yc).2.2.2.1), .f .f32 ((ZP Y2 Y4 Y9 Yc).2.2.2.2.1)], .own 4]) [.vec 40 3 (((ZP Y2 Y4 Y9 Yc).2.2.2.2.2.2.1).map Gv.c) false, .nest 49 (((ZP Y2 Y4 Y9 Yc).2.2.2.2.2.2.2.1).map fun l => l.map (cI .i64)) false, .vec 133 4 (((ZP Y2 Y4 Y9 Yc).2.2.2.2.2.2.2.2.1).map Gs.c) false, .vec 27 1 (((ZP Y2 Y4 Y9 Yc).2.2.2.2.2.2.2.2.2).map (cF .f32)) false, .vec 27 1 (((ZP Y2 Y4 Y9 Yc).2.2.2.2.2.1).map (cF .f32)) false] func82 (sF (Zaw Y2 hp0 hp1 hp2 hp3 hp4) <| sF (Z67 Y2 hp0 hp1 hp2 hp3 hp4 hp6) <| sL (mR false [0, 4, 4, 4, 3, 1, 1, 2, 22]) 7 (lp_cast (st2 := ⟨.ref (Gb.c Y2) 0 :: .sl (Y4.map (cI .i64)) :: .f .f32 Y9 :: .i .i64 Yc :: an 4 (.ptr 0 0 0 :: .nils :: .ptr 5 0 0 :: .own 6 :: .any :: .any :: .any :: .ref (Gb.c Y2) 0 :: .any :: .ref (Gb.c Y2) 0 :: .f .f32 (ZD Y2) :: an 22 []), [.box 42 [.nils, .nils, .nils, .f .f32 0, .f .f32 0, .nils, .f .f32 0, .f .f32 0, .f .f32 0], .vec 40 3 (Y2.Me.Pq.map Gv.c) false, .nest 49 (Y2.Me.Tr.map fun l => l.map (cI .i64)) false, .vec 133 4 (Y2.Sp.map Gs.c) false, .vec 27 1 (Y2.We.map (cF .f32)) false, .box 42 [.own 1, .own 2, .own 3, .f .f32 Y2.Film, .f .f32 Y2.Bend, .own 4, .f .f32 Y2.Fall.X, .f .f32 Y2.Fall.Y, .f .f32 Y2.Fall.Z], .vec 27 1 ([[.f .f32 (ZD Y2)]] : List (List AV)) false]⟩) (lp_val (Z82 Y2 Y4 Y9 Yc) (x := (ZP Y2 Y4 Y9 Yc)) (ZeQ Y2 Y4 Y9 Yc hp0 hp1 hp2 hp3 hp4 hp5 hp6 hp7 hp8 hp9 (Yc.toNat + 1) Yc Y2.Me.Pq Y2.Me.Tr Y2.Sp Y2.We Y2.Film Y2.Bend Y2.Fall.X Y2.Fall.Y Y2.Fall.Z ([(ZD Y2)]) (show 0 ≤ Yc from (by omega)) (show Like Y2 (⟨(⟨Y2.Me.Pq, Y2.Me.Tr⟩ : Gm), Y2.Sp, Y2.Film, Y2.Bend, Y2.We, (⟨Y2.Fall.X, Y2.Fall.Y, Y2.Fall.Z⟩ : Gv)⟩ : Gb) from (by exact ⟨rfl, rfl, rfl, rfl⟩)) (show (([(ZD Y2)]).length : Int) + Yc ≤ Yc + 1 from (by simp; omega)) (Nat.lt_succ_self _)) rfl) (by simp [Z83, cF])) <| sK [3, 4, 5, 6, 2] sN) rfl (by kernel_rfl) (by kernel_rfl) rfl ?_ ?_
 · rfl
 · simp [ZC]
theorem in40 {n : Int} (h : Zz n 0 40 = true) : 0 ≤ n ∧ n ≤ 40 := by
  unfold Zz at h
  by_cases h1 : n ≥ 0 <;> simp [h1] at h
  omega
def Z7 (Y2 : Gb) (Y4 : (List Int)) (Y9 : Nat) (Yc : Int) : Gb × (List Nat) × Bool := (cond (Z1K Y2)
  (cond (Z40 Y2 Y4)
    (cond (Z3P Y9)
      (cond (Zz Yc 0 40)
        ((ZC Y2 Y4 Y9 Yc).1, (ZC Y2 Y4 Y9 Yc).2, true)
        ((⟨(⟨([] : List Gv), ([] : List (List Int))⟩ : Gm), ([] : List Gs), 0, 0, ([] : List Nat), (⟨0, 0, 0⟩ : Gv)⟩ : Gb), ([] : List Nat), false))
      ((⟨(⟨([] : List Gv), ([] : List (List Int))⟩ : Gm), ([] : List Gs), 0, 0, ([] : List Nat), (⟨0, 0, 0⟩ : Gv)⟩ : Gb), ([] : List Nat), false))
    ((⟨(⟨([] : List Gv), ([] : List (List Int))⟩ : Gm), ([] : List Gs), 0, 0, ([] : List Nat), (⟨0, 0, 0⟩ : Gv)⟩ : Gb), ([] : List Nat), false))
  ((⟨(⟨([] : List Gv), ([] : List (List Int))⟩ : Gm), ([] : List Gs), 0, 0, ([] : List Nat), (⟨0, 0, 0⟩ : Gv)⟩ : Gb), ([] : List Nat), false))
theorem Z5L (b : Gb) (l : List Int) (s : Nat) (n : Int) : (Z7 b l s n = ((⟨(⟨([] : List Gv), ([] : List (List Int))⟩ : Gm), ([] : List Gs), 0, 0, ([] : List Nat), (⟨0, 0, 0⟩ : Gv)⟩ : Gb), ([] : List Nat), false)) ∨ (n ≤ 40 ∧ Z7 b l s n = ((ZC b l s n).1, (ZC b l s n).2, true)) := by
  unfold Z7
  cases Z1K b with
  | false => left; rfl
  | true =>
    cases Z40 b l with
    | false => left; rfl
    | true =>
      cases Z3P s with
      | false => left; rfl
      | true =>
        cases h : Zz n 0 40 with
        | false => left; rfl
        | true => right; simp only [cond_true]; exact ⟨(in40 h).2, trivial⟩
theorem Zba (b : Gb) (l : List Int) (s : Nat) (n : Int) : (Z7 b l s n).1.Me.Pq.length ≤ b.Me.Pq.length := by
  rcases Z5L b l s n with e | ⟨_, e⟩ <;> rw [e]
  · exact Nat.zero_le _
  · exact ZbC b l s n
theorem Zbb (b : Gb) (l : List Int) (s : Nat) (n : Int) : (Z7 b l s n).1.Me.Tr.length ≤ b.Me.Tr.length := by
  rcases Z5L b l s n with e | ⟨_, e⟩ <;> rw [e]
  · exact Nat.zero_le _
  · exact ZbD b l s n
theorem Zbc (b : Gb) (l : List Int) (s : Nat) (n : Int) : (Z7 b l s n).1.We.length ≤ b.We.length := by
  rcases Z5L b l s n with e | ⟨_, e⟩ <;> rw [e]
  · exact Nat.zero_le _
  · exact ZbE b l s n
theorem Zbd (b : Gb) (l : List Int) (s : Nat) (n : Int) : (Z7 b l s n).1.Sp.length ≤ b.Sp.length := by
  rcases Z5L b l s n with e | ⟨_, e⟩ <;> rw [e]
  · exact Nat.zero_le _
  · exact ZbF b l s n
theorem Zbe (b : Gb) (l : List Int) (s : Nat) (n : Int) : ∀ t ∈ (Z7 b l s n).1.Me.Tr, t ∈ b.Me.Tr := by
  rcases Z5L b l s n with e | ⟨_, e⟩ <;> rw [e]
  · intro t ht; cases ht
  · exact Zfn b l s n
theorem Zbf (b : Gb) (l : List Int) (s : Nat) (n : Int) : (Z7 b l s n).2.1.length ≤ 41 := by
  rcases Z5L b l s n with e | ⟨h, e⟩ <;> rw [e]
  · exact Nat.zero_le _
  · exact Nat.le_trans (ZbG b l s n) (by omega)
theorem ZfF (Y2 : Gb) (Y4 : (List Int)) (Y9 : Nat) (Yc : Int) (hp0 : Y2.Me.Pq.length ≤ 1073741824) (hp1 : Y2.Me.Tr.length ≤ 1073741824) (hp2 : ∀ t ∈ Y2.Me.Tr, t.length ≤ 1073741824) (hp3 : Y2.Sp.length ≤ 1073741824) (hp4 : Y2.We.length ≤ 1073741824) (hp5 : Y4.length ≤ 1073741824)  : Fn prog 38 [.agg [.sl (Y2.Me.Pq.map Gv.c), .sl (Y2.Me.Tr.map (cL (cI .i64))), .sl (Y2.Sp.map Gs.c), .f .f32 Y2.Film, .f .f32 Y2.Bend, .sl (Y2.We.map (cF .f32)), .f .f32 Y2.Fall.X, .f .f32 Y2.Fall.Y, .f .f32 Y2.Fall.Z], .sl (Y4.map (cI .i64)), .f .f32 Y9, .i .i64 Yc] (.tup [.agg [.own 0, .own 1, .own 2, .f .f32 ((Z7 Y2 Y4 Y9 Yc).1.Film), .f .f32 ((Z7 Y2 Y4 Y9 Yc).1.Bend), .own 3, .f .f32 ((Z7 Y2 Y4 Y9 Yc).1.Fall.X), .f .f32 ((Z7 Y2 Y4 Y9 Yc).1.Fall.Y), .f .f32 ((Z7 Y2 Y4 Y9 Yc).1.Fall.Z)], .own 4, .b ((Z7 Y2 Y4 Y9 Yc).2.2)]) [.vec 40 3 (((Z7 Y2 Y4 Y9 Yc).1.Me.Pq).map Gv.c) false, .nest 49 (((Z7 Y2 Y4 Y9 Yc).1.Me.Tr).map fun l => l.map (cI .i64)) false, .vec 133 4 (((Z7 Y2 Y4 Y9 Yc).1.Sp).map Gs.c) false, .vec 27 1 (((Z7 Y2 Y4 Y9 Yc).1.We).map (cF .f32)) false, .vec 27 1 (((Z7 Y2 Y4 Y9 Yc).2.1).map (cF .f32)) false] := by
 have p {a C} (s : Scr a C) := sF (ZgA Y2 hp0 hp1 hp2 hp3 hp4) <| s
 cases h0 : (Z1K Y2) with
 | true =>
  have q {a C} (s : Scr a C) := p (sB' h0 <| sB' h0 <| sF (ZfC Y2 Y4 hp0 hp1 hp2 hp3 hp4 hp5) <| sB' h0 <| sB' h0 <| s)
  clear p
  cases h1 : (Z40 Y2 Y4) with
  | true =>
   have p {a C} (s : Scr a C) := q (sB' h1 <| sB' h1 <| sF (Zdt Y9) <| sB' h1 <| sB' h1 <| s)
   clear q
   cases h2 : (Z3P Y9) with
   | true =>
    have q {a C} (s : Scr a C) := p (sB' h2 <| sB' h2 <| sF (Z5i Yc 0 40) <| sB' h2 <| sB' h2 <| s)
    clear p
    cases h3 : (Zz Yc 0 40) with
    | true =>
     have y0 : OkBd Y2 := by clear q; exact (by exact Z9S _ (by assumption))
     have y1 : OkIx Y2.Me.Pq.length (fun x => x) Y4 := by clear q; exact (by exact Zh4 _ _ (by assumption) (by assumption))
     have y2 : 0 ≤ Yc := by clear q; exact (by exact (in40 (by assumption)).1)
     have y3 : Yc ≤ 40 := by clear q; exact (by exact (in40 (by assumption)).2)
     have l1 := (ZbC Y2 Y4 Y9 Yc)
     have l2 := (ZbD Y2 Y4 Y9 Yc)
     have l3 := (ZbE Y2 Y4 Y9 Yc)
     have l4 := (ZbF Y2 Y4 Y9 Yc)
     have l5 := (ZbG Y2 Y4 Y9 Yc)
     refine fnS E0Ok Z5 (c := bodyOf f38) [] (.tup [.agg [.own 0, .own 1, .own 2, .f .f32 ((ZC Y2 Y4 Y9 Yc).1.Film), .f .f32 ((ZC Y2 Y4 Y9 Yc).1.Bend), .own 3, .f .f32 ((ZC Y2 Y4 Y9 Yc).1.Fall.X), .f .f32 ((ZC Y2 Y4 Y9 Yc).1.Fall.Y), .f .f32 ((ZC Y2 Y4 Y9 Yc).1.Fall.Z)], .own 4, .b true]) [.vec 40 3 (((ZC Y2 Y4 Y9 Yc).1.Me.Pq).map Gv.c) false, .nest 49 (((ZC Y2 Y4 Y9 Yc).1.Me.Tr).map fun l => l.map (cI .i64)) false, .vec 133 4 (((ZC Y2 Y4 Y9 Yc).1.Sp).map Gs.c) false, .vec 27 1 (((ZC Y2 Y4 Y9 Yc).1.We).map (cF .f32)) false, .vec 27 1 (((ZC Y2 Y4 Y9 Yc).2).map (cF .f32)) false] func38 (q (sB' h3 <| sF (Zgj Y2 Y4 Y9 Yc hp0 hp1 hp2 hp3 hp4 hp5 y0 y1 y2 y3) <| sK [2, 3, 4, 5, 6] sN)) rfl (by kernel_rfl) (by kernel_rfl) rfl ?_ ?_
     · simp only [Z7, h0, h1, h2, h3, cond_true]
     · simp [Z7, h0, h1, h2, h3]
    | false =>
     refine fnS E0Ok Z5 (c := bodyOf f38) [(.row 1 0, .vec 40 3 [] false), (.row 1 1, .nest 49 [] false), (.row 1 2, .vec 133 4 [] false), (.row 1 5, .vec 27 1 [] false), (.tm 9, .vec 27 1 [] false)] (.tup [.agg [.own 0, .own 1, .own 2, .f .f32 0, .f .f32 0, .own 3, .f .f32 0, .f .f32 0, .f .f32 0], .own 4, .b false]) [.vec 40 3 [] false, .nest 49 [] false, .vec 133 4 [] false, .vec 27 1 [] false, .vec 27 1 [] false] func38 (q (sB' h3 <| sK [2, 3, 4, 5, 6] sN)) rfl (by kernel_rfl) (by kernel_rfl) rfl ?_ ?_
     · simp only [Z7, h0, h1, h2, h3, cond_true, cond_false]
     · simp [Z7, h0, h1, h2, h3, Gv.c, cL, cI, Gs.c, cF]
   | false =>
    refine fnS E0Ok Z5 (c := bodyOf f38) [(.row 1 0, .vec 40 3 [] false), (.row 1 1, .nest 49 [] false), (.row 1 2, .vec 133 4 [] false), (.row 1 5, .vec 27 1 [] false), (.tm 9, .vec 27 1 [] false)] (.tup [.agg [.own 0, .own 1, .own 2, .f .f32 0, .f .f32 0, .own 3, .f .f32 0, .f .f32 0, .f .f32 0], .own 4, .b false]) [.vec 40 3 [] false, .nest 49 [] false, .vec 133 4 [] false, .vec 27 1 [] false, .vec 27 1 [] false] func38 (p (sB' h2 <| sB' h2 <| sB' h2 <| sB' h2 <| sB (show true = true from rfl) <| sK [2, 3, 4, 5, 6] sN)) rfl (by kernel_rfl) (by kernel_rfl) rfl ?_ ?_
    · simp only [Z7, h0, h1, h2, cond_true, cond_false]
    · simp [Z7, h0, h1, h2, Gv.c, cL, cI, Gs.c, cF]
  | false =>
   refine fnS E0Ok Z5 (c := bodyOf f38) [(.row 1 0, .vec 40 3 [] false), (.row 1 1, .nest 49 [] false), (.row 1 2, .vec 133 4 [] false), (.row 1 5, .vec 27 1 [] false), (.tm 9, .vec 27 1 [] false)] (.tup [.agg [.own 0, .own 1, .own 2, .f .f32 0, .f .f32 0, .own 3, .f .f32 0, .f .f32 0, .f .f32 0], .own 4, .b false]) [.vec 40 3 [] false, .nest 49 [] false, .vec 133 4 [] false, .vec 27 1 [] false, .vec 27 1 [] false] func38 (q (sB' h1 <| sB' h1 <| sB' h1 <| sB' h1 <| sB (show true = true from rfl) <| sB (show true = true from rfl) <| sB (show true = true from rfl) <| sB (show true = true from rfl) <| sB (show true = true from rfl) <| sK [2, 3, 4, 5, 6] sN)) rfl (by kernel_rfl) (by kernel_rfl) rfl ?_ ?_
   · simp only [Z7, h0, h1, cond_true, cond_false]
   · simp [Z7, h0, h1, Gv.c, cL, cI, Gs.c, cF]
 | false =>
  refine fnS E0Ok Z5 (c := bodyOf f38) [(.row 1 0, .vec 40 3 [] false), (.row 1 1, .nest 49 [] false), (.row 1 2, .vec 133 4 [] false), (.row 1 5, .vec 27 1 [] false), (.tm 9, .vec 27 1 [] false)] (.tup [.agg [.own 0, .own 1, .own 2, .f .f32 0, .f .f32 0, .own 3, .f .f32 0, .f .f32 0, .f .f32 0], .own 4, .b false]) [.vec 40 3 [] false, .nest 49 [] false, .vec 133 4 [] false, .vec 27 1 [] false, .vec 27 1 [] false] func38 (p (sB' h0 <| sB' h0 <| sB' h0 <| sB' h0 <| sB (show true = true from rfl) <| sB (show true = true from rfl) <| sB (show true = true from rfl) <| sB (show true = true from rfl) <| sB (show true = true from rfl) <| sB (show true = true from rfl) <| sB (show true = true from rfl) <| sB (show true = true from rfl) <| sB (show true = true from rfl) <| sK [2, 3, 4, 5, 6] sN)) rfl (by kernel_rfl) (by kernel_rfl) rfl ?_ ?_
  · simp only [Z7, h0, cond_false]
  · simp [Z7, h0, Gv.c, cL, cI, Gs.c, cF]
end Go.Ab
