/- The functions of this seat as plain Lean, and that the program's are these. Printed by a program of the prover's own. -/
import Derived.Test.YtpndflbllggeiaaGreatB7
set_option linter.unusedVariables false
set_option linter.unusedSimpArgs false
set_option maxRecDepth 100000
namespace Go.Ab
open Go.RowKit Go.Proofs.Tryz
theorem ZbN (a : GBody) : Z2D a a = true := by
  simp [Z2D, Z7Q, Z8H, ZbL, ZaR, ZaC]
def Zt (a_0 : (List GVector)) (k_1 : Int) : Nat → Int → Int → (List GVector) → Int × (List GVector)
  | 0, _, _, _ => default
  | k + 1, k_l0, i_l1, r0_l2 => (cond (decide (i_l1 < (r0_l2.length : Int)))
    (Zt a_0 k_1 k (IntKind.wrap .i64 ((IntKind.wrap .i64 ((IntKind.wrap .i64 (k_l0 + 1)) + 1)) + 1)) (i_l1 + 1) (r0_l2.set i_l1.toNat (⟨(ofInt .f32 k_l0), (ofInt .f32 (IntKind.wrap .i64 (k_l0 + 1))), (ofInt .f32 (IntKind.wrap .i64 ((IntKind.wrap .i64 (k_l0 + 1)) + 1)))⟩ : GVector)))
    (k_l0, r0_l2))
def Z3V (a_0 : (List GVector)) (k_1 : Int) (r : Int × (List GVector)) : Ex × St := ((.exit 0), ⟨.any :: .i .i64 r.1 :: .any :: .any :: .i .i64 0 :: an 32 [], [.vec 40 3 (r.2.map GVector.cells) false]⟩)
def Z7p (a_0 : (List GVector)) (k_1 : Int) (k_l0 : Int) (i_l1 : Int) (r0_l2 : (List GVector)) : St := ⟨.own 0 :: .i .i64 k_l0 :: .any :: .any :: .i .i64 0 :: .i .i64 i_l1 :: an 31 [], [.vec 40 3 (r0_l2.map GVector.cells) false]⟩
theorem Z7q (a_0 : (List GVector)) (k_1 : Int) (hp0 : a_0.length ≤ 1073741824) : ∀ (k : Nat) (k_l0 : Int) (i_l1 : Int) (r0_l2 : (List GVector)) (Z4u : 0 ≤ i_l1) (Z4v : r0_l2.length = a_0.length) (hk : ((a_0.length : Int) - i_l1).toNat < k), Lp prog 1 (sub (bodyOf f18) [1, 0, 1, 0, 0]) (Z7p a_0 k_1 k_l0 i_l1 r0_l2) (Z3V a_0 k_1 (Zt a_0 k_1 k k_l0 i_l1 r0_l2)).1 (Z3V a_0 k_1 (Zt a_0 k_1 k k_l0 i_l1 r0_l2)).2 := by
 intro k
 induction k with
 | zero => intro k_l0 i_l1 r0_l2 Z4u Z4v hk; exact absurd hk (Nat.not_lt_zero _)
 | succ k ih =>
  intro k_l0 i_l1 r0_l2 Z4u Z4v hk
  have p {a C} (s : Scr a C) := sZ GVector.cells r0_l2 <| s
  cases h_0 : (decide (i_l1 < (r0_l2.length : Int))) with
  | true =>
   have gh_0 := of_decide_eq_true h_0
   have y_0 : (0 : Int) ≤ i_l1 := by clear p; exact (by assumption)
   have y_1 : i_l1 < (r0_l2.length : Int) := by clear p; exact (by assumption)
   have y_2 : i_l1.toNat < r0_l2.length := by clear p; exact (by omega)
   have y_3 : i_l1 < ((r0_l2.set i_l1.toNat (⟨(ofInt .f32 k_l0), (r0_l2.getD i_l1.toNat default).Y, (r0_l2.getD i_l1.toNat default).Z⟩ : GVector)).length : Int) := by clear p; exact (by simp_all <;> omega)
   have y_4 : i_l1 < ((r0_l2.set i_l1.toNat (⟨(ofInt .f32 k_l0), (ofInt .f32 (IntKind.wrap .i64 (k_l0 + 1))), (r0_l2.getD i_l1.toNat default).Z⟩ : GVector)).length : Int) := by clear p; exact (by simp_all <;> omega)
   have y_5 : (-9223372036854775808 : Int) ≤ (i_l1 + 1) := by clear p; exact (by omega)
   have y_6 : (i_l1 + 1) ≤ (9223372036854775807 : Int) := by clear p; exact (by omega)
   have e : Zt a_0 k_1 (k + 1) k_l0 i_l1 r0_l2 = (Zt a_0 k_1 k (IntKind.wrap .i64 ((IntKind.wrap .i64 ((IntKind.wrap .i64 (k_l0 + 1)) + 1)) + 1)) (i_l1 + 1) (r0_l2.set i_l1.toNat (⟨(ofInt .f32 k_l0), (ofInt .f32 (IntKind.wrap .i64 (k_l0 + 1))), (ofInt .f32 (IntKind.wrap .i64 ((IntKind.wrap .i64 (k_l0 + 1)) + 1)))⟩ : GVector))) := by simp only [Zt, h_0, cond_true]
   rw [e]
   exact nextS (EpOk 1) Z3 [] (mR false [0, 2, 2, 2, 31]) [] (⟨.own 0 :: .i .i64 (IntKind.wrap .i64 ((IntKind.wrap .i64 ((IntKind.wrap .i64 (k_l0 + 1)) + 1)) + 1)) :: .any :: .any :: .i .i64 0 :: .i .i64 (i_l1 + 1) :: an 31 [], [.vec 40 3 ((((r0_l2.map GVector.cells).set i_l1.toNat [.f .f32 (ofInt .f32 k_l0), .f .f32 ((r0_l2.getD i_l1.toNat default).Y), .f .f32 ((r0_l2.getD i_l1.toNat default).Z)]).set i_l1.toNat [.f .f32 (ofInt .f32 k_l0), .f .f32 (ofInt .f32 (IntKind.wrap .i64 (k_l0 + 1))), .f .f32 ((r0_l2.getD i_l1.toNat default).Z)]).set i_l1.toNat [.f .f32 (ofInt .f32 k_l0), .f .f32 (ofInt .f32 (IntKind.wrap .i64 (k_l0 + 1))), .f .f32 (ofInt .f32 (IntKind.wrap .i64 ((IntKind.wrap .i64 (k_l0 + 1)) + 1)))]) false]⟩) (p (sB h_0 <| sX GVector.cells r0_l2 i_l1 y_0 y_1 <| sV GVector.cells r0_l2 i_l1.toNat y_2 <| sW .i64 (k_l0 + 1) <| sC (show 0 ≤ i_l1 ∧ Int.toNat i_l1 < ((r0_l2.map GVector.cells).set i_l1.toNat [.f .f32 (ofInt .f32 k_l0), .f .f32 ((r0_l2.getD i_l1.toNat default).Y), .f .f32 ((r0_l2.getD i_l1.toNat default).Z)]).length from (by simpa using idx_ok (c := GVector.cells) (l := (r0_l2.set i_l1.toNat (⟨(ofInt .f32 k_l0), (r0_l2.getD i_l1.toNat default).Y, (r0_l2.getD i_l1.toNat default).Z⟩ : GVector))) (i := i_l1) y_0 y_3)) <| sE (show ((r0_l2.map GVector.cells).set i_l1.toNat [.f .f32 (ofInt .f32 k_l0), .f .f32 ((r0_l2.getD i_l1.toNat default).Y), .f .f32 ((r0_l2.getD i_l1.toNat default).Z)])[i_l1.toNat]? = some [.f .f32 (ofInt .f32 k_l0), .f .f32 ((r0_l2.getD i_l1.toNat default).Y), .f .f32 ((r0_l2.getD i_l1.toNat default).Z)] from List.getElem?_set_self (by simpa using y_2)) <| sW .i64 ((IntKind.wrap .i64 (k_l0 + 1)) + 1) <| sC (show 0 ≤ i_l1 ∧ Int.toNat i_l1 < (((r0_l2.map GVector.cells).set i_l1.toNat [.f .f32 (ofInt .f32 k_l0), .f .f32 ((r0_l2.getD i_l1.toNat default).Y), .f .f32 ((r0_l2.getD i_l1.toNat default).Z)]).set i_l1.toNat [.f .f32 (ofInt .f32 k_l0), .f .f32 (ofInt .f32 (IntKind.wrap .i64 (k_l0 + 1))), .f .f32 ((r0_l2.getD i_l1.toNat default).Z)]).length from (by simpa using idx_ok (c := GVector.cells) (l := (r0_l2.set i_l1.toNat (⟨(ofInt .f32 k_l0), (ofInt .f32 (IntKind.wrap .i64 (k_l0 + 1))), (r0_l2.getD i_l1.toNat default).Z⟩ : GVector))) (i := i_l1) y_0 y_4)) <| sE (show (((r0_l2.map GVector.cells).set i_l1.toNat [.f .f32 (ofInt .f32 k_l0), .f .f32 ((r0_l2.getD i_l1.toNat default).Y), .f .f32 ((r0_l2.getD i_l1.toNat default).Z)]).set i_l1.toNat [.f .f32 (ofInt .f32 k_l0), .f .f32 (ofInt .f32 (IntKind.wrap .i64 (k_l0 + 1))), .f .f32 ((r0_l2.getD i_l1.toNat default).Z)])[i_l1.toNat]? = some [.f .f32 (ofInt .f32 k_l0), .f .f32 (ofInt .f32 (IntKind.wrap .i64 (k_l0 + 1))), .f .f32 ((r0_l2.getD i_l1.toNat default).Z)] from List.getElem?_set_self (by simpa using y_2)) <| sW .i64 ((IntKind.wrap .i64 ((IntKind.wrap .i64 (k_l0 + 1)) + 1)) + 1) <| sI (i_l1 + 1) y_5 y_6 <| sN)) (by kernel_rfl) (show _ = ⟨.own 0 :: .i .i64 (IntKind.wrap .i64 ((IntKind.wrap .i64 ((IntKind.wrap .i64 (k_l0 + 1)) + 1)) + 1)) :: .any :: .any :: .i .i64 0 :: .i .i64 (i_l1 + 1) :: an 31 [], [.vec 40 3 ((r0_l2.set i_l1.toNat (⟨(ofInt .f32 k_l0), (ofInt .f32 (IntKind.wrap .i64 (k_l0 + 1))), (ofInt .f32 (IntKind.wrap .i64 ((IntKind.wrap .i64 (k_l0 + 1)) + 1)))⟩ : GVector)).map GVector.cells) false]⟩ from (by simp [List.map_set, GVector.cells])) (ih (IntKind.wrap .i64 ((IntKind.wrap .i64 ((IntKind.wrap .i64 (k_l0 + 1)) + 1)) + 1)) (i_l1 + 1) (r0_l2.set i_l1.toNat (⟨(ofInt .f32 k_l0), (ofInt .f32 (IntKind.wrap .i64 (k_l0 + 1))), (ofInt .f32 (IntKind.wrap .i64 ((IntKind.wrap .i64 (k_l0 + 1)) + 1)))⟩ : GVector)) (show 0 ≤ (i_l1 + 1) from (by omega)) (show (r0_l2.set i_l1.toNat (⟨(ofInt .f32 k_l0), (ofInt .f32 (IntKind.wrap .i64 (k_l0 + 1))), (ofInt .f32 (IntKind.wrap .i64 ((IntKind.wrap .i64 (k_l0 + 1)) + 1)))⟩ : GVector)).length = a_0.length from (by simp_all <;> omega)) (by omega))
  | false =>
   have gh_0 := of_decide_eq_false h_0
   have e : Zt a_0 k_1 (k + 1) k_l0 i_l1 r0_l2 = (k_l0, r0_l2) := by simp only [Zt, h_0, cond_false]
   rw [e]
   exact outR (e := (.exit 0)) (EpOk 1) Z3 [] (mR false [1, 1, 2, 1, 32]) [] (p (sB h_0 <| sN)) (by kernel_rfl) (by intro h; cases h)
theorem Z78 (a_0 : (List GVector)) (k_1 : Int) : ∀ (k : Nat) (k_l0 : Int) (i_l1 : Int) (r0_l2 : (List GVector)) (hk : ((r0_l2.length : Int) - i_l1).toNat < k), (Zt a_0 k_1 k k_l0 i_l1 r0_l2).2.length = r0_l2.length := by
  intro k
  induction k with
  | zero => intro k_l0 i_l1 r0_l2 hk; exact absurd hk (Nat.not_lt_zero _)
  | succ k ih =>
    intro k_l0 i_l1 r0_l2 hk
    cases h_0 : (decide (i_l1 < (r0_l2.length : Int))) with
    | true =>
      have e : Zt a_0 k_1 (k + 1) k_l0 i_l1 r0_l2 = (Zt a_0 k_1 k (IntKind.wrap .i64 ((IntKind.wrap .i64 ((IntKind.wrap .i64 (k_l0 + 1)) + 1)) + 1)) (i_l1 + 1) (r0_l2.set i_l1.toNat (⟨(ofInt .f32 k_l0), (ofInt .f32 (IntKind.wrap .i64 (k_l0 + 1))), (ofInt .f32 (IntKind.wrap .i64 ((IntKind.wrap .i64 (k_l0 + 1)) + 1)))⟩ : GVector))) := by simp only [Zt, h_0, cond_true]
      rw [e, ih (IntKind.wrap .i64 ((IntKind.wrap .i64 ((IntKind.wrap .i64 (k_l0 + 1)) + 1)) + 1)) (i_l1 + 1) (r0_l2.set i_l1.toNat (⟨(ofInt .f32 k_l0), (ofInt .f32 (IntKind.wrap .i64 (k_l0 + 1))), (ofInt .f32 (IntKind.wrap .i64 ((IntKind.wrap .i64 (k_l0 + 1)) + 1)))⟩ : GVector)) (by simp_all <;> omega)]; simp
    | false =>
      have e : Zt a_0 k_1 (k + 1) k_l0 i_l1 r0_l2 = (k_l0, r0_l2) := by simp only [Zt, h_0, cond_false]
      first | (rw [e]; done) | (rw [e]; rfl)
def Z1S (a_0 : (List GVector)) (k_1 : Int) : Int × (List GVector) := (Zt a_0 k_1 (((a_0.length : Int) - 0).toNat + 1) k_1 0 a_0)
@[simp] theorem Z9S (a_0 : (List GVector)) (k_1 : Int) : (Z1S a_0 k_1).2.length = (a_0 : (List GVector)).length := Z78 a_0 k_1 (((a_0.length : Int) - 0).toNat + 1) k_1 0 a_0 (by exact Nat.lt_succ_self _)
def Zc (a_0 : (List GVector)) (k_1 : Int) : Int × (List GVector) := ((Z1S a_0 k_1).1, (Z1S a_0 k_1).2)
@[simp] theorem ZaS (a_0 : (List GVector)) (k_1 : Int) : (Zc a_0 k_1).2.length = a_0.length := by
  first | (simp [Zc]; done)
theorem Z5C (a_0 : (List GVector)) (k_1 : Int) (hp0 : a_0.length ≤ 1073741824)  : CallSt prog 18 [.vec 40 3 (a_0.map GVector.cells) false] [.own 0, .i .i64 k_1] (.i .i64 ((Zc a_0 k_1).1)) [.vec 40 3 (((Zc a_0 k_1).2).map GVector.cells) false] := by
 refine callS (EpOk 1) Z3 (c := bodyOf f18) [.vec 40 3 (a_0.map GVector.cells) false] [] (.i .i64 ((Z1S a_0 k_1).1)) [.vec 40 3 (((Z1S a_0 k_1).2).map GVector.cells) false] func18 (sL (mR false [0, 2, 2, 2, 31]) 1 (lp_val (Z3V a_0 k_1) (x := (Z1S a_0 k_1)) (Z7q a_0 k_1 hp0 (((a_0.length : Int) - 0).toNat + 1) k_1 0 a_0 (show 0 ≤ 0 from (by omega)) (show a_0.length = a_0.length from (by simp)) (Nat.lt_succ_self _)) rfl) <| sK [] sN) rfl (by kernel_rfl) (by kernel_rfl) ?_ ?_
 · rfl
 · simp [Zc]
def Z4O (_ : GVector) (c : Int) : Int × GVector := ((IntKind.wrap .i64 ((IntKind.wrap .i64 ((IntKind.wrap .i64 (c + 1)) + 1)) + 1)), ⟨ofInt .f32 c, ofInt .f32 (IntKind.wrap .i64 (c + 1)), ofInt .f32 (IntKind.wrap .i64 ((IntKind.wrap .i64 (c + 1)) + 1))⟩)
theorem Z7T (a : List GVector) (c : Int) : Zc a c = mkL Z4O a c := by
  unfold Zc Z1S
  rw [mark_loop (f := Z4O) (lo := Zt a c) (fun k c i r => rfl) _ _ _ _ (Int.le_refl 0) (Nat.lt_succ_self _)]
  simp
theorem Z7l (a : List GVector) (c : Int) (g0 : a.length ≤ 1073741824) (h0 : 0 ≤ c) (h1 : c ≤ 4611686018427387904) : c ≤ (Zc a c).1 ∧ (Zc a c).1 ≤ c + 3221225472 := by
  rw [Z7T]
  have q := mkL_ge (f := Z4O) (W := 3) a c (fun x _ c k0 k1 => by simp only [Z4O]; rw [wrap_id (n := c + 1) (by omega) (by omega), show c + 1 + 1 = c + 2 from by omega, wrap_id (n := c + 2) (by omega) (by omega), show c + 2 + 1 = c + 3 from by omega, wrap_id (n := c + 3) (by omega) (by omega)]; omega) h0 (by omega)
  omega
def Zv (a_0 : (List Int)) (k_1 : Int) : Nat → Int → Int → (List Int) → Int × (List Int)
  | 0, _, _, _ => default
  | k + 1, k_l0, i_l1, r0_l2 => (cond (decide (i_l1 < (r0_l2.length : Int)))
    (Zv a_0 k_1 k (IntKind.wrap .i64 (k_l0 + 1)) (i_l1 + 1) (r0_l2.set i_l1.toNat k_l0))
    (k_l0, r0_l2))
def Z40 (ty : Nat) (a_0 : (List Int)) (k_1 : Int) (r : Int × (List Int)) : Ex × St := ((.exit 0), ⟨.any :: .i .i64 r.1 :: .any :: .any :: .i .i64 0 :: an 14 [], [.vec ty 1 (r.2.map (cI .i64)) false]⟩)
def Z7F (ty : Nat) (a_0 : (List Int)) (k_1 : Int) (k_l0 : Int) (i_l1 : Int) (r0_l2 : (List Int)) : St := ⟨.own 0 :: .i .i64 k_l0 :: .any :: .any :: .i .i64 0 :: .i .i64 i_l1 :: an 13 [], [.vec ty 1 (r0_l2.map (cI .i64)) false]⟩
theorem Z7G (ty : Nat) (a_0 : (List Int)) (k_1 : Int) (hp0 : a_0.length ≤ 1073741824) : ∀ (k : Nat) (k_l0 : Int) (i_l1 : Int) (r0_l2 : (List Int)) (Z4P : 0 ≤ i_l1) (Z4Q : r0_l2.length = a_0.length) (hk : ((a_0.length : Int) - i_l1).toNat < k), Lp prog 1 (sub (bodyOf f27) [1, 0, 1, 0, 0]) (Z7F ty a_0 k_1 k_l0 i_l1 r0_l2) (Z40 ty a_0 k_1 (Zv a_0 k_1 k k_l0 i_l1 r0_l2)).1 (Z40 ty a_0 k_1 (Zv a_0 k_1 k k_l0 i_l1 r0_l2)).2 := by
 intro k
 induction k with
 | zero => intro k_l0 i_l1 r0_l2 Z4P Z4Q hk; exact absurd hk (Nat.not_lt_zero _)
 | succ k ih =>
  intro k_l0 i_l1 r0_l2 Z4P Z4Q hk
  have p {a C} (s : Scr a C) := sZ (cI .i64) r0_l2 <| s
  cases h_0 : (decide (i_l1 < (r0_l2.length : Int))) with
  | true =>
   have gh_0 := of_decide_eq_true h_0
   have y_0 : (0 : Int) ≤ i_l1 := by clear p; exact (by assumption)
   have y_1 : i_l1 < (r0_l2.length : Int) := by clear p; exact (by assumption)
   have y_2 : i_l1.toNat < r0_l2.length := by clear p; exact (by omega)
   have y_3 : (-9223372036854775808 : Int) ≤ (i_l1 + 1) := by clear p; exact (by omega)
   have y_4 : (i_l1 + 1) ≤ (9223372036854775807 : Int) := by clear p; exact (by omega)
   have e : Zv a_0 k_1 (k + 1) k_l0 i_l1 r0_l2 = (Zv a_0 k_1 k (IntKind.wrap .i64 (k_l0 + 1)) (i_l1 + 1) (r0_l2.set i_l1.toNat k_l0)) := by simp only [Zv, h_0, cond_true]
   rw [e]
   exact nextS (EpOk 1) Z3 [] (mR false [0, 2, 2, 2, 13]) [] (⟨.own 0 :: .i .i64 (IntKind.wrap .i64 (k_l0 + 1)) :: .any :: .any :: .i .i64 0 :: .i .i64 (i_l1 + 1) :: an 13 [], [.vec ty 1 ((r0_l2.map (cI .i64)).set i_l1.toNat [.i .i64 k_l0]) false]⟩) (p (sB h_0 <| sX (cI .i64) r0_l2 i_l1 y_0 y_1 <| sC (maplt (c := (cI .i64)) (l := r0_l2) y_2) <| sW .i64 (k_l0 + 1) <| sI (i_l1 + 1) y_3 y_4 <| sN)) (by kernel_rfl) (show _ = ⟨.own 0 :: .i .i64 (IntKind.wrap .i64 (k_l0 + 1)) :: .any :: .any :: .i .i64 0 :: .i .i64 (i_l1 + 1) :: an 13 [], [.vec ty 1 ((r0_l2.set i_l1.toNat k_l0).map (cI .i64)) false]⟩ from (by simp [List.map_set, cI])) (ih (IntKind.wrap .i64 (k_l0 + 1)) (i_l1 + 1) (r0_l2.set i_l1.toNat k_l0) (show 0 ≤ (i_l1 + 1) from (by omega)) (show (r0_l2.set i_l1.toNat k_l0).length = a_0.length from (by simp_all <;> omega)) (by omega))
  | false =>
   have gh_0 := of_decide_eq_false h_0
   have e : Zv a_0 k_1 (k + 1) k_l0 i_l1 r0_l2 = (k_l0, r0_l2) := by simp only [Zv, h_0, cond_false]
   rw [e]
   exact outR (e := (.exit 0)) (EpOk 1) Z3 [] (mR false [1, 1, 2, 1, 14]) [] (p (sB h_0 <| sN)) (by kernel_rfl) (by intro h; cases h)
theorem Z7f (a_0 : (List Int)) (k_1 : Int) : ∀ (k : Nat) (k_l0 : Int) (i_l1 : Int) (r0_l2 : (List Int)) (hk : ((r0_l2.length : Int) - i_l1).toNat < k), (Zv a_0 k_1 k k_l0 i_l1 r0_l2).2.length = r0_l2.length := by
  intro k
  induction k with
  | zero => intro k_l0 i_l1 r0_l2 hk; exact absurd hk (Nat.not_lt_zero _)
  | succ k ih =>
    intro k_l0 i_l1 r0_l2 hk
    cases h_0 : (decide (i_l1 < (r0_l2.length : Int))) with
    | true =>
      have e : Zv a_0 k_1 (k + 1) k_l0 i_l1 r0_l2 = (Zv a_0 k_1 k (IntKind.wrap .i64 (k_l0 + 1)) (i_l1 + 1) (r0_l2.set i_l1.toNat k_l0)) := by simp only [Zv, h_0, cond_true]
      rw [e, ih (IntKind.wrap .i64 (k_l0 + 1)) (i_l1 + 1) (r0_l2.set i_l1.toNat k_l0) (by simp_all <;> omega)]; simp
    | false =>
      have e : Zv a_0 k_1 (k + 1) k_l0 i_l1 r0_l2 = (k_l0, r0_l2) := by simp only [Zv, h_0, cond_false]
      first | (rw [e]; done) | (rw [e]; rfl)
def Z22 (a_0 : (List Int)) (k_1 : Int) : Int × (List Int) := (Zv a_0 k_1 (((a_0.length : Int) - 0).toNat + 1) k_1 0 a_0)
@[simp] theorem Zai (a_0 : (List Int)) (k_1 : Int) : (Z22 a_0 k_1).2.length = (a_0 : (List Int)).length := Z7f a_0 k_1 (((a_0.length : Int) - 0).toNat + 1) k_1 0 a_0 (by exact Nat.lt_succ_self _)
def Zi (a_0 : (List Int)) (k_1 : Int) : Int × (List Int) := ((Z22 a_0 k_1).1, (Z22 a_0 k_1).2)
@[simp] theorem Z79 (a_0 : (List Int)) (k_1 : Int) : (Zi a_0 k_1).2.length = a_0.length := by
  first | (simp [Zi]; done)
theorem Z8i (ty : Nat) (a_0 : (List Int)) (k_1 : Int) (hp0 : a_0.length ≤ 1073741824)  : CallSt prog 27 [.vec ty 1 (a_0.map (cI .i64)) false] [.own 0, .i .i64 k_1] (.i .i64 ((Zi a_0 k_1).1)) [.vec ty 1 (((Zi a_0 k_1).2).map (cI .i64)) false] := by
 refine callS (EpOk 1) Z3 (c := bodyOf f27) [.vec ty 1 (a_0.map (cI .i64)) false] [] (.i .i64 ((Z22 a_0 k_1).1)) [.vec ty 1 (((Z22 a_0 k_1).2).map (cI .i64)) false] func27 (sL (mR false [0, 2, 2, 2, 13]) 1 (lp_val (Z40 ty a_0 k_1) (x := (Z22 a_0 k_1)) (Z7G ty a_0 k_1 hp0 (((a_0.length : Int) - 0).toNat + 1) k_1 0 a_0 (show 0 ≤ 0 from (by omega)) (show a_0.length = a_0.length from (by simp)) (Nat.lt_succ_self _)) rfl) <| sK [] sN) rfl (by kernel_rfl) (by kernel_rfl) ?_ ?_
 · rfl
 · simp [Zi]
def Z6A (_ : Int) (c : Int) : Int × Int := ((IntKind.wrap .i64 (c + 1)), c)
theorem ZaT (a : List Int) (c : Int) : Zi a c = mkL Z6A a c := by
  unfold Zi Z22
  rw [mark_loop (f := Z6A) (lo := Zv a c) (fun k c i r => rfl) _ _ _ _ (Int.le_refl 0) (Nat.lt_succ_self _)]
  simp
theorem Zaj (a : List Int) (c : Int) (g0 : a.length ≤ 1073741824) (h0 : 0 ≤ c) (h1 : c ≤ 4611686018427387904) : c ≤ (Zi a c).1 ∧ (Zi a c).1 ≤ c + 1073741824 := by
  rw [ZaT]
  have q := mkL_ge (f := Z6A) (W := 1) a c (fun x _ c k0 k1 => by simp only [Z6A]; rw [wrap_id (n := c + 1) (by omega) (by omega)]; omega) h0 (by omega)
  omega
def Z1h (a_0 : (List (List Int))) (k_1 : Int) : Nat → Int → Int → (List (List Int)) → Int × (List (List Int))
  | 0, _, _, _ => default
  | k + 1, k_l0, i_l1, r0_l2 => (cond (decide (i_l1 < (r0_l2.length : Int)))
    (Z1h a_0 k_1 k ((Zi (r0_l2.getD i_l1.toNat default) k_l0).1) (i_l1 + 1) (r0_l2.set i_l1.toNat ((Zi (r0_l2.getD i_l1.toNat default) k_l0).2)))
    (k_l0, r0_l2))
def Z3W (a_0 : (List (List Int))) (k_1 : Int) (r : Int × (List (List Int))) : Ex × St := ((.exit 0), ⟨.any :: .i .i64 r.1 :: .any :: .any :: .i .i64 0 :: an 14 [], [.nest 49 (r.2.map fun l => l.map (cI .i64)) false]⟩)
def Z7r (a_0 : (List (List Int))) (k_1 : Int) (k_l0 : Int) (i_l1 : Int) (r0_l2 : (List (List Int))) : St := ⟨.own 0 :: .i .i64 k_l0 :: .any :: .any :: .i .i64 0 :: .i .i64 i_l1 :: an 13 [], [.nest 49 (r0_l2.map fun l => l.map (cI .i64)) false]⟩
theorem Z7s (a_0 : (List (List Int))) (k_1 : Int) (hp0 : a_0.length ≤ 1073741824) (hp1 : ∀ t ∈ a_0, t.length ≤ 1073741824) : ∀ (k : Nat) (k_l0 : Int) (i_l1 : Int) (r0_l2 : (List (List Int))) (Z4w : 0 ≤ i_l1) (Z4x : r0_l2.length = a_0.length) (Z2M : ∀ t ∈ r0_l2, t.length ≤ 1073741824) (hk : ((a_0.length : Int) - i_l1).toNat < k), Lp prog 1 (sub (bodyOf f119) [1, 0, 1, 0, 0]) (Z7r a_0 k_1 k_l0 i_l1 r0_l2) (Z3W a_0 k_1 (Z1h a_0 k_1 k k_l0 i_l1 r0_l2)).1 (Z3W a_0 k_1 (Z1h a_0 k_1 k k_l0 i_l1 r0_l2)).2 := by
 intro k
 induction k with
 | zero => intro k_l0 i_l1 r0_l2 Z4w Z4x Z2M hk; exact absurd hk (Nat.not_lt_zero _)
 | succ k ih =>
  intro k_l0 i_l1 r0_l2 Z4w Z4x Z2M hk
  have p {a C} (s : Scr a C) := sM (nlen_ok (l := r0_l2) (f := fun l => l.map (cI .i64))) <| s
  cases h_0 : (decide (i_l1 < (r0_l2.length : Int))) with
  | true =>
   have gh_0 := of_decide_eq_true h_0
   have y_0 : (0 : Int) ≤ i_l1 := by clear p; exact (by assumption)
   have y_1 : Int.toNat i_l1 < r0_l2.length := by clear p; exact (by omega)
   have y_2 : i_l1.toNat < r0_l2.length := by clear p; exact (by assumption)
   have y_3 : (r0_l2.getD i_l1.toNat default).length ≤ 1073741824 := by clear p; exact (by exact mem_le Z2M)
   have y_4 : (-9223372036854775808 : Int) ≤ (i_l1 + 1) := by clear p; exact (by omega)
   have y_5 : (i_l1 + 1) ≤ (9223372036854775807 : Int) := by clear p; exact (by omega)
   have e : Z1h a_0 k_1 (k + 1) k_l0 i_l1 r0_l2 = (Z1h a_0 k_1 k ((Zi (r0_l2.getD i_l1.toNat default) k_l0).1) (i_l1 + 1) (r0_l2.set i_l1.toNat ((Zi (r0_l2.getD i_l1.toNat default) k_l0).2))) := by simp only [Z1h, h_0, cond_true]
   rw [e]
   exact nextS (EpOk 1) Z3 [] (mR false [0, 2, 2, 2, 13]) [] (⟨.own 0 :: .i .i64 ((Zi (r0_l2.getD i_l1.toNat default) k_l0).1) :: .any :: .any :: .i .i64 0 :: .i .i64 (i_l1 + 1) :: an 13 [], [.nest 49 ((r0_l2.map fun l => l.map (cI .i64)).set i_l1.toNat (((Zi (r0_l2.getD i_l1.toNat default) k_l0).2).map (cI .i64))) false]⟩) (p (sB h_0 <| sC (nestix (c := (cI .i64)) (l := r0_l2) (i := i_l1) y_0 y_1) <| sC (nestlt (c := (cI .i64)) (l := r0_l2) y_2) <| sS (CallSt.frameInn (R := [.nest 49 (r0_l2.map fun l => l.map (cI .i64)) false]) (q := 0) (j := i_l1.toNat) (args := [.i .i64 k_l0]) (fun ty => Z8i ty (r0_l2.getD i_l1.toNat default) k_l0 y_3) rfl rfl (by simp) rfl (nestget_ok y_2)) <| sI (i_l1 + 1) y_4 y_5 <| sN)) (by kernel_rfl) (show _ = ⟨.own 0 :: .i .i64 ((Zi (r0_l2.getD i_l1.toNat default) k_l0).1) :: .any :: .any :: .i .i64 0 :: .i .i64 (i_l1 + 1) :: an 13 [], [.nest 49 ((r0_l2.set i_l1.toNat ((Zi (r0_l2.getD i_l1.toNat default) k_l0).2)).map fun l => l.map (cI .i64)) false]⟩ from (by simp [List.map_set, cL, cI])) (ih ((Zi (r0_l2.getD i_l1.toNat default) k_l0).1) (i_l1 + 1) (r0_l2.set i_l1.toNat ((Zi (r0_l2.getD i_l1.toNat default) k_l0).2)) (show 0 ≤ (i_l1 + 1) from (by omega)) (show (r0_l2.set i_l1.toNat ((Zi (r0_l2.getD i_l1.toNat default) k_l0).2)).length = a_0.length from (by simp; assumption)) (show ∀ t ∈ (r0_l2.set i_l1.toNat ((Zi (r0_l2.getD i_l1.toNat default) k_l0).2)), t.length ≤ 1073741824 from (by intro t ht; rcases List.mem_or_eq_of_mem_set ht with h | h; (exact Z2M t h); (rw [h]; simp only [Z79]; exact mem_le Z2M))) (by omega))
  | false =>
   have gh_0 := of_decide_eq_false h_0
   have e : Z1h a_0 k_1 (k + 1) k_l0 i_l1 r0_l2 = (k_l0, r0_l2) := by simp only [Z1h, h_0, cond_false]
   rw [e]
   exact outR (e := (.exit 0)) (EpOk 1) Z3 [] (mR false [1, 1, 2, 1, 14]) [] (p (sB h_0 <| sN)) (by kernel_rfl) (by intro h; cases h)
def Z2n (a_0 : (List (List Int))) (k_1 : Int) : Int × (List (List Int)) := (Z1h a_0 k_1 (((a_0.length : Int) - 0).toNat + 1) k_1 0 a_0)
def Z1n (a_0 : (List (List Int))) (k_1 : Int) : Int × (List (List Int)) := ((Z2n a_0 k_1).1, (Z2n a_0 k_1).2)
theorem Z7Z (a_0 : (List (List Int))) (k_1 : Int) (hp0 : a_0.length ≤ 1073741824) (hp1 : ∀ t ∈ a_0, t.length ≤ 1073741824)  : CallSt prog 119 [.nest 49 (a_0.map fun l => l.map (cI .i64)) false] [.own 0, .i .i64 k_1] (.i .i64 ((Z1n a_0 k_1).1)) [.nest 49 (((Z1n a_0 k_1).2).map fun l => l.map (cI .i64)) false] := by
 refine callS (EpOk 1) Z3 (c := bodyOf f119) [.nest 49 (a_0.map fun l => l.map (cI .i64)) false] [] (.i .i64 ((Z2n a_0 k_1).1)) [.nest 49 (((Z2n a_0 k_1).2).map fun l => l.map (cI .i64)) false] func119 (sL (mR false [0, 2, 2, 2, 13]) 1 (lp_val (Z3W a_0 k_1) (x := (Z2n a_0 k_1)) (Z7s a_0 k_1 hp0 hp1 (((a_0.length : Int) - 0).toNat + 1) k_1 0 a_0 (show 0 ≤ 0 from (by simp)) (show a_0.length = a_0.length from (by simp)) (show ∀ t ∈ a_0, t.length ≤ 1073741824 from (by assumption)) (Nat.lt_succ_self _)) rfl) <| sK [] sN) rfl (by kernel_rfl) (by kernel_rfl) ?_ ?_
 · rfl
 · simp [Z1n]
theorem ZbB (a : List (List Int)) (c : Int) : Z1n a c = mkL Zi a c := by
  unfold Z1n Z2n
  rw [mark_loop (f := Zi) (lo := Z1h a c) (fun k c i r => rfl) _ _ _ _ (Int.le_refl 0) (Nat.lt_succ_self _)]
  simp
theorem Z9x (a : List (List Int)) (c : Int) (g0 : a.length ≤ 1073741824) (g1 : ∀ t ∈ a, t.length ≤ 1073741824) (h0 : 0 ≤ c) (h1 : c ≤ 3458764513820540928) : c ≤ (Z1n a c).1 ∧ (Z1n a c).1 ≤ c + 1152921504606846976 := by
  rw [ZbB]
  have hm : (a.length : Int) * 1073741824 ≤ 1152921504606846976 := by omega
  have q := mkL_ge_b (f := Zi) (W := 1073741824) (M := 4611686018427387904) a c (fun x hx c k0 k1 => by have q := Zaj x c (g1 x hx) k0 (by omega); omega) h0 (by omega)
  omega
def Ze (a_0 : GMesh) (k_1 : Int) : Int × (List GVector) × (List (List Int)) := ((Z1n a_0.Triangles ((Zc a_0.Places k_1).1)).1, (Zc a_0.Places k_1).2, (Z1n a_0.Triangles ((Zc a_0.Places k_1).1)).2)
theorem Z80 (a_0 : GMesh) (k_1 : Int) (hp0 : a_0.Places.length ≤ 1073741824) (hp1 : a_0.Triangles.length ≤ 1073741824) (hp2 : ∀ t ∈ a_0.Triangles, t.length ≤ 1073741824)  : CallSt prog 61 [.vec 40 3 (a_0.Places.map GVector.cells) false, .nest 49 (a_0.Triangles.map fun l => l.map (cI .i64)) false] [.agg [.own 0, .own 1], .i .i64 k_1] (.i .i64 ((Ze a_0 k_1).1)) [.vec 40 3 (((Ze a_0 k_1).2.1).map GVector.cells) false, .nest 49 (((Ze a_0 k_1).2.2).map fun l => l.map (cI .i64)) false] := by
 refine callS (EpOk 2) Z3 (c := bodyOf f61) [.vec 40 3 (a_0.Places.map GVector.cells) false, .nest 49 (a_0.Triangles.map fun l => l.map (cI .i64)) false] [] (.i .i64 ((Z1n a_0.Triangles ((Zc a_0.Places k_1).1)).1)) [.vec 40 3 (((Zc a_0.Places k_1).2).map GVector.cells) false, .nest 49 (((Z1n a_0.Triangles ((Zc a_0.Places k_1).1)).2).map fun l => l.map (cI .i64)) false] func61 (sS (CallSt.frame (Z5C a_0.Places k_1 hp0) [0] (R := [.vec 40 3 (a_0.Places.map GVector.cells) false, .nest 49 (a_0.Triangles.map fun l => l.map (cI .i64)) false, .box 38 [.own 0, .own 1]]) (args' := [.own 0, .i .i64 k_1]) rfl rfl rfl rfl rfl rfl) <| sS (CallSt.frame (Z7Z a_0.Triangles ((Zc a_0.Places k_1).1) hp1 hp2) [1] (R := [.vec 40 3 (((Zc a_0.Places k_1).2).map GVector.cells) false, .nest 49 (a_0.Triangles.map fun l => l.map (cI .i64)) false, .box 38 [.own 0, .own 1]]) (args' := [.own 1, .i .i64 ((Zc a_0.Places k_1).1)]) rfl rfl rfl rfl rfl rfl) <| sK [] sN) rfl (by kernel_rfl) (by kernel_rfl) ?_ ?_
 · rfl
 · simp [Ze]
theorem Z9y (a : GMesh) (c : Int) (g0 : a.Places.length ≤ 1073741824) (g1 : a.Triangles.length ≤ 1073741824) (g2 : ∀ t ∈ a.Triangles, t.length ≤ 1073741824) (h0 : 0 ≤ c) (h1 : c ≤ 2305843009213693952) : c ≤ (Ze a c).1 ∧ (Ze a c).1 ≤ c + 1152921507828072448 := by
  unfold Ze
  have p0 := Z7l a.Places c g0 (by omega) (by omega)
  have p1 := Z9x a.Triangles ((Zc a.Places c).1) g1 g2 (by omega) (by omega)
  simp only
  omega
def Z1i (a_0 : (List GSpring)) (k_1 : Int) : Nat → Int → Int → (List GSpring) → Int × (List GSpring)
  | 0, _, _, _ => default
  | k + 1, k_l0, i_l1, r0_l2 => (cond (decide (i_l1 < (r0_l2.length : Int)))
    (Z1i a_0 k_1 k (IntKind.wrap .i64 ((IntKind.wrap .i64 ((IntKind.wrap .i64 ((IntKind.wrap .i64 (k_l0 + 1)) + 1)) + 1)) + 1)) (i_l1 + 1) (r0_l2.set i_l1.toNat (⟨k_l0, (IntKind.wrap .i64 (k_l0 + 1)), (ofInt .f32 (IntKind.wrap .i64 ((IntKind.wrap .i64 (k_l0 + 1)) + 1))), (ofInt .f32 (IntKind.wrap .i64 ((IntKind.wrap .i64 ((IntKind.wrap .i64 (k_l0 + 1)) + 1)) + 1)))⟩ : GSpring)))
    (k_l0, r0_l2))
def Z3X (a_0 : (List GSpring)) (k_1 : Int) (r : Int × (List GSpring)) : Ex × St := ((.exit 0), ⟨.any :: .i .i64 r.1 :: .any :: .any :: .i .i64 0 :: an 38 [], [.vec 133 4 (r.2.map GSpring.cells) false]⟩)
def Z7t (a_0 : (List GSpring)) (k_1 : Int) (k_l0 : Int) (i_l1 : Int) (r0_l2 : (List GSpring)) : St := ⟨.own 0 :: .i .i64 k_l0 :: .any :: .any :: .i .i64 0 :: .i .i64 i_l1 :: an 37 [], [.vec 133 4 (r0_l2.map GSpring.cells) false]⟩
theorem Z7u (a_0 : (List GSpring)) (k_1 : Int) (hp0 : a_0.length ≤ 1073741824) : ∀ (k : Nat) (k_l0 : Int) (i_l1 : Int) (r0_l2 : (List GSpring)) (Z4y : 0 ≤ i_l1) (Z4z : r0_l2.length = a_0.length) (hk : ((a_0.length : Int) - i_l1).toNat < k), Lp prog 1 (sub (bodyOf f62) [1, 0, 1, 0, 0]) (Z7t a_0 k_1 k_l0 i_l1 r0_l2) (Z3X a_0 k_1 (Z1i a_0 k_1 k k_l0 i_l1 r0_l2)).1 (Z3X a_0 k_1 (Z1i a_0 k_1 k k_l0 i_l1 r0_l2)).2 := by
 intro k
 induction k with
 | zero => intro k_l0 i_l1 r0_l2 Z4y Z4z hk; exact absurd hk (Nat.not_lt_zero _)
 | succ k ih =>
  intro k_l0 i_l1 r0_l2 Z4y Z4z hk
  have p {a C} (s : Scr a C) := sZ GSpring.cells r0_l2 <| s
  cases h_0 : (decide (i_l1 < (r0_l2.length : Int))) with
  | true =>
   have gh_0 := of_decide_eq_true h_0
   have y_0 : (0 : Int) ≤ i_l1 := by clear p; exact (by assumption)
   have y_1 : i_l1 < (r0_l2.length : Int) := by clear p; exact (by assumption)
   have y_2 : i_l1.toNat < r0_l2.length := by clear p; exact (by omega)
   have y_3 : i_l1 < ((r0_l2.set i_l1.toNat (⟨k_l0, (r0_l2.getD i_l1.toNat default).B, (r0_l2.getD i_l1.toNat default).Long, (r0_l2.getD i_l1.toNat default).Stiff⟩ : GSpring)).length : Int) := by clear p; exact (by simp_all <;> omega)
   have y_4 : i_l1 < ((r0_l2.set i_l1.toNat (⟨k_l0, (IntKind.wrap .i64 (k_l0 + 1)), (r0_l2.getD i_l1.toNat default).Long, (r0_l2.getD i_l1.toNat default).Stiff⟩ : GSpring)).length : Int) := by clear p; exact (by simp_all <;> omega)
   have y_5 : i_l1 < ((r0_l2.set i_l1.toNat (⟨k_l0, (IntKind.wrap .i64 (k_l0 + 1)), (ofInt .f32 (IntKind.wrap .i64 ((IntKind.wrap .i64 (k_l0 + 1)) + 1))), (r0_l2.getD i_l1.toNat default).Stiff⟩ : GSpring)).length : Int) := by clear p; exact (by simp_all <;> omega)
   have y_6 : (-9223372036854775808 : Int) ≤ (i_l1 + 1) := by clear p; exact (by omega)
   have y_7 : (i_l1 + 1) ≤ (9223372036854775807 : Int) := by clear p; exact (by omega)
   have e : Z1i a_0 k_1 (k + 1) k_l0 i_l1 r0_l2 = (Z1i a_0 k_1 k (IntKind.wrap .i64 ((IntKind.wrap .i64 ((IntKind.wrap .i64 ((IntKind.wrap .i64 (k_l0 + 1)) + 1)) + 1)) + 1)) (i_l1 + 1) (r0_l2.set i_l1.toNat (⟨k_l0, (IntKind.wrap .i64 (k_l0 + 1)), (ofInt .f32 (IntKind.wrap .i64 ((IntKind.wrap .i64 (k_l0 + 1)) + 1))), (ofInt .f32 (IntKind.wrap .i64 ((IntKind.wrap .i64 ((IntKind.wrap .i64 (k_l0 + 1)) + 1)) + 1)))⟩ : GSpring))) := by simp only [Z1i, h_0, cond_true]
   rw [e]
   exact nextS (EpOk 1) Z3 [] (mR false [0, 2, 2, 2, 37]) [] (⟨.own 0 :: .i .i64 (IntKind.wrap .i64 ((IntKind.wrap .i64 ((IntKind.wrap .i64 ((IntKind.wrap .i64 (k_l0 + 1)) + 1)) + 1)) + 1)) :: .any :: .any :: .i .i64 0 :: .i .i64 (i_l1 + 1) :: an 37 [], [.vec 133 4 (((((r0_l2.map GSpring.cells).set i_l1.toNat [.i .i64 k_l0, .i .i64 ((r0_l2.getD i_l1.toNat default).B), .f .f32 ((r0_l2.getD i_l1.toNat default).Long), .f .f32 ((r0_l2.getD i_l1.toNat default).Stiff)]).set i_l1.toNat [.i .i64 k_l0, .i .i64 (IntKind.wrap .i64 (k_l0 + 1)), .f .f32 ((r0_l2.getD i_l1.toNat default).Long), .f .f32 ((r0_l2.getD i_l1.toNat default).Stiff)]).set i_l1.toNat [.i .i64 k_l0, .i .i64 (IntKind.wrap .i64 (k_l0 + 1)), .f .f32 (ofInt .f32 (IntKind.wrap .i64 ((IntKind.wrap .i64 (k_l0 + 1)) + 1))), .f .f32 ((r0_l2.getD i_l1.toNat default).Stiff)]).set i_l1.toNat [.i .i64 k_l0, .i .i64 (IntKind.wrap .i64 (k_l0 + 1)), .f .f32 (ofInt .f32 (IntKind.wrap .i64 ((IntKind.wrap .i64 (k_l0 + 1)) + 1))), .f .f32 (ofInt .f32 (IntKind.wrap .i64 ((IntKind.wrap .i64 ((IntKind.wrap .i64 (k_l0 + 1)) + 1)) + 1)))]) false]⟩) (p (sB h_0 <| sX GSpring.cells r0_l2 i_l1 y_0 y_1 <| sV GSpring.cells r0_l2 i_l1.toNat y_2 <| sW .i64 (k_l0 + 1) <| sC (show 0 ≤ i_l1 ∧ Int.toNat i_l1 < ((r0_l2.map GSpring.cells).set i_l1.toNat [.i .i64 k_l0, .i .i64 ((r0_l2.getD i_l1.toNat default).B), .f .f32 ((r0_l2.getD i_l1.toNat default).Long), .f .f32 ((r0_l2.getD i_l1.toNat default).Stiff)]).length from (by simpa using idx_ok (c := GSpring.cells) (l := (r0_l2.set i_l1.toNat (⟨k_l0, (r0_l2.getD i_l1.toNat default).B, (r0_l2.getD i_l1.toNat default).Long, (r0_l2.getD i_l1.toNat default).Stiff⟩ : GSpring))) (i := i_l1) y_0 y_3)) <| sE (show ((r0_l2.map GSpring.cells).set i_l1.toNat [.i .i64 k_l0, .i .i64 ((r0_l2.getD i_l1.toNat default).B), .f .f32 ((r0_l2.getD i_l1.toNat default).Long), .f .f32 ((r0_l2.getD i_l1.toNat default).Stiff)])[i_l1.toNat]? = some [.i .i64 k_l0, .i .i64 ((r0_l2.getD i_l1.toNat default).B), .f .f32 ((r0_l2.getD i_l1.toNat default).Long), .f .f32 ((r0_l2.getD i_l1.toNat default).Stiff)] from List.getElem?_set_self (by simpa using y_2)) <| sW .i64 ((IntKind.wrap .i64 (k_l0 + 1)) + 1) <| sC (show 0 ≤ i_l1 ∧ Int.toNat i_l1 < (((r0_l2.map GSpring.cells).set i_l1.toNat [.i .i64 k_l0, .i .i64 ((r0_l2.getD i_l1.toNat default).B), .f .f32 ((r0_l2.getD i_l1.toNat default).Long), .f .f32 ((r0_l2.getD i_l1.toNat default).Stiff)]).set i_l1.toNat [.i .i64 k_l0, .i .i64 (IntKind.wrap .i64 (k_l0 + 1)), .f .f32 ((r0_l2.getD i_l1.toNat default).Long), .f .f32 ((r0_l2.getD i_l1.toNat default).Stiff)]).length from (by simpa using idx_ok (c := GSpring.cells) (l := (r0_l2.set i_l1.toNat (⟨k_l0, (IntKind.wrap .i64 (k_l0 + 1)), (r0_l2.getD i_l1.toNat default).Long, (r0_l2.getD i_l1.toNat default).Stiff⟩ : GSpring))) (i := i_l1) y_0 y_4)) <| sE (show (((r0_l2.map GSpring.cells).set i_l1.toNat [.i .i64 k_l0, .i .i64 ((r0_l2.getD i_l1.toNat default).B), .f .f32 ((r0_l2.getD i_l1.toNat default).Long), .f .f32 ((r0_l2.getD i_l1.toNat default).Stiff)]).set i_l1.toNat [.i .i64 k_l0, .i .i64 (IntKind.wrap .i64 (k_l0 + 1)), .f .f32 ((r0_l2.getD i_l1.toNat default).Long), .f .f32 ((r0_l2.getD i_l1.toNat default).Stiff)])[i_l1.toNat]? = some [.i .i64 k_l0, .i .i64 (IntKind.wrap .i64 (k_l0 + 1)), .f .f32 ((r0_l2.getD i_l1.toNat default).Long), .f .f32 ((r0_l2.getD i_l1.toNat default).Stiff)] from List.getElem?_set_self (by simpa using y_2)) <| sW .i64 ((IntKind.wrap .i64 ((IntKind.wrap .i64 (k_l0 + 1)) + 1)) + 1) <| sC (show 0 ≤ i_l1 ∧ Int.toNat i_l1 < ((((r0_l2.map GSpring.cells).set i_l1.toNat [.i .i64 k_l0, .i .i64 ((r0_l2.getD i_l1.toNat default).B), .f .f32 ((r0_l2.getD i_l1.toNat default).Long), .f .f32 ((r0_l2.getD i_l1.toNat default).Stiff)]).set i_l1.toNat [.i .i64 k_l0, .i .i64 (IntKind.wrap .i64 (k_l0 + 1)), .f .f32 ((r0_l2.getD i_l1.toNat default).Long), .f .f32 ((r0_l2.getD i_l1.toNat default).Stiff)]).set i_l1.toNat [.i .i64 k_l0, .i .i64 (IntKind.wrap .i64 (k_l0 + 1)), .f .f32 (ofInt .f32 (IntKind.wrap .i64 ((IntKind.wrap .i64 (k_l0 + 1)) + 1))), .f .f32 ((r0_l2.getD i_l1.toNat default).Stiff)]).length from (by simpa using idx_ok (c := GSpring.cells) (l := (r0_l2.set i_l1.toNat (⟨k_l0, (IntKind.wrap .i64 (k_l0 + 1)), (ofInt .f32 (IntKind.wrap .i64 ((IntKind.wrap .i64 (k_l0 + 1)) + 1))), (r0_l2.getD i_l1.toNat default).Stiff⟩ : GSpring))) (i := i_l1) y_0 y_5)) <| sE (show ((((r0_l2.map GSpring.cells).set i_l1.toNat [.i .i64 k_l0, .i .i64 ((r0_l2.getD i_l1.toNat default).B), .f .f32 ((r0_l2.getD i_l1.toNat default).Long), .f .f32 ((r0_l2.getD i_l1.toNat default).Stiff)]).set i_l1.toNat [.i .i64 k_l0, .i .i64 (IntKind.wrap .i64 (k_l0 + 1)), .f .f32 ((r0_l2.getD i_l1.toNat default).Long), .f .f32 ((r0_l2.getD i_l1.toNat default).Stiff)]).set i_l1.toNat [.i .i64 k_l0, .i .i64 (IntKind.wrap .i64 (k_l0 + 1)), .f .f32 (ofInt .f32 (IntKind.wrap .i64 ((IntKind.wrap .i64 (k_l0 + 1)) + 1))), .f .f32 ((r0_l2.getD i_l1.toNat default).Stiff)])[i_l1.toNat]? = some [.i .i64 k_l0, .i .i64 (IntKind.wrap .i64 (k_l0 + 1)), .f .f32 (ofInt .f32 (IntKind.wrap .i64 ((IntKind.wrap .i64 (k_l0 + 1)) + 1))), .f .f32 ((r0_l2.getD i_l1.toNat default).Stiff)] from List.getElem?_set_self (by simpa using y_2)) <| sW .i64 ((IntKind.wrap .i64 ((IntKind.wrap .i64 ((IntKind.wrap .i64 (k_l0 + 1)) + 1)) + 1)) + 1) <| sI (i_l1 + 1) y_6 y_7 <| sN)) (by kernel_rfl) (show _ = ⟨.own 0 :: .i .i64 (IntKind.wrap .i64 ((IntKind.wrap .i64 ((IntKind.wrap .i64 ((IntKind.wrap .i64 (k_l0 + 1)) + 1)) + 1)) + 1)) :: .any :: .any :: .i .i64 0 :: .i .i64 (i_l1 + 1) :: an 37 [], [.vec 133 4 ((r0_l2.set i_l1.toNat (⟨k_l0, (IntKind.wrap .i64 (k_l0 + 1)), (ofInt .f32 (IntKind.wrap .i64 ((IntKind.wrap .i64 (k_l0 + 1)) + 1))), (ofInt .f32 (IntKind.wrap .i64 ((IntKind.wrap .i64 ((IntKind.wrap .i64 (k_l0 + 1)) + 1)) + 1)))⟩ : GSpring)).map GSpring.cells) false]⟩ from (by simp [List.map_set, GSpring.cells])) (ih (IntKind.wrap .i64 ((IntKind.wrap .i64 ((IntKind.wrap .i64 ((IntKind.wrap .i64 (k_l0 + 1)) + 1)) + 1)) + 1)) (i_l1 + 1) (r0_l2.set i_l1.toNat (⟨k_l0, (IntKind.wrap .i64 (k_l0 + 1)), (ofInt .f32 (IntKind.wrap .i64 ((IntKind.wrap .i64 (k_l0 + 1)) + 1))), (ofInt .f32 (IntKind.wrap .i64 ((IntKind.wrap .i64 ((IntKind.wrap .i64 (k_l0 + 1)) + 1)) + 1)))⟩ : GSpring)) (show 0 ≤ (i_l1 + 1) from (by omega)) (show (r0_l2.set i_l1.toNat (⟨k_l0, (IntKind.wrap .i64 (k_l0 + 1)), (ofInt .f32 (IntKind.wrap .i64 ((IntKind.wrap .i64 (k_l0 + 1)) + 1))), (ofInt .f32 (IntKind.wrap .i64 ((IntKind.wrap .i64 ((IntKind.wrap .i64 (k_l0 + 1)) + 1)) + 1)))⟩ : GSpring)).length = a_0.length from (by simp_all <;> omega)) (by omega))
  | false =>
   have gh_0 := of_decide_eq_false h_0
   have e : Z1i a_0 k_1 (k + 1) k_l0 i_l1 r0_l2 = (k_l0, r0_l2) := by simp only [Z1i, h_0, cond_false]
   rw [e]
   exact outR (e := (.exit 0)) (EpOk 1) Z3 [] (mR false [1, 1, 2, 1, 38]) [] (p (sB h_0 <| sN)) (by kernel_rfl) (by intro h; cases h)
def Z2o (a_0 : (List GSpring)) (k_1 : Int) : Int × (List GSpring) := (Z1i a_0 k_1 (((a_0.length : Int) - 0).toNat + 1) k_1 0 a_0)
def Zz (a_0 : (List GSpring)) (k_1 : Int) : Int × (List GSpring) := ((Z2o a_0 k_1).1, (Z2o a_0 k_1).2)
theorem Z81 (a_0 : (List GSpring)) (k_1 : Int) (hp0 : a_0.length ≤ 1073741824)  : CallSt prog 62 [.vec 133 4 (a_0.map GSpring.cells) false] [.own 0, .i .i64 k_1] (.i .i64 ((Zz a_0 k_1).1)) [.vec 133 4 (((Zz a_0 k_1).2).map GSpring.cells) false] := by
 refine callS (EpOk 1) Z3 (c := bodyOf f62) [.vec 133 4 (a_0.map GSpring.cells) false] [] (.i .i64 ((Z2o a_0 k_1).1)) [.vec 133 4 (((Z2o a_0 k_1).2).map GSpring.cells) false] func62 (sL (mR false [0, 2, 2, 2, 37]) 1 (lp_val (Z3X a_0 k_1) (x := (Z2o a_0 k_1)) (Z7u a_0 k_1 hp0 (((a_0.length : Int) - 0).toNat + 1) k_1 0 a_0 (show 0 ≤ 0 from (by omega)) (show a_0.length = a_0.length from (by simp)) (Nat.lt_succ_self _)) rfl) <| sK [] sN) rfl (by kernel_rfl) (by kernel_rfl) ?_ ?_
 · rfl
 · simp [Zz]
def Z5F (_ : GSpring) (c : Int) : Int × GSpring := ((IntKind.wrap .i64 ((IntKind.wrap .i64 ((IntKind.wrap .i64 ((IntKind.wrap .i64 (c + 1)) + 1)) + 1)) + 1)), ⟨c, (IntKind.wrap .i64 (c + 1)), ofInt .f32 (IntKind.wrap .i64 ((IntKind.wrap .i64 (c + 1)) + 1)), ofInt .f32 (IntKind.wrap .i64 ((IntKind.wrap .i64 ((IntKind.wrap .i64 (c + 1)) + 1)) + 1))⟩)
theorem ZaD (a : List GSpring) (c : Int) : Zz a c = mkL Z5F a c := by
  unfold Zz Z2o
  rw [mark_loop (f := Z5F) (lo := Z1i a c) (fun k c i r => rfl) _ _ _ _ (Int.le_refl 0) (Nat.lt_succ_self _)]
  simp
theorem Z9Q (a : List GSpring) (c : Int) (g0 : a.length ≤ 1073741824) (h0 : 0 ≤ c) (h1 : c ≤ 4611686018427387904) : c ≤ (Zz a c).1 ∧ (Zz a c).1 ≤ c + 4294967296 := by
  rw [ZaD]
  have q := mkL_ge (f := Z5F) (W := 4) a c (fun x _ c k0 k1 => by simp only [Z5F]; rw [wrap_id (n := c + 1) (by omega) (by omega), show c + 1 + 1 = c + 2 from by omega, wrap_id (n := c + 2) (by omega) (by omega), show c + 2 + 1 = c + 3 from by omega, wrap_id (n := c + 3) (by omega) (by omega), show c + 3 + 1 = c + 4 from by omega, wrap_id (n := c + 4) (by omega) (by omega)]; omega) h0 (by omega)
  omega
def Z1c (a_0 : (List Nat)) (k_1 : Int) : Nat → Int → Int → (List Nat) → Int × (List Nat)
  | 0, _, _, _ => default
  | k + 1, k_l0, i_l1, r0_l2 => (cond (decide (i_l1 < (r0_l2.length : Int)))
    (Z1c a_0 k_1 k (IntKind.wrap .i64 (k_l0 + 1)) (i_l1 + 1) (r0_l2.set i_l1.toNat (ofInt .f32 k_l0)))
    (k_l0, r0_l2))
def Z3I (a_0 : (List Nat)) (k_1 : Int) (r : Int × (List Nat)) : Ex × St := ((.exit 0), ⟨.any :: .i .i64 r.1 :: .any :: .any :: .i .i64 0 :: an 15 [], [.vec 27 1 (r.2.map (cF .f32)) false]⟩)
def Z7g (a_0 : (List Nat)) (k_1 : Int) (k_l0 : Int) (i_l1 : Int) (r0_l2 : (List Nat)) : St := ⟨.own 0 :: .i .i64 k_l0 :: .any :: .any :: .i .i64 0 :: .i .i64 i_l1 :: an 14 [], [.vec 27 1 (r0_l2.map (cF .f32)) false]⟩
theorem Z7h (a_0 : (List Nat)) (k_1 : Int) (hp0 : a_0.length ≤ 1073741824) : ∀ (k : Nat) (k_l0 : Int) (i_l1 : Int) (r0_l2 : (List Nat)) (Z4q : 0 ≤ i_l1) (Z4r : r0_l2.length = a_0.length) (hk : ((a_0.length : Int) - i_l1).toNat < k), Lp prog 1 (sub (bodyOf f41) [1, 0, 1, 0, 0]) (Z7g a_0 k_1 k_l0 i_l1 r0_l2) (Z3I a_0 k_1 (Z1c a_0 k_1 k k_l0 i_l1 r0_l2)).1 (Z3I a_0 k_1 (Z1c a_0 k_1 k k_l0 i_l1 r0_l2)).2 := by
 intro k
 induction k with
 | zero => intro k_l0 i_l1 r0_l2 Z4q Z4r hk; exact absurd hk (Nat.not_lt_zero _)
 | succ k ih =>
  intro k_l0 i_l1 r0_l2 Z4q Z4r hk
  have p {a C} (s : Scr a C) := sZ (cF .f32) r0_l2 <| s
  cases h_0 : (decide (i_l1 < (r0_l2.length : Int))) with
  | true =>
   have gh_0 := of_decide_eq_true h_0
   have y_0 : (0 : Int) ≤ i_l1 := by clear p; exact (by assumption)
   have y_1 : i_l1 < (r0_l2.length : Int) := by clear p; exact (by assumption)
   have y_2 : i_l1.toNat < r0_l2.length := by clear p; exact (by omega)
   have y_3 : (-9223372036854775808 : Int) ≤ (i_l1 + 1) := by clear p; exact (by omega)
   have y_4 : (i_l1 + 1) ≤ (9223372036854775807 : Int) := by clear p; exact (by omega)
   have e : Z1c a_0 k_1 (k + 1) k_l0 i_l1 r0_l2 = (Z1c a_0 k_1 k (IntKind.wrap .i64 (k_l0 + 1)) (i_l1 + 1) (r0_l2.set i_l1.toNat (ofInt .f32 k_l0))) := by simp only [Z1c, h_0, cond_true]
   rw [e]
   exact nextS (EpOk 1) Z3 [] (mR false [0, 2, 2, 2, 14]) [] (⟨.own 0 :: .i .i64 (IntKind.wrap .i64 (k_l0 + 1)) :: .any :: .any :: .i .i64 0 :: .i .i64 (i_l1 + 1) :: an 14 [], [.vec 27 1 ((r0_l2.map (cF .f32)).set i_l1.toNat [.f .f32 (ofInt .f32 k_l0)]) false]⟩) (p (sB h_0 <| sX (cF .f32) r0_l2 i_l1 y_0 y_1 <| sC (maplt (c := (cF .f32)) (l := r0_l2) y_2) <| sW .i64 (k_l0 + 1) <| sI (i_l1 + 1) y_3 y_4 <| sN)) (by kernel_rfl) (show _ = ⟨.own 0 :: .i .i64 (IntKind.wrap .i64 (k_l0 + 1)) :: .any :: .any :: .i .i64 0 :: .i .i64 (i_l1 + 1) :: an 14 [], [.vec 27 1 ((r0_l2.set i_l1.toNat (ofInt .f32 k_l0)).map (cF .f32)) false]⟩ from (by simp [List.map_set, cF])) (ih (IntKind.wrap .i64 (k_l0 + 1)) (i_l1 + 1) (r0_l2.set i_l1.toNat (ofInt .f32 k_l0)) (show 0 ≤ (i_l1 + 1) from (by omega)) (show (r0_l2.set i_l1.toNat (ofInt .f32 k_l0)).length = a_0.length from (by simp_all <;> omega)) (by omega))
  | false =>
   have gh_0 := of_decide_eq_false h_0
   have e : Z1c a_0 k_1 (k + 1) k_l0 i_l1 r0_l2 = (k_l0, r0_l2) := by simp only [Z1c, h_0, cond_false]
   rw [e]
   exact outR (e := (.exit 0)) (EpOk 1) Z3 [] (mR false [1, 1, 2, 1, 15]) [] (p (sB h_0 <| sN)) (by kernel_rfl) (by intro h; cases h)
def Z2a (a_0 : (List Nat)) (k_1 : Int) : Int × (List Nat) := (Z1c a_0 k_1 (((a_0.length : Int) - 0).toNat + 1) k_1 0 a_0)
def Z1g (a_0 : (List Nat)) (k_1 : Int) : Int × (List Nat) := ((Z2a a_0 k_1).1, (Z2a a_0 k_1).2)
theorem Z7K (a_0 : (List Nat)) (k_1 : Int) (hp0 : a_0.length ≤ 1073741824)  : CallSt prog 41 [.vec 27 1 (a_0.map (cF .f32)) false] [.own 0, .i .i64 k_1] (.i .i64 ((Z1g a_0 k_1).1)) [.vec 27 1 (((Z1g a_0 k_1).2).map (cF .f32)) false] := by
 refine callS (EpOk 1) Z3 (c := bodyOf f41) [.vec 27 1 (a_0.map (cF .f32)) false] [] (.i .i64 ((Z2a a_0 k_1).1)) [.vec 27 1 (((Z2a a_0 k_1).2).map (cF .f32)) false] func41 (sL (mR false [0, 2, 2, 2, 14]) 1 (lp_val (Z3I a_0 k_1) (x := (Z2a a_0 k_1)) (Z7h a_0 k_1 hp0 (((a_0.length : Int) - 0).toNat + 1) k_1 0 a_0 (show 0 ≤ 0 from (by omega)) (show a_0.length = a_0.length from (by simp)) (Nat.lt_succ_self _)) rfl) <| sK [] sN) rfl (by kernel_rfl) (by kernel_rfl) ?_ ?_
 · rfl
 · simp [Z1g]
def Z5p (_ : Nat) (c : Int) : Int × Nat := ((IntKind.wrap .i64 (c + 1)), ofInt .f32 c)
theorem Zak (a : List Nat) (c : Int) : Z1g a c = mkL Z5p a c := by
  unfold Z1g Z2a
  rw [mark_loop (f := Z5p) (lo := Z1c a c) (fun k c i r => rfl) _ _ _ _ (Int.le_refl 0) (Nat.lt_succ_self _)]
  simp
theorem Z9z (a : List Nat) (c : Int) (g0 : a.length ≤ 1073741824) (h0 : 0 ≤ c) (h1 : c ≤ 4611686018427387904) : c ≤ (Z1g a c).1 ∧ (Z1g a c).1 ≤ c + 1073741824 := by
  rw [Zak]
  have q := mkL_ge (f := Z5p) (W := 1) a c (fun x _ c k0 k1 => by simp only [Z5p]; rw [wrap_id (n := c + 1) (by omega) (by omega)]; omega) h0 (by omega)
  omega
def Zb (a_0 : GBody) (k_1 : Int) : Int × (List GVector) × (List (List Int)) × (List GSpring) × (List Nat) := ((Z1g a_0.Weights ((Zz a_0.Springs ((Ze a_0.Mesh k_1).1)).1)).1, (Ze a_0.Mesh k_1).2.1, (Ze a_0.Mesh k_1).2.2, (Zz a_0.Springs ((Ze a_0.Mesh k_1).1)).2, (Z1g a_0.Weights ((Zz a_0.Springs ((Ze a_0.Mesh k_1).1)).1)).2)
theorem Z6C (a_0 : GBody) (k_1 : Int) (hp0 : a_0.Mesh.Places.length ≤ 1073741824) (hp1 : a_0.Mesh.Triangles.length ≤ 1073741824) (hp2 : ∀ t ∈ a_0.Mesh.Triangles, t.length ≤ 1073741824) (hp3 : a_0.Springs.length ≤ 1073741824) (hp4 : a_0.Weights.length ≤ 1073741824)  : CallSt prog 17 [.vec 40 3 (a_0.Mesh.Places.map GVector.cells) false, .nest 49 (a_0.Mesh.Triangles.map fun l => l.map (cI .i64)) false, .vec 133 4 (a_0.Springs.map GSpring.cells) false, .vec 27 1 (a_0.Weights.map (cF .f32)) false] [.agg [.own 0, .own 1, .own 2, .f .f32 a_0.Film, .f .f32 a_0.Bend, .own 3, .f .f32 a_0.Fall.X, .f .f32 a_0.Fall.Y, .f .f32 a_0.Fall.Z], .i .i64 k_1] (.i .i64 ((Zb a_0 k_1).1)) [.vec 40 3 (((Zb a_0 k_1).2.1).map GVector.cells) false, .nest 49 (((Zb a_0 k_1).2.2.1).map fun l => l.map (cI .i64)) false, .vec 133 4 (((Zb a_0 k_1).2.2.2.1).map GSpring.cells) false, .vec 27 1 (((Zb a_0 k_1).2.2.2.2).map (cF .f32)) false] := by
 refine callS (EpOk 4) Z3 (c := bodyOf f17) [.vec 40 3 (a_0.Mesh.Places.map GVector.cells) false, .nest 49 (a_0.Mesh.Triangles.map fun l => l.map (cI .i64)) false, .vec 133 4 (a_0.Springs.map GSpring.cells) false, .vec 27 1 (a_0.Weights.map (cF .f32)) false] [] (.i .i64 ((Z1g a_0.Weights ((Zz a_0.Springs ((Ze a_0.Mesh k_1).1)).1)).1)) [.vec 40 3 (((Ze a_0.Mesh k_1).2.1).map GVector.cells) false, .nest 49 (((Ze a_0.Mesh k_1).2.2).map fun l => l.map (cI .i64)) false, .vec 133 4 (((Zz a_0.Springs ((Ze a_0.Mesh k_1).1)).2).map GSpring.cells) false, .vec 27 1 (((Z1g a_0.Weights ((Zz a_0.Springs ((Ze a_0.Mesh k_1).1)).1)).2).map (cF .f32)) false] func17 (sS (CallSt.frame (Z80 a_0.Mesh k_1 hp0 hp1 hp2) [0, 1] (R := [.vec 40 3 (a_0.Mesh.Places.map GVector.cells) false, .nest 49 (a_0.Mesh.Triangles.map fun l => l.map (cI .i64)) false, .vec 133 4 (a_0.Springs.map GSpring.cells) false, .vec 27 1 (a_0.Weights.map (cF .f32)) false, .box 42 [.own 0, .own 1, .own 2, .f .f32 a_0.Film, .f .f32 a_0.Bend, .own 3, .f .f32 a_0.Fall.X, .f .f32 a_0.Fall.Y, .f .f32 a_0.Fall.Z]]) (args' := [.agg [.own 0, .own 1], .i .i64 k_1]) rfl rfl rfl rfl rfl rfl) <| sS (CallSt.frame (Z81 a_0.Springs ((Ze a_0.Mesh k_1).1) hp3) [2] (R := [.vec 40 3 (((Ze a_0.Mesh k_1).2.1).map GVector.cells) false, .nest 49 (((Ze a_0.Mesh k_1).2.2).map fun l => l.map (cI .i64)) false, .vec 133 4 (a_0.Springs.map GSpring.cells) false, .vec 27 1 (a_0.Weights.map (cF .f32)) false, .box 42 [.own 0, .own 1, .own 2, .f .f32 a_0.Film, .f .f32 a_0.Bend, .own 3, .f .f32 a_0.Fall.X, .f .f32 a_0.Fall.Y, .f .f32 a_0.Fall.Z]]) (args' := [.own 2, .i .i64 ((Ze a_0.Mesh k_1).1)]) rfl rfl rfl rfl rfl rfl) <| sS (CallSt.frame (Z7K a_0.Weights ((Zz a_0.Springs ((Ze a_0.Mesh k_1).1)).1) hp4) [3] (R := [.vec 40 3 (((Ze a_0.Mesh k_1).2.1).map GVector.cells) false, .nest 49 (((Ze a_0.Mesh k_1).2.2).map fun l => l.map (cI .i64)) false, .vec 133 4 (((Zz a_0.Springs ((Ze a_0.Mesh k_1).1)).2).map GSpring.cells) false, .vec 27 1 (a_0.Weights.map (cF .f32)) false, .box 42 [.own 0, .own 1, .own 2, .f .f32 a_0.Film, .f .f32 a_0.Bend, .own 3, .f .f32 a_0.Fall.X, .f .f32 a_0.Fall.Y, .f .f32 a_0.Fall.Z]]) (args' := [.own 3, .i .i64 ((Zz a_0.Springs ((Ze a_0.Mesh k_1).1)).1)]) rfl rfl rfl rfl rfl rfl) <| sK [] sN) rfl (by kernel_rfl) (by kernel_rfl) ?_ ?_
 · rfl
 · simp [Zb]
theorem Z7v (a : GBody) (c : Int) (g0 : a.Mesh.Places.length ≤ 1073741824) (g1 : a.Mesh.Triangles.length ≤ 1073741824) (g2 : ∀ t ∈ a.Mesh.Triangles, t.length ≤ 1073741824) (g3 : a.Springs.length ≤ 1073741824) (g4 : a.Weights.length ≤ 1073741824) (h0 : 0 ≤ c) (h1 : c ≤ 2305843009213693952) : c ≤ (Zb a c).1 ∧ (Zb a c).1 ≤ c + 1152921513196781568 := by
  unfold Zb
  have p0 := Z9y a.Mesh c g0 g1 g2 (by omega) (by omega)
  have p1 := Z9Q a.Springs ((Ze a.Mesh c).1) g3 (by omega) (by omega)
  have p2 := Z9z a.Weights ((Zz a.Springs ((Ze a.Mesh c).1)).1) g4 (by omega) (by omega)
  simp only
  omega
def Z1o (a_0 : (List Int)) (k_1 : Int) : Nat → Int → Int → (List Int) → Int × (List Int)
  | 0, _, _, _ => default
  | k + 1, k_l0, i_l1, r0_l2 => (cond (decide (i_l1 < (r0_l2.length : Int)))
    (Z1o a_0 k_1 k (IntKind.wrap .i64 (k_l0 + 1)) (i_l1 + 1) (r0_l2.set i_l1.toNat k_l0))
    (k_l0, r0_l2))
def Z41 (a_0 : (List Int)) (k_1 : Int) (r : Int × (List Int)) : Ex × St := ((.exit 0), ⟨.any :: .i .i64 r.1 :: .any :: .any :: .i .i64 0 :: an 14 [], [.vec 2 1 (r.2.map (cI .i64)) false]⟩)
def Z7H (a_0 : (List Int)) (k_1 : Int) (k_l0 : Int) (i_l1 : Int) (r0_l2 : (List Int)) : St := ⟨.own 0 :: .i .i64 k_l0 :: .any :: .any :: .i .i64 0 :: .i .i64 i_l1 :: an 13 [], [.vec 2 1 (r0_l2.map (cI .i64)) false]⟩
theorem Z7I (a_0 : (List Int)) (k_1 : Int) (hp0 : a_0.length ≤ 1073741824) : ∀ (k : Nat) (k_l0 : Int) (i_l1 : Int) (r0_l2 : (List Int)) (Z4R : 0 ≤ i_l1) (Z4S : r0_l2.length = a_0.length) (hk : ((a_0.length : Int) - i_l1).toNat < k), Lp prog 1 (sub (bodyOf f27) [1, 0, 1, 0, 0]) (Z7H a_0 k_1 k_l0 i_l1 r0_l2) (Z41 a_0 k_1 (Z1o a_0 k_1 k k_l0 i_l1 r0_l2)).1 (Z41 a_0 k_1 (Z1o a_0 k_1 k k_l0 i_l1 r0_l2)).2 := by
 intro k
 induction k with
 | zero => intro k_l0 i_l1 r0_l2 Z4R Z4S hk; exact absurd hk (Nat.not_lt_zero _)
 | succ k ih =>
  intro k_l0 i_l1 r0_l2 Z4R Z4S hk
  have p {a C} (s : Scr a C) := sZ (cI .i64) r0_l2 <| s
  cases h_0 : (decide (i_l1 < (r0_l2.length : Int))) with
  | true =>
   have gh_0 := of_decide_eq_true h_0
   have y_0 : (0 : Int) ≤ i_l1 := by clear p; exact (by assumption)
   have y_1 : i_l1 < (r0_l2.length : Int) := by clear p; exact (by assumption)
   have y_2 : i_l1.toNat < r0_l2.length := by clear p; exact (by omega)
   have y_3 : (-9223372036854775808 : Int) ≤ (i_l1 + 1) := by clear p; exact (by omega)
   have y_4 : (i_l1 + 1) ≤ (9223372036854775807 : Int) := by clear p; exact (by omega)
   have e : Z1o a_0 k_1 (k + 1) k_l0 i_l1 r0_l2 = (Z1o a_0 k_1 k (IntKind.wrap .i64 (k_l0 + 1)) (i_l1 + 1) (r0_l2.set i_l1.toNat k_l0)) := by simp only [Z1o, h_0, cond_true]
   rw [e]
   exact nextS (EpOk 1) Z3 [] (mR false [0, 2, 2, 2, 13]) [] (⟨.own 0 :: .i .i64 (IntKind.wrap .i64 (k_l0 + 1)) :: .any :: .any :: .i .i64 0 :: .i .i64 (i_l1 + 1) :: an 13 [], [.vec 2 1 ((r0_l2.map (cI .i64)).set i_l1.toNat [.i .i64 k_l0]) false]⟩) (p (sB h_0 <| sX (cI .i64) r0_l2 i_l1 y_0 y_1 <| sC (maplt (c := (cI .i64)) (l := r0_l2) y_2) <| sW .i64 (k_l0 + 1) <| sI (i_l1 + 1) y_3 y_4 <| sN)) (by kernel_rfl) (show _ = ⟨.own 0 :: .i .i64 (IntKind.wrap .i64 (k_l0 + 1)) :: .any :: .any :: .i .i64 0 :: .i .i64 (i_l1 + 1) :: an 13 [], [.vec 2 1 ((r0_l2.set i_l1.toNat k_l0).map (cI .i64)) false]⟩ from (by simp [List.map_set, cI])) (ih (IntKind.wrap .i64 (k_l0 + 1)) (i_l1 + 1) (r0_l2.set i_l1.toNat k_l0) (show 0 ≤ (i_l1 + 1) from (by omega)) (show (r0_l2.set i_l1.toNat k_l0).length = a_0.length from (by simp_all <;> omega)) (by omega))
  | false =>
   have gh_0 := of_decide_eq_false h_0
   have e : Z1o a_0 k_1 (k + 1) k_l0 i_l1 r0_l2 = (k_l0, r0_l2) := by simp only [Z1o, h_0, cond_false]
   rw [e]
   exact outR (e := (.exit 0)) (EpOk 1) Z3 [] (mR false [1, 1, 2, 1, 14]) [] (p (sB h_0 <| sN)) (by kernel_rfl) (by intro h; cases h)
def Z2p (a_0 : (List Int)) (k_1 : Int) : Int × (List Int) := (Z1o a_0 k_1 (((a_0.length : Int) - 0).toNat + 1) k_1 0 a_0)
def Z1H (a_0 : (List Int)) (k_1 : Int) : Int × (List Int) := ((Z2p a_0 k_1).1, (Z2p a_0 k_1).2)
theorem Z8j (a_0 : (List Int)) (k_1 : Int) (hp0 : a_0.length ≤ 1073741824)  : CallSt prog 27 [.vec 2 1 (a_0.map (cI .i64)) false] [.own 0, .i .i64 k_1] (.i .i64 ((Z1H a_0 k_1).1)) [.vec 2 1 (((Z1H a_0 k_1).2).map (cI .i64)) false] := by
 refine callS (EpOk 1) Z3 (c := bodyOf f27) [.vec 2 1 (a_0.map (cI .i64)) false] [] (.i .i64 ((Z2p a_0 k_1).1)) [.vec 2 1 (((Z2p a_0 k_1).2).map (cI .i64)) false] func27 (sL (mR false [0, 2, 2, 2, 13]) 1 (lp_val (Z41 a_0 k_1) (x := (Z2p a_0 k_1)) (Z7I a_0 k_1 hp0 (((a_0.length : Int) - 0).toNat + 1) k_1 0 a_0 (show 0 ≤ 0 from (by omega)) (show a_0.length = a_0.length from (by simp)) (Nat.lt_succ_self _)) rfl) <| sK [] sN) rfl (by kernel_rfl) (by kernel_rfl) ?_ ?_
 · rfl
 · simp [Z1H]
def Z6B (_ : Int) (c : Int) : Int × Int := ((IntKind.wrap .i64 (c + 1)), c)
theorem ZaU (a : List Int) (c : Int) : Z1H a c = mkL Z6B a c := by
  unfold Z1H Z2p
  rw [mark_loop (f := Z6B) (lo := Z1o a c) (fun k c i r => rfl) _ _ _ _ (Int.le_refl 0) (Nat.lt_succ_self _)]
  simp
theorem Zal (a : List Int) (c : Int) (g0 : a.length ≤ 1073741824) (h0 : 0 ≤ c) (h1 : c ≤ 4611686018427387904) : c ≤ (Z1H a c).1 ∧ (Z1H a c).1 ≤ c + 1073741824 := by
  rw [ZaU]
  have q := mkL_ge (f := Z6B) (W := 1) a c (fun x _ c k0 k1 => by simp only [Z6B]; rw [wrap_id (n := c + 1) (by omega) (by omega)]; omega) h0 (by omega)
  omega
def ZF (a_0 : (List GVector)) (k_1 : Int) : Nat → Int → Int → (Unit) ⊕ (Int)
  | 0, _, _ => .inl default
  | k + 1, k_l0, i_l1 => (cond (decide (i_l1 < (a_0.length : Int)))
    (cond (fcmp .neq .f32 ((a_0.getD i_l1.toNat default).X) (ofInt .f32 k_l0))
      (.inl ())
      (cond (fcmp .neq .f32 ((a_0.getD i_l1.toNat default).Y) (ofInt .f32 (IntKind.wrap .i64 (k_l0 + 1))))
        (.inl ())
        (cond (fcmp .neq .f32 ((a_0.getD i_l1.toNat default).Z) (ofInt .f32 (IntKind.wrap .i64 ((IntKind.wrap .i64 (k_l0 + 1)) + 1))))
          (.inl ())
          (ZF a_0 k_1 k (IntKind.wrap .i64 ((IntKind.wrap .i64 ((IntKind.wrap .i64 (k_l0 + 1)) + 1)) + 1)) (i_l1 + 1)))))
    (.inr k_l0))
def Z3G (a_0 : (List GVector)) (k_1 : Int) : (Unit) ⊕ (Int) → Ex × St
  | .inl r => (.ret, ⟨an 4 (.i .i64 (-1) :: an 38 []), []⟩)
  | .inr r => ((.exit 0), ⟨.any :: .i .i64 r :: an 41 [], []⟩)
def Z8k (a_0 : (List GVector)) (k_1 : Int) (k_l0 : Int) (i_l1 : Int) : St := ⟨.sl (a_0.map GVector.cells) :: .i .i64 k_l0 :: .any :: .any :: .any :: .i .i64 i_l1 :: an 37 [], []⟩
theorem Z69 (a_0 : (List GVector)) (k_1 : Int) (hp0 : a_0.length ≤ 1073741824) : ∀ (k : Nat) (k_l0 : Int) (i_l1 : Int) (Z5q : 0 ≤ i_l1) (hk : ((a_0.length : Int) - i_l1).toNat < k), Lp prog 0 (sub (bodyOf f19) [1, 0, 1, 0, 0]) (Z8k a_0 k_1 k_l0 i_l1) (Z3G a_0 k_1 (ZF a_0 k_1 k k_l0 i_l1)).1 (Z3G a_0 k_1 (ZF a_0 k_1 k k_l0 i_l1)).2 := by
 intro k
 induction k with
 | zero => intro k_l0 i_l1 Z5q hk; exact absurd hk (Nat.not_lt_zero _)
 | succ k ih =>
  intro k_l0 i_l1 Z5q hk
  have p {a C} (s : Scr a C) := sZ GVector.cells a_0 <| s
  cases h_0 : (decide (i_l1 < (a_0.length : Int))) with
  | true =>
   have gh_0 := of_decide_eq_true h_0
   have y_0 : (0 : Int) ≤ i_l1 := by clear p; exact (by assumption)
   have y_1 : i_l1 < (a_0.length : Int) := by clear p; exact (by assumption)
   have q {a C} (s : Scr a C) := p (sB h_0 <| sG GVector.cells a_0 i_l1 y_0 y_1 <| s)
   clear p
   cases h_1 : (fcmp .neq .f32 ((a_0.getD i_l1.toNat default).X) (ofInt .f32 k_l0)) with
   | true =>
    have e : ZF a_0 k_1 (k + 1) k_l0 i_l1 = (.inl ()) := by simp only [ZF, h_0, h_1, cond_true]
    rw [e]
    exact outR (e := .ret) E0Ok Z3 [] (mR false [4, 1, 38]) [] (q (sB h_1 <| sN)) (by kernel_rfl) (by intro h; cases h)
   | false =>
    have p {a C} (s : Scr a C) := q (sB h_1 <| sW .i64 (k_l0 + 1) <| sG GVector.cells a_0 i_l1 y_0 y_1 <| s)
    clear q
    cases h_2 : (fcmp .neq .f32 ((a_0.getD i_l1.toNat default).Y) (ofInt .f32 (IntKind.wrap .i64 (k_l0 + 1)))) with
    | true =>
     have e : ZF a_0 k_1 (k + 1) k_l0 i_l1 = (.inl ()) := by simp only [ZF, h_0, h_1, h_2, cond_true, cond_false]
     rw [e]
     exact outR (e := .ret) E0Ok Z3 [] (mR false [4, 1, 38]) [] (p (sB h_2 <| sN)) (by kernel_rfl) (by intro h; cases h)
    | false =>
     have q {a C} (s : Scr a C) := p (sB h_2 <| sW .i64 ((IntKind.wrap .i64 (k_l0 + 1)) + 1) <| sG GVector.cells a_0 i_l1 y_0 y_1 <| s)
     clear p
     cases h_3 : (fcmp .neq .f32 ((a_0.getD i_l1.toNat default).Z) (ofInt .f32 (IntKind.wrap .i64 ((IntKind.wrap .i64 (k_l0 + 1)) + 1)))) with
     | true =>
      have e : ZF a_0 k_1 (k + 1) k_l0 i_l1 = (.inl ()) := by simp only [ZF, h_0, h_1, h_2, h_3, cond_true, cond_false]
      rw [e]
      exact outR (e := .ret) E0Ok Z3 [] (mR false [4, 1, 38]) [] (q (sB h_3 <| sN)) (by kernel_rfl) (by intro h; cases h)
     | false =>
      have y_2 : (-9223372036854775808 : Int) ≤ (i_l1 + 1) := by clear q; exact (by omega)
      have y_3 : (i_l1 + 1) ≤ (9223372036854775807 : Int) := by clear q; exact (by omega)
      have e : ZF a_0 k_1 (k + 1) k_l0 i_l1 = (ZF a_0 k_1 k (IntKind.wrap .i64 ((IntKind.wrap .i64 ((IntKind.wrap .i64 (k_l0 + 1)) + 1)) + 1)) (i_l1 + 1)) := by simp only [ZF, h_0, h_1, h_2, h_3, cond_true, cond_false]
      rw [e]
      exact nextR E0Ok Z3 [] (mR false [0, 2, 3, 1, 37]) [] (ih (IntKind.wrap .i64 ((IntKind.wrap .i64 ((IntKind.wrap .i64 (k_l0 + 1)) + 1)) + 1)) (i_l1 + 1) (show 0 ≤ (i_l1 + 1) from (by omega)) (by omega)) (q (sB h_3 <| sW .i64 ((IntKind.wrap .i64 ((IntKind.wrap .i64 (k_l0 + 1)) + 1)) + 1) <| sI (i_l1 + 1) y_2 y_3 <| sN)) (by kernel_rfl)
  | false =>
   have gh_0 := of_decide_eq_false h_0
   have e : ZF a_0 k_1 (k + 1) k_l0 i_l1 = (.inr k_l0) := by simp only [ZF, h_0, cond_false]
   rw [e]
   exact outR (e := (.exit 0)) E0Ok Z3 [] (mR false [1, 1, 41]) [] (p (sB h_0 <| sN)) (by kernel_rfl) (by intro h; cases h)
def Z34 (a_0 : (List GVector)) (k_1 : Int) : (Unit) ⊕ (Int) := (ZF a_0 k_1 (((a_0.length : Int) - 0).toNat + 1) k_1 0)
def Z29 (a_0 : (List GVector)) (k_1 : Int) : Int := (match (Z34 a_0 k_1) with
  | .inl r1 => (-1)
  | .inr r1 => r1)
theorem Z7a (a_0 : (List GVector)) (k_1 : Int) (hp0 : a_0.length ≤ 1073741824)  : Fn prog 19 [.sl (a_0.map GVector.cells), .i .i64 k_1] (.i .i64 (Z29 a_0 k_1)) [] := by
 cases h0 : (Z34 a_0 k_1) with
 | inl r1 =>
  refine fnS E0Ok Z3 (c := bodyOf f19) [] (.i .i64 (-1)) [] func19 (sL (mR false [0, 2, 3, 1, 37]) 0 (lp_val (Z3G a_0 k_1) (x := (Z34 a_0 k_1)) (Z69 a_0 k_1 hp0 (((a_0.length : Int) - 0).toNat + 1) k_1 0 (show 0 ≤ 0 from (by omega)) (Nat.lt_succ_self _)) h0) <| sK [] sN) rfl (by kernel_rfl) (by kernel_rfl) rfl ?_ ?_
  · simp only [Z29, h0]
  · rfl
 | inr r1 =>
  refine fnS E0Ok Z3 (c := bodyOf f19) [] (.i .i64 r1) [] func19 (sL (mR false [0, 2, 3, 1, 37]) 0 (lp_val (Z3G a_0 k_1) (x := (Z34 a_0 k_1)) (Z69 a_0 k_1 hp0 (((a_0.length : Int) - 0).toNat + 1) k_1 0 (show 0 ≤ 0 from (by omega)) (Nat.lt_succ_self _)) h0) <| sK [] sN) rfl (by kernel_rfl) (by kernel_rfl) rfl ?_ ?_
  · simp only [Z29, h0]
  · rfl
def Z7b (x : GVector) (c : Int) : Bool := (!(fcmp .neq .f32 x.X (ofInt .f32 c))) && (!(fcmp .neq .f32 x.Y (ofInt .f32 (IntKind.wrap .i64 (c + 1))))) && (!(fcmp .neq .f32 x.Z (ofInt .f32 (IntKind.wrap .i64 ((IntKind.wrap .i64 (c + 1)) + 1)))))
def Z7U (_ : GVector) (c : Int) : Int := (IntKind.wrap .i64 ((IntKind.wrap .i64 ((IntKind.wrap .i64 (c + 1)) + 1)) + 1))
theorem ZbO (a : List GVector) (c : Int) : Z29 a c = match hdL Z7b Z7U a c with
    | some c' => c'
    | none => -1 := by
  unfold Z29 Z34
  rw [held_loop (p := Z7b) (q := Z7U) (a := a) (x := ()) (lo := ZF a c) (fun k c i => by
    rw [ZF]
    unfold Z7b Z7U
    generalize a.getD i.toNat default = x
    cases decide (i < (a.length : Int)) <;> cases fcmp .neq .f32 x.X (ofInt .f32 c) <;> cases fcmp .neq .f32 x.Y (ofInt .f32 (IntKind.wrap .i64 (c + 1))) <;> cases fcmp .neq .f32 x.Z (ofInt .f32 (IntKind.wrap .i64 ((IntKind.wrap .i64 (c + 1)) + 1))) <;> rfl) _ _ _ (Int.le_refl 0) (Nat.lt_succ_self _)]
  simp only [Int.toNat_zero, List.drop_zero]
  cases hdL Z7b Z7U a c <;> rfl
def ZO (aB_0 : GBody) (aHeld_1 : (List Int)) : Bool := (cond (decide ((aHeld_1.length : Int) > 1048576))
  true
  (cond (decide ((Z1N aB_0 1048576) < 0))
    true
    (cond (Z2y ((Zg aB_0 aHeld_1).1) ((Zp aB_0 aHeld_1).1))
      (cond ((Zg aB_0 aHeld_1).2 == (Zp aB_0 aHeld_1).2)
        (cond (Z2D aB_0 aB_0)
          (cond (Z2e aHeld_1 aHeld_1)
            (cond (decide ((Z1H aHeld_1 ((Zb aB_0 1).1)).1 < 0))
              false
              (cond (decide ((Z29 ((Zc ((Zg aB_0 aHeld_1).1) 1).2) 1) < 0))
                false
                (cond ((Z29 ((Zc ((Zg aB_0 aHeld_1).1) 1).2) 1) != (Zc ((Zg aB_0 aHeld_1).1) 1).1)
                  false
                  true)))
            false)
          false)
        false)
      false)))
set_option maxHeartbeats 1000000 in
theorem Z7J (aB_0 : GBody) (aHeld_1 : (List Int)) (hp0 : aB_0.Mesh.Places.length ≤ 9223372036854775807) (hp1 : aB_0.Mesh.Triangles.length ≤ 9223372036854775807) (hp2 : ∀ t ∈ aB_0.Mesh.Triangles, t.length ≤ 9223372036854775807) (hp3 : aB_0.Springs.length ≤ 9223372036854775807) (hp4 : aB_0.Weights.length ≤ 9223372036854775807) (hp5 : aHeld_1.length ≤ 9223372036854775807)  : Fn prog 5 [.agg [.sl (aB_0.Mesh.Places.map GVector.cells), .sl (aB_0.Mesh.Triangles.map (cL (cI .i64))), .sl (aB_0.Springs.map GSpring.cells), .f .f32 aB_0.Film, .f .f32 aB_0.Bend, .sl (aB_0.Weights.map (cF .f32)), .f .f32 aB_0.Fall.X, .f .f32 aB_0.Fall.Y, .f .f32 aB_0.Fall.Z], .sl (aHeld_1.map (cI .i64))] (.b (ZO aB_0 aHeld_1)) [] := by
 have z0 := (Z82 aB_0 1048576 (by omega) (by omega) (by assumption) (by omega) (by omega) (by omega) (by omega))
 have p {a C} (s : Scr a C) := sZ (cI .i64) aHeld_1 <| s
 cases h0 : (decide ((aHeld_1.length : Int) > 1048576)) with
 | true =>
  have gh0 := of_decide_eq_true h0
  refine fnS E0Ok Z3 (c := bodyOf f5) [] (.b true) [] func5 (p (sB h0 <| sK [] sN)) rfl (by kernel_rfl) (by kernel_rfl) rfl ?_ ?_
  · simp only [ZO, h0, cond_true]
  · rfl
 | false =>
  have gh0 := of_decide_eq_false h0
  have q {a C} (s : Scr a C) := p (sB h0 <| sF (Zb3 aB_0 1048576 hp0 hp1 hp2 hp3 hp4) <| s)
  clear p
  cases h1 : (decide ((Z1N aB_0 1048576) < 0)) with
  | true =>
   have gh1 := of_decide_eq_true h1
   refine fnS E0Ok Z3 (c := bodyOf f5) [] (.b true) [] func5 (q (sB h1 <| sK [] sN)) rfl (by kernel_rfl) (by kernel_rfl) rfl ?_ ?_
   · simp only [ZO, h0, h1, cond_true, cond_false]
   · rfl
  | false =>
   have gh1 := of_decide_eq_false h1
   have y0 : aB_0.Mesh.Places.length ≤ 1073741824 := by clear q; exact (by omega)
   have y1 : aB_0.Mesh.Triangles.length ≤ 1073741824 := by clear q; exact (by omega)
   have y2 : ∀ t ∈ aB_0.Mesh.Triangles, t.length ≤ 1073741824 := by clear q; exact (by intro t ht; (have q := z0.2.2.2.2.2.2 t ht; omega))
   have y3 : aB_0.Springs.length ≤ 1073741824 := by clear q; exact (by omega)
   have y4 : aB_0.Weights.length ≤ 1073741824 := by clear q; exact (by omega)
   have y5 : aHeld_1.length ≤ 1073741824 := by clear q; exact (by omega)
   have l1 := (Z7W aB_0 aHeld_1)
   have l2 := (Z5A aB_0 aHeld_1)
   have y6 : ((Zg aB_0 aHeld_1).1).length ≤ 1073741824 := by clear q; exact (by omega)
   have y7 : ((Zp aB_0 aHeld_1).1).length ≤ 1073741824 := by clear q; exact (by omega)
   have p {a C} (s : Scr a C) := q (sB h1 <| sF (Z5D aB_0 y0 y1 y2 y3 y4) <| sF (Z4b aHeld_1 y5) <| sF (Fn.castA (args' := [.agg [.sl (aB_0.Mesh.Places.map GVector.cells), .sl ((aB_0.Mesh.Triangles.map fun l => l.map (cI .i64)).map fun l => [.sl l]), .sl (aB_0.Springs.map GSpring.cells), .f .f32 aB_0.Film, .f .f32 aB_0.Bend, .sl (aB_0.Weights.map (cF .f32)), .f .f32 aB_0.Fall.X, .f .f32 aB_0.Fall.Y, .f .f32 aB_0.Fall.Z], .sl (aHeld_1.map (cI .i64))]) (Z9L aB_0 aHeld_1 y0 y1 y2 y3 y4 y5) (by simp [cL, Function.comp_def]; done)) <| sF (Z5D aB_0 y0 y1 y2 y3 y4) <| sF (Z4b aHeld_1 y5) <| sF (Fn.castA (args' := [.agg [.sl (aB_0.Mesh.Places.map GVector.cells), .sl ((aB_0.Mesh.Triangles.map fun l => l.map (cI .i64)).map fun l => [.sl l]), .sl (aB_0.Springs.map GSpring.cells), .f .f32 aB_0.Film, .f .f32 aB_0.Bend, .sl (aB_0.Weights.map (cF .f32)), .f .f32 aB_0.Fall.X, .f .f32 aB_0.Fall.Y, .f .f32 aB_0.Fall.Z], .sl (aHeld_1.map (cI .i64))]) (Z7k aB_0 aHeld_1 y0 y1 y2 y3 y4 y5) (by simp [cL, Function.comp_def]; done)) <| sF (Z4L ((Zg aB_0 aHeld_1).1) ((Zp aB_0 aHeld_1).1) y6 y7) <| s)
   clear q
   cases h2 : (Z2y ((Zg aB_0 aHeld_1).1) ((Zp aB_0 aHeld_1).1)) with
   | true =>
    have q {a C} (s : Scr a C) := p (sB' h2 <| sB' h2 <| sB' h2 <| sB' h2 <| s)
    clear p
    cases h3 : ((Zg aB_0 aHeld_1).2 == (Zp aB_0 aHeld_1).2) with
    | true =>
     have gh3 := eq_of_beq h3
     have p {a C} (s : Scr a C) := q (sB' h3 <| sK [3, 3] <| sF (Z5D aB_0 y0 y1 y2 y3 y4) <| sF (Fn.castA (args' := [.agg [.sl (aB_0.Mesh.Places.map GVector.cells), .sl ((aB_0.Mesh.Triangles.map fun l => l.map (cI .i64)).map fun l => [.sl l]), .sl (aB_0.Springs.map GSpring.cells), .f .f32 aB_0.Film, .f .f32 aB_0.Bend, .sl (aB_0.Weights.map (cF .f32)), .f .f32 aB_0.Fall.X, .f .f32 aB_0.Fall.Y, .f .f32 aB_0.Fall.Z], .agg [.sl (aB_0.Mesh.Places.map GVector.cells), .sl ((aB_0.Mesh.Triangles.map fun l => l.map (cI .i64)).map fun l => [.sl l]), .sl (aB_0.Springs.map GSpring.cells), .f .f32 aB_0.Film, .f .f32 aB_0.Bend, .sl (aB_0.Weights.map (cF .f32)), .f .f32 aB_0.Fall.X, .f .f32 aB_0.Fall.Y, .f .f32 aB_0.Fall.Z]]) (Zbn aB_0 aB_0 y0 y1 y2 y3 y4 y0 y1 y2 y3 y4) (by simp [cL, Function.comp_def]; done)) <| s)
     clear q
     cases h4 : (Z2D aB_0 aB_0) with
     | true =>
      have q {a C} (s : Scr a C) := p (sB' h4 <| sF (Z4b aHeld_1 y5) <| sF (Z7S aHeld_1 aHeld_1 y5 y5) <| s)
      clear p
      cases h5 : (Z2e aHeld_1 aHeld_1) with
      | true =>
       have p {a C} (s : Scr a C) := q (sB' h5 <| sS (CallSt.frame (Z6C aB_0 1 y0 y1 y2 y3 y4) [7, 8, 9, 10] (R := [.box 32 [.sl (aB_0.Mesh.Places.map GVector.cells), .sl (aB_0.Mesh.Triangles.map (cL (cI .i64))), .sl (aB_0.Springs.map GSpring.cells), .f .f32 aB_0.Film, .f .f32 aB_0.Bend, .sl (aB_0.Weights.map (cF .f32)), .f .f32 aB_0.Fall.X, .f .f32 aB_0.Fall.Y, .f .f32 aB_0.Fall.Z], .vec 40 3 (aB_0.Mesh.Places.map GVector.cells) false, .nest 49 (aB_0.Mesh.Triangles.map fun l => l.map (cI .i64)) false, .vec 133 4 (aB_0.Springs.map GSpring.cells) false, .vec 27 1 (aB_0.Weights.map (cF .f32)) false, .vec 2 1 (aHeld_1.map (cI .i64)) false, .vec 40 3 (((Zp aB_0 aHeld_1).1).map GVector.cells) false, .vec 40 3 (aB_0.Mesh.Places.map GVector.cells) false, .nest 49 (aB_0.Mesh.Triangles.map fun l => l.map (cI .i64)) false, .vec 133 4 (aB_0.Springs.map GSpring.cells) false, .vec 27 1 (aB_0.Weights.map (cF .f32)) false, .box 42 [.own 7, .own 8, .own 9, .f .f32 aB_0.Film, .f .f32 aB_0.Bend, .own 10, .f .f32 aB_0.Fall.X, .f .f32 aB_0.Fall.Y, .f .f32 aB_0.Fall.Z], .vec 2 1 (aHeld_1.map (cI .i64)) false, .vec 40 3 (((Zg aB_0 aHeld_1).1).map GVector.cells) false, .vec 40 3 (aB_0.Mesh.Places.map GVector.cells) false, .nest 49 (aB_0.Mesh.Triangles.map fun l => l.map (cI .i64)) false, .vec 133 4 (aB_0.Springs.map GSpring.cells) false, .vec 27 1 (aB_0.Weights.map (cF .f32)) false, .vec 2 1 (aHeld_1.map (cI .i64)) false]) (args' := [.agg [.own 7, .own 8, .own 9, .f .f32 aB_0.Film, .f .f32 aB_0.Bend, .own 10, .f .f32 aB_0.Fall.X, .f .f32 aB_0.Fall.Y, .f .f32 aB_0.Fall.Z], .i .i64 1]) rfl rfl rfl rfl rfl rfl) <| sS (CallSt.frame (Z8j aHeld_1 ((Zb aB_0 1).1) y5) [12] (R := [.box 32 [.sl (aB_0.Mesh.Places.map GVector.cells), .sl (aB_0.Mesh.Triangles.map (cL (cI .i64))), .sl (aB_0.Springs.map GSpring.cells), .f .f32 aB_0.Film, .f .f32 aB_0.Bend, .sl (aB_0.Weights.map (cF .f32)), .f .f32 aB_0.Fall.X, .f .f32 aB_0.Fall.Y, .f .f32 aB_0.Fall.Z], .vec 40 3 (aB_0.Mesh.Places.map GVector.cells) false, .nest 49 (aB_0.Mesh.Triangles.map fun l => l.map (cI .i64)) false, .vec 133 4 (aB_0.Springs.map GSpring.cells) false, .vec 27 1 (aB_0.Weights.map (cF .f32)) false, .vec 2 1 (aHeld_1.map (cI .i64)) false, .vec 40 3 (((Zp aB_0 aHeld_1).1).map GVector.cells) false, .vec 40 3 (((Zb aB_0 1).2.1).map GVector.cells) false, .nest 49 (((Zb aB_0 1).2.2.1).map fun l => l.map (cI .i64)) false, .vec 133 4 (((Zb aB_0 1).2.2.2.1).map GSpring.cells) false, .vec 27 1 (((Zb aB_0 1).2.2.2.2).map (cF .f32)) false, .box 42 [.own 7, .own 8, .own 9, .f .f32 aB_0.Film, .f .f32 aB_0.Bend, .own 10, .f .f32 aB_0.Fall.X, .f .f32 aB_0.Fall.Y, .f .f32 aB_0.Fall.Z], .vec 2 1 (aHeld_1.map (cI .i64)) false, .vec 40 3 (((Zg aB_0 aHeld_1).1).map GVector.cells) false, .vec 40 3 (aB_0.Mesh.Places.map GVector.cells) false, .nest 49 (aB_0.Mesh.Triangles.map fun l => l.map (cI .i64)) false, .vec 133 4 (aB_0.Springs.map GSpring.cells) false, .vec 27 1 (aB_0.Weights.map (cF .f32)) false, .vec 2 1 (aHeld_1.map (cI .i64)) false]) (args' := [.own 12, .i .i64 ((Zb aB_0 1).1)]) rfl rfl rfl rfl rfl rfl) <| s)
       clear q
       cases h6 : (decide ((Z1H aHeld_1 ((Zb aB_0 1).1)).1 < 0)) with
       | true =>
        have gh6 := of_decide_eq_true h6
        refine fnS E0Ok Z3 (c := bodyOf f5) [] (.b false) [] func5 (p (sB h6 <| sB h6 <| sB h6 <| sB h6 <| sB h6 <| sB (show true = true from rfl) <| sB (show true = true from rfl) <| sB (show true = true from rfl) <| sB (show true = true from rfl) <| sB (show true = true from rfl) <| sK [] sN)) rfl (by kernel_rfl) (by kernel_rfl) rfl ?_ ?_
        · simp only [ZO, h0, h1, h2, h3, h4, h5, h6, cond_true, cond_false]
        · rfl
       | false =>
        have gh6 := of_decide_eq_false h6
        have y8 : ((Zc ((Zg aB_0 aHeld_1).1) 1).2).length ≤ 1073741824 := by clear p; exact (by simp_all <;> omega)
        have q {a C} (s : Scr a C) := p (sB h6 <| sB h6 <| sB h6 <| sF (Z4L ((Zg aB_0 aHeld_1).1) ((Zp aB_0 aHeld_1).1) y6 y7) <| sB h6 <| sB h6 <| sB' h2 <| sB' h2 <| sB' h2 <| sB' h2 <| sB' h3 <| sS (CallSt.frame (Z5C ((Zg aB_0 aHeld_1).1) 1 y6) [13] (R := [.box 32 [.sl (aB_0.Mesh.Places.map GVector.cells), .sl (aB_0.Mesh.Triangles.map (cL (cI .i64))), .sl (aB_0.Springs.map GSpring.cells), .f .f32 aB_0.Film, .f .f32 aB_0.Bend, .sl (aB_0.Weights.map (cF .f32)), .f .f32 aB_0.Fall.X, .f .f32 aB_0.Fall.Y, .f .f32 aB_0.Fall.Z], .vec 40 3 (aB_0.Mesh.Places.map GVector.cells) false, .nest 49 (aB_0.Mesh.Triangles.map fun l => l.map (cI .i64)) false, .vec 133 4 (aB_0.Springs.map GSpring.cells) false, .vec 27 1 (aB_0.Weights.map (cF .f32)) false, .vec 2 1 (aHeld_1.map (cI .i64)) false, .vec 40 3 (((Zp aB_0 aHeld_1).1).map GVector.cells) false, .vec 40 3 (((Zb aB_0 1).2.1).map GVector.cells) false, .nest 49 (((Zb aB_0 1).2.2.1).map fun l => l.map (cI .i64)) false, .vec 133 4 (((Zb aB_0 1).2.2.2.1).map GSpring.cells) false, .vec 27 1 (((Zb aB_0 1).2.2.2.2).map (cF .f32)) false, .box 42 [.own 7, .own 8, .own 9, .f .f32 aB_0.Film, .f .f32 aB_0.Bend, .own 10, .f .f32 aB_0.Fall.X, .f .f32 aB_0.Fall.Y, .f .f32 aB_0.Fall.Z], .vec 2 1 (((Z1H aHeld_1 ((Zb aB_0 1).1)).2).map (cI .i64)) false, .vec 40 3 (((Zg aB_0 aHeld_1).1).map GVector.cells) false, .vec 40 3 (aB_0.Mesh.Places.map GVector.cells) false, .nest 49 (aB_0.Mesh.Triangles.map fun l => l.map (cI .i64)) false, .vec 133 4 (aB_0.Springs.map GSpring.cells) false, .vec 27 1 (aB_0.Weights.map (cF .f32)) false, .vec 2 1 (aHeld_1.map (cI .i64)) false]) (args' := [.own 13, .i .i64 1]) rfl rfl rfl rfl rfl rfl) <| sF (Z7a ((Zc ((Zg aB_0 aHeld_1).1) 1).2) 1 y8) <| s)
        clear p
        cases h7 : (decide ((Z29 ((Zc ((Zg aB_0 aHeld_1).1) 1).2) 1) < 0)) with
        | true =>
         have gh7 := of_decide_eq_true h7
         refine fnS E0Ok Z3 (c := bodyOf f5) [] (.b false) [] func5 (q (sB h7 <| sK [] sN)) rfl (by kernel_rfl) (by kernel_rfl) rfl ?_ ?_
         · simp only [ZO, h0, h1, h2, h3, h4, h5, h6, h7, cond_true, cond_false]
         · rfl
        | false =>
         have gh7 := of_decide_eq_false h7
         have p {a C} (s : Scr a C) := q (sB h7 <| s)
         clear q
         cases h8 : ((Z29 ((Zc ((Zg aB_0 aHeld_1).1) 1).2) 1) != (Zc ((Zg aB_0 aHeld_1).1) 1).1) with
         | true =>
          have gh8 := bne_iff_ne.1 h8
          refine fnS E0Ok Z3 (c := bodyOf f5) [] (.b false) [] func5 (p (sB h8 <| sK [] sN)) rfl (by kernel_rfl) (by kernel_rfl) rfl ?_ ?_
          · simp only [ZO, h0, h1, h2, h3, h4, h5, h6, h7, h8, cond_true, cond_false]
          · rfl
         | false =>
          have gh8 := bne_eq_false_iff_eq.1 h8
          refine fnS E0Ok Z3 (c := bodyOf f5) [] (.b true) [] func5 (p (sB h8 <| sF (Z5D aB_0 y0 y1 y2 y3 y4) <| sF (Z4b aHeld_1 y5) <| sF (Fn.castA (args' := [.agg [.sl (aB_0.Mesh.Places.map GVector.cells), .sl ((aB_0.Mesh.Triangles.map fun l => l.map (cI .i64)).map fun l => [.sl l]), .sl (aB_0.Springs.map GSpring.cells), .f .f32 aB_0.Film, .f .f32 aB_0.Bend, .sl (aB_0.Weights.map (cF .f32)), .f .f32 aB_0.Fall.X, .f .f32 aB_0.Fall.Y, .f .f32 aB_0.Fall.Z], .sl (aHeld_1.map (cI .i64))]) (Z7k aB_0 aHeld_1 y0 y1 y2 y3 y4 y5) (by simp [cL, Function.comp_def]; done)) <| sF (Z4L ((Zg aB_0 aHeld_1).1) ((Zp aB_0 aHeld_1).1) y6 y7) <| sB' h2 <| sB' h2 <| sB' h2 <| sB' h2 <| sB' h3 <| sF (Z7a ((Zc ((Zg aB_0 aHeld_1).1) 1).2) 1 y8) <| sB h7 <| sB h8 <| sK [] sN)) rfl (by kernel_rfl) (by kernel_rfl) rfl ?_ ?_
          · simp only [ZO, h0, h1, h2, h3, h4, h5, h6, h7, h8, cond_true, cond_false]
          · rfl
      | false =>
       refine fnS E0Ok Z3 (c := bodyOf f5) [] (.b false) [] func5 (q (sB' h5 <| sK [] sN)) rfl (by kernel_rfl) (by kernel_rfl) rfl ?_ ?_
       · simp only [ZO, h0, h1, h2, h3, h4, h5, cond_true, cond_false]
       · rfl
     | false =>
      refine fnS E0Ok Z3 (c := bodyOf f5) [] (.b false) [] func5 (p (sB' h4 <| sK [] sN)) rfl (by kernel_rfl) (by kernel_rfl) rfl ?_ ?_
      · simp only [ZO, h0, h1, h2, h3, h4, cond_true, cond_false]
      · rfl
    | false =>
     have gh3 := ne_of_beq_false h3
     refine fnS E0Ok Z3 (c := bodyOf f5) [] (.b false) [] func5 (q (sB' h3 <| sK [] sN)) rfl (by kernel_rfl) (by kernel_rfl) rfl ?_ ?_
     · simp only [ZO, h0, h1, h2, h3, cond_true, cond_false]
     · rfl
   | false =>
    refine fnS E0Ok Z3 (c := bodyOf f5) [] (.b false) [] func5 (p (sB' h2 <| sB' h2 <| sB' h2 <| sB' h2 <| sB (show true = true from rfl) <| sK [] sN)) rfl (by kernel_rfl) (by kernel_rfl) rfl ?_ ?_
    · simp only [ZO, h0, h1, h2, cond_false]
    · rfl
theorem ZaE (a : List GVector) (c : Int) : Z29 (Zc a c).2 c = (Zc a c).1 := by
  rw [ZbO, Z7T, hdL_mkL (fun x c => by simp [Z7b, Z4O, ofInt_self]) (fun x c => rfl)]
theorem Zbo (b : GBody) (l : List Int) : Zg b l = Zp b l := by
  unfold Zg Zp
  rw [Zb0]
  cases h : Z1a b with
  | false => rfl
  | true => rw [cond_true, cond_true, Zbk b l (ZaI b h)]
theorem Z7c (a : GBody) (c : (List Int)) (h0_0 : a.Mesh.Places.length ≤ 9223372036854775807) (h0_1 : a.Mesh.Triangles.length ≤ 9223372036854775807) (h0_2 : ∀ t ∈ a.Mesh.Triangles, t.length ≤ 9223372036854775807) (h0_3 : a.Springs.length ≤ 9223372036854775807) (h0_4 : a.Weights.length ≤ 9223372036854775807) (h1_0 : c.length ≤ 9223372036854775807) : ZO a c = true := by
  unfold ZO
  cases hc1 : decide ((c.length : Int) > 1048576) with
  | true => rfl
  | false =>
    simp only [decide_eq_false_iff_not] at hc1
    have z0 := Z82 a 1048576 h0_0 h0_1 h0_2 h0_3 h0_4 (by omega) (by omega)
    cases hc0 : decide (Z1N a 1048576 < 0) with
    | true => rfl
    | false =>
      simp only [decide_eq_false_iff_not] at hc0
      have hm0 := Z7v a 1 (by omega) (by omega) (fun t ht => by have q := z0.2.2.2.2.2.2 t ht; omega) (by omega) (by omega) (by omega) (by omega)
      have hm1 := Zal c ((Zb a 1).1) (by omega) (by omega) (by omega)
      have l0 := Z5A a c
      have v0 := Z7l (Zg a c).1 1 (by omega) (by omega) (by omega)
      simp only [Zbo] at *
      simp only [ZbN, Z8I, Z8h, ZaE, beq_self_eq_true, Bool.not_true, cond_true, cond_false, bne_self_eq_false]
      rw [decide_eq_false (by omega)]
      rw [decide_eq_false (by omega)]
      rfl
end Go.Ab
