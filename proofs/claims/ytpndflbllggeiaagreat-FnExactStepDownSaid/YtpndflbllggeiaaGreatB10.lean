/- The functions of this seat as plain Lean, and that the program's are these. Printed by a program of the prover's own. -/
import Derived.Test.YtpndflbllggeiaaGreatB9
set_option linter.unusedVariables false
set_option linter.unusedSimpArgs false
set_option maxRecDepth 100000
namespace Go.Ab
open Go.RowKit Go.Proofs.Tryz
theorem Z9F (Y5 : (List (List Int))) (Yl : Int) : ∀ (k : Nat) (Yb : Int) (Y9 : Int) (Yc : (List (List Int))) (hk : ((Yc.length : Int) - Y9).toNat < k), (ZD Y5 Yl k Yb Y9 Yc).2.length = Yc.length := by
  intro k
  induction k with
  | zero => intro Yb Y9 Yc hk; exact absurd hk (Nat.not_lt_zero _)
  | succ k ih =>
    intro Yb Y9 Yc hk
    cases Yg : (decide (Y9 < (Yc.length : Int))) with
    | true =>
      have e : ZD Y5 Yl (k + 1) Yb Y9 Yc = (ZD Y5 Yl k ((Zi (Yc.getD Y9.toNat default) Yb).1) (Y9 + 1) (Yc.set Y9.toNat ((Zi (Yc.getD Y9.toNat default) Yb).2))) := by simp only [ZD, Yg, cond_true]
      rw [e, ih ((Zi (Yc.getD Y9.toNat default) Yb).1) (Y9 + 1) (Yc.set Y9.toNat ((Zi (Yc.getD Y9.toNat default) Yb).2)) (by simp_all <;> omega)]; simp
    | false =>
      have e : ZD Y5 Yl (k + 1) Yb Y9 Yc = (Yb, Yc) := by simp only [ZD, Yg, cond_false]
      first | (rw [e]; done) | (rw [e]; rfl)
def Z2v (Y5 : (List (List Int))) (Yl : Int) : Int × (List (List Int)) := (ZD Y5 Yl (((Y5.length : Int) - 0).toNat + 1) Yl 0 Y5)
@[simp] theorem ZdV (Y5 : (List (List Int))) (Yl : Int) : (Z2v Y5 Yl).2.length = (Y5 : (List (List Int))).length := Z9F Y5 Yl (((Y5.length : Int) - 0).toNat + 1) Yl 0 Y5 (by exact Nat.lt_succ_self _)
def ZW (Y5 : (List (List Int))) (Yl : Int) : Int × (List (List Int)) := ((Z2v Y5 Yl).1, (Z2v Y5 Yl).2)
@[simp] theorem Zfg (Y5 : (List (List Int))) (Yl : Int) : (ZW Y5 Yl).2.length = Y5.length := by
  first | (simp [ZW]; done)
theorem Zbb (Y5 : (List (List Int))) (Yl : Int) (hp0 : Y5.length ≤ 1073741824) (hp1 : ∀ t ∈ Y5, t.length ≤ 1073741824)  : CallSt prog 119 [.nest 49 (Y5.map fun l => l.map (cI .i64)) false] [.own 0, .i .i64 Yl] (.i .i64 ((ZW Y5 Yl).1)) [.nest 49 (((ZW Y5 Yl).2).map fun l => l.map (cI .i64)) false] := by
 refine callS (EpOk 1) Z4 (c := bodyOf f119) [.nest 49 (Y5.map fun l => l.map (cI .i64)) false] [] (.i .i64 ((Z2v Y5 Yl).1)) [.nest 49 (((Z2v Y5 Yl).2).map fun l => l.map (cI .i64)) false] func119 (sL (mR false [0, 2, 2, 2, 13]) 1 (lp_val (Z54 Y5 Yl) (x := (Z2v Y5 Yl)) (Zah Y5 Yl hp0 hp1 (((Y5.length : Int) - 0).toNat + 1) Yl 0 Y5 (show 0 ≤ 0 from (by simp)) (show Y5.length = Y5.length from (by simp)) (show ∀ t ∈ Y5, t.length ≤ 1073741824 from (by assumption)) (Nat.lt_succ_self _)) rfl) <| sK [] sN) rfl (by kernel_rfl) (by kernel_rfl) ?_ ?_
 · rfl
 · simp [ZW]
theorem ZaD (a : List (List Int)) (c : Int) : ZW a c = mkL Zi a c := by
  unfold ZW Z2v
  rw [mark_loop (f := Zi) (lo := ZD a c) (fun k c i r => rfl) _ _ _ _ (Int.le_refl 0) (Nat.lt_succ_self _)]
  simp
theorem Zer (a : List (List Int)) (c : Int) (N : Nat) (h : ∀ t ∈ a, t.length ≤ N) : ∀ t ∈ (ZW a c).2, t.length ≤ N := by
  rw [ZaD]
  exact mkL_mem (p := fun t : List Int => t.length ≤ N) (fun x c hx => by rw [Z5N]; exact hx) a c h
theorem Z9G (a : List (List Int)) (c : Int) (g0 : a.length ≤ 1073741824) (g1 : ∀ t ∈ a, t.length ≤ 1073741824) (h0 : 0 ≤ c) (h1 : c ≤ 3458764513820540928) : c ≤ (ZW a c).1 ∧ (ZW a c).1 ≤ c + 1152921504606846976 := by
  rw [ZaD]
  have hm : (a.length : Int) * 1073741824 ≤ 1152921504606846976 := by omega
  have q := mkL_ge_b (f := Zi) (W := 1073741824) (M := 4611686018427387904) a c (fun x hx c k0 k1 => by have q := ZaC x c (g1 x hx) k0 (by omega); omega) h0 (by omega)
  omega
def Ze (Y5 : GMesh) (Yl : Int) : Int × (List GVector) × (List (List Int)) := ((ZW Y5.Triangles ((Zq Y5.Places Yl).1)).1, (Zq Y5.Places Yl).2, (ZW Y5.Triangles ((Zq Y5.Places Yl).1)).2)
@[simp] theorem Zfh (Y5 : GMesh) (Yl : Int) : (Ze Y5 Yl).2.1.length = Y5.Places.length := by
  first | (simp [Ze]; done)
@[simp] theorem Zfi (Y5 : GMesh) (Yl : Int) : (Ze Y5 Yl).2.2.length = Y5.Triangles.length := by
  first | (simp [Ze]; done)
theorem Zbc (Y5 : GMesh) (Yl : Int) (hp0 : Y5.Places.length ≤ 1073741824) (hp1 : Y5.Triangles.length ≤ 1073741824) (hp2 : ∀ t ∈ Y5.Triangles, t.length ≤ 1073741824)  : CallSt prog 61 [.vec 40 3 (Y5.Places.map GVector.cells) false, .nest 49 (Y5.Triangles.map fun l => l.map (cI .i64)) false] [.agg [.own 0, .own 1], .i .i64 Yl] (.i .i64 ((Ze Y5 Yl).1)) [.vec 40 3 (((Ze Y5 Yl).2.1).map GVector.cells) false, .nest 49 (((Ze Y5 Yl).2.2).map fun l => l.map (cI .i64)) false] := by
 refine callS (EpOk 2) Z4 (c := bodyOf f61) [.vec 40 3 (Y5.Places.map GVector.cells) false, .nest 49 (Y5.Triangles.map fun l => l.map (cI .i64)) false] [] (.i .i64 ((ZW Y5.Triangles ((Zq Y5.Places Yl).1)).1)) [.vec 40 3 (((Zq Y5.Places Yl).2).map GVector.cells) false, .nest 49 (((ZW Y5.Triangles ((Zq Y5.Places Yl).1)).2).map fun l => l.map (cI .i64)) false] func61 (sS (CallSt.frame (Zba Y5.Places Yl hp0) [0] (R := [.vec 40 3 (Y5.Places.map GVector.cells) false, .nest 49 (Y5.Triangles.map fun l => l.map (cI .i64)) false, .box 38 [.own 0, .own 1]]) (args' := [.own 0, .i .i64 Yl]) rfl rfl rfl rfl rfl rfl) <| sS (CallSt.frame (Zbb Y5.Triangles ((Zq Y5.Places Yl).1) hp1 hp2) [1] (R := [.vec 40 3 (((Zq Y5.Places Yl).2).map GVector.cells) false, .nest 49 (Y5.Triangles.map fun l => l.map (cI .i64)) false, .box 38 [.own 0, .own 1]]) (args' := [.own 1, .i .i64 ((Zq Y5.Places Yl).1)]) rfl rfl rfl rfl rfl rfl) <| sK [] sN) rfl (by kernel_rfl) (by kernel_rfl) ?_ ?_
 · rfl
 · simp [Ze]
theorem Z9H (a : GMesh) (c : Int) (g0 : a.Places.length ≤ 1073741824) (g1 : a.Triangles.length ≤ 1073741824) (g2 : ∀ t ∈ a.Triangles, t.length ≤ 1073741824) (h0 : 0 ≤ c) (h1 : c ≤ 2305843009213693952) : c ≤ (Ze a c).1 ∧ (Ze a c).1 ≤ c + 1152921507828072448 := by
  unfold Ze
  have p0 := Za5 a.Places c g0 (by omega) (by omega)
  have p1 := Z9G a.Triangles ((Zq a.Places c).1) g1 g2 (by omega) (by omega)
  simp only
  omega
theorem Zes (a : GMesh) (c : Int) (N : Nat) (h : ∀ t ∈ a.Triangles, t.length ≤ N) : ∀ t ∈ (Ze a c).2.2, t.length ≤ N := by
  unfold Ze
  exact Zer _ _ N h
def ZE (Y5 : (List GSpring)) (Yl : Int) : Nat → Int → Int → (List GSpring) → Int × (List GSpring)
  | 0, _, _, _ => default
  | k + 1, Yb, Y9, Yc => (cond (decide (Y9 < (Yc.length : Int)))
    (ZE Y5 Yl k (IntKind.wrap .i64 ((IntKind.wrap .i64 ((IntKind.wrap .i64 ((IntKind.wrap .i64 (Yb + 1)) + 1)) + 1)) + 1)) (Y9 + 1) (Yc.set Y9.toNat (⟨Yb, (IntKind.wrap .i64 (Yb + 1)), (ofInt .f32 (IntKind.wrap .i64 ((IntKind.wrap .i64 (Yb + 1)) + 1))), (ofInt .f32 (IntKind.wrap .i64 ((IntKind.wrap .i64 ((IntKind.wrap .i64 (Yb + 1)) + 1)) + 1)))⟩ : GSpring)))
    (Yb, Yc))
def Z55 (Y5 : (List GSpring)) (Yl : Int) (r : Int × (List GSpring)) : Ex × St := ((.exit 0), ⟨.any :: .i .i64 r.1 :: .any :: .any :: .i .i64 0 :: an 38 [], [.vec 133 4 (r.2.map GSpring.cells) false]⟩)
def Zai (Y5 : (List GSpring)) (Yl : Int) (Yb : Int) (Y9 : Int) (Yc : (List GSpring)) : St := ⟨.own 0 :: .i .i64 Yb :: .any :: .any :: .i .i64 0 :: .i .i64 Y9 :: an 37 [], [.vec 133 4 (Yc.map GSpring.cells) false]⟩
theorem Zaj (Y5 : (List GSpring)) (Yl : Int) (hp0 : Y5.length ≤ 1073741824) : ∀ (k : Nat) (Yb : Int) (Y9 : Int) (Yc : (List GSpring)) (Z5Q : 0 ≤ Y9) (Z5R : Yc.length = Y5.length) (hk : ((Y5.length : Int) - Y9).toNat < k), Lp prog 1 (sub (bodyOf f62) [1, 0, 1, 0, 0]) (Zai Y5 Yl Yb Y9 Yc) (Z55 Y5 Yl (ZE Y5 Yl k Yb Y9 Yc)).1 (Z55 Y5 Yl (ZE Y5 Yl k Yb Y9 Yc)).2 := by
 intro k
 induction k with
 | zero => intro Yb Y9 Yc Z5Q Z5R hk; exact absurd hk (Nat.not_lt_zero _)
 | succ k ih =>
  intro Yb Y9 Yc Z5Q Z5R hk
  have p {a C} (s : Scr a C) := sZ GSpring.cells Yc <| s
  cases Yg : (decide (Y9 < (Yc.length : Int))) with
  | true =>
   have Yt := of_decide_eq_true Yg
   have YA : (0 : Int) ≤ Y9 := by clear p; exact (by assumption)
   have YE : Y9 < (Yc.length : Int) := by clear p; exact (by assumption)
   have YG : Y9.toNat < Yc.length := by clear p; exact (by omega)
   have YH : Y9 < ((Yc.set Y9.toNat (⟨Yb, (Yc.getD Y9.toNat default).B, (Yc.getD Y9.toNat default).Long, (Yc.getD Y9.toNat default).Stiff⟩ : GSpring)).length : Int) := by clear p; exact (by simp_all <;> omega)
   have YL : Y9 < ((Yc.set Y9.toNat (⟨Yb, (IntKind.wrap .i64 (Yb + 1)), (Yc.getD Y9.toNat default).Long, (Yc.getD Y9.toNat default).Stiff⟩ : GSpring)).length : Int) := by clear p; exact (by simp_all <;> omega)
   have YQ : Y9 < ((Yc.set Y9.toNat (⟨Yb, (IntKind.wrap .i64 (Yb + 1)), (ofInt .f32 (IntKind.wrap .i64 ((IntKind.wrap .i64 (Yb + 1)) + 1))), (Yc.getD Y9.toNat default).Stiff⟩ : GSpring)).length : Int) := by clear p; exact (by simp_all <;> omega)
   have YW : (-9223372036854775808 : Int) ≤ (Y9 + 1) := by clear p; exact (by omega)
   have y_7 : (Y9 + 1) ≤ (9223372036854775807 : Int) := by clear p; exact (by omega)
   have e : ZE Y5 Yl (k + 1) Yb Y9 Yc = (ZE Y5 Yl k (IntKind.wrap .i64 ((IntKind.wrap .i64 ((IntKind.wrap .i64 ((IntKind.wrap .i64 (Yb + 1)) + 1)) + 1)) + 1)) (Y9 + 1) (Yc.set Y9.toNat (⟨Yb, (IntKind.wrap .i64 (Yb + 1)), (ofInt .f32 (IntKind.wrap .i64 ((IntKind.wrap .i64 (Yb + 1)) + 1))), (ofInt .f32 (IntKind.wrap .i64 ((IntKind.wrap .i64 ((IntKind.wrap .i64 (Yb + 1)) + 1)) + 1)))⟩ : GSpring))) := by simp only [ZE, Yg, cond_true]
   rw [e]
   exact nextS (EpOk 1) Z4 [] (mR false [0, 2, 2, 2, 37]) [] (⟨.own 0 :: .i .i64 (IntKind.wrap .i64 ((IntKind.wrap .i64 ((IntKind.wrap .i64 ((IntKind.wrap .i64 (Yb + 1)) + 1)) + 1)) + 1)) :: .any :: .any :: .i .i64 0 :: .i .i64 (Y9 + 1) :: an 37 [], [.vec 133 4 (((((Yc.map GSpring.cells).set Y9.toNat [.i .i64 Yb, .i .i64 ((Yc.getD Y9.toNat default).B), .f .f32 ((Yc.getD Y9.toNat default).Long), .f .f32 ((Yc.getD Y9.toNat default).Stiff)]).set Y9.toNat [.i .i64 Yb, .i .i64 (IntKind.wrap .i64 (Yb + 1)), .f .f32 ((Yc.getD Y9.toNat default).Long), .f .f32 ((Yc.getD Y9.toNat default).Stiff)]).set Y9.toNat [.i .i64 Yb, .i .i64 (IntKind.wrap .i64 (Yb + 1)), .f .f32 (ofInt .f32 (IntKind.wrap .i64 ((IntKind.wrap .i64 (Yb + 1)) + 1))), .f .f32 ((Yc.getD Y9.toNat default).Stiff)]).set Y9.toNat [.i .i64 Yb, .i .i64 (IntKind.wrap .i64 (Yb + 1)), .f .f32 (ofInt .f32 (IntKind.wrap .i64 ((IntKind.wrap .i64 (Yb + 1)) + 1))), .f .f32 (ofInt .f32 (IntKind.wrap .i64 ((IntKind.wrap .i64 ((IntKind.wrap .i64 (Yb + 1)) + 1)) + 1)))]) false]⟩) (p (sB Yg <| sX GSpring.cells Yc Y9 YA YE <| sV GSpring.cells Yc Y9.toNat YG <| sW .i64 (Yb + 1) <| sC (show 0 ≤ Y9 ∧ Int.toNat Y9 < ((Yc.map GSpring.cells).set Y9.toNat [.i .i64 Yb, .i .i64 ((Yc.getD Y9.toNat default).B), .f .f32 ((Yc.getD Y9.toNat default).Long), .f .f32 ((Yc.getD Y9.toNat default).Stiff)]).length from (by simpa using idx_ok (c := GSpring.cells) (l := (Yc.set Y9.toNat (⟨Yb, (Yc.getD Y9.toNat default).B, (Yc.getD Y9.toNat default).Long, (Yc.getD Y9.toNat default).Stiff⟩ : GSpring))) (i := Y9) YA YH)) <| sE (show ((Yc.map GSpring.cells).set Y9.toNat [.i .i64 Yb, .i .i64 ((Yc.getD Y9.toNat default).B), .f .f32 ((Yc.getD Y9.toNat default).Long), .f .f32 ((Yc.getD Y9.toNat default).Stiff)])[Y9.toNat]? = some [.i .i64 Yb, .i .i64 ((Yc.getD Y9.toNat default).B), .f .f32 ((Yc.getD Y9.toNat default).Long), .f .f32 ((Yc.getD Y9.toNat default).Stiff)] from List.getElem?_set_self (by simpa using YG)) <| sW .i64 ((IntKind.wrap .i64 (Yb + 1)) + 1) <| sC (show 0 ≤ Y9 ∧ Int.toNat Y9 < (((Yc.map GSpring.cells).set Y9.toNat [.i .i64 Yb, .i .i64 ((Yc.getD Y9.toNat default).B), .f .f32 ((Yc.getD Y9.toNat default).Long), .f .f32 ((Yc.getD Y9.toNat default).Stiff)]).set Y9.toNat [.i .i64 Yb, .i .i64 (IntKind.wrap .i64 (Yb + 1)), .f .f32 ((Yc.getD Y9.toNat default).Long), .f .f32 ((Yc.getD Y9.toNat default).Stiff)]).length from (by simpa using idx_ok (c := GSpring.cells) (l := (Yc.set Y9.toNat (⟨Yb, (IntKind.wrap .i64 (Yb + 1)), (Yc.getD Y9.toNat default).Long, (Yc.getD Y9.toNat default).Stiff⟩ : GSpring))) (i := Y9) YA YL)) <| sE (show (((Yc.map GSpring.cells).set Y9.toNat [.i .i64 Yb, .i .i64 ((Yc.getD Y9.toNat default).B), .f .f32 ((Yc.getD Y9.toNat default).Long), .f .f32 ((Yc.getD Y9.toNat default).Stiff)]).set Y9.toNat [.i .i64 Yb, .i .i64 (IntKind.wrap .i64 (Yb + 1)), .f .f32 ((Yc.getD Y9.toNat default).Long), .f .f32 ((Yc.getD Y9.toNat default).Stiff)])[Y9.toNat]? = some [.i .i64 Yb, .i .i64 (IntKind.wrap .i64 (Yb + 1)), .f .f32 ((Yc.getD Y9.toNat default).Long), .f .f32 ((Yc.getD Y9.toNat default).Stiff)] from List.getElem?_set_self (by simpa using YG)) <| sW .i64 ((IntKind.wrap .i64 ((IntKind.wrap .i64 (Yb + 1)) + 1)) + 1) <| sC (show 0 ≤ Y9 ∧ Int.toNat Y9 < ((((Yc.map GSpring.cells).set Y9.toNat [.i .i64 Yb, .i .i64 ((Yc.getD Y9.toNat default).B), .f .f32 ((Yc.getD Y9.toNat default).Long), .f .f32 ((Yc.getD Y9.toNat default).Stiff)]).set Y9.toNat [.i .i64 Yb, .i .i64 (IntKind.wrap .i64 (Yb + 1)), .f .f32 ((Yc.getD Y9.toNat default).Long), .f .f32 ((Yc.getD Y9.toNat default).Stiff)]).set Y9.toNat [.i .i64 Yb, .i .i64 (IntKind.wrap .i64 (Yb + 1)), .f .f32 (ofInt .f32 (IntKind.wrap .i64 ((IntKind.wrap .i64 (Yb + 1)) + 1))), .f .f32 ((Yc.getD Y9.toNat default).Stiff)]).length from (by simpa using idx_ok (c := GSpring.cells) (l := (Yc.set Y9.toNat (⟨Yb, (IntKind.wrap .i64 (Yb + 1)), (ofInt .f32 (IntKind.wrap .i64 ((IntKind.wrap .i64 (Yb + 1)) + 1))), (Yc.getD Y9.toNat default).Stiff⟩ : GSpring))) (i := Y9) YA YQ)) <| sE (show ((((Yc.map GSpring.cells).set Y9.toNat [.i .i64 Yb, .i .i64 ((Yc.getD Y9.toNat default).B), .f .f32 ((Yc.getD Y9.toNat default).Long), .f .f32 ((Yc.getD Y9.toNat default).Stiff)]).set Y9.toNat [.i .i64 Yb, .i .i64 (IntKind.wrap .i64 (Yb + 1)), .f .f32 ((Yc.getD Y9.toNat default).Long), .f .f32 ((Yc.getD Y9.toNat default).Stiff)]).set Y9.toNat [.i .i64 Yb, .i .i64 (IntKind.wrap .i64 (Yb + 1)), .f .f32 (ofInt .f32 (IntKind.wrap .i64 ((IntKind.wrap .i64 (Yb + 1)) + 1))), .f .f32 ((Yc.getD Y9.toNat default).Stiff)])[Y9.toNat]? = some [.i .i64 Yb, .i .i64 (IntKind.wrap .i64 (Yb + 1)), .f .f32 (ofInt .f32 (IntKind.wrap .i64 ((IntKind.wrap .i64 (Yb + 1)) + 1))), .f .f32 ((Yc.getD Y9.toNat default).Stiff)] from List.getElem?_set_self (by simpa using YG)) <| sW .i64 ((IntKind.wrap .i64 ((IntKind.wrap .i64 ((IntKind.wrap .i64 (Yb + 1)) + 1)) + 1)) + 1) <| sI (Y9 + 1) YW y_7 <| sN)) (by kernel_rfl) (show _ = ⟨.own 0 :: .i .i64 (IntKind.wrap .i64 ((IntKind.wrap .i64 ((IntKind.wrap .i64 ((IntKind.wrap .i64 (Yb + 1)) + 1)) + 1)) + 1)) :: .any :: .any :: .i .i64 0 :: .i .i64 (Y9 + 1) :: an 37 [], [.vec 133 4 ((Yc.set Y9.toNat (⟨Yb, (IntKind.wrap .i64 (Yb + 1)), (ofInt .f32 (IntKind.wrap .i64 ((IntKind.wrap .i64 (Yb + 1)) + 1))), (ofInt .f32 (IntKind.wrap .i64 ((IntKind.wrap .i64 ((IntKind.wrap .i64 (Yb + 1)) + 1)) + 1)))⟩ : GSpring)).map GSpring.cells) false]⟩ from (by simp [List.map_set, GSpring.cells])) (ih (IntKind.wrap .i64 ((IntKind.wrap .i64 ((IntKind.wrap .i64 ((IntKind.wrap .i64 (Yb + 1)) + 1)) + 1)) + 1)) (Y9 + 1) (Yc.set Y9.toNat (⟨Yb, (IntKind.wrap .i64 (Yb + 1)), (ofInt .f32 (IntKind.wrap .i64 ((IntKind.wrap .i64 (Yb + 1)) + 1))), (ofInt .f32 (IntKind.wrap .i64 ((IntKind.wrap .i64 ((IntKind.wrap .i64 (Yb + 1)) + 1)) + 1)))⟩ : GSpring)) (show 0 ≤ (Y9 + 1) from (by omega)) (show (Yc.set Y9.toNat (⟨Yb, (IntKind.wrap .i64 (Yb + 1)), (ofInt .f32 (IntKind.wrap .i64 ((IntKind.wrap .i64 (Yb + 1)) + 1))), (ofInt .f32 (IntKind.wrap .i64 ((IntKind.wrap .i64 ((IntKind.wrap .i64 (Yb + 1)) + 1)) + 1)))⟩ : GSpring)).length = Y5.length from (by simp_all <;> omega)) (by omega))
  | false =>
   have Yt := of_decide_eq_false Yg
   have e : ZE Y5 Yl (k + 1) Yb Y9 Yc = (Yb, Yc) := by simp only [ZE, Yg, cond_false]
   rw [e]
   exact outR (e := (.exit 0)) (EpOk 1) Z4 [] (mR false [1, 1, 2, 1, 38]) [] (p (sB Yg <| sN)) (by kernel_rfl) (by intro h; cases h)
theorem Z9I (Y5 : (List GSpring)) (Yl : Int) : ∀ (k : Nat) (Yb : Int) (Y9 : Int) (Yc : (List GSpring)) (hk : ((Yc.length : Int) - Y9).toNat < k), (ZE Y5 Yl k Yb Y9 Yc).2.length = Yc.length := by
  intro k
  induction k with
  | zero => intro Yb Y9 Yc hk; exact absurd hk (Nat.not_lt_zero _)
  | succ k ih =>
    intro Yb Y9 Yc hk
    cases Yg : (decide (Y9 < (Yc.length : Int))) with
    | true =>
      have e : ZE Y5 Yl (k + 1) Yb Y9 Yc = (ZE Y5 Yl k (IntKind.wrap .i64 ((IntKind.wrap .i64 ((IntKind.wrap .i64 ((IntKind.wrap .i64 (Yb + 1)) + 1)) + 1)) + 1)) (Y9 + 1) (Yc.set Y9.toNat (⟨Yb, (IntKind.wrap .i64 (Yb + 1)), (ofInt .f32 (IntKind.wrap .i64 ((IntKind.wrap .i64 (Yb + 1)) + 1))), (ofInt .f32 (IntKind.wrap .i64 ((IntKind.wrap .i64 ((IntKind.wrap .i64 (Yb + 1)) + 1)) + 1)))⟩ : GSpring))) := by simp only [ZE, Yg, cond_true]
      rw [e, ih (IntKind.wrap .i64 ((IntKind.wrap .i64 ((IntKind.wrap .i64 ((IntKind.wrap .i64 (Yb + 1)) + 1)) + 1)) + 1)) (Y9 + 1) (Yc.set Y9.toNat (⟨Yb, (IntKind.wrap .i64 (Yb + 1)), (ofInt .f32 (IntKind.wrap .i64 ((IntKind.wrap .i64 (Yb + 1)) + 1))), (ofInt .f32 (IntKind.wrap .i64 ((IntKind.wrap .i64 ((IntKind.wrap .i64 (Yb + 1)) + 1)) + 1)))⟩ : GSpring)) (by simp_all <;> omega)]; simp
    | false =>
      have e : ZE Y5 Yl (k + 1) Yb Y9 Yc = (Yb, Yc) := by simp only [ZE, Yg, cond_false]
      first | (rw [e]; done) | (rw [e]; rfl)
def Z2w (Y5 : (List GSpring)) (Yl : Int) : Int × (List GSpring) := (ZE Y5 Yl (((Y5.length : Int) - 0).toNat + 1) Yl 0 Y5)
@[simp] theorem ZdW (Y5 : (List GSpring)) (Yl : Int) : (Z2w Y5 Yl).2.length = (Y5 : (List GSpring)).length := Z9I Y5 Yl (((Y5.length : Int) - 0).toNat + 1) Yl 0 Y5 (by exact Nat.lt_succ_self _)
def Zr (Y5 : (List GSpring)) (Yl : Int) : Int × (List GSpring) := ((Z2w Y5 Yl).1, (Z2w Y5 Yl).2)
@[simp] theorem Zfj (Y5 : (List GSpring)) (Yl : Int) : (Zr Y5 Yl).2.length = Y5.length := by
  first | (simp [Zr]; done)
theorem Zbd (Y5 : (List GSpring)) (Yl : Int) (hp0 : Y5.length ≤ 1073741824)  : CallSt prog 62 [.vec 133 4 (Y5.map GSpring.cells) false] [.own 0, .i .i64 Yl] (.i .i64 ((Zr Y5 Yl).1)) [.vec 133 4 (((Zr Y5 Yl).2).map GSpring.cells) false] := by
 refine callS (EpOk 1) Z4 (c := bodyOf f62) [.vec 133 4 (Y5.map GSpring.cells) false] [] (.i .i64 ((Z2w Y5 Yl).1)) [.vec 133 4 (((Z2w Y5 Yl).2).map GSpring.cells) false] func62 (sL (mR false [0, 2, 2, 2, 37]) 1 (lp_val (Z55 Y5 Yl) (x := (Z2w Y5 Yl)) (Zaj Y5 Yl hp0 (((Y5.length : Int) - 0).toNat + 1) Yl 0 Y5 (show 0 ≤ 0 from (by omega)) (show Y5.length = Y5.length from (by simp)) (Nat.lt_succ_self _)) rfl) <| sK [] sN) rfl (by kernel_rfl) (by kernel_rfl) ?_ ?_
 · rfl
 · simp [Zr]
def Z6d (_ : GSpring) (c : Int) : Int × GSpring := ((IntKind.wrap .i64 ((IntKind.wrap .i64 ((IntKind.wrap .i64 ((IntKind.wrap .i64 (c + 1)) + 1)) + 1)) + 1)), ⟨c, (IntKind.wrap .i64 (c + 1)), ofInt .f32 (IntKind.wrap .i64 ((IntKind.wrap .i64 (c + 1)) + 1)), ofInt .f32 (IntKind.wrap .i64 ((IntKind.wrap .i64 ((IntKind.wrap .i64 (c + 1)) + 1)) + 1))⟩)
theorem Zb3 (a : List GSpring) (c : Int) : Zr a c = mkL Z6d a c := by
  unfold Zr Z2w
  rw [mark_loop (f := Z6d) (lo := ZE a c) (fun k c i r => rfl) _ _ _ _ (Int.le_refl 0) (Nat.lt_succ_self _)]
  simp
theorem Za6 (a : List GSpring) (c : Int) (g0 : a.length ≤ 1073741824) (h0 : 0 ≤ c) (h1 : c ≤ 4611686018427387904) : c ≤ (Zr a c).1 ∧ (Zr a c).1 ≤ c + 4294967296 := by
  rw [Zb3]
  have q := mkL_ge (f := Z6d) (W := 4) a c (fun x _ c k0 k1 => by simp only [Z6d]; rw [wrap_id (n := c + 1) (by omega) (by omega), show c + 1 + 1 = c + 2 from by omega, wrap_id (n := c + 2) (by omega) (by omega), show c + 2 + 1 = c + 3 from by omega, wrap_id (n := c + 3) (by omega) (by omega), show c + 3 + 1 = c + 4 from by omega, wrap_id (n := c + 4) (by omega) (by omega)]; omega) h0 (by omega)
  omega
def Zy (Y5 : (List Nat)) (Yl : Int) : Nat → Int → Int → (List Nat) → Int × (List Nat)
  | 0, _, _, _ => default
  | k + 1, Yb, Y9, Yc => (cond (decide (Y9 < (Yc.length : Int)))
    (Zy Y5 Yl k (IntKind.wrap .i64 (Yb + 1)) (Y9 + 1) (Yc.set Y9.toNat (ofInt .f32 Yb)))
    (Yb, Yc))
def Z4O (Y5 : (List Nat)) (Yl : Int) (r : Int × (List Nat)) : Ex × St := ((.exit 0), ⟨.any :: .i .i64 r.1 :: .any :: .any :: .i .i64 0 :: an 15 [], [.vec 27 1 (r.2.map (cF .f32)) false]⟩)
def Z9T (Y5 : (List Nat)) (Yl : Int) (Yb : Int) (Y9 : Int) (Yc : (List Nat)) : St := ⟨.own 0 :: .i .i64 Yb :: .any :: .any :: .i .i64 0 :: .i .i64 Y9 :: an 14 [], [.vec 27 1 (Yc.map (cF .f32)) false]⟩
theorem Z9U (Y5 : (List Nat)) (Yl : Int) (hp0 : Y5.length ≤ 1073741824) : ∀ (k : Nat) (Yb : Int) (Y9 : Int) (Yc : (List Nat)) (Z5G : 0 ≤ Y9) (Z5H : Yc.length = Y5.length) (hk : ((Y5.length : Int) - Y9).toNat < k), Lp prog 1 (sub (bodyOf f41) [1, 0, 1, 0, 0]) (Z9T Y5 Yl Yb Y9 Yc) (Z4O Y5 Yl (Zy Y5 Yl k Yb Y9 Yc)).1 (Z4O Y5 Yl (Zy Y5 Yl k Yb Y9 Yc)).2 := by
 intro k
 induction k with
 | zero => intro Yb Y9 Yc Z5G Z5H hk; exact absurd hk (Nat.not_lt_zero _)
 | succ k ih =>
  intro Yb Y9 Yc Z5G Z5H hk
  have p {a C} (s : Scr a C) := sZ (cF .f32) Yc <| s
  cases Yg : (decide (Y9 < (Yc.length : Int))) with
  | true =>
   have Yt := of_decide_eq_true Yg
   have YA : (0 : Int) ≤ Y9 := by clear p; exact (by assumption)
   have YE : Y9 < (Yc.length : Int) := by clear p; exact (by assumption)
   have YG : Y9.toNat < Yc.length := by clear p; exact (by omega)
   have YH : (-9223372036854775808 : Int) ≤ (Y9 + 1) := by clear p; exact (by omega)
   have YL : (Y9 + 1) ≤ (9223372036854775807 : Int) := by clear p; exact (by omega)
   have e : Zy Y5 Yl (k + 1) Yb Y9 Yc = (Zy Y5 Yl k (IntKind.wrap .i64 (Yb + 1)) (Y9 + 1) (Yc.set Y9.toNat (ofInt .f32 Yb))) := by simp only [Zy, Yg, cond_true]
   rw [e]
   exact nextS (EpOk 1) Z4 [] (mR false [0, 2, 2, 2, 14]) [] (⟨.own 0 :: .i .i64 (IntKind.wrap .i64 (Yb + 1)) :: .any :: .any :: .i .i64 0 :: .i .i64 (Y9 + 1) :: an 14 [], [.vec 27 1 ((Yc.map (cF .f32)).set Y9.toNat [.f .f32 (ofInt .f32 Yb)]) false]⟩) (p (sB Yg <| sX (cF .f32) Yc Y9 YA YE <| sC (maplt (c := (cF .f32)) (l := Yc) YG) <| sW .i64 (Yb + 1) <| sI (Y9 + 1) YH YL <| sN)) (by kernel_rfl) (show _ = ⟨.own 0 :: .i .i64 (IntKind.wrap .i64 (Yb + 1)) :: .any :: .any :: .i .i64 0 :: .i .i64 (Y9 + 1) :: an 14 [], [.vec 27 1 ((Yc.set Y9.toNat (ofInt .f32 Yb)).map (cF .f32)) false]⟩ from (by simp [List.map_set, cF])) (ih (IntKind.wrap .i64 (Yb + 1)) (Y9 + 1) (Yc.set Y9.toNat (ofInt .f32 Yb)) (show 0 ≤ (Y9 + 1) from (by omega)) (show (Yc.set Y9.toNat (ofInt .f32 Yb)).length = Y5.length from (by simp_all <;> omega)) (by omega))
  | false =>
   have Yt := of_decide_eq_false Yg
   have e : Zy Y5 Yl (k + 1) Yb Y9 Yc = (Yb, Yc) := by simp only [Zy, Yg, cond_false]
   rw [e]
   exact outR (e := (.exit 0)) (EpOk 1) Z4 [] (mR false [1, 1, 2, 1, 15]) [] (p (sB Yg <| sN)) (by kernel_rfl) (by intro h; cases h)
theorem Z9j (Y5 : (List Nat)) (Yl : Int) : ∀ (k : Nat) (Yb : Int) (Y9 : Int) (Yc : (List Nat)) (hk : ((Yc.length : Int) - Y9).toNat < k), (Zy Y5 Yl k Yb Y9 Yc).2.length = Yc.length := by
  intro k
  induction k with
  | zero => intro Yb Y9 Yc hk; exact absurd hk (Nat.not_lt_zero _)
  | succ k ih =>
    intro Yb Y9 Yc hk
    cases Yg : (decide (Y9 < (Yc.length : Int))) with
    | true =>
      have e : Zy Y5 Yl (k + 1) Yb Y9 Yc = (Zy Y5 Yl k (IntKind.wrap .i64 (Yb + 1)) (Y9 + 1) (Yc.set Y9.toNat (ofInt .f32 Yb))) := by simp only [Zy, Yg, cond_true]
      rw [e, ih (IntKind.wrap .i64 (Yb + 1)) (Y9 + 1) (Yc.set Y9.toNat (ofInt .f32 Yb)) (by simp_all <;> omega)]; simp
    | false =>
      have e : Zy Y5 Yl (k + 1) Yb Y9 Yc = (Yb, Yc) := by simp only [Zy, Yg, cond_false]
      first | (rw [e]; done) | (rw [e]; rfl)
def Z2n (Y5 : (List Nat)) (Yl : Int) : Int × (List Nat) := (Zy Y5 Yl (((Y5.length : Int) - 0).toNat + 1) Yl 0 Y5)
@[simp] theorem ZdQ (Y5 : (List Nat)) (Yl : Int) : (Z2n Y5 Yl).2.length = (Y5 : (List Nat)).length := Z9j Y5 Yl (((Y5.length : Int) - 0).toNat + 1) Yl 0 Y5 (by exact Nat.lt_succ_self _)
def ZX (Y5 : (List Nat)) (Yl : Int) : Int × (List Nat) := ((Z2n Y5 Yl).1, (Z2n Y5 Yl).2)
@[simp] theorem ZeY (Y5 : (List Nat)) (Yl : Int) : (ZX Y5 Yl).2.length = Y5.length := by
  first | (simp [ZX]; done)
theorem ZaI (Y5 : (List Nat)) (Yl : Int) (hp0 : Y5.length ≤ 1073741824)  : CallSt prog 41 [.vec 27 1 (Y5.map (cF .f32)) false] [.own 0, .i .i64 Yl] (.i .i64 ((ZX Y5 Yl).1)) [.vec 27 1 (((ZX Y5 Yl).2).map (cF .f32)) false] := by
 refine callS (EpOk 1) Z4 (c := bodyOf f41) [.vec 27 1 (Y5.map (cF .f32)) false] [] (.i .i64 ((Z2n Y5 Yl).1)) [.vec 27 1 (((Z2n Y5 Yl).2).map (cF .f32)) false] func41 (sL (mR false [0, 2, 2, 2, 14]) 1 (lp_val (Z4O Y5 Yl) (x := (Z2n Y5 Yl)) (Z9U Y5 Yl hp0 (((Y5.length : Int) - 0).toNat + 1) Yl 0 Y5 (show 0 ≤ 0 from (by omega)) (show Y5.length = Y5.length from (by simp)) (Nat.lt_succ_self _)) rfl) <| sK [] sN) rfl (by kernel_rfl) (by kernel_rfl) ?_ ?_
 · rfl
 · simp [ZX]
def Z5I (_ : Nat) (c : Int) : Int × Nat := ((IntKind.wrap .i64 (c + 1)), ofInt .f32 c)
theorem ZaE (a : List Nat) (c : Int) : ZX a c = mkL Z5I a c := by
  unfold ZX Z2n
  rw [mark_loop (f := Z5I) (lo := Zy a c) (fun k c i r => rfl) _ _ _ _ (Int.le_refl 0) (Nat.lt_succ_self _)]
  simp
theorem Z9J (a : List Nat) (c : Int) (g0 : a.length ≤ 1073741824) (h0 : 0 ≤ c) (h1 : c ≤ 4611686018427387904) : c ≤ (ZX a c).1 ∧ (ZX a c).1 ≤ c + 1073741824 := by
  rw [ZaE]
  have q := mkL_ge (f := Z5I) (W := 1) a c (fun x _ c k0 k1 => by simp only [Z5I]; rw [wrap_id (n := c + 1) (by omega) (by omega)]; omega) h0 (by omega)
  omega
def Z5 (Y5 : GBody) (Yl : Int) : Int × (List GVector) × (List (List Int)) × (List GSpring) × (List Nat) := ((ZX Y5.Weights ((Zr Y5.Springs ((Ze Y5.Mesh Yl).1)).1)).1, (Ze Y5.Mesh Yl).2.1, (Ze Y5.Mesh Yl).2.2, (Zr Y5.Springs ((Ze Y5.Mesh Yl).1)).2, (ZX Y5.Weights ((Zr Y5.Springs ((Ze Y5.Mesh Yl).1)).1)).2)
@[simp] theorem Zdp (Y5 : GBody) (Yl : Int) : (Z5 Y5 Yl).2.1.length = Y5.Mesh.Places.length := by
  first | (simp [Z5]; done)
@[simp] theorem Zdq (Y5 : GBody) (Yl : Int) : (Z5 Y5 Yl).2.2.1.length = Y5.Mesh.Triangles.length := by
  first | (simp [Z5]; done)
@[simp] theorem Zdr (Y5 : GBody) (Yl : Int) : (Z5 Y5 Yl).2.2.2.1.length = Y5.Springs.length := by
  first | (simp [Z5]; done)
@[simp] theorem Zds (Y5 : GBody) (Yl : Int) : (Z5 Y5 Yl).2.2.2.2.length = Y5.Weights.length := by
  first | (simp [Z5]; done)
theorem Z5x (Y5 : GBody) (Yl : Int) (hp0 : Y5.Mesh.Places.length ≤ 1073741824) (hp1 : Y5.Mesh.Triangles.length ≤ 1073741824) (hp2 : ∀ t ∈ Y5.Mesh.Triangles, t.length ≤ 1073741824) (hp3 : Y5.Springs.length ≤ 1073741824) (hp4 : Y5.Weights.length ≤ 1073741824)  : CallSt prog 17 [.vec 40 3 (Y5.Mesh.Places.map GVector.cells) false, .nest 49 (Y5.Mesh.Triangles.map fun l => l.map (cI .i64)) false, .vec 133 4 (Y5.Springs.map GSpring.cells) false, .vec 27 1 (Y5.Weights.map (cF .f32)) false] [.agg [.own 0, .own 1, .own 2, .f .f32 Y5.Film, .f .f32 Y5.Bend, .own 3, .f .f32 Y5.Fall.X, .f .f32 Y5.Fall.Y, .f .f32 Y5.Fall.Z], .i .i64 Yl] (.i .i64 ((Z5 Y5 Yl).1)) [.vec 40 3 (((Z5 Y5 Yl).2.1).map GVector.cells) false, .nest 49 (((Z5 Y5 Yl).2.2.1).map fun l => l.map (cI .i64)) false, .vec 133 4 (((Z5 Y5 Yl).2.2.2.1).map GSpring.cells) false, .vec 27 1 (((Z5 Y5 Yl).2.2.2.2).map (cF .f32)) false] := by
 refine callS (EpOk 4) Z4 (c := bodyOf f17) [.vec 40 3 (Y5.Mesh.Places.map GVector.cells) false, .nest 49 (Y5.Mesh.Triangles.map fun l => l.map (cI .i64)) false, .vec 133 4 (Y5.Springs.map GSpring.cells) false, .vec 27 1 (Y5.Weights.map (cF .f32)) false] [] (.i .i64 ((ZX Y5.Weights ((Zr Y5.Springs ((Ze Y5.Mesh Yl).1)).1)).1)) [.vec 40 3 (((Ze Y5.Mesh Yl).2.1).map GVector.cells) false, .nest 49 (((Ze Y5.Mesh Yl).2.2).map fun l => l.map (cI .i64)) false, .vec 133 4 (((Zr Y5.Springs ((Ze Y5.Mesh Yl).1)).2).map GSpring.cells) false, .vec 27 1 (((ZX Y5.Weights ((Zr Y5.Springs ((Ze Y5.Mesh Yl).1)).1)).2).map (cF .f32)) false] func17 (sS (CallSt.frame (Zbc Y5.Mesh Yl hp0 hp1 hp2) [0, 1] (R := [.vec 40 3 (Y5.Mesh.Places.map GVector.cells) false, .nest 49 (Y5.Mesh.Triangles.map fun l => l.map (cI .i64)) false, .vec 133 4 (Y5.Springs.map GSpring.cells) false, .vec 27 1 (Y5.Weights.map (cF .f32)) false, .box 42 [.own 0, .own 1, .own 2, .f .f32 Y5.Film, .f .f32 Y5.Bend, .own 3, .f .f32 Y5.Fall.X, .f .f32 Y5.Fall.Y, .f .f32 Y5.Fall.Z]]) (args' := [.agg [.own 0, .own 1], .i .i64 Yl]) rfl rfl rfl rfl rfl rfl) <| sS (CallSt.frame (Zbd Y5.Springs ((Ze Y5.Mesh Yl).1) hp3) [2] (R := [.vec 40 3 (((Ze Y5.Mesh Yl).2.1).map GVector.cells) false, .nest 49 (((Ze Y5.Mesh Yl).2.2).map fun l => l.map (cI .i64)) false, .vec 133 4 (Y5.Springs.map GSpring.cells) false, .vec 27 1 (Y5.Weights.map (cF .f32)) false, .box 42 [.own 0, .own 1, .own 2, .f .f32 Y5.Film, .f .f32 Y5.Bend, .own 3, .f .f32 Y5.Fall.X, .f .f32 Y5.Fall.Y, .f .f32 Y5.Fall.Z]]) (args' := [.own 2, .i .i64 ((Ze Y5.Mesh Yl).1)]) rfl rfl rfl rfl rfl rfl) <| sS (CallSt.frame (ZaI Y5.Weights ((Zr Y5.Springs ((Ze Y5.Mesh Yl).1)).1) hp4) [3] (R := [.vec 40 3 (((Ze Y5.Mesh Yl).2.1).map GVector.cells) false, .nest 49 (((Ze Y5.Mesh Yl).2.2).map fun l => l.map (cI .i64)) false, .vec 133 4 (((Zr Y5.Springs ((Ze Y5.Mesh Yl).1)).2).map GSpring.cells) false, .vec 27 1 (Y5.Weights.map (cF .f32)) false, .box 42 [.own 0, .own 1, .own 2, .f .f32 Y5.Film, .f .f32 Y5.Bend, .own 3, .f .f32 Y5.Fall.X, .f .f32 Y5.Fall.Y, .f .f32 Y5.Fall.Z]]) (args' := [.own 3, .i .i64 ((Zr Y5.Springs ((Ze Y5.Mesh Yl).1)).1)]) rfl rfl rfl rfl rfl rfl) <| sK [] sN) rfl (by kernel_rfl) (by kernel_rfl) ?_ ?_
 · rfl
 · simp [Z5]
theorem Z6A (a : GBody) (c : Int) (g0 : a.Mesh.Places.length ≤ 1073741824) (g1 : a.Mesh.Triangles.length ≤ 1073741824) (g2 : ∀ t ∈ a.Mesh.Triangles, t.length ≤ 1073741824) (g3 : a.Springs.length ≤ 1073741824) (g4 : a.Weights.length ≤ 1073741824) (h0 : 0 ≤ c) (h1 : c ≤ 2305843009213693952) : c ≤ (Z5 a c).1 ∧ (Z5 a c).1 ≤ c + 1152921513196781568 := by
  unfold Z5
  have p0 := Z9H a.Mesh c g0 g1 g2 (by omega) (by omega)
  have p1 := Za6 a.Springs ((Ze a.Mesh c).1) g3 (by omega) (by omega)
  have p2 := Z9J a.Weights ((Zr a.Springs ((Ze a.Mesh c).1)).1) g4 (by omega) (by omega)
  simp only
  omega
theorem ZaJ (a : GBody) (c : Int) (N : Nat) (h : ∀ t ∈ a.Mesh.Triangles, t.length ≤ N) : ∀ t ∈ (Z5 a c).2.2.1, t.length ≤ N := by
  unfold Z5
  exact Zes _ _ N h
def Z1Q (Y5 : (List Int)) (Yl : Int) : Nat → Int → Int → (List Int) → Int × (List Int)
  | 0, _, _, _ => default
  | k + 1, Yb, Y9, Yc => (cond (decide (Y9 < (Yc.length : Int)))
    (Z1Q Y5 Yl k (IntKind.wrap .i64 (Yb + 1)) (Y9 + 1) (Yc.set Y9.toNat Yb))
    (Yb, Yc))
def Z5c (Y5 : (List Int)) (Yl : Int) (r : Int × (List Int)) : Ex × St := ((.exit 0), ⟨.any :: .i .i64 r.1 :: .any :: .any :: .i .i64 0 :: an 14 [], [.vec 2 1 (r.2.map (cI .i64)) false]⟩)
def ZaF (Y5 : (List Int)) (Yl : Int) (Yb : Int) (Y9 : Int) (Yc : (List Int)) : St := ⟨.own 0 :: .i .i64 Yb :: .any :: .any :: .i .i64 0 :: .i .i64 Y9 :: an 13 [], [.vec 2 1 (Yc.map (cI .i64)) false]⟩
theorem ZaG (Y5 : (List Int)) (Yl : Int) (hp0 : Y5.length ≤ 1073741824) : ∀ (k : Nat) (Yb : Int) (Y9 : Int) (Yc : (List Int)) (Z6e : 0 ≤ Y9) (Z6f : Yc.length = Y5.length) (hk : ((Y5.length : Int) - Y9).toNat < k), Lp prog 1 (sub (bodyOf f27) [1, 0, 1, 0, 0]) (ZaF Y5 Yl Yb Y9 Yc) (Z5c Y5 Yl (Z1Q Y5 Yl k Yb Y9 Yc)).1 (Z5c Y5 Yl (Z1Q Y5 Yl k Yb Y9 Yc)).2 := by
 intro k
 induction k with
 | zero => intro Yb Y9 Yc Z6e Z6f hk; exact absurd hk (Nat.not_lt_zero _)
 | succ k ih =>
  intro Yb Y9 Yc Z6e Z6f hk
  have p {a C} (s : Scr a C) := sZ (cI .i64) Yc <| s
  cases Yg : (decide (Y9 < (Yc.length : Int))) with
  | true =>
   have Yt := of_decide_eq_true Yg
   have YA : (0 : Int) ≤ Y9 := by clear p; exact (by assumption)
   have YE : Y9 < (Yc.length : Int) := by clear p; exact (by assumption)
   have YG : Y9.toNat < Yc.length := by clear p; exact (by omega)
   have YH : (-9223372036854775808 : Int) ≤ (Y9 + 1) := by clear p; exact (by omega)
   have YL : (Y9 + 1) ≤ (9223372036854775807 : Int) := by clear p; exact (by omega)
   have e : Z1Q Y5 Yl (k + 1) Yb Y9 Yc = (Z1Q Y5 Yl k (IntKind.wrap .i64 (Yb + 1)) (Y9 + 1) (Yc.set Y9.toNat Yb)) := by simp only [Z1Q, Yg, cond_true]
   rw [e]
   exact nextS (EpOk 1) Z4 [] (mR false [0, 2, 2, 2, 13]) [] (⟨.own 0 :: .i .i64 (IntKind.wrap .i64 (Yb + 1)) :: .any :: .any :: .i .i64 0 :: .i .i64 (Y9 + 1) :: an 13 [], [.vec 2 1 ((Yc.map (cI .i64)).set Y9.toNat [.i .i64 Yb]) false]⟩) (p (sB Yg <| sX (cI .i64) Yc Y9 YA YE <| sC (maplt (c := (cI .i64)) (l := Yc) YG) <| sW .i64 (Yb + 1) <| sI (Y9 + 1) YH YL <| sN)) (by kernel_rfl) (show _ = ⟨.own 0 :: .i .i64 (IntKind.wrap .i64 (Yb + 1)) :: .any :: .any :: .i .i64 0 :: .i .i64 (Y9 + 1) :: an 13 [], [.vec 2 1 ((Yc.set Y9.toNat Yb).map (cI .i64)) false]⟩ from (by simp [List.map_set, cI])) (ih (IntKind.wrap .i64 (Yb + 1)) (Y9 + 1) (Yc.set Y9.toNat Yb) (show 0 ≤ (Y9 + 1) from (by omega)) (show (Yc.set Y9.toNat Yb).length = Y5.length from (by simp_all <;> omega)) (by omega))
  | false =>
   have Yt := of_decide_eq_false Yg
   have e : Z1Q Y5 Yl (k + 1) Yb Y9 Yc = (Yb, Yc) := by simp only [Z1Q, Yg, cond_false]
   rw [e]
   exact outR (e := (.exit 0)) (EpOk 1) Z4 [] (mR false [1, 1, 2, 1, 14]) [] (p (sB Yg <| sN)) (by kernel_rfl) (by intro h; cases h)
def Z34 (Y5 : (List Int)) (Yl : Int) : Int × (List Int) := (Z1Q Y5 Yl (((Y5.length : Int) - 0).toNat + 1) Yl 0 Y5)
def Z2f (Y5 : (List Int)) (Yl : Int) : Int × (List Int) := ((Z34 Y5 Yl).1, (Z34 Y5 Yl).2)
theorem Zbx (Y5 : (List Int)) (Yl : Int) (hp0 : Y5.length ≤ 1073741824)  : CallSt prog 27 [.vec 2 1 (Y5.map (cI .i64)) false] [.own 0, .i .i64 Yl] (.i .i64 ((Z2f Y5 Yl).1)) [.vec 2 1 (((Z2f Y5 Yl).2).map (cI .i64)) false] := by
 refine callS (EpOk 1) Z4 (c := bodyOf f27) [.vec 2 1 (Y5.map (cI .i64)) false] [] (.i .i64 ((Z34 Y5 Yl).1)) [.vec 2 1 (((Z34 Y5 Yl).2).map (cI .i64)) false] func27 (sL (mR false [0, 2, 2, 2, 13]) 1 (lp_val (Z5c Y5 Yl) (x := (Z34 Y5 Yl)) (ZaG Y5 Yl hp0 (((Y5.length : Int) - 0).toNat + 1) Yl 0 Y5 (show 0 ≤ 0 from (by omega)) (show Y5.length = Y5.length from (by simp)) (Nat.lt_succ_self _)) rfl) <| sK [] sN) rfl (by kernel_rfl) (by kernel_rfl) ?_ ?_
 · rfl
 · simp [Z2f]
def Z8K (_ : Int) (c : Int) : Int × Int := ((IntKind.wrap .i64 (c + 1)), c)
theorem Zfk (a : List Int) (c : Int) : Z2f a c = mkL Z8K a c := by
  unfold Z2f Z34
  rw [mark_loop (f := Z8K) (lo := Z1Q a c) (fun k c i r => rfl) _ _ _ _ (Int.le_refl 0) (Nat.lt_succ_self _)]
  simp
theorem Zet (a : List Int) (c : Int) (g0 : a.length ≤ 1073741824) (h0 : 0 ≤ c) (h1 : c ≤ 4611686018427387904) : c ≤ (Z2f a c).1 ∧ (Z2f a c).1 ≤ c + 1073741824 := by
  rw [Zfk]
  have q := mkL_ge (f := Z8K) (W := 1) a c (fun x _ c k0 k1 => by simp only [Z8K]; rw [wrap_id (n := c + 1) (by omega) (by omega)]; omega) h0 (by omega)
  omega
def ZT (Y5 : (List GVector)) (Yl : Int) : Nat → Int → Int → (Unit) ⊕ (Int)
  | 0, _, _ => .inl default
  | k + 1, Yb, Y9 => (cond (decide (Y9 < (Y5.length : Int)))
    (cond (fcmp .neq .f32 ((Y5.getD Y9.toNat default).X) (ofInt .f32 Yb))
      (.inl ())
      (cond (fcmp .neq .f32 ((Y5.getD Y9.toNat default).Y) (ofInt .f32 (IntKind.wrap .i64 (Yb + 1))))
        (.inl ())
        (cond (fcmp .neq .f32 ((Y5.getD Y9.toNat default).Z) (ofInt .f32 (IntKind.wrap .i64 ((IntKind.wrap .i64 (Yb + 1)) + 1))))
          (.inl ())
          (ZT Y5 Yl k (IntKind.wrap .i64 ((IntKind.wrap .i64 ((IntKind.wrap .i64 (Yb + 1)) + 1)) + 1)) (Y9 + 1)))))
    (.inr Yb))
def Z4L (Y5 : (List GVector)) (Yl : Int) : (Unit) ⊕ (Int) → Ex × St
  | .inl r => (.ret, ⟨an 4 (.i .i64 (-1) :: an 38 []), []⟩)
  | .inr r => ((.exit 0), ⟨.any :: .i .i64 r :: an 41 [], []⟩)
def Zby (Y5 : (List GVector)) (Yl : Int) (Yb : Int) (Y9 : Int) : St := ⟨.sl (Y5.map GVector.cells) :: .i .i64 Yb :: .any :: .any :: .any :: .i .i64 Y9 :: an 37 [], []⟩
theorem Z7W (Y5 : (List GVector)) (Yl : Int) (hp0 : Y5.length ≤ 1073741824) : ∀ (k : Nat) (Yb : Int) (Y9 : Int) (Z6Z : 0 ≤ Y9) (hk : ((Y5.length : Int) - Y9).toNat < k), Lp prog 0 (sub (bodyOf f19) [1, 0, 1, 0, 0]) (Zby Y5 Yl Yb Y9) (Z4L Y5 Yl (ZT Y5 Yl k Yb Y9)).1 (Z4L Y5 Yl (ZT Y5 Yl k Yb Y9)).2 := by
 intro k
 induction k with
 | zero => intro Yb Y9 Z6Z hk; exact absurd hk (Nat.not_lt_zero _)
 | succ k ih =>
  intro Yb Y9 Z6Z hk
  have p {a C} (s : Scr a C) := sZ GVector.cells Y5 <| s
  cases Yg : (decide (Y9 < (Y5.length : Int))) with
  | true =>
   have Yt := of_decide_eq_true Yg
   have YA : (0 : Int) ≤ Y9 := by clear p; exact (by assumption)
   have YE : Y9 < (Y5.length : Int) := by clear p; exact (by assumption)
   have q {a C} (s : Scr a C) := p (sB Yg <| sG GVector.cells Y5 Y9 YA YE <| s)
   clear p
   cases Yq : (fcmp .neq .f32 ((Y5.getD Y9.toNat default).X) (ofInt .f32 Yb)) with
   | true =>
    have e : ZT Y5 Yl (k + 1) Yb Y9 = (.inl ()) := by simp only [ZT, Yg, Yq, cond_true]
    rw [e]
    exact outR (e := .ret) E0Ok Z4 [] (mR false [4, 1, 38]) [] (q (sB Yq <| sN)) (by kernel_rfl) (by intro h; cases h)
   | false =>
    have p {a C} (s : Scr a C) := q (sB Yq <| sW .i64 (Yb + 1) <| sG GVector.cells Y5 Y9 YA YE <| s)
    clear q
    cases YM : (fcmp .neq .f32 ((Y5.getD Y9.toNat default).Y) (ofInt .f32 (IntKind.wrap .i64 (Yb + 1)))) with
    | true =>
     have e : ZT Y5 Yl (k + 1) Yb Y9 = (.inl ()) := by simp only [ZT, Yg, Yq, YM, cond_true, cond_false]
     rw [e]
     exact outR (e := .ret) E0Ok Z4 [] (mR false [4, 1, 38]) [] (p (sB YM <| sN)) (by kernel_rfl) (by intro h; cases h)
    | false =>
     have q {a C} (s : Scr a C) := p (sB YM <| sW .i64 ((IntKind.wrap .i64 (Yb + 1)) + 1) <| sG GVector.cells Y5 Y9 YA YE <| s)
     clear p
     cases YX : (fcmp .neq .f32 ((Y5.getD Y9.toNat default).Z) (ofInt .f32 (IntKind.wrap .i64 ((IntKind.wrap .i64 (Yb + 1)) + 1)))) with
     | true =>
      have e : ZT Y5 Yl (k + 1) Yb Y9 = (.inl ()) := by simp only [ZT, Yg, Yq, YM, YX, cond_true, cond_false]
      rw [e]
      exact outR (e := .ret) E0Ok Z4 [] (mR false [4, 1, 38]) [] (q (sB YX <| sN)) (by kernel_rfl) (by intro h; cases h)
     | false =>
      have YG : (-9223372036854775808 : Int) ≤ (Y9 + 1) := by clear q; exact (by omega)
      have YH : (Y9 + 1) ≤ (9223372036854775807 : Int) := by clear q; exact (by omega)
      have e : ZT Y5 Yl (k + 1) Yb Y9 = (ZT Y5 Yl k (IntKind.wrap .i64 ((IntKind.wrap .i64 ((IntKind.wrap .i64 (Yb + 1)) + 1)) + 1)) (Y9 + 1)) := by simp only [ZT, Yg, Yq, YM, YX, cond_true, cond_false]
      rw [e]
      exact nextR E0Ok Z4 [] (mR false [0, 2, 3, 1, 37]) [] (ih (IntKind.wrap .i64 ((IntKind.wrap .i64 ((IntKind.wrap .i64 (Yb + 1)) + 1)) + 1)) (Y9 + 1) (show 0 ≤ (Y9 + 1) from (by omega)) (by omega)) (q (sB YX <| sW .i64 ((IntKind.wrap .i64 ((IntKind.wrap .i64 (Yb + 1)) + 1)) + 1) <| sI (Y9 + 1) YG YH <| sN)) (by kernel_rfl)
  | false =>
   have Yt := of_decide_eq_false Yg
   have e : ZT Y5 Yl (k + 1) Yb Y9 = (.inr Yb) := by simp only [ZT, Yg, cond_false]
   rw [e]
   exact outR (e := (.exit 0)) E0Ok Z4 [] (mR false [1, 1, 41]) [] (p (sB Yg <| sN)) (by kernel_rfl) (by intro h; cases h)
def Z3W (Y5 : (List GVector)) (Yl : Int) : (Unit) ⊕ (Int) := (ZT Y5 Yl (((Y5.length : Int) - 0).toNat + 1) Yl 0)
def Z1Y (Y5 : (List GVector)) (Yl : Int) : Int := (match (Z3W Y5 Yl) with
  | .inl r1 => (-1)
  | .inr r1 => r1)
theorem Zdl (Y5 : (List GVector)) (Yl : Int) (hp0 : Y5.length ≤ 1073741824)  : Fn prog 19 [.sl (Y5.map GVector.cells), .i .i64 Yl] (.i .i64 (Z1Y Y5 Yl)) [] := by
 cases h0 : (Z3W Y5 Yl) with
 | inl r1 =>
  refine fnS E0Ok Z4 (c := bodyOf f19) [] (.i .i64 (-1)) [] func19 (sL (mR false [0, 2, 3, 1, 37]) 0 (lp_val (Z4L Y5 Yl) (x := (Z3W Y5 Yl)) (Z7W Y5 Yl hp0 (((Y5.length : Int) - 0).toNat + 1) Yl 0 (show 0 ≤ 0 from (by omega)) (Nat.lt_succ_self _)) h0) <| sK [] sN) rfl (by kernel_rfl) (by kernel_rfl) rfl ?_ ?_
  · simp only [Z1Y, h0]
  · rfl
 | inr r1 =>
  refine fnS E0Ok Z4 (c := bodyOf f19) [] (.i .i64 r1) [] func19 (sL (mR false [0, 2, 3, 1, 37]) 0 (lp_val (Z4L Y5 Yl) (x := (Z3W Y5 Yl)) (Z7W Y5 Yl hp0 (((Y5.length : Int) - 0).toNat + 1) Yl 0 (show 0 ≤ 0 from (by omega)) (Nat.lt_succ_self _)) h0) <| sK [] sN) rfl (by kernel_rfl) (by kernel_rfl) rfl ?_ ?_
  · simp only [Z1Y, h0]
  · rfl
def Z9K (x : GVector) (c : Int) : Bool := (!(fcmp .neq .f32 x.X (ofInt .f32 c))) && (!(fcmp .neq .f32 x.Y (ofInt .f32 (IntKind.wrap .i64 (c + 1))))) && (!(fcmp .neq .f32 x.Z (ofInt .f32 (IntKind.wrap .i64 ((IntKind.wrap .i64 (c + 1)) + 1)))))
def Zb4 (_ : GVector) (c : Int) : Int := (IntKind.wrap .i64 ((IntKind.wrap .i64 ((IntKind.wrap .i64 (c + 1)) + 1)) + 1))
theorem Zgp (a : List GVector) (c : Int) : Z1Y a c = match hdL Z9K Zb4 a c with
    | some c' => c'
    | none => -1 := by
  unfold Z1Y Z3W
  rw [held_loop (p := Z9K) (q := Zb4) (a := a) (x := ()) (lo := ZT a c) (fun k c i => by
    rw [ZT]
    unfold Z9K Zb4
    generalize a.getD i.toNat default = x
    cases decide (i < (a.length : Int)) <;> cases fcmp .neq .f32 x.X (ofInt .f32 c) <;> cases fcmp .neq .f32 x.Y (ofInt .f32 (IntKind.wrap .i64 (c + 1))) <;> cases fcmp .neq .f32 x.Z (ofInt .f32 (IntKind.wrap .i64 ((IntKind.wrap .i64 (c + 1)) + 1))) <;> rfl) _ _ _ (Int.le_refl 0) (Nat.lt_succ_self _)]
  simp only [Int.toNat_zero, List.drop_zero]
  cases hdL Z9K Zb4 a c <;> rfl
def Z1K (Y5 : (List Int)) (Yl : Int) : Nat → Int → Int → (Unit) ⊕ (Int)
  | 0, _, _ => .inl default
  | k + 1, Yb, Y9 => (cond (decide (Y9 < (Y5.length : Int)))
    (cond ((Y5.getD Y9.toNat default) != Yb)
      (.inl ())
      (Z1K Y5 Yl k (IntKind.wrap .i64 (Yb + 1)) (Y9 + 1)))
    (.inr Yb))
def Z56 (Y5 : (List Int)) (Yl : Int) : (Unit) ⊕ (Int) → Ex × St
  | .inl r => (.ret, ⟨an 4 (.i .i64 (-1) :: an 16 []), []⟩)
  | .inr r => ((.exit 0), ⟨.any :: .i .i64 r :: an 19 [], []⟩)
def Zc4 (Y5 : (List Int)) (Yl : Int) (Yb : Int) (Y9 : Int) : St := ⟨.sl (Y5.map (cI .i64)) :: .i .i64 Yb :: .any :: .any :: .any :: .i .i64 Y9 :: an 15 [], []⟩
theorem Z8L (Y5 : (List Int)) (Yl : Int) (hp0 : Y5.length ≤ 1073741824) : ∀ (k : Nat) (Yb : Int) (Y9 : Int) (Z7k : 0 ≤ Y9) (hk : ((Y5.length : Int) - Y9).toNat < k), Lp prog 0 (sub (bodyOf f143) [1, 0, 1, 0, 0]) (Zc4 Y5 Yl Yb Y9) (Z56 Y5 Yl (Z1K Y5 Yl k Yb Y9)).1 (Z56 Y5 Yl (Z1K Y5 Yl k Yb Y9)).2 := by
 intro k
 induction k with
 | zero => intro Yb Y9 Z7k hk; exact absurd hk (Nat.not_lt_zero _)
 | succ k ih =>
  intro Yb Y9 Z7k hk
  have p {a C} (s : Scr a C) := sZ (cI .i64) Y5 <| s
  cases Yg : (decide (Y9 < (Y5.length : Int))) with
  | true =>
   have Yt := of_decide_eq_true Yg
   have YA : (0 : Int) ≤ Y9 := by clear p; exact (by assumption)
   have YE : Y9 < (Y5.length : Int) := by clear p; exact (by assumption)
   have q {a C} (s : Scr a C) := p (sB Yg <| sG (cI .i64) Y5 Y9 YA YE <| s)
   clear p
   cases Yq : ((Y5.getD Y9.toNat default) != Yb) with
   | true =>
    have Y11 := bne_iff_ne.1 Yq
    have e : Z1K Y5 Yl (k + 1) Yb Y9 = (.inl ()) := by simp only [Z1K, Yg, Yq, cond_true]
    rw [e]
    exact outR (e := .ret) E0Ok Z4 [] (mR false [4, 1, 16]) [] (q (sB Yq <| sN)) (by kernel_rfl) (by intro h; cases h)
   | false =>
    have Y11 := bne_eq_false_iff_eq.1 Yq
    have YG : (-9223372036854775808 : Int) ≤ (Y9 + 1) := by clear q; exact (by omega)
    have YH : (Y9 + 1) ≤ (9223372036854775807 : Int) := by clear q; exact (by omega)
    have e : Z1K Y5 Yl (k + 1) Yb Y9 = (Z1K Y5 Yl k (IntKind.wrap .i64 (Yb + 1)) (Y9 + 1)) := by simp only [Z1K, Yg, Yq, cond_true, cond_false]
    rw [e]
    exact nextR E0Ok Z4 [] (mR false [0, 2, 3, 1, 15]) [] (ih (IntKind.wrap .i64 (Yb + 1)) (Y9 + 1) (show 0 ≤ (Y9 + 1) from (by omega)) (by omega)) (q (sB Yq <| sW .i64 (Yb + 1) <| sI (Y9 + 1) YG YH <| sN)) (by kernel_rfl)
  | false =>
   have Yt := of_decide_eq_false Yg
   have e : Z1K Y5 Yl (k + 1) Yb Y9 = (.inr Yb) := by simp only [Z1K, Yg, cond_false]
   rw [e]
   exact outR (e := (.exit 0)) E0Ok Z4 [] (mR false [1, 1, 19]) [] (p (sB Yg <| sN)) (by kernel_rfl) (by intro h; cases h)
def Z43 (Y5 : (List Int)) (Yl : Int) : (Unit) ⊕ (Int) := (Z1K Y5 Yl (((Y5.length : Int) - 0).toNat + 1) Yl 0)
def Z1j (Y5 : (List Int)) (Yl : Int) : Int := (match (Z43 Y5 Yl) with
  | .inl r1 => (-1)
  | .inr r1 => r1)
theorem ZdR (Y5 : (List Int)) (Yl : Int) (hp0 : Y5.length ≤ 1073741824)  : Fn prog 143 [.sl (Y5.map (cI .i64)), .i .i64 Yl] (.i .i64 (Z1j Y5 Yl)) [] := by
 cases h0 : (Z43 Y5 Yl) with
 | inl r1 =>
  refine fnS E0Ok Z4 (c := bodyOf f143) [] (.i .i64 (-1)) [] func143 (sL (mR false [0, 2, 3, 1, 15]) 0 (lp_val (Z56 Y5 Yl) (x := (Z43 Y5 Yl)) (Z8L Y5 Yl hp0 (((Y5.length : Int) - 0).toNat + 1) Yl 0 (show 0 ≤ 0 from (by omega)) (Nat.lt_succ_self _)) h0) <| sK [] sN) rfl (by kernel_rfl) (by kernel_rfl) rfl ?_ ?_
  · simp only [Z1j, h0]
  · rfl
 | inr r1 =>
  refine fnS E0Ok Z4 (c := bodyOf f143) [] (.i .i64 r1) [] func143 (sL (mR false [0, 2, 3, 1, 15]) 0 (lp_val (Z56 Y5 Yl) (x := (Z43 Y5 Yl)) (Z8L Y5 Yl hp0 (((Y5.length : Int) - 0).toNat + 1) Yl 0 (show 0 ≤ 0 from (by omega)) (Nat.lt_succ_self _)) h0) <| sK [] sN) rfl (by kernel_rfl) (by kernel_rfl) rfl ?_ ?_
  · simp only [Z1j, h0]
  · rfl
def ZaH (x : Int) (c : Int) : Bool := (!(x != c))
def Zc5 (_ : Int) (c : Int) : Int := (IntKind.wrap .i64 (c + 1))
theorem ZgQ (a : List Int) (c : Int) : Z1j a c = match hdL ZaH Zc5 a c with
    | some c' => c'
    | none => -1 := by
  unfold Z1j Z43
  rw [held_loop (p := ZaH) (q := Zc5) (a := a) (x := ()) (lo := Z1K a c) (fun k c i => by
    rw [Z1K]
    unfold ZaH Zc5
    generalize a.getD i.toNat default = x
    cases decide (i < (a.length : Int)) <;> cases (x != c) <;> rfl) _ _ _ (Int.le_refl 0) (Nat.lt_succ_self _)]
  simp only [Int.toNat_zero, List.drop_zero]
  cases hdL ZaH Zc5 a c <;> rfl
def Z1w (Y5 : (List (List Int))) (Yl : Int) : Nat → Int → Int → (Unit) ⊕ (Int)
  | 0, _, _ => .inl default
  | k + 1, Yb, Y9 => (cond (decide (Y9 < (Y5.length : Int)))
    (cond (decide ((Z1j (Y5.getD Y9.toNat default) Yb) < 0))
      (.inl ())
      (Z1w Y5 Yl k (Z1j (Y5.getD Y9.toNat default) Yb) (Y9 + 1)))
    (.inr Yb))
def Z4M (Y5 : (List (List Int))) (Yl : Int) : (Unit) ⊕ (Int) → Ex × St
  | .inl r => (.ret, ⟨an 4 (.i .i64 (-1) :: an 16 []), []⟩)
  | .inr r => ((.exit 0), ⟨.any :: .i .i64 r :: an 19 [], []⟩)
def Zbz (Y5 : (List (List Int))) (Yl : Int) (Yb : Int) (Y9 : Int) : St := ⟨.sl (Y5.map (cL (cI .i64))) :: .i .i64 Yb :: .any :: .any :: .any :: .i .i64 Y9 :: an 15 [], []⟩
theorem Z7X (Y5 : (List (List Int))) (Yl : Int) (hp0 : Y5.length ≤ 1073741824) (hp1 : ∀ t ∈ Y5, t.length ≤ 1073741824) : ∀ (k : Nat) (Yb : Int) (Y9 : Int) (Z70 : 0 ≤ Y9) (hk : ((Y5.length : Int) - Y9).toNat < k), Lp prog 0 (sub (bodyOf f125) [1, 0, 1, 0, 0]) (Zbz Y5 Yl Yb Y9) (Z4M Y5 Yl (Z1w Y5 Yl k Yb Y9)).1 (Z4M Y5 Yl (Z1w Y5 Yl k Yb Y9)).2 := by
 intro k
 induction k with
 | zero => intro Yb Y9 Z70 hk; exact absurd hk (Nat.not_lt_zero _)
 | succ k ih =>
  intro Yb Y9 Z70 hk
  have p {a C} (s : Scr a C) := sZ (cL (cI .i64)) Y5 <| s
  cases Yg : (decide (Y9 < (Y5.length : Int))) with
  | true =>
   have Yt := of_decide_eq_true Yg
   have YA : (0 : Int) ≤ Y9 := by clear p; exact (by assumption)
   have YE : Y9 < (Y5.length : Int) := by clear p; exact (by assumption)
   have YG : (Y5.getD Y9.toNat default).length ≤ 1073741824 := by clear p; exact (by simp_all <;> omega)
   have q {a C} (s : Scr a C) := p (sB Yg <| sG (cL (cI .i64)) Y5 Y9 YA YE <| sF (ZdR (Y5.getD Y9.toNat default) Yb YG) <| s)
   clear p
   cases Yq : (decide ((Z1j (Y5.getD Y9.toNat default) Yb) < 0)) with
   | true =>
    have Y11 := of_decide_eq_true Yq
    have e : Z1w Y5 Yl (k + 1) Yb Y9 = (.inl ()) := by simp only [Z1w, Yg, Yq, cond_true]
    rw [e]
    exact outR (e := .ret) E0Ok Z4 [] (mR false [4, 1, 16]) [] (q (sB Yq <| sN)) (by kernel_rfl) (by intro h; cases h)
   | false =>
    have Y11 := of_decide_eq_false Yq
    have YH : (-9223372036854775808 : Int) ≤ (Y9 + 1) := by clear q; exact (by omega)
    have YL : (Y9 + 1) ≤ (9223372036854775807 : Int) := by clear q; exact (by omega)
    have e : Z1w Y5 Yl (k + 1) Yb Y9 = (Z1w Y5 Yl k (Z1j (Y5.getD Y9.toNat default) Yb) (Y9 + 1)) := by simp only [Z1w, Yg, Yq, cond_true, cond_false]
    rw [e]
    exact nextR E0Ok Z4 [] (mR false [0, 2, 3, 1, 15]) [] (ih (Z1j (Y5.getD Y9.toNat default) Yb) (Y9 + 1) (show 0 ≤ (Y9 + 1) from (by omega)) (by omega)) (q (sB Yq <| sI (Y9 + 1) YH YL <| sN)) (by kernel_rfl)
  | false =>
   have Yt := of_decide_eq_false Yg
   have e : Z1w Y5 Yl (k + 1) Yb Y9 = (.inr Yb) := by simp only [Z1w, Yg, cond_false]
   rw [e]
   exact outR (e := (.exit 0)) E0Ok Z4 [] (mR false [1, 1, 19]) [] (p (sB Yg <| sN)) (by kernel_rfl) (by intro h; cases h)
def Z3X (Y5 : (List (List Int))) (Yl : Int) : (Unit) ⊕ (Int) := (Z1w Y5 Yl (((Y5.length : Int) - 0).toNat + 1) Yl 0)
def Z2O (Y5 : (List (List Int))) (Yl : Int) : Int := (match (Z3X Y5 Yl) with
  | .inl r1 => (-1)
  | .inr r1 => r1)
theorem Zdm (Y5 : (List (List Int))) (Yl : Int) (hp0 : Y5.length ≤ 1073741824) (hp1 : ∀ t ∈ Y5, t.length ≤ 1073741824)  : Fn prog 125 [.sl (Y5.map (cL (cI .i64))), .i .i64 Yl] (.i .i64 (Z2O Y5 Yl)) [] := by
 cases h0 : (Z3X Y5 Yl) with
 | inl r1 =>
  refine fnS E0Ok Z4 (c := bodyOf f125) [] (.i .i64 (-1)) [] func125 (sL (mR false [0, 2, 3, 1, 15]) 0 (lp_val (Z4M Y5 Yl) (x := (Z3X Y5 Yl)) (Z7X Y5 Yl hp0 hp1 (((Y5.length : Int) - 0).toNat + 1) Yl 0 (show 0 ≤ 0 from (by omega)) (Nat.lt_succ_self _)) h0) <| sK [] sN) rfl (by kernel_rfl) (by kernel_rfl) rfl ?_ ?_
  · simp only [Z2O, h0]
  · rfl
 | inr r1 =>
  refine fnS E0Ok Z4 (c := bodyOf f125) [] (.i .i64 r1) [] func125 (sL (mR false [0, 2, 3, 1, 15]) 0 (lp_val (Z4M Y5 Yl) (x := (Z3X Y5 Yl)) (Z7X Y5 Yl hp0 hp1 (((Y5.length : Int) - 0).toNat + 1) Yl 0 (show 0 ≤ 0 from (by omega)) (Nat.lt_succ_self _)) h0) <| sK [] sN) rfl (by kernel_rfl) (by kernel_rfl) rfl ?_ ?_
  · simp only [Z2O, h0]
  · rfl
theorem Zg9 (a : List (List Int)) (c : Int) : Z2O a c = match hdL (fun x c => !(decide (Z1j x c < 0))) Z1j a c with
    | some c' => c'
    | none => -1 := by
  unfold Z2O Z3X
  rw [held_loop (p := fun x c => !(decide (Z1j x c < 0))) (q := Z1j) (a := a) (x := ()) (lo := Z1w a c) (fun k c i => by
    rw [Z1w]
    cases decide (i < (a.length : Int)) <;> cases decide (Z1j (a.getD i.toNat default) c < 0) <;> rfl) _ _ _ (Int.le_refl 0) (Nat.lt_succ_self _)]
  simp only [Int.toNat_zero, List.drop_zero]
  cases hdL (fun x c => !(decide (Z1j x c < 0))) Z1j a c <;> rfl
def Z1T (Y5 : GMesh) (Yl : Int) : Int := (cond (decide ((Z1Y Y5.Places Yl) < 0))
  (-1)
  (cond (decide ((Z2O Y5.Triangles (Z1Y Y5.Places Yl)) < 0))
    (-1)
    (Z2O Y5.Triangles (Z1Y Y5.Places Yl))))
theorem ZeV (Y5 : GMesh) (Yl : Int) (hp0 : Y5.Places.length ≤ 1073741824) (hp1 : Y5.Triangles.length ≤ 1073741824) (hp2 : ∀ t ∈ Y5.Triangles, t.length ≤ 1073741824)  : Fn prog 73 [.agg [.sl (Y5.Places.map GVector.cells), .sl (Y5.Triangles.map (cL (cI .i64)))], .i .i64 Yl] (.i .i64 (Z1T Y5 Yl)) [] := by
 have p {a C} (s : Scr a C) := sF (Zdl Y5.Places Yl hp0) <| s
 cases h0 : (decide ((Z1Y Y5.Places Yl) < 0)) with
 | true =>
  have gh0 := of_decide_eq_true h0
  refine fnS E0Ok Z4 (c := bodyOf f73) [] (.i .i64 (-1)) [] func73 (p (sB h0 <| sK [] sN)) rfl (by kernel_rfl) (by kernel_rfl) rfl ?_ ?_
  · simp only [Z1T, h0, cond_true]
  · rfl
 | false =>
  have gh0 := of_decide_eq_false h0
  have q {a C} (s : Scr a C) := p (sB h0 <| sF (Zdm Y5.Triangles (Z1Y Y5.Places Yl) hp1 hp2) <| s)
  clear p
  cases h1 : (decide ((Z2O Y5.Triangles (Z1Y Y5.Places Yl)) < 0)) with
  | true =>
   have gh1 := of_decide_eq_true h1
   refine fnS E0Ok Z4 (c := bodyOf f73) [] (.i .i64 (-1)) [] func73 (q (sB h1 <| sK [] sN)) rfl (by kernel_rfl) (by kernel_rfl) rfl ?_ ?_
   · simp only [Z1T, h0, h1, cond_true, cond_false]
   · rfl
  | false =>
   have gh1 := of_decide_eq_false h1
   refine fnS E0Ok Z4 (c := bodyOf f73) [] (.i .i64 (Z2O Y5.Triangles (Z1Y Y5.Places Yl))) [] func73 (q (sB h1 <| sK [] sN)) rfl (by kernel_rfl) (by kernel_rfl) rfl ?_ ?_
   · simp only [Z1T, h0, h1, cond_false]
   · rfl
def ZF (Y5 : (List GSpring)) (Yl : Int) : Nat → Int → Int → (Unit) ⊕ (Int)
  | 0, _, _ => .inl default
  | k + 1, Yb, Y9 => (cond (decide (Y9 < (Y5.length : Int)))
    (cond ((Y5.getD Y9.toNat default).A != Yb)
      (.inl ())
      (cond ((Y5.getD Y9.toNat default).B != (IntKind.wrap .i64 (Yb + 1)))
        (.inl ())
        (cond (fcmp .neq .f32 ((Y5.getD Y9.toNat default).Long) (ofInt .f32 (IntKind.wrap .i64 ((IntKind.wrap .i64 (Yb + 1)) + 1))))
          (.inl ())
          (cond (fcmp .neq .f32 ((Y5.getD Y9.toNat default).Stiff) (ofInt .f32 (IntKind.wrap .i64 ((IntKind.wrap .i64 ((IntKind.wrap .i64 (Yb + 1)) + 1)) + 1))))
            (.inl ())
            (ZF Y5 Yl k (IntKind.wrap .i64 ((IntKind.wrap .i64 ((IntKind.wrap .i64 ((IntKind.wrap .i64 (Yb + 1)) + 1)) + 1)) + 1)) (Y9 + 1))))))
    (.inr Yb))
def Z4N (Y5 : (List GSpring)) (Yl : Int) : (Unit) ⊕ (Int) → Ex × St
  | .inl r => (.ret, ⟨an 4 (.i .i64 (-1) :: an 46 []), []⟩)
  | .inr r => ((.exit 0), ⟨.any :: .i .i64 r :: an 49 [], []⟩)
def ZbA (Y5 : (List GSpring)) (Yl : Int) (Yb : Int) (Y9 : Int) : St := ⟨.sl (Y5.map GSpring.cells) :: .i .i64 Yb :: .any :: .any :: .any :: .i .i64 Y9 :: an 45 [], []⟩
theorem Z7Y (Y5 : (List GSpring)) (Yl : Int) (hp0 : Y5.length ≤ 1073741824) : ∀ (k : Nat) (Yb : Int) (Y9 : Int) (Z71 : 0 ≤ Y9) (hk : ((Y5.length : Int) - Y9).toNat < k), Lp prog 0 (sub (bodyOf f74) [1, 0, 1, 0, 0]) (ZbA Y5 Yl Yb Y9) (Z4N Y5 Yl (ZF Y5 Yl k Yb Y9)).1 (Z4N Y5 Yl (ZF Y5 Yl k Yb Y9)).2 := by
 intro k
 induction k with
 | zero => intro Yb Y9 Z71 hk; exact absurd hk (Nat.not_lt_zero _)
 | succ k ih =>
  intro Yb Y9 Z71 hk
  have p {a C} (s : Scr a C) := sZ GSpring.cells Y5 <| s
  cases Yg : (decide (Y9 < (Y5.length : Int))) with
  | true =>
   have Yt := of_decide_eq_true Yg
   have YA : (0 : Int) ≤ Y9 := by clear p; exact (by assumption)
   have YE : Y9 < (Y5.length : Int) := by clear p; exact (by assumption)
   have q {a C} (s : Scr a C) := p (sB Yg <| sG GSpring.cells Y5 Y9 YA YE <| s)
   clear p
   cases Yq : ((Y5.getD Y9.toNat default).A != Yb) with
   | true =>
    have Y11 := bne_iff_ne.1 Yq
    have e : ZF Y5 Yl (k + 1) Yb Y9 = (.inl ()) := by simp only [ZF, Yg, Yq, cond_true]
    rw [e]
    exact outR (e := .ret) E0Ok Z4 [] (mR false [4, 1, 46]) [] (q (sB Yq <| sN)) (by kernel_rfl) (by intro h; cases h)
   | false =>
    have Y11 := bne_eq_false_iff_eq.1 Yq
    have p {a C} (s : Scr a C) := q (sB Yq <| sW .i64 (Yb + 1) <| sG GSpring.cells Y5 Y9 YA YE <| s)
    clear q
    cases YM : ((Y5.getD Y9.toNat default).B != (IntKind.wrap .i64 (Yb + 1))) with
    | true =>
     have Y1e := bne_iff_ne.1 YM
     have e : ZF Y5 Yl (k + 1) Yb Y9 = (.inl ()) := by simp only [ZF, Yg, Yq, YM, cond_true, cond_false]
     rw [e]
     exact outR (e := .ret) E0Ok Z4 [] (mR false [4, 1, 46]) [] (p (sB YM <| sN)) (by kernel_rfl) (by intro h; cases h)
    | false =>
     have Y1e := bne_eq_false_iff_eq.1 YM
     have q {a C} (s : Scr a C) := p (sB YM <| sW .i64 ((IntKind.wrap .i64 (Yb + 1)) + 1) <| sG GSpring.cells Y5 Y9 YA YE <| s)
     clear p
     cases YX : (fcmp .neq .f32 ((Y5.getD Y9.toNat default).Long) (ofInt .f32 (IntKind.wrap .i64 ((IntKind.wrap .i64 (Yb + 1)) + 1)))) with
     | true =>
      have e : ZF Y5 Yl (k + 1) Yb Y9 = (.inl ()) := by simp only [ZF, Yg, Yq, YM, YX, cond_true, cond_false]
      rw [e]
      exact outR (e := .ret) E0Ok Z4 [] (mR false [4, 1, 46]) [] (q (sB YX <| sN)) (by kernel_rfl) (by intro h; cases h)
     | false =>
      have p {a C} (s : Scr a C) := q (sB YX <| sW .i64 ((IntKind.wrap .i64 ((IntKind.wrap .i64 (Yb + 1)) + 1)) + 1) <| sG GSpring.cells Y5 Y9 YA YE <| s)
      clear q
      cases h_4 : (fcmp .neq .f32 ((Y5.getD Y9.toNat default).Stiff) (ofInt .f32 (IntKind.wrap .i64 ((IntKind.wrap .i64 ((IntKind.wrap .i64 (Yb + 1)) + 1)) + 1)))) with
      | true =>
       have e : ZF Y5 Yl (k + 1) Yb Y9 = (.inl ()) := by simp only [ZF, Yg, Yq, YM, YX, h_4, cond_true, cond_false]
       rw [e]
       exact outR (e := .ret) E0Ok Z4 [] (mR false [4, 1, 46]) [] (p (sB h_4 <| sN)) (by kernel_rfl) (by intro h; cases h)
      | false =>
       have YG : (-9223372036854775808 : Int) ≤ (Y9 + 1) := by clear p; exact (by omega)
       have YH : (Y9 + 1) ≤ (9223372036854775807 : Int) := by clear p; exact (by omega)
       have e : ZF Y5 Yl (k + 1) Yb Y9 = (ZF Y5 Yl k (IntKind.wrap .i64 ((IntKind.wrap .i64 ((IntKind.wrap .i64 ((IntKind.wrap .i64 (Yb + 1)) + 1)) + 1)) + 1)) (Y9 + 1)) := by simp only [ZF, Yg, Yq, YM, YX, h_4, cond_true, cond_false]
       rw [e]
       exact nextR E0Ok Z4 [] (mR false [0, 2, 3, 1, 45]) [] (ih (IntKind.wrap .i64 ((IntKind.wrap .i64 ((IntKind.wrap .i64 ((IntKind.wrap .i64 (Yb + 1)) + 1)) + 1)) + 1)) (Y9 + 1) (show 0 ≤ (Y9 + 1) from (by omega)) (by omega)) (p (sB h_4 <| sW .i64 ((IntKind.wrap .i64 ((IntKind.wrap .i64 ((IntKind.wrap .i64 (Yb + 1)) + 1)) + 1)) + 1) <| sI (Y9 + 1) YG YH <| sN)) (by kernel_rfl)
  | false =>
   have Yt := of_decide_eq_false Yg
   have e : ZF Y5 Yl (k + 1) Yb Y9 = (.inr Yb) := by simp only [ZF, Yg, cond_false]
   rw [e]
   exact outR (e := (.exit 0)) E0Ok Z4 [] (mR false [1, 1, 49]) [] (p (sB Yg <| sN)) (by kernel_rfl) (by intro h; cases h)
def Z3Y (Y5 : (List GSpring)) (Yl : Int) : (Unit) ⊕ (Int) := (ZF Y5 Yl (((Y5.length : Int) - 0).toNat + 1) Yl 0)
def Z1Z (Y5 : (List GSpring)) (Yl : Int) : Int := (match (Z3Y Y5 Yl) with
  | .inl r1 => (-1)
  | .inr r1 => r1)
theorem Zdn (Y5 : (List GSpring)) (Yl : Int) (hp0 : Y5.length ≤ 1073741824)  : Fn prog 74 [.sl (Y5.map GSpring.cells), .i .i64 Yl] (.i .i64 (Z1Z Y5 Yl)) [] := by
 cases h0 : (Z3Y Y5 Yl) with
 | inl r1 =>
  refine fnS E0Ok Z4 (c := bodyOf f74) [] (.i .i64 (-1)) [] func74 (sL (mR false [0, 2, 3, 1, 45]) 0 (lp_val (Z4N Y5 Yl) (x := (Z3Y Y5 Yl)) (Z7Y Y5 Yl hp0 (((Y5.length : Int) - 0).toNat + 1) Yl 0 (show 0 ≤ 0 from (by omega)) (Nat.lt_succ_self _)) h0) <| sK [] sN) rfl (by kernel_rfl) (by kernel_rfl) rfl ?_ ?_
  · simp only [Z1Z, h0]
  · rfl
 | inr r1 =>
  refine fnS E0Ok Z4 (c := bodyOf f74) [] (.i .i64 r1) [] func74 (sL (mR false [0, 2, 3, 1, 45]) 0 (lp_val (Z4N Y5 Yl) (x := (Z3Y Y5 Yl)) (Z7Y Y5 Yl hp0 (((Y5.length : Int) - 0).toNat + 1) Yl 0 (show 0 ≤ 0 from (by omega)) (Nat.lt_succ_self _)) h0) <| sK [] sN) rfl (by kernel_rfl) (by kernel_rfl) rfl ?_ ?_
  · simp only [Z1Z, h0]
  · rfl
def Z9L (x : GSpring) (c : Int) : Bool := (!(x.A != c)) && (!(x.B != (IntKind.wrap .i64 (c + 1)))) && (!(fcmp .neq .f32 x.Long (ofInt .f32 (IntKind.wrap .i64 ((IntKind.wrap .i64 (c + 1)) + 1))))) && (!(fcmp .neq .f32 x.Stiff (ofInt .f32 (IntKind.wrap .i64 ((IntKind.wrap .i64 ((IntKind.wrap .i64 (c + 1)) + 1)) + 1)))))
def Zb5 (_ : GSpring) (c : Int) : Int := (IntKind.wrap .i64 ((IntKind.wrap .i64 ((IntKind.wrap .i64 ((IntKind.wrap .i64 (c + 1)) + 1)) + 1)) + 1))
theorem Zgq (a : List GSpring) (c : Int) : Z1Z a c = match hdL Z9L Zb5 a c with
    | some c' => c'
    | none => -1 := by
  unfold Z1Z Z3Y
  rw [held_loop (p := Z9L) (q := Zb5) (a := a) (x := ()) (lo := ZF a c) (fun k c i => by
    rw [ZF]
    unfold Z9L Zb5
    generalize a.getD i.toNat default = x
    cases decide (i < (a.length : Int)) <;> cases (x.A != c) <;> cases (x.B != (IntKind.wrap .i64 (c + 1))) <;> cases fcmp .neq .f32 x.Long (ofInt .f32 (IntKind.wrap .i64 ((IntKind.wrap .i64 (c + 1)) + 1))) <;> cases fcmp .neq .f32 x.Stiff (ofInt .f32 (IntKind.wrap .i64 ((IntKind.wrap .i64 ((IntKind.wrap .i64 (c + 1)) + 1)) + 1))) <;> rfl) _ _ _ (Int.le_refl 0) (Nat.lt_succ_self _)]
  simp only [Int.toNat_zero, List.drop_zero]
  cases hdL Z9L Zb5 a c <;> rfl
def Z1o (Y5 : (List Nat)) (Yl : Int) : Nat → Int → Int → (Unit) ⊕ (Int)
  | 0, _, _ => .inl default
  | k + 1, Yb, Y9 => (cond (decide (Y9 < (Y5.length : Int)))
    (cond (fcmp .neq .f32 (Y5.getD Y9.toNat default) (ofInt .f32 Yb))
      (.inl ())
      (Z1o Y5 Yl k (IntKind.wrap .i64 (Yb + 1)) (Y9 + 1)))
    (.inr Yb))
def Z4y (Y5 : (List Nat)) (Yl : Int) : (Unit) ⊕ (Int) → Ex × St
  | .inl r => (.ret, ⟨an 4 (.i .i64 (-1) :: an 17 []), []⟩)
  | .inr r => ((.exit 0), ⟨.any :: .i .i64 r :: an 20 [], []⟩)
def Zbe (Y5 : (List Nat)) (Yl : Int) (Yb : Int) (Y9 : Int) : St := ⟨.sl (Y5.map (cF .f32)) :: .i .i64 Yb :: .any :: .any :: .any :: .i .i64 Y9 :: an 16 [], []⟩
theorem Z7l (Y5 : (List Nat)) (Yl : Int) (hp0 : Y5.length ≤ 1073741824) : ∀ (k : Nat) (Yb : Int) (Y9 : Int) (Z6W : 0 ≤ Y9) (hk : ((Y5.length : Int) - Y9).toNat < k), Lp prog 0 (sub (bodyOf f42) [1, 0, 1, 0, 0]) (Zbe Y5 Yl Yb Y9) (Z4y Y5 Yl (Z1o Y5 Yl k Yb Y9)).1 (Z4y Y5 Yl (Z1o Y5 Yl k Yb Y9)).2 := by
 intro k
 induction k with
 | zero => intro Yb Y9 Z6W hk; exact absurd hk (Nat.not_lt_zero _)
 | succ k ih =>
  intro Yb Y9 Z6W hk
  have p {a C} (s : Scr a C) := sZ (cF .f32) Y5 <| s
  cases Yg : (decide (Y9 < (Y5.length : Int))) with
  | true =>
   have Yt := of_decide_eq_true Yg
   have YA : (0 : Int) ≤ Y9 := by clear p; exact (by assumption)
   have YE : Y9 < (Y5.length : Int) := by clear p; exact (by assumption)
   have q {a C} (s : Scr a C) := p (sB Yg <| sG (cF .f32) Y5 Y9 YA YE <| s)
   clear p
   cases Yq : (fcmp .neq .f32 (Y5.getD Y9.toNat default) (ofInt .f32 Yb)) with
   | true =>
    have e : Z1o Y5 Yl (k + 1) Yb Y9 = (.inl ()) := by simp only [Z1o, Yg, Yq, cond_true]
    rw [e]
    exact outR (e := .ret) E0Ok Z4 [] (mR false [4, 1, 17]) [] (q (sB Yq <| sN)) (by kernel_rfl) (by intro h; cases h)
   | false =>
    have YG : (-9223372036854775808 : Int) ≤ (Y9 + 1) := by clear q; exact (by omega)
    have YH : (Y9 + 1) ≤ (9223372036854775807 : Int) := by clear q; exact (by omega)
    have e : Z1o Y5 Yl (k + 1) Yb Y9 = (Z1o Y5 Yl k (IntKind.wrap .i64 (Yb + 1)) (Y9 + 1)) := by simp only [Z1o, Yg, Yq, cond_true, cond_false]
    rw [e]
    exact nextR E0Ok Z4 [] (mR false [0, 2, 3, 1, 16]) [] (ih (IntKind.wrap .i64 (Yb + 1)) (Y9 + 1) (show 0 ≤ (Y9 + 1) from (by omega)) (by omega)) (q (sB Yq <| sW .i64 (Yb + 1) <| sI (Y9 + 1) YG YH <| sN)) (by kernel_rfl)
  | false =>
   have Yt := of_decide_eq_false Yg
   have e : Z1o Y5 Yl (k + 1) Yb Y9 = (.inr Yb) := by simp only [Z1o, Yg, cond_false]
   rw [e]
   exact outR (e := (.exit 0)) E0Ok Z4 [] (mR false [1, 1, 20]) [] (p (sB Yg <| sN)) (by kernel_rfl) (by intro h; cases h)
def Z3Q (Y5 : (List Nat)) (Yl : Int) : (Unit) ⊕ (Int) := (Z1o Y5 Yl (((Y5.length : Int) - 0).toNat + 1) Yl 0)
def Z2F (Y5 : (List Nat)) (Yl : Int) : Int := (match (Z3Q Y5 Yl) with
  | .inl r1 => (-1)
  | .inr r1 => r1)
theorem ZcE (Y5 : (List Nat)) (Yl : Int) (hp0 : Y5.length ≤ 1073741824)  : Fn prog 42 [.sl (Y5.map (cF .f32)), .i .i64 Yl] (.i .i64 (Z2F Y5 Yl)) [] := by
 cases h0 : (Z3Q Y5 Yl) with
 | inl r1 =>
  refine fnS E0Ok Z4 (c := bodyOf f42) [] (.i .i64 (-1)) [] func42 (sL (mR false [0, 2, 3, 1, 16]) 0 (lp_val (Z4y Y5 Yl) (x := (Z3Q Y5 Yl)) (Z7l Y5 Yl hp0 (((Y5.length : Int) - 0).toNat + 1) Yl 0 (show 0 ≤ 0 from (by omega)) (Nat.lt_succ_self _)) h0) <| sK [] sN) rfl (by kernel_rfl) (by kernel_rfl) rfl ?_ ?_
  · simp only [Z2F, h0]
  · rfl
 | inr r1 =>
  refine fnS E0Ok Z4 (c := bodyOf f42) [] (.i .i64 r1) [] func42 (sL (mR false [0, 2, 3, 1, 16]) 0 (lp_val (Z4y Y5 Yl) (x := (Z3Q Y5 Yl)) (Z7l Y5 Yl hp0 (((Y5.length : Int) - 0).toNat + 1) Yl 0 (show 0 ≤ 0 from (by omega)) (Nat.lt_succ_self _)) h0) <| sK [] sN) rfl (by kernel_rfl) (by kernel_rfl) rfl ?_ ?_
  · simp only [Z2F, h0]
  · rfl
def Z8M (x : Nat) (c : Int) : Bool := (!(fcmp .neq .f32 x (ofInt .f32 c)))
def Zak (_ : Nat) (c : Int) : Int := (IntKind.wrap .i64 (c + 1))
theorem Zga (a : List Nat) (c : Int) : Z2F a c = match hdL Z8M Zak a c with
    | some c' => c'
    | none => -1 := by
  unfold Z2F Z3Q
  rw [held_loop (p := Z8M) (q := Zak) (a := a) (x := ()) (lo := Z1o a c) (fun k c i => by
    rw [Z1o]
    unfold Z8M Zak
    generalize a.getD i.toNat default = x
    cases decide (i < (a.length : Int)) <;> cases fcmp .neq .f32 x (ofInt .f32 c) <;> rfl) _ _ _ (Int.le_refl 0) (Nat.lt_succ_self _)]
  simp only [Int.toNat_zero, List.drop_zero]
  cases hdL Z8M Zak a c <;> rfl
def Z40 (Y5 : GBody) (Yl : Int) : Int := (cond (decide ((Z1T Y5.Mesh Yl) < 0))
  (-1)
  (cond (decide ((Z1Z Y5.Springs (Z1T Y5.Mesh Yl)) < 0))
    (-1)
    (cond (decide ((Z2F Y5.Weights (Z1Z Y5.Springs (Z1T Y5.Mesh Yl))) < 0))
      (-1)
      (Z2F Y5.Weights (Z1Z Y5.Springs (Z1T Y5.Mesh Yl))))))
theorem Zb6 (Y5 : GBody) (Yl : Int) (hp0 : Y5.Mesh.Places.length ≤ 1073741824) (hp1 : Y5.Mesh.Triangles.length ≤ 1073741824) (hp2 : ∀ t ∈ Y5.Mesh.Triangles, t.length ≤ 1073741824) (hp3 : Y5.Springs.length ≤ 1073741824) (hp4 : Y5.Weights.length ≤ 1073741824)  : Fn prog 30 [.agg [.sl (Y5.Mesh.Places.map GVector.cells), .sl (Y5.Mesh.Triangles.map (cL (cI .i64))), .sl (Y5.Springs.map GSpring.cells), .f .f32 Y5.Film, .f .f32 Y5.Bend, .sl (Y5.Weights.map (cF .f32)), .f .f32 Y5.Fall.X, .f .f32 Y5.Fall.Y, .f .f32 Y5.Fall.Z], .i .i64 Yl] (.i .i64 (Z40 Y5 Yl)) [] := by
 have p {a C} (s : Scr a C) := sF (ZeV Y5.Mesh Yl hp0 hp1 hp2) <| s
 cases h0 : (decide ((Z1T Y5.Mesh Yl) < 0)) with
 | true =>
  have gh0 := of_decide_eq_true h0
  refine fnS E0Ok Z4 (c := bodyOf f30) [] (.i .i64 (-1)) [] func30 (p (sB h0 <| sK [] sN)) rfl (by kernel_rfl) (by kernel_rfl) rfl ?_ ?_
  · simp only [Z40, h0, cond_true]
  · rfl
 | false =>
  have gh0 := of_decide_eq_false h0
  have q {a C} (s : Scr a C) := p (sB h0 <| sF (Zdn Y5.Springs (Z1T Y5.Mesh Yl) hp3) <| s)
  clear p
  cases h1 : (decide ((Z1Z Y5.Springs (Z1T Y5.Mesh Yl)) < 0)) with
  | true =>
   have gh1 := of_decide_eq_true h1
   refine fnS E0Ok Z4 (c := bodyOf f30) [] (.i .i64 (-1)) [] func30 (q (sB h1 <| sK [] sN)) rfl (by kernel_rfl) (by kernel_rfl) rfl ?_ ?_
   · simp only [Z40, h0, h1, cond_true, cond_false]
   · rfl
  | false =>
   have gh1 := of_decide_eq_false h1
   have p {a C} (s : Scr a C) := q (sB h1 <| sF (ZcE Y5.Weights (Z1Z Y5.Springs (Z1T Y5.Mesh Yl)) hp4) <| s)
   clear q
   cases h2 : (decide ((Z2F Y5.Weights (Z1Z Y5.Springs (Z1T Y5.Mesh Yl))) < 0)) with
   | true =>
    have gh2 := of_decide_eq_true h2
    refine fnS E0Ok Z4 (c := bodyOf f30) [] (.i .i64 (-1)) [] func30 (p (sB h2 <| sK [] sN)) rfl (by kernel_rfl) (by kernel_rfl) rfl ?_ ?_
    · simp only [Z40, h0, h1, h2, cond_true, cond_false]
    · rfl
   | false =>
    have gh2 := of_decide_eq_false h2
    refine fnS E0Ok Z4 (c := bodyOf f30) [] (.i .i64 (Z2F Y5.Weights (Z1Z Y5.Springs (Z1T Y5.Mesh Yl)))) [] func30 (p (sB h2 <| sK [] sN)) rfl (by kernel_rfl) (by kernel_rfl) rfl ?_ ?_
    · simp only [Z40, h0, h1, h2, cond_false]
    · rfl
def Z3I (Y0 : GBody) (Yr : (List Int)) (Yu : Nat) : Int := (Z40 (⟨(⟨(Z5 ((Z2 Y0 Yr Yu).1) 1).2.1, (Z5 ((Z2 Y0 Yr Yu).1) 1).2.2.1⟩ : GMesh), (Z5 ((Z2 Y0 Yr Yu).1) 1).2.2.2.1, (Z2 Y0 Yr Yu).1.Film, (Z2 Y0 Yr Yu).1.Bend, (Z5 ((Z2 Y0 Yr Yu).1) 1).2.2.2.2, (Z2 Y0 Yr Yu).1.Fall⟩ : GBody) 1)
def Z12 (Y0 : GBody) (Yr : (List Int)) (Yu : Nat) : Bool := (cond (decide ((Yr.length : Int) > 1048576))
  true
  (cond (decide ((Z2p Y0 1048576) < 0))
    true
    (cond (Z2W ((Z2 Y0 Yr Yu).1) ((Z9 Y0 Yr Yu).1))
      (cond ((Z2 Y0 Yr Yu).2.1 != (Z9 Y0 Yr Yu).2.1)
        false
        (cond ((Z2 Y0 Yr Yu).2.2.1 == (Z9 Y0 Yr Yu).2.2.1)
          (cond ((Z2 Y0 Yr Yu).2.2.2 == (Z9 Y0 Yr Yu).2.2.2)
            (cond (Z2W Y0 Y0)
              (cond (Z2U Yr Yr)
                (cond (decide ((Z2f Yr ((Z5 Y0 1).1)).1 < 0))
                  false
                  (cond (decide ((Z3I Y0 Yr Yu) < 0))
                    false
                    (cond ((Z3I Y0 Yr Yu) != (Z5 ((Z2 Y0 Yr Yu).1) 1).1)
                      false
                      true)))
                false)
              false)
            false)
          false))
      false)))
set_option maxHeartbeats 1000000 in
theorem Zbf (Y0 : GBody) (Yr : (List Int)) (Yu : Nat) (hp0 : Y0.Mesh.Places.length ≤ 9223372036854775807) (hp1 : Y0.Mesh.Triangles.length ≤ 9223372036854775807) (hp2 : ∀ t ∈ Y0.Mesh.Triangles, t.length ≤ 9223372036854775807) (hp3 : Y0.Springs.length ≤ 9223372036854775807) (hp4 : Y0.Weights.length ≤ 9223372036854775807) (hp5 : Yr.length ≤ 9223372036854775807)  : Fn prog 6 [.agg [.sl (Y0.Mesh.Places.map GVector.cells), .sl (Y0.Mesh.Triangles.map (cL (cI .i64))), .sl (Y0.Springs.map GSpring.cells), .f .f32 Y0.Film, .f .f32 Y0.Bend, .sl (Y0.Weights.map (cF .f32)), .f .f32 Y0.Fall.X, .f .f32 Y0.Fall.Y, .f .f32 Y0.Fall.Z], .sl (Yr.map (cI .i64)), .f .f32 Yu] (.b (Z12 Y0 Yr Yu)) [] := by
 have z0 := (Zbg Y0 1048576 (by omega) (by omega) (by assumption) (by omega) (by omega) (by omega) (by omega))
 have p {a C} (s : Scr a C) := sZ (cI .i64) Yr <| s
 cases h0 : (decide ((Yr.length : Int) > 1048576)) with
 | true =>
  have gh0 := of_decide_eq_true h0
  refine fnS E0Ok Z4 (c := bodyOf f6) [] (.b true) [] func6 (p (sB h0 <| sK [] sN)) rfl (by kernel_rfl) (by kernel_rfl) rfl ?_ ?_
  · simp only [Z12, h0, cond_true]
  · rfl
 | false =>
  have gh0 := of_decide_eq_false h0
  have q {a C} (s : Scr a C) := p (sB h0 <| sF (Zfu Y0 1048576 hp0 hp1 hp2 hp3 hp4) <| s)
  clear p
  cases h1 : (decide ((Z2p Y0 1048576) < 0)) with
  | true =>
   have gh1 := of_decide_eq_true h1
   refine fnS E0Ok Z4 (c := bodyOf f6) [] (.b true) [] func6 (q (sB h1 <| sK [] sN)) rfl (by kernel_rfl) (by kernel_rfl) rfl ?_ ?_
   · simp only [Z12, h0, h1, cond_true, cond_false]
   · rfl
  | false =>
   have gh1 := of_decide_eq_false h1
   have y0 : Y0.Mesh.Places.length ≤ 1073741824 := by clear q; exact (by omega)
   have y1 : Y0.Mesh.Triangles.length ≤ 1073741824 := by clear q; exact (by omega)
   have y2 : ∀ t ∈ Y0.Mesh.Triangles, t.length ≤ 1073741824 := by clear q; exact (by intro t ht; (have q := z0.2.2.2.2.2.2 t ht; omega))
   have y3 : Y0.Springs.length ≤ 1073741824 := by clear q; exact (by omega)
   have y4 : Y0.Weights.length ≤ 1073741824 := by clear q; exact (by omega)
   have y5 : Yr.length ≤ 1073741824 := by clear q; exact (by omega)
   have l1 := (Z4o Y0 Yr Yu)
   have l2 := (Z4p Y0 Yr Yu)
   have l3 := (Z4q Y0 Yr Yu)
   have l4 := (Z4r Y0 Yr Yu)
   have l5 := (Za1 Y0 Yr Yu)
   have l6 := (Za2 Y0 Yr Yu)
   have l7 := (Za3 Y0 Yr Yu)
   have l8 := (Za4 Y0 Yr Yu)
   have y6 : ((Z2 Y0 Yr Yu).1).Mesh.Places.length ≤ 1073741824 := by clear q; exact (by omega)
   have y7 : ((Z2 Y0 Yr Yu).1).Mesh.Triangles.length ≤ 1073741824 := by clear q; exact (by omega)
   have y8 : ∀ t ∈ ((Z2 Y0 Yr Yu).1).Mesh.Triangles, t.length ≤ 1073741824 := by clear q; exact (by (intro t ht; (have q := z0.2.2.2.2.2.2 t (Z7d Y0 Yr Yu t ht); omega)))
   have y9 : ((Z2 Y0 Yr Yu).1).Springs.length ≤ 1073741824 := by clear q; exact (by omega)
   have y10 : ((Z2 Y0 Yr Yu).1).Weights.length ≤ 1073741824 := by clear q; exact (by omega)
   have y11 : ((Z9 Y0 Yr Yu).1).Mesh.Places.length ≤ 1073741824 := by clear q; exact (by omega)
   have y12 : ((Z9 Y0 Yr Yu).1).Mesh.Triangles.length ≤ 1073741824 := by clear q; exact (by omega)
   have y13 : ∀ t ∈ ((Z9 Y0 Yr Yu).1).Mesh.Triangles, t.length ≤ 1073741824 := by clear q; exact (by (intro t ht; (have q := z0.2.2.2.2.2.2 t (Z4s Y0 Yr Yu t ht); omega)))
   have y14 : ((Z9 Y0 Yr Yu).1).Springs.length ≤ 1073741824 := by clear q; exact (by omega)
   have y15 : ((Z9 Y0 Yr Yu).1).Weights.length ≤ 1073741824 := by clear q; exact (by omega)
   have p {a C} (s : Scr a C) := q (sB h1 <| sF (Z7m Y0 y0 y1 y2 y3 y4) <| sF (Z5o Yr y5) <| sF (Fn.castA (args' := [.agg [.sl (Y0.Mesh.Places.map GVector.cells), .sl ((Y0.Mesh.Triangles.map fun l => l.map (cI .i64)).map fun l => [.sl l]), .sl (Y0.Springs.map GSpring.cells), .f .f32 Y0.Film, .f .f32 Y0.Bend, .sl (Y0.Weights.map (cF .f32)), .f .f32 Y0.Fall.X, .f .f32 Y0.Fall.Y, .f .f32 Y0.Fall.Z], .sl (Yr.map (cI .i64)), .f .f32 Yu]) (ZeL Y0 Yr Yu y0 y1 y2 y3 y4 y5) (by simp [cL, Function.comp_def]; done)) <| sF (Z7m Y0 y0 y1 y2 y3 y4) <| sF (Z5o Yr y5) <| sF (Fn.castA (args' := [.agg [.sl (Y0.Mesh.Places.map GVector.cells), .sl ((Y0.Mesh.Triangles.map fun l => l.map (cI .i64)).map fun l => [.sl l]), .sl (Y0.Springs.map GSpring.cells), .f .f32 Y0.Film, .f .f32 Y0.Bend, .sl (Y0.Weights.map (cF .f32)), .f .f32 Y0.Fall.X, .f .f32 Y0.Fall.Y, .f .f32 Y0.Fall.Z], .sl (Yr.map (cI .i64)), .f .f32 Yu]) (ZaZ Y0 Yr Yu y0 y1 y2 y3 y4 y5) (by simp [cL, Function.comp_def]; done)) <| sF (Fn.castA (args' := [.agg [.sl (((Z2 Y0 Yr Yu).1.Mesh.Places).map GVector.cells), .sl ((((Z2 Y0 Yr Yu).1.Mesh.Triangles).map fun l => l.map (cI .i64)).map fun l => [.sl l]), .sl (((Z2 Y0 Yr Yu).1.Springs).map GSpring.cells), .f .f32 ((Z2 Y0 Yr Yu).1.Film), .f .f32 ((Z2 Y0 Yr Yu).1.Bend), .sl (((Z2 Y0 Yr Yu).1.Weights).map (cF .f32)), .f .f32 ((Z2 Y0 Yr Yu).1.Fall.X), .f .f32 ((Z2 Y0 Yr Yu).1.Fall.Y), .f .f32 ((Z2 Y0 Yr Yu).1.Fall.Z)], .agg [.sl (((Z9 Y0 Yr Yu).1.Mesh.Places).map GVector.cells), .sl ((((Z9 Y0 Yr Yu).1.Mesh.Triangles).map fun l => l.map (cI .i64)).map fun l => [.sl l]), .sl (((Z9 Y0 Yr Yu).1.Springs).map GSpring.cells), .f .f32 ((Z9 Y0 Yr Yu).1.Film), .f .f32 ((Z9 Y0 Yr Yu).1.Bend), .sl (((Z9 Y0 Yr Yu).1.Weights).map (cF .f32)), .f .f32 ((Z9 Y0 Yr Yu).1.Fall.X), .f .f32 ((Z9 Y0 Yr Yu).1.Fall.Y), .f .f32 ((Z9 Y0 Yr Yu).1.Fall.Z)]]) (Z7q ((Z2 Y0 Yr Yu).1) ((Z9 Y0 Yr Yu).1) y6 y7 y8 y9 y10 y11 y12 y13 y14 y15) (by simp [cL, Function.comp_def]; done)) <| s)
   clear q
   cases h2 : (Z2W ((Z2 Y0 Yr Yu).1) ((Z9 Y0 Yr Yu).1)) with
   | true =>
    have q {a C} (s : Scr a C) := p (sB' h2 <| sB' h2 <| sB' h2 <| sB' h2 <| s)
    clear p
    cases h3 : ((Z2 Y0 Yr Yu).2.1 != (Z9 Y0 Yr Yu).2.1) with
    | true =>
     have gh3 := bne_iff_ne.1 h3
     refine fnS E0Ok Z4 (c := bodyOf f6) [] (.b false) [] func6 (q (sB h3 <| sB h3 <| sB h3 <| sB h3 <| sB (show true = true from rfl) <| sB (show true = true from rfl) <| sB (show true = true from rfl) <| sB (show true = true from rfl) <| sB (show true = true from rfl) <| sK [] sN)) rfl (by kernel_rfl) (by kernel_rfl) rfl ?_ ?_
     · simp only [Z12, h0, h1, h2, h3, cond_true, cond_false]
     · rfl
    | false =>
     have gh3 := bne_eq_false_iff_eq.1 h3
     have p {a C} (s : Scr a C) := q (sB h3 <| sB h3 <| sB h3 <| sB h3 <| s)
     clear q
     cases h4 : ((Z2 Y0 Yr Yu).2.2.1 == (Z9 Y0 Yr Yu).2.2.1) with
     | true =>
      have gh4 := eq_of_beq h4
      have q {a C} (s : Scr a C) := p (sB' h4 <| sB' h4 <| sB' h4 <| sB' h4 <| s)
      clear p
      cases h5 : ((Z2 Y0 Yr Yu).2.2.2 == (Z9 Y0 Yr Yu).2.2.2) with
      | true =>
       have gh5 := eq_of_beq h5
       have p {a C} (s : Scr a C) := q (sB' h5 <| sK [3, 3] <| sF (Z7m Y0 y0 y1 y2 y3 y4) <| sF (Fn.castA (args' := [.agg [.sl (Y0.Mesh.Places.map GVector.cells), .sl ((Y0.Mesh.Triangles.map fun l => l.map (cI .i64)).map fun l => [.sl l]), .sl (Y0.Springs.map GSpring.cells), .f .f32 Y0.Film, .f .f32 Y0.Bend, .sl (Y0.Weights.map (cF .f32)), .f .f32 Y0.Fall.X, .f .f32 Y0.Fall.Y, .f .f32 Y0.Fall.Z], .agg [.sl (Y0.Mesh.Places.map GVector.cells), .sl ((Y0.Mesh.Triangles.map fun l => l.map (cI .i64)).map fun l => [.sl l]), .sl (Y0.Springs.map GSpring.cells), .f .f32 Y0.Film, .f .f32 Y0.Bend, .sl (Y0.Weights.map (cF .f32)), .f .f32 Y0.Fall.X, .f .f32 Y0.Fall.Y, .f .f32 Y0.Fall.Z]]) (Z7q Y0 Y0 y0 y1 y2 y3 y4 y0 y1 y2 y3 y4) (by simp [cL, Function.comp_def]; done)) <| s)
       clear q
       cases h6 : (Z2W Y0 Y0) with
       | true =>
        have q {a C} (s : Scr a C) := p (sB' h6 <| sF (Z5o Yr y5) <| sF (Zb1 Yr Yr y5 y5) <| s)
        clear p
        cases h7 : (Z2U Yr Yr) with
        | true =>
         have p {a C} (s : Scr a C) := q (sB' h7 <| sS (CallSt.frame (Z5x Y0 1 y0 y1 y2 y3 y4) [11, 12, 13, 14] (R := [.box 32 [.sl (Y0.Mesh.Places.map GVector.cells), .sl (Y0.Mesh.Triangles.map (cL (cI .i64))), .sl (Y0.Springs.map GSpring.cells), .f .f32 Y0.Film, .f .f32 Y0.Bend, .sl (Y0.Weights.map (cF .f32)), .f .f32 Y0.Fall.X, .f .f32 Y0.Fall.Y, .f .f32 Y0.Fall.Z], .vec 40 3 (Y0.Mesh.Places.map GVector.cells) false, .nest 49 (Y0.Mesh.Triangles.map fun l => l.map (cI .i64)) false, .vec 133 4 (Y0.Springs.map GSpring.cells) false, .vec 27 1 (Y0.Weights.map (cF .f32)) false, .vec 2 1 (Yr.map (cI .i64)) false, .vec 40 3 (((Z9 Y0 Yr Yu).1.Mesh.Places).map GVector.cells) false, .nest 49 (((Z9 Y0 Yr Yu).1.Mesh.Triangles).map fun l => l.map (cI .i64)) false, .vec 133 4 (((Z9 Y0 Yr Yu).1.Springs).map GSpring.cells) false, .vec 27 1 (((Z9 Y0 Yr Yu).1.Weights).map (cF .f32)) false, .box 42 [.own 6, .own 7, .own 8, .f .f32 ((Z9 Y0 Yr Yu).1.Film), .f .f32 ((Z9 Y0 Yr Yu).1.Bend), .own 9, .f .f32 ((Z9 Y0 Yr Yu).1.Fall.X), .f .f32 ((Z9 Y0 Yr Yu).1.Fall.Y), .f .f32 ((Z9 Y0 Yr Yu).1.Fall.Z)], .vec 40 3 (Y0.Mesh.Places.map GVector.cells) false, .nest 49 (Y0.Mesh.Triangles.map fun l => l.map (cI .i64)) false, .vec 133 4 (Y0.Springs.map GSpring.cells) false, .vec 27 1 (Y0.Weights.map (cF .f32)) false, .box 42 [.own 11, .own 12, .own 13, .f .f32 Y0.Film, .f .f32 Y0.Bend, .own 14, .f .f32 Y0.Fall.X, .f .f32 Y0.Fall.Y, .f .f32 Y0.Fall.Z], .vec 2 1 (Yr.map (cI .i64)) false, .vec 40 3 (((Z2 Y0 Yr Yu).1.Mesh.Places).map GVector.cells) false, .nest 49 (((Z2 Y0 Yr Yu).1.Mesh.Triangles).map fun l => l.map (cI .i64)) false, .vec 133 4 (((Z2 Y0 Yr Yu).1.Springs).map GSpring.cells) false, .vec 27 1 (((Z2 Y0 Yr Yu).1.Weights).map (cF .f32)) false, .box 42 [.own 17, .own 18, .own 19, .f .f32 ((Z2 Y0 Yr Yu).1.Film), .f .f32 ((Z2 Y0 Yr Yu).1.Bend), .own 20, .f .f32 ((Z2 Y0 Yr Yu).1.Fall.X), .f .f32 ((Z2 Y0 Yr Yu).1.Fall.Y), .f .f32 ((Z2 Y0 Yr Yu).1.Fall.Z)], .vec 40 3 (Y0.Mesh.Places.map GVector.cells) false, .nest 49 (Y0.Mesh.Triangles.map fun l => l.map (cI .i64)) false, .vec 133 4 (Y0.Springs.map GSpring.cells) false, .vec 27 1 (Y0.Weights.map (cF .f32)) false, .vec 2 1 (Yr.map (cI .i64)) false]) (args' := [.agg [.own 11, .own 12, .own 13, .f .f32 Y0.Film, .f .f32 Y0.Bend, .own 14, .f .f32 Y0.Fall.X, .f .f32 Y0.Fall.Y, .f .f32 Y0.Fall.Z], .i .i64 1]) rfl rfl rfl rfl rfl rfl) <| sS (CallSt.frame (Zbx Yr ((Z5 Y0 1).1) y5) [16] (R := [.box 32 [.sl (Y0.Mesh.Places.map GVector.cells), .sl (Y0.Mesh.Triangles.map (cL (cI .i64))), .sl (Y0.Springs.map GSpring.cells), .f .f32 Y0.Film, .f .f32 Y0.Bend, .sl (Y0.Weights.map (cF .f32)), .f .f32 Y0.Fall.X, .f .f32 Y0.Fall.Y, .f .f32 Y0.Fall.Z], .vec 40 3 (Y0.Mesh.Places.map GVector.cells) false, .nest 49 (Y0.Mesh.Triangles.map fun l => l.map (cI .i64)) false, .vec 133 4 (Y0.Springs.map GSpring.cells) false, .vec 27 1 (Y0.Weights.map (cF .f32)) false, .vec 2 1 (Yr.map (cI .i64)) false, .vec 40 3 (((Z9 Y0 Yr Yu).1.Mesh.Places).map GVector.cells) false, .nest 49 (((Z9 Y0 Yr Yu).1.Mesh.Triangles).map fun l => l.map (cI .i64)) false, .vec 133 4 (((Z9 Y0 Yr Yu).1.Springs).map GSpring.cells) false, .vec 27 1 (((Z9 Y0 Yr Yu).1.Weights).map (cF .f32)) false, .box 42 [.own 6, .own 7, .own 8, .f .f32 ((Z9 Y0 Yr Yu).1.Film), .f .f32 ((Z9 Y0 Yr Yu).1.Bend), .own 9, .f .f32 ((Z9 Y0 Yr Yu).1.Fall.X), .f .f32 ((Z9 Y0 Yr Yu).1.Fall.Y), .f .f32 ((Z9 Y0 Yr Yu).1.Fall.Z)], .vec 40 3 (((Z5 Y0 1).2.1).map GVector.cells) false, .nest 49 (((Z5 Y0 1).2.2.1).map fun l => l.map (cI .i64)) false, .vec 133 4 (((Z5 Y0 1).2.2.2.1).map GSpring.cells) false, .vec 27 1 (((Z5 Y0 1).2.2.2.2).map (cF .f32)) false, .box 42 [.own 11, .own 12, .own 13, .f .f32 Y0.Film, .f .f32 Y0.Bend, .own 14, .f .f32 Y0.Fall.X, .f .f32 Y0.Fall.Y, .f .f32 Y0.Fall.Z], .vec 2 1 (Yr.map (cI .i64)) false, .vec 40 3 (((Z2 Y0 Yr Yu).1.Mesh.Places).map GVector.cells) false, .nest 49 (((Z2 Y0 Yr Yu).1.Mesh.Triangles).map fun l => l.map (cI .i64)) false, .vec 133 4 (((Z2 Y0 Yr Yu).1.Springs).map GSpring.cells) false, .vec 27 1 (((Z2 Y0 Yr Yu).1.Weights).map (cF .f32)) false, .box 42 [.own 17, .own 18, .own 19, .f .f32 ((Z2 Y0 Yr Yu).1.Film), .f .f32 ((Z2 Y0 Yr Yu).1.Bend), .own 20, .f .f32 ((Z2 Y0 Yr Yu).1.Fall.X), .f .f32 ((Z2 Y0 Yr Yu).1.Fall.Y), .f .f32 ((Z2 Y0 Yr Yu).1.Fall.Z)], .vec 40 3 (Y0.Mesh.Places.map GVector.cells) false, .nest 49 (Y0.Mesh.Triangles.map fun l => l.map (cI .i64)) false, .vec 133 4 (Y0.Springs.map GSpring.cells) false, .vec 27 1 (Y0.Weights.map (cF .f32)) false, .vec 2 1 (Yr.map (cI .i64)) false]) (args' := [.own 16, .i .i64 ((Z5 Y0 1).1)]) rfl rfl rfl rfl rfl rfl) <| s)
         clear q
         cases h8 : (decide ((Z2f Yr ((Z5 Y0 1).1)).1 < 0)) with
         | true =>
          have gh8 := of_decide_eq_true h8
          refine fnS E0Ok Z4 (c := bodyOf f6) [] (.b false) [] func6 (p (sB h8 <| sB h8 <| sB h8 <| sB h8 <| sB h8 <| sB (show true = true from rfl) <| sB (show true = true from rfl) <| sB (show true = true from rfl) <| sB (show true = true from rfl) <| sB (show true = true from rfl) <| sB (show true = true from rfl) <| sB (show true = true from rfl) <| sB (show true = true from rfl) <| sB (show true = true from rfl) <| sB (show true = true from rfl) <| sB (show true = true from rfl) <| sB (show true = true from rfl) <| sB (show true = true from rfl) <| sK [] sN)) rfl (by kernel_rfl) (by kernel_rfl) rfl ?_ ?_
          · simp only [Z12, h0, h1, h2, h3, h4, h5, h6, h7, h8, cond_true, cond_false]
          · rfl
         | false =>
          have gh8 := of_decide_eq_false h8
          have y16 : (⟨(⟨(Z5 ((Z2 Y0 Yr Yu).1) 1).2.1, (Z5 ((Z2 Y0 Yr Yu).1) 1).2.2.1⟩ : GMesh), (Z5 ((Z2 Y0 Yr Yu).1) 1).2.2.2.1, (Z2 Y0 Yr Yu).1.Film, (Z2 Y0 Yr Yu).1.Bend, (Z5 ((Z2 Y0 Yr Yu).1) 1).2.2.2.2, (Z2 Y0 Yr Yu).1.Fall⟩ : GBody).Mesh.Places.length ≤ 1073741824 := by clear p; exact (by simp_all <;> omega)
          have y17 : (⟨(⟨(Z5 ((Z2 Y0 Yr Yu).1) 1).2.1, (Z5 ((Z2 Y0 Yr Yu).1) 1).2.2.1⟩ : GMesh), (Z5 ((Z2 Y0 Yr Yu).1) 1).2.2.2.1, (Z2 Y0 Yr Yu).1.Film, (Z2 Y0 Yr Yu).1.Bend, (Z5 ((Z2 Y0 Yr Yu).1) 1).2.2.2.2, (Z2 Y0 Yr Yu).1.Fall⟩ : GBody).Mesh.Triangles.length ≤ 1073741824 := by clear p; exact (by simp_all <;> omega)
          have y18 : ∀ t ∈ (⟨(⟨(Z5 ((Z2 Y0 Yr Yu).1) 1).2.1, (Z5 ((Z2 Y0 Yr Yu).1) 1).2.2.1⟩ : GMesh), (Z5 ((Z2 Y0 Yr Yu).1) 1).2.2.2.1, (Z2 Y0 Yr Yu).1.Film, (Z2 Y0 Yr Yu).1.Bend, (Z5 ((Z2 Y0 Yr Yu).1) 1).2.2.2.2, (Z2 Y0 Yr Yu).1.Fall⟩ : GBody).Mesh.Triangles, t.length ≤ 1073741824 := by clear p; exact (by exact ZaJ _ _ _ (by assumption))
          have y19 : (⟨(⟨(Z5 ((Z2 Y0 Yr Yu).1) 1).2.1, (Z5 ((Z2 Y0 Yr Yu).1) 1).2.2.1⟩ : GMesh), (Z5 ((Z2 Y0 Yr Yu).1) 1).2.2.2.1, (Z2 Y0 Yr Yu).1.Film, (Z2 Y0 Yr Yu).1.Bend, (Z5 ((Z2 Y0 Yr Yu).1) 1).2.2.2.2, (Z2 Y0 Yr Yu).1.Fall⟩ : GBody).Springs.length ≤ 1073741824 := by clear p; exact (by simp_all <;> omega)
          have y20 : (⟨(⟨(Z5 ((Z2 Y0 Yr Yu).1) 1).2.1, (Z5 ((Z2 Y0 Yr Yu).1) 1).2.2.1⟩ : GMesh), (Z5 ((Z2 Y0 Yr Yu).1) 1).2.2.2.1, (Z2 Y0 Yr Yu).1.Film, (Z2 Y0 Yr Yu).1.Bend, (Z5 ((Z2 Y0 Yr Yu).1) 1).2.2.2.2, (Z2 Y0 Yr Yu).1.Fall⟩ : GBody).Weights.length ≤ 1073741824 := by clear p; exact (by simp_all <;> omega)
          have q {a C} (s : Scr a C) := p (sB h8 <| sB h8 <| sB h8 <| sF (Fn.castA (args' := [.agg [.sl (((Z2 Y0 Yr Yu).1.Mesh.Places).map GVector.cells), .sl ((((Z2 Y0 Yr Yu).1.Mesh.Triangles).map fun l => l.map (cI .i64)).map fun l => [.sl l]), .sl (((Z2 Y0 Yr Yu).1.Springs).map GSpring.cells), .f .f32 ((Z2 Y0 Yr Yu).1.Film), .f .f32 ((Z2 Y0 Yr Yu).1.Bend), .sl (((Z2 Y0 Yr Yu).1.Weights).map (cF .f32)), .f .f32 ((Z2 Y0 Yr Yu).1.Fall.X), .f .f32 ((Z2 Y0 Yr Yu).1.Fall.Y), .f .f32 ((Z2 Y0 Yr Yu).1.Fall.Z)], .agg [.sl (((Z9 Y0 Yr Yu).1.Mesh.Places).map GVector.cells), .sl ((((Z9 Y0 Yr Yu).1.Mesh.Triangles).map fun l => l.map (cI .i64)).map fun l => [.sl l]), .sl (((Z9 Y0 Yr Yu).1.Springs).map GSpring.cells), .f .f32 ((Z9 Y0 Yr Yu).1.Film), .f .f32 ((Z9 Y0 Yr Yu).1.Bend), .sl (((Z9 Y0 Yr Yu).1.Weights).map (cF .f32)), .f .f32 ((Z9 Y0 Yr Yu).1.Fall.X), .f .f32 ((Z9 Y0 Yr Yu).1.Fall.Y), .f .f32 ((Z9 Y0 Yr Yu).1.Fall.Z)]]) (Z7q ((Z2 Y0 Yr Yu).1) ((Z9 Y0 Yr Yu).1) y6 y7 y8 y9 y10 y11 y12 y13 y14 y15) (by simp [cL, Function.comp_def]; done)) <| sB h8 <| sB h8 <| sB' h2 <| sB' h2 <| sB' h2 <| sB' h2 <| sB h3 <| sB h3 <| sB h3 <| sB h3 <| sB' h4 <| sB' h4 <| sB' h4 <| sB' h4 <| sB' h5 <| sS (CallSt.frame (Z5x ((Z2 Y0 Yr Yu).1) 1 y6 y7 y8 y9 y10) [17, 18, 19, 20] (R := [.box 32 [.sl (Y0.Mesh.Places.map GVector.cells), .sl (Y0.Mesh.Triangles.map (cL (cI .i64))), .sl (Y0.Springs.map GSpring.cells), .f .f32 Y0.Film, .f .f32 Y0.Bend, .sl (Y0.Weights.map (cF .f32)), .f .f32 Y0.Fall.X, .f .f32 Y0.Fall.Y, .f .f32 Y0.Fall.Z], .vec 40 3 (Y0.Mesh.Places.map GVector.cells) false, .nest 49 (Y0.Mesh.Triangles.map fun l => l.map (cI .i64)) false, .vec 133 4 (Y0.Springs.map GSpring.cells) false, .vec 27 1 (Y0.Weights.map (cF .f32)) false, .vec 2 1 (Yr.map (cI .i64)) false, .vec 40 3 (((Z9 Y0 Yr Yu).1.Mesh.Places).map GVector.cells) false, .nest 49 (((Z9 Y0 Yr Yu).1.Mesh.Triangles).map fun l => l.map (cI .i64)) false, .vec 133 4 (((Z9 Y0 Yr Yu).1.Springs).map GSpring.cells) false, .vec 27 1 (((Z9 Y0 Yr Yu).1.Weights).map (cF .f32)) false, .box 42 [.own 6, .own 7, .own 8, .f .f32 ((Z9 Y0 Yr Yu).1.Film), .f .f32 ((Z9 Y0 Yr Yu).1.Bend), .own 9, .f .f32 ((Z9 Y0 Yr Yu).1.Fall.X), .f .f32 ((Z9 Y0 Yr Yu).1.Fall.Y), .f .f32 ((Z9 Y0 Yr Yu).1.Fall.Z)], .vec 40 3 (((Z5 Y0 1).2.1).map GVector.cells) false, .nest 49 (((Z5 Y0 1).2.2.1).map fun l => l.map (cI .i64)) false, .vec 133 4 (((Z5 Y0 1).2.2.2.1).map GSpring.cells) false, .vec 27 1 (((Z5 Y0 1).2.2.2.2).map (cF .f32)) false, .box 42 [.own 11, .own 12, .own 13, .f .f32 Y0.Film, .f .f32 Y0.Bend, .own 14, .f .f32 Y0.Fall.X, .f .f32 Y0.Fall.Y, .f .f32 Y0.Fall.Z], .vec 2 1 (((Z2f Yr ((Z5 Y0 1).1)).2).map (cI .i64)) false, .vec 40 3 (((Z2 Y0 Yr Yu).1.Mesh.Places).map GVector.cells) false, .nest 49 (((Z2 Y0 Yr Yu).1.Mesh.Triangles).map fun l => l.map (cI .i64)) false, .vec 133 4 (((Z2 Y0 Yr Yu).1.Springs).map GSpring.cells) false, .vec 27 1 (((Z2 Y0 Yr Yu).1.Weights).map (cF .f32)) false, .box 42 [.own 17, .own 18, .own 19, .f .f32 ((Z2 Y0 Yr Yu).1.Film), .f .f32 ((Z2 Y0 Yr Yu).1.Bend), .own 20, .f .f32 ((Z2 Y0 Yr Yu).1.Fall.X), .f .f32 ((Z2 Y0 Yr Yu).1.Fall.Y), .f .f32 ((Z2 Y0 Yr Yu).1.Fall.Z)], .vec 40 3 (Y0.Mesh.Places.map GVector.cells) false, .nest 49 (Y0.Mesh.Triangles.map fun l => l.map (cI .i64)) false, .vec 133 4 (Y0.Springs.map GSpring.cells) false, .vec 27 1 (Y0.Weights.map (cF .f32)) false, .vec 2 1 (Yr.map (cI .i64)) false]) (args' := [.agg [.own 17, .own 18, .own 19, .f .f32 ((Z2 Y0 Yr Yu).1.Film), .f .f32 ((Z2 Y0 Yr Yu).1.Bend), .own 20, .f .f32 ((Z2 Y0 Yr Yu).1.Fall.X), .f .f32 ((Z2 Y0 Yr Yu).1.Fall.Y), .f .f32 ((Z2 Y0 Yr Yu).1.Fall.Z)], .i .i64 1]) rfl rfl rfl rfl rfl rfl) <| sF (Fn.castA (args' := [.agg [.sl (((Z5 ((Z2 Y0 Yr Yu).1) 1).2.1).map GVector.cells), .sl ((((Z5 ((Z2 Y0 Yr Yu).1) 1).2.2.1).map fun l => l.map (cI .i64)).map fun l => [.sl l]), .sl (((Z5 ((Z2 Y0 Yr Yu).1) 1).2.2.2.1).map GSpring.cells), .f .f32 ((Z2 Y0 Yr Yu).1.Film), .f .f32 ((Z2 Y0 Yr Yu).1.Bend), .sl (((Z5 ((Z2 Y0 Yr Yu).1) 1).2.2.2.2).map (cF .f32)), .f .f32 ((Z2 Y0 Yr Yu).1.Fall.X), .f .f32 ((Z2 Y0 Yr Yu).1.Fall.Y), .f .f32 ((Z2 Y0 Yr Yu).1.Fall.Z)], .i .i64 1]) (Zb6 (⟨(⟨(Z5 ((Z2 Y0 Yr Yu).1) 1).2.1, (Z5 ((Z2 Y0 Yr Yu).1) 1).2.2.1⟩ : GMesh), (Z5 ((Z2 Y0 Yr Yu).1) 1).2.2.2.1, (Z2 Y0 Yr Yu).1.Film, (Z2 Y0 Yr Yu).1.Bend, (Z5 ((Z2 Y0 Yr Yu).1) 1).2.2.2.2, (Z2 Y0 Yr Yu).1.Fall⟩ : GBody) 1 y16 y17 y18 y19 y20) (by simp [cL, Function.comp_def]; done)) <| s)
          clear p
          cases h9 : (decide ((Z3I Y0 Yr Yu) < 0)) with
          | true =>
           have gh9 := of_decide_eq_true h9
           refine fnS E0Ok Z4 (c := bodyOf f6) [] (.b false) [] func6 (q (sB h9 <| sK [] sN)) rfl (by kernel_rfl) (by kernel_rfl) rfl ?_ ?_
           · simp only [Z12, h0, h1, h2, h3, h4, h5, h6, h7, h8, h9, cond_true, cond_false]
           · rfl
          | false =>
           have gh9 := of_decide_eq_false h9
           have p {a C} (s : Scr a C) := q (sB h9 <| s)
           clear q
           cases h10 : ((Z3I Y0 Yr Yu) != (Z5 ((Z2 Y0 Yr Yu).1) 1).1) with
           | true =>
            have gh10 := bne_iff_ne.1 h10
            refine fnS E0Ok Z4 (c := bodyOf f6) [] (.b false) [] func6 (p (sB h10 <| sK [] sN)) rfl (by kernel_rfl) (by kernel_rfl) rfl ?_ ?_
            · simp only [Z12, h0, h1, h2, h3, h4, h5, h6, h7, h8, h9, h10, cond_true, cond_false]
            · rfl
           | false =>
            have gh10 := bne_eq_false_iff_eq.1 h10
            refine fnS E0Ok Z4 (c := bodyOf f6) [] (.b true) [] func6 (p (sB h10 <| sF (Z7m Y0 y0 y1 y2 y3 y4) <| sF (Z5o Yr y5) <| sF (Fn.castA (args' := [.agg [.sl (Y0.Mesh.Places.map GVector.cells), .sl ((Y0.Mesh.Triangles.map fun l => l.map (cI .i64)).map fun l => [.sl l]), .sl (Y0.Springs.map GSpring.cells), .f .f32 Y0.Film, .f .f32 Y0.Bend, .sl (Y0.Weights.map (cF .f32)), .f .f32 Y0.Fall.X, .f .f32 Y0.Fall.Y, .f .f32 Y0.Fall.Z], .sl (Yr.map (cI .i64)), .f .f32 Yu]) (ZaZ Y0 Yr Yu y0 y1 y2 y3 y4 y5) (by simp [cL, Function.comp_def]; done)) <| sF (Fn.castA (args' := [.agg [.sl (((Z2 Y0 Yr Yu).1.Mesh.Places).map GVector.cells), .sl ((((Z2 Y0 Yr Yu).1.Mesh.Triangles).map fun l => l.map (cI .i64)).map fun l => [.sl l]), .sl (((Z2 Y0 Yr Yu).1.Springs).map GSpring.cells), .f .f32 ((Z2 Y0 Yr Yu).1.Film), .f .f32 ((Z2 Y0 Yr Yu).1.Bend), .sl (((Z2 Y0 Yr Yu).1.Weights).map (cF .f32)), .f .f32 ((Z2 Y0 Yr Yu).1.Fall.X), .f .f32 ((Z2 Y0 Yr Yu).1.Fall.Y), .f .f32 ((Z2 Y0 Yr Yu).1.Fall.Z)], .agg [.sl (((Z9 Y0 Yr Yu).1.Mesh.Places).map GVector.cells), .sl ((((Z9 Y0 Yr Yu).1.Mesh.Triangles).map fun l => l.map (cI .i64)).map fun l => [.sl l]), .sl (((Z9 Y0 Yr Yu).1.Springs).map GSpring.cells), .f .f32 ((Z9 Y0 Yr Yu).1.Film), .f .f32 ((Z9 Y0 Yr Yu).1.Bend), .sl (((Z9 Y0 Yr Yu).1.Weights).map (cF .f32)), .f .f32 ((Z9 Y0 Yr Yu).1.Fall.X), .f .f32 ((Z9 Y0 Yr Yu).1.Fall.Y), .f .f32 ((Z9 Y0 Yr Yu).1.Fall.Z)]]) (Z7q ((Z2 Y0 Yr Yu).1) ((Z9 Y0 Yr Yu).1) y6 y7 y8 y9 y10 y11 y12 y13 y14 y15) (by simp [cL, Function.comp_def]; done)) <| sB' h2 <| sB' h2 <| sB' h2 <| sB' h2 <| sB h3 <| sB h3 <| sB h3 <| sB h3 <| sB' h4 <| sB' h4 <| sB' h4 <| sB' h4 <| sB' h5 <| sF (Fn.castA (args' := [.agg [.sl (((Z5 ((Z2 Y0 Yr Yu).1) 1).2.1).map GVector.cells), .sl ((((Z5 ((Z2 Y0 Yr Yu).1) 1).2.2.1).map fun l => l.map (cI .i64)).map fun l => [.sl l]), .sl (((Z5 ((Z2 Y0 Yr Yu).1) 1).2.2.2.1).map GSpring.cells), .f .f32 ((Z2 Y0 Yr Yu).1.Film), .f .f32 ((Z2 Y0 Yr Yu).1.Bend), .sl (((Z5 ((Z2 Y0 Yr Yu).1) 1).2.2.2.2).map (cF .f32)), .f .f32 ((Z2 Y0 Yr Yu).1.Fall.X), .f .f32 ((Z2 Y0 Yr Yu).1.Fall.Y), .f .f32 ((Z2 Y0 Yr Yu).1.Fall.Z)], .i .i64 1]) (Zb6 (⟨(⟨(Z5 ((Z2 Y0 Yr Yu).1) 1).2.1, (Z5 ((Z2 Y0 Yr Yu).1) 1).2.2.1⟩ : GMesh), (Z5 ((Z2 Y0 Yr Yu).1) 1).2.2.2.1, (Z2 Y0 Yr Yu).1.Film, (Z2 Y0 Yr Yu).1.Bend, (Z5 ((Z2 Y0 Yr Yu).1) 1).2.2.2.2, (Z2 Y0 Yr Yu).1.Fall⟩ : GBody) 1 y16 y17 y18 y19 y20) (by simp [cL, Function.comp_def]; done)) <| sB h9 <| sB h10 <| sK [] sN)) rfl (by kernel_rfl) (by kernel_rfl) rfl ?_ ?_
            · simp only [Z12, h0, h1, h2, h3, h4, h5, h6, h7, h8, h9, h10, cond_true, cond_false]
            · rfl
        | false =>
         refine fnS E0Ok Z4 (c := bodyOf f6) [] (.b false) [] func6 (q (sB' h7 <| sK [] sN)) rfl (by kernel_rfl) (by kernel_rfl) rfl ?_ ?_
         · simp only [Z12, h0, h1, h2, h3, h4, h5, h6, h7, cond_true, cond_false]
         · rfl
       | false =>
        refine fnS E0Ok Z4 (c := bodyOf f6) [] (.b false) [] func6 (p (sB' h6 <| sK [] sN)) rfl (by kernel_rfl) (by kernel_rfl) rfl ?_ ?_
        · simp only [Z12, h0, h1, h2, h3, h4, h5, h6, cond_true, cond_false]
        · rfl
      | false =>
       have gh5 := ne_of_beq_false h5
       refine fnS E0Ok Z4 (c := bodyOf f6) [] (.b false) [] func6 (q (sB' h5 <| sK [] sN)) rfl (by kernel_rfl) (by kernel_rfl) rfl ?_ ?_
       · simp only [Z12, h0, h1, h2, h3, h4, h5, cond_true, cond_false]
       · rfl
     | false =>
      have gh4 := ne_of_beq_false h4
      refine fnS E0Ok Z4 (c := bodyOf f6) [] (.b false) [] func6 (p (sB' h4 <| sB' h4 <| sB' h4 <| sB' h4 <| sB (show true = true from rfl) <| sK [] sN)) rfl (by kernel_rfl) (by kernel_rfl) rfl ?_ ?_
      · simp only [Z12, h0, h1, h2, h3, h4, cond_true, cond_false]
      · rfl
   | false =>
    refine fnS E0Ok Z4 (c := bodyOf f6) [] (.b false) [] func6 (p (sB' h2 <| sB' h2 <| sB' h2 <| sB' h2 <| sB (show true = true from rfl) <| sB (show true = true from rfl) <| sB (show true = true from rfl) <| sB (show true = true from rfl) <| sB (show true = true from rfl) <| sB (show true = true from rfl) <| sB (show true = true from rfl) <| sB (show true = true from rfl) <| sB (show true = true from rfl) <| sK [] sN)) rfl (by kernel_rfl) (by kernel_rfl) rfl ?_ ?_
    · simp only [Z12, h0, h1, h2, cond_false]
    · rfl
end Go.Ab
