/- The functions of this seat as plain Lean, and that the program's are these. Printed by a program of the prover's own. -/
import Derived.Test.YtpndflbllggeiaaGreatB8
set_option linter.unusedVariables false
set_option linter.unusedSimpArgs false
set_option maxRecDepth 100000
namespace Go.Ab
open Go.RowKit Go.Proofs.Tryz
def Z4N (Y4 : (List (List Int))) (Yk : Int) (r : Int × (List (List Int))) : Ex × St := ((.exit 0), ⟨.any :: .i .i64 r.1 :: .any :: .any :: .i .i64 0 :: an 14 [], [.nest 49 (r.2.map fun l => l.map (cI .i64)) false]⟩)
def Z6t (Y4 : (List (List Int))) (Yk : Int) (Ye : Int) (Y9 : Int) (Yf : (List (List Int))) : St := ⟨.own 0 :: .i .i64 Ye :: .any :: .any :: .i .i64 0 :: .i .i64 Y9 :: an 13 [], [.nest 49 (Yf.map fun l => l.map (cI .i64)) false]⟩
theorem Z9K (Y4 : (List (List Int))) (Yk : Int) (hp0 : Y4.length ≤ 1073741824) (hp1 : ∀ t ∈ Y4, t.length ≤ 1073741824) : ∀ (k : Nat) (Ye : Int) (Y9 : Int) (Yf : (List (List Int))) (Z5x : 0 ≤ Y9) (Z5y : Yf.length = Y4.length) (Z3r : ∀ t ∈ Yf, t.length ≤ 1073741824) (hk : ((Y4.length : Int) - Y9).toNat < k), Lp prog 1 (sub (bodyOf f119) [1, 0, 1, 0, 0]) (Z6t Y4 Yk Ye Y9 Yf) (Z4N Y4 Yk (ZF Y4 Yk k Ye Y9 Yf)).1 (Z4N Y4 Yk (ZF Y4 Yk k Ye Y9 Yf)).2 := by
 intro k
 induction k with
 | zero => intro Ye Y9 Yf Z5x Z5y Z3r hk; exact absurd hk (Nat.not_lt_zero _)
 | succ k ih =>
  intro Ye Y9 Yf Z5x Z5y Z3r hk
  have p {a C} (s : Scr a C) := sM (nlen_ok (l := Yf) (f := fun l => l.map (cI .i64))) <| s
  cases Yl : (decide (Y9 < (Yf.length : Int))) with
  | true =>
   have Yw := of_decide_eq_true Yl
   have YF : (0 : Int) ≤ Y9 := by clear p; exact (by assumption)
   have YG : Int.toNat Y9 < Yf.length := by clear p; exact (by omega)
   have YH : Y9.toNat < Yf.length := by clear p; exact (by assumption)
   have YI : (Yf.getD Y9.toNat default).length ≤ 1073741824 := by clear p; exact (by exact mem_le Z3r)
   have YP : (-9223372036854775808 : Int) ≤ (Y9 + 1) := by clear p; exact (by omega)
   have YS : (Y9 + 1) ≤ (9223372036854775807 : Int) := by clear p; exact (by omega)
   have e : ZF Y4 Yk (k + 1) Ye Y9 Yf = (ZF Y4 Yk k ((Zl (Yf.getD Y9.toNat default) Ye).1) (Y9 + 1) (Yf.set Y9.toNat ((Zl (Yf.getD Y9.toNat default) Ye).2))) := by simp only [ZF, Yl, cond_true]
   rw [e]
   exact nextS (EpOk 1) Z5 [] (mR false [0, 2, 2, 2, 13]) [] (⟨.own 0 :: .i .i64 ((Zl (Yf.getD Y9.toNat default) Ye).1) :: .any :: .any :: .i .i64 0 :: .i .i64 (Y9 + 1) :: an 13 [], [.nest 49 ((Yf.map fun l => l.map (cI .i64)).set Y9.toNat (((Zl (Yf.getD Y9.toNat default) Ye).2).map (cI .i64))) false]⟩) (p (sB Yl <| sC (nestix (c := (cI .i64)) (l := Yf) (i := Y9) YF YG) <| sC (nestlt (c := (cI .i64)) (l := Yf) YH) <| sS (CallSt.frameInn (R := [.nest 49 (Yf.map fun l => l.map (cI .i64)) false]) (q := 0) (j := Y9.toNat) (args := [.i .i64 Ye]) (fun ty => ZaX ty (Yf.getD Y9.toNat default) Ye YI) rfl rfl (by simp) rfl (nestget_ok YH)) <| sI (Y9 + 1) YP YS <| sN)) (by kernel_rfl) (by simp [Z6t, List.map_set, cL, cI]) (ih ((Zl (Yf.getD Y9.toNat default) Ye).1) (Y9 + 1) (Yf.set Y9.toNat ((Zl (Yf.getD Y9.toNat default) Ye).2)) (show 0 ≤ (Y9 + 1) from (by omega)) (show (Yf.set Y9.toNat ((Zl (Yf.getD Y9.toNat default) Ye).2)).length = Y4.length from (by simp; assumption)) (show ∀ t ∈ (Yf.set Y9.toNat ((Zl (Yf.getD Y9.toNat default) Ye).2)), t.length ≤ 1073741824 from (by intro t ht; rcases List.mem_or_eq_of_mem_set ht with h | h; (exact Z3r t h); (rw [h]; simp only [Z5w]; exact mem_le Z3r))) (by omega))
  | false =>
   have Yw := of_decide_eq_false Yl
   have e : ZF Y4 Yk (k + 1) Ye Y9 Yf = (Ye, Yf) := by simp only [ZF, Yl, cond_false]
   rw [e]
   exact outR (e := (.exit 0)) (EpOk 1) Z5 [] (mR false [1, 1, 2, 1, 14]) [] (p (sB Yl <| sN)) (by kernel_rfl) (by intro h; cases h)
theorem Z9c (Y4 : (List (List Int))) (Yk : Int) : ∀ (k : Nat) (Ye : Int) (Y9 : Int) (Yf : (List (List Int))) (hk : ((Yf.length : Int) - Y9).toNat < k), (ZF Y4 Yk k Ye Y9 Yf).2.length = Yf.length := by
  intro k
  induction k with
  | zero => intro Ye Y9 Yf hk; exact absurd hk (Nat.not_lt_zero _)
  | succ k ih =>
    intro Ye Y9 Yf hk
    cases Yl : (decide (Y9 < (Yf.length : Int))) with
    | true =>
      have e : ZF Y4 Yk (k + 1) Ye Y9 Yf = (ZF Y4 Yk k ((Zl (Yf.getD Y9.toNat default) Ye).1) (Y9 + 1) (Yf.set Y9.toNat ((Zl (Yf.getD Y9.toNat default) Ye).2))) := by simp only [ZF, Yl, cond_true]
      rw [e, ih ((Zl (Yf.getD Y9.toNat default) Ye).1) (Y9 + 1) (Yf.set Y9.toNat ((Zl (Yf.getD Y9.toNat default) Ye).2)) (by simp_all <;> omega)]; simp
    | false =>
      have e : ZF Y4 Yk (k + 1) Ye Y9 Yf = (Ye, Yf) := by simp only [ZF, Yl, cond_false]
      first | (rw [e]; done) | (rw [e]; rfl)
def Z2n (Y4 : (List (List Int))) (Yk : Int) : Int × (List (List Int)) := (ZF Y4 Yk (((Y4.length : Int) - 0).toNat + 1) Yk 0 Y4)
@[simp] theorem ZcW (Y4 : (List (List Int))) (Yk : Int) : (Z2n Y4 Yk).2.length = (Y4 : (List (List Int))).length := Z9c Y4 Yk (((Y4.length : Int) - 0).toNat + 1) Yk 0 Y4 (by exact Nat.lt_succ_self _)
def ZW (Y4 : (List (List Int))) (Yk : Int) : Int × (List (List Int)) := ((Z2n Y4 Yk).1, (Z2n Y4 Yk).2)
@[simp] theorem Zei (Y4 : (List (List Int))) (Yk : Int) : (ZW Y4 Yk).2.length = Y4.length := by
  first | (simp [ZW]; done)
theorem Zay (Y4 : (List (List Int))) (Yk : Int) (hp0 : Y4.length ≤ 1073741824) (hp1 : ∀ t ∈ Y4, t.length ≤ 1073741824)  : CallSt prog 119 [.nest 49 (Y4.map fun l => l.map (cI .i64)) false] [.own 0, .i .i64 Yk] (.i .i64 ((ZW Y4 Yk).1)) [.nest 49 (((ZW Y4 Yk).2).map fun l => l.map (cI .i64)) false] := by
 refine callS (EpOk 1) Z5 (c := bodyOf f119) [.nest 49 (Y4.map fun l => l.map (cI .i64)) false] [] (.i .i64 ((Z2n Y4 Yk).1)) [.nest 49 (((Z2n Y4 Yk).2).map fun l => l.map (cI .i64)) false] func119 (sL (mR false [0, 2, 2, 2, 13]) 1 (lp_val (Z4N Y4 Yk) (x := (Z2n Y4 Yk)) (Z9K Y4 Yk hp0 hp1 (((Y4.length : Int) - 0).toNat + 1) Yk 0 Y4 (show 0 ≤ 0 from (by simp)) (show Y4.length = Y4.length from (by simp)) (show ∀ t ∈ Y4, t.length ≤ 1073741824 from (by assumption)) (Nat.lt_succ_self _)) rfl) <| sK [] sN) rfl (by kernel_rfl) (by kernel_rfl) ?_ ?_
 · rfl
 · simp [ZW]
theorem Za8 (a : List (List Int)) (c : Int) : ZW a c = mkL Zl a c := by
  unfold ZW Z2n
  rw [mark_loop (f := Zl) (lo := ZF a c) (fun k c i r => rfl) _ _ _ _ (Int.le_refl 0) (Nat.lt_succ_self _)]
  simp
theorem Zdq (a : List (List Int)) (c : Int) (N : Nat) (h : ∀ t ∈ a, t.length ≤ N) : ∀ t ∈ (ZW a c).2, t.length ≤ N := by
  rw [Za8]
  exact mkL_mem (p := fun t : List Int => t.length ≤ N) (fun x c hx => by rw [Z5w]; exact hx) a c h
theorem Z9d (a : List (List Int)) (c : Int) (g0 : a.length ≤ 1073741824) (g1 : ∀ t ∈ a, t.length ≤ 1073741824) (h0 : 0 ≤ c) (h1 : c ≤ 3458764513820540928) : c ≤ (ZW a c).1 ∧ (ZW a c).1 ≤ c + 1152921504606846976 := by
  rw [Za8]
  have hm : (a.length : Int) * 1073741824 ≤ 1152921504606846976 := by omega
  have q := mkL_ge_b (f := Zl) (W := 1073741824) (M := 4611686018427387904) a c (fun x hx c k0 k1 => by have q := Za7 x c (g1 x hx) k0 (by omega); omega) h0 (by omega)
  omega
def Zd (Y4 : GMesh) (Yk : Int) : Int × (List GVector) × (List (List Int)) := ((ZW Y4.Triangles ((Zk Y4.Places Yk).1)).1, (Zk Y4.Places Yk).2, (ZW Y4.Triangles ((Zk Y4.Places Yk).1)).2)
@[simp] theorem Zej (Y4 : GMesh) (Yk : Int) : (Zd Y4 Yk).2.1.length = Y4.Places.length := by
  first | (simp [Zd]; done)
@[simp] theorem Zek (Y4 : GMesh) (Yk : Int) : (Zd Y4 Yk).2.2.length = Y4.Triangles.length := by
  first | (simp [Zd]; done)
theorem Zaz (Y4 : GMesh) (Yk : Int) (hp0 : Y4.Places.length ≤ 1073741824) (hp1 : Y4.Triangles.length ≤ 1073741824) (hp2 : ∀ t ∈ Y4.Triangles, t.length ≤ 1073741824)  : CallSt prog 61 [.vec 40 3 (Y4.Places.map GVector.cells) false, .nest 49 (Y4.Triangles.map fun l => l.map (cI .i64)) false] [.agg [.own 0, .own 1], .i .i64 Yk] (.i .i64 ((Zd Y4 Yk).1)) [.vec 40 3 (((Zd Y4 Yk).2.1).map GVector.cells) false, .nest 49 (((Zd Y4 Yk).2.2).map fun l => l.map (cI .i64)) false] := by
 refine callS (EpOk 2) Z5 (c := bodyOf f61) [.vec 40 3 (Y4.Places.map GVector.cells) false, .nest 49 (Y4.Triangles.map fun l => l.map (cI .i64)) false] [] (.i .i64 ((ZW Y4.Triangles ((Zk Y4.Places Yk).1)).1)) [.vec 40 3 (((Zk Y4.Places Yk).2).map GVector.cells) false, .nest 49 (((ZW Y4.Triangles ((Zk Y4.Places Yk).1)).2).map fun l => l.map (cI .i64)) false] func61 (sS (CallSt.frame (Z7c Y4.Places Yk hp0) [0] (R := [.vec 40 3 (Y4.Places.map GVector.cells) false, .nest 49 (Y4.Triangles.map fun l => l.map (cI .i64)) false, .box 38 [.own 0, .own 1]]) (args' := [.own 0, .i .i64 Yk]) rfl rfl rfl rfl rfl rfl) <| sS (CallSt.frame (Zay Y4.Triangles ((Zk Y4.Places Yk).1) hp1 hp2) [1] (R := [.vec 40 3 (((Zk Y4.Places Yk).2).map GVector.cells) false, .nest 49 (Y4.Triangles.map fun l => l.map (cI .i64)) false, .box 38 [.own 0, .own 1]]) (args' := [.own 1, .i .i64 ((Zk Y4.Places Yk).1)]) rfl rfl rfl rfl rfl rfl) <| sK [] sN) rfl (by kernel_rfl) (by kernel_rfl) ?_ ?_
 · rfl
 · simp [Zd]
theorem Z9e (a : GMesh) (c : Int) (g0 : a.Places.length ≤ 1073741824) (g1 : a.Triangles.length ≤ 1073741824) (g2 : ∀ t ∈ a.Triangles, t.length ≤ 1073741824) (h0 : 0 ≤ c) (h1 : c ≤ 2305843009213693952) : c ≤ (Zd a c).1 ∧ (Zd a c).1 ≤ c + 1152921507828072448 := by
  unfold Zd
  have p0 := Z5i a.Places c g0 (by omega) (by omega)
  have p1 := Z9d a.Triangles ((Zk a.Places c).1) g1 g2 (by omega) (by omega)
  simp only
  omega
theorem Zdr (a : GMesh) (c : Int) (N : Nat) (h : ∀ t ∈ a.Triangles, t.length ≤ N) : ∀ t ∈ (Zd a c).2.2, t.length ≤ N := by
  unfold Zd
  exact Zdq _ _ N h
def ZG (Y4 : (List GSpring)) (Yk : Int) : Nat → Int → Int → (List GSpring) → Int × (List GSpring)
  | 0, _, _, _ => default
  | k + 1, Ye, Y9, Yf => (cond (decide (Y9 < (Yf.length : Int)))
    (ZG Y4 Yk k (IntKind.wrap .i64 ((IntKind.wrap .i64 ((IntKind.wrap .i64 ((IntKind.wrap .i64 (Ye + 1)) + 1)) + 1)) + 1)) (Y9 + 1) (Yf.set Y9.toNat (⟨Ye, (IntKind.wrap .i64 (Ye + 1)), (ofInt .f32 (IntKind.wrap .i64 ((IntKind.wrap .i64 (Ye + 1)) + 1))), (ofInt .f32 (IntKind.wrap .i64 ((IntKind.wrap .i64 ((IntKind.wrap .i64 (Ye + 1)) + 1)) + 1)))⟩ : GSpring)))
    (Ye, Yf))
def Z4O (Y4 : (List GSpring)) (Yk : Int) (r : Int × (List GSpring)) : Ex × St := ((.exit 0), ⟨.any :: .i .i64 r.1 :: .any :: .any :: .i .i64 0 :: an 38 [], [.vec 133 4 (r.2.map GSpring.cells) false]⟩)
def Z6u (Y4 : (List GSpring)) (Yk : Int) (Ye : Int) (Y9 : Int) (Yf : (List GSpring)) : St := ⟨.own 0 :: .i .i64 Ye :: .any :: .any :: .i .i64 0 :: .i .i64 Y9 :: an 37 [], [.vec 133 4 (Yf.map GSpring.cells) false]⟩
theorem Z9L (Y4 : (List GSpring)) (Yk : Int) (hp0 : Y4.length ≤ 1073741824) : ∀ (k : Nat) (Ye : Int) (Y9 : Int) (Yf : (List GSpring)) (Z5z : 0 ≤ Y9) (Z5A : Yf.length = Y4.length) (hk : ((Y4.length : Int) - Y9).toNat < k), Lp prog 1 (sub (bodyOf f62) [1, 0, 1, 0, 0]) (Z6u Y4 Yk Ye Y9 Yf) (Z4O Y4 Yk (ZG Y4 Yk k Ye Y9 Yf)).1 (Z4O Y4 Yk (ZG Y4 Yk k Ye Y9 Yf)).2 := by
 intro k
 induction k with
 | zero => intro Ye Y9 Yf Z5z Z5A hk; exact absurd hk (Nat.not_lt_zero _)
 | succ k ih =>
  intro Ye Y9 Yf Z5z Z5A hk
  have p {a C} (s : Scr a C) := sZ GSpring.cells Yf <| s
  cases Yl : (decide (Y9 < (Yf.length : Int))) with
  | true =>
   have Yw := of_decide_eq_true Yl
   have YF : (0 : Int) ≤ Y9 := by clear p; exact (by assumption)
   have YG : Y9 < (Yf.length : Int) := by clear p; exact (by assumption)
   have YH : Y9.toNat < Yf.length := by clear p; exact (by omega)
   have YI : Y9 < ((Yf.set Y9.toNat (⟨Ye, (Yf.getD Y9.toNat default).B, (Yf.getD Y9.toNat default).Long, (Yf.getD Y9.toNat default).Stiff⟩ : GSpring)).length : Int) := by clear p; exact (by simp_all <;> omega)
   have YP : Y9 < ((Yf.set Y9.toNat (⟨Ye, (IntKind.wrap .i64 (Ye + 1)), (Yf.getD Y9.toNat default).Long, (Yf.getD Y9.toNat default).Stiff⟩ : GSpring)).length : Int) := by clear p; exact (by simp_all <;> omega)
   have YS : Y9 < ((Yf.set Y9.toNat (⟨Ye, (IntKind.wrap .i64 (Ye + 1)), (ofInt .f32 (IntKind.wrap .i64 ((IntKind.wrap .i64 (Ye + 1)) + 1))), (Yf.getD Y9.toNat default).Stiff⟩ : GSpring)).length : Int) := by clear p; exact (by simp_all <;> omega)
   have y_6 : (-9223372036854775808 : Int) ≤ (Y9 + 1) := by clear p; exact (by omega)
   have y_7 : (Y9 + 1) ≤ (9223372036854775807 : Int) := by clear p; exact (by omega)
   have e : ZG Y4 Yk (k + 1) Ye Y9 Yf = (ZG Y4 Yk k (IntKind.wrap .i64 ((IntKind.wrap .i64 ((IntKind.wrap .i64 ((IntKind.wrap .i64 (Ye + 1)) + 1)) + 1)) + 1)) (Y9 + 1) (Yf.set Y9.toNat (⟨Ye, (IntKind.wrap .i64 (Ye + 1)), (ofInt .f32 (IntKind.wrap .i64 ((IntKind.wrap .i64 (Ye + 1)) + 1))), (ofInt .f32 (IntKind.wrap .i64 ((IntKind.wrap .i64 ((IntKind.wrap .i64 (Ye + 1)) + 1)) + 1)))⟩ : GSpring))) := by simp only [ZG, Yl, cond_true]
   rw [e]
   exact nextS (EpOk 1) Z5 [] (mR false [0, 2, 2, 2, 37]) [] (⟨.own 0 :: .i .i64 (IntKind.wrap .i64 ((IntKind.wrap .i64 ((IntKind.wrap .i64 ((IntKind.wrap .i64 (Ye + 1)) + 1)) + 1)) + 1)) :: .any :: .any :: .i .i64 0 :: .i .i64 (Y9 + 1) :: an 37 [], [.vec 133 4 (((((Yf.map GSpring.cells).set Y9.toNat [.i .i64 Ye, .i .i64 ((Yf.getD Y9.toNat default).B), .f .f32 ((Yf.getD Y9.toNat default).Long), .f .f32 ((Yf.getD Y9.toNat default).Stiff)]).set Y9.toNat [.i .i64 Ye, .i .i64 (IntKind.wrap .i64 (Ye + 1)), .f .f32 ((Yf.getD Y9.toNat default).Long), .f .f32 ((Yf.getD Y9.toNat default).Stiff)]).set Y9.toNat [.i .i64 Ye, .i .i64 (IntKind.wrap .i64 (Ye + 1)), .f .f32 (ofInt .f32 (IntKind.wrap .i64 ((IntKind.wrap .i64 (Ye + 1)) + 1))), .f .f32 ((Yf.getD Y9.toNat default).Stiff)]).set Y9.toNat [.i .i64 Ye, .i .i64 (IntKind.wrap .i64 (Ye + 1)), .f .f32 (ofInt .f32 (IntKind.wrap .i64 ((IntKind.wrap .i64 (Ye + 1)) + 1))), .f .f32 (ofInt .f32 (IntKind.wrap .i64 ((IntKind.wrap .i64 ((IntKind.wrap .i64 (Ye + 1)) + 1)) + 1)))]) false]⟩) (p (sB Yl <| sX GSpring.cells Yf Y9 YF YG <| sV GSpring.cells Yf Y9.toNat YH <| sW .i64 (Ye + 1) <| sC (show 0 ≤ Y9 ∧ Int.toNat Y9 < ((Yf.map GSpring.cells).set Y9.toNat [.i .i64 Ye, .i .i64 ((Yf.getD Y9.toNat default).B), .f .f32 ((Yf.getD Y9.toNat default).Long), .f .f32 ((Yf.getD Y9.toNat default).Stiff)]).length from (by simpa using idx_ok (c := GSpring.cells) (l := (Yf.set Y9.toNat (⟨Ye, (Yf.getD Y9.toNat default).B, (Yf.getD Y9.toNat default).Long, (Yf.getD Y9.toNat default).Stiff⟩ : GSpring))) (i := Y9) YF YI)) <| sE (show ((Yf.map GSpring.cells).set Y9.toNat [.i .i64 Ye, .i .i64 ((Yf.getD Y9.toNat default).B), .f .f32 ((Yf.getD Y9.toNat default).Long), .f .f32 ((Yf.getD Y9.toNat default).Stiff)])[Y9.toNat]? = some [.i .i64 Ye, .i .i64 ((Yf.getD Y9.toNat default).B), .f .f32 ((Yf.getD Y9.toNat default).Long), .f .f32 ((Yf.getD Y9.toNat default).Stiff)] from List.getElem?_set_self (by simpa using YH)) <| sW .i64 ((IntKind.wrap .i64 (Ye + 1)) + 1) <| sC (show 0 ≤ Y9 ∧ Int.toNat Y9 < (((Yf.map GSpring.cells).set Y9.toNat [.i .i64 Ye, .i .i64 ((Yf.getD Y9.toNat default).B), .f .f32 ((Yf.getD Y9.toNat default).Long), .f .f32 ((Yf.getD Y9.toNat default).Stiff)]).set Y9.toNat [.i .i64 Ye, .i .i64 (IntKind.wrap .i64 (Ye + 1)), .f .f32 ((Yf.getD Y9.toNat default).Long), .f .f32 ((Yf.getD Y9.toNat default).Stiff)]).length from (by simpa using idx_ok (c := GSpring.cells) (l := (Yf.set Y9.toNat (⟨Ye, (IntKind.wrap .i64 (Ye + 1)), (Yf.getD Y9.toNat default).Long, (Yf.getD Y9.toNat default).Stiff⟩ : GSpring))) (i := Y9) YF YP)) <| sE (show (((Yf.map GSpring.cells).set Y9.toNat [.i .i64 Ye, .i .i64 ((Yf.getD Y9.toNat default).B), .f .f32 ((Yf.getD Y9.toNat default).Long), .f .f32 ((Yf.getD Y9.toNat default).Stiff)]).set Y9.toNat [.i .i64 Ye, .i .i64 (IntKind.wrap .i64 (Ye + 1)), .f .f32 ((Yf.getD Y9.toNat default).Long), .f .f32 ((Yf.getD Y9.toNat default).Stiff)])[Y9.toNat]? = some [.i .i64 Ye, .i .i64 (IntKind.wrap .i64 (Ye + 1)), .f .f32 ((Yf.getD Y9.toNat default).Long), .f .f32 ((Yf.getD Y9.toNat default).Stiff)] from List.getElem?_set_self (by simpa using YH)) <| sW .i64 ((IntKind.wrap .i64 ((IntKind.wrap .i64 (Ye + 1)) + 1)) + 1) <| sC (show 0 ≤ Y9 ∧ Int.toNat Y9 < ((((Yf.map GSpring.cells).set Y9.toNat [.i .i64 Ye, .i .i64 ((Yf.getD Y9.toNat default).B), .f .f32 ((Yf.getD Y9.toNat default).Long), .f .f32 ((Yf.getD Y9.toNat default).Stiff)]).set Y9.toNat [.i .i64 Ye, .i .i64 (IntKind.wrap .i64 (Ye + 1)), .f .f32 ((Yf.getD Y9.toNat default).Long), .f .f32 ((Yf.getD Y9.toNat default).Stiff)]).set Y9.toNat [.i .i64 Ye, .i .i64 (IntKind.wrap .i64 (Ye + 1)), .f .f32 (ofInt .f32 (IntKind.wrap .i64 ((IntKind.wrap .i64 (Ye + 1)) + 1))), .f .f32 ((Yf.getD Y9.toNat default).Stiff)]).length from (by simpa using idx_ok (c := GSpring.cells) (l := (Yf.set Y9.toNat (⟨Ye, (IntKind.wrap .i64 (Ye + 1)), (ofInt .f32 (IntKind.wrap .i64 ((IntKind.wrap .i64 (Ye + 1)) + 1))), (Yf.getD Y9.toNat default).Stiff⟩ : GSpring))) (i := Y9) YF YS)) <| sE (show ((((Yf.map GSpring.cells).set Y9.toNat [.i .i64 Ye, .i .i64 ((Yf.getD Y9.toNat default).B), .f .f32 ((Yf.getD Y9.toNat default).Long), .f .f32 ((Yf.getD Y9.toNat default).Stiff)]).set Y9.toNat [.i .i64 Ye, .i .i64 (IntKind.wrap .i64 (Ye + 1)), .f .f32 ((Yf.getD Y9.toNat default).Long), .f .f32 ((Yf.getD Y9.toNat default).Stiff)]).set Y9.toNat [.i .i64 Ye, .i .i64 (IntKind.wrap .i64 (Ye + 1)), .f .f32 (ofInt .f32 (IntKind.wrap .i64 ((IntKind.wrap .i64 (Ye + 1)) + 1))), .f .f32 ((Yf.getD Y9.toNat default).Stiff)])[Y9.toNat]? = some [.i .i64 Ye, .i .i64 (IntKind.wrap .i64 (Ye + 1)), .f .f32 (ofInt .f32 (IntKind.wrap .i64 ((IntKind.wrap .i64 (Ye + 1)) + 1))), .f .f32 ((Yf.getD Y9.toNat default).Stiff)] from List.getElem?_set_self (by simpa using YH)) <| sW .i64 ((IntKind.wrap .i64 ((IntKind.wrap .i64 ((IntKind.wrap .i64 (Ye + 1)) + 1)) + 1)) + 1) <| sI (Y9 + 1) y_6 y_7 <| sN)) (by kernel_rfl) (by simp [Z6u, List.map_set, GSpring.cells]) (ih (IntKind.wrap .i64 ((IntKind.wrap .i64 ((IntKind.wrap .i64 ((IntKind.wrap .i64 (Ye + 1)) + 1)) + 1)) + 1)) (Y9 + 1) (Yf.set Y9.toNat (⟨Ye, (IntKind.wrap .i64 (Ye + 1)), (ofInt .f32 (IntKind.wrap .i64 ((IntKind.wrap .i64 (Ye + 1)) + 1))), (ofInt .f32 (IntKind.wrap .i64 ((IntKind.wrap .i64 ((IntKind.wrap .i64 (Ye + 1)) + 1)) + 1)))⟩ : GSpring)) (show 0 ≤ (Y9 + 1) from (by omega)) (show (Yf.set Y9.toNat (⟨Ye, (IntKind.wrap .i64 (Ye + 1)), (ofInt .f32 (IntKind.wrap .i64 ((IntKind.wrap .i64 (Ye + 1)) + 1))), (ofInt .f32 (IntKind.wrap .i64 ((IntKind.wrap .i64 ((IntKind.wrap .i64 (Ye + 1)) + 1)) + 1)))⟩ : GSpring)).length = Y4.length from (by simp_all <;> omega)) (by omega))
  | false =>
   have Yw := of_decide_eq_false Yl
   have e : ZG Y4 Yk (k + 1) Ye Y9 Yf = (Ye, Yf) := by simp only [ZG, Yl, cond_false]
   rw [e]
   exact outR (e := (.exit 0)) (EpOk 1) Z5 [] (mR false [1, 1, 2, 1, 38]) [] (p (sB Yl <| sN)) (by kernel_rfl) (by intro h; cases h)
theorem Z9f (Y4 : (List GSpring)) (Yk : Int) : ∀ (k : Nat) (Ye : Int) (Y9 : Int) (Yf : (List GSpring)) (hk : ((Yf.length : Int) - Y9).toNat < k), (ZG Y4 Yk k Ye Y9 Yf).2.length = Yf.length := by
  intro k
  induction k with
  | zero => intro Ye Y9 Yf hk; exact absurd hk (Nat.not_lt_zero _)
  | succ k ih =>
    intro Ye Y9 Yf hk
    cases Yl : (decide (Y9 < (Yf.length : Int))) with
    | true =>
      have e : ZG Y4 Yk (k + 1) Ye Y9 Yf = (ZG Y4 Yk k (IntKind.wrap .i64 ((IntKind.wrap .i64 ((IntKind.wrap .i64 ((IntKind.wrap .i64 (Ye + 1)) + 1)) + 1)) + 1)) (Y9 + 1) (Yf.set Y9.toNat (⟨Ye, (IntKind.wrap .i64 (Ye + 1)), (ofInt .f32 (IntKind.wrap .i64 ((IntKind.wrap .i64 (Ye + 1)) + 1))), (ofInt .f32 (IntKind.wrap .i64 ((IntKind.wrap .i64 ((IntKind.wrap .i64 (Ye + 1)) + 1)) + 1)))⟩ : GSpring))) := by simp only [ZG, Yl, cond_true]
      rw [e, ih (IntKind.wrap .i64 ((IntKind.wrap .i64 ((IntKind.wrap .i64 ((IntKind.wrap .i64 (Ye + 1)) + 1)) + 1)) + 1)) (Y9 + 1) (Yf.set Y9.toNat (⟨Ye, (IntKind.wrap .i64 (Ye + 1)), (ofInt .f32 (IntKind.wrap .i64 ((IntKind.wrap .i64 (Ye + 1)) + 1))), (ofInt .f32 (IntKind.wrap .i64 ((IntKind.wrap .i64 ((IntKind.wrap .i64 (Ye + 1)) + 1)) + 1)))⟩ : GSpring)) (by simp_all <;> omega)]; simp
    | false =>
      have e : ZG Y4 Yk (k + 1) Ye Y9 Yf = (Ye, Yf) := by simp only [ZG, Yl, cond_false]
      first | (rw [e]; done) | (rw [e]; rfl)
def Z2o (Y4 : (List GSpring)) (Yk : Int) : Int × (List GSpring) := (ZG Y4 Yk (((Y4.length : Int) - 0).toNat + 1) Yk 0 Y4)
@[simp] theorem ZcX (Y4 : (List GSpring)) (Yk : Int) : (Z2o Y4 Yk).2.length = (Y4 : (List GSpring)).length := Z9f Y4 Yk (((Y4.length : Int) - 0).toNat + 1) Yk 0 Y4 (by exact Nat.lt_succ_self _)
def Zq (Y4 : (List GSpring)) (Yk : Int) : Int × (List GSpring) := ((Z2o Y4 Yk).1, (Z2o Y4 Yk).2)
@[simp] theorem Zel (Y4 : (List GSpring)) (Yk : Int) : (Zq Y4 Yk).2.length = Y4.length := by
  first | (simp [Zq]; done)
theorem ZaA (Y4 : (List GSpring)) (Yk : Int) (hp0 : Y4.length ≤ 1073741824)  : CallSt prog 62 [.vec 133 4 (Y4.map GSpring.cells) false] [.own 0, .i .i64 Yk] (.i .i64 ((Zq Y4 Yk).1)) [.vec 133 4 (((Zq Y4 Yk).2).map GSpring.cells) false] := by
 refine callS (EpOk 1) Z5 (c := bodyOf f62) [.vec 133 4 (Y4.map GSpring.cells) false] [] (.i .i64 ((Z2o Y4 Yk).1)) [.vec 133 4 (((Z2o Y4 Yk).2).map GSpring.cells) false] func62 (sL (mR false [0, 2, 2, 2, 37]) 1 (lp_val (Z4O Y4 Yk) (x := (Z2o Y4 Yk)) (Z9L Y4 Yk hp0 (((Y4.length : Int) - 0).toNat + 1) Yk 0 Y4 (show 0 ≤ 0 from (by omega)) (show Y4.length = Y4.length from (by simp)) (Nat.lt_succ_self _)) rfl) <| sK [] sN) rfl (by kernel_rfl) (by kernel_rfl) ?_ ?_
 · rfl
 · simp [Zq]
def Z5X (_ : GSpring) (c : Int) : Int × GSpring := ((IntKind.wrap .i64 ((IntKind.wrap .i64 ((IntKind.wrap .i64 ((IntKind.wrap .i64 (c + 1)) + 1)) + 1)) + 1)), ⟨c, (IntKind.wrap .i64 (c + 1)), ofInt .f32 (IntKind.wrap .i64 ((IntKind.wrap .i64 (c + 1)) + 1)), ofInt .f32 (IntKind.wrap .i64 ((IntKind.wrap .i64 ((IntKind.wrap .i64 (c + 1)) + 1)) + 1))⟩)
theorem Zap (a : List GSpring) (c : Int) : Zq a c = mkL Z5X a c := by
  unfold Zq Z2o
  rw [mark_loop (f := Z5X) (lo := ZG a c) (fun k c i r => rfl) _ _ _ _ (Int.le_refl 0) (Nat.lt_succ_self _)]
  simp
theorem Z9E (a : List GSpring) (c : Int) (g0 : a.length ≤ 1073741824) (h0 : 0 ≤ c) (h1 : c ≤ 4611686018427387904) : c ≤ (Zq a c).1 ∧ (Zq a c).1 ≤ c + 4294967296 := by
  rw [Zap]
  have q := mkL_ge (f := Z5X) (W := 4) a c (fun x _ c k0 k1 => by simp only [Z5X]; rw [wrap_id (n := c + 1) (by omega) (by omega), show c + 1 + 1 = c + 2 from by omega, wrap_id (n := c + 2) (by omega) (by omega), show c + 2 + 1 = c + 3 from by omega, wrap_id (n := c + 3) (by omega) (by omega), show c + 3 + 1 = c + 4 from by omega, wrap_id (n := c + 4) (by omega) (by omega)]; omega) h0 (by omega)
  omega
def ZB (Y4 : (List Nat)) (Yk : Int) : Nat → Int → Int → (List Nat) → Int × (List Nat)
  | 0, _, _, _ => default
  | k + 1, Ye, Y9, Yf => (cond (decide (Y9 < (Yf.length : Int)))
    (ZB Y4 Yk k (IntKind.wrap .i64 (Ye + 1)) (Y9 + 1) (Yf.set Y9.toNat (ofInt .f32 Ye)))
    (Ye, Yf))
def Z4w (Y4 : (List Nat)) (Yk : Int) (r : Int × (List Nat)) : Ex × St := ((.exit 0), ⟨.any :: .i .i64 r.1 :: .any :: .any :: .i .i64 0 :: an 15 [], [.vec 27 1 (r.2.map (cF .f32)) false]⟩)
def Z5Y (Y4 : (List Nat)) (Yk : Int) (Ye : Int) (Y9 : Int) (Yf : (List Nat)) : St := ⟨.own 0 :: .i .i64 Ye :: .any :: .any :: .i .i64 0 :: .i .i64 Y9 :: an 14 [], [.vec 27 1 (Yf.map (cF .f32)) false]⟩
theorem Z9q (Y4 : (List Nat)) (Yk : Int) (hp0 : Y4.length ≤ 1073741824) : ∀ (k : Nat) (Ye : Int) (Y9 : Int) (Yf : (List Nat)) (Z5o : 0 ≤ Y9) (Z5p : Yf.length = Y4.length) (hk : ((Y4.length : Int) - Y9).toNat < k), Lp prog 1 (sub (bodyOf f41) [1, 0, 1, 0, 0]) (Z5Y Y4 Yk Ye Y9 Yf) (Z4w Y4 Yk (ZB Y4 Yk k Ye Y9 Yf)).1 (Z4w Y4 Yk (ZB Y4 Yk k Ye Y9 Yf)).2 := by
 intro k
 induction k with
 | zero => intro Ye Y9 Yf Z5o Z5p hk; exact absurd hk (Nat.not_lt_zero _)
 | succ k ih =>
  intro Ye Y9 Yf Z5o Z5p hk
  have p {a C} (s : Scr a C) := sZ (cF .f32) Yf <| s
  cases Yl : (decide (Y9 < (Yf.length : Int))) with
  | true =>
   have Yw := of_decide_eq_true Yl
   have YF : (0 : Int) ≤ Y9 := by clear p; exact (by assumption)
   have YG : Y9 < (Yf.length : Int) := by clear p; exact (by assumption)
   have YH : Y9.toNat < Yf.length := by clear p; exact (by omega)
   have YI : (-9223372036854775808 : Int) ≤ (Y9 + 1) := by clear p; exact (by omega)
   have YP : (Y9 + 1) ≤ (9223372036854775807 : Int) := by clear p; exact (by omega)
   have e : ZB Y4 Yk (k + 1) Ye Y9 Yf = (ZB Y4 Yk k (IntKind.wrap .i64 (Ye + 1)) (Y9 + 1) (Yf.set Y9.toNat (ofInt .f32 Ye))) := by simp only [ZB, Yl, cond_true]
   rw [e]
   exact nextS (EpOk 1) Z5 [] (mR false [0, 2, 2, 2, 14]) [] (⟨.own 0 :: .i .i64 (IntKind.wrap .i64 (Ye + 1)) :: .any :: .any :: .i .i64 0 :: .i .i64 (Y9 + 1) :: an 14 [], [.vec 27 1 ((Yf.map (cF .f32)).set Y9.toNat [.f .f32 (ofInt .f32 Ye)]) false]⟩) (p (sB Yl <| sX (cF .f32) Yf Y9 YF YG <| sC (maplt (c := (cF .f32)) (l := Yf) YH) <| sW .i64 (Ye + 1) <| sI (Y9 + 1) YI YP <| sN)) (by kernel_rfl) (by simp [Z5Y, List.map_set, cF]) (ih (IntKind.wrap .i64 (Ye + 1)) (Y9 + 1) (Yf.set Y9.toNat (ofInt .f32 Ye)) (show 0 ≤ (Y9 + 1) from (by omega)) (show (Yf.set Y9.toNat (ofInt .f32 Ye)).length = Y4.length from (by simp_all <;> omega)) (by omega))
  | false =>
   have Yw := of_decide_eq_false Yl
   have e : ZB Y4 Yk (k + 1) Ye Y9 Yf = (Ye, Yf) := by simp only [ZB, Yl, cond_false]
   rw [e]
   exact outR (e := (.exit 0)) (EpOk 1) Z5 [] (mR false [1, 1, 2, 1, 15]) [] (p (sB Yl <| sN)) (by kernel_rfl) (by intro h; cases h)
theorem Z8V (Y4 : (List Nat)) (Yk : Int) : ∀ (k : Nat) (Ye : Int) (Y9 : Int) (Yf : (List Nat)) (hk : ((Yf.length : Int) - Y9).toNat < k), (ZB Y4 Yk k Ye Y9 Yf).2.length = Yf.length := by
  intro k
  induction k with
  | zero => intro Ye Y9 Yf hk; exact absurd hk (Nat.not_lt_zero _)
  | succ k ih =>
    intro Ye Y9 Yf hk
    cases Yl : (decide (Y9 < (Yf.length : Int))) with
    | true =>
      have e : ZB Y4 Yk (k + 1) Ye Y9 Yf = (ZB Y4 Yk k (IntKind.wrap .i64 (Ye + 1)) (Y9 + 1) (Yf.set Y9.toNat (ofInt .f32 Ye))) := by simp only [ZB, Yl, cond_true]
      rw [e, ih (IntKind.wrap .i64 (Ye + 1)) (Y9 + 1) (Yf.set Y9.toNat (ofInt .f32 Ye)) (by simp_all <;> omega)]; simp
    | false =>
      have e : ZB Y4 Yk (k + 1) Ye Y9 Yf = (Ye, Yf) := by simp only [ZB, Yl, cond_false]
      first | (rw [e]; done) | (rw [e]; rfl)
def Z2f (Y4 : (List Nat)) (Yk : Int) : Int × (List Nat) := (ZB Y4 Yk (((Y4.length : Int) - 0).toNat + 1) Yk 0 Y4)
@[simp] theorem ZcS (Y4 : (List Nat)) (Yk : Int) : (Z2f Y4 Yk).2.length = (Y4 : (List Nat)).length := Z8V Y4 Yk (((Y4.length : Int) - 0).toNat + 1) Yk 0 Y4 (by exact Nat.lt_succ_self _)
def ZZ (Y4 : (List Nat)) (Yk : Int) : Int × (List Nat) := ((Z2f Y4 Yk).1, (Z2f Y4 Yk).2)
@[simp] theorem Ze0 (Y4 : (List Nat)) (Yk : Int) : (ZZ Y4 Yk).2.length = Y4.length := by
  first | (simp [ZZ]; done)
theorem Zad (Y4 : (List Nat)) (Yk : Int) (hp0 : Y4.length ≤ 1073741824)  : CallSt prog 41 [.vec 27 1 (Y4.map (cF .f32)) false] [.own 0, .i .i64 Yk] (.i .i64 ((ZZ Y4 Yk).1)) [.vec 27 1 (((ZZ Y4 Yk).2).map (cF .f32)) false] := by
 refine callS (EpOk 1) Z5 (c := bodyOf f41) [.vec 27 1 (Y4.map (cF .f32)) false] [] (.i .i64 ((Z2f Y4 Yk).1)) [.vec 27 1 (((Z2f Y4 Yk).2).map (cF .f32)) false] func41 (sL (mR false [0, 2, 2, 2, 14]) 1 (lp_val (Z4w Y4 Yk) (x := (Z2f Y4 Yk)) (Z9q Y4 Yk hp0 (((Y4.length : Int) - 0).toNat + 1) Yk 0 Y4 (show 0 ≤ 0 from (by omega)) (show Y4.length = Y4.length from (by simp)) (Nat.lt_succ_self _)) rfl) <| sK [] sN) rfl (by kernel_rfl) (by kernel_rfl) ?_ ?_
 · rfl
 · simp [ZZ]
def Z5q (_ : Nat) (c : Int) : Int × Nat := ((IntKind.wrap .i64 (c + 1)), ofInt .f32 c)
theorem Za9 (a : List Nat) (c : Int) : ZZ a c = mkL Z5q a c := by
  unfold ZZ Z2f
  rw [mark_loop (f := Z5q) (lo := ZB a c) (fun k c i r => rfl) _ _ _ _ (Int.le_refl 0) (Nat.lt_succ_self _)]
  simp
theorem Z9g (a : List Nat) (c : Int) (g0 : a.length ≤ 1073741824) (h0 : 0 ≤ c) (h1 : c ≤ 4611686018427387904) : c ≤ (ZZ a c).1 ∧ (ZZ a c).1 ≤ c + 1073741824 := by
  rw [Za9]
  have q := mkL_ge (f := Z5q) (W := 1) a c (fun x _ c k0 k1 => by simp only [Z5q]; rw [wrap_id (n := c + 1) (by omega) (by omega)]; omega) h0 (by omega)
  omega
def Za (Y4 : GBody) (Yk : Int) : Int × (List GVector) × (List (List Int)) × (List GSpring) × (List Nat) := ((ZZ Y4.Weights ((Zq Y4.Springs ((Zd Y4.Mesh Yk).1)).1)).1, (Zd Y4.Mesh Yk).2.1, (Zd Y4.Mesh Yk).2.2, (Zq Y4.Springs ((Zd Y4.Mesh Yk).1)).2, (ZZ Y4.Weights ((Zq Y4.Springs ((Zd Y4.Mesh Yk).1)).1)).2)
@[simp] theorem Zcw (Y4 : GBody) (Yk : Int) : (Za Y4 Yk).2.1.length = Y4.Mesh.Places.length := by
  first | (simp [Za]; done)
@[simp] theorem Zcx (Y4 : GBody) (Yk : Int) : (Za Y4 Yk).2.2.1.length = Y4.Mesh.Triangles.length := by
  first | (simp [Za]; done)
@[simp] theorem Zcy (Y4 : GBody) (Yk : Int) : (Za Y4 Yk).2.2.2.1.length = Y4.Springs.length := by
  first | (simp [Za]; done)
@[simp] theorem Zcz (Y4 : GBody) (Yk : Int) : (Za Y4 Yk).2.2.2.2.length = Y4.Weights.length := by
  first | (simp [Za]; done)
theorem Z8q (Y4 : GBody) (Yk : Int) (hp0 : Y4.Mesh.Places.length ≤ 1073741824) (hp1 : Y4.Mesh.Triangles.length ≤ 1073741824) (hp2 : ∀ t ∈ Y4.Mesh.Triangles, t.length ≤ 1073741824) (hp3 : Y4.Springs.length ≤ 1073741824) (hp4 : Y4.Weights.length ≤ 1073741824)  : CallSt prog 17 [.vec 40 3 (Y4.Mesh.Places.map GVector.cells) false, .nest 49 (Y4.Mesh.Triangles.map fun l => l.map (cI .i64)) false, .vec 133 4 (Y4.Springs.map GSpring.cells) false, .vec 27 1 (Y4.Weights.map (cF .f32)) false] [.agg [.own 0, .own 1, .own 2, .f .f32 Y4.Film, .f .f32 Y4.Bend, .own 3, .f .f32 Y4.Fall.X, .f .f32 Y4.Fall.Y, .f .f32 Y4.Fall.Z], .i .i64 Yk] (.i .i64 ((Za Y4 Yk).1)) [.vec 40 3 (((Za Y4 Yk).2.1).map GVector.cells) false, .nest 49 (((Za Y4 Yk).2.2.1).map fun l => l.map (cI .i64)) false, .vec 133 4 (((Za Y4 Yk).2.2.2.1).map GSpring.cells) false, .vec 27 1 (((Za Y4 Yk).2.2.2.2).map (cF .f32)) false] := by
 refine callS (EpOk 4) Z5 (c := bodyOf f17) [.vec 40 3 (Y4.Mesh.Places.map GVector.cells) false, .nest 49 (Y4.Mesh.Triangles.map fun l => l.map (cI .i64)) false, .vec 133 4 (Y4.Springs.map GSpring.cells) false, .vec 27 1 (Y4.Weights.map (cF .f32)) false] [] (.i .i64 ((ZZ Y4.Weights ((Zq Y4.Springs ((Zd Y4.Mesh Yk).1)).1)).1)) [.vec 40 3 (((Zd Y4.Mesh Yk).2.1).map GVector.cells) false, .nest 49 (((Zd Y4.Mesh Yk).2.2).map fun l => l.map (cI .i64)) false, .vec 133 4 (((Zq Y4.Springs ((Zd Y4.Mesh Yk).1)).2).map GSpring.cells) false, .vec 27 1 (((ZZ Y4.Weights ((Zq Y4.Springs ((Zd Y4.Mesh Yk).1)).1)).2).map (cF .f32)) false] func17 (sS (CallSt.frame (Zaz Y4.Mesh Yk hp0 hp1 hp2) [0, 1] (R := [.vec 40 3 (Y4.Mesh.Places.map GVector.cells) false, .nest 49 (Y4.Mesh.Triangles.map fun l => l.map (cI .i64)) false, .vec 133 4 (Y4.Springs.map GSpring.cells) false, .vec 27 1 (Y4.Weights.map (cF .f32)) false, .box 42 [.own 0, .own 1, .own 2, .f .f32 Y4.Film, .f .f32 Y4.Bend, .own 3, .f .f32 Y4.Fall.X, .f .f32 Y4.Fall.Y, .f .f32 Y4.Fall.Z]]) (args' := [.agg [.own 0, .own 1], .i .i64 Yk]) rfl rfl rfl rfl rfl rfl) <| sS (CallSt.frame (ZaA Y4.Springs ((Zd Y4.Mesh Yk).1) hp3) [2] (R := [.vec 40 3 (((Zd Y4.Mesh Yk).2.1).map GVector.cells) false, .nest 49 (((Zd Y4.Mesh Yk).2.2).map fun l => l.map (cI .i64)) false, .vec 133 4 (Y4.Springs.map GSpring.cells) false, .vec 27 1 (Y4.Weights.map (cF .f32)) false, .box 42 [.own 0, .own 1, .own 2, .f .f32 Y4.Film, .f .f32 Y4.Bend, .own 3, .f .f32 Y4.Fall.X, .f .f32 Y4.Fall.Y, .f .f32 Y4.Fall.Z]]) (args' := [.own 2, .i .i64 ((Zd Y4.Mesh Yk).1)]) rfl rfl rfl rfl rfl rfl) <| sS (CallSt.frame (Zad Y4.Weights ((Zq Y4.Springs ((Zd Y4.Mesh Yk).1)).1) hp4) [3] (R := [.vec 40 3 (((Zd Y4.Mesh Yk).2.1).map GVector.cells) false, .nest 49 (((Zd Y4.Mesh Yk).2.2).map fun l => l.map (cI .i64)) false, .vec 133 4 (((Zq Y4.Springs ((Zd Y4.Mesh Yk).1)).2).map GSpring.cells) false, .vec 27 1 (Y4.Weights.map (cF .f32)) false, .box 42 [.own 0, .own 1, .own 2, .f .f32 Y4.Film, .f .f32 Y4.Bend, .own 3, .f .f32 Y4.Fall.X, .f .f32 Y4.Fall.Y, .f .f32 Y4.Fall.Z]]) (args' := [.own 3, .i .i64 ((Zq Y4.Springs ((Zd Y4.Mesh Yk).1)).1)]) rfl rfl rfl rfl rfl rfl) <| sK [] sN) rfl (by kernel_rfl) (by kernel_rfl) ?_ ?_
 · rfl
 · simp [Za]
theorem Z6v (a : GBody) (c : Int) (g0 : a.Mesh.Places.length ≤ 1073741824) (g1 : a.Mesh.Triangles.length ≤ 1073741824) (g2 : ∀ t ∈ a.Mesh.Triangles, t.length ≤ 1073741824) (g3 : a.Springs.length ≤ 1073741824) (g4 : a.Weights.length ≤ 1073741824) (h0 : 0 ≤ c) (h1 : c ≤ 2305843009213693952) : c ≤ (Za a c).1 ∧ (Za a c).1 ≤ c + 1152921513196781568 := by
  unfold Za
  have p0 := Z9e a.Mesh c g0 g1 g2 (by omega) (by omega)
  have p1 := Z9E a.Springs ((Zd a.Mesh c).1) g3 (by omega) (by omega)
  have p2 := Z9g a.Weights ((Zq a.Springs ((Zd a.Mesh c).1)).1) g4 (by omega) (by omega)
  simp only
  omega
theorem Zae (a : GBody) (c : Int) (N : Nat) (h : ∀ t ∈ a.Mesh.Triangles, t.length ≤ N) : ∀ t ∈ (Za a c).2.2.1, t.length ≤ N := by
  unfold Za
  exact Zdr _ _ N h
def Z3 (Y4 : GMotion) (Yk : Int) : Int × (List GVector) × (List (List Int)) × (List GSpring) × (List Nat) × (List GVector) := ((Zk Y4.Speeds ((Za Y4.Body Yk).1)).1, (Za Y4.Body Yk).2.1, (Za Y4.Body Yk).2.2.1, (Za Y4.Body Yk).2.2.2.1, (Za Y4.Body Yk).2.2.2.2, (Zk Y4.Speeds ((Za Y4.Body Yk).1)).2)
@[simp] theorem ZbU (Y4 : GMotion) (Yk : Int) : (Z3 Y4 Yk).2.1.length = Y4.Body.Mesh.Places.length := by
  first | (simp [Z3]; done)
@[simp] theorem ZbV (Y4 : GMotion) (Yk : Int) : (Z3 Y4 Yk).2.2.1.length = Y4.Body.Mesh.Triangles.length := by
  first | (simp [Z3]; done)
@[simp] theorem ZbW (Y4 : GMotion) (Yk : Int) : (Z3 Y4 Yk).2.2.2.1.length = Y4.Body.Springs.length := by
  first | (simp [Z3]; done)
@[simp] theorem ZbX (Y4 : GMotion) (Yk : Int) : (Z3 Y4 Yk).2.2.2.2.1.length = Y4.Body.Weights.length := by
  first | (simp [Z3]; done)
@[simp] theorem ZbY (Y4 : GMotion) (Yk : Int) : (Z3 Y4 Yk).2.2.2.2.2.length = Y4.Speeds.length := by
  first | (simp [Z3]; done)
theorem Z4T (Y4 : GMotion) (Yk : Int) (hp0 : Y4.Body.Mesh.Places.length ≤ 1073741824) (hp1 : Y4.Body.Mesh.Triangles.length ≤ 1073741824) (hp2 : ∀ t ∈ Y4.Body.Mesh.Triangles, t.length ≤ 1073741824) (hp3 : Y4.Body.Springs.length ≤ 1073741824) (hp4 : Y4.Body.Weights.length ≤ 1073741824) (hp5 : Y4.Speeds.length ≤ 1073741824)  : CallSt prog 36 [.vec 40 3 (Y4.Body.Mesh.Places.map GVector.cells) false, .nest 49 (Y4.Body.Mesh.Triangles.map fun l => l.map (cI .i64)) false, .vec 133 4 (Y4.Body.Springs.map GSpring.cells) false, .vec 27 1 (Y4.Body.Weights.map (cF .f32)) false, .vec 40 3 (Y4.Speeds.map GVector.cells) false] [.agg [.own 0, .own 1, .own 2, .f .f32 Y4.Body.Film, .f .f32 Y4.Body.Bend, .own 3, .f .f32 Y4.Body.Fall.X, .f .f32 Y4.Body.Fall.Y, .f .f32 Y4.Body.Fall.Z, .own 4], .i .i64 Yk] (.i .i64 ((Z3 Y4 Yk).1)) [.vec 40 3 (((Z3 Y4 Yk).2.1).map GVector.cells) false, .nest 49 (((Z3 Y4 Yk).2.2.1).map fun l => l.map (cI .i64)) false, .vec 133 4 (((Z3 Y4 Yk).2.2.2.1).map GSpring.cells) false, .vec 27 1 (((Z3 Y4 Yk).2.2.2.2.1).map (cF .f32)) false, .vec 40 3 (((Z3 Y4 Yk).2.2.2.2.2).map GVector.cells) false] := by
 refine callS (EpOk 5) Z5 (c := bodyOf f36) [.vec 40 3 (Y4.Body.Mesh.Places.map GVector.cells) false, .nest 49 (Y4.Body.Mesh.Triangles.map fun l => l.map (cI .i64)) false, .vec 133 4 (Y4.Body.Springs.map GSpring.cells) false, .vec 27 1 (Y4.Body.Weights.map (cF .f32)) false, .vec 40 3 (Y4.Speeds.map GVector.cells) false] [] (.i .i64 ((Zk Y4.Speeds ((Za Y4.Body Yk).1)).1)) [.vec 40 3 (((Za Y4.Body Yk).2.1).map GVector.cells) false, .nest 49 (((Za Y4.Body Yk).2.2.1).map fun l => l.map (cI .i64)) false, .vec 133 4 (((Za Y4.Body Yk).2.2.2.1).map GSpring.cells) false, .vec 27 1 (((Za Y4.Body Yk).2.2.2.2).map (cF .f32)) false, .vec 40 3 (((Zk Y4.Speeds ((Za Y4.Body Yk).1)).2).map GVector.cells) false] func36 (sS (CallSt.frame (Z8q Y4.Body Yk hp0 hp1 hp2 hp3 hp4) [0, 1, 2, 3] (R := [.vec 40 3 (Y4.Body.Mesh.Places.map GVector.cells) false, .nest 49 (Y4.Body.Mesh.Triangles.map fun l => l.map (cI .i64)) false, .vec 133 4 (Y4.Body.Springs.map GSpring.cells) false, .vec 27 1 (Y4.Body.Weights.map (cF .f32)) false, .vec 40 3 (Y4.Speeds.map GVector.cells) false, .box 66 [.own 0, .own 1, .own 2, .f .f32 Y4.Body.Film, .f .f32 Y4.Body.Bend, .own 3, .f .f32 Y4.Body.Fall.X, .f .f32 Y4.Body.Fall.Y, .f .f32 Y4.Body.Fall.Z, .own 4]]) (args' := [.agg [.own 0, .own 1, .own 2, .f .f32 Y4.Body.Film, .f .f32 Y4.Body.Bend, .own 3, .f .f32 Y4.Body.Fall.X, .f .f32 Y4.Body.Fall.Y, .f .f32 Y4.Body.Fall.Z], .i .i64 Yk]) rfl rfl rfl rfl rfl rfl) <| sS (CallSt.frame (Z7c Y4.Speeds ((Za Y4.Body Yk).1) hp5) [4] (R := [.vec 40 3 (((Za Y4.Body Yk).2.1).map GVector.cells) false, .nest 49 (((Za Y4.Body Yk).2.2.1).map fun l => l.map (cI .i64)) false, .vec 133 4 (((Za Y4.Body Yk).2.2.2.1).map GSpring.cells) false, .vec 27 1 (((Za Y4.Body Yk).2.2.2.2).map (cF .f32)) false, .vec 40 3 (Y4.Speeds.map GVector.cells) false, .box 66 [.own 0, .own 1, .own 2, .f .f32 Y4.Body.Film, .f .f32 Y4.Body.Bend, .own 3, .f .f32 Y4.Body.Fall.X, .f .f32 Y4.Body.Fall.Y, .f .f32 Y4.Body.Fall.Z, .own 4]]) (args' := [.own 4, .i .i64 ((Za Y4.Body Yk).1)]) rfl rfl rfl rfl rfl rfl) <| sK [] sN) rfl (by kernel_rfl) (by kernel_rfl) ?_ ?_
 · rfl
 · simp [Z3]
theorem Z5r (a : GMotion) (c : Int) (g0 : a.Body.Mesh.Places.length ≤ 1073741824) (g1 : a.Body.Mesh.Triangles.length ≤ 1073741824) (g2 : ∀ t ∈ a.Body.Mesh.Triangles, t.length ≤ 1073741824) (g3 : a.Body.Springs.length ≤ 1073741824) (g4 : a.Body.Weights.length ≤ 1073741824) (g5 : a.Speeds.length ≤ 1073741824) (h0 : 0 ≤ c) (h1 : c ≤ 2305843009213693952) : c ≤ (Z3 a c).1 ∧ (Z3 a c).1 ≤ c + 1152921516418007040 := by
  unfold Z3
  have p0 := Z6v a.Body c g0 g1 g2 g3 g4 (by omega) (by omega)
  have p1 := Z5i a.Speeds ((Za a.Body c).1) g5 (by omega) (by omega)
  simp only
  omega
theorem Z9r (a : GMotion) (c : Int) (N : Nat) (h : ∀ t ∈ a.Body.Mesh.Triangles, t.length ≤ N) : ∀ t ∈ (Z3 a c).2.2.1, t.length ≤ N := by
  unfold Z3
  exact Zae _ _ N h
def Z1O (Y4 : (List Int)) (Yk : Int) : Nat → Int → Int → (List Int) → Int × (List Int)
  | 0, _, _, _ => default
  | k + 1, Ye, Y9, Yf => (cond (decide (Y9 < (Yf.length : Int)))
    (Z1O Y4 Yk k (IntKind.wrap .i64 (Ye + 1)) (Y9 + 1) (Yf.set Y9.toNat Ye))
    (Ye, Yf))
def Z4U (Y4 : (List Int)) (Yk : Int) (r : Int × (List Int)) : Ex × St := ((.exit 0), ⟨.any :: .i .i64 r.1 :: .any :: .any :: .i .i64 0 :: an 14 [], [.vec 2 1 (r.2.map (cI .i64)) false]⟩)
def Z6P (Y4 : (List Int)) (Yk : Int) (Ye : Int) (Y9 : Int) (Yf : (List Int)) : St := ⟨.own 0 :: .i .i64 Ye :: .any :: .any :: .i .i64 0 :: .i .i64 Y9 :: an 13 [], [.vec 2 1 (Yf.map (cI .i64)) false]⟩
theorem Zaa (Y4 : (List Int)) (Yk : Int) (hp0 : Y4.length ≤ 1073741824) : ∀ (k : Nat) (Ye : Int) (Y9 : Int) (Yf : (List Int)) (Z5Z : 0 ≤ Y9) (Z60 : Yf.length = Y4.length) (hk : ((Y4.length : Int) - Y9).toNat < k), Lp prog 1 (sub (bodyOf f27) [1, 0, 1, 0, 0]) (Z6P Y4 Yk Ye Y9 Yf) (Z4U Y4 Yk (Z1O Y4 Yk k Ye Y9 Yf)).1 (Z4U Y4 Yk (Z1O Y4 Yk k Ye Y9 Yf)).2 := by
 intro k
 induction k with
 | zero => intro Ye Y9 Yf Z5Z Z60 hk; exact absurd hk (Nat.not_lt_zero _)
 | succ k ih =>
  intro Ye Y9 Yf Z5Z Z60 hk
  have p {a C} (s : Scr a C) := sZ (cI .i64) Yf <| s
  cases Yl : (decide (Y9 < (Yf.length : Int))) with
  | true =>
   have Yw := of_decide_eq_true Yl
   have YF : (0 : Int) ≤ Y9 := by clear p; exact (by assumption)
   have YG : Y9 < (Yf.length : Int) := by clear p; exact (by assumption)
   have YH : Y9.toNat < Yf.length := by clear p; exact (by omega)
   have YI : (-9223372036854775808 : Int) ≤ (Y9 + 1) := by clear p; exact (by omega)
   have YP : (Y9 + 1) ≤ (9223372036854775807 : Int) := by clear p; exact (by omega)
   have e : Z1O Y4 Yk (k + 1) Ye Y9 Yf = (Z1O Y4 Yk k (IntKind.wrap .i64 (Ye + 1)) (Y9 + 1) (Yf.set Y9.toNat Ye)) := by simp only [Z1O, Yl, cond_true]
   rw [e]
   exact nextS (EpOk 1) Z5 [] (mR false [0, 2, 2, 2, 13]) [] (⟨.own 0 :: .i .i64 (IntKind.wrap .i64 (Ye + 1)) :: .any :: .any :: .i .i64 0 :: .i .i64 (Y9 + 1) :: an 13 [], [.vec 2 1 ((Yf.map (cI .i64)).set Y9.toNat [.i .i64 Ye]) false]⟩) (p (sB Yl <| sX (cI .i64) Yf Y9 YF YG <| sC (maplt (c := (cI .i64)) (l := Yf) YH) <| sW .i64 (Ye + 1) <| sI (Y9 + 1) YI YP <| sN)) (by kernel_rfl) (by simp [Z6P, List.map_set, cI]) (ih (IntKind.wrap .i64 (Ye + 1)) (Y9 + 1) (Yf.set Y9.toNat Ye) (show 0 ≤ (Y9 + 1) from (by omega)) (show (Yf.set Y9.toNat Ye).length = Y4.length from (by simp_all <;> omega)) (by omega))
  | false =>
   have Yw := of_decide_eq_false Yl
   have e : Z1O Y4 Yk (k + 1) Ye Y9 Yf = (Ye, Yf) := by simp only [Z1O, Yl, cond_false]
   rw [e]
   exact outR (e := (.exit 0)) (EpOk 1) Z5 [] (mR false [1, 1, 2, 1, 14]) [] (p (sB Yl <| sN)) (by kernel_rfl) (by intro h; cases h)
def Z2Z (Y4 : (List Int)) (Yk : Int) : Int × (List Int) := (Z1O Y4 Yk (((Y4.length : Int) - 0).toNat + 1) Yk 0 Y4)
def Z29 (Y4 : (List Int)) (Yk : Int) : Int × (List Int) := ((Z2Z Y4 Yk).1, (Z2Z Y4 Yk).2)
theorem ZaZ (Y4 : (List Int)) (Yk : Int) (hp0 : Y4.length ≤ 1073741824)  : CallSt prog 27 [.vec 2 1 (Y4.map (cI .i64)) false] [.own 0, .i .i64 Yk] (.i .i64 ((Z29 Y4 Yk).1)) [.vec 2 1 (((Z29 Y4 Yk).2).map (cI .i64)) false] := by
 refine callS (EpOk 1) Z5 (c := bodyOf f27) [.vec 2 1 (Y4.map (cI .i64)) false] [] (.i .i64 ((Z2Z Y4 Yk).1)) [.vec 2 1 (((Z2Z Y4 Yk).2).map (cI .i64)) false] func27 (sL (mR false [0, 2, 2, 2, 13]) 1 (lp_val (Z4U Y4 Yk) (x := (Z2Z Y4 Yk)) (Zaa Y4 Yk hp0 (((Y4.length : Int) - 0).toNat + 1) Yk 0 Y4 (show 0 ≤ 0 from (by omega)) (show Y4.length = Y4.length from (by simp)) (Nat.lt_succ_self _)) rfl) <| sK [] sN) rfl (by kernel_rfl) (by kernel_rfl) ?_ ?_
 · rfl
 · simp [Z29]
def Z8n (_ : Int) (c : Int) : Int × Int := ((IntKind.wrap .i64 (c + 1)), c)
theorem Zem (a : List Int) (c : Int) : Z29 a c = mkL Z8n a c := by
  unfold Z29 Z2Z
  rw [mark_loop (f := Z8n) (lo := Z1O a c) (fun k c i r => rfl) _ _ _ _ (Int.le_refl 0) (Nat.lt_succ_self _)]
  simp
theorem Zds (a : List Int) (c : Int) (g0 : a.length ≤ 1073741824) (h0 : 0 ≤ c) (h1 : c ≤ 4611686018427387904) : c ≤ (Z29 a c).1 ∧ (Z29 a c).1 ≤ c + 1073741824 := by
  rw [Zem]
  have q := mkL_ge (f := Z8n) (W := 1) a c (fun x _ c k0 k1 => by simp only [Z8n]; rw [wrap_id (n := c + 1) (by omega) (by omega)]; omega) h0 (by omega)
  omega
def ZS (Y4 : (List GVector)) (Yk : Int) : Nat → Int → Int → (Unit) ⊕ (Int)
  | 0, _, _ => .inl default
  | k + 1, Ye, Y9 => (cond (decide (Y9 < (Y4.length : Int)))
    (cond (fcmp .neq .f32 ((Y4.getD Y9.toNat default).X) (ofInt .f32 Ye))
      (.inl ())
      (cond (fcmp .neq .f32 ((Y4.getD Y9.toNat default).Y) (ofInt .f32 (IntKind.wrap .i64 (Ye + 1))))
        (.inl ())
        (cond (fcmp .neq .f32 ((Y4.getD Y9.toNat default).Z) (ofInt .f32 (IntKind.wrap .i64 ((IntKind.wrap .i64 (Ye + 1)) + 1))))
          (.inl ())
          (ZS Y4 Yk k (IntKind.wrap .i64 ((IntKind.wrap .i64 ((IntKind.wrap .i64 (Ye + 1)) + 1)) + 1)) (Y9 + 1)))))
    (.inr Ye))
def Z4r (Y4 : (List GVector)) (Yk : Int) : (Unit) ⊕ (Int) → Ex × St
  | .inl r => (.ret, ⟨an 4 (.i .i64 (-1) :: an 38 []), []⟩)
  | .inr r => ((.exit 0), ⟨.any :: .i .i64 r :: an 41 [], []⟩)
def Zb0 (Y4 : (List GVector)) (Yk : Int) (Ye : Int) (Y9 : Int) : St := ⟨.sl (Y4.map GVector.cells) :: .i .i64 Ye :: .any :: .any :: .any :: .i .i64 Y9 :: an 37 [], []⟩
theorem Z7O (Y4 : (List GVector)) (Yk : Int) (hp0 : Y4.length ≤ 1073741824) : ∀ (k : Nat) (Ye : Int) (Y9 : Int) (Z6U : 0 ≤ Y9) (hk : ((Y4.length : Int) - Y9).toNat < k), Lp prog 0 (sub (bodyOf f19) [1, 0, 1, 0, 0]) (Zb0 Y4 Yk Ye Y9) (Z4r Y4 Yk (ZS Y4 Yk k Ye Y9)).1 (Z4r Y4 Yk (ZS Y4 Yk k Ye Y9)).2 := by
 intro k
 induction k with
 | zero => intro Ye Y9 Z6U hk; exact absurd hk (Nat.not_lt_zero _)
 | succ k ih =>
  intro Ye Y9 Z6U hk
  have p {a C} (s : Scr a C) := sZ GVector.cells Y4 <| s
  cases Yl : (decide (Y9 < (Y4.length : Int))) with
  | true =>
   have Yw := of_decide_eq_true Yl
   have YF : (0 : Int) ≤ Y9 := by clear p; exact (by assumption)
   have YG : Y9 < (Y4.length : Int) := by clear p; exact (by assumption)
   have q {a C} (s : Scr a C) := p (sB Yl <| sG GVector.cells Y4 Y9 YF YG <| s)
   clear p
   cases Yr : (fcmp .neq .f32 ((Y4.getD Y9.toNat default).X) (ofInt .f32 Ye)) with
   | true =>
    have e : ZS Y4 Yk (k + 1) Ye Y9 = (.inl ()) := by simp only [ZS, Yl, Yr, cond_true]
    rw [e]
    exact outR (e := .ret) E0Ok Z5 [] (mR false [4, 1, 38]) [] (q (sB Yr <| sN)) (by kernel_rfl) (by intro h; cases h)
   | false =>
    have p {a C} (s : Scr a C) := q (sB Yr <| sW .i64 (Ye + 1) <| sG GVector.cells Y4 Y9 YF YG <| s)
    clear q
    cases YL : (fcmp .neq .f32 ((Y4.getD Y9.toNat default).Y) (ofInt .f32 (IntKind.wrap .i64 (Ye + 1)))) with
    | true =>
     have e : ZS Y4 Yk (k + 1) Ye Y9 = (.inl ()) := by simp only [ZS, Yl, Yr, YL, cond_true, cond_false]
     rw [e]
     exact outR (e := .ret) E0Ok Z5 [] (mR false [4, 1, 38]) [] (p (sB YL <| sN)) (by kernel_rfl) (by intro h; cases h)
    | false =>
     have q {a C} (s : Scr a C) := p (sB YL <| sW .i64 ((IntKind.wrap .i64 (Ye + 1)) + 1) <| sG GVector.cells Y4 Y9 YF YG <| s)
     clear p
     cases YX : (fcmp .neq .f32 ((Y4.getD Y9.toNat default).Z) (ofInt .f32 (IntKind.wrap .i64 ((IntKind.wrap .i64 (Ye + 1)) + 1)))) with
     | true =>
      have e : ZS Y4 Yk (k + 1) Ye Y9 = (.inl ()) := by simp only [ZS, Yl, Yr, YL, YX, cond_true, cond_false]
      rw [e]
      exact outR (e := .ret) E0Ok Z5 [] (mR false [4, 1, 38]) [] (q (sB YX <| sN)) (by kernel_rfl) (by intro h; cases h)
     | false =>
      have YH : (-9223372036854775808 : Int) ≤ (Y9 + 1) := by clear q; exact (by omega)
      have YI : (Y9 + 1) ≤ (9223372036854775807 : Int) := by clear q; exact (by omega)
      have e : ZS Y4 Yk (k + 1) Ye Y9 = (ZS Y4 Yk k (IntKind.wrap .i64 ((IntKind.wrap .i64 ((IntKind.wrap .i64 (Ye + 1)) + 1)) + 1)) (Y9 + 1)) := by simp only [ZS, Yl, Yr, YL, YX, cond_true, cond_false]
      rw [e]
      exact nextR E0Ok Z5 [] (mR false [0, 2, 3, 1, 37]) [] (ih (IntKind.wrap .i64 ((IntKind.wrap .i64 ((IntKind.wrap .i64 (Ye + 1)) + 1)) + 1)) (Y9 + 1) (show 0 ≤ (Y9 + 1) from (by omega)) (by omega)) (q (sB YX <| sW .i64 ((IntKind.wrap .i64 ((IntKind.wrap .i64 (Ye + 1)) + 1)) + 1) <| sI (Y9 + 1) YH YI <| sN)) (by kernel_rfl)
  | false =>
   have Yw := of_decide_eq_false Yl
   have e : ZS Y4 Yk (k + 1) Ye Y9 = (.inr Ye) := by simp only [ZS, Yl, cond_false]
   rw [e]
   exact outR (e := (.exit 0)) E0Ok Z5 [] (mR false [1, 1, 41]) [] (p (sB Yl <| sN)) (by kernel_rfl) (by intro h; cases h)
def Z3K (Y4 : (List GVector)) (Yk : Int) : (Unit) ⊕ (Int) := (ZS Y4 Yk (((Y4.length : Int) - 0).toNat + 1) Yk 0)
def Z1h (Y4 : (List GVector)) (Yk : Int) : Int := (match (Z3K Y4 Yk) with
  | .inl r1 => (-1)
  | .inr r1 => r1)
theorem Z9h (Y4 : (List GVector)) (Yk : Int) (hp0 : Y4.length ≤ 1073741824)  : Fn prog 19 [.sl (Y4.map GVector.cells), .i .i64 Yk] (.i .i64 (Z1h Y4 Yk)) [] := by
 cases h0 : (Z3K Y4 Yk) with
 | inl r1 =>
  refine fnS E0Ok Z5 (c := bodyOf f19) [] (.i .i64 (-1)) [] func19 (sL (mR false [0, 2, 3, 1, 37]) 0 (lp_val (Z4r Y4 Yk) (x := (Z3K Y4 Yk)) (Z7O Y4 Yk hp0 (((Y4.length : Int) - 0).toNat + 1) Yk 0 (show 0 ≤ 0 from (by omega)) (Nat.lt_succ_self _)) h0) <| sK [] sN) rfl (by kernel_rfl) (by kernel_rfl) rfl ?_ ?_
  · simp only [Z1h, h0]
  · rfl
 | inr r1 =>
  refine fnS E0Ok Z5 (c := bodyOf f19) [] (.i .i64 r1) [] func19 (sL (mR false [0, 2, 3, 1, 37]) 0 (lp_val (Z4r Y4 Yk) (x := (Z3K Y4 Yk)) (Z7O Y4 Yk hp0 (((Y4.length : Int) - 0).toNat + 1) Yk 0 (show 0 ≤ 0 from (by omega)) (Nat.lt_succ_self _)) h0) <| sK [] sN) rfl (by kernel_rfl) (by kernel_rfl) rfl ?_ ?_
  · simp only [Z1h, h0]
  · rfl
def Z9i (x : GVector) (c : Int) : Bool := (!(fcmp .neq .f32 x.X (ofInt .f32 c))) && (!(fcmp .neq .f32 x.Y (ofInt .f32 (IntKind.wrap .i64 (c + 1))))) && (!(fcmp .neq .f32 x.Z (ofInt .f32 (IntKind.wrap .i64 ((IntKind.wrap .i64 (c + 1)) + 1)))))
def Zaq (_ : GVector) (c : Int) : Int := (IntKind.wrap .i64 ((IntKind.wrap .i64 ((IntKind.wrap .i64 (c + 1)) + 1)) + 1))
theorem Zfw (a : List GVector) (c : Int) : Z1h a c = match hdL Z9i Zaq a c with
    | some c' => c'
    | none => -1 := by
  unfold Z1h Z3K
  rw [held_loop (p := Z9i) (q := Zaq) (a := a) (x := ()) (lo := ZS a c) (fun k c i => by
    rw [ZS]
    unfold Z9i Zaq
    generalize a.getD i.toNat default = x
    cases decide (i < (a.length : Int)) <;> cases fcmp .neq .f32 x.X (ofInt .f32 c) <;> cases fcmp .neq .f32 x.Y (ofInt .f32 (IntKind.wrap .i64 (c + 1))) <;> cases fcmp .neq .f32 x.Z (ofInt .f32 (IntKind.wrap .i64 ((IntKind.wrap .i64 (c + 1)) + 1))) <;> rfl) _ _ _ (Int.le_refl 0) (Nat.lt_succ_self _)]
  simp only [Int.toNat_zero, List.drop_zero]
  cases hdL Z9i Zaq a c <;> rfl
def Z1F (Y4 : (List Int)) (Yk : Int) : Nat → Int → Int → (Unit) ⊕ (Int)
  | 0, _, _ => .inl default
  | k + 1, Ye, Y9 => (cond (decide (Y9 < (Y4.length : Int)))
    (cond ((Y4.getD Y9.toNat default) != Ye)
      (.inl ())
      (Z1F Y4 Yk k (IntKind.wrap .i64 (Ye + 1)) (Y9 + 1)))
    (.inr Ye))
def Z4P (Y4 : (List Int)) (Yk : Int) : (Unit) ⊕ (Int) → Ex × St
  | .inl r => (.ret, ⟨an 4 (.i .i64 (-1) :: an 16 []), []⟩)
  | .inr r => ((.exit 0), ⟨.any :: .i .i64 r :: an 19 [], []⟩)
def Zbq (Y4 : (List Int)) (Yk : Int) (Ye : Int) (Y9 : Int) : St := ⟨.sl (Y4.map (cI .i64)) :: .i .i64 Ye :: .any :: .any :: .any :: .i .i64 Y9 :: an 15 [], []⟩
theorem Z8o (Y4 : (List Int)) (Yk : Int) (hp0 : Y4.length ≤ 1073741824) : ∀ (k : Nat) (Ye : Int) (Y9 : Int) (Z7d : 0 ≤ Y9) (hk : ((Y4.length : Int) - Y9).toNat < k), Lp prog 0 (sub (bodyOf f143) [1, 0, 1, 0, 0]) (Zbq Y4 Yk Ye Y9) (Z4P Y4 Yk (Z1F Y4 Yk k Ye Y9)).1 (Z4P Y4 Yk (Z1F Y4 Yk k Ye Y9)).2 := by
 intro k
 induction k with
 | zero => intro Ye Y9 Z7d hk; exact absurd hk (Nat.not_lt_zero _)
 | succ k ih =>
  intro Ye Y9 Z7d hk
  have p {a C} (s : Scr a C) := sZ (cI .i64) Y4 <| s
  cases Yl : (decide (Y9 < (Y4.length : Int))) with
  | true =>
   have Yw := of_decide_eq_true Yl
   have YF : (0 : Int) ≤ Y9 := by clear p; exact (by assumption)
   have YG : Y9 < (Y4.length : Int) := by clear p; exact (by assumption)
   have q {a C} (s : Scr a C) := p (sB Yl <| sG (cI .i64) Y4 Y9 YF YG <| s)
   clear p
   cases Yr : ((Y4.getD Y9.toNat default) != Ye) with
   | true =>
    have Y10 := bne_iff_ne.1 Yr
    have e : Z1F Y4 Yk (k + 1) Ye Y9 = (.inl ()) := by simp only [Z1F, Yl, Yr, cond_true]
    rw [e]
    exact outR (e := .ret) E0Ok Z5 [] (mR false [4, 1, 16]) [] (q (sB Yr <| sN)) (by kernel_rfl) (by intro h; cases h)
   | false =>
    have Y10 := bne_eq_false_iff_eq.1 Yr
    have YH : (-9223372036854775808 : Int) ≤ (Y9 + 1) := by clear q; exact (by omega)
    have YI : (Y9 + 1) ≤ (9223372036854775807 : Int) := by clear q; exact (by omega)
    have e : Z1F Y4 Yk (k + 1) Ye Y9 = (Z1F Y4 Yk k (IntKind.wrap .i64 (Ye + 1)) (Y9 + 1)) := by simp only [Z1F, Yl, Yr, cond_true, cond_false]
    rw [e]
    exact nextR E0Ok Z5 [] (mR false [0, 2, 3, 1, 15]) [] (ih (IntKind.wrap .i64 (Ye + 1)) (Y9 + 1) (show 0 ≤ (Y9 + 1) from (by omega)) (by omega)) (q (sB Yr <| sW .i64 (Ye + 1) <| sI (Y9 + 1) YH YI <| sN)) (by kernel_rfl)
  | false =>
   have Yw := of_decide_eq_false Yl
   have e : Z1F Y4 Yk (k + 1) Ye Y9 = (.inr Ye) := by simp only [Z1F, Yl, cond_false]
   rw [e]
   exact outR (e := (.exit 0)) E0Ok Z5 [] (mR false [1, 1, 19]) [] (p (sB Yl <| sN)) (by kernel_rfl) (by intro h; cases h)
def Z3R (Y4 : (List Int)) (Yk : Int) : (Unit) ⊕ (Int) := (Z1F Y4 Yk (((Y4.length : Int) - 0).toNat + 1) Yk 0)
def Z1k (Y4 : (List Int)) (Yk : Int) : Int := (match (Z3R Y4 Yk) with
  | .inl r1 => (-1)
  | .inr r1 => r1)
theorem ZcT (Y4 : (List Int)) (Yk : Int) (hp0 : Y4.length ≤ 1073741824)  : Fn prog 143 [.sl (Y4.map (cI .i64)), .i .i64 Yk] (.i .i64 (Z1k Y4 Yk)) [] := by
 cases h0 : (Z3R Y4 Yk) with
 | inl r1 =>
  refine fnS E0Ok Z5 (c := bodyOf f143) [] (.i .i64 (-1)) [] func143 (sL (mR false [0, 2, 3, 1, 15]) 0 (lp_val (Z4P Y4 Yk) (x := (Z3R Y4 Yk)) (Z8o Y4 Yk hp0 (((Y4.length : Int) - 0).toNat + 1) Yk 0 (show 0 ≤ 0 from (by omega)) (Nat.lt_succ_self _)) h0) <| sK [] sN) rfl (by kernel_rfl) (by kernel_rfl) rfl ?_ ?_
  · simp only [Z1k, h0]
  · rfl
 | inr r1 =>
  refine fnS E0Ok Z5 (c := bodyOf f143) [] (.i .i64 r1) [] func143 (sL (mR false [0, 2, 3, 1, 15]) 0 (lp_val (Z4P Y4 Yk) (x := (Z3R Y4 Yk)) (Z8o Y4 Yk hp0 (((Y4.length : Int) - 0).toNat + 1) Yk 0 (show 0 ≤ 0 from (by omega)) (Nat.lt_succ_self _)) h0) <| sK [] sN) rfl (by kernel_rfl) (by kernel_rfl) rfl ?_ ?_
  · simp only [Z1k, h0]
  · rfl
def Zab (x : Int) (c : Int) : Bool := (!(x != c))
def Zbr (_ : Int) (c : Int) : Int := (IntKind.wrap .i64 (c + 1))
theorem ZfW (a : List Int) (c : Int) : Z1k a c = match hdL Zab Zbr a c with
    | some c' => c'
    | none => -1 := by
  unfold Z1k Z3R
  rw [held_loop (p := Zab) (q := Zbr) (a := a) (x := ()) (lo := Z1F a c) (fun k c i => by
    rw [Z1F]
    unfold Zab Zbr
    generalize a.getD i.toNat default = x
    cases decide (i < (a.length : Int)) <;> cases (x != c) <;> rfl) _ _ _ (Int.le_refl 0) (Nat.lt_succ_self _)]
  simp only [Int.toNat_zero, List.drop_zero]
  cases hdL Zab Zbr a c <;> rfl
def Z1x (Y4 : (List (List Int))) (Yk : Int) : Nat → Int → Int → (Unit) ⊕ (Int)
  | 0, _, _ => .inl default
  | k + 1, Ye, Y9 => (cond (decide (Y9 < (Y4.length : Int)))
    (cond (decide ((Z1k (Y4.getD Y9.toNat default) Ye) < 0))
      (.inl ())
      (Z1x Y4 Yk k (Z1k (Y4.getD Y9.toNat default) Ye) (Y9 + 1)))
    (.inr Ye))
def Z4s (Y4 : (List (List Int))) (Yk : Int) : (Unit) ⊕ (Int) → Ex × St
  | .inl r => (.ret, ⟨an 4 (.i .i64 (-1) :: an 16 []), []⟩)
  | .inr r => ((.exit 0), ⟨.any :: .i .i64 r :: an 19 [], []⟩)
def Zb1 (Y4 : (List (List Int))) (Yk : Int) (Ye : Int) (Y9 : Int) : St := ⟨.sl (Y4.map (cL (cI .i64))) :: .i .i64 Ye :: .any :: .any :: .any :: .i .i64 Y9 :: an 15 [], []⟩
theorem Z7P (Y4 : (List (List Int))) (Yk : Int) (hp0 : Y4.length ≤ 1073741824) (hp1 : ∀ t ∈ Y4, t.length ≤ 1073741824) : ∀ (k : Nat) (Ye : Int) (Y9 : Int) (Z6V : 0 ≤ Y9) (hk : ((Y4.length : Int) - Y9).toNat < k), Lp prog 0 (sub (bodyOf f125) [1, 0, 1, 0, 0]) (Zb1 Y4 Yk Ye Y9) (Z4s Y4 Yk (Z1x Y4 Yk k Ye Y9)).1 (Z4s Y4 Yk (Z1x Y4 Yk k Ye Y9)).2 := by
 intro k
 induction k with
 | zero => intro Ye Y9 Z6V hk; exact absurd hk (Nat.not_lt_zero _)
 | succ k ih =>
  intro Ye Y9 Z6V hk
  have p {a C} (s : Scr a C) := sZ (cL (cI .i64)) Y4 <| s
  cases Yl : (decide (Y9 < (Y4.length : Int))) with
  | true =>
   have Yw := of_decide_eq_true Yl
   have YF : (0 : Int) ≤ Y9 := by clear p; exact (by assumption)
   have YG : Y9 < (Y4.length : Int) := by clear p; exact (by assumption)
   have YH : (Y4.getD Y9.toNat default).length ≤ 1073741824 := by clear p; exact (by simp_all <;> omega)
   have q {a C} (s : Scr a C) := p (sB Yl <| sG (cL (cI .i64)) Y4 Y9 YF YG <| sF (ZcT (Y4.getD Y9.toNat default) Ye YH) <| s)
   clear p
   cases Yr : (decide ((Z1k (Y4.getD Y9.toNat default) Ye) < 0)) with
   | true =>
    have Y10 := of_decide_eq_true Yr
    have e : Z1x Y4 Yk (k + 1) Ye Y9 = (.inl ()) := by simp only [Z1x, Yl, Yr, cond_true]
    rw [e]
    exact outR (e := .ret) E0Ok Z5 [] (mR false [4, 1, 16]) [] (q (sB Yr <| sN)) (by kernel_rfl) (by intro h; cases h)
   | false =>
    have Y10 := of_decide_eq_false Yr
    have YI : (-9223372036854775808 : Int) ≤ (Y9 + 1) := by clear q; exact (by omega)
    have YP : (Y9 + 1) ≤ (9223372036854775807 : Int) := by clear q; exact (by omega)
    have e : Z1x Y4 Yk (k + 1) Ye Y9 = (Z1x Y4 Yk k (Z1k (Y4.getD Y9.toNat default) Ye) (Y9 + 1)) := by simp only [Z1x, Yl, Yr, cond_true, cond_false]
    rw [e]
    exact nextR E0Ok Z5 [] (mR false [0, 2, 3, 1, 15]) [] (ih (Z1k (Y4.getD Y9.toNat default) Ye) (Y9 + 1) (show 0 ≤ (Y9 + 1) from (by omega)) (by omega)) (q (sB Yr <| sI (Y9 + 1) YI YP <| sN)) (by kernel_rfl)
  | false =>
   have Yw := of_decide_eq_false Yl
   have e : Z1x Y4 Yk (k + 1) Ye Y9 = (.inr Ye) := by simp only [Z1x, Yl, cond_false]
   rw [e]
   exact outR (e := (.exit 0)) E0Ok Z5 [] (mR false [1, 1, 19]) [] (p (sB Yl <| sN)) (by kernel_rfl) (by intro h; cases h)
def Z3L (Y4 : (List (List Int))) (Yk : Int) : (Unit) ⊕ (Int) := (Z1x Y4 Yk (((Y4.length : Int) - 0).toNat + 1) Yk 0)
def Z2H (Y4 : (List (List Int))) (Yk : Int) : Int := (match (Z3L Y4 Yk) with
  | .inl r1 => (-1)
  | .inr r1 => r1)
theorem Zcu (Y4 : (List (List Int))) (Yk : Int) (hp0 : Y4.length ≤ 1073741824) (hp1 : ∀ t ∈ Y4, t.length ≤ 1073741824)  : Fn prog 125 [.sl (Y4.map (cL (cI .i64))), .i .i64 Yk] (.i .i64 (Z2H Y4 Yk)) [] := by
 cases h0 : (Z3L Y4 Yk) with
 | inl r1 =>
  refine fnS E0Ok Z5 (c := bodyOf f125) [] (.i .i64 (-1)) [] func125 (sL (mR false [0, 2, 3, 1, 15]) 0 (lp_val (Z4s Y4 Yk) (x := (Z3L Y4 Yk)) (Z7P Y4 Yk hp0 hp1 (((Y4.length : Int) - 0).toNat + 1) Yk 0 (show 0 ≤ 0 from (by omega)) (Nat.lt_succ_self _)) h0) <| sK [] sN) rfl (by kernel_rfl) (by kernel_rfl) rfl ?_ ?_
  · simp only [Z2H, h0]
  · rfl
 | inr r1 =>
  refine fnS E0Ok Z5 (c := bodyOf f125) [] (.i .i64 r1) [] func125 (sL (mR false [0, 2, 3, 1, 15]) 0 (lp_val (Z4s Y4 Yk) (x := (Z3L Y4 Yk)) (Z7P Y4 Yk hp0 hp1 (((Y4.length : Int) - 0).toNat + 1) Yk 0 (show 0 ≤ 0 from (by omega)) (Nat.lt_succ_self _)) h0) <| sK [] sN) rfl (by kernel_rfl) (by kernel_rfl) rfl ?_ ?_
  · simp only [Z2H, h0]
  · rfl
theorem Zfg (a : List (List Int)) (c : Int) : Z2H a c = match hdL (fun x c => !(decide (Z1k x c < 0))) Z1k a c with
    | some c' => c'
    | none => -1 := by
  unfold Z2H Z3L
  rw [held_loop (p := fun x c => !(decide (Z1k x c < 0))) (q := Z1k) (a := a) (x := ()) (lo := Z1x a c) (fun k c i => by
    rw [Z1x]
    cases decide (i < (a.length : Int)) <;> cases decide (Z1k (a.getD i.toNat default) c < 0) <;> rfl) _ _ _ (Int.le_refl 0) (Nat.lt_succ_self _)]
  simp only [Int.toNat_zero, List.drop_zero]
  cases hdL (fun x c => !(decide (Z1k x c < 0))) Z1k a c <;> rfl
def Z1R (Y4 : GMesh) (Yk : Int) : Int := (cond (decide ((Z1h Y4.Places Yk) < 0))
  (-1)
  (cond (decide ((Z2H Y4.Triangles (Z1h Y4.Places Yk)) < 0))
    (-1)
    (Z2H Y4.Triangles (Z1h Y4.Places Yk))))
theorem ZdX (Y4 : GMesh) (Yk : Int) (hp0 : Y4.Places.length ≤ 1073741824) (hp1 : Y4.Triangles.length ≤ 1073741824) (hp2 : ∀ t ∈ Y4.Triangles, t.length ≤ 1073741824)  : Fn prog 73 [.agg [.sl (Y4.Places.map GVector.cells), .sl (Y4.Triangles.map (cL (cI .i64)))], .i .i64 Yk] (.i .i64 (Z1R Y4 Yk)) [] := by
 have p {a C} (s : Scr a C) := sF (Z9h Y4.Places Yk hp0) <| s
 cases h0 : (decide ((Z1h Y4.Places Yk) < 0)) with
 | true =>
  have gh0 := of_decide_eq_true h0
  refine fnS E0Ok Z5 (c := bodyOf f73) [] (.i .i64 (-1)) [] func73 (p (sB h0 <| sK [] sN)) rfl (by kernel_rfl) (by kernel_rfl) rfl ?_ ?_
  · simp only [Z1R, h0, cond_true]
  · rfl
 | false =>
  have gh0 := of_decide_eq_false h0
  have q {a C} (s : Scr a C) := p (sB h0 <| sF (Zcu Y4.Triangles (Z1h Y4.Places Yk) hp1 hp2) <| s)
  clear p
  cases h1 : (decide ((Z2H Y4.Triangles (Z1h Y4.Places Yk)) < 0)) with
  | true =>
   have gh1 := of_decide_eq_true h1
   refine fnS E0Ok Z5 (c := bodyOf f73) [] (.i .i64 (-1)) [] func73 (q (sB h1 <| sK [] sN)) rfl (by kernel_rfl) (by kernel_rfl) rfl ?_ ?_
   · simp only [Z1R, h0, h1, cond_true, cond_false]
   · rfl
  | false =>
   have gh1 := of_decide_eq_false h1
   refine fnS E0Ok Z5 (c := bodyOf f73) [] (.i .i64 (Z2H Y4.Triangles (Z1h Y4.Places Yk))) [] func73 (q (sB h1 <| sK [] sN)) rfl (by kernel_rfl) (by kernel_rfl) rfl ?_ ?_
   · simp only [Z1R, h0, h1, cond_false]
   · rfl
def ZI (Y4 : (List GSpring)) (Yk : Int) : Nat → Int → Int → (Unit) ⊕ (Int)
  | 0, _, _ => .inl default
  | k + 1, Ye, Y9 => (cond (decide (Y9 < (Y4.length : Int)))
    (cond ((Y4.getD Y9.toNat default).A != Ye)
      (.inl ())
      (cond ((Y4.getD Y9.toNat default).B != (IntKind.wrap .i64 (Ye + 1)))
        (.inl ())
        (cond (fcmp .neq .f32 ((Y4.getD Y9.toNat default).Long) (ofInt .f32 (IntKind.wrap .i64 ((IntKind.wrap .i64 (Ye + 1)) + 1))))
          (.inl ())
          (cond (fcmp .neq .f32 ((Y4.getD Y9.toNat default).Stiff) (ofInt .f32 (IntKind.wrap .i64 ((IntKind.wrap .i64 ((IntKind.wrap .i64 (Ye + 1)) + 1)) + 1))))
            (.inl ())
            (ZI Y4 Yk k (IntKind.wrap .i64 ((IntKind.wrap .i64 ((IntKind.wrap .i64 ((IntKind.wrap .i64 (Ye + 1)) + 1)) + 1)) + 1)) (Y9 + 1))))))
    (.inr Ye))
def Z4t (Y4 : (List GSpring)) (Yk : Int) : (Unit) ⊕ (Int) → Ex × St
  | .inl r => (.ret, ⟨an 4 (.i .i64 (-1) :: an 46 []), []⟩)
  | .inr r => ((.exit 0), ⟨.any :: .i .i64 r :: an 49 [], []⟩)
def Zb2 (Y4 : (List GSpring)) (Yk : Int) (Ye : Int) (Y9 : Int) : St := ⟨.sl (Y4.map GSpring.cells) :: .i .i64 Ye :: .any :: .any :: .any :: .i .i64 Y9 :: an 45 [], []⟩
theorem Z7Q (Y4 : (List GSpring)) (Yk : Int) (hp0 : Y4.length ≤ 1073741824) : ∀ (k : Nat) (Ye : Int) (Y9 : Int) (Z6W : 0 ≤ Y9) (hk : ((Y4.length : Int) - Y9).toNat < k), Lp prog 0 (sub (bodyOf f74) [1, 0, 1, 0, 0]) (Zb2 Y4 Yk Ye Y9) (Z4t Y4 Yk (ZI Y4 Yk k Ye Y9)).1 (Z4t Y4 Yk (ZI Y4 Yk k Ye Y9)).2 := by
 intro k
 induction k with
 | zero => intro Ye Y9 Z6W hk; exact absurd hk (Nat.not_lt_zero _)
 | succ k ih =>
  intro Ye Y9 Z6W hk
  have p {a C} (s : Scr a C) := sZ GSpring.cells Y4 <| s
  cases Yl : (decide (Y9 < (Y4.length : Int))) with
  | true =>
   have Yw := of_decide_eq_true Yl
   have YF : (0 : Int) ≤ Y9 := by clear p; exact (by assumption)
   have YG : Y9 < (Y4.length : Int) := by clear p; exact (by assumption)
   have q {a C} (s : Scr a C) := p (sB Yl <| sG GSpring.cells Y4 Y9 YF YG <| s)
   clear p
   cases Yr : ((Y4.getD Y9.toNat default).A != Ye) with
   | true =>
    have Y10 := bne_iff_ne.1 Yr
    have e : ZI Y4 Yk (k + 1) Ye Y9 = (.inl ()) := by simp only [ZI, Yl, Yr, cond_true]
    rw [e]
    exact outR (e := .ret) E0Ok Z5 [] (mR false [4, 1, 46]) [] (q (sB Yr <| sN)) (by kernel_rfl) (by intro h; cases h)
   | false =>
    have Y10 := bne_eq_false_iff_eq.1 Yr
    have p {a C} (s : Scr a C) := q (sB Yr <| sW .i64 (Ye + 1) <| sG GSpring.cells Y4 Y9 YF YG <| s)
    clear q
    cases YL : ((Y4.getD Y9.toNat default).B != (IntKind.wrap .i64 (Ye + 1))) with
    | true =>
     have Y1e := bne_iff_ne.1 YL
     have e : ZI Y4 Yk (k + 1) Ye Y9 = (.inl ()) := by simp only [ZI, Yl, Yr, YL, cond_true, cond_false]
     rw [e]
     exact outR (e := .ret) E0Ok Z5 [] (mR false [4, 1, 46]) [] (p (sB YL <| sN)) (by kernel_rfl) (by intro h; cases h)
    | false =>
     have Y1e := bne_eq_false_iff_eq.1 YL
     have q {a C} (s : Scr a C) := p (sB YL <| sW .i64 ((IntKind.wrap .i64 (Ye + 1)) + 1) <| sG GSpring.cells Y4 Y9 YF YG <| s)
     clear p
     cases YX : (fcmp .neq .f32 ((Y4.getD Y9.toNat default).Long) (ofInt .f32 (IntKind.wrap .i64 ((IntKind.wrap .i64 (Ye + 1)) + 1)))) with
     | true =>
      have e : ZI Y4 Yk (k + 1) Ye Y9 = (.inl ()) := by simp only [ZI, Yl, Yr, YL, YX, cond_true, cond_false]
      rw [e]
      exact outR (e := .ret) E0Ok Z5 [] (mR false [4, 1, 46]) [] (q (sB YX <| sN)) (by kernel_rfl) (by intro h; cases h)
     | false =>
      have p {a C} (s : Scr a C) := q (sB YX <| sW .i64 ((IntKind.wrap .i64 ((IntKind.wrap .i64 (Ye + 1)) + 1)) + 1) <| sG GSpring.cells Y4 Y9 YF YG <| s)
      clear q
      cases h_4 : (fcmp .neq .f32 ((Y4.getD Y9.toNat default).Stiff) (ofInt .f32 (IntKind.wrap .i64 ((IntKind.wrap .i64 ((IntKind.wrap .i64 (Ye + 1)) + 1)) + 1)))) with
      | true =>
       have e : ZI Y4 Yk (k + 1) Ye Y9 = (.inl ()) := by simp only [ZI, Yl, Yr, YL, YX, h_4, cond_true, cond_false]
       rw [e]
       exact outR (e := .ret) E0Ok Z5 [] (mR false [4, 1, 46]) [] (p (sB h_4 <| sN)) (by kernel_rfl) (by intro h; cases h)
      | false =>
       have YH : (-9223372036854775808 : Int) ≤ (Y9 + 1) := by clear p; exact (by omega)
       have YI : (Y9 + 1) ≤ (9223372036854775807 : Int) := by clear p; exact (by omega)
       have e : ZI Y4 Yk (k + 1) Ye Y9 = (ZI Y4 Yk k (IntKind.wrap .i64 ((IntKind.wrap .i64 ((IntKind.wrap .i64 ((IntKind.wrap .i64 (Ye + 1)) + 1)) + 1)) + 1)) (Y9 + 1)) := by simp only [ZI, Yl, Yr, YL, YX, h_4, cond_true, cond_false]
       rw [e]
       exact nextR E0Ok Z5 [] (mR false [0, 2, 3, 1, 45]) [] (ih (IntKind.wrap .i64 ((IntKind.wrap .i64 ((IntKind.wrap .i64 ((IntKind.wrap .i64 (Ye + 1)) + 1)) + 1)) + 1)) (Y9 + 1) (show 0 ≤ (Y9 + 1) from (by omega)) (by omega)) (p (sB h_4 <| sW .i64 ((IntKind.wrap .i64 ((IntKind.wrap .i64 ((IntKind.wrap .i64 (Ye + 1)) + 1)) + 1)) + 1) <| sI (Y9 + 1) YH YI <| sN)) (by kernel_rfl)
  | false =>
   have Yw := of_decide_eq_false Yl
   have e : ZI Y4 Yk (k + 1) Ye Y9 = (.inr Ye) := by simp only [ZI, Yl, cond_false]
   rw [e]
   exact outR (e := (.exit 0)) E0Ok Z5 [] (mR false [1, 1, 49]) [] (p (sB Yl <| sN)) (by kernel_rfl) (by intro h; cases h)
def Z3M (Y4 : (List GSpring)) (Yk : Int) : (Unit) ⊕ (Int) := (ZI Y4 Yk (((Y4.length : Int) - 0).toNat + 1) Yk 0)
def Z1W (Y4 : (List GSpring)) (Yk : Int) : Int := (match (Z3M Y4 Yk) with
  | .inl r1 => (-1)
  | .inr r1 => r1)
theorem Zcv (Y4 : (List GSpring)) (Yk : Int) (hp0 : Y4.length ≤ 1073741824)  : Fn prog 74 [.sl (Y4.map GSpring.cells), .i .i64 Yk] (.i .i64 (Z1W Y4 Yk)) [] := by
 cases h0 : (Z3M Y4 Yk) with
 | inl r1 =>
  refine fnS E0Ok Z5 (c := bodyOf f74) [] (.i .i64 (-1)) [] func74 (sL (mR false [0, 2, 3, 1, 45]) 0 (lp_val (Z4t Y4 Yk) (x := (Z3M Y4 Yk)) (Z7Q Y4 Yk hp0 (((Y4.length : Int) - 0).toNat + 1) Yk 0 (show 0 ≤ 0 from (by omega)) (Nat.lt_succ_self _)) h0) <| sK [] sN) rfl (by kernel_rfl) (by kernel_rfl) rfl ?_ ?_
  · simp only [Z1W, h0]
  · rfl
 | inr r1 =>
  refine fnS E0Ok Z5 (c := bodyOf f74) [] (.i .i64 r1) [] func74 (sL (mR false [0, 2, 3, 1, 45]) 0 (lp_val (Z4t Y4 Yk) (x := (Z3M Y4 Yk)) (Z7Q Y4 Yk hp0 (((Y4.length : Int) - 0).toNat + 1) Yk 0 (show 0 ≤ 0 from (by omega)) (Nat.lt_succ_self _)) h0) <| sK [] sN) rfl (by kernel_rfl) (by kernel_rfl) rfl ?_ ?_
  · simp only [Z1W, h0]
  · rfl
def Z9j (x : GSpring) (c : Int) : Bool := (!(x.A != c)) && (!(x.B != (IntKind.wrap .i64 (c + 1)))) && (!(fcmp .neq .f32 x.Long (ofInt .f32 (IntKind.wrap .i64 ((IntKind.wrap .i64 (c + 1)) + 1))))) && (!(fcmp .neq .f32 x.Stiff (ofInt .f32 (IntKind.wrap .i64 ((IntKind.wrap .i64 ((IntKind.wrap .i64 (c + 1)) + 1)) + 1)))))
def Zar (_ : GSpring) (c : Int) : Int := (IntKind.wrap .i64 ((IntKind.wrap .i64 ((IntKind.wrap .i64 ((IntKind.wrap .i64 (c + 1)) + 1)) + 1)) + 1))
theorem Zfx (a : List GSpring) (c : Int) : Z1W a c = match hdL Z9j Zar a c with
    | some c' => c'
    | none => -1 := by
  unfold Z1W Z3M
  rw [held_loop (p := Z9j) (q := Zar) (a := a) (x := ()) (lo := ZI a c) (fun k c i => by
    rw [ZI]
    unfold Z9j Zar
    generalize a.getD i.toNat default = x
    cases decide (i < (a.length : Int)) <;> cases (x.A != c) <;> cases (x.B != (IntKind.wrap .i64 (c + 1))) <;> cases fcmp .neq .f32 x.Long (ofInt .f32 (IntKind.wrap .i64 ((IntKind.wrap .i64 (c + 1)) + 1))) <;> cases fcmp .neq .f32 x.Stiff (ofInt .f32 (IntKind.wrap .i64 ((IntKind.wrap .i64 ((IntKind.wrap .i64 (c + 1)) + 1)) + 1))) <;> rfl) _ _ _ (Int.le_refl 0) (Nat.lt_succ_self _)]
  simp only [Int.toNat_zero, List.drop_zero]
  cases hdL Z9j Zar a c <;> rfl
def Z1q (Y4 : (List Nat)) (Yk : Int) : Nat → Int → Int → (Unit) ⊕ (Int)
  | 0, _, _ => .inl default
  | k + 1, Ye, Y9 => (cond (decide (Y9 < (Y4.length : Int)))
    (cond (fcmp .neq .f32 (Y4.getD Y9.toNat default) (ofInt .f32 Ye))
      (.inl ())
      (Z1q Y4 Yk k (IntKind.wrap .i64 (Ye + 1)) (Y9 + 1)))
    (.inr Ye))
def Z4g (Y4 : (List Nat)) (Yk : Int) : (Unit) ⊕ (Int) → Ex × St
  | .inl r => (.ret, ⟨an 4 (.i .i64 (-1) :: an 17 []), []⟩)
  | .inr r => ((.exit 0), ⟨.any :: .i .i64 r :: an 20 [], []⟩)
def ZaB (Y4 : (List Nat)) (Yk : Int) (Ye : Int) (Y9 : Int) : St := ⟨.sl (Y4.map (cF .f32)) :: .i .i64 Ye :: .any :: .any :: .any :: .i .i64 Y9 :: an 16 [], []⟩
theorem Z7e (Y4 : (List Nat)) (Yk : Int) (hp0 : Y4.length ≤ 1073741824) : ∀ (k : Nat) (Ye : Int) (Y9 : Int) (Z6Q : 0 ≤ Y9) (hk : ((Y4.length : Int) - Y9).toNat < k), Lp prog 0 (sub (bodyOf f42) [1, 0, 1, 0, 0]) (ZaB Y4 Yk Ye Y9) (Z4g Y4 Yk (Z1q Y4 Yk k Ye Y9)).1 (Z4g Y4 Yk (Z1q Y4 Yk k Ye Y9)).2 := by
 intro k
 induction k with
 | zero => intro Ye Y9 Z6Q hk; exact absurd hk (Nat.not_lt_zero _)
 | succ k ih =>
  intro Ye Y9 Z6Q hk
  have p {a C} (s : Scr a C) := sZ (cF .f32) Y4 <| s
  cases Yl : (decide (Y9 < (Y4.length : Int))) with
  | true =>
   have Yw := of_decide_eq_true Yl
   have YF : (0 : Int) ≤ Y9 := by clear p; exact (by assumption)
   have YG : Y9 < (Y4.length : Int) := by clear p; exact (by assumption)
   have q {a C} (s : Scr a C) := p (sB Yl <| sG (cF .f32) Y4 Y9 YF YG <| s)
   clear p
   cases Yr : (fcmp .neq .f32 (Y4.getD Y9.toNat default) (ofInt .f32 Ye)) with
   | true =>
    have e : Z1q Y4 Yk (k + 1) Ye Y9 = (.inl ()) := by simp only [Z1q, Yl, Yr, cond_true]
    rw [e]
    exact outR (e := .ret) E0Ok Z5 [] (mR false [4, 1, 17]) [] (q (sB Yr <| sN)) (by kernel_rfl) (by intro h; cases h)
   | false =>
    have YH : (-9223372036854775808 : Int) ≤ (Y9 + 1) := by clear q; exact (by omega)
    have YI : (Y9 + 1) ≤ (9223372036854775807 : Int) := by clear q; exact (by omega)
    have e : Z1q Y4 Yk (k + 1) Ye Y9 = (Z1q Y4 Yk k (IntKind.wrap .i64 (Ye + 1)) (Y9 + 1)) := by simp only [Z1q, Yl, Yr, cond_true, cond_false]
    rw [e]
    exact nextR E0Ok Z5 [] (mR false [0, 2, 3, 1, 16]) [] (ih (IntKind.wrap .i64 (Ye + 1)) (Y9 + 1) (show 0 ≤ (Y9 + 1) from (by omega)) (by omega)) (q (sB Yr <| sW .i64 (Ye + 1) <| sI (Y9 + 1) YH YI <| sN)) (by kernel_rfl)
  | false =>
   have Yw := of_decide_eq_false Yl
   have e : Z1q Y4 Yk (k + 1) Ye Y9 = (.inr Ye) := by simp only [Z1q, Yl, cond_false]
   rw [e]
   exact outR (e := (.exit 0)) E0Ok Z5 [] (mR false [1, 1, 20]) [] (p (sB Yl <| sN)) (by kernel_rfl) (by intro h; cases h)
def Z3E (Y4 : (List Nat)) (Yk : Int) : (Unit) ⊕ (Int) := (Z1q Y4 Yk (((Y4.length : Int) - 0).toNat + 1) Yk 0)
def Z2y (Y4 : (List Nat)) (Yk : Int) : Int := (match (Z3E Y4 Yk) with
  | .inl r1 => (-1)
  | .inr r1 => r1)
theorem ZbZ (Y4 : (List Nat)) (Yk : Int) (hp0 : Y4.length ≤ 1073741824)  : Fn prog 42 [.sl (Y4.map (cF .f32)), .i .i64 Yk] (.i .i64 (Z2y Y4 Yk)) [] := by
 cases h0 : (Z3E Y4 Yk) with
 | inl r1 =>
  refine fnS E0Ok Z5 (c := bodyOf f42) [] (.i .i64 (-1)) [] func42 (sL (mR false [0, 2, 3, 1, 16]) 0 (lp_val (Z4g Y4 Yk) (x := (Z3E Y4 Yk)) (Z7e Y4 Yk hp0 (((Y4.length : Int) - 0).toNat + 1) Yk 0 (show 0 ≤ 0 from (by omega)) (Nat.lt_succ_self _)) h0) <| sK [] sN) rfl (by kernel_rfl) (by kernel_rfl) rfl ?_ ?_
  · simp only [Z2y, h0]
  · rfl
 | inr r1 =>
  refine fnS E0Ok Z5 (c := bodyOf f42) [] (.i .i64 r1) [] func42 (sL (mR false [0, 2, 3, 1, 16]) 0 (lp_val (Z4g Y4 Yk) (x := (Z3E Y4 Yk)) (Z7e Y4 Yk hp0 (((Y4.length : Int) - 0).toNat + 1) Yk 0 (show 0 ≤ 0 from (by omega)) (Nat.lt_succ_self _)) h0) <| sK [] sN) rfl (by kernel_rfl) (by kernel_rfl) rfl ?_ ?_
  · simp only [Z2y, h0]
  · rfl
def Z8p (x : Nat) (c : Int) : Bool := (!(fcmp .neq .f32 x (ofInt .f32 c)))
def Z9M (_ : Nat) (c : Int) : Int := (IntKind.wrap .i64 (c + 1))
theorem Zfh (a : List Nat) (c : Int) : Z2y a c = match hdL Z8p Z9M a c with
    | some c' => c'
    | none => -1 := by
  unfold Z2y Z3E
  rw [held_loop (p := Z8p) (q := Z9M) (a := a) (x := ()) (lo := Z1q a c) (fun k c i => by
    rw [Z1q]
    unfold Z8p Z9M
    generalize a.getD i.toNat default = x
    cases decide (i < (a.length : Int)) <;> cases fcmp .neq .f32 x (ofInt .f32 c) <;> rfl) _ _ _ (Int.le_refl 0) (Nat.lt_succ_self _)]
  simp only [Int.toNat_zero, List.drop_zero]
  cases hdL Z8p Z9M a c <;> rfl
def Z2c (Y4 : GBody) (Yk : Int) : Int := (cond (decide ((Z1R Y4.Mesh Yk) < 0))
  (-1)
  (cond (decide ((Z1W Y4.Springs (Z1R Y4.Mesh Yk)) < 0))
    (-1)
    (cond (decide ((Z2y Y4.Weights (Z1W Y4.Springs (Z1R Y4.Mesh Yk))) < 0))
      (-1)
      (Z2y Y4.Weights (Z1W Y4.Springs (Z1R Y4.Mesh Yk))))))
theorem ZdY (Y4 : GBody) (Yk : Int) (hp0 : Y4.Mesh.Places.length ≤ 1073741824) (hp1 : Y4.Mesh.Triangles.length ≤ 1073741824) (hp2 : ∀ t ∈ Y4.Mesh.Triangles, t.length ≤ 1073741824) (hp3 : Y4.Springs.length ≤ 1073741824) (hp4 : Y4.Weights.length ≤ 1073741824)  : Fn prog 30 [.agg [.sl (Y4.Mesh.Places.map GVector.cells), .sl (Y4.Mesh.Triangles.map (cL (cI .i64))), .sl (Y4.Springs.map GSpring.cells), .f .f32 Y4.Film, .f .f32 Y4.Bend, .sl (Y4.Weights.map (cF .f32)), .f .f32 Y4.Fall.X, .f .f32 Y4.Fall.Y, .f .f32 Y4.Fall.Z], .i .i64 Yk] (.i .i64 (Z2c Y4 Yk)) [] := by
 have p {a C} (s : Scr a C) := sF (ZdX Y4.Mesh Yk hp0 hp1 hp2) <| s
 cases h0 : (decide ((Z1R Y4.Mesh Yk) < 0)) with
 | true =>
  have gh0 := of_decide_eq_true h0
  refine fnS E0Ok Z5 (c := bodyOf f30) [] (.i .i64 (-1)) [] func30 (p (sB h0 <| sK [] sN)) rfl (by kernel_rfl) (by kernel_rfl) rfl ?_ ?_
  · simp only [Z2c, h0, cond_true]
  · rfl
 | false =>
  have gh0 := of_decide_eq_false h0
  have q {a C} (s : Scr a C) := p (sB h0 <| sF (Zcv Y4.Springs (Z1R Y4.Mesh Yk) hp3) <| s)
  clear p
  cases h1 : (decide ((Z1W Y4.Springs (Z1R Y4.Mesh Yk)) < 0)) with
  | true =>
   have gh1 := of_decide_eq_true h1
   refine fnS E0Ok Z5 (c := bodyOf f30) [] (.i .i64 (-1)) [] func30 (q (sB h1 <| sK [] sN)) rfl (by kernel_rfl) (by kernel_rfl) rfl ?_ ?_
   · simp only [Z2c, h0, h1, cond_true, cond_false]
   · rfl
  | false =>
   have gh1 := of_decide_eq_false h1
   have p {a C} (s : Scr a C) := q (sB h1 <| sF (ZbZ Y4.Weights (Z1W Y4.Springs (Z1R Y4.Mesh Yk)) hp4) <| s)
   clear q
   cases h2 : (decide ((Z2y Y4.Weights (Z1W Y4.Springs (Z1R Y4.Mesh Yk))) < 0)) with
   | true =>
    have gh2 := of_decide_eq_true h2
    refine fnS E0Ok Z5 (c := bodyOf f30) [] (.i .i64 (-1)) [] func30 (p (sB h2 <| sK [] sN)) rfl (by kernel_rfl) (by kernel_rfl) rfl ?_ ?_
    · simp only [Z2c, h0, h1, h2, cond_true, cond_false]
    · rfl
   | false =>
    have gh2 := of_decide_eq_false h2
    refine fnS E0Ok Z5 (c := bodyOf f30) [] (.i .i64 (Z2y Y4.Weights (Z1W Y4.Springs (Z1R Y4.Mesh Yk)))) [] func30 (p (sB h2 <| sK [] sN)) rfl (by kernel_rfl) (by kernel_rfl) rfl ?_ ?_
    · simp only [Z2c, h0, h1, h2, cond_false]
    · rfl
def Z3N (Y4 : GMotion) (Yk : Int) : Int := (cond (decide ((Z2c Y4.Body Yk) < 0))
  (-1)
  (cond (decide ((Z1h Y4.Speeds (Z2c Y4.Body Yk)) < 0))
    (-1)
    (Z1h Y4.Speeds (Z2c Y4.Body Yk))))
theorem Z9F (Y4 : GMotion) (Yk : Int) (hp0 : Y4.Body.Mesh.Places.length ≤ 1073741824) (hp1 : Y4.Body.Mesh.Triangles.length ≤ 1073741824) (hp2 : ∀ t ∈ Y4.Body.Mesh.Triangles, t.length ≤ 1073741824) (hp3 : Y4.Body.Springs.length ≤ 1073741824) (hp4 : Y4.Body.Weights.length ≤ 1073741824) (hp5 : Y4.Speeds.length ≤ 1073741824)  : Fn prog 37 [.agg [.sl (Y4.Body.Mesh.Places.map GVector.cells), .sl (Y4.Body.Mesh.Triangles.map (cL (cI .i64))), .sl (Y4.Body.Springs.map GSpring.cells), .f .f32 Y4.Body.Film, .f .f32 Y4.Body.Bend, .sl (Y4.Body.Weights.map (cF .f32)), .f .f32 Y4.Body.Fall.X, .f .f32 Y4.Body.Fall.Y, .f .f32 Y4.Body.Fall.Z, .sl (Y4.Speeds.map GVector.cells)], .i .i64 Yk] (.i .i64 (Z3N Y4 Yk)) [] := by
 have p {a C} (s : Scr a C) := sF (ZdY Y4.Body Yk hp0 hp1 hp2 hp3 hp4) <| s
 cases h0 : (decide ((Z2c Y4.Body Yk) < 0)) with
 | true =>
  have gh0 := of_decide_eq_true h0
  refine fnS E0Ok Z5 (c := bodyOf f37) [] (.i .i64 (-1)) [] func37 (p (sB h0 <| sK [] sN)) rfl (by kernel_rfl) (by kernel_rfl) rfl ?_ ?_
  · simp only [Z3N, h0, cond_true]
  · rfl
 | false =>
  have gh0 := of_decide_eq_false h0
  have q {a C} (s : Scr a C) := p (sB h0 <| sF (Z9h Y4.Speeds (Z2c Y4.Body Yk) hp5) <| s)
  clear p
  cases h1 : (decide ((Z1h Y4.Speeds (Z2c Y4.Body Yk)) < 0)) with
  | true =>
   have gh1 := of_decide_eq_true h1
   refine fnS E0Ok Z5 (c := bodyOf f37) [] (.i .i64 (-1)) [] func37 (q (sB h1 <| sK [] sN)) rfl (by kernel_rfl) (by kernel_rfl) rfl ?_ ?_
   · simp only [Z3N, h0, h1, cond_true, cond_false]
   · rfl
  | false =>
   have gh1 := of_decide_eq_false h1
   refine fnS E0Ok Z5 (c := bodyOf f37) [] (.i .i64 (Z1h Y4.Speeds (Z2c Y4.Body Yk))) [] func37 (q (sB h1 <| sK [] sN)) rfl (by kernel_rfl) (by kernel_rfl) rfl ?_ ?_
   · simp only [Z3N, h0, h1, cond_false]
   · rfl
def Z3s (Y0 : GMotion) (Ys : (List Int)) (Yu : Nat) (Yt : Nat) (Yv : Nat) : Int := (Z3N (⟨(⟨(⟨(Z3 ((Z2 Y0 Ys Yu Yt Yv).1) 1).2.1, (Z3 ((Z2 Y0 Ys Yu Yt Yv).1) 1).2.2.1⟩ : GMesh), (Z3 ((Z2 Y0 Ys Yu Yt Yv).1) 1).2.2.2.1, (Z2 Y0 Ys Yu Yt Yv).1.Body.Film, (Z2 Y0 Ys Yu Yt Yv).1.Body.Bend, (Z3 ((Z2 Y0 Ys Yu Yt Yv).1) 1).2.2.2.2.1, (Z2 Y0 Ys Yu Yt Yv).1.Body.Fall⟩ : GBody), (Z3 ((Z2 Y0 Ys Yu Yt Yv).1) 1).2.2.2.2.2⟩ : GMotion) 1)
def Z19 (Y0 : GMotion) (Ys : (List Int)) (Yu : Nat) (Yt : Nat) (Yv : Nat) : Bool := (cond (decide ((Ys.length : Int) > 1048576))
  true
  (cond (decide ((Z1Q Y0 1048576) < 0))
    true
    (cond (Z3i ((Z2 Y0 Ys Yu Yt Yv).1) ((Z6 Y0 Ys Yu Yt Yv).1))
      (cond ((Z2 Y0 Ys Yu Yt Yv).2 == (Z6 Y0 Ys Yu Yt Yv).2)
        (cond (Z3i Y0 Y0)
          (cond (Z2N Ys Ys)
            (cond (decide ((Z29 Ys ((Z3 Y0 1).1)).1 < 0))
              false
              (cond (decide ((Z3s Y0 Ys Yu Yt Yv) < 0))
                false
                (cond ((Z3s Y0 Ys Yu Yt Yv) != (Z3 ((Z2 Y0 Ys Yu Yt Yv).1) 1).1)
                  false
                  true)))
            false)
          false)
        false)
      false)))
set_option maxHeartbeats 1000000 in
theorem Zac (Y0 : GMotion) (Ys : (List Int)) (Yu : Nat) (Yt : Nat) (Yv : Nat) (hp0 : Y0.Body.Mesh.Places.length ≤ 9223372036854775807) (hp1 : Y0.Body.Mesh.Triangles.length ≤ 9223372036854775807) (hp2 : ∀ t ∈ Y0.Body.Mesh.Triangles, t.length ≤ 9223372036854775807) (hp3 : Y0.Body.Springs.length ≤ 9223372036854775807) (hp4 : Y0.Body.Weights.length ≤ 9223372036854775807) (hp5 : Y0.Speeds.length ≤ 9223372036854775807) (hp6 : Ys.length ≤ 9223372036854775807)  : Fn prog 7 [.agg [.sl (Y0.Body.Mesh.Places.map GVector.cells), .sl (Y0.Body.Mesh.Triangles.map (cL (cI .i64))), .sl (Y0.Body.Springs.map GSpring.cells), .f .f32 Y0.Body.Film, .f .f32 Y0.Body.Bend, .sl (Y0.Body.Weights.map (cF .f32)), .f .f32 Y0.Body.Fall.X, .f .f32 Y0.Body.Fall.Y, .f .f32 Y0.Body.Fall.Z, .sl (Y0.Speeds.map GVector.cells)], .sl (Ys.map (cI .i64)), .f .f32 Yu, .f .f32 Yt, .f .f32 Yv] (.b (Z19 Y0 Ys Yu Yt Yv)) [] := by
 have z0 := (Z9O Y0 1048576 (by omega) (by omega) (by assumption) (by omega) (by omega) (by omega) (by omega) (by omega))
 have p {a C} (s : Scr a C) := sZ (cI .i64) Ys <| s
 cases h0 : (decide ((Ys.length : Int) > 1048576)) with
 | true =>
  have gh0 := of_decide_eq_true h0
  refine fnS E0Ok Z5 (c := bodyOf f7) [] (.b true) [] func7 (p (sB h0 <| sK [] sN)) rfl (by kernel_rfl) (by kernel_rfl) rfl ?_ ?_
  · simp only [Z19, h0, cond_true]
  · rfl
 | false =>
  have gh0 := of_decide_eq_false h0
  have q {a C} (s : Scr a C) := p (sB h0 <| sF (Zdy Y0 1048576 hp0 hp1 hp2 hp3 hp4 hp5) <| s)
  clear p
  cases h1 : (decide ((Z1Q Y0 1048576) < 0)) with
  | true =>
   have gh1 := of_decide_eq_true h1
   refine fnS E0Ok Z5 (c := bodyOf f7) [] (.b true) [] func7 (q (sB h1 <| sK [] sN)) rfl (by kernel_rfl) (by kernel_rfl) rfl ?_ ?_
   · simp only [Z19, h0, h1, cond_true, cond_false]
   · rfl
  | false =>
   have gh1 := of_decide_eq_false h1
   have y0 : Y0.Body.Mesh.Places.length ≤ 1073741824 := by clear q; exact (by omega)
   have y1 : Y0.Body.Mesh.Triangles.length ≤ 1073741824 := by clear q; exact (by omega)
   have y2 : ∀ t ∈ Y0.Body.Mesh.Triangles, t.length ≤ 1073741824 := by clear q; exact (by intro t ht; (have q := z0.2.2.2.2.2.2.2 t ht; omega))
   have y3 : Y0.Body.Springs.length ≤ 1073741824 := by clear q; exact (by omega)
   have y4 : Y0.Body.Weights.length ≤ 1073741824 := by clear q; exact (by omega)
   have y5 : Y0.Speeds.length ≤ 1073741824 := by clear q; exact (by omega)
   have y6 : Ys.length ≤ 1073741824 := by clear q; exact (by omega)
   have l1 := (Z8A Y0 Ys Yu Yt Yv)
   have l2 := (Z8B Y0 Ys Yu Yt Yv)
   have l3 := (Z8C Y0 Ys Yu Yt Yv)
   have l4 := (Z8D Y0 Ys Yu Yt Yv)
   have l5 := (Z8E Y0 Ys Yu Yt Yv)
   have l6 := (Z8K Y0 Ys Yu Yt Yv)
   have l7 := (Z8L Y0 Ys Yu Yt Yv)
   have l8 := (Z8M Y0 Ys Yu Yt Yv)
   have l9 := (Z8N Y0 Ys Yu Yt Yv)
   have l10 := (Z8O Y0 Ys Yu Yt Yv)
   have y7 : ((Z2 Y0 Ys Yu Yt Yv).1).Body.Mesh.Places.length ≤ 1073741824 := by clear q; exact (by omega)
   have y8 : ((Z2 Y0 Ys Yu Yt Yv).1).Body.Mesh.Triangles.length ≤ 1073741824 := by clear q; exact (by omega)
   have y9 : ∀ t ∈ ((Z2 Y0 Ys Yu Yt Yv).1).Body.Mesh.Triangles, t.length ≤ 1073741824 := by clear q; exact (by (intro t ht; (have q := z0.2.2.2.2.2.2.2 t (Z6j Y0 Ys Yu Yt Yv t ht); omega)))
   have y10 : ((Z2 Y0 Ys Yu Yt Yv).1).Body.Springs.length ≤ 1073741824 := by clear q; exact (by omega)
   have y11 : ((Z2 Y0 Ys Yu Yt Yv).1).Body.Weights.length ≤ 1073741824 := by clear q; exact (by omega)
   have y12 : ((Z2 Y0 Ys Yu Yt Yv).1).Speeds.length ≤ 1073741824 := by clear q; exact (by omega)
   have y13 : ((Z6 Y0 Ys Yu Yt Yv).1).Body.Mesh.Places.length ≤ 1073741824 := by clear q; exact (by omega)
   have y14 : ((Z6 Y0 Ys Yu Yt Yv).1).Body.Mesh.Triangles.length ≤ 1073741824 := by clear q; exact (by omega)
   have y15 : ∀ t ∈ ((Z6 Y0 Ys Yu Yt Yv).1).Body.Mesh.Triangles, t.length ≤ 1073741824 := by clear q; exact (by (intro t ht; (have q := z0.2.2.2.2.2.2.2 t (Z8F Y0 Ys Yu Yt Yv t ht); omega)))
   have y16 : ((Z6 Y0 Ys Yu Yt Yv).1).Body.Springs.length ≤ 1073741824 := by clear q; exact (by omega)
   have y17 : ((Z6 Y0 Ys Yu Yt Yv).1).Body.Weights.length ≤ 1073741824 := by clear q; exact (by omega)
   have y18 : ((Z6 Y0 Ys Yu Yt Yv).1).Speeds.length ≤ 1073741824 := by clear q; exact (by omega)
   have p {a C} (s : Scr a C) := q (sB h1 <| sF (Z6m Y0 y0 y1 y2 y3 y4 y5) <| sF (Z54 Ys y6) <| sF (Fn.castA (args' := [.agg [.sl (Y0.Body.Mesh.Places.map GVector.cells), .sl ((Y0.Body.Mesh.Triangles.map fun l => l.map (cI .i64)).map fun l => [.sl l]), .sl (Y0.Body.Springs.map GSpring.cells), .f .f32 Y0.Body.Film, .f .f32 Y0.Body.Bend, .sl (Y0.Body.Weights.map (cF .f32)), .f .f32 Y0.Body.Fall.X, .f .f32 Y0.Body.Fall.Y, .f .f32 Y0.Body.Fall.Z, .sl (Y0.Speeds.map GVector.cells)], .sl (Ys.map (cI .i64)), .f .f32 Yu, .f .f32 Yt, .f .f32 Yv]) (ZcL Y0 Ys Yu Yt Yv y0 y1 y2 y3 y4 y5 y6) (by simp [cL, Function.comp_def]; done)) <| sF (Z6m Y0 y0 y1 y2 y3 y4 y5) <| sF (Z54 Ys y6) <| sF (Fn.castA (args' := [.agg [.sl (Y0.Body.Mesh.Places.map GVector.cells), .sl ((Y0.Body.Mesh.Triangles.map fun l => l.map (cI .i64)).map fun l => [.sl l]), .sl (Y0.Body.Springs.map GSpring.cells), .f .f32 Y0.Body.Film, .f .f32 Y0.Body.Bend, .sl (Y0.Body.Weights.map (cF .f32)), .f .f32 Y0.Body.Fall.X, .f .f32 Y0.Body.Fall.Y, .f .f32 Y0.Body.Fall.Z, .sl (Y0.Speeds.map GVector.cells)], .sl (Ys.map (cI .i64)), .f .f32 Yu, .f .f32 Yt, .f .f32 Yv]) (Z9D Y0 Ys Yu Yt Yv y0 y1 y2 y3 y4 y5 y6) (by simp [cL, Function.comp_def]; done)) <| sF (Fn.castA (args' := [.agg [.sl (((Z2 Y0 Ys Yu Yt Yv).1.Body.Mesh.Places).map GVector.cells), .sl ((((Z2 Y0 Ys Yu Yt Yv).1.Body.Mesh.Triangles).map fun l => l.map (cI .i64)).map fun l => [.sl l]), .sl (((Z2 Y0 Ys Yu Yt Yv).1.Body.Springs).map GSpring.cells), .f .f32 ((Z2 Y0 Ys Yu Yt Yv).1.Body.Film), .f .f32 ((Z2 Y0 Ys Yu Yt Yv).1.Body.Bend), .sl (((Z2 Y0 Ys Yu Yt Yv).1.Body.Weights).map (cF .f32)), .f .f32 ((Z2 Y0 Ys Yu Yt Yv).1.Body.Fall.X), .f .f32 ((Z2 Y0 Ys Yu Yt Yv).1.Body.Fall.Y), .f .f32 ((Z2 Y0 Ys Yu Yt Yv).1.Body.Fall.Z), .sl (((Z2 Y0 Ys Yu Yt Yv).1.Speeds).map GVector.cells)], .agg [.sl (((Z6 Y0 Ys Yu Yt Yv).1.Body.Mesh.Places).map GVector.cells), .sl ((((Z6 Y0 Ys Yu Yt Yv).1.Body.Mesh.Triangles).map fun l => l.map (cI .i64)).map fun l => [.sl l]), .sl (((Z6 Y0 Ys Yu Yt Yv).1.Body.Springs).map GSpring.cells), .f .f32 ((Z6 Y0 Ys Yu Yt Yv).1.Body.Film), .f .f32 ((Z6 Y0 Ys Yu Yt Yv).1.Body.Bend), .sl (((Z6 Y0 Ys Yu Yt Yv).1.Body.Weights).map (cF .f32)), .f .f32 ((Z6 Y0 Ys Yu Yt Yv).1.Body.Fall.X), .f .f32 ((Z6 Y0 Ys Yu Yt Yv).1.Body.Fall.Y), .f .f32 ((Z6 Y0 Ys Yu Yt Yv).1.Body.Fall.Z), .sl (((Z6 Y0 Ys Yu Yt Yv).1.Speeds).map GVector.cells)]]) (Z6r ((Z2 Y0 Ys Yu Yt Yv).1) ((Z6 Y0 Ys Yu Yt Yv).1) y7 y8 y9 y10 y11 y12 y13 y14 y15 y16 y17 y18) (by simp [cL, Function.comp_def]; done)) <| s)
   clear q
   cases h2 : (Z3i ((Z2 Y0 Ys Yu Yt Yv).1) ((Z6 Y0 Ys Yu Yt Yv).1)) with
   | true =>
    have q {a C} (s : Scr a C) := p (sB' h2 <| sB' h2 <| sB' h2 <| sB' h2 <| s)
    clear p
    cases h3 : ((Z2 Y0 Ys Yu Yt Yv).2 == (Z6 Y0 Ys Yu Yt Yv).2) with
    | true =>
     have gh3 := eq_of_beq h3
     have p {a C} (s : Scr a C) := q (sB' h3 <| sK [3, 3] <| sF (Z6m Y0 y0 y1 y2 y3 y4 y5) <| sF (Fn.castA (args' := [.agg [.sl (Y0.Body.Mesh.Places.map GVector.cells), .sl ((Y0.Body.Mesh.Triangles.map fun l => l.map (cI .i64)).map fun l => [.sl l]), .sl (Y0.Body.Springs.map GSpring.cells), .f .f32 Y0.Body.Film, .f .f32 Y0.Body.Bend, .sl (Y0.Body.Weights.map (cF .f32)), .f .f32 Y0.Body.Fall.X, .f .f32 Y0.Body.Fall.Y, .f .f32 Y0.Body.Fall.Z, .sl (Y0.Speeds.map GVector.cells)], .agg [.sl (Y0.Body.Mesh.Places.map GVector.cells), .sl ((Y0.Body.Mesh.Triangles.map fun l => l.map (cI .i64)).map fun l => [.sl l]), .sl (Y0.Body.Springs.map GSpring.cells), .f .f32 Y0.Body.Film, .f .f32 Y0.Body.Bend, .sl (Y0.Body.Weights.map (cF .f32)), .f .f32 Y0.Body.Fall.X, .f .f32 Y0.Body.Fall.Y, .f .f32 Y0.Body.Fall.Z, .sl (Y0.Speeds.map GVector.cells)]]) (Z6r Y0 Y0 y0 y1 y2 y3 y4 y5 y0 y1 y2 y3 y4 y5) (by simp [cL, Function.comp_def]; done)) <| s)
     clear q
     cases h4 : (Z3i Y0 Y0) with
     | true =>
      have q {a C} (s : Scr a C) := p (sB' h4 <| sF (Z54 Ys y6) <| sF (Zan Ys Ys y6 y6) <| s)
      clear p
      cases h5 : (Z2N Ys Ys) with
      | true =>
       have p {a C} (s : Scr a C) := q (sB' h5 <| sS (CallSt.frame (Z4T Y0 1 y0 y1 y2 y3 y4 y5) [13, 14, 15, 16, 17] (R := [.box 63 [.sl (Y0.Body.Mesh.Places.map GVector.cells), .sl (Y0.Body.Mesh.Triangles.map (cL (cI .i64))), .sl (Y0.Body.Springs.map GSpring.cells), .f .f32 Y0.Body.Film, .f .f32 Y0.Body.Bend, .sl (Y0.Body.Weights.map (cF .f32)), .f .f32 Y0.Body.Fall.X, .f .f32 Y0.Body.Fall.Y, .f .f32 Y0.Body.Fall.Z, .sl (Y0.Speeds.map GVector.cells)], .vec 40 3 (Y0.Body.Mesh.Places.map GVector.cells) false, .nest 49 (Y0.Body.Mesh.Triangles.map fun l => l.map (cI .i64)) false, .vec 133 4 (Y0.Body.Springs.map GSpring.cells) false, .vec 27 1 (Y0.Body.Weights.map (cF .f32)) false, .vec 40 3 (Y0.Speeds.map GVector.cells) false, .vec 2 1 (Ys.map (cI .i64)) false, .vec 40 3 (((Z6 Y0 Ys Yu Yt Yv).1.Body.Mesh.Places).map GVector.cells) false, .nest 49 (((Z6 Y0 Ys Yu Yt Yv).1.Body.Mesh.Triangles).map fun l => l.map (cI .i64)) false, .vec 133 4 (((Z6 Y0 Ys Yu Yt Yv).1.Body.Springs).map GSpring.cells) false, .vec 27 1 (((Z6 Y0 Ys Yu Yt Yv).1.Body.Weights).map (cF .f32)) false, .vec 40 3 (((Z6 Y0 Ys Yu Yt Yv).1.Speeds).map GVector.cells) false, .box 66 [.own 7, .own 8, .own 9, .f .f32 ((Z6 Y0 Ys Yu Yt Yv).1.Body.Film), .f .f32 ((Z6 Y0 Ys Yu Yt Yv).1.Body.Bend), .own 10, .f .f32 ((Z6 Y0 Ys Yu Yt Yv).1.Body.Fall.X), .f .f32 ((Z6 Y0 Ys Yu Yt Yv).1.Body.Fall.Y), .f .f32 ((Z6 Y0 Ys Yu Yt Yv).1.Body.Fall.Z), .own 11], .vec 40 3 (Y0.Body.Mesh.Places.map GVector.cells) false, .nest 49 (Y0.Body.Mesh.Triangles.map fun l => l.map (cI .i64)) false, .vec 133 4 (Y0.Body.Springs.map GSpring.cells) false, .vec 27 1 (Y0.Body.Weights.map (cF .f32)) false, .vec 40 3 (Y0.Speeds.map GVector.cells) false, .box 66 [.own 13, .own 14, .own 15, .f .f32 Y0.Body.Film, .f .f32 Y0.Body.Bend, .own 16, .f .f32 Y0.Body.Fall.X, .f .f32 Y0.Body.Fall.Y, .f .f32 Y0.Body.Fall.Z, .own 17], .vec 2 1 (Ys.map (cI .i64)) false, .vec 40 3 (((Z2 Y0 Ys Yu Yt Yv).1.Body.Mesh.Places).map GVector.cells) false, .nest 49 (((Z2 Y0 Ys Yu Yt Yv).1.Body.Mesh.Triangles).map fun l => l.map (cI .i64)) false, .vec 133 4 (((Z2 Y0 Ys Yu Yt Yv).1.Body.Springs).map GSpring.cells) false, .vec 27 1 (((Z2 Y0 Ys Yu Yt Yv).1.Body.Weights).map (cF .f32)) false, .vec 40 3 (((Z2 Y0 Ys Yu Yt Yv).1.Speeds).map GVector.cells) false, .box 66 [.own 20, .own 21, .own 22, .f .f32 ((Z2 Y0 Ys Yu Yt Yv).1.Body.Film), .f .f32 ((Z2 Y0 Ys Yu Yt Yv).1.Body.Bend), .own 23, .f .f32 ((Z2 Y0 Ys Yu Yt Yv).1.Body.Fall.X), .f .f32 ((Z2 Y0 Ys Yu Yt Yv).1.Body.Fall.Y), .f .f32 ((Z2 Y0 Ys Yu Yt Yv).1.Body.Fall.Z), .own 24], .vec 40 3 (Y0.Body.Mesh.Places.map GVector.cells) false, .nest 49 (Y0.Body.Mesh.Triangles.map fun l => l.map (cI .i64)) false, .vec 133 4 (Y0.Body.Springs.map GSpring.cells) false, .vec 27 1 (Y0.Body.Weights.map (cF .f32)) false, .vec 40 3 (Y0.Speeds.map GVector.cells) false, .vec 2 1 (Ys.map (cI .i64)) false]) (args' := [.agg [.own 13, .own 14, .own 15, .f .f32 Y0.Body.Film, .f .f32 Y0.Body.Bend, .own 16, .f .f32 Y0.Body.Fall.X, .f .f32 Y0.Body.Fall.Y, .f .f32 Y0.Body.Fall.Z, .own 17], .i .i64 1]) rfl rfl rfl rfl rfl rfl) <| sS (CallSt.frame (ZaZ Ys ((Z3 Y0 1).1) y6) [19] (R := [.box 63 [.sl (Y0.Body.Mesh.Places.map GVector.cells), .sl (Y0.Body.Mesh.Triangles.map (cL (cI .i64))), .sl (Y0.Body.Springs.map GSpring.cells), .f .f32 Y0.Body.Film, .f .f32 Y0.Body.Bend, .sl (Y0.Body.Weights.map (cF .f32)), .f .f32 Y0.Body.Fall.X, .f .f32 Y0.Body.Fall.Y, .f .f32 Y0.Body.Fall.Z, .sl (Y0.Speeds.map GVector.cells)], .vec 40 3 (Y0.Body.Mesh.Places.map GVector.cells) false, .nest 49 (Y0.Body.Mesh.Triangles.map fun l => l.map (cI .i64)) false, .vec 133 4 (Y0.Body.Springs.map GSpring.cells) false, .vec 27 1 (Y0.Body.Weights.map (cF .f32)) false, .vec 40 3 (Y0.Speeds.map GVector.cells) false, .vec 2 1 (Ys.map (cI .i64)) false, .vec 40 3 (((Z6 Y0 Ys Yu Yt Yv).1.Body.Mesh.Places).map GVector.cells) false, .nest 49 (((Z6 Y0 Ys Yu Yt Yv).1.Body.Mesh.Triangles).map fun l => l.map (cI .i64)) false, .vec 133 4 (((Z6 Y0 Ys Yu Yt Yv).1.Body.Springs).map GSpring.cells) false, .vec 27 1 (((Z6 Y0 Ys Yu Yt Yv).1.Body.Weights).map (cF .f32)) false, .vec 40 3 (((Z6 Y0 Ys Yu Yt Yv).1.Speeds).map GVector.cells) false, .box 66 [.own 7, .own 8, .own 9, .f .f32 ((Z6 Y0 Ys Yu Yt Yv).1.Body.Film), .f .f32 ((Z6 Y0 Ys Yu Yt Yv).1.Body.Bend), .own 10, .f .f32 ((Z6 Y0 Ys Yu Yt Yv).1.Body.Fall.X), .f .f32 ((Z6 Y0 Ys Yu Yt Yv).1.Body.Fall.Y), .f .f32 ((Z6 Y0 Ys Yu Yt Yv).1.Body.Fall.Z), .own 11], .vec 40 3 (((Z3 Y0 1).2.1).map GVector.cells) false, .nest 49 (((Z3 Y0 1).2.2.1).map fun l => l.map (cI .i64)) false, .vec 133 4 (((Z3 Y0 1).2.2.2.1).map GSpring.cells) false, .vec 27 1 (((Z3 Y0 1).2.2.2.2.1).map (cF .f32)) false, .vec 40 3 (((Z3 Y0 1).2.2.2.2.2).map GVector.cells) false, .box 66 [.own 13, .own 14, .own 15, .f .f32 Y0.Body.Film, .f .f32 Y0.Body.Bend, .own 16, .f .f32 Y0.Body.Fall.X, .f .f32 Y0.Body.Fall.Y, .f .f32 Y0.Body.Fall.Z, .own 17], .vec 2 1 (Ys.map (cI .i64)) false, .vec 40 3 (((Z2 Y0 Ys Yu Yt Yv).1.Body.Mesh.Places).map GVector.cells) false, .nest 49 (((Z2 Y0 Ys Yu Yt Yv).1.Body.Mesh.Triangles).map fun l => l.map (cI .i64)) false, .vec 133 4 (((Z2 Y0 Ys Yu Yt Yv).1.Body.Springs).map GSpring.cells) false, .vec 27 1 (((Z2 Y0 Ys Yu Yt Yv).1.Body.Weights).map (cF .f32)) false, .vec 40 3 (((Z2 Y0 Ys Yu Yt Yv).1.Speeds).map GVector.cells) false, .box 66 [.own 20, .own 21, .own 22, .f .f32 ((Z2 Y0 Ys Yu Yt Yv).1.Body.Film), .f .f32 ((Z2 Y0 Ys Yu Yt Yv).1.Body.Bend), .own 23, .f .f32 ((Z2 Y0 Ys Yu Yt Yv).1.Body.Fall.X), .f .f32 ((Z2 Y0 Ys Yu Yt Yv).1.Body.Fall.Y), .f .f32 ((Z2 Y0 Ys Yu Yt Yv).1.Body.Fall.Z), .own 24], .vec 40 3 (Y0.Body.Mesh.Places.map GVector.cells) false, .nest 49 (Y0.Body.Mesh.Triangles.map fun l => l.map (cI .i64)) false, .vec 133 4 (Y0.Body.Springs.map GSpring.cells) false, .vec 27 1 (Y0.Body.Weights.map (cF .f32)) false, .vec 40 3 (Y0.Speeds.map GVector.cells) false, .vec 2 1 (Ys.map (cI .i64)) false]) (args' := [.own 19, .i .i64 ((Z3 Y0 1).1)]) rfl rfl rfl rfl rfl rfl) <| s)
       clear q
       cases h6 : (decide ((Z29 Ys ((Z3 Y0 1).1)).1 < 0)) with
       | true =>
        have gh6 := of_decide_eq_true h6
        refine fnS E0Ok Z5 (c := bodyOf f7) [] (.b false) [] func7 (p (sB h6 <| sB h6 <| sB h6 <| sB h6 <| sB h6 <| sB (show true = true from rfl) <| sB (show true = true from rfl) <| sB (show true = true from rfl) <| sB (show true = true from rfl) <| sB (show true = true from rfl) <| sK [] sN)) rfl (by kernel_rfl) (by kernel_rfl) rfl ?_ ?_
        · simp only [Z19, h0, h1, h2, h3, h4, h5, h6, cond_true, cond_false]
        · rfl
       | false =>
        have gh6 := of_decide_eq_false h6
        have y19 : (⟨(⟨(⟨(Z3 ((Z2 Y0 Ys Yu Yt Yv).1) 1).2.1, (Z3 ((Z2 Y0 Ys Yu Yt Yv).1) 1).2.2.1⟩ : GMesh), (Z3 ((Z2 Y0 Ys Yu Yt Yv).1) 1).2.2.2.1, (Z2 Y0 Ys Yu Yt Yv).1.Body.Film, (Z2 Y0 Ys Yu Yt Yv).1.Body.Bend, (Z3 ((Z2 Y0 Ys Yu Yt Yv).1) 1).2.2.2.2.1, (Z2 Y0 Ys Yu Yt Yv).1.Body.Fall⟩ : GBody), (Z3 ((Z2 Y0 Ys Yu Yt Yv).1) 1).2.2.2.2.2⟩ : GMotion).Body.Mesh.Places.length ≤ 1073741824 := by clear p; exact (by simp_all <;> omega)
        have y20 : (⟨(⟨(⟨(Z3 ((Z2 Y0 Ys Yu Yt Yv).1) 1).2.1, (Z3 ((Z2 Y0 Ys Yu Yt Yv).1) 1).2.2.1⟩ : GMesh), (Z3 ((Z2 Y0 Ys Yu Yt Yv).1) 1).2.2.2.1, (Z2 Y0 Ys Yu Yt Yv).1.Body.Film, (Z2 Y0 Ys Yu Yt Yv).1.Body.Bend, (Z3 ((Z2 Y0 Ys Yu Yt Yv).1) 1).2.2.2.2.1, (Z2 Y0 Ys Yu Yt Yv).1.Body.Fall⟩ : GBody), (Z3 ((Z2 Y0 Ys Yu Yt Yv).1) 1).2.2.2.2.2⟩ : GMotion).Body.Mesh.Triangles.length ≤ 1073741824 := by clear p; exact (by simp_all <;> omega)
        have y21 : ∀ t ∈ (⟨(⟨(⟨(Z3 ((Z2 Y0 Ys Yu Yt Yv).1) 1).2.1, (Z3 ((Z2 Y0 Ys Yu Yt Yv).1) 1).2.2.1⟩ : GMesh), (Z3 ((Z2 Y0 Ys Yu Yt Yv).1) 1).2.2.2.1, (Z2 Y0 Ys Yu Yt Yv).1.Body.Film, (Z2 Y0 Ys Yu Yt Yv).1.Body.Bend, (Z3 ((Z2 Y0 Ys Yu Yt Yv).1) 1).2.2.2.2.1, (Z2 Y0 Ys Yu Yt Yv).1.Body.Fall⟩ : GBody), (Z3 ((Z2 Y0 Ys Yu Yt Yv).1) 1).2.2.2.2.2⟩ : GMotion).Body.Mesh.Triangles, t.length ≤ 1073741824 := by clear p; exact (by exact Z9r _ _ _ (by assumption))
        have y22 : (⟨(⟨(⟨(Z3 ((Z2 Y0 Ys Yu Yt Yv).1) 1).2.1, (Z3 ((Z2 Y0 Ys Yu Yt Yv).1) 1).2.2.1⟩ : GMesh), (Z3 ((Z2 Y0 Ys Yu Yt Yv).1) 1).2.2.2.1, (Z2 Y0 Ys Yu Yt Yv).1.Body.Film, (Z2 Y0 Ys Yu Yt Yv).1.Body.Bend, (Z3 ((Z2 Y0 Ys Yu Yt Yv).1) 1).2.2.2.2.1, (Z2 Y0 Ys Yu Yt Yv).1.Body.Fall⟩ : GBody), (Z3 ((Z2 Y0 Ys Yu Yt Yv).1) 1).2.2.2.2.2⟩ : GMotion).Body.Springs.length ≤ 1073741824 := by clear p; exact (by simp_all <;> omega)
        have y23 : (⟨(⟨(⟨(Z3 ((Z2 Y0 Ys Yu Yt Yv).1) 1).2.1, (Z3 ((Z2 Y0 Ys Yu Yt Yv).1) 1).2.2.1⟩ : GMesh), (Z3 ((Z2 Y0 Ys Yu Yt Yv).1) 1).2.2.2.1, (Z2 Y0 Ys Yu Yt Yv).1.Body.Film, (Z2 Y0 Ys Yu Yt Yv).1.Body.Bend, (Z3 ((Z2 Y0 Ys Yu Yt Yv).1) 1).2.2.2.2.1, (Z2 Y0 Ys Yu Yt Yv).1.Body.Fall⟩ : GBody), (Z3 ((Z2 Y0 Ys Yu Yt Yv).1) 1).2.2.2.2.2⟩ : GMotion).Body.Weights.length ≤ 1073741824 := by clear p; exact (by simp_all <;> omega)
        have y24 : (⟨(⟨(⟨(Z3 ((Z2 Y0 Ys Yu Yt Yv).1) 1).2.1, (Z3 ((Z2 Y0 Ys Yu Yt Yv).1) 1).2.2.1⟩ : GMesh), (Z3 ((Z2 Y0 Ys Yu Yt Yv).1) 1).2.2.2.1, (Z2 Y0 Ys Yu Yt Yv).1.Body.Film, (Z2 Y0 Ys Yu Yt Yv).1.Body.Bend, (Z3 ((Z2 Y0 Ys Yu Yt Yv).1) 1).2.2.2.2.1, (Z2 Y0 Ys Yu Yt Yv).1.Body.Fall⟩ : GBody), (Z3 ((Z2 Y0 Ys Yu Yt Yv).1) 1).2.2.2.2.2⟩ : GMotion).Speeds.length ≤ 1073741824 := by clear p; exact (by simp_all <;> omega)
        have q {a C} (s : Scr a C) := p (sB h6 <| sB h6 <| sB h6 <| sF (Fn.castA (args' := [.agg [.sl (((Z2 Y0 Ys Yu Yt Yv).1.Body.Mesh.Places).map GVector.cells), .sl ((((Z2 Y0 Ys Yu Yt Yv).1.Body.Mesh.Triangles).map fun l => l.map (cI .i64)).map fun l => [.sl l]), .sl (((Z2 Y0 Ys Yu Yt Yv).1.Body.Springs).map GSpring.cells), .f .f32 ((Z2 Y0 Ys Yu Yt Yv).1.Body.Film), .f .f32 ((Z2 Y0 Ys Yu Yt Yv).1.Body.Bend), .sl (((Z2 Y0 Ys Yu Yt Yv).1.Body.Weights).map (cF .f32)), .f .f32 ((Z2 Y0 Ys Yu Yt Yv).1.Body.Fall.X), .f .f32 ((Z2 Y0 Ys Yu Yt Yv).1.Body.Fall.Y), .f .f32 ((Z2 Y0 Ys Yu Yt Yv).1.Body.Fall.Z), .sl (((Z2 Y0 Ys Yu Yt Yv).1.Speeds).map GVector.cells)], .agg [.sl (((Z6 Y0 Ys Yu Yt Yv).1.Body.Mesh.Places).map GVector.cells), .sl ((((Z6 Y0 Ys Yu Yt Yv).1.Body.Mesh.Triangles).map fun l => l.map (cI .i64)).map fun l => [.sl l]), .sl (((Z6 Y0 Ys Yu Yt Yv).1.Body.Springs).map GSpring.cells), .f .f32 ((Z6 Y0 Ys Yu Yt Yv).1.Body.Film), .f .f32 ((Z6 Y0 Ys Yu Yt Yv).1.Body.Bend), .sl (((Z6 Y0 Ys Yu Yt Yv).1.Body.Weights).map (cF .f32)), .f .f32 ((Z6 Y0 Ys Yu Yt Yv).1.Body.Fall.X), .f .f32 ((Z6 Y0 Ys Yu Yt Yv).1.Body.Fall.Y), .f .f32 ((Z6 Y0 Ys Yu Yt Yv).1.Body.Fall.Z), .sl (((Z6 Y0 Ys Yu Yt Yv).1.Speeds).map GVector.cells)]]) (Z6r ((Z2 Y0 Ys Yu Yt Yv).1) ((Z6 Y0 Ys Yu Yt Yv).1) y7 y8 y9 y10 y11 y12 y13 y14 y15 y16 y17 y18) (by simp [cL, Function.comp_def]; done)) <| sB h6 <| sB h6 <| sB' h2 <| sB' h2 <| sB' h2 <| sB' h2 <| sB' h3 <| sS (CallSt.frame (Z4T ((Z2 Y0 Ys Yu Yt Yv).1) 1 y7 y8 y9 y10 y11 y12) [20, 21, 22, 23, 24] (R := [.box 63 [.sl (Y0.Body.Mesh.Places.map GVector.cells), .sl (Y0.Body.Mesh.Triangles.map (cL (cI .i64))), .sl (Y0.Body.Springs.map GSpring.cells), .f .f32 Y0.Body.Film, .f .f32 Y0.Body.Bend, .sl (Y0.Body.Weights.map (cF .f32)), .f .f32 Y0.Body.Fall.X, .f .f32 Y0.Body.Fall.Y, .f .f32 Y0.Body.Fall.Z, .sl (Y0.Speeds.map GVector.cells)], .vec 40 3 (Y0.Body.Mesh.Places.map GVector.cells) false, .nest 49 (Y0.Body.Mesh.Triangles.map fun l => l.map (cI .i64)) false, .vec 133 4 (Y0.Body.Springs.map GSpring.cells) false, .vec 27 1 (Y0.Body.Weights.map (cF .f32)) false, .vec 40 3 (Y0.Speeds.map GVector.cells) false, .vec 2 1 (Ys.map (cI .i64)) false, .vec 40 3 (((Z6 Y0 Ys Yu Yt Yv).1.Body.Mesh.Places).map GVector.cells) false, .nest 49 (((Z6 Y0 Ys Yu Yt Yv).1.Body.Mesh.Triangles).map fun l => l.map (cI .i64)) false, .vec 133 4 (((Z6 Y0 Ys Yu Yt Yv).1.Body.Springs).map GSpring.cells) false, .vec 27 1 (((Z6 Y0 Ys Yu Yt Yv).1.Body.Weights).map (cF .f32)) false, .vec 40 3 (((Z6 Y0 Ys Yu Yt Yv).1.Speeds).map GVector.cells) false, .box 66 [.own 7, .own 8, .own 9, .f .f32 ((Z6 Y0 Ys Yu Yt Yv).1.Body.Film), .f .f32 ((Z6 Y0 Ys Yu Yt Yv).1.Body.Bend), .own 10, .f .f32 ((Z6 Y0 Ys Yu Yt Yv).1.Body.Fall.X), .f .f32 ((Z6 Y0 Ys Yu Yt Yv).1.Body.Fall.Y), .f .f32 ((Z6 Y0 Ys Yu Yt Yv).1.Body.Fall.Z), .own 11], .vec 40 3 (((Z3 Y0 1).2.1).map GVector.cells) false, .nest 49 (((Z3 Y0 1).2.2.1).map fun l => l.map (cI .i64)) false, .vec 133 4 (((Z3 Y0 1).2.2.2.1).map GSpring.cells) false, .vec 27 1 (((Z3 Y0 1).2.2.2.2.1).map (cF .f32)) false, .vec 40 3 (((Z3 Y0 1).2.2.2.2.2).map GVector.cells) false, .box 66 [.own 13, .own 14, .own 15, .f .f32 Y0.Body.Film, .f .f32 Y0.Body.Bend, .own 16, .f .f32 Y0.Body.Fall.X, .f .f32 Y0.Body.Fall.Y, .f .f32 Y0.Body.Fall.Z, .own 17], .vec 2 1 (((Z29 Ys ((Z3 Y0 1).1)).2).map (cI .i64)) false, .vec 40 3 (((Z2 Y0 Ys Yu Yt Yv).1.Body.Mesh.Places).map GVector.cells) false, .nest 49 (((Z2 Y0 Ys Yu Yt Yv).1.Body.Mesh.Triangles).map fun l => l.map (cI .i64)) false, .vec 133 4 (((Z2 Y0 Ys Yu Yt Yv).1.Body.Springs).map GSpring.cells) false, .vec 27 1 (((Z2 Y0 Ys Yu Yt Yv).1.Body.Weights).map (cF .f32)) false, .vec 40 3 (((Z2 Y0 Ys Yu Yt Yv).1.Speeds).map GVector.cells) false, .box 66 [.own 20, .own 21, .own 22, .f .f32 ((Z2 Y0 Ys Yu Yt Yv).1.Body.Film), .f .f32 ((Z2 Y0 Ys Yu Yt Yv).1.Body.Bend), .own 23, .f .f32 ((Z2 Y0 Ys Yu Yt Yv).1.Body.Fall.X), .f .f32 ((Z2 Y0 Ys Yu Yt Yv).1.Body.Fall.Y), .f .f32 ((Z2 Y0 Ys Yu Yt Yv).1.Body.Fall.Z), .own 24], .vec 40 3 (Y0.Body.Mesh.Places.map GVector.cells) false, .nest 49 (Y0.Body.Mesh.Triangles.map fun l => l.map (cI .i64)) false, .vec 133 4 (Y0.Body.Springs.map GSpring.cells) false, .vec 27 1 (Y0.Body.Weights.map (cF .f32)) false, .vec 40 3 (Y0.Speeds.map GVector.cells) false, .vec 2 1 (Ys.map (cI .i64)) false]) (args' := [.agg [.own 20, .own 21, .own 22, .f .f32 ((Z2 Y0 Ys Yu Yt Yv).1.Body.Film), .f .f32 ((Z2 Y0 Ys Yu Yt Yv).1.Body.Bend), .own 23, .f .f32 ((Z2 Y0 Ys Yu Yt Yv).1.Body.Fall.X), .f .f32 ((Z2 Y0 Ys Yu Yt Yv).1.Body.Fall.Y), .f .f32 ((Z2 Y0 Ys Yu Yt Yv).1.Body.Fall.Z), .own 24], .i .i64 1]) rfl rfl rfl rfl rfl rfl) <| sF (Fn.castA (args' := [.agg [.sl (((Z3 ((Z2 Y0 Ys Yu Yt Yv).1) 1).2.1).map GVector.cells), .sl ((((Z3 ((Z2 Y0 Ys Yu Yt Yv).1) 1).2.2.1).map fun l => l.map (cI .i64)).map fun l => [.sl l]), .sl (((Z3 ((Z2 Y0 Ys Yu Yt Yv).1) 1).2.2.2.1).map GSpring.cells), .f .f32 ((Z2 Y0 Ys Yu Yt Yv).1.Body.Film), .f .f32 ((Z2 Y0 Ys Yu Yt Yv).1.Body.Bend), .sl (((Z3 ((Z2 Y0 Ys Yu Yt Yv).1) 1).2.2.2.2.1).map (cF .f32)), .f .f32 ((Z2 Y0 Ys Yu Yt Yv).1.Body.Fall.X), .f .f32 ((Z2 Y0 Ys Yu Yt Yv).1.Body.Fall.Y), .f .f32 ((Z2 Y0 Ys Yu Yt Yv).1.Body.Fall.Z), .sl (((Z3 ((Z2 Y0 Ys Yu Yt Yv).1) 1).2.2.2.2.2).map GVector.cells)], .i .i64 1]) (Z9F (⟨(⟨(⟨(Z3 ((Z2 Y0 Ys Yu Yt Yv).1) 1).2.1, (Z3 ((Z2 Y0 Ys Yu Yt Yv).1) 1).2.2.1⟩ : GMesh), (Z3 ((Z2 Y0 Ys Yu Yt Yv).1) 1).2.2.2.1, (Z2 Y0 Ys Yu Yt Yv).1.Body.Film, (Z2 Y0 Ys Yu Yt Yv).1.Body.Bend, (Z3 ((Z2 Y0 Ys Yu Yt Yv).1) 1).2.2.2.2.1, (Z2 Y0 Ys Yu Yt Yv).1.Body.Fall⟩ : GBody), (Z3 ((Z2 Y0 Ys Yu Yt Yv).1) 1).2.2.2.2.2⟩ : GMotion) 1 y19 y20 y21 y22 y23 y24) (by simp [cL, Function.comp_def]; done)) <| s)
        clear p
        cases h7 : (decide ((Z3s Y0 Ys Yu Yt Yv) < 0)) with
        | true =>
         have gh7 := of_decide_eq_true h7
         refine fnS E0Ok Z5 (c := bodyOf f7) [] (.b false) [] func7 (q (sB h7 <| sK [] sN)) rfl (by kernel_rfl) (by kernel_rfl) rfl ?_ ?_
         · simp only [Z19, h0, h1, h2, h3, h4, h5, h6, h7, cond_true, cond_false]
         · rfl
        | false =>
         have gh7 := of_decide_eq_false h7
         have p {a C} (s : Scr a C) := q (sB h7 <| s)
         clear q
         cases h8 : ((Z3s Y0 Ys Yu Yt Yv) != (Z3 ((Z2 Y0 Ys Yu Yt Yv).1) 1).1) with
         | true =>
          have gh8 := bne_iff_ne.1 h8
          refine fnS E0Ok Z5 (c := bodyOf f7) [] (.b false) [] func7 (p (sB h8 <| sK [] sN)) rfl (by kernel_rfl) (by kernel_rfl) rfl ?_ ?_
          · simp only [Z19, h0, h1, h2, h3, h4, h5, h6, h7, h8, cond_true, cond_false]
          · rfl
         | false =>
          have gh8 := bne_eq_false_iff_eq.1 h8
          refine fnS E0Ok Z5 (c := bodyOf f7) [] (.b true) [] func7 (p (sB h8 <| sF (Z6m Y0 y0 y1 y2 y3 y4 y5) <| sF (Z54 Ys y6) <| sF (Fn.castA (args' := [.agg [.sl (Y0.Body.Mesh.Places.map GVector.cells), .sl ((Y0.Body.Mesh.Triangles.map fun l => l.map (cI .i64)).map fun l => [.sl l]), .sl (Y0.Body.Springs.map GSpring.cells), .f .f32 Y0.Body.Film, .f .f32 Y0.Body.Bend, .sl (Y0.Body.Weights.map (cF .f32)), .f .f32 Y0.Body.Fall.X, .f .f32 Y0.Body.Fall.Y, .f .f32 Y0.Body.Fall.Z, .sl (Y0.Speeds.map GVector.cells)], .sl (Ys.map (cI .i64)), .f .f32 Yu, .f .f32 Yt, .f .f32 Yv]) (Z9D Y0 Ys Yu Yt Yv y0 y1 y2 y3 y4 y5 y6) (by simp [cL, Function.comp_def]; done)) <| sF (Fn.castA (args' := [.agg [.sl (((Z2 Y0 Ys Yu Yt Yv).1.Body.Mesh.Places).map GVector.cells), .sl ((((Z2 Y0 Ys Yu Yt Yv).1.Body.Mesh.Triangles).map fun l => l.map (cI .i64)).map fun l => [.sl l]), .sl (((Z2 Y0 Ys Yu Yt Yv).1.Body.Springs).map GSpring.cells), .f .f32 ((Z2 Y0 Ys Yu Yt Yv).1.Body.Film), .f .f32 ((Z2 Y0 Ys Yu Yt Yv).1.Body.Bend), .sl (((Z2 Y0 Ys Yu Yt Yv).1.Body.Weights).map (cF .f32)), .f .f32 ((Z2 Y0 Ys Yu Yt Yv).1.Body.Fall.X), .f .f32 ((Z2 Y0 Ys Yu Yt Yv).1.Body.Fall.Y), .f .f32 ((Z2 Y0 Ys Yu Yt Yv).1.Body.Fall.Z), .sl (((Z2 Y0 Ys Yu Yt Yv).1.Speeds).map GVector.cells)], .agg [.sl (((Z6 Y0 Ys Yu Yt Yv).1.Body.Mesh.Places).map GVector.cells), .sl ((((Z6 Y0 Ys Yu Yt Yv).1.Body.Mesh.Triangles).map fun l => l.map (cI .i64)).map fun l => [.sl l]), .sl (((Z6 Y0 Ys Yu Yt Yv).1.Body.Springs).map GSpring.cells), .f .f32 ((Z6 Y0 Ys Yu Yt Yv).1.Body.Film), .f .f32 ((Z6 Y0 Ys Yu Yt Yv).1.Body.Bend), .sl (((Z6 Y0 Ys Yu Yt Yv).1.Body.Weights).map (cF .f32)), .f .f32 ((Z6 Y0 Ys Yu Yt Yv).1.Body.Fall.X), .f .f32 ((Z6 Y0 Ys Yu Yt Yv).1.Body.Fall.Y), .f .f32 ((Z6 Y0 Ys Yu Yt Yv).1.Body.Fall.Z), .sl (((Z6 Y0 Ys Yu Yt Yv).1.Speeds).map GVector.cells)]]) (Z6r ((Z2 Y0 Ys Yu Yt Yv).1) ((Z6 Y0 Ys Yu Yt Yv).1) y7 y8 y9 y10 y11 y12 y13 y14 y15 y16 y17 y18) (by simp [cL, Function.comp_def]; done)) <| sB' h2 <| sB' h2 <| sB' h2 <| sB' h2 <| sB' h3 <| sF (Fn.castA (args' := [.agg [.sl (((Z3 ((Z2 Y0 Ys Yu Yt Yv).1) 1).2.1).map GVector.cells), .sl ((((Z3 ((Z2 Y0 Ys Yu Yt Yv).1) 1).2.2.1).map fun l => l.map (cI .i64)).map fun l => [.sl l]), .sl (((Z3 ((Z2 Y0 Ys Yu Yt Yv).1) 1).2.2.2.1).map GSpring.cells), .f .f32 ((Z2 Y0 Ys Yu Yt Yv).1.Body.Film), .f .f32 ((Z2 Y0 Ys Yu Yt Yv).1.Body.Bend), .sl (((Z3 ((Z2 Y0 Ys Yu Yt Yv).1) 1).2.2.2.2.1).map (cF .f32)), .f .f32 ((Z2 Y0 Ys Yu Yt Yv).1.Body.Fall.X), .f .f32 ((Z2 Y0 Ys Yu Yt Yv).1.Body.Fall.Y), .f .f32 ((Z2 Y0 Ys Yu Yt Yv).1.Body.Fall.Z), .sl (((Z3 ((Z2 Y0 Ys Yu Yt Yv).1) 1).2.2.2.2.2).map GVector.cells)], .i .i64 1]) (Z9F (⟨(⟨(⟨(Z3 ((Z2 Y0 Ys Yu Yt Yv).1) 1).2.1, (Z3 ((Z2 Y0 Ys Yu Yt Yv).1) 1).2.2.1⟩ : GMesh), (Z3 ((Z2 Y0 Ys Yu Yt Yv).1) 1).2.2.2.1, (Z2 Y0 Ys Yu Yt Yv).1.Body.Film, (Z2 Y0 Ys Yu Yt Yv).1.Body.Bend, (Z3 ((Z2 Y0 Ys Yu Yt Yv).1) 1).2.2.2.2.1, (Z2 Y0 Ys Yu Yt Yv).1.Body.Fall⟩ : GBody), (Z3 ((Z2 Y0 Ys Yu Yt Yv).1) 1).2.2.2.2.2⟩ : GMotion) 1 y19 y20 y21 y22 y23 y24) (by simp [cL, Function.comp_def]; done)) <| sB h7 <| sB h8 <| sK [] sN)) rfl (by kernel_rfl) (by kernel_rfl) rfl ?_ ?_
          · simp only [Z19, h0, h1, h2, h3, h4, h5, h6, h7, h8, cond_true, cond_false]
          · rfl
      | false =>
       refine fnS E0Ok Z5 (c := bodyOf f7) [] (.b false) [] func7 (q (sB' h5 <| sK [] sN)) rfl (by kernel_rfl) (by kernel_rfl) rfl ?_ ?_
       · simp only [Z19, h0, h1, h2, h3, h4, h5, cond_true, cond_false]
       · rfl
     | false =>
      refine fnS E0Ok Z5 (c := bodyOf f7) [] (.b false) [] func7 (p (sB' h4 <| sK [] sN)) rfl (by kernel_rfl) (by kernel_rfl) rfl ?_ ?_
      · simp only [Z19, h0, h1, h2, h3, h4, cond_true, cond_false]
      · rfl
    | false =>
     have gh3 := ne_of_beq_false h3
     refine fnS E0Ok Z5 (c := bodyOf f7) [] (.b false) [] func7 (q (sB' h3 <| sK [] sN)) rfl (by kernel_rfl) (by kernel_rfl) rfl ?_ ?_
     · simp only [Z19, h0, h1, h2, h3, cond_true, cond_false]
     · rfl
   | false =>
    refine fnS E0Ok Z5 (c := bodyOf f7) [] (.b false) [] func7 (p (sB' h2 <| sB' h2 <| sB' h2 <| sB' h2 <| sB (show true = true from rfl) <| sK [] sN)) rfl (by kernel_rfl) (by kernel_rfl) rfl ?_ ?_
    · simp only [Z19, h0, h1, h2, cond_false]
    · rfl
end Go.Ab
