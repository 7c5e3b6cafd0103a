/- The functions of this seat as plain Lean, and that the program's are these. Printed by a program of the prover's own. -/
import Derived.Test.YtiddhiepmakopaaB4
set_option linter.unusedVariables false
set_option linter.unusedSimpArgs false
set_option maxRecDepth 100000
namespace Go.Ab
open Go.RowKit Go.Proofs.Try
def Z1h (Y6 : (List Gv)) (Yh : Int) : Int × (List Gv) := (ZJ Y6 Yh (((Y6.length : Int) - 0).toNat + 1) Yh 0 Y6)
def Zk (Y6 : (List Gv)) (Yh : Int) : Int × (List Gv) := ((Z1h Y6 Yh).1, (Z1h Y6 Yh).2)
theorem Z4Q (Y6 : (List Gv)) (Yh : Int) (hp0 : Y6.length ≤ 1073741824)  : CallSt prog 61 [.vec 62 3 (Y6.map Gv.c) false] [.own 0, .i .i64 Yh] (.i .i64 ((Zk Y6 Yh).1)) [.vec 62 3 (((Zk Y6 Yh).2).map Gv.c) false] := by
 refine callS (EpOk 1) Z3 (c := bodyOf f61) [.vec 62 3 (Y6.map Gv.c) false] [] (.i .i64 ((Z1h Y6 Yh).1)) [.vec 62 3 (((Z1h Y6 Yh).2).map Gv.c) false] func61 (sL (mR false [0, 2, 2, 2, 31]) 1 (lp_val (Z2g Y6 Yh) (x := (Z1h Y6 Yh)) (Z4y Y6 Yh hp0 (((Y6.length : Int) - 0).toNat + 1) Yh 0 Y6 (show 0 ≤ 0 from (by omega)) (show Y6.length = Y6.length from (by simp)) (Nat.lt_succ_self _)) rfl) <| sK [] sN) rfl (by kernel_rfl) (by kernel_rfl) ?_ ?_
 · rfl
 · simp [Zk]
def Z3p (_ : Gv) (c : Int) : Int × Gv := ((IntKind.wrap .i64 ((IntKind.wrap .i64 ((IntKind.wrap .i64 (c + 1)) + 1)) + 1)), ⟨ofInt .f32 c, ofInt .f32 (IntKind.wrap .i64 (c + 1)), ofInt .f32 (IntKind.wrap .i64 ((IntKind.wrap .i64 (c + 1)) + 1))⟩)
theorem Z68 (a : List Gv) (c : Int) : Zk a c = mkL Z3p a c := by
  unfold Zk Z1h
  rw [mark_loop (f := Z3p) (lo := ZJ a c) (fun k c i r => rfl) _ _ _ _ (Int.le_refl 0) (Nat.lt_succ_self _)]
  simp
theorem Z5F (a : List Gv) (c : Int) (g0 : a.length ≤ 1073741824) (h0 : 0 ≤ c) (h1 : c ≤ 4611686018427387904) : c ≤ (Zk a c).1 ∧ (Zk a c).1 ≤ c + 3221225472 := by
  rw [Z68]
  have q := mkL_ge (f := Z3p) (W := 3) a c (fun x _ c k0 k1 => by simp only [Z3p]; rw [wrap_id (n := c + 1) (by omega) (by omega), show c + 1 + 1 = c + 2 from by omega, wrap_id (n := c + 2) (by omega) (by omega), show c + 2 + 1 = c + 3 from by omega, wrap_id (n := c + 3) (by omega) (by omega)]; omega) h0 (by omega)
  omega
def Zi (Y6 : (List Int)) (Yh : Int) : Nat → Int → Int → (List Int) → Int × (List Int)
  | 0, _, _, _ => default
  | k + 1, Y5, Y2, Y1 => (cond (decide (Y2 < (Y1.length : Int)))
    (Zi Y6 Yh k (IntKind.wrap .i64 (Y5 + 1)) (Y2 + 1) (Y1.set Y2.toNat Y5))
    (Y5, Y1))
def Z2k (ty : Nat) (Y6 : (List Int)) (Yh : Int) (r : Int × (List Int)) : Ex × St := ((.exit 0), ⟨.any :: .i .i64 r.1 :: .any :: .any :: .i .i64 0 :: an 14 [], [.vec ty 1 (r.2.map (cI .i64)) false]⟩)
def Z3f (ty : Nat) (Y6 : (List Int)) (Yh : Int) (Y5 : Int) (Y2 : Int) (Y1 : (List Int)) : St := ⟨.own 0 :: .i .i64 Y5 :: .any :: .any :: .i .i64 0 :: .i .i64 Y2 :: an 13 [], [.vec ty 1 (Y1.map (cI .i64)) false]⟩
theorem Z4H (ty : Nat) (Y6 : (List Int)) (Yh : Int) (hp0 : Y6.length ≤ 1073741824) : ∀ (k : Nat) (Y5 : Int) (Y2 : Int) (Y1 : (List Int)) (Z2P : 0 ≤ Y2) (Z2Q : Y1.length = Y6.length) (hk : ((Y6.length : Int) - Y2).toNat < k), Lp prog 1 (sub (bodyOf f71) [1, 0, 1, 0, 0]) (Z3f ty Y6 Yh Y5 Y2 Y1) (Z2k ty Y6 Yh (Zi Y6 Yh k Y5 Y2 Y1)).1 (Z2k ty Y6 Yh (Zi Y6 Yh k Y5 Y2 Y1)).2 := by
 intro k
 induction k with
 | zero => intro Y5 Y2 Y1 Z2P Z2Q hk; exact absurd hk (Nat.not_lt_zero _)
 | succ k ih =>
  intro Y5 Y2 Y1 Z2P Z2Q hk
  have p {a C} (s : Scr a C) := sZ (cI .i64) Y1 <| s
  cases Ye : (decide (Y2 < (Y1.length : Int))) with
  | true =>
   have Yo := odt Ye
   have Yt : (0 : Int) ≤ Y2 := by clear p; exact (by assumption)
   have Yu : Y2 < (Y1.length : Int) := by clear p; exact (by assumption)
   have Yy : Y2.toNat < Y1.length := by clear p; exact (by omega)
   have YC : (-9223372036854775808 : Int) ≤ (Y2 + 1) := by clear p; exact (by omega)
   have YE : (Y2 + 1) ≤ (9223372036854775807 : Int) := by clear p; exact (by omega)
   have e : Zi Y6 Yh (k + 1) Y5 Y2 Y1 = (Zi Y6 Yh k (IntKind.wrap .i64 (Y5 + 1)) (Y2 + 1) (Y1.set Y2.toNat Y5)) := by simp only [Zi, Ye, cond_true]
   rw [e]
   exact nextS (EpOk 1) Z3 [] (mR false [0, 2, 2, 2, 13]) [] (⟨.own 0 :: .i .i64 (IntKind.wrap .i64 (Y5 + 1)) :: .any :: .any :: .i .i64 0 :: .i .i64 (Y2 + 1) :: an 13 [], [.vec ty 1 ((Y1.map (cI .i64)).set Y2.toNat [.i .i64 Y5]) false]⟩) (p (sB Ye <| sX (cI .i64) Y1 Y2 Yt Yu <| sC (maplt (c := (cI .i64)) (l := Y1) Yy) <| sW .i64 (Y5 + 1) <| sI (Y2 + 1) YC YE <| sN)) (by kernel_rfl) (by simp [Z3f, List.map_set, cI]) (ih (IntKind.wrap .i64 (Y5 + 1)) (Y2 + 1) (Y1.set Y2.toNat Y5) (show 0 ≤ (Y2 + 1) from (by omega)) (show (Y1.set Y2.toNat Y5).length = Y6.length from (by simp_all <;> omega)) (by omega))
  | false =>
   have Yo := odf Ye
   have e : Zi Y6 Yh (k + 1) Y5 Y2 Y1 = (Y5, Y1) := by simp only [Zi, Ye, cond_false]
   rw [e]
   exact outR (e := (.exit 0)) (EpOk 1) Z3 [] (mR false [1, 1, 2, 1, 14]) [] (p (sB Ye <| sN)) (by kernel_rfl) (by intro h; cases h)
theorem Z4p (Y6 : (List Int)) (Yh : Int) : ∀ (k : Nat) (Y5 : Int) (Y2 : Int) (Y1 : (List Int)) (hk : ((Y1.length : Int) - Y2).toNat < k), (Zi Y6 Yh k Y5 Y2 Y1).2.length = Y1.length := by
  intro k
  induction k with
  | zero => intro Y5 Y2 Y1 hk; exact absurd hk (Nat.not_lt_zero _)
  | succ k ih =>
    intro Y5 Y2 Y1 hk
    cases Ye : (decide (Y2 < (Y1.length : Int))) with
    | true =>
      have e : Zi Y6 Yh (k + 1) Y5 Y2 Y1 = (Zi Y6 Yh k (IntKind.wrap .i64 (Y5 + 1)) (Y2 + 1) (Y1.set Y2.toNat Y5)) := by simp only [Zi, Ye, cond_true]
      rw [e, ih (IntKind.wrap .i64 (Y5 + 1)) (Y2 + 1) (Y1.set Y2.toNat Y5) (by simp_all <;> omega)]; simp
    | false =>
      have e : Zi Y6 Yh (k + 1) Y5 Y2 Y1 = (Y5, Y1) := by simp only [Zi, Ye, cond_false]
      first | (rw [e]; done) | (rw [e]; rfl)
def Z19 (Y6 : (List Int)) (Yh : Int) : Int × (List Int) := (Zi Y6 Yh (((Y6.length : Int) - 0).toNat + 1) Yh 0 Y6)
@[simp] theorem Z5U (Y6 : (List Int)) (Yh : Int) : (Z19 Y6 Yh).2.length = (Y6 : (List Int)).length := Z4p Y6 Yh (((Y6.length : Int) - 0).toNat + 1) Yh 0 Y6 (by exact Nat.lt_succ_self _)
def Zd (Y6 : (List Int)) (Yh : Int) : Int × (List Int) := ((Z19 Y6 Yh).1, (Z19 Y6 Yh).2)
@[simp] theorem Z4k (Y6 : (List Int)) (Yh : Int) : (Zd Y6 Yh).2.length = Y6.length := by
  first | (simp [Zd]; done)
theorem Z4V (ty : Nat) (Y6 : (List Int)) (Yh : Int) (hp0 : Y6.length ≤ 1073741824)  : CallSt prog 71 [.vec ty 1 (Y6.map (cI .i64)) false] [.own 0, .i .i64 Yh] (.i .i64 ((Zd Y6 Yh).1)) [.vec ty 1 (((Zd Y6 Yh).2).map (cI .i64)) false] := by
 refine callS (EpOk 1) Z3 (c := bodyOf f71) [.vec ty 1 (Y6.map (cI .i64)) false] [] (.i .i64 ((Z19 Y6 Yh).1)) [.vec ty 1 (((Z19 Y6 Yh).2).map (cI .i64)) false] func71 (sL (mR false [0, 2, 2, 2, 13]) 1 (lp_val (Z2k ty Y6 Yh) (x := (Z19 Y6 Yh)) (Z4H ty Y6 Yh hp0 (((Y6.length : Int) - 0).toNat + 1) Yh 0 Y6 (show 0 ≤ 0 from (by omega)) (show Y6.length = Y6.length from (by simp)) (Nat.lt_succ_self _)) rfl) <| sK [] sN) rfl (by kernel_rfl) (by kernel_rfl) ?_ ?_
 · rfl
 · simp [Zd]
def Z3U (_ : Int) (c : Int) : Int × Int := ((IntKind.wrap .i64 (c + 1)), c)
theorem Z6g (a : List Int) (c : Int) : Zd a c = mkL Z3U a c := by
  unfold Zd Z19
  rw [mark_loop (f := Z3U) (lo := Zi a c) (fun k c i r => rfl) _ _ _ _ (Int.le_refl 0) (Nat.lt_succ_self _)]
  simp
theorem Z5V (a : List Int) (c : Int) (g0 : a.length ≤ 1073741824) (h0 : 0 ≤ c) (h1 : c ≤ 4611686018427387904) : c ≤ (Zd a c).1 ∧ (Zd a c).1 ≤ c + 1073741824 := by
  rw [Z6g]
  have q := mkL_ge (f := Z3U) (W := 1) a c (fun x _ c k0 k1 => by simp only [Z3U]; rw [wrap_id (n := c + 1) (by omega) (by omega)]; omega) h0 (by omega)
  omega
def ZK (Y6 : (List (List Int))) (Yh : Int) : Nat → Int → Int → (List (List Int)) → Int × (List (List Int))
  | 0, _, _, _ => default
  | k + 1, Y5, Y2, Y1 => (cond (decide (Y2 < (Y1.length : Int)))
    (ZK Y6 Yh k ((Zd (Y1.getD Y2.toNat default) Y5).1) (Y2 + 1) (Y1.set Y2.toNat ((Zd (Y1.getD Y2.toNat default) Y5).2)))
    (Y5, Y1))
def Z2h (Y6 : (List (List Int))) (Yh : Int) (r : Int × (List (List Int))) : Ex × St := ((.exit 0), ⟨.any :: .i .i64 r.1 :: .any :: .any :: .i .i64 0 :: an 14 [], [.nest 79 (r.2.map fun l => l.map (cI .i64)) false]⟩)
def Z34 (Y6 : (List (List Int))) (Yh : Int) (Y5 : Int) (Y2 : Int) (Y1 : (List (List Int))) : St := ⟨.own 0 :: .i .i64 Y5 :: .any :: .any :: .i .i64 0 :: .i .i64 Y2 :: an 13 [], [.nest 79 (Y1.map fun l => l.map (cI .i64)) false]⟩
theorem Z4z (Y6 : (List (List Int))) (Yh : Int) (hp0 : Y6.length ≤ 1073741824) (hp1 : ∀ t ∈ Y6, t.length ≤ 1073741824) : ∀ (k : Nat) (Y5 : Int) (Y2 : Int) (Y1 : (List (List Int))) (Z2D : 0 ≤ Y2) (Z2E : Y1.length = Y6.length) (Z1t : ∀ t ∈ Y1, t.length ≤ 1073741824) (hk : ((Y6.length : Int) - Y2).toNat < k), Lp prog 1 (sub (bodyOf f24) [1, 0, 1, 0, 0]) (Z34 Y6 Yh Y5 Y2 Y1) (Z2h Y6 Yh (ZK Y6 Yh k Y5 Y2 Y1)).1 (Z2h Y6 Yh (ZK Y6 Yh k Y5 Y2 Y1)).2 := by
 intro k
 induction k with
 | zero => intro Y5 Y2 Y1 Z2D Z2E Z1t hk; exact absurd hk (Nat.not_lt_zero _)
 | succ k ih =>
  intro Y5 Y2 Y1 Z2D Z2E Z1t hk
  have p {a C} (s : Scr a C) := sM (nlen_ok (l := Y1) (f := fun l => l.map (cI .i64))) <| s
  cases Ye : (decide (Y2 < (Y1.length : Int))) with
  | true =>
   have Yo := odt Ye
   have Yt : (0 : Int) ≤ Y2 := by clear p; exact (by assumption)
   have Yu : Int.toNat Y2 < Y1.length := by clear p; exact (by omega)
   have Yy : Y2.toNat < Y1.length := by clear p; exact (by assumption)
   have YC : (Y1.getD Y2.toNat default).length ≤ 1073741824 := by clear p; exact (by exact mem_le Z1t)
   have YE : (-9223372036854775808 : Int) ≤ (Y2 + 1) := by clear p; exact (by omega)
   have YL : (Y2 + 1) ≤ (9223372036854775807 : Int) := by clear p; exact (by omega)
   have e : ZK Y6 Yh (k + 1) Y5 Y2 Y1 = (ZK Y6 Yh k ((Zd (Y1.getD Y2.toNat default) Y5).1) (Y2 + 1) (Y1.set Y2.toNat ((Zd (Y1.getD Y2.toNat default) Y5).2))) := by simp only [ZK, Ye, cond_true]
   rw [e]
   exact nextS (EpOk 1) Z3 [] (mR false [0, 2, 2, 2, 13]) [] (⟨.own 0 :: .i .i64 ((Zd (Y1.getD Y2.toNat default) Y5).1) :: .any :: .any :: .i .i64 0 :: .i .i64 (Y2 + 1) :: an 13 [], [.nest 79 ((Y1.map fun l => l.map (cI .i64)).set Y2.toNat (((Zd (Y1.getD Y2.toNat default) Y5).2).map (cI .i64))) false]⟩) (p (sB Ye <| sC (nestix (c := (cI .i64)) (l := Y1) (i := Y2) Yt Yu) <| sC (nestlt (c := (cI .i64)) (l := Y1) Yy) <| sS (CallSt.frameInn (R := [.nest 79 (Y1.map fun l => l.map (cI .i64)) false]) (q := 0) (j := Y2.toNat) (args := [.i .i64 Y5]) (fun ty => Z4V ty (Y1.getD Y2.toNat default) Y5 YC) rfl rfl (by simp) rfl (nestget_ok Yy)) <| sI (Y2 + 1) YE YL <| sN)) (by kernel_rfl) (by simp [Z34, List.map_set, cL, cI]) (ih ((Zd (Y1.getD Y2.toNat default) Y5).1) (Y2 + 1) (Y1.set Y2.toNat ((Zd (Y1.getD Y2.toNat default) Y5).2)) (show 0 ≤ (Y2 + 1) from (by omega)) (show (Y1.set Y2.toNat ((Zd (Y1.getD Y2.toNat default) Y5).2)).length = Y6.length from (by simp; assumption)) (show ∀ t ∈ (Y1.set Y2.toNat ((Zd (Y1.getD Y2.toNat default) Y5).2)), t.length ≤ 1073741824 from (by intro t ht; rcases List.mem_or_eq_of_mem_set ht with h | h; (exact Z1t t h); (rw [h]; simp only [Z4k]; exact mem_le Z1t))) (by omega))
  | false =>
   have Yo := odf Ye
   have e : ZK Y6 Yh (k + 1) Y5 Y2 Y1 = (Y5, Y1) := by simp only [ZK, Ye, cond_false]
   rw [e]
   exact outR (e := (.exit 0)) (EpOk 1) Z3 [] (mR false [1, 1, 2, 1, 14]) [] (p (sB Ye <| sN)) (by kernel_rfl) (by intro h; cases h)
def Z1i (Y6 : (List (List Int))) (Yh : Int) : Int × (List (List Int)) := (ZK Y6 Yh (((Y6.length : Int) - 0).toNat + 1) Yh 0 Y6)
def ZN (Y6 : (List (List Int))) (Yh : Int) : Int × (List (List Int)) := ((Z1i Y6 Yh).1, (Z1i Y6 Yh).2)
theorem Z4R (Y6 : (List (List Int))) (Yh : Int) (hp0 : Y6.length ≤ 1073741824) (hp1 : ∀ t ∈ Y6, t.length ≤ 1073741824)  : CallSt prog 24 [.nest 79 (Y6.map fun l => l.map (cI .i64)) false] [.own 0, .i .i64 Yh] (.i .i64 ((ZN Y6 Yh).1)) [.nest 79 (((ZN Y6 Yh).2).map fun l => l.map (cI .i64)) false] := by
 refine callS (EpOk 1) Z3 (c := bodyOf f24) [.nest 79 (Y6.map fun l => l.map (cI .i64)) false] [] (.i .i64 ((Z1i Y6 Yh).1)) [.nest 79 (((Z1i Y6 Yh).2).map fun l => l.map (cI .i64)) false] func24 (sL (mR false [0, 2, 2, 2, 13]) 1 (lp_val (Z2h Y6 Yh) (x := (Z1i Y6 Yh)) (Z4z Y6 Yh hp0 hp1 (((Y6.length : Int) - 0).toNat + 1) Yh 0 Y6 (show 0 ≤ 0 from (by simp)) (show Y6.length = Y6.length from (by simp)) (show ∀ t ∈ Y6, t.length ≤ 1073741824 from (by assumption)) (Nat.lt_succ_self _)) rfl) <| sK [] sN) rfl (by kernel_rfl) (by kernel_rfl) ?_ ?_
 · rfl
 · simp [ZN]
theorem Z6E (a : List (List Int)) (c : Int) : ZN a c = mkL Zd a c := by
  unfold ZN Z1i
  rw [mark_loop (f := Zd) (lo := ZK a c) (fun k c i r => rfl) _ _ _ _ (Int.le_refl 0) (Nat.lt_succ_self _)]
  simp
theorem Z5u (a : List (List Int)) (c : Int) (g0 : a.length ≤ 1073741824) (g1 : ∀ t ∈ a, t.length ≤ 1073741824) (h0 : 0 ≤ c) (h1 : c ≤ 3458764513820540928) : c ≤ (ZN a c).1 ∧ (ZN a c).1 ≤ c + 1152921504606846976 := by
  rw [Z6E]
  have hm : (a.length : Int) * 1073741824 ≤ 1152921504606846976 := by omega
  have q := mkL_ge_b (f := Zd) (W := 1073741824) (M := 4611686018427387904) a c (fun x hx c k0 k1 => by have q := Z5V x c (g1 x hx) k0 (by omega); omega) h0 (by omega)
  omega
def ZO (Y6 : Gm) (Yh : Int) : Int × (List Gv) × (List (List Int)) := ((ZN Y6.Tr ((Zk Y6.Pq Yh).1)).1, (Zk Y6.Pq Yh).2, (ZN Y6.Tr ((Zk Y6.Pq Yh).1)).2)
theorem Z4S (Y6 : Gm) (Yh : Int) (hp0 : Y6.Pq.length ≤ 1073741824) (hp1 : Y6.Tr.length ≤ 1073741824) (hp2 : ∀ t ∈ Y6.Tr, t.length ≤ 1073741824)  : CallSt prog 17 [.vec 62 3 (Y6.Pq.map Gv.c) false, .nest 79 (Y6.Tr.map fun l => l.map (cI .i64)) false] [.agg [.own 0, .own 1], .i .i64 Yh] (.i .i64 ((ZO Y6 Yh).1)) [.vec 62 3 (((ZO Y6 Yh).2.1).map Gv.c) false, .nest 79 (((ZO Y6 Yh).2.2).map fun l => l.map (cI .i64)) false] := by
 refine callS (EpOk 2) Z3 (c := bodyOf f17) [.vec 62 3 (Y6.Pq.map Gv.c) false, .nest 79 (Y6.Tr.map fun l => l.map (cI .i64)) false] [] (.i .i64 ((ZN Y6.Tr ((Zk Y6.Pq Yh).1)).1)) [.vec 62 3 (((Zk Y6.Pq Yh).2).map Gv.c) false, .nest 79 (((ZN Y6.Tr ((Zk Y6.Pq Yh).1)).2).map fun l => l.map (cI .i64)) false] func17 (sS (CallSt.frame (Z4Q Y6.Pq Yh hp0) [0] (R := [.vec 62 3 (Y6.Pq.map Gv.c) false, .nest 79 (Y6.Tr.map fun l => l.map (cI .i64)) false, .box 35 [.own 0, .own 1]]) (args' := [.own 0, .i .i64 Yh]) rfl rfl rfl rfl rfl rfl) <| sS (CallSt.frame (Z4R Y6.Tr ((Zk Y6.Pq Yh).1) hp1 hp2) [1] (R := [.vec 62 3 (((Zk Y6.Pq Yh).2).map Gv.c) false, .nest 79 (Y6.Tr.map fun l => l.map (cI .i64)) false, .box 35 [.own 0, .own 1]]) (args' := [.own 1, .i .i64 ((Zk Y6.Pq Yh).1)]) rfl rfl rfl rfl rfl rfl) <| sK [] sN) rfl (by kernel_rfl) (by kernel_rfl) ?_ ?_
 · rfl
 · simp [ZO]
theorem Z5v (a : Gm) (c : Int) (g0 : a.Pq.length ≤ 1073741824) (g1 : a.Tr.length ≤ 1073741824) (g2 : ∀ t ∈ a.Tr, t.length ≤ 1073741824) (h0 : 0 ≤ c) (h1 : c ≤ 2305843009213693952) : c ≤ (ZO a c).1 ∧ (ZO a c).1 ≤ c + 1152921507828072448 := by
  unfold ZO
  have p0 := Z5F a.Pq c g0 (by omega) (by omega)
  have p1 := Z5u a.Tr ((Zk a.Pq c).1) g1 g2 (by omega) (by omega)
  simp only
  omega
def Z7 (Y5 : Int) : Int := (IntKind.wrap .i64 ((IntKind.wrap .i64 ((IntKind.wrap .i64 ((IntKind.wrap .i64 ((IntKind.wrap .i64 ((IntKind.wrap .i64 (Y5 + 1)) + 1)) + 1)) + 1)) + 1)) + 1))
def Zm (Y6 : (List Gh)) (Yh : Int) : Nat → Int → Int → (List Gh) → Int × (List Gh)
  | 0, _, _, _ => default
  | k + 1, Y5, Y2, Y1 => (cond (decide (Y2 < (Y1.length : Int)))
    (Zm Y6 Yh k (IntKind.wrap .i64 ((IntKind.wrap .i64 ((Z7 Y5) + 1)) + 1)) (Y2 + 1) (Y1.set Y2.toNat (⟨Y5, (IntKind.wrap .i64 (Y5 + 1)), (⟨(ofInt .f32 (IntKind.wrap .i64 ((IntKind.wrap .i64 (Y5 + 1)) + 1))), (ofInt .f32 (IntKind.wrap .i64 ((IntKind.wrap .i64 ((IntKind.wrap .i64 (Y5 + 1)) + 1)) + 1))), (ofInt .f32 (IntKind.wrap .i64 ((IntKind.wrap .i64 ((IntKind.wrap .i64 ((IntKind.wrap .i64 (Y5 + 1)) + 1)) + 1)) + 1)))⟩ : Gv), (⟨(ofInt .f32 (IntKind.wrap .i64 ((IntKind.wrap .i64 ((IntKind.wrap .i64 ((IntKind.wrap .i64 ((IntKind.wrap .i64 (Y5 + 1)) + 1)) + 1)) + 1)) + 1))), (ofInt .f32 (Z7 Y5)), (ofInt .f32 (IntKind.wrap .i64 ((Z7 Y5) + 1)))⟩ : Gv)⟩ : Gh)))
    (Y5, Y1))
def Z2r (Y6 : (List Gh)) (Yh : Int) (r : Int × (List Gh)) : Ex × St := ((.exit 0), ⟨.any :: .i .i64 r.1 :: .any :: .any :: .i .i64 0 :: an 76 [], [.vec 99 8 (r.2.map Gh.c) false]⟩)
def Z3h (Y6 : (List Gh)) (Yh : Int) (Y5 : Int) (Y2 : Int) (Y1 : (List Gh)) : St := ⟨.own 0 :: .i .i64 Y5 :: .any :: .any :: .i .i64 0 :: .i .i64 Y2 :: an 75 [], [.vec 99 8 (Y1.map Gh.c) false]⟩
set_option maxHeartbeats 1000000 in
theorem Z4K (Y6 : (List Gh)) (Yh : Int) (hp0 : Y6.length ≤ 1073741824) : ∀ (k : Nat) (Y5 : Int) (Y2 : Int) (Y1 : (List Gh)) (Z35 : 0 ≤ Y2) (Z36 : Y1.length = Y6.length) (hk : ((Y6.length : Int) - Y2).toNat < k), Lp prog 1 (sub (bodyOf f31) [1, 0, 1, 0, 0]) (Z3h Y6 Yh Y5 Y2 Y1) (Z2r Y6 Yh (Zm Y6 Yh k Y5 Y2 Y1)).1 (Z2r Y6 Yh (Zm Y6 Yh k Y5 Y2 Y1)).2 := by
 intro k
 induction k with
 | zero => intro Y5 Y2 Y1 Z35 Z36 hk; exact absurd hk (Nat.not_lt_zero _)
 | succ k ih =>
  intro Y5 Y2 Y1 Z35 Z36 hk
  have p {a C} (s : Scr a C) := sZ Gh.c Y1 <| s
  cases Ye : (decide (Y2 < (Y1.length : Int))) with
  | true =>
   have Yo := odt Ye
   have Yt : (0 : Int) ≤ Y2 := by clear p; exact (by assumption)
   have Yu : Y2 < (Y1.length : Int) := by clear p; exact (by assumption)
   have Yy : Y2.toNat < Y1.length := by clear p; exact (by omega)
   have YC : Y2 < ((Y1.set Y2.toNat (⟨Y5, (Y1.getD Y2.toNat default).Kind, (Y1.getD Y2.toNat default).At, (Y1.getD Y2.toNat default).Way⟩ : Gh)).length : Int) := by clear p; exact (by simp_all <;> omega)
   have YE : Y2 < ((Y1.set Y2.toNat (⟨Y5, (IntKind.wrap .i64 (Y5 + 1)), (Y1.getD Y2.toNat default).At, (Y1.getD Y2.toNat default).Way⟩ : Gh)).length : Int) := by clear p; exact (by simp_all <;> omega)
   have YL : Y2 < ((Y1.set Y2.toNat (⟨Y5, (IntKind.wrap .i64 (Y5 + 1)), (⟨(ofInt .f32 (IntKind.wrap .i64 ((IntKind.wrap .i64 (Y5 + 1)) + 1))), (Y1.getD Y2.toNat default).At.Y, (Y1.getD Y2.toNat default).At.Z⟩ : Gv), (Y1.getD Y2.toNat default).Way⟩ : Gh)).length : Int) := by clear p; exact (by simp_all <;> omega)
   have YU : Y2 < ((Y1.set Y2.toNat (⟨Y5, (IntKind.wrap .i64 (Y5 + 1)), (⟨(ofInt .f32 (IntKind.wrap .i64 ((IntKind.wrap .i64 (Y5 + 1)) + 1))), (ofInt .f32 (IntKind.wrap .i64 ((IntKind.wrap .i64 ((IntKind.wrap .i64 (Y5 + 1)) + 1)) + 1))), (Y1.getD Y2.toNat default).At.Z⟩ : Gv), (Y1.getD Y2.toNat default).Way⟩ : Gh)).length : Int) := by clear p; exact (by simp_all <;> omega)
   have y_7 : Y2 < ((Y1.set Y2.toNat (⟨Y5, (IntKind.wrap .i64 (Y5 + 1)), (⟨(ofInt .f32 (IntKind.wrap .i64 ((IntKind.wrap .i64 (Y5 + 1)) + 1))), (ofInt .f32 (IntKind.wrap .i64 ((IntKind.wrap .i64 ((IntKind.wrap .i64 (Y5 + 1)) + 1)) + 1))), (ofInt .f32 (IntKind.wrap .i64 ((IntKind.wrap .i64 ((IntKind.wrap .i64 ((IntKind.wrap .i64 (Y5 + 1)) + 1)) + 1)) + 1)))⟩ : Gv), (Y1.getD Y2.toNat default).Way⟩ : Gh)).length : Int) := by clear p; exact (by simp_all <;> omega)
   have y_8 : Y2 < ((Y1.set Y2.toNat (⟨Y5, (IntKind.wrap .i64 (Y5 + 1)), (⟨(ofInt .f32 (IntKind.wrap .i64 ((IntKind.wrap .i64 (Y5 + 1)) + 1))), (ofInt .f32 (IntKind.wrap .i64 ((IntKind.wrap .i64 ((IntKind.wrap .i64 (Y5 + 1)) + 1)) + 1))), (ofInt .f32 (IntKind.wrap .i64 ((IntKind.wrap .i64 ((IntKind.wrap .i64 ((IntKind.wrap .i64 (Y5 + 1)) + 1)) + 1)) + 1)))⟩ : Gv), (⟨(ofInt .f32 (IntKind.wrap .i64 ((IntKind.wrap .i64 ((IntKind.wrap .i64 ((IntKind.wrap .i64 ((IntKind.wrap .i64 (Y5 + 1)) + 1)) + 1)) + 1)) + 1))), (Y1.getD Y2.toNat default).Way.Y, (Y1.getD Y2.toNat default).Way.Z⟩ : Gv)⟩ : Gh)).length : Int) := by clear p; exact (by simp_all <;> omega)
   have y_9 : Y2 < ((Y1.set Y2.toNat (⟨Y5, (IntKind.wrap .i64 (Y5 + 1)), (⟨(ofInt .f32 (IntKind.wrap .i64 ((IntKind.wrap .i64 (Y5 + 1)) + 1))), (ofInt .f32 (IntKind.wrap .i64 ((IntKind.wrap .i64 ((IntKind.wrap .i64 (Y5 + 1)) + 1)) + 1))), (ofInt .f32 (IntKind.wrap .i64 ((IntKind.wrap .i64 ((IntKind.wrap .i64 ((IntKind.wrap .i64 (Y5 + 1)) + 1)) + 1)) + 1)))⟩ : Gv), (⟨(ofInt .f32 (IntKind.wrap .i64 ((IntKind.wrap .i64 ((IntKind.wrap .i64 ((IntKind.wrap .i64 ((IntKind.wrap .i64 (Y5 + 1)) + 1)) + 1)) + 1)) + 1))), (ofInt .f32 (Z7 Y5)), (Y1.getD Y2.toNat default).Way.Z⟩ : Gv)⟩ : Gh)).length : Int) := by clear p; exact (by simp_all <;> omega)
   have Y12 : (-9223372036854775808 : Int) ≤ (Y2 + 1) := by clear p; exact (by omega)
   have Y19 : (Y2 + 1) ≤ (9223372036854775807 : Int) := by clear p; exact (by omega)
   have e : Zm Y6 Yh (k + 1) Y5 Y2 Y1 = (Zm Y6 Yh k (IntKind.wrap .i64 ((IntKind.wrap .i64 ((Z7 Y5) + 1)) + 1)) (Y2 + 1) (Y1.set Y2.toNat (⟨Y5, (IntKind.wrap .i64 (Y5 + 1)), (⟨(ofInt .f32 (IntKind.wrap .i64 ((IntKind.wrap .i64 (Y5 + 1)) + 1))), (ofInt .f32 (IntKind.wrap .i64 ((IntKind.wrap .i64 ((IntKind.wrap .i64 (Y5 + 1)) + 1)) + 1))), (ofInt .f32 (IntKind.wrap .i64 ((IntKind.wrap .i64 ((IntKind.wrap .i64 ((IntKind.wrap .i64 (Y5 + 1)) + 1)) + 1)) + 1)))⟩ : Gv), (⟨(ofInt .f32 (IntKind.wrap .i64 ((IntKind.wrap .i64 ((IntKind.wrap .i64 ((IntKind.wrap .i64 ((IntKind.wrap .i64 (Y5 + 1)) + 1)) + 1)) + 1)) + 1))), (ofInt .f32 (Z7 Y5)), (ofInt .f32 (IntKind.wrap .i64 ((Z7 Y5) + 1)))⟩ : Gv)⟩ : Gh))) := by simp only [Zm, Ye, cond_true]
   rw [e]
   exact nextS (EpOk 1) Z3 [] (mR false [0, 2, 2, 2, 75]) [] (⟨.own 0 :: .i .i64 (IntKind.wrap .i64 ((IntKind.wrap .i64 ((Z7 Y5) + 1)) + 1)) :: .any :: .any :: .i .i64 0 :: .i .i64 (Y2 + 1) :: an 75 [], [.vec 99 8 (((((((((Y1.map Gh.c).set Y2.toNat [.i .i64 Y5, .i .i64 ((Y1.getD Y2.toNat default).Kind), .f .f32 ((Y1.getD Y2.toNat default).At.X), .f .f32 ((Y1.getD Y2.toNat default).At.Y), .f .f32 ((Y1.getD Y2.toNat default).At.Z), .f .f32 ((Y1.getD Y2.toNat default).Way.X), .f .f32 ((Y1.getD Y2.toNat default).Way.Y), .f .f32 ((Y1.getD Y2.toNat default).Way.Z)]).set Y2.toNat [.i .i64 Y5, .i .i64 (IntKind.wrap .i64 (Y5 + 1)), .f .f32 ((Y1.getD Y2.toNat default).At.X), .f .f32 ((Y1.getD Y2.toNat default).At.Y), .f .f32 ((Y1.getD Y2.toNat default).At.Z), .f .f32 ((Y1.getD Y2.toNat default).Way.X), .f .f32 ((Y1.getD Y2.toNat default).Way.Y), .f .f32 ((Y1.getD Y2.toNat default).Way.Z)]).set Y2.toNat [.i .i64 Y5, .i .i64 (IntKind.wrap .i64 (Y5 + 1)), .f .f32 (ofInt .f32 (IntKind.wrap .i64 ((IntKind.wrap .i64 (Y5 + 1)) + 1))), .f .f32 ((Y1.getD Y2.toNat default).At.Y), .f .f32 ((Y1.getD Y2.toNat default).At.Z), .f .f32 ((Y1.getD Y2.toNat default).Way.X), .f .f32 ((Y1.getD Y2.toNat default).Way.Y), .f .f32 ((Y1.getD Y2.toNat default).Way.Z)]).set Y2.toNat [.i .i64 Y5, .i .i64 (IntKind.wrap .i64 (Y5 + 1)), .f .f32 (ofInt .f32 (IntKind.wrap .i64 ((IntKind.wrap .i64 (Y5 + 1)) + 1))), .f .f32 (ofInt .f32 (IntKind.wrap .i64 ((IntKind.wrap .i64 ((IntKind.wrap .i64 (Y5 + 1)) + 1)) + 1))), .f .f32 ((Y1.getD Y2.toNat default).At.Z), .f .f32 ((Y1.getD Y2.toNat default).Way.X), .f .f32 ((Y1.getD Y2.toNat default).Way.Y), .f .f32 ((Y1.getD Y2.toNat default).Way.Z)]).set Y2.toNat [.i .i64 Y5, .i .i64 (IntKind.wrap .i64 (Y5 + 1)), .f .f32 (ofInt .f32 (IntKind.wrap .i64 ((IntKind.wrap .i64 (Y5 + 1)) + 1))), .f .f32 (ofInt .f32 (IntKind.wrap .i64 ((IntKind.wrap .i64 ((IntKind.wrap .i64 (Y5 + 1)) + 1)) + 1))), .f .f32 (ofInt .f32 (IntKind.wrap .i64 ((IntKind.wrap .i64 ((IntKind.wrap .i64 ((IntKind.wrap .i64 (Y5 + 1)) + 1)) + 1)) + 1))), .f .f32 ((Y1.getD Y2.toNat default).Way.X), .f .f32 ((Y1.getD Y2.toNat default).Way.Y), .f .f32 ((Y1.getD Y2.toNat default).Way.Z)]).set Y2.toNat [.i .i64 Y5, .i .i64 (IntKind.wrap .i64 (Y5 + 1)), .f .f32 (ofInt .f32 (IntKind.wrap .i64 ((IntKind.wrap .i64 (Y5 + 1)) + 1))), .f .f32 (ofInt .f32 (IntKind.wrap .i64 ((IntKind.wrap .i64 ((IntKind.wrap .i64 (Y5 + 1)) + 1)) + 1))), .f .f32 (ofInt .f32 (IntKind.wrap .i64 ((IntKind.wrap .i64 ((IntKind.wrap .i64 ((IntKind.wrap .i64 (Y5 + 1)) + 1)) + 1)) + 1))), .f .f32 (ofInt .f32 (IntKind.wrap .i64 ((IntKind.wrap .i64 ((IntKind.wrap .i64 ((IntKind.wrap .i64 ((IntKind.wrap .i64 (Y5 + 1)) + 1)) + 1)) + 1)) + 1))), .f .f32 ((Y1.getD Y2.toNat default).Way.Y), .f .f32 ((Y1.getD Y2.toNat default).Way.Z)]).set Y2.toNat [.i .i64 Y5, .i .i64 (IntKind.wrap .i64 (Y5 + 1)), .f .f32 (ofInt .f32 (IntKind.wrap .i64 ((IntKind.wrap .i64 (Y5 + 1)) + 1))), .f .f32 (ofInt .f32 (IntKind.wrap .i64 ((IntKind.wrap .i64 ((IntKind.wrap .i64 (Y5 + 1)) + 1)) + 1))), .f .f32 (ofInt .f32 (IntKind.wrap .i64 ((IntKind.wrap .i64 ((IntKind.wrap .i64 ((IntKind.wrap .i64 (Y5 + 1)) + 1)) + 1)) + 1))), .f .f32 (ofInt .f32 (IntKind.wrap .i64 ((IntKind.wrap .i64 ((IntKind.wrap .i64 ((IntKind.wrap .i64 ((IntKind.wrap .i64 (Y5 + 1)) + 1)) + 1)) + 1)) + 1))), .f .f32 (ofInt .f32 (Z7 Y5)), .f .f32 ((Y1.getD Y2.toNat default).Way.Z)]).set Y2.toNat [.i .i64 Y5, .i .i64 (IntKind.wrap .i64 (Y5 + 1)), .f .f32 (ofInt .f32 (IntKind.wrap .i64 ((IntKind.wrap .i64 (Y5 + 1)) + 1))), .f .f32 (ofInt .f32 (IntKind.wrap .i64 ((IntKind.wrap .i64 ((IntKind.wrap .i64 (Y5 + 1)) + 1)) + 1))), .f .f32 (ofInt .f32 (IntKind.wrap .i64 ((IntKind.wrap .i64 ((IntKind.wrap .i64 ((IntKind.wrap .i64 (Y5 + 1)) + 1)) + 1)) + 1))), .f .f32 (ofInt .f32 (IntKind.wrap .i64 ((IntKind.wrap .i64 ((IntKind.wrap .i64 ((IntKind.wrap .i64 ((IntKind.wrap .i64 (Y5 + 1)) + 1)) + 1)) + 1)) + 1))), .f .f32 (ofInt .f32 (Z7 Y5)), .f .f32 (ofInt .f32 (IntKind.wrap .i64 ((Z7 Y5) + 1)))]) false]⟩) (p (sB Ye <| sX Gh.c Y1 Y2 Yt Yu <| sV Gh.c Y1 Y2.toNat Yy <| sW .i64 (Y5 + 1) <| sC (show 0 ≤ Y2 ∧ Int.toNat Y2 < ((Y1.map Gh.c).set Y2.toNat [.i .i64 Y5, .i .i64 ((Y1.getD Y2.toNat default).Kind), .f .f32 ((Y1.getD Y2.toNat default).At.X), .f .f32 ((Y1.getD Y2.toNat default).At.Y), .f .f32 ((Y1.getD Y2.toNat default).At.Z), .f .f32 ((Y1.getD Y2.toNat default).Way.X), .f .f32 ((Y1.getD Y2.toNat default).Way.Y), .f .f32 ((Y1.getD Y2.toNat default).Way.Z)]).length from (by simpa using idx_ok (c := Gh.c) (l := (Y1.set Y2.toNat (⟨Y5, (Y1.getD Y2.toNat default).Kind, (Y1.getD Y2.toNat default).At, (Y1.getD Y2.toNat default).Way⟩ : Gh))) (i := Y2) Yt YC)) <| sE (show ((Y1.map Gh.c).set Y2.toNat [.i .i64 Y5, .i .i64 ((Y1.getD Y2.toNat default).Kind), .f .f32 ((Y1.getD Y2.toNat default).At.X), .f .f32 ((Y1.getD Y2.toNat default).At.Y), .f .f32 ((Y1.getD Y2.toNat default).At.Z), .f .f32 ((Y1.getD Y2.toNat default).Way.X), .f .f32 ((Y1.getD Y2.toNat default).Way.Y), .f .f32 ((Y1.getD Y2.toNat default).Way.Z)])[Y2.toNat]? = some [.i .i64 Y5, .i .i64 ((Y1.getD Y2.toNat default).Kind), .f .f32 ((Y1.getD Y2.toNat default).At.X), .f .f32 ((Y1.getD Y2.toNat default).At.Y), .f .f32 ((Y1.getD Y2.toNat default).At.Z), .f .f32 ((Y1.getD Y2.toNat default).Way.X), .f .f32 ((Y1.getD Y2.toNat default).Way.Y), .f .f32 ((Y1.getD Y2.toNat default).Way.Z)] from List.getElem?_set_self (by simpa using Yy)) <| sW .i64 ((IntKind.wrap .i64 (Y5 + 1)) + 1) <| sC (show 0 ≤ Y2 ∧ Int.toNat Y2 < (((Y1.map Gh.c).set Y2.toNat [.i .i64 Y5, .i .i64 ((Y1.getD Y2.toNat default).Kind), .f .f32 ((Y1.getD Y2.toNat default).At.X), .f .f32 ((Y1.getD Y2.toNat default).At.Y), .f .f32 ((Y1.getD Y2.toNat default).At.Z), .f .f32 ((Y1.getD Y2.toNat default).Way.X), .f .f32 ((Y1.getD Y2.toNat default).Way.Y), .f .f32 ((Y1.getD Y2.toNat default).Way.Z)]).set Y2.toNat [.i .i64 Y5, .i .i64 (IntKind.wrap .i64 (Y5 + 1)), .f .f32 ((Y1.getD Y2.toNat default).At.X), .f .f32 ((Y1.getD Y2.toNat default).At.Y), .f .f32 ((Y1.getD Y2.toNat default).At.Z), .f .f32 ((Y1.getD Y2.toNat default).Way.X), .f .f32 ((Y1.getD Y2.toNat default).Way.Y), .f .f32 ((Y1.getD Y2.toNat default).Way.Z)]).length from (by simpa using idx_ok (c := Gh.c) (l := (Y1.set Y2.toNat (⟨Y5, (IntKind.wrap .i64 (Y5 + 1)), (Y1.getD Y2.toNat default).At, (Y1.getD Y2.toNat default).Way⟩ : Gh))) (i := Y2) Yt YE)) <| sE (show (((Y1.map Gh.c).set Y2.toNat [.i .i64 Y5, .i .i64 ((Y1.getD Y2.toNat default).Kind), .f .f32 ((Y1.getD Y2.toNat default).At.X), .f .f32 ((Y1.getD Y2.toNat default).At.Y), .f .f32 ((Y1.getD Y2.toNat default).At.Z), .f .f32 ((Y1.getD Y2.toNat default).Way.X), .f .f32 ((Y1.getD Y2.toNat default).Way.Y), .f .f32 ((Y1.getD Y2.toNat default).Way.Z)]).set Y2.toNat [.i .i64 Y5, .i .i64 (IntKind.wrap .i64 (Y5 + 1)), .f .f32 ((Y1.getD Y2.toNat default).At.X), .f .f32 ((Y1.getD Y2.toNat default).At.Y), .f .f32 ((Y1.getD Y2.toNat default).At.Z), .f .f32 ((Y1.getD Y2.toNat default).Way.X), .f .f32 ((Y1.getD Y2.toNat default).Way.Y), .f .f32 ((Y1.getD Y2.toNat default).Way.Z)])[Y2.toNat]? = some [.i .i64 Y5, .i .i64 (IntKind.wrap .i64 (Y5 + 1)), .f .f32 ((Y1.getD Y2.toNat default).At.X), .f .f32 ((Y1.getD Y2.toNat default).At.Y), .f .f32 ((Y1.getD Y2.toNat default).At.Z), .f .f32 ((Y1.getD Y2.toNat default).Way.X), .f .f32 ((Y1.getD Y2.toNat default).Way.Y), .f .f32 ((Y1.getD Y2.toNat default).Way.Z)] from List.getElem?_set_self (by simpa using Yy)) <| sW .i64 ((IntKind.wrap .i64 ((IntKind.wrap .i64 (Y5 + 1)) + 1)) + 1) <| sC (show 0 ≤ Y2 ∧ Int.toNat Y2 < ((((Y1.map Gh.c).set Y2.toNat [.i .i64 Y5, .i .i64 ((Y1.getD Y2.toNat default).Kind), .f .f32 ((Y1.getD Y2.toNat default).At.X), .f .f32 ((Y1.getD Y2.toNat default).At.Y), .f .f32 ((Y1.getD Y2.toNat default).At.Z), .f .f32 ((Y1.getD Y2.toNat default).Way.X), .f .f32 ((Y1.getD Y2.toNat default).Way.Y), .f .f32 ((Y1.getD Y2.toNat default).Way.Z)]).set Y2.toNat [.i .i64 Y5, .i .i64 (IntKind.wrap .i64 (Y5 + 1)), .f .f32 ((Y1.getD Y2.toNat default).At.X), .f .f32 ((Y1.getD Y2.toNat default).At.Y), .f .f32 ((Y1.getD Y2.toNat default).At.Z), .f .f32 ((Y1.getD Y2.toNat default).Way.X), .f .f32 ((Y1.getD Y2.toNat default).Way.Y), .f .f32 ((Y1.getD Y2.toNat default).Way.Z)]).set Y2.toNat [.i .i64 Y5, .i .i64 (IntKind.wrap .i64 (Y5 + 1)), .f .f32 (ofInt .f32 (IntKind.wrap .i64 ((IntKind.wrap .i64 (Y5 + 1)) + 1))), .f .f32 ((Y1.getD Y2.toNat default).At.Y), .f .f32 ((Y1.getD Y2.toNat default).At.Z), .f .f32 ((Y1.getD Y2.toNat default).Way.X), .f .f32 ((Y1.getD Y2.toNat default).Way.Y), .f .f32 ((Y1.getD Y2.toNat default).Way.Z)]).length from (by simpa using idx_ok (c := Gh.c) (l := (Y1.set Y2.toNat (⟨Y5, (IntKind.wrap .i64 (Y5 + 1)), (⟨(ofInt .f32 (IntKind.wrap .i64 ((IntKind.wrap .i64 (Y5 + 1)) + 1))), (Y1.getD Y2.toNat default).At.Y, (Y1.getD Y2.toNat default).At.Z⟩ : Gv), (Y1.getD Y2.toNat default).Way⟩ : Gh))) (i := Y2) Yt YL)) <| sE (show ((((Y1.map Gh.c).set Y2.toNat [.i .i64 Y5, .i .i64 ((Y1.getD Y2.toNat default).Kind), .f .f32 ((Y1.getD Y2.toNat default).At.X), .f .f32 ((Y1.getD Y2.toNat default).At.Y), .f .f32 ((Y1.getD Y2.toNat default).At.Z), .f .f32 ((Y1.getD Y2.toNat default).Way.X), .f .f32 ((Y1.getD Y2.toNat default).Way.Y), .f .f32 ((Y1.getD Y2.toNat default).Way.Z)]).set Y2.toNat [.i .i64 Y5, .i .i64 (IntKind.wrap .i64 (Y5 + 1)), .f .f32 ((Y1.getD Y2.toNat default).At.X), .f .f32 ((Y1.getD Y2.toNat default).At.Y), .f .f32 ((Y1.getD Y2.toNat default).At.Z), .f .f32 ((Y1.getD Y2.toNat default).Way.X), .f .f32 ((Y1.getD Y2.toNat default).Way.Y), .f .f32 ((Y1.getD Y2.toNat default).Way.Z)]).set Y2.toNat [.i .i64 Y5, .i .i64 (IntKind.wrap .i64 (Y5 + 1)), .f .f32 (ofInt .f32 (IntKind.wrap .i64 ((IntKind.wrap .i64 (Y5 + 1)) + 1))), .f .f32 ((Y1.getD Y2.toNat default).At.Y), .f .f32 ((Y1.getD Y2.toNat default).At.Z), .f .f32 ((Y1.getD Y2.toNat default).Way.X), .f .f32 ((Y1.getD Y2.toNat default).Way.Y), .f .f32 ((Y1.getD Y2.toNat default).Way.Z)])[Y2.toNat]? = some [.i .i64 Y5, .i .i64 (IntKind.wrap .i64 (Y5 + 1)), .f .f32 (ofInt .f32 (IntKind.wrap .i64 ((IntKind.wrap .i64 (Y5 + 1)) + 1))), .f .f32 ((Y1.getD Y2.toNat default).At.Y), .f .f32 ((Y1.getD Y2.toNat default).At.Z), .f .f32 ((Y1.getD Y2.toNat default).Way.X), .f .f32 ((Y1.getD Y2.toNat default).Way.Y), .f .f32 ((Y1.getD Y2.toNat default).Way.Z)] from List.getElem?_set_self (by simpa using Yy)) <| sW .i64 ((IntKind.wrap .i64 ((IntKind.wrap .i64 ((IntKind.wrap .i64 (Y5 + 1)) + 1)) + 1)) + 1) <| sC (show 0 ≤ Y2 ∧ Int.toNat Y2 < (((((Y1.map Gh.c).set Y2.toNat [.i .i64 Y5, .i .i64 ((Y1.getD Y2.toNat default).Kind), .f .f32 ((Y1.getD Y2.toNat default).At.X), .f .f32 ((Y1.getD Y2.toNat default).At.Y), .f .f32 ((Y1.getD Y2.toNat default).At.Z), .f .f32 ((Y1.getD Y2.toNat default).Way.X), .f .f32 ((Y1.getD Y2.toNat default).Way.Y), .f .f32 ((Y1.getD Y2.toNat default).Way.Z)]).set Y2.toNat [.i .i64 Y5, .i .i64 (IntKind.wrap .i64 (Y5 + 1)), .f .f32 ((Y1.getD Y2.toNat default).At.X), .f .f32 ((Y1.getD Y2.toNat default).At.Y), .f .f32 ((Y1.getD Y2.toNat default).At.Z), .f .f32 ((Y1.getD Y2.toNat default).Way.X), .f .f32 ((Y1.getD Y2.toNat default).Way.Y), .f .f32 ((Y1.getD Y2.toNat default).Way.Z)]).set Y2.toNat [.i .i64 Y5, .i .i64 (IntKind.wrap .i64 (Y5 + 1)), .f .f32 (ofInt .f32 (IntKind.wrap .i64 ((IntKind.wrap .i64 (Y5 + 1)) + 1))), .f .f32 ((Y1.getD Y2.toNat default).At.Y), .f .f32 ((Y1.getD Y2.toNat default).At.Z), .f .f32 ((Y1.getD Y2.toNat default).Way.X), .f .f32 ((Y1.getD Y2.toNat default).Way.Y), .f .f32 ((Y1.getD Y2.toNat default).Way.Z)]).set Y2.toNat [.i .i64 Y5, .i .i64 (IntKind.wrap .i64 (Y5 + 1)), .f .f32 (ofInt .f32 (IntKind.wrap .i64 ((IntKind.wrap .i64 (Y5 + 1)) + 1))), .f .f32 (ofInt .f32 (IntKind.wrap .i64 ((IntKind.wrap .i64 ((IntKind.wrap .i64 (Y5 + 1)) + 1)) + 1))), .f .f32 ((Y1.getD Y2.toNat default).At.Z), .f .f32 ((Y1.getD Y2.toNat default).Way.X), .f .f32 ((Y1.getD Y2.toNat default).Way.Y), .f .f32 ((Y1.getD Y2.toNat default).Way.Z)]).length from (by simpa using idx_ok (c := Gh.c) (l := (Y1.set Y2.toNat (⟨Y5, (IntKind.wrap .i64 (Y5 + 1)), (⟨(ofInt .f32 (IntKind.wrap .i64 ((IntKind.wrap .i64 (Y5 + 1)) + 1))), (ofInt .f32 (IntKind.wrap .i64 ((IntKind.wrap .i64 ((IntKind.wrap .i64 (Y5 + 1)) + 1)) + 1))), (Y1.getD Y2.toNat default).At.Z⟩ : Gv), (Y1.getD Y2.toNat default).Way⟩ : Gh))) (i := Y2) Yt YU)) <| sE (show (((((Y1.map Gh.c).set Y2.toNat [.i .i64 Y5, .i .i64 ((Y1.getD Y2.toNat default).Kind), .f .f32 ((Y1.getD Y2.toNat default).At.X), .f .f32 ((Y1.getD Y2.toNat default).At.Y), .f .f32 ((Y1.getD Y2.toNat default).At.Z), .f .f32 ((Y1.getD Y2.toNat default).Way.X), .f .f32 ((Y1.getD Y2.toNat default).Way.Y), .f .f32 ((Y1.getD Y2.toNat default).Way.Z)]).set Y2.toNat [.i .i64 Y5, .i .i64 (IntKind.wrap .i64 (Y5 + 1)), .f .f32 ((Y1.getD Y2.toNat default).At.X), .f .f32 ((Y1.getD Y2.toNat default).At.Y), .f .f32 ((Y1.getD Y2.toNat default).At.Z), .f .f32 ((Y1.getD Y2.toNat default).Way.X), .f .f32 ((Y1.getD Y2.toNat default).Way.Y), .f .f32 ((Y1.getD Y2.toNat default).Way.Z)]).set Y2.toNat [.i .i64 Y5, .i .i64 (IntKind.wrap .i64 (Y5 + 1)), .f .f32 (ofInt .f32 (IntKind.wrap .i64 ((IntKind.wrap .i64 (Y5 + 1)) + 1))), .f .f32 ((Y1.getD Y2.toNat default).At.Y), .f .f32 ((Y1.getD Y2.toNat default).At.Z), .f .f32 ((Y1.getD Y2.toNat default).Way.X), .f .f32 ((Y1.getD Y2.toNat default).Way.Y), .f .f32 ((Y1.getD Y2.toNat default).Way.Z)]).set Y2.toNat [.i .i64 Y5, .i .i64 (IntKind.wrap .i64 (Y5 + 1)), .f .f32 (ofInt .f32 (IntKind.wrap .i64 ((IntKind.wrap .i64 (Y5 + 1)) + 1))), .f .f32 (ofInt .f32 (IntKind.wrap .i64 ((IntKind.wrap .i64 ((IntKind.wrap .i64 (Y5 + 1)) + 1)) + 1))), .f .f32 ((Y1.getD Y2.toNat default).At.Z), .f .f32 ((Y1.getD Y2.toNat default).Way.X), .f .f32 ((Y1.getD Y2.toNat default).Way.Y), .f .f32 ((Y1.getD Y2.toNat default).Way.Z)])[Y2.toNat]? = some [.i .i64 Y5, .i .i64 (IntKind.wrap .i64 (Y5 + 1)), .f .f32 (ofInt .f32 (IntKind.wrap .i64 ((IntKind.wrap .i64 (Y5 + 1)) + 1))), .f .f32 (ofInt .f32 (IntKind.wrap .i64 ((IntKind.wrap .i64 ((IntKind.wrap .i64 (Y5 + 1)) + 1)) + 1))), .f .f32 ((Y1.getD Y2.toNat default).At.Z), .f .f32 ((Y1.getD Y2.toNat default).Way.X), .f .f32 ((Y1.getD Y2.toNat default).Way.Y), .f .f32 ((Y1.getD Y2.toNat default).Way.Z)] from List.getElem?_set_self (by simpa using Yy)) <| sW .i64 ((IntKind.wrap .i64 ((IntKind.wrap .i64 ((IntKind.wrap .i64 ((IntKind.wrap .i64 (Y5 + 1)) + 1)) + 1)) + 1)) + 1) <| sC (show 0 ≤ Y2 ∧ Int.toNat Y2 < ((((((Y1.map Gh.c).set Y2.toNat [.i .i64 Y5, .i .i64 ((Y1.getD Y2.toNat default).Kind), .f .f32 ((Y1.getD Y2.toNat default).At.X), .f .f32 ((Y1.getD Y2.toNat default).At.Y), .f .f32 ((Y1.getD Y2.toNat default).At.Z), .f .f32 ((Y1.getD Y2.toNat default).Way.X), .f .f32 ((Y1.getD Y2.toNat default).Way.Y), .f .f32 ((Y1.getD Y2.toNat default).Way.Z)]).set Y2.toNat [.i .i64 Y5, .i .i64 (IntKind.wrap .i64 (Y5 + 1)), .f .f32 ((Y1.getD Y2.toNat default).At.X), .f .f32 ((Y1.getD Y2.toNat default).At.Y), .f .f32 ((Y1.getD Y2.toNat default).At.Z), .f .f32 ((Y1.getD Y2.toNat default).Way.X), .f .f32 ((Y1.getD Y2.toNat default).Way.Y), .f .f32 ((Y1.getD Y2.toNat default).Way.Z)]).set Y2.toNat [.i .i64 Y5, .i .i64 (IntKind.wrap .i64 (Y5 + 1)), .f .f32 (ofInt .f32 (IntKind.wrap .i64 ((IntKind.wrap .i64 (Y5 + 1)) + 1))), .f .f32 ((Y1.getD Y2.toNat default).At.Y), .f .f32 ((Y1.getD Y2.toNat default).At.Z), .f .f32 ((Y1.getD Y2.toNat default).Way.X), .f .f32 ((Y1.getD Y2.toNat default).Way.Y), .f .f32 ((Y1.getD Y2.toNat default).Way.Z)]).set Y2.toNat [.i .i64 Y5, .i .i64 (IntKind.wrap .i64 (Y5 + 1)), .f .f32 (ofInt .f32 (IntKind.wrap .i64 ((IntKind.wrap .i64 (Y5 + 1)) + 1))), .f .f32 (ofInt .f32 (IntKind.wrap .i64 ((IntKind.wrap .i64 ((IntKind.wrap .i64 (Y5 + 1)) + 1)) + 1))), .f .f32 ((Y1.getD Y2.toNat default).At.Z), .f .f32 ((Y1.getD Y2.toNat default).Way.X), .f .f32 ((Y1.getD Y2.toNat default).Way.Y), .f .f32 ((Y1.getD Y2.toNat default).Way.Z)]).set Y2.toNat [.i .i64 Y5, .i .i64 (IntKind.wrap .i64 (Y5 + 1)), .f .f32 (ofInt .f32 (IntKind.wrap .i64 ((IntKind.wrap .i64 (Y5 + 1)) + 1))), .f .f32 (ofInt .f32 (IntKind.wrap .i64 ((IntKind.wrap .i64 ((IntKind.wrap .i64 (Y5 + 1)) + 1)) + 1))), .f .f32 (ofInt .f32 (IntKind.wrap .i64 ((IntKind.wrap .i64 ((IntKind.wrap .i64 ((IntKind.wrap .i64 (Y5 + 1)) + 1)) + 1)) + 1))), .f .f32 ((Y1.getD Y2.toNat default).Way.X), .f .f32 ((Y1.getD Y2.toNat default).Way.Y), .f .f32 ((Y1.getD Y2.toNat default).Way.Z)]).length from (by simpa using idx_ok (c := Gh.c) (l := (Y1.set Y2.toNat (⟨Y5, (IntKind.wrap .i64 (Y5 + 1)), (⟨(ofInt .f32 (IntKind.wrap .i64 ((IntKind.wrap .i64 (Y5 + 1)) + 1))), (ofInt .f32 (IntKind.wrap .i64 ((IntKind.wrap .i64 ((IntKind.wrap .i64 (Y5 + 1)) + 1)) + 1))), (ofInt .f32 (IntKind.wrap .i64 ((IntKind.wrap .i64 ((IntKind.wrap .i64 ((IntKind.wrap .i64 (Y5 + 1)) + 1)) + 1)) + 1)))⟩ : Gv), (Y1.getD Y2.toNat default).Way⟩ : Gh))) (i := Y2) Yt y_7)) <| sE (show ((((((Y1.map Gh.c).set Y2.toNat [.i .i64 Y5, .i .i64 ((Y1.getD Y2.toNat default).Kind), .f .f32 ((Y1.getD Y2.toNat default).At.X), .f .f32 ((Y1.getD Y2.toNat default).At.Y), .f .f32 ((Y1.getD Y2.toNat default).At.Z), .f .f32 ((Y1.getD Y2.toNat default).Way.X), .f .f32 ((Y1.getD Y2.toNat default).Way.Y), .f .f32 ((Y1.getD Y2.toNat default).Way.Z)]).set Y2.toNat [.i .i64 Y5, .i .i64 (IntKind.wrap .i64 (Y5 + 1)), .f .f32 ((Y1.getD Y2.toNat default).At.X), .f .f32 ((Y1.getD Y2.toNat default).At.Y), .f .f32 ((Y1.getD Y2.toNat default).At.Z), .f .f32 ((Y1.getD Y2.toNat default).Way.X), .f .f32 ((Y1.getD Y2.toNat default).Way.Y), .f .f32 ((Y1.getD Y2.toNat default).Way.Z)]).set Y2.toNat [.i .i64 Y5, .i .i64 (IntKind.wrap .i64 (Y5 + 1)), .f .f32 (ofInt .f32 (IntKind.wrap .i64 ((IntKind.wrap .i64 (Y5 + 1)) + 1))), .f .f32 ((Y1.getD Y2.toNat default).At.Y), .f .f32 ((Y1.getD Y2.toNat default).At.Z), .f .f32 ((Y1.getD Y2.toNat default).Way.X), .f .f32 ((Y1.getD Y2.toNat default).Way.Y), .f .f32 ((Y1.getD Y2.toNat default).Way.Z)]).set Y2.toNat [.i .i64 Y5, .i .i64 (IntKind.wrap .i64 (Y5 + 1)), .f .f32 (ofInt .f32 (IntKind.wrap .i64 ((IntKind.wrap .i64 (Y5 + 1)) + 1))), .f .f32 (ofInt .f32 (IntKind.wrap .i64 ((IntKind.wrap .i64 ((IntKind.wrap .i64 (Y5 + 1)) + 1)) + 1))), .f .f32 ((Y1.getD Y2.toNat default).At.Z), .f .f32 ((Y1.getD Y2.toNat default).Way.X), .f .f32 ((Y1.getD Y2.toNat default).Way.Y), .f .f32 ((Y1.getD Y2.toNat default).Way.Z)]).set Y2.toNat [.i .i64 Y5, .i .i64 (IntKind.wrap .i64 (Y5 + 1)), .f .f32 (ofInt .f32 (IntKind.wrap .i64 ((IntKind.wrap .i64 (Y5 + 1)) + 1))), .f .f32 (ofInt .f32 (IntKind.wrap .i64 ((IntKind.wrap .i64 ((IntKind.wrap .i64 (Y5 + 1)) + 1)) + 1))), .f .f32 (ofInt .f32 (IntKind.wrap .i64 ((IntKind.wrap .i64 ((IntKind.wrap .i64 ((IntKind.wrap .i64 (Y5 + 1)) + 1)) + 1)) + 1))), .f .f32 ((Y1.getD Y2.toNat default).Way.X), .f .f32 ((Y1.getD Y2.toNat default).Way.Y), .f .f32 ((Y1.getD Y2.toNat default).Way.Z)])[Y2.toNat]? = some [.i .i64 Y5, .i .i64 (IntKind.wrap .i64 (Y5 + 1)), .f .f32 (ofInt .f32 (IntKind.wrap .i64 ((IntKind.wrap .i64 (Y5 + 1)) + 1))), .f .f32 (ofInt .f32 (IntKind.wrap .i64 ((IntKind.wrap .i64 ((IntKind.wrap .i64 (Y5 + 1)) + 1)) + 1))), .f .f32 (ofInt .f32 (IntKind.wrap .i64 ((IntKind.wrap .i64 ((IntKind.wrap .i64 ((IntKind.wrap .i64 (Y5 + 1)) + 1)) + 1)) + 1))), .f .f32 ((Y1.getD Y2.toNat default).Way.X), .f .f32 ((Y1.getD Y2.toNat default).Way.Y), .f .f32 ((Y1.getD Y2.toNat default).Way.Z)] from List.getElem?_set_self (by simpa using Yy)) <| sM (show IntKind.wrap .i64 ((IntKind.wrap .i64 ((IntKind.wrap .i64 ((IntKind.wrap .i64 ((IntKind.wrap .i64 ((IntKind.wrap .i64 (Y5 + 1)) + 1)) + 1)) + 1)) + 1)) + 1) = (Z7 Y5) from rfl) <| sC (show 0 ≤ Y2 ∧ Int.toNat Y2 < (((((((Y1.map Gh.c).set Y2.toNat [.i .i64 Y5, .i .i64 ((Y1.getD Y2.toNat default).Kind), .f .f32 ((Y1.getD Y2.toNat default).At.X), .f .f32 ((Y1.getD Y2.toNat default).At.Y), .f .f32 ((Y1.getD Y2.toNat default).At.Z), .f .f32 ((Y1.getD Y2.toNat default).Way.X), .f .f32 ((Y1.getD Y2.toNat default).Way.Y), .f .f32 ((Y1.getD Y2.toNat default).Way.Z)]).set Y2.toNat [.i .i64 Y5, .i .i64 (IntKind.wrap .i64 (Y5 + 1)), .f .f32 ((Y1.getD Y2.toNat default).At.X), .f .f32 ((Y1.getD Y2.toNat default).At.Y), .f .f32 ((Y1.getD Y2.toNat default).At.Z), .f .f32 ((Y1.getD Y2.toNat default).Way.X), .f .f32 ((Y1.getD Y2.toNat default).Way.Y), .f .f32 ((Y1.getD Y2.toNat default).Way.Z)]).set Y2.toNat [.i .i64 Y5, .i .i64 (IntKind.wrap .i64 (Y5 + 1)), .f .f32 (ofInt .f32 (IntKind.wrap .i64 ((IntKind.wrap .i64 (Y5 + 1)) + 1))), .f .f32 ((Y1.getD Y2.toNat default).At.Y), .f .f32 ((Y1.getD Y2.toNat default).At.Z), .f .f32 ((Y1.getD Y2.toNat default).Way.X), .f .f32 ((Y1.getD Y2.toNat default).Way.Y), .f .f32 ((Y1.getD Y2.toNat default).Way.Z)]).set Y2.toNat [.i .i64 Y5, .i .i64 (IntKind.wrap .i64 (Y5 + 1)), .f .f32 (ofInt .f32 (IntKind.wrap .i64 ((IntKind.wrap .i64 (Y5 + 1)) + 1))), .f .f32 (ofInt .f32 (IntKind.wrap .i64 ((IntKind.wrap .i64 ((IntKind.wrap .i64 (Y5 + 1)) + 1)) + 1))), .f .f32 ((Y1.getD Y2.toNat default).At.Z), .f .f32 ((Y1.getD Y2.toNat default).Way.X), .f .f32 ((Y1.getD Y2.toNat default).Way.Y), .f .f32 ((Y1.getD Y2.toNat default).Way.Z)]).set Y2.toNat [.i .i64 Y5, .i .i64 (IntKind.wrap .i64 (Y5 + 1)), .f .f32 (ofInt .f32 (IntKind.wrap .i64 ((IntKind.wrap .i64 (Y5 + 1)) + 1))), .f .f32 (ofInt .f32 (IntKind.wrap .i64 ((IntKind.wrap .i64 ((IntKind.wrap .i64 (Y5 + 1)) + 1)) + 1))), .f .f32 (ofInt .f32 (IntKind.wrap .i64 ((IntKind.wrap .i64 ((IntKind.wrap .i64 ((IntKind.wrap .i64 (Y5 + 1)) + 1)) + 1)) + 1))), .f .f32 ((Y1.getD Y2.toNat default).Way.X), .f .f32 ((Y1.getD Y2.toNat default).Way.Y), .f .f32 ((Y1.getD Y2.toNat default).Way.Z)]).set Y2.toNat [.i .i64 Y5, .i .i64 (IntKind.wrap .i64 (Y5 + 1)), .f .f32 (ofInt .f32 (IntKind.wrap .i64 ((IntKind.wrap .i64 (Y5 + 1)) + 1))), .f .f32 (ofInt .f32 (IntKind.wrap .i64 ((IntKind.wrap .i64 ((IntKind.wrap .i64 (Y5 + 1)) + 1)) + 1))), .f .f32 (ofInt .f32 (IntKind.wrap .i64 ((IntKind.wrap .i64 ((IntKind.wrap .i64 ((IntKind.wrap .i64 (Y5 + 1)) + 1)) + 1)) + 1))), .f .f32 (ofInt .f32 (IntKind.wrap .i64 ((IntKind.wrap .i64 ((IntKind.wrap .i64 ((IntKind.wrap .i64 ((IntKind.wrap .i64 (Y5 + 1)) + 1)) + 1)) + 1)) + 1))), .f .f32 ((Y1.getD Y2.toNat default).Way.Y), .f .f32 ((Y1.getD Y2.toNat default).Way.Z)]).length from (by simpa using idx_ok (c := Gh.c) (l := (Y1.set Y2.toNat (⟨Y5, (IntKind.wrap .i64 (Y5 + 1)), (⟨(ofInt .f32 (IntKind.wrap .i64 ((IntKind.wrap .i64 (Y5 + 1)) + 1))), (ofInt .f32 (IntKind.wrap .i64 ((IntKind.wrap .i64 ((IntKind.wrap .i64 (Y5 + 1)) + 1)) + 1))), (ofInt .f32 (IntKind.wrap .i64 ((IntKind.wrap .i64 ((IntKind.wrap .i64 ((IntKind.wrap .i64 (Y5 + 1)) + 1)) + 1)) + 1)))⟩ : Gv), (⟨(ofInt .f32 (IntKind.wrap .i64 ((IntKind.wrap .i64 ((IntKind.wrap .i64 ((IntKind.wrap .i64 ((IntKind.wrap .i64 (Y5 + 1)) + 1)) + 1)) + 1)) + 1))), (Y1.getD Y2.toNat default).Way.Y, (Y1.getD Y2.toNat default).Way.Z⟩ : Gv)⟩ : Gh))) (i := Y2) Yt y_8)) <| sE (show (((((((Y1.map Gh.c).set Y2.toNat [.i .i64 Y5, .i .i64 ((Y1.getD Y2.toNat default).Kind), .f .f32 ((Y1.getD Y2.toNat default).At.X), .f .f32 ((Y1.getD Y2.toNat default).At.Y), .f .f32 ((Y1.getD Y2.toNat default).At.Z), .f .f32 ((Y1.getD Y2.toNat default).Way.X), .f .f32 ((Y1.getD Y2.toNat default).Way.Y), .f .f32 ((Y1.getD Y2.toNat default).Way.Z)]).set Y2.toNat [.i .i64 Y5, .i .i64 (IntKind.wrap .i64 (Y5 + 1)), .f .f32 ((Y1.getD Y2.toNat default).At.X), .f .f32 ((Y1.getD Y2.toNat default).At.Y), .f .f32 ((Y1.getD Y2.toNat default).At.Z), .f .f32 ((Y1.getD Y2.toNat default).Way.X), .f .f32 ((Y1.getD Y2.toNat default).Way.Y), .f .f32 ((Y1.getD Y2.toNat default).Way.Z)]).set Y2.toNat [.i .i64 Y5, .i .i64 (IntKind.wrap .i64 (Y5 + 1)), .f .f32 (ofInt .f32 (IntKind.wrap .i64 ((IntKind.wrap .i64 (Y5 + 1)) + 1))), .f .f32 ((Y1.getD Y2.toNat default).At.Y), .f .f32 ((Y1.getD Y2.toNat default).At.Z), .f .f32 ((Y1.getD Y2.toNat default).Way.X), .f .f32 ((Y1.getD Y2.toNat default).Way.Y), .f .f32 ((Y1.getD Y2.toNat default).Way.Z)]).set Y2.toNat [.i .i64 Y5, .i .i64 (IntKind.wrap .i64 (Y5 + 1)), .f .f32 (ofInt .f32 (IntKind.wrap .i64 ((IntKind.wrap .i64 (Y5 + 1)) + 1))), .f .f32 (ofInt .f32 (IntKind.wrap .i64 ((IntKind.wrap .i64 ((IntKind.wrap .i64 (Y5 + 1)) + 1)) + 1))), .f .f32 ((Y1.getD Y2.toNat default).At.Z), .f .f32 ((Y1.getD Y2.toNat default).Way.X), .f .f32 ((Y1.getD Y2.toNat default).Way.Y), .f .f32 ((Y1.getD Y2.toNat default).Way.Z)]).set Y2.toNat [.i .i64 Y5, .i .i64 (IntKind.wrap .i64 (Y5 + 1)), .f .f32 (ofInt .f32 (IntKind.wrap .i64 ((IntKind.wrap .i64 (Y5 + 1)) + 1))), .f .f32 (ofInt .f32 (IntKind.wrap .i64 ((IntKind.wrap .i64 ((IntKind.wrap .i64 (Y5 + 1)) + 1)) + 1))), .f .f32 (ofInt .f32 (IntKind.wrap .i64 ((IntKind.wrap .i64 ((IntKind.wrap .i64 ((IntKind.wrap .i64 (Y5 + 1)) + 1)) + 1)) + 1))), .f .f32 ((Y1.getD Y2.toNat default).Way.X), .f .f32 ((Y1.getD Y2.toNat default).Way.Y), .f .f32 ((Y1.getD Y2.toNat default).Way.Z)]).set Y2.toNat [.i .i64 Y5, .i .i64 (IntKind.wrap .i64 (Y5 + 1)), .f .f32 (ofInt .f32 (IntKind.wrap .i64 ((IntKind.wrap .i64 (Y5 + 1)) + 1))), .f .f32 (ofInt .f32 (IntKind.wrap .i64 ((IntKind.wrap .i64 ((IntKind.wrap .i64 (Y5 + 1)) + 1)) + 1))), .f .f32 (ofInt .f32 (IntKind.wrap .i64 ((IntKind.wrap .i64 ((IntKind.wrap .i64 ((IntKind.wrap .i64 (Y5 + 1)) + 1)) + 1)) + 1))), .f .f32 (ofInt .f32 (IntKind.wrap .i64 ((IntKind.wrap .i64 ((IntKind.wrap .i64 ((IntKind.wrap .i64 ((IntKind.wrap .i64 (Y5 + 1)) + 1)) + 1)) + 1)) + 1))), .f .f32 ((Y1.getD Y2.toNat default).Way.Y), .f .f32 ((Y1.getD Y2.toNat default).Way.Z)])[Y2.toNat]? = some [.i .i64 Y5, .i .i64 (IntKind.wrap .i64 (Y5 + 1)), .f .f32 (ofInt .f32 (IntKind.wrap .i64 ((IntKind.wrap .i64 (Y5 + 1)) + 1))), .f .f32 (ofInt .f32 (IntKind.wrap .i64 ((IntKind.wrap .i64 ((IntKind.wrap .i64 (Y5 + 1)) + 1)) + 1))), .f .f32 (ofInt .f32 (IntKind.wrap .i64 ((IntKind.wrap .i64 ((IntKind.wrap .i64 ((IntKind.wrap .i64 (Y5 + 1)) + 1)) + 1)) + 1))), .f .f32 (ofInt .f32 (IntKind.wrap .i64 ((IntKind.wrap .i64 ((IntKind.wrap .i64 ((IntKind.wrap .i64 ((IntKind.wrap .i64 (Y5 + 1)) + 1)) + 1)) + 1)) + 1))), .f .f32 ((Y1.getD Y2.toNat default).Way.Y), .f .f32 ((Y1.getD Y2.toNat default).Way.Z)] from List.getElem?_set_self (by simpa using Yy)) <| sW .i64 ((Z7 Y5) + 1) <| sC (show 0 ≤ Y2 ∧ Int.toNat Y2 < ((((((((Y1.map Gh.c).set Y2.toNat [.i .i64 Y5, .i .i64 ((Y1.getD Y2.toNat default).Kind), .f .f32 ((Y1.getD Y2.toNat default).At.X), .f .f32 ((Y1.getD Y2.toNat default).At.Y), .f .f32 ((Y1.getD Y2.toNat default).At.Z), .f .f32 ((Y1.getD Y2.toNat default).Way.X), .f .f32 ((Y1.getD Y2.toNat default).Way.Y), .f .f32 ((Y1.getD Y2.toNat default).Way.Z)]).set Y2.toNat [.i .i64 Y5, .i .i64 (IntKind.wrap .i64 (Y5 + 1)), .f .f32 ((Y1.getD Y2.toNat default).At.X), .f .f32 ((Y1.getD Y2.toNat default).At.Y), .f .f32 ((Y1.getD Y2.toNat default).At.Z), .f .f32 ((Y1.getD Y2.toNat default).Way.X), .f .f32 ((Y1.getD Y2.toNat default).Way.Y), .f .f32 ((Y1.getD Y2.toNat default).Way.Z)]).set Y2.toNat [.i .i64 Y5, .i .i64 (IntKind.wrap .i64 (Y5 + 1)), .f .f32 (ofInt .f32 (IntKind.wrap .i64 ((IntKind.wrap .i64 (Y5 + 1)) + 1))), .f .f32 ((Y1.getD Y2.toNat default).At.Y), .f .f32 ((Y1.getD Y2.toNat default).At.Z), .f .f32 ((Y1.getD Y2.toNat default).Way.X), .f .f32 ((Y1.getD Y2.toNat default).Way.Y), .f .f32 ((Y1.getD Y2.toNat default).Way.Z)]).set Y2.toNat [.i .i64 Y5, .i .i64 (IntKind.wrap .i64 (Y5 + 1)), .f .f32 (ofInt .f32 (IntKind.wrap .i64 ((IntKind.wrap .i64 (Y5 + 1)) + 1))), .f .f32 (ofInt .f32 (IntKind.wrap .i64 ((IntKind.wrap .i64 ((IntKind.wrap .i64 (Y5 + 1)) + 1)) + 1))), .f .f32 ((Y1.getD Y2.toNat default).At.Z), .f .f32 ((Y1.getD Y2.toNat default).Way.X), .f .f32 ((Y1.getD Y2.toNat default).Way.Y), .f .f32 ((Y1.getD Y2.toNat default).Way.Z)]).set Y2.toNat [.i .i64 Y5, .i .i64 (IntKind.wrap .i64 (Y5 + 1)), .f .f32 (ofInt .f32 (IntKind.wrap .i64 ((IntKind.wrap .i64 (Y5 + 1)) + 1))), .f .f32 (ofInt .f32 (IntKind.wrap .i64 ((IntKind.wrap .i64 ((IntKind.wrap .i64 (Y5 + 1)) + 1)) + 1))), .f .f32 (ofInt .f32 (IntKind.wrap .i64 ((IntKind.wrap .i64 ((IntKind.wrap .i64 ((IntKind.wrap .i64 (Y5 + 1)) + 1)) + 1)) + 1))), .f .f32 ((Y1.getD Y2.toNat default).Way.X), .f .f32 ((Y1.getD Y2.toNat default).Way.Y), .f .f32 ((Y1.getD Y2.toNat default).Way.Z)]).set Y2.toNat [.i .i64 Y5, .i .i64 (IntKind.wrap .i64 (Y5 + 1)), .f .f32 (ofInt .f32 (IntKind.wrap .i64 ((IntKind.wrap .i64 (Y5 + 1)) + 1))), .f .f32 (ofInt .f32 (IntKind.wrap .i64 ((IntKind.wrap .i64 ((IntKind.wrap .i64 (Y5 + 1)) + 1)) + 1))), .f .f32 (ofInt .f32 (IntKind.wrap .i64 ((IntKind.wrap .i64 ((IntKind.wrap .i64 ((IntKind.wrap .i64 (Y5 + 1)) + 1)) + 1)) + 1))), .f .f32 (ofInt .f32 (IntKind.wrap .i64 ((IntKind.wrap .i64 ((IntKind.wrap .i64 ((IntKind.wrap .i64 ((IntKind.wrap .i64 (Y5 + 1)) + 1)) + 1)) + 1)) + 1))), .f .f32 ((Y1.getD Y2.toNat default).Way.Y), .f .f32 ((Y1.getD Y2.toNat default).Way.Z)]).set Y2.toNat [.i .i64 Y5, .i .i64 (IntKind.wrap .i64 (Y5 + 1)), .f .f32 (ofInt .f32 (IntKind.wrap .i64 ((IntKind.wrap .i64 (Y5 + 1)) + 1))), .f .f32 (ofInt .f32 (IntKind.wrap .i64 ((IntKind.wrap .i64 ((IntKind.wrap .i64 (Y5 + 1)) + 1)) + 1))), .f .f32 (ofInt .f32 (IntKind.wrap .i64 ((IntKind.wrap .i64 ((IntKind.wrap .i64 ((IntKind.wrap .i64 (Y5 + 1)) + 1)) + 1)) + 1))), .f .f32 (ofInt .f32 (IntKind.wrap .i64 ((IntKind.wrap .i64 ((IntKind.wrap .i64 ((IntKind.wrap .i64 ((IntKind.wrap .i64 (Y5 + 1)) + 1)) + 1)) + 1)) + 1))), .f .f32 (ofInt .f32 (Z7 Y5)), .f .f32 ((Y1.getD Y2.toNat default).Way.Z)]).length from (by simpa using idx_ok (c := Gh.c) (l := (Y1.set Y2.toNat (⟨Y5, (IntKind.wrap .i64 (Y5 + 1)), (⟨(ofInt .f32 (IntKind.wrap .i64 ((IntKind.wrap .i64 (Y5 + 1)) + 1))), (ofInt .f32 (IntKind.wrap .i64 ((IntKind.wrap .i64 ((IntKind.wrap .i64 (Y5 + 1)) + 1)) + 1))), (ofInt .f32 (IntKind.wrap .i64 ((IntKind.wrap .i64 ((IntKind.wrap .i64 ((IntKind.wrap .i64 (Y5 + 1)) + 1)) + 1)) + 1)))⟩ : Gv), (⟨(ofInt .f32 (IntKind.wrap .i64 ((IntKind.wrap .i64 ((IntKind.wrap .i64 ((IntKind.wrap .i64 ((IntKind.wrap .i64 (Y5 + 1)) + 1)) + 1)) + 1)) + 1))), (ofInt .f32 (Z7 Y5)), (Y1.getD Y2.toNat default).Way.Z⟩ : Gv)⟩ : Gh))) (i := Y2) Yt y_9)) <| sE (show ((((((((Y1.map Gh.c).set Y2.toNat [.i .i64 Y5, .i .i64 ((Y1.getD Y2.toNat default).Kind), .f .f32 ((Y1.getD Y2.toNat default).At.X), .f .f32 ((Y1.getD Y2.toNat default).At.Y), .f .f32 ((Y1.getD Y2.toNat default).At.Z), .f .f32 ((Y1.getD Y2.toNat default).Way.X), .f .f32 ((Y1.getD Y2.toNat default).Way.Y), .f .f32 ((Y1.getD Y2.toNat default).Way.Z)]).set Y2.toNat [.i .i64 Y5, .i .i64 (IntKind.wrap .i64 (Y5 + 1)), .f .f32 ((Y1.getD Y2.toNat default).At.X), .f .f32 ((Y1.getD Y2.toNat default).At.Y), .f .f32 ((Y1.getD Y2.toNat default).At.Z), .f .f32 ((Y1.getD Y2.toNat default).Way.X), .f .f32 ((Y1.getD Y2.toNat default).Way.Y), .f .f32 ((Y1.getD Y2.toNat default).Way.Z)]).set Y2.toNat [.i .i64 Y5, .i .i64 (IntKind.wrap .i64 (Y5 + 1)), .f .f32 (ofInt .f32 (IntKind.wrap .i64 ((IntKind.wrap .i64 (Y5 + 1)) + 1))), .f .f32 ((Y1.getD Y2.toNat default).At.Y), .f .f32 ((Y1.getD Y2.toNat default).At.Z), .f .f32 ((Y1.getD Y2.toNat default).Way.X), .f .f32 ((Y1.getD Y2.toNat default).Way.Y), .f .f32 ((Y1.getD Y2.toNat default).Way.Z)]).set Y2.toNat [.i .i64 Y5, .i .i64 (IntKind.wrap .i64 (Y5 + 1)), .f .f32 (ofInt .f32 (IntKind.wrap .i64 ((IntKind.wrap .i64 (Y5 + 1)) + 1))), .f .f32 (ofInt .f32 (IntKind.wrap .i64 ((IntKind.wrap .i64 ((IntKind.wrap .i64 (Y5 + 1)) + 1)) + 1))), .f .f32 ((Y1.getD Y2.toNat default).At.Z), .f .f32 ((Y1.getD Y2.toNat default).Way.X), .f .f32 ((Y1.getD Y2.toNat default).Way.Y), .f .f32 ((Y1.getD Y2.toNat default).Way.Z)]).set Y2.toNat [.i .i64 Y5, .i .i64 (IntKind.wrap .i64 (Y5 + 1)), .f .f32 (ofInt .f32 (IntKind.wrap .i64 ((IntKind.wrap .i64 (Y5 + 1)) + 1))), .f .f32 (ofInt .f32 (IntKind.wrap .i64 ((IntKind.wrap .i64 ((IntKind.wrap .i64 (Y5 + 1)) + 1)) + 1))), .f .f32 (ofInt .f32 (IntKind.wrap .i64 ((IntKind.wrap .i64 ((IntKind.wrap .i64 ((IntKind.wrap .i64 (Y5 + 1)) + 1)) + 1)) + 1))), .f .f32 ((Y1.getD Y2.toNat default).Way.X), .f .f32 ((Y1.getD Y2.toNat default).Way.Y), .f .f32 ((Y1.getD Y2.toNat default).Way.Z)]).set Y2.toNat [.i .i64 Y5, .i .i64 (IntKind.wrap .i64 (Y5 + 1)), .f .f32 (ofInt .f32 (IntKind.wrap .i64 ((IntKind.wrap .i64 (Y5 + 1)) + 1))), .f .f32 (ofInt .f32 (IntKind.wrap .i64 ((IntKind.wrap .i64 ((IntKind.wrap .i64 (Y5 + 1)) + 1)) + 1))), .f .f32 (ofInt .f32 (IntKind.wrap .i64 ((IntKind.wrap .i64 ((IntKind.wrap .i64 ((IntKind.wrap .i64 (Y5 + 1)) + 1)) + 1)) + 1))), .f .f32 (ofInt .f32 (IntKind.wrap .i64 ((IntKind.wrap .i64 ((IntKind.wrap .i64 ((IntKind.wrap .i64 ((IntKind.wrap .i64 (Y5 + 1)) + 1)) + 1)) + 1)) + 1))), .f .f32 ((Y1.getD Y2.toNat default).Way.Y), .f .f32 ((Y1.getD Y2.toNat default).Way.Z)]).set Y2.toNat [.i .i64 Y5, .i .i64 (IntKind.wrap .i64 (Y5 + 1)), .f .f32 (ofInt .f32 (IntKind.wrap .i64 ((IntKind.wrap .i64 (Y5 + 1)) + 1))), .f .f32 (ofInt .f32 (IntKind.wrap .i64 ((IntKind.wrap .i64 ((IntKind.wrap .i64 (Y5 + 1)) + 1)) + 1))), .f .f32 (ofInt .f32 (IntKind.wrap .i64 ((IntKind.wrap .i64 ((IntKind.wrap .i64 ((IntKind.wrap .i64 (Y5 + 1)) + 1)) + 1)) + 1))), .f .f32 (ofInt .f32 (IntKind.wrap .i64 ((IntKind.wrap .i64 ((IntKind.wrap .i64 ((IntKind.wrap .i64 ((IntKind.wrap .i64 (Y5 + 1)) + 1)) + 1)) + 1)) + 1))), .f .f32 (ofInt .f32 (Z7 Y5)), .f .f32 ((Y1.getD Y2.toNat default).Way.Z)])[Y2.toNat]? = some [.i .i64 Y5, .i .i64 (IntKind.wrap .i64 (Y5 + 1)), .f .f32 (ofInt .f32 (IntKind.wrap .i64 ((IntKind.wrap .i64 (Y5 + 1)) + 1))), .f .f32 (ofInt .f32 (IntKind.wrap .i64 ((IntKind.wrap .i64 ((IntKind.wrap .i64 (Y5 + 1)) + 1)) + 1))), .f .f32 (ofInt .f32 (IntKind.wrap .i64 ((IntKind.wrap .i64 ((IntKind.wrap .i64 ((IntKind.wrap .i64 (Y5 + 1)) + 1)) + 1)) + 1))), .f .f32 (ofInt .f32 (IntKind.wrap .i64 ((IntKind.wrap .i64 ((IntKind.wrap .i64 ((IntKind.wrap .i64 ((IntKind.wrap .i64 (Y5 + 1)) + 1)) + 1)) + 1)) + 1))), .f .f32 (ofInt .f32 (Z7 Y5)), .f .f32 ((Y1.getD Y2.toNat default).Way.Z)] from List.getElem?_set_self (by simpa using Yy)) <| sW .i64 ((IntKind.wrap .i64 ((Z7 Y5) + 1)) + 1) <| sI (Y2 + 1) Y12 Y19 <| sN)) (by kernel_rfl) (by simp [Z3h, List.map_set, Gh.c]) (ih (IntKind.wrap .i64 ((IntKind.wrap .i64 ((Z7 Y5) + 1)) + 1)) (Y2 + 1) (Y1.set Y2.toNat (⟨Y5, (IntKind.wrap .i64 (Y5 + 1)), (⟨(ofInt .f32 (IntKind.wrap .i64 ((IntKind.wrap .i64 (Y5 + 1)) + 1))), (ofInt .f32 (IntKind.wrap .i64 ((IntKind.wrap .i64 ((IntKind.wrap .i64 (Y5 + 1)) + 1)) + 1))), (ofInt .f32 (IntKind.wrap .i64 ((IntKind.wrap .i64 ((IntKind.wrap .i64 ((IntKind.wrap .i64 (Y5 + 1)) + 1)) + 1)) + 1)))⟩ : Gv), (⟨(ofInt .f32 (IntKind.wrap .i64 ((IntKind.wrap .i64 ((IntKind.wrap .i64 ((IntKind.wrap .i64 ((IntKind.wrap .i64 (Y5 + 1)) + 1)) + 1)) + 1)) + 1))), (ofInt .f32 (Z7 Y5)), (ofInt .f32 (IntKind.wrap .i64 ((Z7 Y5) + 1)))⟩ : Gv)⟩ : Gh)) (show 0 ≤ (Y2 + 1) from (by omega)) (show (Y1.set Y2.toNat (⟨Y5, (IntKind.wrap .i64 (Y5 + 1)), (⟨(ofInt .f32 (IntKind.wrap .i64 ((IntKind.wrap .i64 (Y5 + 1)) + 1))), (ofInt .f32 (IntKind.wrap .i64 ((IntKind.wrap .i64 ((IntKind.wrap .i64 (Y5 + 1)) + 1)) + 1))), (ofInt .f32 (IntKind.wrap .i64 ((IntKind.wrap .i64 ((IntKind.wrap .i64 ((IntKind.wrap .i64 (Y5 + 1)) + 1)) + 1)) + 1)))⟩ : Gv), (⟨(ofInt .f32 (IntKind.wrap .i64 ((IntKind.wrap .i64 ((IntKind.wrap .i64 ((IntKind.wrap .i64 ((IntKind.wrap .i64 (Y5 + 1)) + 1)) + 1)) + 1)) + 1))), (ofInt .f32 (Z7 Y5)), (ofInt .f32 (IntKind.wrap .i64 ((Z7 Y5) + 1)))⟩ : Gv)⟩ : Gh)).length = Y6.length from (by simp_all <;> omega)) (by omega))
  | false =>
   have Yo := odf Ye
   have e : Zm Y6 Yh (k + 1) Y5 Y2 Y1 = (Y5, Y1) := by simp only [Zm, Ye, cond_false]
   rw [e]
   exact outR (e := (.exit 0)) (EpOk 1) Z3 [] (mR false [1, 1, 2, 1, 76]) [] (p (sB Ye <| sN)) (by kernel_rfl) (by intro h; cases h)
theorem Z4A (Y6 : (List Gh)) (Yh : Int) : ∀ (k : Nat) (Y5 : Int) (Y2 : Int) (Y1 : (List Gh)) (hk : ((Y1.length : Int) - Y2).toNat < k), (Zm Y6 Yh k Y5 Y2 Y1).2.length = Y1.length := by
  intro k
  induction k with
  | zero => intro Y5 Y2 Y1 hk; exact absurd hk (Nat.not_lt_zero _)
  | succ k ih =>
    intro Y5 Y2 Y1 hk
    cases Ye : (decide (Y2 < (Y1.length : Int))) with
    | true =>
      have e : Zm Y6 Yh (k + 1) Y5 Y2 Y1 = (Zm Y6 Yh k (IntKind.wrap .i64 ((IntKind.wrap .i64 ((Z7 Y5) + 1)) + 1)) (Y2 + 1) (Y1.set Y2.toNat (⟨Y5, (IntKind.wrap .i64 (Y5 + 1)), (⟨(ofInt .f32 (IntKind.wrap .i64 ((IntKind.wrap .i64 (Y5 + 1)) + 1))), (ofInt .f32 (IntKind.wrap .i64 ((IntKind.wrap .i64 ((IntKind.wrap .i64 (Y5 + 1)) + 1)) + 1))), (ofInt .f32 (IntKind.wrap .i64 ((IntKind.wrap .i64 ((IntKind.wrap .i64 ((IntKind.wrap .i64 (Y5 + 1)) + 1)) + 1)) + 1)))⟩ : Gv), (⟨(ofInt .f32 (IntKind.wrap .i64 ((IntKind.wrap .i64 ((IntKind.wrap .i64 ((IntKind.wrap .i64 ((IntKind.wrap .i64 (Y5 + 1)) + 1)) + 1)) + 1)) + 1))), (ofInt .f32 (Z7 Y5)), (ofInt .f32 (IntKind.wrap .i64 ((Z7 Y5) + 1)))⟩ : Gv)⟩ : Gh))) := by simp only [Zm, Ye, cond_true]
      rw [e, ih (IntKind.wrap .i64 ((IntKind.wrap .i64 ((Z7 Y5) + 1)) + 1)) (Y2 + 1) (Y1.set Y2.toNat (⟨Y5, (IntKind.wrap .i64 (Y5 + 1)), (⟨(ofInt .f32 (IntKind.wrap .i64 ((IntKind.wrap .i64 (Y5 + 1)) + 1))), (ofInt .f32 (IntKind.wrap .i64 ((IntKind.wrap .i64 ((IntKind.wrap .i64 (Y5 + 1)) + 1)) + 1))), (ofInt .f32 (IntKind.wrap .i64 ((IntKind.wrap .i64 ((IntKind.wrap .i64 ((IntKind.wrap .i64 (Y5 + 1)) + 1)) + 1)) + 1)))⟩ : Gv), (⟨(ofInt .f32 (IntKind.wrap .i64 ((IntKind.wrap .i64 ((IntKind.wrap .i64 ((IntKind.wrap .i64 ((IntKind.wrap .i64 (Y5 + 1)) + 1)) + 1)) + 1)) + 1))), (ofInt .f32 (Z7 Y5)), (ofInt .f32 (IntKind.wrap .i64 ((Z7 Y5) + 1)))⟩ : Gv)⟩ : Gh)) (by simp_all <;> omega)]; simp
    | false =>
      have e : Zm Y6 Yh (k + 1) Y5 Y2 Y1 = (Y5, Y1) := by simp only [Zm, Ye, cond_false]
      first | (rw [e]; done) | (rw [e]; rfl)
def Z1b (Y6 : (List Gh)) (Yh : Int) : Int × (List Gh) := (Zm Y6 Yh (((Y6.length : Int) - 0).toNat + 1) Yh 0 Y6)
@[simp] theorem Z5W (Y6 : (List Gh)) (Yh : Int) : (Z1b Y6 Yh).2.length = (Y6 : (List Gh)).length := Z4A Y6 Yh (((Y6.length : Int) - 0).toNat + 1) Yh 0 Y6 (by exact Nat.lt_succ_self _)
def Zh (Y6 : (List Gh)) (Yh : Int) : Int × (List Gh) := ((Z1b Y6 Yh).1, (Z1b Y6 Yh).2)
@[simp] theorem Z6t (Y6 : (List Gh)) (Yh : Int) : (Zh Y6 Yh).2.length = Y6.length := by
  first | (simp [Zh]; done)
theorem Z55 (Y6 : (List Gh)) (Yh : Int) (hp0 : Y6.length ≤ 1073741824)  : CallSt prog 31 [.vec 99 8 (Y6.map Gh.c) false] [.own 0, .i .i64 Yh] (.i .i64 ((Zh Y6 Yh).1)) [.vec 99 8 (((Zh Y6 Yh).2).map Gh.c) false] := by
 refine callS (EpOk 1) Z3 (c := bodyOf f31) [.vec 99 8 (Y6.map Gh.c) false] [] (.i .i64 ((Z1b Y6 Yh).1)) [.vec 99 8 (((Z1b Y6 Yh).2).map Gh.c) false] func31 (sL (mR false [0, 2, 2, 2, 75]) 1 (lp_val (Z2r Y6 Yh) (x := (Z1b Y6 Yh)) (Z4K Y6 Yh hp0 (((Y6.length : Int) - 0).toNat + 1) Yh 0 Y6 (show 0 ≤ 0 from (by omega)) (show Y6.length = Y6.length from (by simp)) (Nat.lt_succ_self _)) rfl) <| sK [] sN) rfl (by kernel_rfl) (by kernel_rfl) ?_ ?_
 · rfl
 · simp [Zh]
def Z3n (_ : Gh) (c : Int) : Int × Gh := ((IntKind.wrap .i64 ((IntKind.wrap .i64 ((IntKind.wrap .i64 ((IntKind.wrap .i64 ((IntKind.wrap .i64 ((IntKind.wrap .i64 ((IntKind.wrap .i64 ((IntKind.wrap .i64 (c + 1)) + 1)) + 1)) + 1)) + 1)) + 1)) + 1)) + 1)), ⟨c, (IntKind.wrap .i64 (c + 1)), ⟨ofInt .f32 (IntKind.wrap .i64 ((IntKind.wrap .i64 (c + 1)) + 1)), ofInt .f32 (IntKind.wrap .i64 ((IntKind.wrap .i64 ((IntKind.wrap .i64 (c + 1)) + 1)) + 1)), ofInt .f32 (IntKind.wrap .i64 ((IntKind.wrap .i64 ((IntKind.wrap .i64 ((IntKind.wrap .i64 (c + 1)) + 1)) + 1)) + 1))⟩, ⟨ofInt .f32 (IntKind.wrap .i64 ((IntKind.wrap .i64 ((IntKind.wrap .i64 ((IntKind.wrap .i64 ((IntKind.wrap .i64 (c + 1)) + 1)) + 1)) + 1)) + 1)), ofInt .f32 (IntKind.wrap .i64 ((IntKind.wrap .i64 ((IntKind.wrap .i64 ((IntKind.wrap .i64 ((IntKind.wrap .i64 ((IntKind.wrap .i64 (c + 1)) + 1)) + 1)) + 1)) + 1)) + 1)), ofInt .f32 (IntKind.wrap .i64 ((IntKind.wrap .i64 ((IntKind.wrap .i64 ((IntKind.wrap .i64 ((IntKind.wrap .i64 ((IntKind.wrap .i64 ((IntKind.wrap .i64 (c + 1)) + 1)) + 1)) + 1)) + 1)) + 1)) + 1))⟩⟩)
theorem Z5b (a : List Gh) (c : Int) : Zh a c = mkL Z3n a c := by
  unfold Zh Z1b
  rw [mark_loop (f := Z3n) (lo := Zm a c) (fun k c i r => rfl) _ _ _ _ (Int.le_refl 0) (Nat.lt_succ_self _)]
  simp
theorem Z69 (a : List Gh) (c : Int) (g0 : a.length ≤ 1073741824) (h0 : 0 ≤ c) (h1 : c ≤ 4611686018427387904) : c ≤ (Zh a c).1 ∧ (Zh a c).1 ≤ c + 8589934592 := by
  rw [Z5b]
  have q := mkL_ge (f := Z3n) (W := 8) a c (fun x _ c k0 k1 => by simp only [Z3n]; rw [wrap_id (n := c + 1) (by omega) (by omega), show c + 1 + 1 = c + 2 from by omega, wrap_id (n := c + 2) (by omega) (by omega), show c + 2 + 1 = c + 3 from by omega, wrap_id (n := c + 3) (by omega) (by omega), show c + 3 + 1 = c + 4 from by omega, wrap_id (n := c + 4) (by omega) (by omega), show c + 4 + 1 = c + 5 from by omega, wrap_id (n := c + 5) (by omega) (by omega), show c + 5 + 1 = c + 6 from by omega, wrap_id (n := c + 6) (by omega) (by omega), show c + 6 + 1 = c + 7 from by omega, wrap_id (n := c + 7) (by omega) (by omega), show c + 7 + 1 = c + 8 from by omega, wrap_id (n := c + 8) (by omega) (by omega)]; omega) h0 (by omega)
  omega
def Zc (Y6 : (List Gh)) (Yh : Int) : Nat → Int → Int → (Unit) ⊕ (Int)
  | 0, _, _ => .inl default
  | k + 1, Y5, Y2 => (cond (decide (Y2 < (Y6.length : Int)))
    (cond ((Y6.getD Y2.toNat default).Place != Y5)
      (.inl ())
      (cond ((Y6.getD Y2.toNat default).Kind != (IntKind.wrap .i64 (Y5 + 1)))
        (.inl ())
        (cond (fcmp .neq .f32 ((Y6.getD Y2.toNat default).At.X) (ofInt .f32 (IntKind.wrap .i64 ((IntKind.wrap .i64 (Y5 + 1)) + 1))))
          (.inl ())
          (cond (fcmp .neq .f32 ((Y6.getD Y2.toNat default).At.Y) (ofInt .f32 (IntKind.wrap .i64 ((IntKind.wrap .i64 ((IntKind.wrap .i64 (Y5 + 1)) + 1)) + 1))))
            (.inl ())
            (cond (fcmp .neq .f32 ((Y6.getD Y2.toNat default).At.Z) (ofInt .f32 (IntKind.wrap .i64 ((IntKind.wrap .i64 ((IntKind.wrap .i64 ((IntKind.wrap .i64 (Y5 + 1)) + 1)) + 1)) + 1))))
              (.inl ())
              (cond (fcmp .neq .f32 ((Y6.getD Y2.toNat default).Way.X) (ofInt .f32 (IntKind.wrap .i64 ((IntKind.wrap .i64 ((IntKind.wrap .i64 ((IntKind.wrap .i64 ((IntKind.wrap .i64 (Y5 + 1)) + 1)) + 1)) + 1)) + 1))))
                (.inl ())
                (cond (fcmp .neq .f32 ((Y6.getD Y2.toNat default).Way.Y) (ofInt .f32 (IntKind.wrap .i64 ((IntKind.wrap .i64 ((IntKind.wrap .i64 ((IntKind.wrap .i64 ((IntKind.wrap .i64 ((IntKind.wrap .i64 (Y5 + 1)) + 1)) + 1)) + 1)) + 1)) + 1))))
                  (.inl ())
                  (cond (fcmp .neq .f32 ((Y6.getD Y2.toNat default).Way.Z) (ofInt .f32 (IntKind.wrap .i64 ((IntKind.wrap .i64 ((IntKind.wrap .i64 ((IntKind.wrap .i64 ((IntKind.wrap .i64 ((IntKind.wrap .i64 ((IntKind.wrap .i64 (Y5 + 1)) + 1)) + 1)) + 1)) + 1)) + 1)) + 1))))
                    (.inl ())
                    (Zc Y6 Yh k (IntKind.wrap .i64 ((IntKind.wrap .i64 ((IntKind.wrap .i64 ((IntKind.wrap .i64 ((IntKind.wrap .i64 ((IntKind.wrap .i64 ((IntKind.wrap .i64 ((IntKind.wrap .i64 (Y5 + 1)) + 1)) + 1)) + 1)) + 1)) + 1)) + 1)) + 1)) (Y2 + 1))))))))))
    (.inr Y5))
def Z2q (Y6 : (List Gh)) (Yh : Int) : (Unit) ⊕ (Int) → Ex × St
  | .inl r => (.ret, ⟨an 4 (.i .i64 (-1) :: an 92 []), []⟩)
  | .inr r => ((.exit 0), ⟨.any :: .i .i64 r :: an 95 [], []⟩)
def Z5k (Y6 : (List Gh)) (Yh : Int) (Y5 : Int) (Y2 : Int) : St := ⟨.sl (Y6.map Gh.c) :: .i .i64 Y5 :: .any :: .any :: .any :: .i .i64 Y2 :: an 91 [], []⟩
theorem Z43 (Y6 : (List Gh)) (Yh : Int) (hp0 : Y6.length ≤ 1073741824) : ∀ (k : Nat) (Y5 : Int) (Y2 : Int) (Z3D : 0 ≤ Y2) (hk : ((Y6.length : Int) - Y2).toNat < k), Lp prog 0 (sub (bodyOf f32) [1, 0, 1, 0, 0]) (Z5k Y6 Yh Y5 Y2) (Z2q Y6 Yh (Zc Y6 Yh k Y5 Y2)).1 (Z2q Y6 Yh (Zc Y6 Yh k Y5 Y2)).2 := by
 intro k
 induction k with
 | zero => intro Y5 Y2 Z3D hk; exact absurd hk (Nat.not_lt_zero _)
 | succ k ih =>
  intro Y5 Y2 Z3D hk
  have p {a C} (s : Scr a C) := sZ Gh.c Y6 <| s
  cases Ye : (decide (Y2 < (Y6.length : Int))) with
  | true =>
   have Yo := odt Ye
   have Yt : (0 : Int) ≤ Y2 := by clear p; exact (by assumption)
   have Yu : Y2 < (Y6.length : Int) := by clear p; exact (by assumption)
   have q {a C} (s : Scr a C) := p (sB Ye <| sG Gh.c Y6 Y2 Yt Yu <| s)
   clear p
   cases Yk : ((Y6.getD Y2.toNat default).Place != Y5) with
   | true =>
    have YR := bne_iff_ne.1 Yk
    have e : Zc Y6 Yh (k + 1) Y5 Y2 = (.inl ()) := by simp only [Zc, Ye, Yk, cond_true]
    rw [e]
    exact outR (e := .ret) E0Ok Z3 [] (mR false [4, 1, 92]) [] (q (sB Yk <| sN)) (by kernel_rfl) (by intro h; cases h)
   | false =>
    have YR := bne_eq_false_iff_eq.1 Yk
    have p {a C} (s : Scr a C) := q (sB Yk <| sW .i64 (Y5 + 1) <| sG Gh.c Y6 Y2 Yt Yu <| s)
    clear q
    cases YB : ((Y6.getD Y2.toNat default).Kind != (IntKind.wrap .i64 (Y5 + 1))) with
    | true =>
     have YV := bne_iff_ne.1 YB
     have e : Zc Y6 Yh (k + 1) Y5 Y2 = (.inl ()) := by simp only [Zc, Ye, Yk, YB, cond_true, cond_false]
     rw [e]
     exact outR (e := .ret) E0Ok Z3 [] (mR false [4, 1, 92]) [] (p (sB YB <| sN)) (by kernel_rfl) (by intro h; cases h)
    | false =>
     have YV := bne_eq_false_iff_eq.1 YB
     have q {a C} (s : Scr a C) := p (sB YB <| sW .i64 ((IntKind.wrap .i64 (Y5 + 1)) + 1) <| sG Gh.c Y6 Y2 Yt Yu <| s)
     clear p
     cases YK : (fcmp .neq .f32 ((Y6.getD Y2.toNat default).At.X) (ofInt .f32 (IntKind.wrap .i64 ((IntKind.wrap .i64 (Y5 + 1)) + 1)))) with
     | true =>
      have e : Zc Y6 Yh (k + 1) Y5 Y2 = (.inl ()) := by simp only [Zc, Ye, Yk, YB, YK, cond_true, cond_false]
      rw [e]
      exact outR (e := .ret) E0Ok Z3 [] (mR false [4, 1, 92]) [] (q (sB YK <| sN)) (by kernel_rfl) (by intro h; cases h)
     | false =>
      have p {a C} (s : Scr a C) := q (sB YK <| sW .i64 ((IntKind.wrap .i64 ((IntKind.wrap .i64 (Y5 + 1)) + 1)) + 1) <| sG Gh.c Y6 Y2 Yt Yu <| s)
      clear q
      cases YX : (fcmp .neq .f32 ((Y6.getD Y2.toNat default).At.Y) (ofInt .f32 (IntKind.wrap .i64 ((IntKind.wrap .i64 ((IntKind.wrap .i64 (Y5 + 1)) + 1)) + 1)))) with
      | true =>
       have e : Zc Y6 Yh (k + 1) Y5 Y2 = (.inl ()) := by simp only [Zc, Ye, Yk, YB, YK, YX, cond_true, cond_false]
       rw [e]
       exact outR (e := .ret) E0Ok Z3 [] (mR false [4, 1, 92]) [] (p (sB YX <| sN)) (by kernel_rfl) (by intro h; cases h)
      | false =>
       have q {a C} (s : Scr a C) := p (sB YX <| sW .i64 ((IntKind.wrap .i64 ((IntKind.wrap .i64 ((IntKind.wrap .i64 (Y5 + 1)) + 1)) + 1)) + 1) <| sG Gh.c Y6 Y2 Yt Yu <| s)
       clear p
       cases h_5 : (fcmp .neq .f32 ((Y6.getD Y2.toNat default).At.Z) (ofInt .f32 (IntKind.wrap .i64 ((IntKind.wrap .i64 ((IntKind.wrap .i64 ((IntKind.wrap .i64 (Y5 + 1)) + 1)) + 1)) + 1)))) with
       | true =>
        have e : Zc Y6 Yh (k + 1) Y5 Y2 = (.inl ()) := by simp only [Zc, Ye, Yk, YB, YK, YX, h_5, cond_true, cond_false]
        rw [e]
        exact outR (e := .ret) E0Ok Z3 [] (mR false [4, 1, 92]) [] (q (sB h_5 <| sN)) (by kernel_rfl) (by intro h; cases h)
       | false =>
        have p {a C} (s : Scr a C) := q (sB h_5 <| sW .i64 ((IntKind.wrap .i64 ((IntKind.wrap .i64 ((IntKind.wrap .i64 ((IntKind.wrap .i64 (Y5 + 1)) + 1)) + 1)) + 1)) + 1) <| sG Gh.c Y6 Y2 Yt Yu <| s)
        clear q
        cases h_6 : (fcmp .neq .f32 ((Y6.getD Y2.toNat default).Way.X) (ofInt .f32 (IntKind.wrap .i64 ((IntKind.wrap .i64 ((IntKind.wrap .i64 ((IntKind.wrap .i64 ((IntKind.wrap .i64 (Y5 + 1)) + 1)) + 1)) + 1)) + 1)))) with
        | true =>
         have e : Zc Y6 Yh (k + 1) Y5 Y2 = (.inl ()) := by simp only [Zc, Ye, Yk, YB, YK, YX, h_5, h_6, cond_true, cond_false]
         rw [e]
         exact outR (e := .ret) E0Ok Z3 [] (mR false [4, 1, 92]) [] (p (sB h_6 <| sN)) (by kernel_rfl) (by intro h; cases h)
        | false =>
         have q {a C} (s : Scr a C) := p (sB h_6 <| sW .i64 ((IntKind.wrap .i64 ((IntKind.wrap .i64 ((IntKind.wrap .i64 ((IntKind.wrap .i64 ((IntKind.wrap .i64 (Y5 + 1)) + 1)) + 1)) + 1)) + 1)) + 1) <| sG Gh.c Y6 Y2 Yt Yu <| s)
         clear p
         cases h_7 : (fcmp .neq .f32 ((Y6.getD Y2.toNat default).Way.Y) (ofInt .f32 (IntKind.wrap .i64 ((IntKind.wrap .i64 ((IntKind.wrap .i64 ((IntKind.wrap .i64 ((IntKind.wrap .i64 ((IntKind.wrap .i64 (Y5 + 1)) + 1)) + 1)) + 1)) + 1)) + 1)))) with
         | true =>
          have e : Zc Y6 Yh (k + 1) Y5 Y2 = (.inl ()) := by simp only [Zc, Ye, Yk, YB, YK, YX, h_5, h_6, h_7, cond_true, cond_false]
          rw [e]
          exact outR (e := .ret) E0Ok Z3 [] (mR false [4, 1, 92]) [] (q (sB h_7 <| sN)) (by kernel_rfl) (by intro h; cases h)
         | false =>
          have p {a C} (s : Scr a C) := q (sB h_7 <| sW .i64 ((IntKind.wrap .i64 ((IntKind.wrap .i64 ((IntKind.wrap .i64 ((IntKind.wrap .i64 ((IntKind.wrap .i64 ((IntKind.wrap .i64 (Y5 + 1)) + 1)) + 1)) + 1)) + 1)) + 1)) + 1) <| sG Gh.c Y6 Y2 Yt Yu <| s)
          clear q
          cases h_8 : (fcmp .neq .f32 ((Y6.getD Y2.toNat default).Way.Z) (ofInt .f32 (IntKind.wrap .i64 ((IntKind.wrap .i64 ((IntKind.wrap .i64 ((IntKind.wrap .i64 ((IntKind.wrap .i64 ((IntKind.wrap .i64 ((IntKind.wrap .i64 (Y5 + 1)) + 1)) + 1)) + 1)) + 1)) + 1)) + 1)))) with
          | true =>
           have e : Zc Y6 Yh (k + 1) Y5 Y2 = (.inl ()) := by simp only [Zc, Ye, Yk, YB, YK, YX, h_5, h_6, h_7, h_8, cond_true, cond_false]
           rw [e]
           exact outR (e := .ret) E0Ok Z3 [] (mR false [4, 1, 92]) [] (p (sB h_8 <| sN)) (by kernel_rfl) (by intro h; cases h)
          | false =>
           have Yy : (-9223372036854775808 : Int) ≤ (Y2 + 1) := by clear p; exact (by omega)
           have YC : (Y2 + 1) ≤ (9223372036854775807 : Int) := by clear p; exact (by omega)
           have e : Zc Y6 Yh (k + 1) Y5 Y2 = (Zc Y6 Yh k (IntKind.wrap .i64 ((IntKind.wrap .i64 ((IntKind.wrap .i64 ((IntKind.wrap .i64 ((IntKind.wrap .i64 ((IntKind.wrap .i64 ((IntKind.wrap .i64 ((IntKind.wrap .i64 (Y5 + 1)) + 1)) + 1)) + 1)) + 1)) + 1)) + 1)) + 1)) (Y2 + 1)) := by simp only [Zc, Ye, Yk, YB, YK, YX, h_5, h_6, h_7, h_8, cond_true, cond_false]
           rw [e]
           exact nextR E0Ok Z3 [] (mR false [0, 2, 3, 1, 91]) [] (ih (IntKind.wrap .i64 ((IntKind.wrap .i64 ((IntKind.wrap .i64 ((IntKind.wrap .i64 ((IntKind.wrap .i64 ((IntKind.wrap .i64 ((IntKind.wrap .i64 ((IntKind.wrap .i64 (Y5 + 1)) + 1)) + 1)) + 1)) + 1)) + 1)) + 1)) + 1)) (Y2 + 1) (show 0 ≤ (Y2 + 1) from (by omega)) (by omega)) (p (sB h_8 <| sW .i64 ((IntKind.wrap .i64 ((IntKind.wrap .i64 ((IntKind.wrap .i64 ((IntKind.wrap .i64 ((IntKind.wrap .i64 ((IntKind.wrap .i64 ((IntKind.wrap .i64 (Y5 + 1)) + 1)) + 1)) + 1)) + 1)) + 1)) + 1)) + 1) <| sI (Y2 + 1) Yy YC <| sN)) (by kernel_rfl)
  | false =>
   have Yo := odf Ye
   have e : Zc Y6 Yh (k + 1) Y5 Y2 = (.inr Y5) := by simp only [Zc, Ye, cond_false]
   rw [e]
   exact outR (e := (.exit 0)) E0Ok Z3 [] (mR false [1, 1, 95]) [] (p (sB Ye <| sN)) (by kernel_rfl) (by intro h; cases h)
def Z1Q (Y6 : (List Gh)) (Yh : Int) : (Unit) ⊕ (Int) := (Zc Y6 Yh (((Y6.length : Int) - 0).toNat + 1) Yh 0)
def Z1l (Y6 : (List Gh)) (Yh : Int) : Int := (match (Z1Q Y6 Yh) with
  | .inl r1 => (-1)
  | .inr r1 => r1)
theorem Z4I (Y6 : (List Gh)) (Yh : Int) (hp0 : Y6.length ≤ 1073741824)  : Fn prog 32 [.sl (Y6.map Gh.c), .i .i64 Yh] (.i .i64 (Z1l Y6 Yh)) [] := by
 cases h0 : (Z1Q Y6 Yh) with
 | inl r1 =>
  refine fnS E0Ok Z3 (c := bodyOf f32) [] (.i .i64 (-1)) [] func32 (sL (mR false [0, 2, 3, 1, 91]) 0 (lp_val (Z2q Y6 Yh) (x := (Z1Q Y6 Yh)) (Z43 Y6 Yh hp0 (((Y6.length : Int) - 0).toNat + 1) Yh 0 (show 0 ≤ 0 from (by omega)) (Nat.lt_succ_self _)) h0) <| sK [] sN) rfl (by kernel_rfl) (by kernel_rfl) rfl ?_ ?_
  · simp only [Z1l, h0]
  · rfl
 | inr r1 =>
  refine fnS E0Ok Z3 (c := bodyOf f32) [] (.i .i64 r1) [] func32 (sL (mR false [0, 2, 3, 1, 91]) 0 (lp_val (Z2q Y6 Yh) (x := (Z1Q Y6 Yh)) (Z43 Y6 Yh hp0 (((Y6.length : Int) - 0).toNat + 1) Yh 0 (show 0 ≤ 0 from (by omega)) (Nat.lt_succ_self _)) h0) <| sK [] sN) rfl (by kernel_rfl) (by kernel_rfl) rfl ?_ ?_
  · simp only [Z1l, h0]
  · rfl
def Z4W (x : Gh) (c : Int) : Bool := (!(x.Place != c)) && (!(x.Kind != (IntKind.wrap .i64 (c + 1)))) && (!(fcmp .neq .f32 x.At.X (ofInt .f32 (IntKind.wrap .i64 ((IntKind.wrap .i64 (c + 1)) + 1))))) && (!(fcmp .neq .f32 x.At.Y (ofInt .f32 (IntKind.wrap .i64 ((IntKind.wrap .i64 ((IntKind.wrap .i64 (c + 1)) + 1)) + 1))))) && (!(fcmp .neq .f32 x.At.Z (ofInt .f32 (IntKind.wrap .i64 ((IntKind.wrap .i64 ((IntKind.wrap .i64 ((IntKind.wrap .i64 (c + 1)) + 1)) + 1)) + 1))))) && (!(fcmp .neq .f32 x.Way.X (ofInt .f32 (IntKind.wrap .i64 ((IntKind.wrap .i64 ((IntKind.wrap .i64 ((IntKind.wrap .i64 ((IntKind.wrap .i64 (c + 1)) + 1)) + 1)) + 1)) + 1))))) && (!(fcmp .neq .f32 x.Way.Y (ofInt .f32 (IntKind.wrap .i64 ((IntKind.wrap .i64 ((IntKind.wrap .i64 ((IntKind.wrap .i64 ((IntKind.wrap .i64 ((IntKind.wrap .i64 (c + 1)) + 1)) + 1)) + 1)) + 1)) + 1))))) && (!(fcmp .neq .f32 x.Way.Z (ofInt .f32 (IntKind.wrap .i64 ((IntKind.wrap .i64 ((IntKind.wrap .i64 ((IntKind.wrap .i64 ((IntKind.wrap .i64 ((IntKind.wrap .i64 ((IntKind.wrap .i64 (c + 1)) + 1)) + 1)) + 1)) + 1)) + 1)) + 1)))))
def Z5x (_ : Gh) (c : Int) : Int := (IntKind.wrap .i64 ((IntKind.wrap .i64 ((IntKind.wrap .i64 ((IntKind.wrap .i64 ((IntKind.wrap .i64 ((IntKind.wrap .i64 ((IntKind.wrap .i64 ((IntKind.wrap .i64 (c + 1)) + 1)) + 1)) + 1)) + 1)) + 1)) + 1)) + 1))
theorem Z72 (a : List Gh) (c : Int) : Z1l a c = match hdL Z4W Z5x a c with
    | some c' => c'
    | none => -1 := by
  unfold Z1l Z1Q
  rw [held_loop (p := Z4W) (q := Z5x) (a := a) (x := ()) (lo := Zc a c) (fun k c i => by
    rw [Zc]
    unfold Z4W Z5x
    generalize a.getD i.toNat default = x
    cases decide (i < (a.length : Int)) <;> cases (x.Place != c) <;> cases (x.Kind != (IntKind.wrap .i64 (c + 1))) <;> cases fcmp .neq .f32 x.At.X (ofInt .f32 (IntKind.wrap .i64 ((IntKind.wrap .i64 (c + 1)) + 1))) <;> cases fcmp .neq .f32 x.At.Y (ofInt .f32 (IntKind.wrap .i64 ((IntKind.wrap .i64 ((IntKind.wrap .i64 (c + 1)) + 1)) + 1))) <;> cases fcmp .neq .f32 x.At.Z (ofInt .f32 (IntKind.wrap .i64 ((IntKind.wrap .i64 ((IntKind.wrap .i64 ((IntKind.wrap .i64 (c + 1)) + 1)) + 1)) + 1))) <;> cases fcmp .neq .f32 x.Way.X (ofInt .f32 (IntKind.wrap .i64 ((IntKind.wrap .i64 ((IntKind.wrap .i64 ((IntKind.wrap .i64 ((IntKind.wrap .i64 (c + 1)) + 1)) + 1)) + 1)) + 1))) <;> cases fcmp .neq .f32 x.Way.Y (ofInt .f32 (IntKind.wrap .i64 ((IntKind.wrap .i64 ((IntKind.wrap .i64 ((IntKind.wrap .i64 ((IntKind.wrap .i64 ((IntKind.wrap .i64 (c + 1)) + 1)) + 1)) + 1)) + 1)) + 1))) <;> cases fcmp .neq .f32 x.Way.Z (ofInt .f32 (IntKind.wrap .i64 ((IntKind.wrap .i64 ((IntKind.wrap .i64 ((IntKind.wrap .i64 ((IntKind.wrap .i64 ((IntKind.wrap .i64 ((IntKind.wrap .i64 (c + 1)) + 1)) + 1)) + 1)) + 1)) + 1)) + 1))) <;> rfl) _ _ _ (Int.le_refl 0) (Nat.lt_succ_self _)]
  simp only [Int.toNat_zero, List.drop_zero]
  cases hdL Z4W Z5x a c <;> rfl
def ZF (Yj : Gm) : Bool := (cond (decide ((Z13 Yj 1048576) < 0))
  true
  (cond (Z1N ((Za Yj).1) ((Zl Yj).1))
    (cond ((Za Yj).2 == (Zl Yj).2)
      (cond (Z1U Yj Yj)
        (cond (decide ((ZO Yj 1).1 < 0))
          false
          (cond (decide ((Z1l ((Zh ((Za Yj).1) 1).2) 1) < 0))
            false
            (cond ((Z1l ((Zh ((Za Yj).1) 1).2) 1) != (Zh ((Za Yj).1) 1).1)
              false
              true)))
        false)
      false)
    false))
set_option maxHeartbeats 1000000 in
theorem Z4J (Yj : Gm) (hp0 : Yj.Pq.length ≤ 9223372036854775807) (hp1 : Yj.Tr.length ≤ 9223372036854775807) (hp2 : ∀ t ∈ Yj.Tr, t.length ≤ 9223372036854775807)  : Fn prog 8 [.agg [.sl (Yj.Pq.map Gv.c), .sl (Yj.Tr.map (cL (cI .i64)))]] (.b (ZF Yj)) [] := by
 have z0 := (Z4T Yj 1048576 (by omega) (by omega) (by assumption) (by omega) (by omega))
 have p {a C} (s : Scr a C) := sF (Z6j Yj 1048576 hp0 hp1 hp2) <| s
 cases h0 : (decide ((Z13 Yj 1048576) < 0)) with
 | true =>
  have gh0 := odt h0
  refine fnS E0Ok Z3 (c := bodyOf f8) [] (.b true) [] func8 (p (sB h0 <| sK [] sN)) rfl (by kernel_rfl) (by kernel_rfl) rfl ?_ ?_
  · simp only [ZF, h0, cond_true]
  · rfl
 | false =>
  have gh0 := odf h0
  have y0 : Yj.Pq.length ≤ 1073741824 := by clear p; exact (by omega)
  have y1 : Yj.Tr.length ≤ 1073741824 := by clear p; exact (by omega)
  have y2 : ∀ t ∈ Yj.Tr, t.length ≤ 1073741824 := by clear p; exact (by intro t ht; (have q := z0.2.2.2.2 t ht; omega))
  have l1 := (Z4e Yj)
  have l2 := (Z4i Yj)
  have y3 : ((Za Yj).1).length ≤ 1073741824 := by clear p; exact (by omega)
  have y4 : ((Zl Yj).1).length ≤ 1073741824 := by clear p; exact (by omega)
  have q {a C} (s : Scr a C) := p (sB h0 <| sF (Z3o Yj y0 y1 y2) <| sF (Fn.castA (args' := [.agg [.sl (Yj.Pq.map Gv.c), .sl ((Yj.Tr.map fun l => l.map (cI .i64)).map fun l => [.sl l])]]) (Z5D Yj y0 y1 y2) (by simp [cL, Function.comp_def]; done)) <| sF (Z3o Yj y0 y1 y2) <| sF (Fn.castA (args' := [.agg [.sl (Yj.Pq.map Gv.c), .sl ((Yj.Tr.map fun l => l.map (cI .i64)).map fun l => [.sl l])]]) (Z4t Yj y0 y1 y2) (by simp [cL, Function.comp_def]; done)) <| sF (Z44 ((Za Yj).1) ((Zl Yj).1) y3 y4) <| s)
  clear p
  cases h1 : (Z1N ((Za Yj).1) ((Zl Yj).1)) with
  | true =>
   have p {a C} (s : Scr a C) := q (sB' h1 <| sB' h1 <| sB' h1 <| sB' h1 <| s)
   clear q
   cases h2 : ((Za Yj).2 == (Zl Yj).2) with
   | true =>
    have gh2 := eq_of_beq h2
    have q {a C} (s : Scr a C) := p (sB' h2 <| sK [3, 3] <| sF (Z3o Yj y0 y1 y2) <| sF (Fn.castA (args' := [.agg [.sl (Yj.Pq.map Gv.c), .sl ((Yj.Tr.map fun l => l.map (cI .i64)).map fun l => [.sl l])], .agg [.sl (Yj.Pq.map Gv.c), .sl ((Yj.Tr.map fun l => l.map (cI .i64)).map fun l => [.sl l])]]) (Z6s Yj Yj y0 y1 y2 y0 y1 y2) (by simp [cL, Function.comp_def]; done)) <| s)
    clear p
    cases h3 : (Z1U Yj Yj) with
    | true =>
     have p {a C} (s : Scr a C) := q (sB' h3 <| sS (CallSt.frame (Z4S Yj 1 y0 y1 y2) [4, 5] (R := [.box 31 [.sl (Yj.Pq.map Gv.c), .sl (Yj.Tr.map (cL (cI .i64)))], .vec 62 3 (Yj.Pq.map Gv.c) false, .nest 79 (Yj.Tr.map fun l => l.map (cI .i64)) false, .vec 99 8 (((Zl Yj).1).map Gh.c) false, .vec 62 3 (Yj.Pq.map Gv.c) false, .nest 79 (Yj.Tr.map fun l => l.map (cI .i64)) false, .box 35 [.own 4, .own 5], .vec 99 8 (((Za Yj).1).map Gh.c) false, .vec 62 3 (Yj.Pq.map Gv.c) false, .nest 79 (Yj.Tr.map fun l => l.map (cI .i64)) false]) (args' := [.agg [.own 4, .own 5], .i .i64 1]) rfl rfl rfl rfl rfl rfl) <| s)
     clear q
     cases h4 : (decide ((ZO Yj 1).1 < 0)) with
     | true =>
      have gh4 := odt h4
      refine fnS E0Ok Z3 (c := bodyOf f8) [] (.b false) [] func8 (p (sB h4 <| sB h4 <| sB h4 <| sB h4 <| sB h4 <| sB (show true = true from rfl) <| sB (show true = true from rfl) <| sB (show true = true from rfl) <| sB (show true = true from rfl) <| sB (show true = true from rfl) <| sK [] sN)) rfl (by kernel_rfl) (by kernel_rfl) rfl ?_ ?_
      · simp only [ZF, h0, h1, h2, h3, h4, cond_true, cond_false]
      · rfl
     | false =>
      have gh4 := odf h4
      have y5 : ((Zh ((Za Yj).1) 1).2).length ≤ 1073741824 := by clear p; exact (by simp_all <;> omega)
      have q {a C} (s : Scr a C) := p (sB h4 <| sB h4 <| sB h4 <| sF (Z44 ((Za Yj).1) ((Zl Yj).1) y3 y4) <| sB h4 <| sB h4 <| sB' h1 <| sB' h1 <| sB' h1 <| sB' h1 <| sB' h2 <| sS (CallSt.frame (Z55 ((Za Yj).1) 1 y3) [7] (R := [.box 31 [.sl (Yj.Pq.map Gv.c), .sl (Yj.Tr.map (cL (cI .i64)))], .vec 62 3 (Yj.Pq.map Gv.c) false, .nest 79 (Yj.Tr.map fun l => l.map (cI .i64)) false, .vec 99 8 (((Zl Yj).1).map Gh.c) false, .vec 62 3 (((ZO Yj 1).2.1).map Gv.c) false, .nest 79 (((ZO Yj 1).2.2).map fun l => l.map (cI .i64)) false, .box 35 [.own 4, .own 5], .vec 99 8 (((Za Yj).1).map Gh.c) false, .vec 62 3 (Yj.Pq.map Gv.c) false, .nest 79 (Yj.Tr.map fun l => l.map (cI .i64)) false]) (args' := [.own 7, .i .i64 1]) rfl rfl rfl rfl rfl rfl) <| sF (Z4I ((Zh ((Za Yj).1) 1).2) 1 y5) <| s)
      clear p
      cases h5 : (decide ((Z1l ((Zh ((Za Yj).1) 1).2) 1) < 0)) with
      | true =>
       have gh5 := odt h5
       refine fnS E0Ok Z3 (c := bodyOf f8) [] (.b false) [] func8 (q (sB h5 <| sK [] sN)) rfl (by kernel_rfl) (by kernel_rfl) rfl ?_ ?_
       · simp only [ZF, h0, h1, h2, h3, h4, h5, cond_true, cond_false]
       · rfl
      | false =>
       have gh5 := odf h5
       have p {a C} (s : Scr a C) := q (sB h5 <| s)
       clear q
       cases h6 : ((Z1l ((Zh ((Za Yj).1) 1).2) 1) != (Zh ((Za Yj).1) 1).1) with
       | true =>
        have gh6 := bne_iff_ne.1 h6
        refine fnS E0Ok Z3 (c := bodyOf f8) [] (.b false) [] func8 (p (sB h6 <| sK [] sN)) rfl (by kernel_rfl) (by kernel_rfl) rfl ?_ ?_
        · simp only [ZF, h0, h1, h2, h3, h4, h5, h6, cond_true, cond_false]
        · rfl
       | false =>
        have gh6 := bne_eq_false_iff_eq.1 h6
        refine fnS E0Ok Z3 (c := bodyOf f8) [] (.b true) [] func8 (p (sB h6 <| sF (Z3o Yj y0 y1 y2) <| sF (Fn.castA (args' := [.agg [.sl (Yj.Pq.map Gv.c), .sl ((Yj.Tr.map fun l => l.map (cI .i64)).map fun l => [.sl l])]]) (Z4t Yj y0 y1 y2) (by simp [cL, Function.comp_def]; done)) <| sF (Z44 ((Za Yj).1) ((Zl Yj).1) y3 y4) <| sB' h1 <| sB' h1 <| sB' h1 <| sB' h1 <| sB' h2 <| sF (Z4I ((Zh ((Za Yj).1) 1).2) 1 y5) <| sB h5 <| sB h6 <| sK [] sN)) rfl (by kernel_rfl) (by kernel_rfl) rfl ?_ ?_
        · simp only [ZF, h0, h1, h2, h3, h4, h5, h6, cond_true, cond_false]
        · rfl
    | false =>
     refine fnS E0Ok Z3 (c := bodyOf f8) [] (.b false) [] func8 (q (sB' h3 <| sK [] sN)) rfl (by kernel_rfl) (by kernel_rfl) rfl ?_ ?_
     · simp only [ZF, h0, h1, h2, h3, cond_true, cond_false]
     · rfl
   | false =>
    have gh2 := ne_of_beq_false h2
    refine fnS E0Ok Z3 (c := bodyOf f8) [] (.b false) [] func8 (p (sB' h2 <| sK [] sN)) rfl (by kernel_rfl) (by kernel_rfl) rfl ?_ ?_
    · simp only [ZF, h0, h1, h2, cond_true, cond_false]
    · rfl
  | false =>
   refine fnS E0Ok Z3 (c := bodyOf f8) [] (.b false) [] func8 (q (sB' h1 <| sB' h1 <| sB' h1 <| sB' h1 <| sB (show true = true from rfl) <| sK [] sN)) rfl (by kernel_rfl) (by kernel_rfl) rfl ?_ ?_
   · simp only [ZF, h0, h1, cond_false]
   · rfl
theorem Z6u (a : List Gh) (c : Int) : Z1l (Zh a c).2 c = (Zh a c).1 := by
  rw [Z72, Z5b, hdL_mkL (fun x c => by simp [Z4W, Z3n, ofInt_self]) (fun x c => rfl)]
theorem Z4l (a : Gm) (h0_0 : a.Pq.length ≤ 9223372036854775807) (h0_1 : a.Tr.length ≤ 9223372036854775807) (h0_2 : ∀ t ∈ a.Tr, t.length ≤ 9223372036854775807) : ZF a = true := by
  unfold ZF
  have z0 := Z4T a 1048576 h0_0 h0_1 h0_2 (by omega) (by omega)
  cases hc0 : decide (Z13 a 1048576 < 0) with
  | true => rfl
  | false =>
    simp only [decide_eq_false_iff_not] at hc0
    have hm0 := Z5v a 1 (by omega) (by omega) (fun t ht => by have q := z0.2.2.2.2 t ht; omega) (by omega) (by omega)
    have l0 := Z4i a
    have v0 := Z69 (Za a).1 1 (by omega) (by omega) (by omega)
    simp only [Z59] at *
    simp only [Z6I, Z6D, Z6u, beq_self_eq_true, Bool.not_true, cond_true, cond_false, bne_self_eq_false]
    rw [decide_eq_false (by omega)]
    rw [decide_eq_false (by omega)]
    rfl
end Go.Ab
