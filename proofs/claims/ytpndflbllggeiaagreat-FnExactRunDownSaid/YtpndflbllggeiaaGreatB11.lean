/- The functions of this seat as plain Lean, and that the program's are these. Printed by a program of the prover's own. -/
import Derived.Test.YtpndflbllggeiaaGreatB10
set_option linter.unusedVariables false
set_option linter.unusedSimpArgs false
set_option maxRecDepth 100000
namespace Go.Ab
open Go.RowKit Go.Proofs.Tryz
theorem Zat (Y5 : (List Gs)) (YC : Int) : ∀ (k : Nat) (Ye : Int) (Yd : Int) (Yf : (List Gs)) (hk : ((Yf.length : Int) - Yd).toNat < k), (ZL Y5 YC k Ye Yd Yf).2.length = Yf.length := by
  intro k
  induction k with
  | zero => intro Ye Yd Yf hk; exact absurd hk (Nat.not_lt_zero _)
  | succ k ih =>
    intro Ye Yd Yf hk
    cases Yj : (decide (Yd < (Yf.length : Int))) with
    | true =>
      have e : ZL Y5 YC (k + 1) Ye Yd Yf = (ZL Y5 YC k (IntKind.wrap .i64 ((IntKind.wrap .i64 ((IntKind.wrap .i64 ((IntKind.wrap .i64 (Ye + 1)) + 1)) + 1)) + 1)) (Yd + 1) (Yf.set Yd.toNat (⟨Ye, (IntKind.wrap .i64 (Ye + 1)), (ofInt .f32 (IntKind.wrap .i64 ((IntKind.wrap .i64 (Ye + 1)) + 1))), (ofInt .f32 (IntKind.wrap .i64 ((IntKind.wrap .i64 ((IntKind.wrap .i64 (Ye + 1)) + 1)) + 1)))⟩ : Gs))) := by simp only [ZL, Yj, cond_true]
      rw [e, ih (IntKind.wrap .i64 ((IntKind.wrap .i64 ((IntKind.wrap .i64 ((IntKind.wrap .i64 (Ye + 1)) + 1)) + 1)) + 1)) (Yd + 1) (Yf.set Yd.toNat (⟨Ye, (IntKind.wrap .i64 (Ye + 1)), (ofInt .f32 (IntKind.wrap .i64 ((IntKind.wrap .i64 (Ye + 1)) + 1))), (ofInt .f32 (IntKind.wrap .i64 ((IntKind.wrap .i64 ((IntKind.wrap .i64 (Ye + 1)) + 1)) + 1)))⟩ : Gs)) (by simp_all <;> omega)]; simp
    | false =>
      have e : ZL Y5 YC (k + 1) Ye Yd Yf = (Ye, Yf) := by simp only [ZL, Yj, cond_false]
      first | (rw [e]; done) | (rw [e]; rfl)
def Z2E (Y5 : (List Gs)) (YC : Int) : Int × (List Gs) := (ZL Y5 YC (((Y5.length : Int) - 0).toNat + 1) YC 0 Y5)
@[simp] theorem Zeu (Y5 : (List Gs)) (YC : Int) : (Z2E Y5 YC).2.length = (Y5 : (List Gs)).length := Zat Y5 YC (((Y5.length : Int) - 0).toNat + 1) YC 0 Y5 (by exact Nat.lt_succ_self _)
def Zu (Y5 : (List Gs)) (YC : Int) : Int × (List Gs) := ((Z2E Y5 YC).1, (Z2E Y5 YC).2)
@[simp] theorem ZfU (Y5 : (List Gs)) (YC : Int) : (Zu Y5 YC).2.length = Y5.length := by
  first | (simp [Zu]; done)
theorem ZbZ (Y5 : (List Gs)) (YC : Int) (hp0 : Y5.length ≤ 1073741824)  : CallSt prog 62 [.vec 133 4 (Y5.map Gs.c) false] [.own 0, .i .i64 YC] (.i .i64 ((Zu Y5 YC).1)) [.vec 133 4 (((Zu Y5 YC).2).map Gs.c) false] := by
 refine callS (EpOk 1) Z5 (c := bodyOf f62) [.vec 133 4 (Y5.map Gs.c) false] [] (.i .i64 ((Z2E Y5 YC).1)) [.vec 133 4 (((Z2E Y5 YC).2).map Gs.c) false] func62 (sL (mR false [0, 2, 2, 2, 37]) 1 (lp_val (Z5c Y5 YC) (x := (Z2E Y5 YC)) (ZaZ Y5 YC hp0 (((Y5.length : Int) - 0).toNat + 1) YC 0 Y5 (show 0 ≤ 0 from (by omega)) (show Y5.length = Y5.length from (by simp)) (Nat.lt_succ_self _)) rfl) <| sK [] sN) rfl (by kernel_rfl) (by kernel_rfl) ?_ ?_
 · rfl
 · simp [Zu]
def Z6o (_ : Gs) (c : Int) : Int × Gs := ((IntKind.wrap .i64 ((IntKind.wrap .i64 ((IntKind.wrap .i64 ((IntKind.wrap .i64 (c + 1)) + 1)) + 1)) + 1)), ⟨c, (IntKind.wrap .i64 (c + 1)), ofInt .f32 (IntKind.wrap .i64 ((IntKind.wrap .i64 (c + 1)) + 1)), ofInt .f32 (IntKind.wrap .i64 ((IntKind.wrap .i64 ((IntKind.wrap .i64 (c + 1)) + 1)) + 1))⟩)
theorem ZbP (a : List Gs) (c : Int) : Zu a c = mkL Z6o a c := by
  unfold Zu Z2E
  rw [mark_loop (f := Z6o) (lo := ZL a c) (fun k c i r => rfl) _ _ _ _ (Int.le_refl 0) (Nat.lt_succ_self _)]
  simp
theorem ZaP (a : List Gs) (c : Int) (g0 : a.length ≤ 1073741824) (h0 : 0 ≤ c) (h1 : c ≤ 4611686018427387904) : c ≤ (Zu a c).1 ∧ (Zu a c).1 ≤ c + 4294967296 := by
  rw [ZbP]
  have q := mkL_ge (f := Z6o) (W := 4) a c (fun x _ c k0 k1 => by simp only [Z6o]; rw [wrap_id (n := c + 1) (by omega) (by omega), show c + 1 + 1 = c + 2 from by omega, wrap_id (n := c + 2) (by omega) (by omega), show c + 2 + 1 = c + 3 from by omega, wrap_id (n := c + 3) (by omega) (by omega), show c + 3 + 1 = c + 4 from by omega, wrap_id (n := c + 4) (by omega) (by omega)]; omega) h0 (by omega)
  omega
def ZE (Y5 : (List Nat)) (YC : Int) : Nat → Int → Int → (List Nat) → Int × (List Nat)
  | 0, _, _, _ => default
  | k + 1, Ye, Yd, Yf => (cond (decide (Yd < (Yf.length : Int)))
    (ZE Y5 YC k (IntKind.wrap .i64 (Ye + 1)) (Yd + 1) (Yf.set Yd.toNat (ofInt .f32 Ye)))
    (Ye, Yf))
def Z4V (Y5 : (List Nat)) (YC : Int) (r : Int × (List Nat)) : Ex × St := ((.exit 0), ⟨.any :: .i .i64 r.1 :: .any :: .any :: .i .i64 0 :: an 15 [], [.vec 27 1 (r.2.map (cF .f32)) false]⟩)
def Z6p (Y5 : (List Nat)) (YC : Int) (Ye : Int) (Yd : Int) (Yf : (List Nat)) : St := ⟨.own 0 :: .i .i64 Ye :: .any :: .any :: .i .i64 0 :: .i .i64 Yd :: an 14 [], [.vec 27 1 (Yf.map (cF .f32)) false]⟩
theorem ZaE (Y5 : (List Nat)) (YC : Int) (hp0 : Y5.length ≤ 1073741824) : ∀ (k : Nat) (Ye : Int) (Yd : Int) (Yf : (List Nat)) (Z5O : 0 ≤ Yd) (Z5P : Yf.length = Y5.length) (hk : ((Y5.length : Int) - Yd).toNat < k), Lp prog 1 (sub (bodyOf f41) [1, 0, 1, 0, 0]) (Z6p Y5 YC Ye Yd Yf) (Z4V Y5 YC (ZE Y5 YC k Ye Yd Yf)).1 (Z4V Y5 YC (ZE Y5 YC k Ye Yd Yf)).2 := by
 intro k
 induction k with
 | zero => intro Ye Yd Yf Z5O Z5P hk; exact absurd hk (Nat.not_lt_zero _)
 | succ k ih =>
  intro Ye Yd Yf Z5O Z5P hk
  have p {a C} (s : Scr a C) := sZ (cF .f32) Yf <| s
  cases Yj : (decide (Yd < (Yf.length : Int))) with
  | true =>
   have YM := odt Yj
   have YS : (0 : Int) ≤ Yd := by clear p; exact (by assumption)
   have YT : Yd < (Yf.length : Int) := by clear p; exact (by assumption)
   have YY : Yd.toNat < Yf.length := by clear p; exact (by omega)
   have YZ : (-9223372036854775808 : Int) ≤ (Yd + 1) := by clear p; exact (by omega)
   have y_4 : (Yd + 1) ≤ (9223372036854775807 : Int) := by clear p; exact (by omega)
   have e : ZE Y5 YC (k + 1) Ye Yd Yf = (ZE Y5 YC k (IntKind.wrap .i64 (Ye + 1)) (Yd + 1) (Yf.set Yd.toNat (ofInt .f32 Ye))) := by simp only [ZE, Yj, cond_true]
   rw [e]
   exact nextS (EpOk 1) Z5 [] (mR false [0, 2, 2, 2, 14]) [] (⟨.own 0 :: .i .i64 (IntKind.wrap .i64 (Ye + 1)) :: .any :: .any :: .i .i64 0 :: .i .i64 (Yd + 1) :: an 14 [], [.vec 27 1 ((Yf.map (cF .f32)).set Yd.toNat [.f .f32 (ofInt .f32 Ye)]) false]⟩) (p (sB Yj <| sX (cF .f32) Yf Yd YS YT <| sC (maplt (c := (cF .f32)) (l := Yf) YY) <| sW .i64 (Ye + 1) <| sI (Yd + 1) YZ y_4 <| sN)) (by kernel_rfl) (by simp [Z6p, List.map_set, cF]) (ih (IntKind.wrap .i64 (Ye + 1)) (Yd + 1) (Yf.set Yd.toNat (ofInt .f32 Ye)) (show 0 ≤ (Yd + 1) from (by omega)) (show (Yf.set Yd.toNat (ofInt .f32 Ye)).length = Y5.length from (by simp_all <;> omega)) (by omega))
  | false =>
   have YM := odf Yj
   have e : ZE Y5 YC (k + 1) Ye Yd Yf = (Ye, Yf) := by simp only [ZE, Yj, cond_false]
   rw [e]
   exact outR (e := (.exit 0)) (EpOk 1) Z5 [] (mR false [1, 1, 2, 1, 15]) [] (p (sB Yj <| sN)) (by kernel_rfl) (by intro h; cases h)
theorem Z9X (Y5 : (List Nat)) (YC : Int) : ∀ (k : Nat) (Ye : Int) (Yd : Int) (Yf : (List Nat)) (hk : ((Yf.length : Int) - Yd).toNat < k), (ZE Y5 YC k Ye Yd Yf).2.length = Yf.length := by
  intro k
  induction k with
  | zero => intro Ye Yd Yf hk; exact absurd hk (Nat.not_lt_zero _)
  | succ k ih =>
    intro Ye Yd Yf hk
    cases Yj : (decide (Yd < (Yf.length : Int))) with
    | true =>
      have e : ZE Y5 YC (k + 1) Ye Yd Yf = (ZE Y5 YC k (IntKind.wrap .i64 (Ye + 1)) (Yd + 1) (Yf.set Yd.toNat (ofInt .f32 Ye))) := by simp only [ZE, Yj, cond_true]
      rw [e, ih (IntKind.wrap .i64 (Ye + 1)) (Yd + 1) (Yf.set Yd.toNat (ofInt .f32 Ye)) (by simp_all <;> omega)]; simp
    | false =>
      have e : ZE Y5 YC (k + 1) Ye Yd Yf = (Ye, Yf) := by simp only [ZE, Yj, cond_false]
      first | (rw [e]; done) | (rw [e]; rfl)
def Z2w (Y5 : (List Nat)) (YC : Int) : Int × (List Nat) := (ZE Y5 YC (((Y5.length : Int) - 0).toNat + 1) YC 0 Y5)
@[simp] theorem Zep (Y5 : (List Nat)) (YC : Int) : (Z2w Y5 YC).2.length = (Y5 : (List Nat)).length := Z9X Y5 YC (((Y5.length : Int) - 0).toNat + 1) YC 0 Y5 (by exact Nat.lt_succ_self _)
def Zw (Y5 : (List Nat)) (YC : Int) : Int × (List Nat) := ((Z2w Y5 YC).1, (Z2w Y5 YC).2)
@[simp] theorem Zfy (Y5 : (List Nat)) (YC : Int) : (Zw Y5 YC).2.length = Y5.length := by
  first | (simp [Zw]; done)
theorem Z7u (Y5 : (List Nat)) (YC : Int) (hp0 : Y5.length ≤ 1073741824)  : CallSt prog 41 [.vec 27 1 (Y5.map (cF .f32)) false] [.own 0, .i .i64 YC] (.i .i64 ((Zw Y5 YC).1)) [.vec 27 1 (((Zw Y5 YC).2).map (cF .f32)) false] := by
 refine callS (EpOk 1) Z5 (c := bodyOf f41) [.vec 27 1 (Y5.map (cF .f32)) false] [] (.i .i64 ((Z2w Y5 YC).1)) [.vec 27 1 (((Z2w Y5 YC).2).map (cF .f32)) false] func41 (sL (mR false [0, 2, 2, 2, 14]) 1 (lp_val (Z4V Y5 YC) (x := (Z2w Y5 YC)) (ZaE Y5 YC hp0 (((Y5.length : Int) - 0).toNat + 1) YC 0 Y5 (show 0 ≤ 0 from (by omega)) (show Y5.length = Y5.length from (by simp)) (Nat.lt_succ_self _)) rfl) <| sK [] sN) rfl (by kernel_rfl) (by kernel_rfl) ?_ ?_
 · rfl
 · simp [Zw]
def Z5Q (_ : Nat) (c : Int) : Int × Nat := ((IntKind.wrap .i64 (c + 1)), ofInt .f32 c)
theorem Zbr (a : List Nat) (c : Int) : Zw a c = mkL Z5Q a c := by
  unfold Zw Z2w
  rw [mark_loop (f := Z5Q) (lo := ZE a c) (fun k c i r => rfl) _ _ _ _ (Int.le_refl 0) (Nat.lt_succ_self _)]
  simp
theorem Z7q (a : List Nat) (c : Int) (g0 : a.length ≤ 1073741824) (h0 : 0 ≤ c) (h1 : c ≤ 4611686018427387904) : c ≤ (Zw a c).1 ∧ (Zw a c).1 ≤ c + 1073741824 := by
  rw [Zbr]
  have q := mkL_ge (f := Z5Q) (W := 1) a c (fun x _ c k0 k1 => by simp only [Z5Q]; rw [wrap_id (n := c + 1) (by omega) (by omega)]; omega) h0 (by omega)
  omega
def Z3 (Y5 : Gb) (YC : Int) : Int × (List Gv) × (List (List Int)) × (List Gs) × (List Nat) := ((Zw Y5.We ((Zu Y5.Sp ((Zh Y5.Me YC).1)).1)).1, (Zh Y5.Me YC).2.1, (Zh Y5.Me YC).2.2, (Zu Y5.Sp ((Zh Y5.Me YC).1)).2, (Zw Y5.We ((Zu Y5.Sp ((Zh Y5.Me YC).1)).1)).2)
@[simp] theorem Ze3 (Y5 : Gb) (YC : Int) : (Z3 Y5 YC).2.1.length = Y5.Me.Pq.length := by
  first | (simp [Z3]; done)
@[simp] theorem Ze4 (Y5 : Gb) (YC : Int) : (Z3 Y5 YC).2.2.1.length = Y5.Me.Tr.length := by
  first | (simp [Z3]; done)
@[simp] theorem Ze5 (Y5 : Gb) (YC : Int) : (Z3 Y5 YC).2.2.2.1.length = Y5.Sp.length := by
  first | (simp [Z3]; done)
@[simp] theorem Ze6 (Y5 : Gb) (YC : Int) : (Z3 Y5 YC).2.2.2.2.length = Y5.We.length := by
  first | (simp [Z3]; done)
theorem Z5E (Y5 : Gb) (YC : Int) (hp0 : Y5.Me.Pq.length ≤ 1073741824) (hp1 : Y5.Me.Tr.length ≤ 1073741824) (hp2 : ∀ t ∈ Y5.Me.Tr, t.length ≤ 1073741824) (hp3 : Y5.Sp.length ≤ 1073741824) (hp4 : Y5.We.length ≤ 1073741824)  : CallSt prog 17 [.vec 40 3 (Y5.Me.Pq.map Gv.c) false, .nest 49 (Y5.Me.Tr.map fun l => l.map (cI .i64)) false, .vec 133 4 (Y5.Sp.map Gs.c) false, .vec 27 1 (Y5.We.map (cF .f32)) false] [.agg [.own 0, .own 1, .own 2, .f .f32 Y5.Film, .f .f32 Y5.Bend, .own 3, .f .f32 Y5.Fall.X, .f .f32 Y5.Fall.Y, .f .f32 Y5.Fall.Z], .i .i64 YC] (.i .i64 ((Z3 Y5 YC).1)) [.vec 40 3 (((Z3 Y5 YC).2.1).map Gv.c) false, .nest 49 (((Z3 Y5 YC).2.2.1).map fun l => l.map (cI .i64)) false, .vec 133 4 (((Z3 Y5 YC).2.2.2.1).map Gs.c) false, .vec 27 1 (((Z3 Y5 YC).2.2.2.2).map (cF .f32)) false] := by
 refine callS (EpOk 4) Z5 (c := bodyOf f17) [.vec 40 3 (Y5.Me.Pq.map Gv.c) false, .nest 49 (Y5.Me.Tr.map fun l => l.map (cI .i64)) false, .vec 133 4 (Y5.Sp.map Gs.c) false, .vec 27 1 (Y5.We.map (cF .f32)) false] [] (.i .i64 ((Zw Y5.We ((Zu Y5.Sp ((Zh Y5.Me YC).1)).1)).1)) [.vec 40 3 (((Zh Y5.Me YC).2.1).map Gv.c) false, .nest 49 (((Zh Y5.Me YC).2.2).map fun l => l.map (cI .i64)) false, .vec 133 4 (((Zu Y5.Sp ((Zh Y5.Me YC).1)).2).map Gs.c) false, .vec 27 1 (((Zw Y5.We ((Zu Y5.Sp ((Zh Y5.Me YC).1)).1)).2).map (cF .f32)) false] func17 (sS (CallSt.frame (ZbY Y5.Me YC hp0 hp1 hp2) [0, 1] (R := [.vec 40 3 (Y5.Me.Pq.map Gv.c) false, .nest 49 (Y5.Me.Tr.map fun l => l.map (cI .i64)) false, .vec 133 4 (Y5.Sp.map Gs.c) false, .vec 27 1 (Y5.We.map (cF .f32)) false, .box 42 [.own 0, .own 1, .own 2, .f .f32 Y5.Film, .f .f32 Y5.Bend, .own 3, .f .f32 Y5.Fall.X, .f .f32 Y5.Fall.Y, .f .f32 Y5.Fall.Z]]) (args' := [.agg [.own 0, .own 1], .i .i64 YC]) rfl rfl rfl rfl rfl rfl) <| sS (CallSt.frame (ZbZ Y5.Sp ((Zh Y5.Me YC).1) hp3) [2] (R := [.vec 40 3 (((Zh Y5.Me YC).2.1).map Gv.c) false, .nest 49 (((Zh Y5.Me YC).2.2).map fun l => l.map (cI .i64)) false, .vec 133 4 (Y5.Sp.map Gs.c) false, .vec 27 1 (Y5.We.map (cF .f32)) false, .box 42 [.own 0, .own 1, .own 2, .f .f32 Y5.Film, .f .f32 Y5.Bend, .own 3, .f .f32 Y5.Fall.X, .f .f32 Y5.Fall.Y, .f .f32 Y5.Fall.Z]]) (args' := [.own 2, .i .i64 ((Zh Y5.Me YC).1)]) rfl rfl rfl rfl rfl rfl) <| sS (CallSt.frame (Z7u Y5.We ((Zu Y5.Sp ((Zh Y5.Me YC).1)).1) hp4) [3] (R := [.vec 40 3 (((Zh Y5.Me YC).2.1).map Gv.c) false, .nest 49 (((Zh Y5.Me YC).2.2).map fun l => l.map (cI .i64)) false, .vec 133 4 (((Zu Y5.Sp ((Zh Y5.Me YC).1)).2).map Gs.c) false, .vec 27 1 (Y5.We.map (cF .f32)) false, .box 42 [.own 0, .own 1, .own 2, .f .f32 Y5.Film, .f .f32 Y5.Bend, .own 3, .f .f32 Y5.Fall.X, .f .f32 Y5.Fall.Y, .f .f32 Y5.Fall.Z]]) (args' := [.own 3, .i .i64 ((Zu Y5.Sp ((Zh Y5.Me YC).1)).1)]) rfl rfl rfl rfl rfl rfl) <| sK [] sN) rfl (by kernel_rfl) (by kernel_rfl) ?_ ?_
 · rfl
 · simp [Z3]
theorem Z6Y (a : Gb) (c : Int) (g0 : a.Me.Pq.length ≤ 1073741824) (g1 : a.Me.Tr.length ≤ 1073741824) (g2 : ∀ t ∈ a.Me.Tr, t.length ≤ 1073741824) (g3 : a.Sp.length ≤ 1073741824) (g4 : a.We.length ≤ 1073741824) (h0 : 0 ≤ c) (h1 : c ≤ 2305843009213693952) : c ≤ (Z3 a c).1 ∧ (Z3 a c).1 ≤ c + 1152921513196781568 := by
  unfold Z3
  have p0 := Zas a.Me c g0 g1 g2 (by omega) (by omega)
  have p1 := ZaP a.Sp ((Zh a.Me c).1) g3 (by omega) (by omega)
  have p2 := Z7q a.We ((Zu a.Sp ((Zh a.Me c).1)).1) g4 (by omega) (by omega)
  simp only
  omega
theorem Zbw (a : Gb) (c : Int) (N : Nat) (h : ∀ t ∈ a.Me.Tr, t.length ≤ N) : ∀ t ∈ (Z3 a c).2.2.1, t.length ≤ N := by
  unfold Z3
  exact Zf1 _ _ N h
def Z1X (Y5 : (List Int)) (YC : Int) : Nat → Int → Int → (List Int) → Int × (List Int)
  | 0, _, _, _ => default
  | k + 1, Ye, Yd, Yf => (cond (decide (Yd < (Yf.length : Int)))
    (Z1X Y5 YC k (IntKind.wrap .i64 (Ye + 1)) (Yd + 1) (Yf.set Yd.toNat Ye))
    (Ye, Yf))
def Z5k (Y5 : (List Int)) (YC : Int) (r : Int × (List Int)) : Ex × St := ((.exit 0), ⟨.any :: .i .i64 r.1 :: .any :: .any :: .i .i64 0 :: an 14 [], [.vec 2 1 (r.2.map (cI .i64)) false]⟩)
def Z7r (Y5 : (List Int)) (YC : Int) (Ye : Int) (Yd : Int) (Yf : (List Int)) : St := ⟨.own 0 :: .i .i64 Ye :: .any :: .any :: .i .i64 0 :: .i .i64 Yd :: an 13 [], [.vec 2 1 (Yf.map (cI .i64)) false]⟩
theorem Zbs (Y5 : (List Int)) (YC : Int) (hp0 : Y5.length ≤ 1073741824) : ∀ (k : Nat) (Ye : Int) (Yd : Int) (Yf : (List Int)) (Z6q : 0 ≤ Yd) (Z6r : Yf.length = Y5.length) (hk : ((Y5.length : Int) - Yd).toNat < k), Lp prog 1 (sub (bodyOf f27) [1, 0, 1, 0, 0]) (Z7r Y5 YC Ye Yd Yf) (Z5k Y5 YC (Z1X Y5 YC k Ye Yd Yf)).1 (Z5k Y5 YC (Z1X Y5 YC k Ye Yd Yf)).2 := by
 intro k
 induction k with
 | zero => intro Ye Yd Yf Z6q Z6r hk; exact absurd hk (Nat.not_lt_zero _)
 | succ k ih =>
  intro Ye Yd Yf Z6q Z6r hk
  have p {a C} (s : Scr a C) := sZ (cI .i64) Yf <| s
  cases Yj : (decide (Yd < (Yf.length : Int))) with
  | true =>
   have YM := odt Yj
   have YS : (0 : Int) ≤ Yd := by clear p; exact (by assumption)
   have YT : Yd < (Yf.length : Int) := by clear p; exact (by assumption)
   have YY : Yd.toNat < Yf.length := by clear p; exact (by omega)
   have YZ : (-9223372036854775808 : Int) ≤ (Yd + 1) := by clear p; exact (by omega)
   have y_4 : (Yd + 1) ≤ (9223372036854775807 : Int) := by clear p; exact (by omega)
   have e : Z1X Y5 YC (k + 1) Ye Yd Yf = (Z1X Y5 YC k (IntKind.wrap .i64 (Ye + 1)) (Yd + 1) (Yf.set Yd.toNat Ye)) := by simp only [Z1X, Yj, cond_true]
   rw [e]
   exact nextS (EpOk 1) Z5 [] (mR false [0, 2, 2, 2, 13]) [] (⟨.own 0 :: .i .i64 (IntKind.wrap .i64 (Ye + 1)) :: .any :: .any :: .i .i64 0 :: .i .i64 (Yd + 1) :: an 13 [], [.vec 2 1 ((Yf.map (cI .i64)).set Yd.toNat [.i .i64 Ye]) false]⟩) (p (sB Yj <| sX (cI .i64) Yf Yd YS YT <| sC (maplt (c := (cI .i64)) (l := Yf) YY) <| sW .i64 (Ye + 1) <| sI (Yd + 1) YZ y_4 <| sN)) (by kernel_rfl) (by simp [Z7r, List.map_set, cI]) (ih (IntKind.wrap .i64 (Ye + 1)) (Yd + 1) (Yf.set Yd.toNat Ye) (show 0 ≤ (Yd + 1) from (by omega)) (show (Yf.set Yd.toNat Ye).length = Y5.length from (by simp_all <;> omega)) (by omega))
  | false =>
   have YM := odf Yj
   have e : Z1X Y5 YC (k + 1) Ye Yd Yf = (Ye, Yf) := by simp only [Z1X, Yj, cond_false]
   rw [e]
   exact outR (e := (.exit 0)) (EpOk 1) Z5 [] (mR false [1, 1, 2, 1, 14]) [] (p (sB Yj <| sN)) (by kernel_rfl) (by intro h; cases h)
def Z3c (Y5 : (List Int)) (YC : Int) : Int × (List Int) := (Z1X Y5 YC (((Y5.length : Int) - 0).toNat + 1) YC 0 Y5)
def Z25 (Y5 : (List Int)) (YC : Int) : Int × (List Int) := ((Z3c Y5 YC).1, (Z3c Y5 YC).2)
theorem Zck (Y5 : (List Int)) (YC : Int) (hp0 : Y5.length ≤ 1073741824)  : CallSt prog 27 [.vec 2 1 (Y5.map (cI .i64)) false] [.own 0, .i .i64 YC] (.i .i64 ((Z25 Y5 YC).1)) [.vec 2 1 (((Z25 Y5 YC).2).map (cI .i64)) false] := by
 refine callS (EpOk 1) Z5 (c := bodyOf f27) [.vec 2 1 (Y5.map (cI .i64)) false] [] (.i .i64 ((Z3c Y5 YC).1)) [.vec 2 1 (((Z3c Y5 YC).2).map (cI .i64)) false] func27 (sL (mR false [0, 2, 2, 2, 13]) 1 (lp_val (Z5k Y5 YC) (x := (Z3c Y5 YC)) (Zbs Y5 YC hp0 (((Y5.length : Int) - 0).toNat + 1) YC 0 Y5 (show 0 ≤ 0 from (by omega)) (show Y5.length = Y5.length from (by simp)) (Nat.lt_succ_self _)) rfl) <| sK [] sN) rfl (by kernel_rfl) (by kernel_rfl) ?_ ?_
 · rfl
 · simp [Z25]
def Z9l (_ : Int) (c : Int) : Int × Int := ((IntKind.wrap .i64 (c + 1)), c)
theorem ZfV (a : List Int) (c : Int) : Z25 a c = mkL Z9l a c := by
  unfold Z25 Z3c
  rw [mark_loop (f := Z9l) (lo := Z1X a c) (fun k c i r => rfl) _ _ _ _ (Int.le_refl 0) (Nat.lt_succ_self _)]
  simp
theorem Zf2 (a : List Int) (c : Int) (g0 : a.length ≤ 1073741824) (h0 : 0 ≤ c) (h1 : c ≤ 4611686018427387904) : c ≤ (Z25 a c).1 ∧ (Z25 a c).1 ≤ c + 1073741824 := by
  rw [ZfV]
  have q := mkL_ge (f := Z9l) (W := 1) a c (fun x _ c k0 k1 => by simp only [Z9l]; rw [wrap_id (n := c + 1) (by omega) (by omega)]; omega) h0 (by omega)
  omega
def Z11 (Y5 : (List Gv)) (YC : Int) : Nat → Int → Int → (Unit) ⊕ (Int)
  | 0, _, _ => .inl default
  | k + 1, Ye, Yd => (cond (decide (Yd < (Y5.length : Int)))
    (cond (fcmp .neq .f32 ((Y5.getD Yd.toNat default).X) (ofInt .f32 Ye))
      (.inl ())
      (cond (fcmp .neq .f32 ((Y5.getD Yd.toNat default).Y) (ofInt .f32 (IntKind.wrap .i64 (Ye + 1))))
        (.inl ())
        (cond (fcmp .neq .f32 ((Y5.getD Yd.toNat default).Z) (ofInt .f32 (IntKind.wrap .i64 ((IntKind.wrap .i64 (Ye + 1)) + 1))))
          (.inl ())
          (Z11 Y5 YC k (IntKind.wrap .i64 ((IntKind.wrap .i64 ((IntKind.wrap .i64 (Ye + 1)) + 1)) + 1)) (Yd + 1)))))
    (.inr Ye))
def Z4S (Y5 : (List Gv)) (YC : Int) : (Unit) ⊕ (Int) → Ex × St
  | .inl r => (.ret, ⟨an 4 (.i .i64 (-1) :: an 38 []), []⟩)
  | .inr r => ((.exit 0), ⟨.any :: .i .i64 r :: an 41 [], []⟩)
def Zcl (Y5 : (List Gv)) (YC : Int) (Ye : Int) (Yd : Int) : St := ⟨.sl (Y5.map Gv.c) :: .i .i64 Ye :: .any :: .any :: .any :: .i .i64 Yd :: an 37 [], []⟩
theorem Z8y (Y5 : (List Gv)) (YC : Int) (hp0 : Y5.length ≤ 1073741824) : ∀ (k : Nat) (Ye : Int) (Yd : Int) (Z7v : 0 ≤ Yd) (hk : ((Y5.length : Int) - Yd).toNat < k), Lp prog 0 (sub (bodyOf f19) [1, 0, 1, 0, 0]) (Zcl Y5 YC Ye Yd) (Z4S Y5 YC (Z11 Y5 YC k Ye Yd)).1 (Z4S Y5 YC (Z11 Y5 YC k Ye Yd)).2 := by
 intro k
 induction k with
 | zero => intro Ye Yd Z7v hk; exact absurd hk (Nat.not_lt_zero _)
 | succ k ih =>
  intro Ye Yd Z7v hk
  have p {a C} (s : Scr a C) := sZ Gv.c Y5 <| s
  cases Yj : (decide (Yd < (Y5.length : Int))) with
  | true =>
   have YM := odt Yj
   have YS : (0 : Int) ≤ Yd := by clear p; exact (by assumption)
   have YT : Yd < (Y5.length : Int) := by clear p; exact (by assumption)
   have q {a C} (s : Scr a C) := p (sB Yj <| sG Gv.c Y5 Yd YS YT <| s)
   clear p
   cases YJ : (fcmp .neq .f32 ((Y5.getD Yd.toNat default).X) (ofInt .f32 Ye)) with
   | true =>
    have e : Z11 Y5 YC (k + 1) Ye Yd = (.inl ()) := by simp only [Z11, Yj, YJ, cond_true]
    rw [e]
    exact outR (e := .ret) E0Ok Z5 [] (mR false [4, 1, 38]) [] (q (sB YJ <| sN)) (by kernel_rfl) (by intro h; cases h)
   | false =>
    have p {a C} (s : Scr a C) := q (sB YJ <| sW .i64 (Ye + 1) <| sG Gv.c Y5 Yd YS YT <| s)
    clear q
    cases h_2 : (fcmp .neq .f32 ((Y5.getD Yd.toNat default).Y) (ofInt .f32 (IntKind.wrap .i64 (Ye + 1)))) with
    | true =>
     have e : Z11 Y5 YC (k + 1) Ye Yd = (.inl ()) := by simp only [Z11, Yj, YJ, h_2, cond_true, cond_false]
     rw [e]
     exact outR (e := .ret) E0Ok Z5 [] (mR false [4, 1, 38]) [] (p (sB h_2 <| sN)) (by kernel_rfl) (by intro h; cases h)
    | false =>
     have q {a C} (s : Scr a C) := p (sB h_2 <| sW .i64 ((IntKind.wrap .i64 (Ye + 1)) + 1) <| sG Gv.c Y5 Yd YS YT <| s)
     clear p
     cases h_3 : (fcmp .neq .f32 ((Y5.getD Yd.toNat default).Z) (ofInt .f32 (IntKind.wrap .i64 ((IntKind.wrap .i64 (Ye + 1)) + 1)))) with
     | true =>
      have e : Z11 Y5 YC (k + 1) Ye Yd = (.inl ()) := by simp only [Z11, Yj, YJ, h_2, h_3, cond_true, cond_false]
      rw [e]
      exact outR (e := .ret) E0Ok Z5 [] (mR false [4, 1, 38]) [] (q (sB h_3 <| sN)) (by kernel_rfl) (by intro h; cases h)
     | false =>
      have YY : (-9223372036854775808 : Int) ≤ (Yd + 1) := by clear q; exact (by omega)
      have YZ : (Yd + 1) ≤ (9223372036854775807 : Int) := by clear q; exact (by omega)
      have e : Z11 Y5 YC (k + 1) Ye Yd = (Z11 Y5 YC k (IntKind.wrap .i64 ((IntKind.wrap .i64 ((IntKind.wrap .i64 (Ye + 1)) + 1)) + 1)) (Yd + 1)) := by simp only [Z11, Yj, YJ, h_2, h_3, cond_true, cond_false]
      rw [e]
      exact nextR E0Ok Z5 [] (mR false [0, 2, 3, 1, 37]) [] (ih (IntKind.wrap .i64 ((IntKind.wrap .i64 ((IntKind.wrap .i64 (Ye + 1)) + 1)) + 1)) (Yd + 1) (show 0 ≤ (Yd + 1) from (by omega)) (by omega)) (q (sB h_3 <| sW .i64 ((IntKind.wrap .i64 ((IntKind.wrap .i64 (Ye + 1)) + 1)) + 1) <| sI (Yd + 1) YY YZ <| sN)) (by kernel_rfl)
  | false =>
   have YM := odf Yj
   have e : Z11 Y5 YC (k + 1) Ye Yd = (.inr Ye) := by simp only [Z11, Yj, cond_false]
   rw [e]
   exact outR (e := (.exit 0)) E0Ok Z5 [] (mR false [1, 1, 41]) [] (p (sB Yj <| sN)) (by kernel_rfl) (by intro h; cases h)
def Z45 (Y5 : (List Gv)) (YC : Int) : (Unit) ⊕ (Int) := (Z11 Y5 YC (((Y5.length : Int) - 0).toNat + 1) YC 0)
def Z26 (Y5 : (List Gv)) (YC : Int) : Int := (match (Z45 Y5 YC) with
  | .inl r1 => (-1)
  | .inr r1 => r1)
theorem ZdZ (Y5 : (List Gv)) (YC : Int) (hp0 : Y5.length ≤ 1073741824)  : Fn prog 19 [.sl (Y5.map Gv.c), .i .i64 YC] (.i .i64 (Z26 Y5 YC)) [] := by
 cases h0 : (Z45 Y5 YC) with
 | inl r1 =>
  refine fnS E0Ok Z5 (c := bodyOf f19) [] (.i .i64 (-1)) [] func19 (sL (mR false [0, 2, 3, 1, 37]) 0 (lp_val (Z4S Y5 YC) (x := (Z45 Y5 YC)) (Z8y Y5 YC hp0 (((Y5.length : Int) - 0).toNat + 1) YC 0 (show 0 ≤ 0 from (by omega)) (Nat.lt_succ_self _)) h0) <| sK [] sN) rfl (by kernel_rfl) (by kernel_rfl) rfl ?_ ?_
  · simp only [Z26, h0]
  · rfl
 | inr r1 =>
  refine fnS E0Ok Z5 (c := bodyOf f19) [] (.i .i64 r1) [] func19 (sL (mR false [0, 2, 3, 1, 37]) 0 (lp_val (Z4S Y5 YC) (x := (Z45 Y5 YC)) (Z8y Y5 YC hp0 (((Y5.length : Int) - 0).toNat + 1) YC 0 (show 0 ≤ 0 from (by omega)) (Nat.lt_succ_self _)) h0) <| sK [] sN) rfl (by kernel_rfl) (by kernel_rfl) rfl ?_ ?_
  · simp only [Z26, h0]
  · rfl
def Zau (x : Gv) (c : Int) : Bool := (!(fcmp .neq .f32 x.X (ofInt .f32 c))) && (!(fcmp .neq .f32 x.Y (ofInt .f32 (IntKind.wrap .i64 (c + 1))))) && (!(fcmp .neq .f32 x.Z (ofInt .f32 (IntKind.wrap .i64 ((IntKind.wrap .i64 (c + 1)) + 1)))))
def ZbQ (_ : Gv) (c : Int) : Int := (IntKind.wrap .i64 ((IntKind.wrap .i64 ((IntKind.wrap .i64 (c + 1)) + 1)) + 1))
theorem Zh1 (a : List Gv) (c : Int) : Z26 a c = match hdL Zau ZbQ a c with
    | some c' => c'
    | none => -1 := by
  unfold Z26 Z45
  rw [held_loop (p := Zau) (q := ZbQ) (a := a) (x := ()) (lo := Z11 a c) (fun k c i => by
    rw [Z11]
    unfold Zau ZbQ
    generalize a.getD i.toNat default = x
    cases decide (i < (a.length : Int)) <;> cases fcmp .neq .f32 x.X (ofInt .f32 c) <;> cases fcmp .neq .f32 x.Y (ofInt .f32 (IntKind.wrap .i64 (c + 1))) <;> cases fcmp .neq .f32 x.Z (ofInt .f32 (IntKind.wrap .i64 ((IntKind.wrap .i64 (c + 1)) + 1))) <;> rfl) _ _ _ (Int.le_refl 0) (Nat.lt_succ_self _)]
  simp only [Int.toNat_zero, List.drop_zero]
  cases hdL Zau ZbQ a c <;> rfl
def Z1Q (Y5 : (List Int)) (YC : Int) : Nat → Int → Int → (Unit) ⊕ (Int)
  | 0, _, _ => .inl default
  | k + 1, Ye, Yd => (cond (decide (Yd < (Y5.length : Int)))
    (cond ((Y5.getD Yd.toNat default) != Ye)
      (.inl ())
      (Z1Q Y5 YC k (IntKind.wrap .i64 (Ye + 1)) (Yd + 1)))
    (.inr Ye))
def Z5d (Y5 : (List Int)) (YC : Int) : (Unit) ⊕ (Int) → Ex × St
  | .inl r => (.ret, ⟨an 4 (.i .i64 (-1) :: an 16 []), []⟩)
  | .inr r => ((.exit 0), ⟨.any :: .i .i64 r :: an 19 [], []⟩)
def ZcS (Y5 : (List Int)) (YC : Int) (Ye : Int) (Yd : Int) : St := ⟨.sl (Y5.map (cI .i64)) :: .i .i64 Ye :: .any :: .any :: .any :: .i .i64 Yd :: an 15 [], []⟩
theorem Z9m (Y5 : (List Int)) (YC : Int) (hp0 : Y5.length ≤ 1073741824) : ∀ (k : Nat) (Ye : Int) (Yd : Int) (Z7S : 0 ≤ Yd) (hk : ((Y5.length : Int) - Yd).toNat < k), Lp prog 0 (sub (bodyOf f143) [1, 0, 1, 0, 0]) (ZcS Y5 YC Ye Yd) (Z5d Y5 YC (Z1Q Y5 YC k Ye Yd)).1 (Z5d Y5 YC (Z1Q Y5 YC k Ye Yd)).2 := by
 intro k
 induction k with
 | zero => intro Ye Yd Z7S hk; exact absurd hk (Nat.not_lt_zero _)
 | succ k ih =>
  intro Ye Yd Z7S hk
  have p {a C} (s : Scr a C) := sZ (cI .i64) Y5 <| s
  cases Yj : (decide (Yd < (Y5.length : Int))) with
  | true =>
   have YM := odt Yj
   have YS : (0 : Int) ≤ Yd := by clear p; exact (by assumption)
   have YT : Yd < (Y5.length : Int) := by clear p; exact (by assumption)
   have q {a C} (s : Scr a C) := p (sB Yj <| sG (cI .i64) Y5 Yd YS YT <| s)
   clear p
   cases YJ : ((Y5.getD Yd.toNat default) != Ye) with
   | true =>
    have Y1d := bne_iff_ne.1 YJ
    have e : Z1Q Y5 YC (k + 1) Ye Yd = (.inl ()) := by simp only [Z1Q, Yj, YJ, cond_true]
    rw [e]
    exact outR (e := .ret) E0Ok Z5 [] (mR false [4, 1, 16]) [] (q (sB YJ <| sN)) (by kernel_rfl) (by intro h; cases h)
   | false =>
    have Y1d := bne_eq_false_iff_eq.1 YJ
    have YY : (-9223372036854775808 : Int) ≤ (Yd + 1) := by clear q; exact (by omega)
    have YZ : (Yd + 1) ≤ (9223372036854775807 : Int) := by clear q; exact (by omega)
    have e : Z1Q Y5 YC (k + 1) Ye Yd = (Z1Q Y5 YC k (IntKind.wrap .i64 (Ye + 1)) (Yd + 1)) := by simp only [Z1Q, Yj, YJ, cond_true, cond_false]
    rw [e]
    exact nextR E0Ok Z5 [] (mR false [0, 2, 3, 1, 15]) [] (ih (IntKind.wrap .i64 (Ye + 1)) (Yd + 1) (show 0 ≤ (Yd + 1) from (by omega)) (by omega)) (q (sB YJ <| sW .i64 (Ye + 1) <| sI (Yd + 1) YY YZ <| sN)) (by kernel_rfl)
  | false =>
   have YM := odf Yj
   have e : Z1Q Y5 YC (k + 1) Ye Yd = (.inr Ye) := by simp only [Z1Q, Yj, cond_false]
   rw [e]
   exact outR (e := (.exit 0)) E0Ok Z5 [] (mR false [1, 1, 19]) [] (p (sB Yj <| sN)) (by kernel_rfl) (by intro h; cases h)
def Z4g (Y5 : (List Int)) (YC : Int) : (Unit) ⊕ (Int) := (Z1Q Y5 YC (((Y5.length : Int) - 0).toNat + 1) YC 0)
def Z1q (Y5 : (List Int)) (YC : Int) : Int := (match (Z4g Y5 YC) with
  | .inl r1 => (-1)
  | .inr r1 => r1)
theorem Zeq (Y5 : (List Int)) (YC : Int) (hp0 : Y5.length ≤ 1073741824)  : Fn prog 143 [.sl (Y5.map (cI .i64)), .i .i64 YC] (.i .i64 (Z1q Y5 YC)) [] := by
 cases h0 : (Z4g Y5 YC) with
 | inl r1 =>
  refine fnS E0Ok Z5 (c := bodyOf f143) [] (.i .i64 (-1)) [] func143 (sL (mR false [0, 2, 3, 1, 15]) 0 (lp_val (Z5d Y5 YC) (x := (Z4g Y5 YC)) (Z9m Y5 YC hp0 (((Y5.length : Int) - 0).toNat + 1) YC 0 (show 0 ≤ 0 from (by omega)) (Nat.lt_succ_self _)) h0) <| sK [] sN) rfl (by kernel_rfl) (by kernel_rfl) rfl ?_ ?_
  · simp only [Z1q, h0]
  · rfl
 | inr r1 =>
  refine fnS E0Ok Z5 (c := bodyOf f143) [] (.i .i64 r1) [] func143 (sL (mR false [0, 2, 3, 1, 15]) 0 (lp_val (Z5d Y5 YC) (x := (Z4g Y5 YC)) (Z9m Y5 YC hp0 (((Y5.length : Int) - 0).toNat + 1) YC 0 (show 0 ≤ 0 from (by omega)) (Nat.lt_succ_self _)) h0) <| sK [] sN) rfl (by kernel_rfl) (by kernel_rfl) rfl ?_ ?_
  · simp only [Z1q, h0]
  · rfl
def Zbt (x : Int) (c : Int) : Bool := (!(x != c))
def ZcT (_ : Int) (c : Int) : Int := (IntKind.wrap .i64 (c + 1))
theorem Zhs (a : List Int) (c : Int) : Z1q a c = match hdL Zbt ZcT a c with
    | some c' => c'
    | none => -1 := by
  unfold Z1q Z4g
  rw [held_loop (p := Zbt) (q := ZcT) (a := a) (x := ()) (lo := Z1Q a c) (fun k c i => by
    rw [Z1Q]
    unfold Zbt ZcT
    generalize a.getD i.toNat default = x
    cases decide (i < (a.length : Int)) <;> cases (x != c) <;> rfl) _ _ _ (Int.le_refl 0) (Nat.lt_succ_self _)]
  simp only [Int.toNat_zero, List.drop_zero]
  cases hdL Zbt ZcT a c <;> rfl
def Z1C (Y5 : (List (List Int))) (YC : Int) : Nat → Int → Int → (Unit) ⊕ (Int)
  | 0, _, _ => .inl default
  | k + 1, Ye, Yd => (cond (decide (Yd < (Y5.length : Int)))
    (cond (decide ((Z1q (Y5.getD Yd.toNat default) Ye) < 0))
      (.inl ())
      (Z1C Y5 YC k (Z1q (Y5.getD Yd.toNat default) Ye) (Yd + 1)))
    (.inr Ye))
def Z4T (Y5 : (List (List Int))) (YC : Int) : (Unit) ⊕ (Int) → Ex × St
  | .inl r => (.ret, ⟨an 4 (.i .i64 (-1) :: an 16 []), []⟩)
  | .inr r => ((.exit 0), ⟨.any :: .i .i64 r :: an 19 [], []⟩)
def Zcm (Y5 : (List (List Int))) (YC : Int) (Ye : Int) (Yd : Int) : St := ⟨.sl (Y5.map (cL (cI .i64))) :: .i .i64 Ye :: .any :: .any :: .any :: .i .i64 Yd :: an 15 [], []⟩
theorem Z8z (Y5 : (List (List Int))) (YC : Int) (hp0 : Y5.length ≤ 1073741824) (hp1 : ∀ t ∈ Y5, t.length ≤ 1073741824) : ∀ (k : Nat) (Ye : Int) (Yd : Int) (Z7w : 0 ≤ Yd) (hk : ((Y5.length : Int) - Yd).toNat < k), Lp prog 0 (sub (bodyOf f125) [1, 0, 1, 0, 0]) (Zcm Y5 YC Ye Yd) (Z4T Y5 YC (Z1C Y5 YC k Ye Yd)).1 (Z4T Y5 YC (Z1C Y5 YC k Ye Yd)).2 := by
 intro k
 induction k with
 | zero => intro Ye Yd Z7w hk; exact absurd hk (Nat.not_lt_zero _)
 | succ k ih =>
  intro Ye Yd Z7w hk
  have p {a C} (s : Scr a C) := sZ (cL (cI .i64)) Y5 <| s
  cases Yj : (decide (Yd < (Y5.length : Int))) with
  | true =>
   have YM := odt Yj
   have YS : (0 : Int) ≤ Yd := by clear p; exact (by assumption)
   have YT : Yd < (Y5.length : Int) := by clear p; exact (by assumption)
   have YY : (Y5.getD Yd.toNat default).length ≤ 1073741824 := by clear p; exact (by simp_all <;> omega)
   have q {a C} (s : Scr a C) := p (sB Yj <| sG (cL (cI .i64)) Y5 Yd YS YT <| sF (Zeq (Y5.getD Yd.toNat default) Ye YY) <| s)
   clear p
   cases YJ : (decide ((Z1q (Y5.getD Yd.toNat default) Ye) < 0)) with
   | true =>
    have Y1d := odt YJ
    have e : Z1C Y5 YC (k + 1) Ye Yd = (.inl ()) := by simp only [Z1C, Yj, YJ, cond_true]
    rw [e]
    exact outR (e := .ret) E0Ok Z5 [] (mR false [4, 1, 16]) [] (q (sB YJ <| sN)) (by kernel_rfl) (by intro h; cases h)
   | false =>
    have Y1d := odf YJ
    have YZ : (-9223372036854775808 : Int) ≤ (Yd + 1) := by clear q; exact (by omega)
    have y_4 : (Yd + 1) ≤ (9223372036854775807 : Int) := by clear q; exact (by omega)
    have e : Z1C Y5 YC (k + 1) Ye Yd = (Z1C Y5 YC k (Z1q (Y5.getD Yd.toNat default) Ye) (Yd + 1)) := by simp only [Z1C, Yj, YJ, cond_true, cond_false]
    rw [e]
    exact nextR E0Ok Z5 [] (mR false [0, 2, 3, 1, 15]) [] (ih (Z1q (Y5.getD Yd.toNat default) Ye) (Yd + 1) (show 0 ≤ (Yd + 1) from (by omega)) (by omega)) (q (sB YJ <| sI (Yd + 1) YZ y_4 <| sN)) (by kernel_rfl)
  | false =>
   have YM := odf Yj
   have e : Z1C Y5 YC (k + 1) Ye Yd = (.inr Ye) := by simp only [Z1C, Yj, cond_false]
   rw [e]
   exact outR (e := (.exit 0)) E0Ok Z5 [] (mR false [1, 1, 19]) [] (p (sB Yj <| sN)) (by kernel_rfl) (by intro h; cases h)
def Z46 (Y5 : (List (List Int))) (YC : Int) : (Unit) ⊕ (Int) := (Z1C Y5 YC (((Y5.length : Int) - 0).toNat + 1) YC 0)
def Z2V (Y5 : (List (List Int))) (YC : Int) : Int := (match (Z46 Y5 YC) with
  | .inl r1 => (-1)
  | .inr r1 => r1)
theorem Ze0 (Y5 : (List (List Int))) (YC : Int) (hp0 : Y5.length ≤ 1073741824) (hp1 : ∀ t ∈ Y5, t.length ≤ 1073741824)  : Fn prog 125 [.sl (Y5.map (cL (cI .i64))), .i .i64 YC] (.i .i64 (Z2V Y5 YC)) [] := by
 cases h0 : (Z46 Y5 YC) with
 | inl r1 =>
  refine fnS E0Ok Z5 (c := bodyOf f125) [] (.i .i64 (-1)) [] func125 (sL (mR false [0, 2, 3, 1, 15]) 0 (lp_val (Z4T Y5 YC) (x := (Z46 Y5 YC)) (Z8z Y5 YC hp0 hp1 (((Y5.length : Int) - 0).toNat + 1) YC 0 (show 0 ≤ 0 from (by omega)) (Nat.lt_succ_self _)) h0) <| sK [] sN) rfl (by kernel_rfl) (by kernel_rfl) rfl ?_ ?_
  · simp only [Z2V, h0]
  · rfl
 | inr r1 =>
  refine fnS E0Ok Z5 (c := bodyOf f125) [] (.i .i64 r1) [] func125 (sL (mR false [0, 2, 3, 1, 15]) 0 (lp_val (Z4T Y5 YC) (x := (Z46 Y5 YC)) (Z8z Y5 YC hp0 hp1 (((Y5.length : Int) - 0).toNat + 1) YC 0 (show 0 ≤ 0 from (by omega)) (Nat.lt_succ_self _)) h0) <| sK [] sN) rfl (by kernel_rfl) (by kernel_rfl) rfl ?_ ?_
  · simp only [Z2V, h0]
  · rfl
theorem ZgL (a : List (List Int)) (c : Int) : Z2V a c = match hdL (fun x c => !(decide (Z1q x c < 0))) Z1q a c with
    | some c' => c'
    | none => -1 := by
  unfold Z2V Z46
  rw [held_loop (p := fun x c => !(decide (Z1q x c < 0))) (q := Z1q) (a := a) (x := ()) (lo := Z1C a c) (fun k c i => by
    rw [Z1C]
    cases decide (i < (a.length : Int)) <;> cases decide (Z1q (a.getD i.toNat default) c < 0) <;> rfl) _ _ _ (Int.le_refl 0) (Nat.lt_succ_self _)]
  simp only [Int.toNat_zero, List.drop_zero]
  cases hdL (fun x c => !(decide (Z1q x c < 0))) Z1q a c <;> rfl
def Z21 (Y5 : Gm) (YC : Int) : Int := (cond (decide ((Z26 Y5.Pq YC) < 0))
  (-1)
  (cond (decide ((Z2V Y5.Tr (Z26 Y5.Pq YC)) < 0))
    (-1)
    (Z2V Y5.Tr (Z26 Y5.Pq YC))))
theorem Zfv (Y5 : Gm) (YC : Int) (hp0 : Y5.Pq.length ≤ 1073741824) (hp1 : Y5.Tr.length ≤ 1073741824) (hp2 : ∀ t ∈ Y5.Tr, t.length ≤ 1073741824)  : Fn prog 73 [.agg [.sl (Y5.Pq.map Gv.c), .sl (Y5.Tr.map (cL (cI .i64)))], .i .i64 YC] (.i .i64 (Z21 Y5 YC)) [] := by
 have p {a C} (s : Scr a C) := sF (ZdZ Y5.Pq YC hp0) <| s
 cases h0 : (decide ((Z26 Y5.Pq YC) < 0)) with
 | true =>
  have gh0 := odt h0
  refine fnS E0Ok Z5 (c := bodyOf f73) [] (.i .i64 (-1)) [] func73 (p (sB h0 <| sK [] sN)) rfl (by kernel_rfl) (by kernel_rfl) rfl ?_ ?_
  · simp only [Z21, h0, cond_true]
  · rfl
 | false =>
  have gh0 := odf h0
  have q {a C} (s : Scr a C) := p (sB h0 <| sF (Ze0 Y5.Tr (Z26 Y5.Pq YC) hp1 hp2) <| s)
  clear p
  cases h1 : (decide ((Z2V Y5.Tr (Z26 Y5.Pq YC)) < 0)) with
  | true =>
   have gh1 := odt h1
   refine fnS E0Ok Z5 (c := bodyOf f73) [] (.i .i64 (-1)) [] func73 (q (sB h1 <| sK [] sN)) rfl (by kernel_rfl) (by kernel_rfl) rfl ?_ ?_
   · simp only [Z21, h0, h1, cond_true, cond_false]
   · rfl
  | false =>
   have gh1 := odf h1
   refine fnS E0Ok Z5 (c := bodyOf f73) [] (.i .i64 (Z2V Y5.Tr (Z26 Y5.Pq YC))) [] func73 (q (sB h1 <| sK [] sN)) rfl (by kernel_rfl) (by kernel_rfl) rfl ?_ ?_
   · simp only [Z21, h0, h1, cond_false]
   · rfl
def ZN (Y5 : (List Gs)) (YC : Int) : Nat → Int → Int → (Unit) ⊕ (Int)
  | 0, _, _ => .inl default
  | k + 1, Ye, Yd => (cond (decide (Yd < (Y5.length : Int)))
    (cond ((Y5.getD Yd.toNat default).A != Ye)
      (.inl ())
      (cond ((Y5.getD Yd.toNat default).B != (IntKind.wrap .i64 (Ye + 1)))
        (.inl ())
        (cond (fcmp .neq .f32 ((Y5.getD Yd.toNat default).Long) (ofInt .f32 (IntKind.wrap .i64 ((IntKind.wrap .i64 (Ye + 1)) + 1))))
          (.inl ())
          (cond (fcmp .neq .f32 ((Y5.getD Yd.toNat default).Stiff) (ofInt .f32 (IntKind.wrap .i64 ((IntKind.wrap .i64 ((IntKind.wrap .i64 (Ye + 1)) + 1)) + 1))))
            (.inl ())
            (ZN Y5 YC k (IntKind.wrap .i64 ((IntKind.wrap .i64 ((IntKind.wrap .i64 ((IntKind.wrap .i64 (Ye + 1)) + 1)) + 1)) + 1)) (Yd + 1))))))
    (.inr Ye))
def Z4U (Y5 : (List Gs)) (YC : Int) : (Unit) ⊕ (Int) → Ex × St
  | .inl r => (.ret, ⟨an 4 (.i .i64 (-1) :: an 46 []), []⟩)
  | .inr r => ((.exit 0), ⟨.any :: .i .i64 r :: an 49 [], []⟩)
def Zcn (Y5 : (List Gs)) (YC : Int) (Ye : Int) (Yd : Int) : St := ⟨.sl (Y5.map Gs.c) :: .i .i64 Ye :: .any :: .any :: .any :: .i .i64 Yd :: an 45 [], []⟩
theorem Z8A (Y5 : (List Gs)) (YC : Int) (hp0 : Y5.length ≤ 1073741824) : ∀ (k : Nat) (Ye : Int) (Yd : Int) (Z7x : 0 ≤ Yd) (hk : ((Y5.length : Int) - Yd).toNat < k), Lp prog 0 (sub (bodyOf f74) [1, 0, 1, 0, 0]) (Zcn Y5 YC Ye Yd) (Z4U Y5 YC (ZN Y5 YC k Ye Yd)).1 (Z4U Y5 YC (ZN Y5 YC k Ye Yd)).2 := by
 intro k
 induction k with
 | zero => intro Ye Yd Z7x hk; exact absurd hk (Nat.not_lt_zero _)
 | succ k ih =>
  intro Ye Yd Z7x hk
  have p {a C} (s : Scr a C) := sZ Gs.c Y5 <| s
  cases Yj : (decide (Yd < (Y5.length : Int))) with
  | true =>
   have YM := odt Yj
   have YS : (0 : Int) ≤ Yd := by clear p; exact (by assumption)
   have YT : Yd < (Y5.length : Int) := by clear p; exact (by assumption)
   have q {a C} (s : Scr a C) := p (sB Yj <| sG Gs.c Y5 Yd YS YT <| s)
   clear p
   cases YJ : ((Y5.getD Yd.toNat default).A != Ye) with
   | true =>
    have Y1d := bne_iff_ne.1 YJ
    have e : ZN Y5 YC (k + 1) Ye Yd = (.inl ()) := by simp only [ZN, Yj, YJ, cond_true]
    rw [e]
    exact outR (e := .ret) E0Ok Z5 [] (mR false [4, 1, 46]) [] (q (sB YJ <| sN)) (by kernel_rfl) (by intro h; cases h)
   | false =>
    have Y1d := bne_eq_false_iff_eq.1 YJ
    have p {a C} (s : Scr a C) := q (sB YJ <| sW .i64 (Ye + 1) <| sG Gs.c Y5 Yd YS YT <| s)
    clear q
    cases h_2 : ((Y5.getD Yd.toNat default).B != (IntKind.wrap .i64 (Ye + 1))) with
    | true =>
     have Y1r := bne_iff_ne.1 h_2
     have e : ZN Y5 YC (k + 1) Ye Yd = (.inl ()) := by simp only [ZN, Yj, YJ, h_2, cond_true, cond_false]
     rw [e]
     exact outR (e := .ret) E0Ok Z5 [] (mR false [4, 1, 46]) [] (p (sB h_2 <| sN)) (by kernel_rfl) (by intro h; cases h)
    | false =>
     have Y1r := bne_eq_false_iff_eq.1 h_2
     have q {a C} (s : Scr a C) := p (sB h_2 <| sW .i64 ((IntKind.wrap .i64 (Ye + 1)) + 1) <| sG Gs.c Y5 Yd YS YT <| s)
     clear p
     cases h_3 : (fcmp .neq .f32 ((Y5.getD Yd.toNat default).Long) (ofInt .f32 (IntKind.wrap .i64 ((IntKind.wrap .i64 (Ye + 1)) + 1)))) with
     | true =>
      have e : ZN Y5 YC (k + 1) Ye Yd = (.inl ()) := by simp only [ZN, Yj, YJ, h_2, h_3, cond_true, cond_false]
      rw [e]
      exact outR (e := .ret) E0Ok Z5 [] (mR false [4, 1, 46]) [] (q (sB h_3 <| sN)) (by kernel_rfl) (by intro h; cases h)
     | false =>
      have p {a C} (s : Scr a C) := q (sB h_3 <| sW .i64 ((IntKind.wrap .i64 ((IntKind.wrap .i64 (Ye + 1)) + 1)) + 1) <| sG Gs.c Y5 Yd YS YT <| s)
      clear q
      cases h_4 : (fcmp .neq .f32 ((Y5.getD Yd.toNat default).Stiff) (ofInt .f32 (IntKind.wrap .i64 ((IntKind.wrap .i64 ((IntKind.wrap .i64 (Ye + 1)) + 1)) + 1)))) with
      | true =>
       have e : ZN Y5 YC (k + 1) Ye Yd = (.inl ()) := by simp only [ZN, Yj, YJ, h_2, h_3, h_4, cond_true, cond_false]
       rw [e]
       exact outR (e := .ret) E0Ok Z5 [] (mR false [4, 1, 46]) [] (p (sB h_4 <| sN)) (by kernel_rfl) (by intro h; cases h)
      | false =>
       have YY : (-9223372036854775808 : Int) ≤ (Yd + 1) := by clear p; exact (by omega)
       have YZ : (Yd + 1) ≤ (9223372036854775807 : Int) := by clear p; exact (by omega)
       have e : ZN Y5 YC (k + 1) Ye Yd = (ZN Y5 YC k (IntKind.wrap .i64 ((IntKind.wrap .i64 ((IntKind.wrap .i64 ((IntKind.wrap .i64 (Ye + 1)) + 1)) + 1)) + 1)) (Yd + 1)) := by simp only [ZN, Yj, YJ, h_2, h_3, h_4, cond_true, cond_false]
       rw [e]
       exact nextR E0Ok Z5 [] (mR false [0, 2, 3, 1, 45]) [] (ih (IntKind.wrap .i64 ((IntKind.wrap .i64 ((IntKind.wrap .i64 ((IntKind.wrap .i64 (Ye + 1)) + 1)) + 1)) + 1)) (Yd + 1) (show 0 ≤ (Yd + 1) from (by omega)) (by omega)) (p (sB h_4 <| sW .i64 ((IntKind.wrap .i64 ((IntKind.wrap .i64 ((IntKind.wrap .i64 (Ye + 1)) + 1)) + 1)) + 1) <| sI (Yd + 1) YY YZ <| sN)) (by kernel_rfl)
  | false =>
   have YM := odf Yj
   have e : ZN Y5 YC (k + 1) Ye Yd = (.inr Ye) := by simp only [ZN, Yj, cond_false]
   rw [e]
   exact outR (e := (.exit 0)) E0Ok Z5 [] (mR false [1, 1, 49]) [] (p (sB Yj <| sN)) (by kernel_rfl) (by intro h; cases h)
def Z47 (Y5 : (List Gs)) (YC : Int) : (Unit) ⊕ (Int) := (ZN Y5 YC (((Y5.length : Int) - 0).toNat + 1) YC 0)
def Z27 (Y5 : (List Gs)) (YC : Int) : Int := (match (Z47 Y5 YC) with
  | .inl r1 => (-1)
  | .inr r1 => r1)
theorem Ze1 (Y5 : (List Gs)) (YC : Int) (hp0 : Y5.length ≤ 1073741824)  : Fn prog 74 [.sl (Y5.map Gs.c), .i .i64 YC] (.i .i64 (Z27 Y5 YC)) [] := by
 cases h0 : (Z47 Y5 YC) with
 | inl r1 =>
  refine fnS E0Ok Z5 (c := bodyOf f74) [] (.i .i64 (-1)) [] func74 (sL (mR false [0, 2, 3, 1, 45]) 0 (lp_val (Z4U Y5 YC) (x := (Z47 Y5 YC)) (Z8A Y5 YC hp0 (((Y5.length : Int) - 0).toNat + 1) YC 0 (show 0 ≤ 0 from (by omega)) (Nat.lt_succ_self _)) h0) <| sK [] sN) rfl (by kernel_rfl) (by kernel_rfl) rfl ?_ ?_
  · simp only [Z27, h0]
  · rfl
 | inr r1 =>
  refine fnS E0Ok Z5 (c := bodyOf f74) [] (.i .i64 r1) [] func74 (sL (mR false [0, 2, 3, 1, 45]) 0 (lp_val (Z4U Y5 YC) (x := (Z47 Y5 YC)) (Z8A Y5 YC hp0 (((Y5.length : Int) - 0).toNat + 1) YC 0 (show 0 ≤ 0 from (by omega)) (Nat.lt_succ_self _)) h0) <| sK [] sN) rfl (by kernel_rfl) (by kernel_rfl) rfl ?_ ?_
  · simp only [Z27, h0]
  · rfl
def Zav (x : Gs) (c : Int) : Bool := (!(x.A != c)) && (!(x.B != (IntKind.wrap .i64 (c + 1)))) && (!(fcmp .neq .f32 x.Long (ofInt .f32 (IntKind.wrap .i64 ((IntKind.wrap .i64 (c + 1)) + 1))))) && (!(fcmp .neq .f32 x.Stiff (ofInt .f32 (IntKind.wrap .i64 ((IntKind.wrap .i64 ((IntKind.wrap .i64 (c + 1)) + 1)) + 1)))))
def ZbR (_ : Gs) (c : Int) : Int := (IntKind.wrap .i64 ((IntKind.wrap .i64 ((IntKind.wrap .i64 ((IntKind.wrap .i64 (c + 1)) + 1)) + 1)) + 1))
theorem Zh2 (a : List Gs) (c : Int) : Z27 a c = match hdL Zav ZbR a c with
    | some c' => c'
    | none => -1 := by
  unfold Z27 Z47
  rw [held_loop (p := Zav) (q := ZbR) (a := a) (x := ()) (lo := ZN a c) (fun k c i => by
    rw [ZN]
    unfold Zav ZbR
    generalize a.getD i.toNat default = x
    cases decide (i < (a.length : Int)) <;> cases (x.A != c) <;> cases (x.B != (IntKind.wrap .i64 (c + 1))) <;> cases fcmp .neq .f32 x.Long (ofInt .f32 (IntKind.wrap .i64 ((IntKind.wrap .i64 (c + 1)) + 1))) <;> cases fcmp .neq .f32 x.Stiff (ofInt .f32 (IntKind.wrap .i64 ((IntKind.wrap .i64 ((IntKind.wrap .i64 (c + 1)) + 1)) + 1))) <;> rfl) _ _ _ (Int.le_refl 0) (Nat.lt_succ_self _)]
  simp only [Int.toNat_zero, List.drop_zero]
  cases hdL Zav ZbR a c <;> rfl
def Z1t (Y5 : (List Nat)) (YC : Int) : Nat → Int → Int → (Unit) ⊕ (Int)
  | 0, _, _ => .inl default
  | k + 1, Ye, Yd => (cond (decide (Yd < (Y5.length : Int)))
    (cond (fcmp .neq .f32 (Y5.getD Yd.toNat default) (ofInt .f32 Ye))
      (.inl ())
      (Z1t Y5 YC k (IntKind.wrap .i64 (Ye + 1)) (Yd + 1)))
    (.inr Ye))
def Z4F (Y5 : (List Nat)) (YC : Int) : (Unit) ⊕ (Int) → Ex × St
  | .inl r => (.ret, ⟨an 4 (.i .i64 (-1) :: an 17 []), []⟩)
  | .inr r => ((.exit 0), ⟨.any :: .i .i64 r :: an 20 [], []⟩)
def Zc0 (Y5 : (List Nat)) (YC : Int) (Ye : Int) (Yd : Int) : St := ⟨.sl (Y5.map (cF .f32)) :: .i .i64 Ye :: .any :: .any :: .any :: .i .i64 Yd :: an 16 [], []⟩
theorem Z7T (Y5 : (List Nat)) (YC : Int) (hp0 : Y5.length ≤ 1073741824) : ∀ (k : Nat) (Ye : Int) (Yd : Int) (Z7s : 0 ≤ Yd) (hk : ((Y5.length : Int) - Yd).toNat < k), Lp prog 0 (sub (bodyOf f42) [1, 0, 1, 0, 0]) (Zc0 Y5 YC Ye Yd) (Z4F Y5 YC (Z1t Y5 YC k Ye Yd)).1 (Z4F Y5 YC (Z1t Y5 YC k Ye Yd)).2 := by
 intro k
 induction k with
 | zero => intro Ye Yd Z7s hk; exact absurd hk (Nat.not_lt_zero _)
 | succ k ih =>
  intro Ye Yd Z7s hk
  have p {a C} (s : Scr a C) := sZ (cF .f32) Y5 <| s
  cases Yj : (decide (Yd < (Y5.length : Int))) with
  | true =>
   have YM := odt Yj
   have YS : (0 : Int) ≤ Yd := by clear p; exact (by assumption)
   have YT : Yd < (Y5.length : Int) := by clear p; exact (by assumption)
   have q {a C} (s : Scr a C) := p (sB Yj <| sG (cF .f32) Y5 Yd YS YT <| s)
   clear p
   cases YJ : (fcmp .neq .f32 (Y5.getD Yd.toNat default) (ofInt .f32 Ye)) with
   | true =>
    have e : Z1t Y5 YC (k + 1) Ye Yd = (.inl ()) := by simp only [Z1t, Yj, YJ, cond_true]
    rw [e]
    exact outR (e := .ret) E0Ok Z5 [] (mR false [4, 1, 17]) [] (q (sB YJ <| sN)) (by kernel_rfl) (by intro h; cases h)
   | false =>
    have YY : (-9223372036854775808 : Int) ≤ (Yd + 1) := by clear q; exact (by omega)
    have YZ : (Yd + 1) ≤ (9223372036854775807 : Int) := by clear q; exact (by omega)
    have e : Z1t Y5 YC (k + 1) Ye Yd = (Z1t Y5 YC k (IntKind.wrap .i64 (Ye + 1)) (Yd + 1)) := by simp only [Z1t, Yj, YJ, cond_true, cond_false]
    rw [e]
    exact nextR E0Ok Z5 [] (mR false [0, 2, 3, 1, 16]) [] (ih (IntKind.wrap .i64 (Ye + 1)) (Yd + 1) (show 0 ≤ (Yd + 1) from (by omega)) (by omega)) (q (sB YJ <| sW .i64 (Ye + 1) <| sI (Yd + 1) YY YZ <| sN)) (by kernel_rfl)
  | false =>
   have YM := odf Yj
   have e : Z1t Y5 YC (k + 1) Ye Yd = (.inr Ye) := by simp only [Z1t, Yj, cond_false]
   rw [e]
   exact outR (e := (.exit 0)) E0Ok Z5 [] (mR false [1, 1, 20]) [] (p (sB Yj <| sN)) (by kernel_rfl) (by intro h; cases h)
def Z3X (Y5 : (List Nat)) (YC : Int) : (Unit) ⊕ (Int) := (Z1t Y5 YC (((Y5.length : Int) - 0).toNat + 1) YC 0)
def Z2r (Y5 : (List Nat)) (YC : Int) : Int := (match (Z3X Y5 YC) with
  | .inl r1 => (-1)
  | .inr r1 => r1)
theorem Z6N (Y5 : (List Nat)) (YC : Int) (hp0 : Y5.length ≤ 1073741824)  : Fn prog 42 [.sl (Y5.map (cF .f32)), .i .i64 YC] (.i .i64 (Z2r Y5 YC)) [] := by
 cases h0 : (Z3X Y5 YC) with
 | inl r1 =>
  refine fnS E0Ok Z5 (c := bodyOf f42) [] (.i .i64 (-1)) [] func42 (sL (mR false [0, 2, 3, 1, 16]) 0 (lp_val (Z4F Y5 YC) (x := (Z3X Y5 YC)) (Z7T Y5 YC hp0 (((Y5.length : Int) - 0).toNat + 1) YC 0 (show 0 ≤ 0 from (by omega)) (Nat.lt_succ_self _)) h0) <| sK [] sN) rfl (by kernel_rfl) (by kernel_rfl) rfl ?_ ?_
  · simp only [Z2r, h0]
  · rfl
 | inr r1 =>
  refine fnS E0Ok Z5 (c := bodyOf f42) [] (.i .i64 r1) [] func42 (sL (mR false [0, 2, 3, 1, 16]) 0 (lp_val (Z4F Y5 YC) (x := (Z3X Y5 YC)) (Z7T Y5 YC hp0 (((Y5.length : Int) - 0).toNat + 1) YC 0 (show 0 ≤ 0 from (by omega)) (Nat.lt_succ_self _)) h0) <| sK [] sN) rfl (by kernel_rfl) (by kernel_rfl) rfl ?_ ?_
  · simp only [Z2r, h0]
  · rfl
def Z9n (x : Nat) (c : Int) : Bool := (!(fcmp .neq .f32 x (ofInt .f32 c)))
def Zb0 (_ : Nat) (c : Int) : Int := (IntKind.wrap .i64 (c + 1))
theorem ZgM (a : List Nat) (c : Int) : Z2r a c = match hdL Z9n Zb0 a c with
    | some c' => c'
    | none => -1 := by
  unfold Z2r Z3X
  rw [held_loop (p := Z9n) (q := Zb0) (a := a) (x := ()) (lo := Z1t a c) (fun k c i => by
    rw [Z1t]
    unfold Z9n Zb0
    generalize a.getD i.toNat default = x
    cases decide (i < (a.length : Int)) <;> cases fcmp .neq .f32 x (ofInt .f32 c) <;> rfl) _ _ _ (Int.le_refl 0) (Nat.lt_succ_self _)]
  simp only [Int.toNat_zero, List.drop_zero]
  cases hdL Z9n Zb0 a c <;> rfl
def Z4d (Y5 : Gb) (YC : Int) : Int := (cond (decide ((Z21 Y5.Me YC) < 0))
  (-1)
  (cond (decide ((Z27 Y5.Sp (Z21 Y5.Me YC)) < 0))
    (-1)
    (cond (decide ((Z2r Y5.We (Z27 Y5.Sp (Z21 Y5.Me YC))) < 0))
      (-1)
      (Z2r Y5.We (Z27 Y5.Sp (Z21 Y5.Me YC))))))
theorem ZbS (Y5 : Gb) (YC : Int) (hp0 : Y5.Me.Pq.length ≤ 1073741824) (hp1 : Y5.Me.Tr.length ≤ 1073741824) (hp2 : ∀ t ∈ Y5.Me.Tr, t.length ≤ 1073741824) (hp3 : Y5.Sp.length ≤ 1073741824) (hp4 : Y5.We.length ≤ 1073741824)  : Fn prog 30 [.agg [.sl (Y5.Me.Pq.map Gv.c), .sl (Y5.Me.Tr.map (cL (cI .i64))), .sl (Y5.Sp.map Gs.c), .f .f32 Y5.Film, .f .f32 Y5.Bend, .sl (Y5.We.map (cF .f32)), .f .f32 Y5.Fall.X, .f .f32 Y5.Fall.Y, .f .f32 Y5.Fall.Z], .i .i64 YC] (.i .i64 (Z4d Y5 YC)) [] := by
 have p {a C} (s : Scr a C) := sF (Zfv Y5.Me YC hp0 hp1 hp2) <| s
 cases h0 : (decide ((Z21 Y5.Me YC) < 0)) with
 | true =>
  have gh0 := odt h0
  refine fnS E0Ok Z5 (c := bodyOf f30) [] (.i .i64 (-1)) [] func30 (p (sB h0 <| sK [] sN)) rfl (by kernel_rfl) (by kernel_rfl) rfl ?_ ?_
  · simp only [Z4d, h0, cond_true]
  · rfl
 | false =>
  have gh0 := odf h0
  have q {a C} (s : Scr a C) := p (sB h0 <| sF (Ze1 Y5.Sp (Z21 Y5.Me YC) hp3) <| s)
  clear p
  cases h1 : (decide ((Z27 Y5.Sp (Z21 Y5.Me YC)) < 0)) with
  | true =>
   have gh1 := odt h1
   refine fnS E0Ok Z5 (c := bodyOf f30) [] (.i .i64 (-1)) [] func30 (q (sB h1 <| sK [] sN)) rfl (by kernel_rfl) (by kernel_rfl) rfl ?_ ?_
   · simp only [Z4d, h0, h1, cond_true, cond_false]
   · rfl
  | false =>
   have gh1 := odf h1
   have p {a C} (s : Scr a C) := q (sB h1 <| sF (Z6N Y5.We (Z27 Y5.Sp (Z21 Y5.Me YC)) hp4) <| s)
   clear q
   cases h2 : (decide ((Z2r Y5.We (Z27 Y5.Sp (Z21 Y5.Me YC))) < 0)) with
   | true =>
    have gh2 := odt h2
    refine fnS E0Ok Z5 (c := bodyOf f30) [] (.i .i64 (-1)) [] func30 (p (sB h2 <| sK [] sN)) rfl (by kernel_rfl) (by kernel_rfl) rfl ?_ ?_
    · simp only [Z4d, h0, h1, h2, cond_true, cond_false]
    · rfl
   | false =>
    have gh2 := odf h2
    refine fnS E0Ok Z5 (c := bodyOf f30) [] (.i .i64 (Z2r Y5.We (Z27 Y5.Sp (Z21 Y5.Me YC)))) [] func30 (p (sB h2 <| sK [] sN)) rfl (by kernel_rfl) (by kernel_rfl) rfl ?_ ?_
    · simp only [Z4d, h0, h1, h2, cond_false]
    · rfl
def Z3r (Y0 : Gb) (YH : (List Int)) (YK : Nat) (YI : Int) : Int := (Z4d (⟨(⟨(Z3 ((Z2 Y0 YH YK YI).1) 1).2.1, (Z3 ((Z2 Y0 YH YK YI).1) 1).2.2.1⟩ : Gm), (Z3 ((Z2 Y0 YH YK YI).1) 1).2.2.2.1, (Z2 Y0 YH YK YI).1.Film, (Z2 Y0 YH YK YI).1.Bend, (Z3 ((Z2 Y0 YH YK YI).1) 1).2.2.2.2, (Z2 Y0 YH YK YI).1.Fall⟩ : Gb) 1)
def Z3Y (Y0 : Gb) (YH : (List Int)) (YK : Nat) (YI : Int) : Int := (Z2r ((Zw ((Z2 Y0 YH YK YI).2.1) ((Z3 ((Z2 Y0 YH YK YI).1) 1).1)).2) (Z3r Y0 YH YK YI))
def Z1e (Y0 : Gb) (YH : (List Int)) (YK : Nat) (YI : Int) : Bool := (cond (decide ((YH.length : Int) > 1048576))
  true
  (cond (decide ((Z2y Y0 1048576) < 0))
    true
    (cond (Z32 ((Z2 Y0 YH YK YI).1) ((Z7 Y0 YH YK YI).1))
      (cond (Z3b ((Z2 Y0 YH YK YI).2.1) ((Z7 Y0 YH YK YI).2.1))
        (cond ((Z2 Y0 YH YK YI).2.2 == (Z7 Y0 YH YK YI).2.2)
          (cond (Z32 Y0 Y0)
            (cond (Z30 YH YH)
              (cond (decide ((Z25 YH ((Z3 Y0 1).1)).1 < 0))
                false
                (cond (decide ((Z3r Y0 YH YK YI) < 0))
                  false
                  (cond (decide ((Z3Y Y0 YH YK YI) < 0))
                    false
                    (cond ((Z3Y Y0 YH YK YI) != (Zw ((Z2 Y0 YH YK YI).2.1) ((Z3 ((Z2 Y0 YH YK YI).1) 1).1)).1)
                      false
                      true))))
              false)
            false)
          false)
        false)
      false)))
set_option maxHeartbeats 1000000 in
theorem Zco (Y0 : Gb) (YH : (List Int)) (YK : Nat) (YI : Int) (hp0 : Y0.Me.Pq.length ≤ 9223372036854775807) (hp1 : Y0.Me.Tr.length ≤ 9223372036854775807) (hp2 : ∀ t ∈ Y0.Me.Tr, t.length ≤ 9223372036854775807) (hp3 : Y0.Sp.length ≤ 9223372036854775807) (hp4 : Y0.We.length ≤ 9223372036854775807) (hp5 : YH.length ≤ 9223372036854775807)  : Fn prog 8 [.agg [.sl (Y0.Me.Pq.map Gv.c), .sl (Y0.Me.Tr.map (cL (cI .i64))), .sl (Y0.Sp.map Gs.c), .f .f32 Y0.Film, .f .f32 Y0.Bend, .sl (Y0.We.map (cF .f32)), .f .f32 Y0.Fall.X, .f .f32 Y0.Fall.Y, .f .f32 Y0.Fall.Z], .sl (YH.map (cI .i64)), .f .f32 YK, .i .i64 YI] (.b (Z1e Y0 YH YK YI)) [] := by
 have z0 := (Zc1 Y0 1048576 (by omega) (by omega) (by assumption) (by omega) (by omega) (by omega) (by omega))
 have p {a C} (s : Scr a C) := sZ (cI .i64) YH <| s
 cases h0 : (decide ((YH.length : Int) > 1048576)) with
 | true =>
  have gh0 := odt h0
  refine fnS E0Ok Z5 (c := bodyOf f8) [] (.b true) [] func8 (p (sB h0 <| sK [] sN)) rfl (by kernel_rfl) (by kernel_rfl) rfl ?_ ?_
  · simp only [Z1e, h0, cond_true]
  · rfl
 | false =>
  have gh0 := odf h0
  have q {a C} (s : Scr a C) := p (sB h0 <| sF (Zg5 Y0 1048576 hp0 hp1 hp2 hp3 hp4) <| s)
  clear p
  cases h1 : (decide ((Z2y Y0 1048576) < 0)) with
  | true =>
   have gh1 := odt h1
   refine fnS E0Ok Z5 (c := bodyOf f8) [] (.b true) [] func8 (q (sB h1 <| sK [] sN)) rfl (by kernel_rfl) (by kernel_rfl) rfl ?_ ?_
   · simp only [Z1e, h0, h1, cond_true, cond_false]
   · rfl
  | false =>
   have gh1 := odf h1
   have y0 : Y0.Me.Pq.length ≤ 1073741824 := by clear q; exact (by omega)
   have y1 : Y0.Me.Tr.length ≤ 1073741824 := by clear q; exact (by omega)
   have y2 : ∀ t ∈ Y0.Me.Tr, t.length ≤ 1073741824 := by clear q; exact (by intro t ht; (have q := z0.2.2.2.2.2.2 t ht; omega))
   have y3 : Y0.Sp.length ≤ 1073741824 := by clear q; exact (by omega)
   have y4 : Y0.We.length ≤ 1073741824 := by clear q; exact (by omega)
   have y5 : YH.length ≤ 1073741824 := by clear q; exact (by omega)
   have l1 := (Zba Y0 YH YK YI)
   have l2 := (Zbb Y0 YH YK YI)
   have l3 := (Zbc Y0 YH YK YI)
   have l4 := (Zbd Y0 YH YK YI)
   have l5 := (Zbf Y0 YH YK YI)
   have l6 := (Zbj Y0 YH YK YI)
   have l7 := (Zbk Y0 YH YK YI)
   have l8 := (Zbl Y0 YH YK YI)
   have l9 := (Zbm Y0 YH YK YI)
   have l10 := (Zbn Y0 YH YK YI)
   have y6 : ((Z2 Y0 YH YK YI).1).Me.Pq.length ≤ 1073741824 := by clear q; exact (by omega)
   have y7 : ((Z2 Y0 YH YK YI).1).Me.Tr.length ≤ 1073741824 := by clear q; exact (by omega)
   have y8 : ∀ t ∈ ((Z2 Y0 YH YK YI).1).Me.Tr, t.length ≤ 1073741824 := by clear q; exact (by (intro t ht; (have q := z0.2.2.2.2.2.2 t (Z84 Y0 YH YK YI t ht); omega)))
   have y9 : ((Z2 Y0 YH YK YI).1).Sp.length ≤ 1073741824 := by clear q; exact (by omega)
   have y10 : ((Z2 Y0 YH YK YI).1).We.length ≤ 1073741824 := by clear q; exact (by omega)
   have y11 : ((Z7 Y0 YH YK YI).1).Me.Pq.length ≤ 1073741824 := by clear q; exact (by omega)
   have y12 : ((Z7 Y0 YH YK YI).1).Me.Tr.length ≤ 1073741824 := by clear q; exact (by omega)
   have y13 : ∀ t ∈ ((Z7 Y0 YH YK YI).1).Me.Tr, t.length ≤ 1073741824 := by clear q; exact (by (intro t ht; (have q := z0.2.2.2.2.2.2 t (Zbe Y0 YH YK YI t ht); omega)))
   have y14 : ((Z7 Y0 YH YK YI).1).Sp.length ≤ 1073741824 := by clear q; exact (by omega)
   have y15 : ((Z7 Y0 YH YK YI).1).We.length ≤ 1073741824 := by clear q; exact (by omega)
   have p {a C} (s : Scr a C) := q (sB h1 <| sF (Z7U Y0 y0 y1 y2 y3 y4) <| sF (Z5v YH y5) <| sF (Fn.castA (args' := [.agg [.sl (Y0.Me.Pq.map Gv.c), .sl ((Y0.Me.Tr.map fun l => l.map (cI .i64)).map fun l => [.sl l]), .sl (Y0.Sp.map Gs.c), .f .f32 Y0.Film, .f .f32 Y0.Bend, .sl (Y0.We.map (cF .f32)), .f .f32 Y0.Fall.X, .f .f32 Y0.Fall.Y, .f .f32 Y0.Fall.Z], .sl (YH.map (cI .i64)), .f .f32 YK, .i .i64 YI]) (ZfF Y0 YH YK YI y0 y1 y2 y3 y4 y5) (by simp [cL, Function.comp_def]; done)) <| sF (Z7U Y0 y0 y1 y2 y3 y4) <| sF (Z5v YH y5) <| sF (Fn.castA (args' := [.agg [.sl (Y0.Me.Pq.map Gv.c), .sl ((Y0.Me.Tr.map fun l => l.map (cI .i64)).map fun l => [.sl l]), .sl (Y0.Sp.map Gs.c), .f .f32 Y0.Film, .f .f32 Y0.Bend, .sl (Y0.We.map (cF .f32)), .f .f32 Y0.Fall.X, .f .f32 Y0.Fall.Y, .f .f32 Y0.Fall.Z], .sl (YH.map (cI .i64)), .f .f32 YK, .i .i64 YI]) (Zch Y0 YH YK YI y0 y1 y2 y3 y4 y5) (by simp [cL, Function.comp_def]; done)) <| sF (Fn.castA (args' := [.agg [.sl (((Z2 Y0 YH YK YI).1.Me.Pq).map Gv.c), .sl ((((Z2 Y0 YH YK YI).1.Me.Tr).map fun l => l.map (cI .i64)).map fun l => [.sl l]), .sl (((Z2 Y0 YH YK YI).1.Sp).map Gs.c), .f .f32 ((Z2 Y0 YH YK YI).1.Film), .f .f32 ((Z2 Y0 YH YK YI).1.Bend), .sl (((Z2 Y0 YH YK YI).1.We).map (cF .f32)), .f .f32 ((Z2 Y0 YH YK YI).1.Fall.X), .f .f32 ((Z2 Y0 YH YK YI).1.Fall.Y), .f .f32 ((Z2 Y0 YH YK YI).1.Fall.Z)], .agg [.sl (((Z7 Y0 YH YK YI).1.Me.Pq).map Gv.c), .sl ((((Z7 Y0 YH YK YI).1.Me.Tr).map fun l => l.map (cI .i64)).map fun l => [.sl l]), .sl (((Z7 Y0 YH YK YI).1.Sp).map Gs.c), .f .f32 ((Z7 Y0 YH YK YI).1.Film), .f .f32 ((Z7 Y0 YH YK YI).1.Bend), .sl (((Z7 Y0 YH YK YI).1.We).map (cF .f32)), .f .f32 ((Z7 Y0 YH YK YI).1.Fall.X), .f .f32 ((Z7 Y0 YH YK YI).1.Fall.Y), .f .f32 ((Z7 Y0 YH YK YI).1.Fall.Z)]]) (Z7X ((Z2 Y0 YH YK YI).1) ((Z7 Y0 YH YK YI).1) y6 y7 y8 y9 y10 y11 y12 y13 y14 y15) (by simp [cL, Function.comp_def]; done)) <| s)
   clear q
   cases h2 : (Z32 ((Z2 Y0 YH YK YI).1) ((Z7 Y0 YH YK YI).1)) with
   | true =>
    have y16 : ((Z2 Y0 YH YK YI).2.1).length ≤ 1073741824 := by clear p; exact (by omega)
    have y17 : ((Z7 Y0 YH YK YI).2.1).length ≤ 1073741824 := by clear p; exact (by omega)
    have q {a C} (s : Scr a C) := p (sB' h2 <| sB' h2 <| sB' h2 <| sF (Z5J ((Z2 Y0 YH YK YI).2.1) ((Z7 Y0 YH YK YI).2.1) y16 y17) <| sB' h2 <| sB' h2 <| s)
    clear p
    cases h3 : (Z3b ((Z2 Y0 YH YK YI).2.1) ((Z7 Y0 YH YK YI).2.1)) with
    | true =>
     have p {a C} (s : Scr a C) := q (sB' h3 <| sB' h3 <| sB' h3 <| sB' h3 <| s)
     clear q
     cases h4 : ((Z2 Y0 YH YK YI).2.2 == (Z7 Y0 YH YK YI).2.2) with
     | true =>
      have gh4 := eq_of_beq h4
      have q {a C} (s : Scr a C) := p (sB' h4 <| sK [3, 3] <| sF (Z7U Y0 y0 y1 y2 y3 y4) <| sF (Fn.castA (args' := [.agg [.sl (Y0.Me.Pq.map Gv.c), .sl ((Y0.Me.Tr.map fun l => l.map (cI .i64)).map fun l => [.sl l]), .sl (Y0.Sp.map Gs.c), .f .f32 Y0.Film, .f .f32 Y0.Bend, .sl (Y0.We.map (cF .f32)), .f .f32 Y0.Fall.X, .f .f32 Y0.Fall.Y, .f .f32 Y0.Fall.Z], .agg [.sl (Y0.Me.Pq.map Gv.c), .sl ((Y0.Me.Tr.map fun l => l.map (cI .i64)).map fun l => [.sl l]), .sl (Y0.Sp.map Gs.c), .f .f32 Y0.Film, .f .f32 Y0.Bend, .sl (Y0.We.map (cF .f32)), .f .f32 Y0.Fall.X, .f .f32 Y0.Fall.Y, .f .f32 Y0.Fall.Z]]) (Z7X Y0 Y0 y0 y1 y2 y3 y4 y0 y1 y2 y3 y4) (by simp [cL, Function.comp_def]; done)) <| s)
      clear p
      cases h5 : (Z32 Y0 Y0) with
      | true =>
       have p {a C} (s : Scr a C) := q (sB' h5 <| sF (Z5v YH y5) <| sF (ZbM YH YH y5 y5) <| s)
       clear q
       cases h6 : (Z30 YH YH) with
       | true =>
        have q {a C} (s : Scr a C) := p (sB' h6 <| sS (CallSt.frame (Z5E Y0 1 y0 y1 y2 y3 y4) [12, 13, 14, 15] (R := [.box 32 [.sl (Y0.Me.Pq.map Gv.c), .sl (Y0.Me.Tr.map (cL (cI .i64))), .sl (Y0.Sp.map Gs.c), .f .f32 Y0.Film, .f .f32 Y0.Bend, .sl (Y0.We.map (cF .f32)), .f .f32 Y0.Fall.X, .f .f32 Y0.Fall.Y, .f .f32 Y0.Fall.Z], .vec 40 3 (Y0.Me.Pq.map Gv.c) false, .nest 49 (Y0.Me.Tr.map fun l => l.map (cI .i64)) false, .vec 133 4 (Y0.Sp.map Gs.c) false, .vec 27 1 (Y0.We.map (cF .f32)) false, .vec 2 1 (YH.map (cI .i64)) false, .vec 40 3 (((Z7 Y0 YH YK YI).1.Me.Pq).map Gv.c) false, .nest 49 (((Z7 Y0 YH YK YI).1.Me.Tr).map fun l => l.map (cI .i64)) false, .vec 133 4 (((Z7 Y0 YH YK YI).1.Sp).map Gs.c) false, .vec 27 1 (((Z7 Y0 YH YK YI).1.We).map (cF .f32)) false, .vec 27 1 (((Z7 Y0 YH YK YI).2.1).map (cF .f32)) false, .box 42 [.own 6, .own 7, .own 8, .f .f32 ((Z7 Y0 YH YK YI).1.Film), .f .f32 ((Z7 Y0 YH YK YI).1.Bend), .own 9, .f .f32 ((Z7 Y0 YH YK YI).1.Fall.X), .f .f32 ((Z7 Y0 YH YK YI).1.Fall.Y), .f .f32 ((Z7 Y0 YH YK YI).1.Fall.Z)], .vec 40 3 (Y0.Me.Pq.map Gv.c) false, .nest 49 (Y0.Me.Tr.map fun l => l.map (cI .i64)) false, .vec 133 4 (Y0.Sp.map Gs.c) false, .vec 27 1 (Y0.We.map (cF .f32)) false, .box 42 [.own 12, .own 13, .own 14, .f .f32 Y0.Film, .f .f32 Y0.Bend, .own 15, .f .f32 Y0.Fall.X, .f .f32 Y0.Fall.Y, .f .f32 Y0.Fall.Z], .vec 2 1 (YH.map (cI .i64)) false, .vec 40 3 (((Z2 Y0 YH YK YI).1.Me.Pq).map Gv.c) false, .nest 49 (((Z2 Y0 YH YK YI).1.Me.Tr).map fun l => l.map (cI .i64)) false, .vec 133 4 (((Z2 Y0 YH YK YI).1.Sp).map Gs.c) false, .vec 27 1 (((Z2 Y0 YH YK YI).1.We).map (cF .f32)) false, .vec 27 1 (((Z2 Y0 YH YK YI).2.1).map (cF .f32)) false, .box 42 [.own 18, .own 19, .own 20, .f .f32 ((Z2 Y0 YH YK YI).1.Film), .f .f32 ((Z2 Y0 YH YK YI).1.Bend), .own 21, .f .f32 ((Z2 Y0 YH YK YI).1.Fall.X), .f .f32 ((Z2 Y0 YH YK YI).1.Fall.Y), .f .f32 ((Z2 Y0 YH YK YI).1.Fall.Z)], .vec 40 3 (Y0.Me.Pq.map Gv.c) false, .nest 49 (Y0.Me.Tr.map fun l => l.map (cI .i64)) false, .vec 133 4 (Y0.Sp.map Gs.c) false, .vec 27 1 (Y0.We.map (cF .f32)) false, .vec 2 1 (YH.map (cI .i64)) false]) (args' := [.agg [.own 12, .own 13, .own 14, .f .f32 Y0.Film, .f .f32 Y0.Bend, .own 15, .f .f32 Y0.Fall.X, .f .f32 Y0.Fall.Y, .f .f32 Y0.Fall.Z], .i .i64 1]) rfl rfl rfl rfl rfl rfl) <| sS (CallSt.frame (Zck YH ((Z3 Y0 1).1) y5) [17] (R := [.box 32 [.sl (Y0.Me.Pq.map Gv.c), .sl (Y0.Me.Tr.map (cL (cI .i64))), .sl (Y0.Sp.map Gs.c), .f .f32 Y0.Film, .f .f32 Y0.Bend, .sl (Y0.We.map (cF .f32)), .f .f32 Y0.Fall.X, .f .f32 Y0.Fall.Y, .f .f32 Y0.Fall.Z], .vec 40 3 (Y0.Me.Pq.map Gv.c) false, .nest 49 (Y0.Me.Tr.map fun l => l.map (cI .i64)) false, .vec 133 4 (Y0.Sp.map Gs.c) false, .vec 27 1 (Y0.We.map (cF .f32)) false, .vec 2 1 (YH.map (cI .i64)) false, .vec 40 3 (((Z7 Y0 YH YK YI).1.Me.Pq).map Gv.c) false, .nest 49 (((Z7 Y0 YH YK YI).1.Me.Tr).map fun l => l.map (cI .i64)) false, .vec 133 4 (((Z7 Y0 YH YK YI).1.Sp).map Gs.c) false, .vec 27 1 (((Z7 Y0 YH YK YI).1.We).map (cF .f32)) false, .vec 27 1 (((Z7 Y0 YH YK YI).2.1).map (cF .f32)) false, .box 42 [.own 6, .own 7, .own 8, .f .f32 ((Z7 Y0 YH YK YI).1.Film), .f .f32 ((Z7 Y0 YH YK YI).1.Bend), .own 9, .f .f32 ((Z7 Y0 YH YK YI).1.Fall.X), .f .f32 ((Z7 Y0 YH YK YI).1.Fall.Y), .f .f32 ((Z7 Y0 YH YK YI).1.Fall.Z)], .vec 40 3 (((Z3 Y0 1).2.1).map Gv.c) false, .nest 49 (((Z3 Y0 1).2.2.1).map fun l => l.map (cI .i64)) false, .vec 133 4 (((Z3 Y0 1).2.2.2.1).map Gs.c) false, .vec 27 1 (((Z3 Y0 1).2.2.2.2).map (cF .f32)) false, .box 42 [.own 12, .own 13, .own 14, .f .f32 Y0.Film, .f .f32 Y0.Bend, .own 15, .f .f32 Y0.Fall.X, .f .f32 Y0.Fall.Y, .f .f32 Y0.Fall.Z], .vec 2 1 (YH.map (cI .i64)) false, .vec 40 3 (((Z2 Y0 YH YK YI).1.Me.Pq).map Gv.c) false, .nest 49 (((Z2 Y0 YH YK YI).1.Me.Tr).map fun l => l.map (cI .i64)) false, .vec 133 4 (((Z2 Y0 YH YK YI).1.Sp).map Gs.c) false, .vec 27 1 (((Z2 Y0 YH YK YI).1.We).map (cF .f32)) false, .vec 27 1 (((Z2 Y0 YH YK YI).2.1).map (cF .f32)) false, .box 42 [.own 18, .own 19, .own 20, .f .f32 ((Z2 Y0 YH YK YI).1.Film), .f .f32 ((Z2 Y0 YH YK YI).1.Bend), .own 21, .f .f32 ((Z2 Y0 YH YK YI).1.Fall.X), .f .f32 ((Z2 Y0 YH YK YI).1.Fall.Y), .f .f32 ((Z2 Y0 YH YK YI).1.Fall.Z)], .vec 40 3 (Y0.Me.Pq.map Gv.c) false, .nest 49 (Y0.Me.Tr.map fun l => l.map (cI .i64)) false, .vec 133 4 (Y0.Sp.map Gs.c) false, .vec 27 1 (Y0.We.map (cF .f32)) false, .vec 2 1 (YH.map (cI .i64)) false]) (args' := [.own 17, .i .i64 ((Z3 Y0 1).1)]) rfl rfl rfl rfl rfl rfl) <| s)
        clear p
        cases h7 : (decide ((Z25 YH ((Z3 Y0 1).1)).1 < 0)) with
        | true =>
         have gh7 := odt h7
         refine fnS E0Ok Z5 (c := bodyOf f8) [] (.b false) [] func8 (q (sB h7 <| sB h7 <| sB h7 <| sB h7 <| sB h7 <| sB (show true = true from rfl) <| sB (show true = true from rfl) <| sB (show true = true from rfl) <| sB (show true = true from rfl) <| sB (show true = true from rfl) <| sB (show true = true from rfl) <| sB (show true = true from rfl) <| sB (show true = true from rfl) <| sB (show true = true from rfl) <| sB (show true = true from rfl) <| sK [] sN)) rfl (by kernel_rfl) (by kernel_rfl) rfl ?_ ?_
         · simp only [Z1e, h0, h1, h2, h3, h4, h5, h6, h7, cond_true, cond_false]
         · rfl
        | false =>
         have gh7 := odf h7
         have y18 : (⟨(⟨(Z3 ((Z2 Y0 YH YK YI).1) 1).2.1, (Z3 ((Z2 Y0 YH YK YI).1) 1).2.2.1⟩ : Gm), (Z3 ((Z2 Y0 YH YK YI).1) 1).2.2.2.1, (Z2 Y0 YH YK YI).1.Film, (Z2 Y0 YH YK YI).1.Bend, (Z3 ((Z2 Y0 YH YK YI).1) 1).2.2.2.2, (Z2 Y0 YH YK YI).1.Fall⟩ : Gb).Me.Pq.length ≤ 1073741824 := by clear q; exact (by simp_all <;> omega)
         have y19 : (⟨(⟨(Z3 ((Z2 Y0 YH YK YI).1) 1).2.1, (Z3 ((Z2 Y0 YH YK YI).1) 1).2.2.1⟩ : Gm), (Z3 ((Z2 Y0 YH YK YI).1) 1).2.2.2.1, (Z2 Y0 YH YK YI).1.Film, (Z2 Y0 YH YK YI).1.Bend, (Z3 ((Z2 Y0 YH YK YI).1) 1).2.2.2.2, (Z2 Y0 YH YK YI).1.Fall⟩ : Gb).Me.Tr.length ≤ 1073741824 := by clear q; exact (by simp_all <;> omega)
         have y20 : ∀ t ∈ (⟨(⟨(Z3 ((Z2 Y0 YH YK YI).1) 1).2.1, (Z3 ((Z2 Y0 YH YK YI).1) 1).2.2.1⟩ : Gm), (Z3 ((Z2 Y0 YH YK YI).1) 1).2.2.2.1, (Z2 Y0 YH YK YI).1.Film, (Z2 Y0 YH YK YI).1.Bend, (Z3 ((Z2 Y0 YH YK YI).1) 1).2.2.2.2, (Z2 Y0 YH YK YI).1.Fall⟩ : Gb).Me.Tr, t.length ≤ 1073741824 := by clear q; exact (by exact Zbw _ _ _ (by assumption))
         have y21 : (⟨(⟨(Z3 ((Z2 Y0 YH YK YI).1) 1).2.1, (Z3 ((Z2 Y0 YH YK YI).1) 1).2.2.1⟩ : Gm), (Z3 ((Z2 Y0 YH YK YI).1) 1).2.2.2.1, (Z2 Y0 YH YK YI).1.Film, (Z2 Y0 YH YK YI).1.Bend, (Z3 ((Z2 Y0 YH YK YI).1) 1).2.2.2.2, (Z2 Y0 YH YK YI).1.Fall⟩ : Gb).Sp.length ≤ 1073741824 := by clear q; exact (by simp_all <;> omega)
         have y22 : (⟨(⟨(Z3 ((Z2 Y0 YH YK YI).1) 1).2.1, (Z3 ((Z2 Y0 YH YK YI).1) 1).2.2.1⟩ : Gm), (Z3 ((Z2 Y0 YH YK YI).1) 1).2.2.2.1, (Z2 Y0 YH YK YI).1.Film, (Z2 Y0 YH YK YI).1.Bend, (Z3 ((Z2 Y0 YH YK YI).1) 1).2.2.2.2, (Z2 Y0 YH YK YI).1.Fall⟩ : Gb).We.length ≤ 1073741824 := by clear q; exact (by simp_all <;> omega)
         have p {a C} (s : Scr a C) := q (sB h7 <| sB h7 <| sB h7 <| sF (Fn.castA (args' := [.agg [.sl (((Z2 Y0 YH YK YI).1.Me.Pq).map Gv.c), .sl ((((Z2 Y0 YH YK YI).1.Me.Tr).map fun l => l.map (cI .i64)).map fun l => [.sl l]), .sl (((Z2 Y0 YH YK YI).1.Sp).map Gs.c), .f .f32 ((Z2 Y0 YH YK YI).1.Film), .f .f32 ((Z2 Y0 YH YK YI).1.Bend), .sl (((Z2 Y0 YH YK YI).1.We).map (cF .f32)), .f .f32 ((Z2 Y0 YH YK YI).1.Fall.X), .f .f32 ((Z2 Y0 YH YK YI).1.Fall.Y), .f .f32 ((Z2 Y0 YH YK YI).1.Fall.Z)], .agg [.sl (((Z7 Y0 YH YK YI).1.Me.Pq).map Gv.c), .sl ((((Z7 Y0 YH YK YI).1.Me.Tr).map fun l => l.map (cI .i64)).map fun l => [.sl l]), .sl (((Z7 Y0 YH YK YI).1.Sp).map Gs.c), .f .f32 ((Z7 Y0 YH YK YI).1.Film), .f .f32 ((Z7 Y0 YH YK YI).1.Bend), .sl (((Z7 Y0 YH YK YI).1.We).map (cF .f32)), .f .f32 ((Z7 Y0 YH YK YI).1.Fall.X), .f .f32 ((Z7 Y0 YH YK YI).1.Fall.Y), .f .f32 ((Z7 Y0 YH YK YI).1.Fall.Z)]]) (Z7X ((Z2 Y0 YH YK YI).1) ((Z7 Y0 YH YK YI).1) y6 y7 y8 y9 y10 y11 y12 y13 y14 y15) (by simp [cL, Function.comp_def]; done)) <| sB h7 <| sB h7 <| sB' h2 <| sB' h2 <| sB' h2 <| sF (Z5J ((Z2 Y0 YH YK YI).2.1) ((Z7 Y0 YH YK YI).2.1) y16 y17) <| sB' h2 <| sB' h2 <| sB' h3 <| sB' h3 <| sB' h3 <| sB' h3 <| sB' h4 <| sS (CallSt.frame (Z5E ((Z2 Y0 YH YK YI).1) 1 y6 y7 y8 y9 y10) [18, 19, 20, 21] (R := [.box 32 [.sl (Y0.Me.Pq.map Gv.c), .sl (Y0.Me.Tr.map (cL (cI .i64))), .sl (Y0.Sp.map Gs.c), .f .f32 Y0.Film, .f .f32 Y0.Bend, .sl (Y0.We.map (cF .f32)), .f .f32 Y0.Fall.X, .f .f32 Y0.Fall.Y, .f .f32 Y0.Fall.Z], .vec 40 3 (Y0.Me.Pq.map Gv.c) false, .nest 49 (Y0.Me.Tr.map fun l => l.map (cI .i64)) false, .vec 133 4 (Y0.Sp.map Gs.c) false, .vec 27 1 (Y0.We.map (cF .f32)) false, .vec 2 1 (YH.map (cI .i64)) false, .vec 40 3 (((Z7 Y0 YH YK YI).1.Me.Pq).map Gv.c) false, .nest 49 (((Z7 Y0 YH YK YI).1.Me.Tr).map fun l => l.map (cI .i64)) false, .vec 133 4 (((Z7 Y0 YH YK YI).1.Sp).map Gs.c) false, .vec 27 1 (((Z7 Y0 YH YK YI).1.We).map (cF .f32)) false, .vec 27 1 (((Z7 Y0 YH YK YI).2.1).map (cF .f32)) false, .box 42 [.own 6, .own 7, .own 8, .f .f32 ((Z7 Y0 YH YK YI).1.Film), .f .f32 ((Z7 Y0 YH YK YI).1.Bend), .own 9, .f .f32 ((Z7 Y0 YH YK YI).1.Fall.X), .f .f32 ((Z7 Y0 YH YK YI).1.Fall.Y), .f .f32 ((Z7 Y0 YH YK YI).1.Fall.Z)], .vec 40 3 (((Z3 Y0 1).2.1).map Gv.c) false, .nest 49 (((Z3 Y0 1).2.2.1).map fun l => l.map (cI .i64)) false, .vec 133 4 (((Z3 Y0 1).2.2.2.1).map Gs.c) false, .vec 27 1 (((Z3 Y0 1).2.2.2.2).map (cF .f32)) false, .box 42 [.own 12, .own 13, .own 14, .f .f32 Y0.Film, .f .f32 Y0.Bend, .own 15, .f .f32 Y0.Fall.X, .f .f32 Y0.Fall.Y, .f .f32 Y0.Fall.Z], .vec 2 1 (((Z25 YH ((Z3 Y0 1).1)).2).map (cI .i64)) false, .vec 40 3 (((Z2 Y0 YH YK YI).1.Me.Pq).map Gv.c) false, .nest 49 (((Z2 Y0 YH YK YI).1.Me.Tr).map fun l => l.map (cI .i64)) false, .vec 133 4 (((Z2 Y0 YH YK YI).1.Sp).map Gs.c) false, .vec 27 1 (((Z2 Y0 YH YK YI).1.We).map (cF .f32)) false, .vec 27 1 (((Z2 Y0 YH YK YI).2.1).map (cF .f32)) false, .box 42 [.own 18, .own 19, .own 20, .f .f32 ((Z2 Y0 YH YK YI).1.Film), .f .f32 ((Z2 Y0 YH YK YI).1.Bend), .own 21, .f .f32 ((Z2 Y0 YH YK YI).1.Fall.X), .f .f32 ((Z2 Y0 YH YK YI).1.Fall.Y), .f .f32 ((Z2 Y0 YH YK YI).1.Fall.Z)], .vec 40 3 (Y0.Me.Pq.map Gv.c) false, .nest 49 (Y0.Me.Tr.map fun l => l.map (cI .i64)) false, .vec 133 4 (Y0.Sp.map Gs.c) false, .vec 27 1 (Y0.We.map (cF .f32)) false, .vec 2 1 (YH.map (cI .i64)) false]) (args' := [.agg [.own 18, .own 19, .own 20, .f .f32 ((Z2 Y0 YH YK YI).1.Film), .f .f32 ((Z2 Y0 YH YK YI).1.Bend), .own 21, .f .f32 ((Z2 Y0 YH YK YI).1.Fall.X), .f .f32 ((Z2 Y0 YH YK YI).1.Fall.Y), .f .f32 ((Z2 Y0 YH YK YI).1.Fall.Z)], .i .i64 1]) rfl rfl rfl rfl rfl rfl) <| sS (CallSt.frame (Z7u ((Z2 Y0 YH YK YI).2.1) ((Z3 ((Z2 Y0 YH YK YI).1) 1).1) y16) [22] (R := [.box 32 [.sl (Y0.Me.Pq.map Gv.c), .sl (Y0.Me.Tr.map (cL (cI .i64))), .sl (Y0.Sp.map Gs.c), .f .f32 Y0.Film, .f .f32 Y0.Bend, .sl (Y0.We.map (cF .f32)), .f .f32 Y0.Fall.X, .f .f32 Y0.Fall.Y, .f .f32 Y0.Fall.Z], .vec 40 3 (Y0.Me.Pq.map Gv.c) false, .nest 49 (Y0.Me.Tr.map fun l => l.map (cI .i64)) false, .vec 133 4 (Y0.Sp.map Gs.c) false, .vec 27 1 (Y0.We.map (cF .f32)) false, .vec 2 1 (YH.map (cI .i64)) false, .vec 40 3 (((Z7 Y0 YH YK YI).1.Me.Pq).map Gv.c) false, .nest 49 (((Z7 Y0 YH YK YI).1.Me.Tr).map fun l => l.map (cI .i64)) false, .vec 133 4 (((Z7 Y0 YH YK YI).1.Sp).map Gs.c) false, .vec 27 1 (((Z7 Y0 YH YK YI).1.We).map (cF .f32)) false, .vec 27 1 (((Z7 Y0 YH YK YI).2.1).map (cF .f32)) false, .box 42 [.own 6, .own 7, .own 8, .f .f32 ((Z7 Y0 YH YK YI).1.Film), .f .f32 ((Z7 Y0 YH YK YI).1.Bend), .own 9, .f .f32 ((Z7 Y0 YH YK YI).1.Fall.X), .f .f32 ((Z7 Y0 YH YK YI).1.Fall.Y), .f .f32 ((Z7 Y0 YH YK YI).1.Fall.Z)], .vec 40 3 (((Z3 Y0 1).2.1).map Gv.c) false, .nest 49 (((Z3 Y0 1).2.2.1).map fun l => l.map (cI .i64)) false, .vec 133 4 (((Z3 Y0 1).2.2.2.1).map Gs.c) false, .vec 27 1 (((Z3 Y0 1).2.2.2.2).map (cF .f32)) false, .box 42 [.own 12, .own 13, .own 14, .f .f32 Y0.Film, .f .f32 Y0.Bend, .own 15, .f .f32 Y0.Fall.X, .f .f32 Y0.Fall.Y, .f .f32 Y0.Fall.Z], .vec 2 1 (((Z25 YH ((Z3 Y0 1).1)).2).map (cI .i64)) false, .vec 40 3 (((Z3 ((Z2 Y0 YH YK YI).1) 1).2.1).map Gv.c) false, .nest 49 (((Z3 ((Z2 Y0 YH YK YI).1) 1).2.2.1).map fun l => l.map (cI .i64)) false, .vec 133 4 (((Z3 ((Z2 Y0 YH YK YI).1) 1).2.2.2.1).map Gs.c) false, .vec 27 1 (((Z3 ((Z2 Y0 YH YK YI).1) 1).2.2.2.2).map (cF .f32)) false, .vec 27 1 (((Z2 Y0 YH YK YI).2.1).map (cF .f32)) false, .box 42 [.own 18, .own 19, .own 20, .f .f32 ((Z2 Y0 YH YK YI).1.Film), .f .f32 ((Z2 Y0 YH YK YI).1.Bend), .own 21, .f .f32 ((Z2 Y0 YH YK YI).1.Fall.X), .f .f32 ((Z2 Y0 YH YK YI).1.Fall.Y), .f .f32 ((Z2 Y0 YH YK YI).1.Fall.Z)], .vec 40 3 (Y0.Me.Pq.map Gv.c) false, .nest 49 (Y0.Me.Tr.map fun l => l.map (cI .i64)) false, .vec 133 4 (Y0.Sp.map Gs.c) false, .vec 27 1 (Y0.We.map (cF .f32)) false, .vec 2 1 (YH.map (cI .i64)) false]) (args' := [.own 22, .i .i64 ((Z3 ((Z2 Y0 YH YK YI).1) 1).1)]) rfl rfl rfl rfl rfl rfl) <| sF (Fn.castA (args' := [.agg [.sl (((Z3 ((Z2 Y0 YH YK YI).1) 1).2.1).map Gv.c), .sl ((((Z3 ((Z2 Y0 YH YK YI).1) 1).2.2.1).map fun l => l.map (cI .i64)).map fun l => [.sl l]), .sl (((Z3 ((Z2 Y0 YH YK YI).1) 1).2.2.2.1).map Gs.c), .f .f32 ((Z2 Y0 YH YK YI).1.Film), .f .f32 ((Z2 Y0 YH YK YI).1.Bend), .sl (((Z3 ((Z2 Y0 YH YK YI).1) 1).2.2.2.2).map (cF .f32)), .f .f32 ((Z2 Y0 YH YK YI).1.Fall.X), .f .f32 ((Z2 Y0 YH YK YI).1.Fall.Y), .f .f32 ((Z2 Y0 YH YK YI).1.Fall.Z)], .i .i64 1]) (ZbS (⟨(⟨(Z3 ((Z2 Y0 YH YK YI).1) 1).2.1, (Z3 ((Z2 Y0 YH YK YI).1) 1).2.2.1⟩ : Gm), (Z3 ((Z2 Y0 YH YK YI).1) 1).2.2.2.1, (Z2 Y0 YH YK YI).1.Film, (Z2 Y0 YH YK YI).1.Bend, (Z3 ((Z2 Y0 YH YK YI).1) 1).2.2.2.2, (Z2 Y0 YH YK YI).1.Fall⟩ : Gb) 1 y18 y19 y20 y21 y22) (by simp [cL, Function.comp_def]; done)) <| s)
         clear q
         cases h8 : (decide ((Z3r Y0 YH YK YI) < 0)) with
         | true =>
          have gh8 := odt h8
          refine fnS E0Ok Z5 (c := bodyOf f8) [] (.b false) [] func8 (p (sB h8 <| sK [] sN)) rfl (by kernel_rfl) (by kernel_rfl) rfl ?_ ?_
          · simp only [Z1e, h0, h1, h2, h3, h4, h5, h6, h7, h8, cond_true, cond_false]
          · rfl
         | false =>
          have gh8 := odf h8
          have y23 : ((Zw ((Z2 Y0 YH YK YI).2.1) ((Z3 ((Z2 Y0 YH YK YI).1) 1).1)).2).length ≤ 1073741824 := by clear p; exact (by simp_all <;> omega)
          have q {a C} (s : Scr a C) := p (sB h8 <| sF (Z6N ((Zw ((Z2 Y0 YH YK YI).2.1) ((Z3 ((Z2 Y0 YH YK YI).1) 1).1)).2) (Z3r Y0 YH YK YI) y23) <| s)
          clear p
          cases h9 : (decide ((Z3Y Y0 YH YK YI) < 0)) with
          | true =>
           have gh9 := odt h9
           refine fnS E0Ok Z5 (c := bodyOf f8) [] (.b false) [] func8 (q (sB h9 <| sK [] sN)) rfl (by kernel_rfl) (by kernel_rfl) rfl ?_ ?_
           · simp only [Z1e, h0, h1, h2, h3, h4, h5, h6, h7, h8, h9, cond_true, cond_false]
           · rfl
          | false =>
           have gh9 := odf h9
           have p {a C} (s : Scr a C) := q (sB h9 <| s)
           clear q
           cases h10 : ((Z3Y Y0 YH YK YI) != (Zw ((Z2 Y0 YH YK YI).2.1) ((Z3 ((Z2 Y0 YH YK YI).1) 1).1)).1) with
           | true =>
            have gh10 := bne_iff_ne.1 h10
            refine fnS E0Ok Z5 (c := bodyOf f8) [] (.b false) [] func8 (p (sB h10 <| sK [] sN)) rfl (by kernel_rfl) (by kernel_rfl) rfl ?_ ?_
            · simp only [Z1e, h0, h1, h2, h3, h4, h5, h6, h7, h8, h9, h10, cond_true, cond_false]
            · rfl
           | false =>
            have gh10 := bne_eq_false_iff_eq.1 h10
            refine fnS E0Ok Z5 (c := bodyOf f8) [] (.b true) [] func8 (p (sB h10 <| sF (Z7U Y0 y0 y1 y2 y3 y4) <| sF (Z5v YH y5) <| sF (Fn.castA (args' := [.agg [.sl (Y0.Me.Pq.map Gv.c), .sl ((Y0.Me.Tr.map fun l => l.map (cI .i64)).map fun l => [.sl l]), .sl (Y0.Sp.map Gs.c), .f .f32 Y0.Film, .f .f32 Y0.Bend, .sl (Y0.We.map (cF .f32)), .f .f32 Y0.Fall.X, .f .f32 Y0.Fall.Y, .f .f32 Y0.Fall.Z], .sl (YH.map (cI .i64)), .f .f32 YK, .i .i64 YI]) (Zch Y0 YH YK YI y0 y1 y2 y3 y4 y5) (by simp [cL, Function.comp_def]; done)) <| sF (Fn.castA (args' := [.agg [.sl (((Z2 Y0 YH YK YI).1.Me.Pq).map Gv.c), .sl ((((Z2 Y0 YH YK YI).1.Me.Tr).map fun l => l.map (cI .i64)).map fun l => [.sl l]), .sl (((Z2 Y0 YH YK YI).1.Sp).map Gs.c), .f .f32 ((Z2 Y0 YH YK YI).1.Film), .f .f32 ((Z2 Y0 YH YK YI).1.Bend), .sl (((Z2 Y0 YH YK YI).1.We).map (cF .f32)), .f .f32 ((Z2 Y0 YH YK YI).1.Fall.X), .f .f32 ((Z2 Y0 YH YK YI).1.Fall.Y), .f .f32 ((Z2 Y0 YH YK YI).1.Fall.Z)], .agg [.sl (((Z7 Y0 YH YK YI).1.Me.Pq).map Gv.c), .sl ((((Z7 Y0 YH YK YI).1.Me.Tr).map fun l => l.map (cI .i64)).map fun l => [.sl l]), .sl (((Z7 Y0 YH YK YI).1.Sp).map Gs.c), .f .f32 ((Z7 Y0 YH YK YI).1.Film), .f .f32 ((Z7 Y0 YH YK YI).1.Bend), .sl (((Z7 Y0 YH YK YI).1.We).map (cF .f32)), .f .f32 ((Z7 Y0 YH YK YI).1.Fall.X), .f .f32 ((Z7 Y0 YH YK YI).1.Fall.Y), .f .f32 ((Z7 Y0 YH YK YI).1.Fall.Z)]]) (Z7X ((Z2 Y0 YH YK YI).1) ((Z7 Y0 YH YK YI).1) y6 y7 y8 y9 y10 y11 y12 y13 y14 y15) (by simp [cL, Function.comp_def]; done)) <| sB' h2 <| sB' h2 <| sB' h2 <| sF (Z5J ((Z2 Y0 YH YK YI).2.1) ((Z7 Y0 YH YK YI).2.1) y16 y17) <| sB' h2 <| sB' h2 <| sB' h3 <| sB' h3 <| sB' h3 <| sB' h3 <| sB' h4 <| sF (Fn.castA (args' := [.agg [.sl (((Z3 ((Z2 Y0 YH YK YI).1) 1).2.1).map Gv.c), .sl ((((Z3 ((Z2 Y0 YH YK YI).1) 1).2.2.1).map fun l => l.map (cI .i64)).map fun l => [.sl l]), .sl (((Z3 ((Z2 Y0 YH YK YI).1) 1).2.2.2.1).map Gs.c), .f .f32 ((Z2 Y0 YH YK YI).1.Film), .f .f32 ((Z2 Y0 YH YK YI).1.Bend), .sl (((Z3 ((Z2 Y0 YH YK YI).1) 1).2.2.2.2).map (cF .f32)), .f .f32 ((Z2 Y0 YH YK YI).1.Fall.X), .f .f32 ((Z2 Y0 YH YK YI).1.Fall.Y), .f .f32 ((Z2 Y0 YH YK YI).1.Fall.Z)], .i .i64 1]) (ZbS (⟨(⟨(Z3 ((Z2 Y0 YH YK YI).1) 1).2.1, (Z3 ((Z2 Y0 YH YK YI).1) 1).2.2.1⟩ : Gm), (Z3 ((Z2 Y0 YH YK YI).1) 1).2.2.2.1, (Z2 Y0 YH YK YI).1.Film, (Z2 Y0 YH YK YI).1.Bend, (Z3 ((Z2 Y0 YH YK YI).1) 1).2.2.2.2, (Z2 Y0 YH YK YI).1.Fall⟩ : Gb) 1 y18 y19 y20 y21 y22) (by simp [cL, Function.comp_def]; done)) <| sB h8 <| sF (Z6N ((Zw ((Z2 Y0 YH YK YI).2.1) ((Z3 ((Z2 Y0 YH YK YI).1) 1).1)).2) (Z3r Y0 YH YK YI) y23) <| sB h9 <| sB h10 <| sK [] sN)) rfl (by kernel_rfl) (by kernel_rfl) rfl ?_ ?_
            · simp only [Z1e, h0, h1, h2, h3, h4, h5, h6, h7, h8, h9, h10, cond_true, cond_false]
            · rfl
       | false =>
        refine fnS E0Ok Z5 (c := bodyOf f8) [] (.b false) [] func8 (p (sB' h6 <| sK [] sN)) rfl (by kernel_rfl) (by kernel_rfl) rfl ?_ ?_
        · simp only [Z1e, h0, h1, h2, h3, h4, h5, h6, cond_true, cond_false]
        · rfl
      | false =>
       refine fnS E0Ok Z5 (c := bodyOf f8) [] (.b false) [] func8 (q (sB' h5 <| sK [] sN)) rfl (by kernel_rfl) (by kernel_rfl) rfl ?_ ?_
       · simp only [Z1e, h0, h1, h2, h3, h4, h5, cond_true, cond_false]
       · rfl
     | false =>
      have gh4 := ne_of_beq_false h4
      refine fnS E0Ok Z5 (c := bodyOf f8) [] (.b false) [] func8 (p (sB' h4 <| sK [] sN)) rfl (by kernel_rfl) (by kernel_rfl) rfl ?_ ?_
      · simp only [Z1e, h0, h1, h2, h3, h4, cond_true, cond_false]
      · rfl
    | false =>
     refine fnS E0Ok Z5 (c := bodyOf f8) [] (.b false) [] func8 (q (sB' h3 <| sB' h3 <| sB' h3 <| sB' h3 <| sB (show true = true from rfl) <| sK [] sN)) rfl (by kernel_rfl) (by kernel_rfl) rfl ?_ ?_
     · simp only [Z1e, h0, h1, h2, h3, cond_true, cond_false]
     · rfl
   | false =>
    refine fnS E0Ok Z5 (c := bodyOf f8) [] (.b false) [] func8 (p (sB' h2 <| sB' h2 <| sB' h2 <| sB' h2 <| sB' h2 <| sB (show true = true from rfl) <| sB (show true = true from rfl) <| sB (show true = true from rfl) <| sB (show true = true from rfl) <| sB (show true = true from rfl) <| sK [] sN)) rfl (by kernel_rfl) (by kernel_rfl) rfl ?_ ?_
    · simp only [Z1e, h0, h1, h2, cond_false]
    · rfl
theorem Zfw (a : List Gv) (c : Int) : Z26 (Zt a c).2 c = (Zt a c).1 := by
  rw [Zh1, ZbO, hdL_mkL (fun x c => by simp [Zau, Z6l, ofInt_self]) (fun x c => rfl)]
theorem ZfW (a : List Int) (c : Int) : Z1q (Zm a c).2 c = (Zm a c).1 := by
  rw [Zhs, Zcj, hdL_mkL (fun x c => by simp [Zbt, Z7p, ofInt_self]) (fun x c => rfl)]
theorem Zf3 (a : List (List Int)) (c : Int) (g0 : a.length ≤ 1073741824) (g1 : ∀ t ∈ a, t.length ≤ 1073741824) (h0 : 0 ≤ c) (h1 : c ≤ 3458764513820540928) : Z2V (Z14 a c).2 c = (Z14 a c).1 := by
  rw [ZgL, Zbq, hdL_mkL_b (W := 1073741824) (M := 4611686018427387904) a c (fun x hx c k0 k1 => by
    have q := Zbp x c (g1 x hx) k0 (by omega)
    have q2 := ZfW x c
    refine ⟨?_, q2, q.1, q.2⟩
    rw [q2]
    simp; omega) h0 (by omega)]
theorem Zf4 (a : Gm) (c : Int) (g0 : a.Pq.length ≤ 1073741824) (g1 : a.Tr.length ≤ 1073741824) (g2 : ∀ t ∈ a.Tr, t.length ≤ 1073741824) (h0 : 0 ≤ c) (h1 : c ≤ 1152921504606846976) : Z21 ⟨(Zh a c).2.1, (Zh a c).2.2⟩ c = (Zh a c).1 := by
  have p0 := ZaO a.Pq c g0 (by omega) (by omega)
  have q0 := Zfw a.Pq c
  have p1 := Zar a.Tr ((Zt a.Pq c).1) g1 g2 (by omega) (by omega)
  have q1 := Zf3 a.Tr ((Zt a.Pq c).1) g1 g2 (by omega) (by omega)
  unfold Z21
  simp only [Zh, true_and] at *
  simp only [q0, q1]
  repeat (rw [decide_eq_false (by omega), cond_false])
  try rfl
theorem Zfx (a : List Gs) (c : Int) : Z27 (Zu a c).2 c = (Zu a c).1 := by
  rw [Zh2, ZbP, hdL_mkL (fun x c => by simp [Zav, Z6o, ofInt_self]) (fun x c => rfl)]
theorem Zbu (a : List Nat) (c : Int) : Z2r (Zw a c).2 c = (Zw a c).1 := by
  rw [ZgM, Zbr, hdL_mkL (fun x c => by simp [Z9n, Z5Q, ofInt_self]) (fun x c => rfl)]
theorem Zbx (a : Gb) (c : Int) (g0 : a.Me.Pq.length ≤ 1073741824) (g1 : a.Me.Tr.length ≤ 1073741824) (g2 : ∀ t ∈ a.Me.Tr, t.length ≤ 1073741824) (g3 : a.Sp.length ≤ 1073741824) (g4 : a.We.length ≤ 1073741824) (h0 : 0 ≤ c) (h1 : c ≤ 1152921504606846976) : Z4d ⟨⟨(Z3 a c).2.1, (Z3 a c).2.2.1⟩, (Z3 a c).2.2.2.1, a.Film, a.Bend, (Z3 a c).2.2.2.2, a.Fall⟩ c = (Z3 a c).1 := by
  have p0 := Zas a.Me c g0 g1 g2 (by omega) (by omega)
  have q0 := Zf4 a.Me c g0 g1 g2 (by omega) (by omega)
  have p1 := ZaP a.Sp ((Zh a.Me c).1) g3 (by omega) (by omega)
  have q1 := Zfx a.Sp ((Zh a.Me c).1)
  have p2 := Z7q a.We ((Zu a.Sp ((Zh a.Me c).1)).1) g4 (by omega) (by omega)
  have q2 := Zbu a.We ((Zu a.Sp ((Zh a.Me c).1)).1)
  unfold Z4d
  simp only [Z3, Zh] at *
  simp only [q0, q1, q2]
  repeat (rw [decide_eq_false (by omega), cond_false])
  try rfl
end Go.Ab
