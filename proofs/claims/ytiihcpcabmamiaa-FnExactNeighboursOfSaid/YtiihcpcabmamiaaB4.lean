/- The functions of this seat as plain Lean, and that the program's are these. Printed by a program of the prover's own. -/
import Derived.Test.YtiihcpcabmamiaaB3
set_option linter.unusedVariables false
set_option linter.unusedSimpArgs false
set_option maxRecDepth 100000
namespace Go.Ab
open Go.RowKit Go.Proofs.Try

def lr_laws_markVectorS_mon_1_0 (a_0 : (List GVector)) (k_1 : Int) : Int × (List GVector) := (lo_laws_markVectorS_mon_1 a_0 k_1 (((a_0.length : Int) - 0).toNat + 1) k_1 0 a_0)

@[simp] theorem len_lr_laws_markVectorS_mon_1_0_1 (a_0 : (List GVector)) (k_1 : Int) : (lr_laws_markVectorS_mon_1_0 a_0 k_1).2.length = (a_0 : (List GVector)).length := ln_laws_markVectorS_mon_1_1 a_0 k_1 (((a_0.length : Int) - 0).toNat + 1) k_1 0 a_0 (by first | exact Nat.lt_succ_self _ | simp)

def v_laws_markVectorS_mon (a_0 : (List GVector)) (k_1 : Int) : Int × (List GVector) := ((lr_laws_markVectorS_mon_1_0 a_0 k_1).1, (lr_laws_markVectorS_mon_1_0 a_0 k_1).2)

@[simp] theorem len_v_laws_markVectorS_mon_1 (a_0 : (List GVector)) (k_1 : Int) : (v_laws_markVectorS_mon a_0 k_1).2.length = a_0.length := by
  first | (simp [v_laws_markVectorS_mon]; done)

theorem t_laws_markVectorS_mon (a_0 : (List GVector)) (k_1 : Int) (hp0 : a_0.length ≤ 1073741824)  : CallSt prog 59 [.vec 67 3 (a_0.map GVector.cells) false] [.own 0, .i .i64 k_1] (.i .i64 ((v_laws_markVectorS_mon a_0 k_1).1)) [.vec 67 3 (((v_laws_markVectorS_mon a_0 k_1).2).map GVector.cells) false] := by
 refine callS (EpOk 1) hMixed (c := bodyOf f59) [.vec 67 3 (a_0.map GVector.cells) false] [] (.i .i64 ((lr_laws_markVectorS_mon_1_0 a_0 k_1).1)) [.vec 67 3 (((lr_laws_markVectorS_mon_1_0 a_0 k_1).2).map GVector.cells) false] func59 (sL mk_laws_markVectorS_mon_1_0 1 (lp_val (ls_laws_markVectorS_mon_1 a_0 k_1) (x := (lr_laws_markVectorS_mon_1_0 a_0 k_1)) (lp_laws_markVectorS_mon_1 a_0 k_1 hp0 (((a_0.length : Int) - 0).toNat + 1) k_1 0 a_0 (show 0 ≤ 0 from (by first | assumption | omega | (simp_all <;> omega))) (show a_0.length = a_0.length from (by simp)) (Nat.lt_succ_self _)) rfl) <| sK [] sN) rfl (by kernel_rfl) (by kernel_rfl) ?_ ?_
 · rfl
 · simp [v_laws_markVectorS_mon]

def mk_Vector_mon (_ : GVector) (c : Int) : Int × GVector := ((IntKind.wrap .i64 ((IntKind.wrap .i64 ((IntKind.wrap .i64 (c + 1)) + 1)) + 1)), ⟨ofInt .f32 c, ofInt .f32 (IntKind.wrap .i64 (c + 1)), ofInt .f32 (IntKind.wrap .i64 ((IntKind.wrap .i64 (c + 1)) + 1))⟩)
theorem mkeq_Vector_mon (a : List GVector) (c : Int) : v_laws_markVectorS_mon a c = mkL mk_Vector_mon a c := by
  unfold v_laws_markVectorS_mon lr_laws_markVectorS_mon_1_0
  rw [mark_loop (f := mk_Vector_mon) (lo := lo_laws_markVectorS_mon_1 a c) (fun k c i r => rfl) _ _ _ _ (Int.le_refl 0) (Nat.lt_succ_self _)]
  simp
theorem markge_Vector_mon (a : List GVector) (c : Int) (g0 : a.length ≤ 1073741824) (h0 : 0 ≤ c) (h1 : c ≤ 4611686018427387904) : c ≤ (v_laws_markVectorS_mon a c).1 ∧ (v_laws_markVectorS_mon a c).1 ≤ c + 3221225472 := by
  rw [mkeq_Vector_mon]
  have q := mkL_ge (f := mk_Vector_mon) (W := 3) a c (fun x _ c k0 k1 => by simp only [mk_Vector_mon]; rw [wrap_id (n := c + 1) (by omega) (by omega), show c + 1 + 1 = c + 2 from by omega, wrap_id (n := c + 2) (by omega) (by omega), show c + 2 + 1 = c + 3 from by omega, wrap_id (n := c + 3) (by omega) (by omega)]; omega) h0 (by omega)
  omega

def lo_laws_markInt64S_min_1 (a_0 : (List Int)) (k_1 : Int) : Nat → Int → Int → (List Int) → Int × (List Int)
  | 0, _, _, _ => default
  | k + 1, k_l0, i_l1, r0_l2 => (cond (decide (i_l1 < (r0_l2.length : Int)))
    (lo_laws_markInt64S_min_1 a_0 k_1 k (IntKind.wrap .i64 (k_l0 + 1)) (i_l1 + 1) (r0_l2.set i_l1.toNat k_l0))
    (k_l0, r0_l2))

def ls_laws_markInt64S_min_1 (ty : Nat) (a_0 : (List Int)) (k_1 : Int) (r : Int × (List Int)) : Ex × St := ((.exit 0), ⟨[.any, .i .i64 r.1, .any, .any, .i .i64 0, .any, .any, .any, .any, .any, .any, .any, .any, .any, .any, .any, .any, .any, .any], [.vec ty 1 (r.2.map (cI .i64)) false]⟩)

def hd_laws_markInt64S_min_1 (ty : Nat) (a_0 : (List Int)) (k_1 : Int) (k_l0 : Int) (i_l1 : Int) (r0_l2 : (List Int)) : St := ⟨[.own 0, .i .i64 k_l0, .any, .any, .i .i64 0, .i .i64 i_l1, .any, .any, .any, .any, .any, .any, .any, .any, .any, .any, .any, .any, .any], [.vec ty 1 (r0_l2.map (cI .i64)) false]⟩

def mk_laws_markInt64S_min_1_0 : List Bool := [true, true, false, false, true, true, false, false, false, false, false, false, false, false, false, false, false, false, false]

def mk_laws_markInt64S_min_1_1 : List Bool := [false, true, false, false, true, false, false, false, false, false, false, false, false, false, false, false, false, false, false]

theorem lp_laws_markInt64S_min_1 (ty : Nat) (a_0 : (List Int)) (k_1 : Int) (hp0 : a_0.length ≤ 1073741824) : ∀ (k : Nat) (k_l0 : Int) (i_l1 : Int) (r0_l2 : (List Int)) (hv_laws_markInt64S_min_1_0 : 0 ≤ i_l1) (hv_laws_markInt64S_min_1_1 : r0_l2.length = a_0.length) (hk : ((a_0.length : Int) - i_l1).toNat < k), Lp prog 1 (sub (bodyOf f36) [1, 0, 1, 0, 0]) (hd_laws_markInt64S_min_1 ty a_0 k_1 k_l0 i_l1 r0_l2) (ls_laws_markInt64S_min_1 ty a_0 k_1 (lo_laws_markInt64S_min_1 a_0 k_1 k k_l0 i_l1 r0_l2)).1 (ls_laws_markInt64S_min_1 ty a_0 k_1 (lo_laws_markInt64S_min_1 a_0 k_1 k k_l0 i_l1 r0_l2)).2 := by
 intro k
 induction k with
 | zero => intro k_l0 i_l1 r0_l2 hv_laws_markInt64S_min_1_0 hv_laws_markInt64S_min_1_1 hk; exact absurd hk (Nat.not_lt_zero _)
 | succ k ih =>
  intro k_l0 i_l1 r0_l2 hv_laws_markInt64S_min_1_0 hv_laws_markInt64S_min_1_1 hk
  have p {a C} (s : Scr a C) := sZ (cI .i64) r0_l2 <| s
  cases h_0 : (decide (i_l1 < (r0_l2.length : Int))) with
  | true =>
   have gh_0 := of_decide_eq_true h_0
   have y_0 : (0 : Int) ≤ i_l1 := by clear p; exact (by first | assumption | omega | (simp_all <;> omega))
   have y_1 : i_l1 < (r0_l2.length : Int) := by clear p; exact (by first | assumption | omega | (simp_all <;> omega))
   have y_2 : i_l1.toNat < r0_l2.length := by clear p; exact (by first | assumption | omega | (simp_all <;> omega))
   have y_3 : (-9223372036854775808 : Int) ≤ (i_l1 + 1) := by clear p; exact (by first | assumption | omega | (simp_all <;> omega))
   have y_4 : (i_l1 + 1) ≤ (9223372036854775807 : Int) := by clear p; exact (by first | assumption | omega | (simp_all <;> omega))
   have e : lo_laws_markInt64S_min_1 a_0 k_1 (k + 1) k_l0 i_l1 r0_l2 = (lo_laws_markInt64S_min_1 a_0 k_1 k (IntKind.wrap .i64 (k_l0 + 1)) (i_l1 + 1) (r0_l2.set i_l1.toNat k_l0)) := by simp only [lo_laws_markInt64S_min_1, h_0, cond_true]
   rw [e]
   exact nextS (EpOk 1) hMixed [] mk_laws_markInt64S_min_1_0 [] (⟨[.own 0, .i .i64 (IntKind.wrap .i64 (k_l0 + 1)), .any, .any, .i .i64 0, .i .i64 (i_l1 + 1), .any, .any, .any, .any, .any, .any, .any, .any, .any, .any, .any, .any, .any], [.vec ty 1 ((r0_l2.map (cI .i64)).set i_l1.toNat [.i .i64 k_l0]) false]⟩) (p (sB h_0 <| sX (cI .i64) r0_l2 i_l1 y_0 y_1 <| sC (maplt (c := (cI .i64)) (l := r0_l2) y_2) <| sW .i64 (k_l0 + 1) <| sI (i_l1 + 1) y_3 y_4 <| sN)) (by kernel_rfl) (show _ = ⟨[.own 0, .i .i64 (IntKind.wrap .i64 (k_l0 + 1)), .any, .any, .i .i64 0, .i .i64 (i_l1 + 1), .any, .any, .any, .any, .any, .any, .any, .any, .any, .any, .any, .any, .any], [.vec ty 1 ((r0_l2.set i_l1.toNat k_l0).map (cI .i64)) false]⟩ from (by simp [List.map_set, cI])) (ih (IntKind.wrap .i64 (k_l0 + 1)) (i_l1 + 1) (r0_l2.set i_l1.toNat k_l0) (show 0 ≤ (i_l1 + 1) from (by first | assumption | omega | (simp_all <;> omega))) (show (r0_l2.set i_l1.toNat k_l0).length = a_0.length from (by first | assumption | omega | (simp_all <;> omega))) (by first | assumption | omega | (simp_all <;> omega)))
  | false =>
   have gh_0 := of_decide_eq_false h_0
   have e : lo_laws_markInt64S_min_1 a_0 k_1 (k + 1) k_l0 i_l1 r0_l2 = (k_l0, r0_l2) := by simp only [lo_laws_markInt64S_min_1, h_0, cond_false]
   rw [e]
   exact outR (e := (.exit 0)) (EpOk 1) hMixed [] mk_laws_markInt64S_min_1_1 [] (p (sB h_0 <| sN)) (by kernel_rfl) (by intro h; cases h)

theorem ln_laws_markInt64S_min_1_1 (a_0 : (List Int)) (k_1 : Int) : ∀ (k : Nat) (k_l0 : Int) (i_l1 : Int) (r0_l2 : (List Int)) (hk : ((r0_l2.length : Int) - i_l1).toNat < k), (lo_laws_markInt64S_min_1 a_0 k_1 k k_l0 i_l1 r0_l2).2.length = r0_l2.length := by
  intro k
  induction k with
  | zero => intro k_l0 i_l1 r0_l2 hk; exact absurd hk (Nat.not_lt_zero _)
  | succ k ih =>
    intro k_l0 i_l1 r0_l2 hk
    cases h_0 : (decide (i_l1 < (r0_l2.length : Int))) with
    | true =>
      have e : lo_laws_markInt64S_min_1 a_0 k_1 (k + 1) k_l0 i_l1 r0_l2 = (lo_laws_markInt64S_min_1 a_0 k_1 k (IntKind.wrap .i64 (k_l0 + 1)) (i_l1 + 1) (r0_l2.set i_l1.toNat k_l0)) := by simp only [lo_laws_markInt64S_min_1, h_0, cond_true]
      rw [e, ih (IntKind.wrap .i64 (k_l0 + 1)) (i_l1 + 1) (r0_l2.set i_l1.toNat k_l0) (by first | assumption | omega | (simp_all <;> omega))]; simp
    | false =>
      have e : lo_laws_markInt64S_min_1 a_0 k_1 (k + 1) k_l0 i_l1 r0_l2 = (k_l0, r0_l2) := by simp only [lo_laws_markInt64S_min_1, h_0, cond_false]
      first | (rw [e]; done) | (rw [e]; rfl)

def lr_laws_markInt64S_min_1_0 (a_0 : (List Int)) (k_1 : Int) : Int × (List Int) := (lo_laws_markInt64S_min_1 a_0 k_1 (((a_0.length : Int) - 0).toNat + 1) k_1 0 a_0)

@[simp] theorem len_lr_laws_markInt64S_min_1_0_1 (a_0 : (List Int)) (k_1 : Int) : (lr_laws_markInt64S_min_1_0 a_0 k_1).2.length = (a_0 : (List Int)).length := ln_laws_markInt64S_min_1_1 a_0 k_1 (((a_0.length : Int) - 0).toNat + 1) k_1 0 a_0 (by first | exact Nat.lt_succ_self _ | simp)

def v_laws_markInt64S_min (a_0 : (List Int)) (k_1 : Int) : Int × (List Int) := ((lr_laws_markInt64S_min_1_0 a_0 k_1).1, (lr_laws_markInt64S_min_1_0 a_0 k_1).2)

@[simp] theorem len_v_laws_markInt64S_min_1 (a_0 : (List Int)) (k_1 : Int) : (v_laws_markInt64S_min a_0 k_1).2.length = a_0.length := by
  first | (simp [v_laws_markInt64S_min]; done)

theorem t_laws_markInt64S_min (ty : Nat) (a_0 : (List Int)) (k_1 : Int) (hp0 : a_0.length ≤ 1073741824)  : CallSt prog 36 [.vec ty 1 (a_0.map (cI .i64)) false] [.own 0, .i .i64 k_1] (.i .i64 ((v_laws_markInt64S_min a_0 k_1).1)) [.vec ty 1 (((v_laws_markInt64S_min a_0 k_1).2).map (cI .i64)) false] := by
 refine callS (EpOk 1) hMixed (c := bodyOf f36) [.vec ty 1 (a_0.map (cI .i64)) false] [] (.i .i64 ((lr_laws_markInt64S_min_1_0 a_0 k_1).1)) [.vec ty 1 (((lr_laws_markInt64S_min_1_0 a_0 k_1).2).map (cI .i64)) false] func36 (sL mk_laws_markInt64S_min_1_0 1 (lp_val (ls_laws_markInt64S_min_1 ty a_0 k_1) (x := (lr_laws_markInt64S_min_1_0 a_0 k_1)) (lp_laws_markInt64S_min_1 ty a_0 k_1 hp0 (((a_0.length : Int) - 0).toNat + 1) k_1 0 a_0 (show 0 ≤ 0 from (by first | assumption | omega | (simp_all <;> omega))) (show a_0.length = a_0.length from (by simp)) (Nat.lt_succ_self _)) rfl) <| sK [] sN) rfl (by kernel_rfl) (by kernel_rfl) ?_ ?_
 · rfl
 · simp [v_laws_markInt64S_min]

def mk_Int64_min (_ : Int) (c : Int) : Int × Int := ((IntKind.wrap .i64 (c + 1)), c)
theorem mkeq_Int64_min (a : List Int) (c : Int) : v_laws_markInt64S_min a c = mkL mk_Int64_min a c := by
  unfold v_laws_markInt64S_min lr_laws_markInt64S_min_1_0
  rw [mark_loop (f := mk_Int64_min) (lo := lo_laws_markInt64S_min_1 a c) (fun k c i r => rfl) _ _ _ _ (Int.le_refl 0) (Nat.lt_succ_self _)]
  simp
theorem markge_Int64_min (a : List Int) (c : Int) (g0 : a.length ≤ 1073741824) (h0 : 0 ≤ c) (h1 : c ≤ 4611686018427387904) : c ≤ (v_laws_markInt64S_min a c).1 ∧ (v_laws_markInt64S_min a c).1 ≤ c + 1073741824 := by
  rw [mkeq_Int64_min]
  have q := mkL_ge (f := mk_Int64_min) (W := 1) a c (fun x _ c k0 k1 => by simp only [mk_Int64_min]; rw [wrap_id (n := c + 1) (by omega) (by omega)]; omega) h0 (by omega)
  omega

def lo_laws_markInt64SS_mon_1 (a_0 : (List (List Int))) (k_1 : Int) : Nat → Int → Int → (List (List Int)) → Int × (List (List Int))
  | 0, _, _, _ => default
  | k + 1, k_l0, i_l1, r0_l2 => (cond (decide (i_l1 < (r0_l2.length : Int)))
    (lo_laws_markInt64SS_mon_1 a_0 k_1 k ((v_laws_markInt64S_min (r0_l2.getD i_l1.toNat default) k_l0).1) (i_l1 + 1) (r0_l2.set i_l1.toNat ((v_laws_markInt64S_min (r0_l2.getD i_l1.toNat default) k_l0).2)))
    (k_l0, r0_l2))

def ls_laws_markInt64SS_mon_1 (a_0 : (List (List Int))) (k_1 : Int) (r : Int × (List (List Int))) : Ex × St := ((.exit 0), ⟨[.any, .i .i64 r.1, .any, .any, .i .i64 0, .any, .any, .any, .any, .any, .any, .any, .any, .any, .any, .any, .any, .any, .any], [.nest 52 (r.2.map fun l => l.map (cI .i64)) false]⟩)

def hd_laws_markInt64SS_mon_1 (a_0 : (List (List Int))) (k_1 : Int) (k_l0 : Int) (i_l1 : Int) (r0_l2 : (List (List Int))) : St := ⟨[.own 0, .i .i64 k_l0, .any, .any, .i .i64 0, .i .i64 i_l1, .any, .any, .any, .any, .any, .any, .any, .any, .any, .any, .any, .any, .any], [.nest 52 (r0_l2.map fun l => l.map (cI .i64)) false]⟩

def mk_laws_markInt64SS_mon_1_0 : List Bool := [true, true, false, false, true, true, false, false, false, false, false, false, false, false, false, false, false, false, false]

def mk_laws_markInt64SS_mon_1_1 : List Bool := [false, true, false, false, true, false, false, false, false, false, false, false, false, false, false, false, false, false, false]

theorem lp_laws_markInt64SS_mon_1 (a_0 : (List (List Int))) (k_1 : Int) (hp0 : a_0.length ≤ 1073741824) (hp1 : ∀ t ∈ a_0, t.length ≤ 1073741824) : ∀ (k : Nat) (k_l0 : Int) (i_l1 : Int) (r0_l2 : (List (List Int))) (hv_laws_markInt64SS_mon_1_0 : 0 ≤ i_l1) (hv_laws_markInt64SS_mon_1_1 : r0_l2.length = a_0.length) (hv_laws_markInt64SS_mon_1_2 : ∀ t ∈ r0_l2, t.length ≤ 1073741824) (hk : ((a_0.length : Int) - i_l1).toNat < k), Lp prog 1 (sub (bodyOf f18) [1, 0, 1, 0, 0]) (hd_laws_markInt64SS_mon_1 a_0 k_1 k_l0 i_l1 r0_l2) (ls_laws_markInt64SS_mon_1 a_0 k_1 (lo_laws_markInt64SS_mon_1 a_0 k_1 k k_l0 i_l1 r0_l2)).1 (ls_laws_markInt64SS_mon_1 a_0 k_1 (lo_laws_markInt64SS_mon_1 a_0 k_1 k k_l0 i_l1 r0_l2)).2 := by
 intro k
 induction k with
 | zero => intro k_l0 i_l1 r0_l2 hv_laws_markInt64SS_mon_1_0 hv_laws_markInt64SS_mon_1_1 hv_laws_markInt64SS_mon_1_2 hk; exact absurd hk (Nat.not_lt_zero _)
 | succ k ih =>
  intro k_l0 i_l1 r0_l2 hv_laws_markInt64SS_mon_1_0 hv_laws_markInt64SS_mon_1_1 hv_laws_markInt64SS_mon_1_2 hk
  have p {a C} (s : Scr a C) := sM (nlen_ok (l := r0_l2) (f := fun l => l.map (cI .i64))) <| s
  cases h_0 : (decide (i_l1 < (r0_l2.length : Int))) with
  | true =>
   have gh_0 := of_decide_eq_true h_0
   have y_0 : (0 : Int) ≤ i_l1 := by clear p; exact (by first | assumption | omega | (exact mem_le hv_laws_markInt64SS_mon_1_2) | (simp_all <;> omega))
   have y_1 : Int.toNat i_l1 < r0_l2.length := by clear p; exact (by first | assumption | omega | (exact mem_le hv_laws_markInt64SS_mon_1_2) | (simp_all <;> omega))
   have y_2 : i_l1.toNat < r0_l2.length := by clear p; exact (by first | assumption | omega | (exact mem_le hv_laws_markInt64SS_mon_1_2) | (simp_all <;> omega))
   have y_3 : (r0_l2.getD i_l1.toNat default).length ≤ 1073741824 := by clear p; exact (by first | assumption | omega | (exact mem_le hv_laws_markInt64SS_mon_1_2) | (simp_all <;> omega))
   have y_4 : (-9223372036854775808 : Int) ≤ (i_l1 + 1) := by clear p; exact (by first | assumption | omega | (exact mem_le hv_laws_markInt64SS_mon_1_2) | (simp_all <;> omega))
   have y_5 : (i_l1 + 1) ≤ (9223372036854775807 : Int) := by clear p; exact (by first | assumption | omega | (exact mem_le hv_laws_markInt64SS_mon_1_2) | (simp_all <;> omega))
   have e : lo_laws_markInt64SS_mon_1 a_0 k_1 (k + 1) k_l0 i_l1 r0_l2 = (lo_laws_markInt64SS_mon_1 a_0 k_1 k ((v_laws_markInt64S_min (r0_l2.getD i_l1.toNat default) k_l0).1) (i_l1 + 1) (r0_l2.set i_l1.toNat ((v_laws_markInt64S_min (r0_l2.getD i_l1.toNat default) k_l0).2))) := by simp only [lo_laws_markInt64SS_mon_1, h_0, cond_true]
   rw [e]
   exact nextS (EpOk 1) hMixed [] mk_laws_markInt64SS_mon_1_0 [] (⟨[.own 0, .i .i64 ((v_laws_markInt64S_min (r0_l2.getD i_l1.toNat default) k_l0).1), .any, .any, .i .i64 0, .i .i64 (i_l1 + 1), .any, .any, .any, .any, .any, .any, .any, .any, .any, .any, .any, .any, .any], [.nest 52 ((r0_l2.map fun l => l.map (cI .i64)).set i_l1.toNat (((v_laws_markInt64S_min (r0_l2.getD i_l1.toNat default) k_l0).2).map (cI .i64))) false]⟩) (p (sB h_0 <| sC (nestix (c := (cI .i64)) (l := r0_l2) (i := i_l1) y_0 y_1) <| sC (nestlt (c := (cI .i64)) (l := r0_l2) y_2) <| sS (CallSt.frameInn (R := [.nest 52 (r0_l2.map fun l => l.map (cI .i64)) false]) (q := 0) (j := i_l1.toNat) (args := [.i .i64 k_l0]) (fun ty => t_laws_markInt64S_min ty (r0_l2.getD i_l1.toNat default) k_l0 y_3) rfl rfl (by simp) rfl (nestget_ok y_2)) <| sI (i_l1 + 1) y_4 y_5 <| sN)) (by kernel_rfl) (show _ = ⟨[.own 0, .i .i64 ((v_laws_markInt64S_min (r0_l2.getD i_l1.toNat default) k_l0).1), .any, .any, .i .i64 0, .i .i64 (i_l1 + 1), .any, .any, .any, .any, .any, .any, .any, .any, .any, .any, .any, .any, .any], [.nest 52 ((r0_l2.set i_l1.toNat ((v_laws_markInt64S_min (r0_l2.getD i_l1.toNat default) k_l0).2)).map fun l => l.map (cI .i64)) false]⟩ from (by simp [List.map_set, cL, cI])) (ih ((v_laws_markInt64S_min (r0_l2.getD i_l1.toNat default) k_l0).1) (i_l1 + 1) (r0_l2.set i_l1.toNat ((v_laws_markInt64S_min (r0_l2.getD i_l1.toNat default) k_l0).2)) (show 0 ≤ (i_l1 + 1) from (by first | assumption | omega | (simp; done) | (simp; assumption) | (simp; omega) | (intro t ht; rcases List.mem_or_eq_of_mem_set ht with h | h; (exact hv_laws_markInt64SS_mon_1_2 t h); (rw [h]; simp only [len_v_laws_markInt64S_min_1]; exact mem_le hv_laws_markInt64SS_mon_1_2)))) (show (r0_l2.set i_l1.toNat ((v_laws_markInt64S_min (r0_l2.getD i_l1.toNat default) k_l0).2)).length = a_0.length from (by first | assumption | omega | (simp; done) | (simp; assumption) | (simp; omega) | (intro t ht; rcases List.mem_or_eq_of_mem_set ht with h | h; (exact hv_laws_markInt64SS_mon_1_2 t h); (rw [h]; simp only [len_v_laws_markInt64S_min_1]; exact mem_le hv_laws_markInt64SS_mon_1_2)))) (show ∀ t ∈ (r0_l2.set i_l1.toNat ((v_laws_markInt64S_min (r0_l2.getD i_l1.toNat default) k_l0).2)), t.length ≤ 1073741824 from (by first | assumption | omega | (simp; done) | (simp; assumption) | (simp; omega) | (intro t ht; rcases List.mem_or_eq_of_mem_set ht with h | h; (exact hv_laws_markInt64SS_mon_1_2 t h); (rw [h]; simp only [len_v_laws_markInt64S_min_1]; exact mem_le hv_laws_markInt64SS_mon_1_2)))) (by first | assumption | omega | (exact mem_le hv_laws_markInt64SS_mon_1_2) | (simp_all <;> omega)))
  | false =>
   have gh_0 := of_decide_eq_false h_0
   have e : lo_laws_markInt64SS_mon_1 a_0 k_1 (k + 1) k_l0 i_l1 r0_l2 = (k_l0, r0_l2) := by simp only [lo_laws_markInt64SS_mon_1, h_0, cond_false]
   rw [e]
   exact outR (e := (.exit 0)) (EpOk 1) hMixed [] mk_laws_markInt64SS_mon_1_1 [] (p (sB h_0 <| sN)) (by kernel_rfl) (by intro h; cases h)

theorem ln_laws_markInt64SS_mon_1_1 (a_0 : (List (List Int))) (k_1 : Int) : ∀ (k : Nat) (k_l0 : Int) (i_l1 : Int) (r0_l2 : (List (List Int))) (hk : ((r0_l2.length : Int) - i_l1).toNat < k), (lo_laws_markInt64SS_mon_1 a_0 k_1 k k_l0 i_l1 r0_l2).2.length = r0_l2.length := by
  intro k
  induction k with
  | zero => intro k_l0 i_l1 r0_l2 hk; exact absurd hk (Nat.not_lt_zero _)
  | succ k ih =>
    intro k_l0 i_l1 r0_l2 hk
    cases h_0 : (decide (i_l1 < (r0_l2.length : Int))) with
    | true =>
      have e : lo_laws_markInt64SS_mon_1 a_0 k_1 (k + 1) k_l0 i_l1 r0_l2 = (lo_laws_markInt64SS_mon_1 a_0 k_1 k ((v_laws_markInt64S_min (r0_l2.getD i_l1.toNat default) k_l0).1) (i_l1 + 1) (r0_l2.set i_l1.toNat ((v_laws_markInt64S_min (r0_l2.getD i_l1.toNat default) k_l0).2))) := by simp only [lo_laws_markInt64SS_mon_1, h_0, cond_true]
      rw [e, ih ((v_laws_markInt64S_min (r0_l2.getD i_l1.toNat default) k_l0).1) (i_l1 + 1) (r0_l2.set i_l1.toNat ((v_laws_markInt64S_min (r0_l2.getD i_l1.toNat default) k_l0).2)) (by first | assumption | omega | (exact mem_le hv_laws_markInt64SS_mon_1_2) | (simp_all <;> omega))]; simp
    | false =>
      have e : lo_laws_markInt64SS_mon_1 a_0 k_1 (k + 1) k_l0 i_l1 r0_l2 = (k_l0, r0_l2) := by simp only [lo_laws_markInt64SS_mon_1, h_0, cond_false]
      first | (rw [e]; done) | (rw [e]; rfl)

def lr_laws_markInt64SS_mon_1_0 (a_0 : (List (List Int))) (k_1 : Int) : Int × (List (List Int)) := (lo_laws_markInt64SS_mon_1 a_0 k_1 (((a_0.length : Int) - 0).toNat + 1) k_1 0 a_0)

@[simp] theorem len_lr_laws_markInt64SS_mon_1_0_1 (a_0 : (List (List Int))) (k_1 : Int) : (lr_laws_markInt64SS_mon_1_0 a_0 k_1).2.length = (a_0 : (List (List Int))).length := ln_laws_markInt64SS_mon_1_1 a_0 k_1 (((a_0.length : Int) - 0).toNat + 1) k_1 0 a_0 (by first | exact Nat.lt_succ_self _ | simp)

def v_laws_markInt64SS_mon (a_0 : (List (List Int))) (k_1 : Int) : Int × (List (List Int)) := ((lr_laws_markInt64SS_mon_1_0 a_0 k_1).1, (lr_laws_markInt64SS_mon_1_0 a_0 k_1).2)

@[simp] theorem len_v_laws_markInt64SS_mon_1 (a_0 : (List (List Int))) (k_1 : Int) : (v_laws_markInt64SS_mon a_0 k_1).2.length = a_0.length := by
  first | (simp [v_laws_markInt64SS_mon]; done)

theorem t_laws_markInt64SS_mon (a_0 : (List (List Int))) (k_1 : Int) (hp0 : a_0.length ≤ 1073741824) (hp1 : ∀ t ∈ a_0, t.length ≤ 1073741824)  : CallSt prog 18 [.nest 52 (a_0.map fun l => l.map (cI .i64)) false] [.own 0, .i .i64 k_1] (.i .i64 ((v_laws_markInt64SS_mon a_0 k_1).1)) [.nest 52 (((v_laws_markInt64SS_mon a_0 k_1).2).map fun l => l.map (cI .i64)) false] := by
 refine callS (EpOk 1) hMixed (c := bodyOf f18) [.nest 52 (a_0.map fun l => l.map (cI .i64)) false] [] (.i .i64 ((lr_laws_markInt64SS_mon_1_0 a_0 k_1).1)) [.nest 52 (((lr_laws_markInt64SS_mon_1_0 a_0 k_1).2).map fun l => l.map (cI .i64)) false] func18 (sL mk_laws_markInt64SS_mon_1_0 1 (lp_val (ls_laws_markInt64SS_mon_1 a_0 k_1) (x := (lr_laws_markInt64SS_mon_1_0 a_0 k_1)) (lp_laws_markInt64SS_mon_1 a_0 k_1 hp0 hp1 (((a_0.length : Int) - 0).toNat + 1) k_1 0 a_0 (show 0 ≤ 0 from (by first | assumption | simp)) (show a_0.length = a_0.length from (by first | assumption | simp)) (show ∀ t ∈ a_0, t.length ≤ 1073741824 from (by first | assumption | simp)) (Nat.lt_succ_self _)) rfl) <| sK [] sN) rfl (by kernel_rfl) (by kernel_rfl) ?_ ?_
 · rfl
 · simp [v_laws_markInt64SS_mon]

theorem mkeq_Int64SS (a : List (List Int)) (c : Int) : v_laws_markInt64SS_mon a c = mkL v_laws_markInt64S_min a c := by
  unfold v_laws_markInt64SS_mon lr_laws_markInt64SS_mon_1_0
  rw [mark_loop (f := v_laws_markInt64S_min) (lo := lo_laws_markInt64SS_mon_1 a c) (fun k c i r => rfl) _ _ _ _ (Int.le_refl 0) (Nat.lt_succ_self _)]
  simp
theorem mlen_Int64SS_mon (a : List (List Int)) (c : Int) (N : Nat) (h : ∀ t ∈ a, t.length ≤ N) : ∀ t ∈ (v_laws_markInt64SS_mon a c).2, t.length ≤ N := by
  rw [mkeq_Int64SS]
  exact mkL_mem (p := fun t : List Int => t.length ≤ N) (fun x c hx => by rw [len_v_laws_markInt64S_min_1]; exact hx) a c h
theorem markge_Int64SS_mon (a : List (List Int)) (c : Int) (g0 : a.length ≤ 1073741824) (g1 : ∀ t ∈ a, t.length ≤ 1073741824) (h0 : 0 ≤ c) (h1 : c ≤ 3458764513820540928) : c ≤ (v_laws_markInt64SS_mon a c).1 ∧ (v_laws_markInt64SS_mon a c).1 ≤ c + 1152921504606846976 := by
  rw [mkeq_Int64SS]
  have hm : (a.length : Int) * 1073741824 ≤ 1152921504606846976 := by omega
  have q := mkL_ge_b (f := v_laws_markInt64S_min) (W := 1073741824) (M := 4611686018427387904) a c (fun x hx c k0 k1 => by have q := markge_Int64_min x c (g1 x hx) k0 (by omega); omega) h0 (by omega)
  omega

def v_laws_markMesh_mAooZn (a_0 : GMesh) (k_1 : Int) : Int × (List GVector) × (List (List Int)) := ((v_laws_markInt64SS_mon a_0.Triangles ((v_laws_markVectorS_mon a_0.Places k_1).1)).1, (v_laws_markVectorS_mon a_0.Places k_1).2, (v_laws_markInt64SS_mon a_0.Triangles ((v_laws_markVectorS_mon a_0.Places k_1).1)).2)

@[simp] theorem len_v_laws_markMesh_mAooZn_1 (a_0 : GMesh) (k_1 : Int) : (v_laws_markMesh_mAooZn a_0 k_1).2.1.length = a_0.Places.length := by
  first | (simp [v_laws_markMesh_mAooZn]; done)

@[simp] theorem len_v_laws_markMesh_mAooZn_2 (a_0 : GMesh) (k_1 : Int) : (v_laws_markMesh_mAooZn a_0 k_1).2.2.length = a_0.Triangles.length := by
  first | (simp [v_laws_markMesh_mAooZn]; done)

theorem t_laws_markMesh_mAooZn (a_0 : GMesh) (k_1 : Int) (hp0 : a_0.Places.length ≤ 1073741824) (hp1 : a_0.Triangles.length ≤ 1073741824) (hp2 : ∀ t ∈ a_0.Triangles, t.length ≤ 1073741824)  : CallSt prog 17 [.vec 67 3 (a_0.Places.map GVector.cells) false, .nest 52 (a_0.Triangles.map fun l => l.map (cI .i64)) false] [.agg [.own 0, .own 1], .i .i64 k_1] (.i .i64 ((v_laws_markMesh_mAooZn a_0 k_1).1)) [.vec 67 3 (((v_laws_markMesh_mAooZn a_0 k_1).2.1).map GVector.cells) false, .nest 52 (((v_laws_markMesh_mAooZn a_0 k_1).2.2).map fun l => l.map (cI .i64)) false] := by
 refine callS (EpOk 2) hMixed (c := bodyOf f17) [.vec 67 3 (a_0.Places.map GVector.cells) false, .nest 52 (a_0.Triangles.map fun l => l.map (cI .i64)) false] [] (.i .i64 ((v_laws_markInt64SS_mon a_0.Triangles ((v_laws_markVectorS_mon a_0.Places k_1).1)).1)) [.vec 67 3 (((v_laws_markVectorS_mon a_0.Places k_1).2).map GVector.cells) false, .nest 52 (((v_laws_markInt64SS_mon a_0.Triangles ((v_laws_markVectorS_mon a_0.Places k_1).1)).2).map fun l => l.map (cI .i64)) false] func17 (sS (CallSt.frame (t_laws_markVectorS_mon a_0.Places k_1 hp0) [0] (R := [.vec 67 3 (a_0.Places.map GVector.cells) false, .nest 52 (a_0.Triangles.map fun l => l.map (cI .i64)) false, .box 31 [.own 0, .own 1]]) (args' := [.own 0, .i .i64 k_1]) rfl rfl rfl rfl rfl rfl) <| sS (CallSt.frame (t_laws_markInt64SS_mon a_0.Triangles ((v_laws_markVectorS_mon a_0.Places k_1).1) hp1 hp2) [1] (R := [.vec 67 3 (((v_laws_markVectorS_mon a_0.Places k_1).2).map GVector.cells) false, .nest 52 (a_0.Triangles.map fun l => l.map (cI .i64)) false, .box 31 [.own 0, .own 1]]) (args' := [.own 1, .i .i64 ((v_laws_markVectorS_mon a_0.Places k_1).1)]) rfl rfl rfl rfl rfl rfl) <| sK [] sN) rfl (by kernel_rfl) (by kernel_rfl) ?_ ?_
 · rfl
 · simp [v_laws_markMesh_mAooZn]

theorem markge_Mesh_mAooZn (a : GMesh) (c : Int) (g0 : a.Places.length ≤ 1073741824) (g1 : a.Triangles.length ≤ 1073741824) (g2 : ∀ t ∈ a.Triangles, t.length ≤ 1073741824) (h0 : 0 ≤ c) (h1 : c ≤ 2305843009213693952) : c ≤ (v_laws_markMesh_mAooZn a c).1 ∧ (v_laws_markMesh_mAooZn a c).1 ≤ c + 1152921507828072448 := by
  unfold v_laws_markMesh_mAooZn
  have p0 := markge_Vector_mon a.Places c g0 (by omega) (by omega)
  have p1 := markge_Int64SS_mon a.Triangles ((v_laws_markVectorS_mon a.Places c).1) g1 g2 (by omega) (by omega)
  simp only
  omega

theorem mlen_Mesh_mAooZn (a : GMesh) (c : Int) (N : Nat) (h : ∀ t ∈ a.Triangles, t.length ≤ N) : ∀ t ∈ (v_laws_markMesh_mAooZn a c).2.2, t.length ≤ N := by
  unfold v_laws_markMesh_mAooZn
  exact mlen_Int64SS_mon _ _ N h

def lo_laws_markInt64S_mon_1 (a_0 : (List Int)) (k_1 : Int) : Nat → Int → Int → (List Int) → Int × (List Int)
  | 0, _, _, _ => default
  | k + 1, k_l0, i_l1, r0_l2 => (cond (decide (i_l1 < (r0_l2.length : Int)))
    (lo_laws_markInt64S_mon_1 a_0 k_1 k (IntKind.wrap .i64 (k_l0 + 1)) (i_l1 + 1) (r0_l2.set i_l1.toNat k_l0))
    (k_l0, r0_l2))

def ls_laws_markInt64S_mon_1 (a_0 : (List Int)) (k_1 : Int) (r : Int × (List Int)) : Ex × St := ((.exit 0), ⟨[.any, .i .i64 r.1, .any, .any, .i .i64 0, .any, .any, .any, .any, .any, .any, .any, .any, .any, .any, .any, .any, .any, .any], [.vec 2 1 (r.2.map (cI .i64)) false]⟩)

def hd_laws_markInt64S_mon_1 (a_0 : (List Int)) (k_1 : Int) (k_l0 : Int) (i_l1 : Int) (r0_l2 : (List Int)) : St := ⟨[.own 0, .i .i64 k_l0, .any, .any, .i .i64 0, .i .i64 i_l1, .any, .any, .any, .any, .any, .any, .any, .any, .any, .any, .any, .any, .any], [.vec 2 1 (r0_l2.map (cI .i64)) false]⟩

def mk_laws_markInt64S_mon_1_0 : List Bool := [true, true, false, false, true, true, false, false, false, false, false, false, false, false, false, false, false, false, false]

def mk_laws_markInt64S_mon_1_1 : List Bool := [false, true, false, false, true, false, false, false, false, false, false, false, false, false, false, false, false, false, false]

theorem lp_laws_markInt64S_mon_1 (a_0 : (List Int)) (k_1 : Int) (hp0 : a_0.length ≤ 1073741824) : ∀ (k : Nat) (k_l0 : Int) (i_l1 : Int) (r0_l2 : (List Int)) (hv_laws_markInt64S_mon_1_0 : 0 ≤ i_l1) (hv_laws_markInt64S_mon_1_1 : r0_l2.length = a_0.length) (hk : ((a_0.length : Int) - i_l1).toNat < k), Lp prog 1 (sub (bodyOf f36) [1, 0, 1, 0, 0]) (hd_laws_markInt64S_mon_1 a_0 k_1 k_l0 i_l1 r0_l2) (ls_laws_markInt64S_mon_1 a_0 k_1 (lo_laws_markInt64S_mon_1 a_0 k_1 k k_l0 i_l1 r0_l2)).1 (ls_laws_markInt64S_mon_1 a_0 k_1 (lo_laws_markInt64S_mon_1 a_0 k_1 k k_l0 i_l1 r0_l2)).2 := by
 intro k
 induction k with
 | zero => intro k_l0 i_l1 r0_l2 hv_laws_markInt64S_mon_1_0 hv_laws_markInt64S_mon_1_1 hk; exact absurd hk (Nat.not_lt_zero _)
 | succ k ih =>
  intro k_l0 i_l1 r0_l2 hv_laws_markInt64S_mon_1_0 hv_laws_markInt64S_mon_1_1 hk
  have p {a C} (s : Scr a C) := sZ (cI .i64) r0_l2 <| s
  cases h_0 : (decide (i_l1 < (r0_l2.length : Int))) with
  | true =>
   have gh_0 := of_decide_eq_true h_0
   have y_0 : (0 : Int) ≤ i_l1 := by clear p; exact (by first | assumption | omega | (simp_all <;> omega))
   have y_1 : i_l1 < (r0_l2.length : Int) := by clear p; exact (by first | assumption | omega | (simp_all <;> omega))
   have y_2 : i_l1.toNat < r0_l2.length := by clear p; exact (by first | assumption | omega | (simp_all <;> omega))
   have y_3 : (-9223372036854775808 : Int) ≤ (i_l1 + 1) := by clear p; exact (by first | assumption | omega | (simp_all <;> omega))
   have y_4 : (i_l1 + 1) ≤ (9223372036854775807 : Int) := by clear p; exact (by first | assumption | omega | (simp_all <;> omega))
   have e : lo_laws_markInt64S_mon_1 a_0 k_1 (k + 1) k_l0 i_l1 r0_l2 = (lo_laws_markInt64S_mon_1 a_0 k_1 k (IntKind.wrap .i64 (k_l0 + 1)) (i_l1 + 1) (r0_l2.set i_l1.toNat k_l0)) := by simp only [lo_laws_markInt64S_mon_1, h_0, cond_true]
   rw [e]
   exact nextS (EpOk 1) hMixed [] mk_laws_markInt64S_mon_1_0 [] (⟨[.own 0, .i .i64 (IntKind.wrap .i64 (k_l0 + 1)), .any, .any, .i .i64 0, .i .i64 (i_l1 + 1), .any, .any, .any, .any, .any, .any, .any, .any, .any, .any, .any, .any, .any], [.vec 2 1 ((r0_l2.map (cI .i64)).set i_l1.toNat [.i .i64 k_l0]) false]⟩) (p (sB h_0 <| sX (cI .i64) r0_l2 i_l1 y_0 y_1 <| sC (maplt (c := (cI .i64)) (l := r0_l2) y_2) <| sW .i64 (k_l0 + 1) <| sI (i_l1 + 1) y_3 y_4 <| sN)) (by kernel_rfl) (show _ = ⟨[.own 0, .i .i64 (IntKind.wrap .i64 (k_l0 + 1)), .any, .any, .i .i64 0, .i .i64 (i_l1 + 1), .any, .any, .any, .any, .any, .any, .any, .any, .any, .any, .any, .any, .any], [.vec 2 1 ((r0_l2.set i_l1.toNat k_l0).map (cI .i64)) false]⟩ from (by simp [List.map_set, cI])) (ih (IntKind.wrap .i64 (k_l0 + 1)) (i_l1 + 1) (r0_l2.set i_l1.toNat k_l0) (show 0 ≤ (i_l1 + 1) from (by first | assumption | omega | (simp_all <;> omega))) (show (r0_l2.set i_l1.toNat k_l0).length = a_0.length from (by first | assumption | omega | (simp_all <;> omega))) (by first | assumption | omega | (simp_all <;> omega)))
  | false =>
   have gh_0 := of_decide_eq_false h_0
   have e : lo_laws_markInt64S_mon_1 a_0 k_1 (k + 1) k_l0 i_l1 r0_l2 = (k_l0, r0_l2) := by simp only [lo_laws_markInt64S_mon_1, h_0, cond_false]
   rw [e]
   exact outR (e := (.exit 0)) (EpOk 1) hMixed [] mk_laws_markInt64S_mon_1_1 [] (p (sB h_0 <| sN)) (by kernel_rfl) (by intro h; cases h)

theorem ln_laws_markInt64S_mon_1_1 (a_0 : (List Int)) (k_1 : Int) : ∀ (k : Nat) (k_l0 : Int) (i_l1 : Int) (r0_l2 : (List Int)) (hk : ((r0_l2.length : Int) - i_l1).toNat < k), (lo_laws_markInt64S_mon_1 a_0 k_1 k k_l0 i_l1 r0_l2).2.length = r0_l2.length := by
  intro k
  induction k with
  | zero => intro k_l0 i_l1 r0_l2 hk; exact absurd hk (Nat.not_lt_zero _)
  | succ k ih =>
    intro k_l0 i_l1 r0_l2 hk
    cases h_0 : (decide (i_l1 < (r0_l2.length : Int))) with
    | true =>
      have e : lo_laws_markInt64S_mon_1 a_0 k_1 (k + 1) k_l0 i_l1 r0_l2 = (lo_laws_markInt64S_mon_1 a_0 k_1 k (IntKind.wrap .i64 (k_l0 + 1)) (i_l1 + 1) (r0_l2.set i_l1.toNat k_l0)) := by simp only [lo_laws_markInt64S_mon_1, h_0, cond_true]
      rw [e, ih (IntKind.wrap .i64 (k_l0 + 1)) (i_l1 + 1) (r0_l2.set i_l1.toNat k_l0) (by first | assumption | omega | (simp_all <;> omega))]; simp
    | false =>
      have e : lo_laws_markInt64S_mon_1 a_0 k_1 (k + 1) k_l0 i_l1 r0_l2 = (k_l0, r0_l2) := by simp only [lo_laws_markInt64S_mon_1, h_0, cond_false]
      first | (rw [e]; done) | (rw [e]; rfl)

def lr_laws_markInt64S_mon_1_0 (a_0 : (List Int)) (k_1 : Int) : Int × (List Int) := (lo_laws_markInt64S_mon_1 a_0 k_1 (((a_0.length : Int) - 0).toNat + 1) k_1 0 a_0)

@[simp] theorem len_lr_laws_markInt64S_mon_1_0_1 (a_0 : (List Int)) (k_1 : Int) : (lr_laws_markInt64S_mon_1_0 a_0 k_1).2.length = (a_0 : (List Int)).length := ln_laws_markInt64S_mon_1_1 a_0 k_1 (((a_0.length : Int) - 0).toNat + 1) k_1 0 a_0 (by first | exact Nat.lt_succ_self _ | simp)

def v_laws_markInt64S_mon (a_0 : (List Int)) (k_1 : Int) : Int × (List Int) := ((lr_laws_markInt64S_mon_1_0 a_0 k_1).1, (lr_laws_markInt64S_mon_1_0 a_0 k_1).2)

@[simp] theorem len_v_laws_markInt64S_mon_1 (a_0 : (List Int)) (k_1 : Int) : (v_laws_markInt64S_mon a_0 k_1).2.length = a_0.length := by
  first | (simp [v_laws_markInt64S_mon]; done)

theorem t_laws_markInt64S_mon (a_0 : (List Int)) (k_1 : Int) (hp0 : a_0.length ≤ 1073741824)  : CallSt prog 36 [.vec 2 1 (a_0.map (cI .i64)) false] [.own 0, .i .i64 k_1] (.i .i64 ((v_laws_markInt64S_mon a_0 k_1).1)) [.vec 2 1 (((v_laws_markInt64S_mon a_0 k_1).2).map (cI .i64)) false] := by
 refine callS (EpOk 1) hMixed (c := bodyOf f36) [.vec 2 1 (a_0.map (cI .i64)) false] [] (.i .i64 ((lr_laws_markInt64S_mon_1_0 a_0 k_1).1)) [.vec 2 1 (((lr_laws_markInt64S_mon_1_0 a_0 k_1).2).map (cI .i64)) false] func36 (sL mk_laws_markInt64S_mon_1_0 1 (lp_val (ls_laws_markInt64S_mon_1 a_0 k_1) (x := (lr_laws_markInt64S_mon_1_0 a_0 k_1)) (lp_laws_markInt64S_mon_1 a_0 k_1 hp0 (((a_0.length : Int) - 0).toNat + 1) k_1 0 a_0 (show 0 ≤ 0 from (by first | assumption | omega | (simp_all <;> omega))) (show a_0.length = a_0.length from (by simp)) (Nat.lt_succ_self _)) rfl) <| sK [] sN) rfl (by kernel_rfl) (by kernel_rfl) ?_ ?_
 · rfl
 · simp [v_laws_markInt64S_mon]

def mk_Int64_mon (_ : Int) (c : Int) : Int × Int := ((IntKind.wrap .i64 (c + 1)), c)
theorem mkeq_Int64_mon (a : List Int) (c : Int) : v_laws_markInt64S_mon a c = mkL mk_Int64_mon a c := by
  unfold v_laws_markInt64S_mon lr_laws_markInt64S_mon_1_0
  rw [mark_loop (f := mk_Int64_mon) (lo := lo_laws_markInt64S_mon_1 a c) (fun k c i r => rfl) _ _ _ _ (Int.le_refl 0) (Nat.lt_succ_self _)]
  simp
theorem markge_Int64_mon (a : List Int) (c : Int) (g0 : a.length ≤ 1073741824) (h0 : 0 ≤ c) (h1 : c ≤ 4611686018427387904) : c ≤ (v_laws_markInt64S_mon a c).1 ∧ (v_laws_markInt64S_mon a c).1 ≤ c + 1073741824 := by
  rw [mkeq_Int64_mon]
  have q := mkL_ge (f := mk_Int64_mon) (W := 1) a c (fun x _ c k0 k1 => by simp only [mk_Int64_mon]; rw [wrap_id (n := c + 1) (by omega) (by omega)]; omega) h0 (by omega)
  omega

def lo_laws_heldInt64S_1 (a_0 : (List Int)) (k_1 : Int) : Nat → Int → Int → (Unit) ⊕ (Int)
  | 0, _, _ => .inl default
  | k + 1, k_l0, i_l1 => (cond (decide (i_l1 < (a_0.length : Int)))
    (cond ((a_0.getD i_l1.toNat default) != k_l0)
      (.inl ())
      (lo_laws_heldInt64S_1 a_0 k_1 k (IntKind.wrap .i64 (k_l0 + 1)) (i_l1 + 1)))
    (.inr k_l0))

def ls_laws_heldInt64S_1 (a_0 : (List Int)) (k_1 : Int) : (Unit) ⊕ (Int) → Ex × St
  | .inl r => (.ret, ⟨[.any, .any, .any, .any, .i .i64 (-1), .any, .any, .any, .any, .any, .any, .any, .any, .any, .any, .any, .any, .any, .any, .any, .any], []⟩)
  | .inr r => ((.exit 0), ⟨[.any, .i .i64 r, .any, .any, .any, .any, .any, .any, .any, .any, .any, .any, .any, .any, .any, .any, .any, .any, .any, .any, .any], []⟩)

def hd_laws_heldInt64S_1 (a_0 : (List Int)) (k_1 : Int) (k_l0 : Int) (i_l1 : Int) : St := ⟨[.sl (a_0.map (cI .i64)), .i .i64 k_l0, .any, .any, .any, .i .i64 i_l1, .any, .any, .any, .any, .any, .any, .any, .any, .any, .any, .any, .any, .any, .any, .any], []⟩

def mk_laws_heldInt64S_1_0 : List Bool := [true, true, false, false, false, true, false, false, false, false, false, false, false, false, false, false, false, false, false, false, false]

def mk_laws_heldInt64S_1_1 : List Bool := [false, false, false, false, true, false, false, false, false, false, false, false, false, false, false, false, false, false, false, false, false]

def mk_laws_heldInt64S_1_2 : List Bool := [false, true, false, false, false, false, false, false, false, false, false, false, false, false, false, false, false, false, false, false, false]

theorem lp_laws_heldInt64S_1 (a_0 : (List Int)) (k_1 : Int) (hp0 : a_0.length ≤ 1073741824) : ∀ (k : Nat) (k_l0 : Int) (i_l1 : Int) (hv_laws_heldInt64S_1_0 : 0 ≤ i_l1) (hk : ((a_0.length : Int) - i_l1).toNat < k), Lp prog 0 (sub (bodyOf f37) [1, 0, 1, 0, 0]) (hd_laws_heldInt64S_1 a_0 k_1 k_l0 i_l1) (ls_laws_heldInt64S_1 a_0 k_1 (lo_laws_heldInt64S_1 a_0 k_1 k k_l0 i_l1)).1 (ls_laws_heldInt64S_1 a_0 k_1 (lo_laws_heldInt64S_1 a_0 k_1 k k_l0 i_l1)).2 := by
 intro k
 induction k with
 | zero => intro k_l0 i_l1 hv_laws_heldInt64S_1_0 hk; exact absurd hk (Nat.not_lt_zero _)
 | succ k ih =>
  intro k_l0 i_l1 hv_laws_heldInt64S_1_0 hk
  have p {a C} (s : Scr a C) := sZ (cI .i64) a_0 <| s
  cases h_0 : (decide (i_l1 < (a_0.length : Int))) with
  | true =>
   have gh_0 := of_decide_eq_true h_0
   have y_0 : (0 : Int) ≤ i_l1 := by clear p; exact (by first | assumption | omega | (simp_all <;> omega))
   have y_1 : i_l1 < (a_0.length : Int) := by clear p; exact (by first | assumption | omega | (simp_all <;> omega))
   have q {a C} (s : Scr a C) := p (sB h_0 <| sG (cI .i64) a_0 i_l1 y_0 y_1 <| s)
   clear p
   cases h_1 : ((a_0.getD i_l1.toNat default) != k_l0) with
   | true =>
    have gh_1 := bne_iff_ne.1 h_1
    have e : lo_laws_heldInt64S_1 a_0 k_1 (k + 1) k_l0 i_l1 = (.inl ()) := by simp only [lo_laws_heldInt64S_1, h_0, h_1, cond_true]
    rw [e]
    exact outR (e := .ret) E0Ok hMixed [] mk_laws_heldInt64S_1_1 [] (q (sB h_1 <| sN)) (by kernel_rfl) (by intro h; cases h)
   | false =>
    have gh_1 := bne_eq_false_iff_eq.1 h_1
    have y_2 : (-9223372036854775808 : Int) ≤ (i_l1 + 1) := by clear q; exact (by first | assumption | omega | (simp_all <;> omega))
    have y_3 : (i_l1 + 1) ≤ (9223372036854775807 : Int) := by clear q; exact (by first | assumption | omega | (simp_all <;> omega))
    have e : lo_laws_heldInt64S_1 a_0 k_1 (k + 1) k_l0 i_l1 = (lo_laws_heldInt64S_1 a_0 k_1 k (IntKind.wrap .i64 (k_l0 + 1)) (i_l1 + 1)) := by simp only [lo_laws_heldInt64S_1, h_0, h_1, cond_true, cond_false]
    rw [e]
    exact nextR E0Ok hMixed [] mk_laws_heldInt64S_1_0 [] (ih (IntKind.wrap .i64 (k_l0 + 1)) (i_l1 + 1) (show 0 ≤ (i_l1 + 1) from (by first | assumption | omega | (simp_all <;> omega))) (by first | assumption | omega | (simp_all <;> omega))) (q (sB h_1 <| sW .i64 (k_l0 + 1) <| sI (i_l1 + 1) y_2 y_3 <| sN)) (by kernel_rfl)
  | false =>
   have gh_0 := of_decide_eq_false h_0
   have e : lo_laws_heldInt64S_1 a_0 k_1 (k + 1) k_l0 i_l1 = (.inr k_l0) := by simp only [lo_laws_heldInt64S_1, h_0, cond_false]
   rw [e]
   exact outR (e := (.exit 0)) E0Ok hMixed [] mk_laws_heldInt64S_1_2 [] (p (sB h_0 <| sN)) (by kernel_rfl) (by intro h; cases h)

def lr_laws_heldInt64S_1_0 (a_0 : (List Int)) (k_1 : Int) : (Unit) ⊕ (Int) := (lo_laws_heldInt64S_1 a_0 k_1 (((a_0.length : Int) - 0).toNat + 1) k_1 0)

def v_laws_heldInt64S (a_0 : (List Int)) (k_1 : Int) : Int := (match (lr_laws_heldInt64S_1_0 a_0 k_1) with
  | .inl r1 => (-1)
  | .inr r1 => r1)

theorem t_laws_heldInt64S (a_0 : (List Int)) (k_1 : Int) (hp0 : a_0.length ≤ 1073741824)  : Fn prog 37 [.sl (a_0.map (cI .i64)), .i .i64 k_1] (.i .i64 (v_laws_heldInt64S a_0 k_1)) [] := by
 cases h0 : (lr_laws_heldInt64S_1_0 a_0 k_1) with
 | inl r1 =>
  refine fnS E0Ok hMixed (c := bodyOf f37) [] (.i .i64 (-1)) [] func37 (sL mk_laws_heldInt64S_1_0 0 (lp_val (ls_laws_heldInt64S_1 a_0 k_1) (x := (lr_laws_heldInt64S_1_0 a_0 k_1)) (lp_laws_heldInt64S_1 a_0 k_1 hp0 (((a_0.length : Int) - 0).toNat + 1) k_1 0 (show 0 ≤ 0 from (by first | assumption | omega | (simp_all <;> omega))) (Nat.lt_succ_self _)) h0) <| sK [] sN) rfl (by kernel_rfl) (by kernel_rfl) rfl ?_ ?_
  · simp only [v_laws_heldInt64S, h0]
  · rfl
 | inr r1 =>
  refine fnS E0Ok hMixed (c := bodyOf f37) [] (.i .i64 r1) [] func37 (sL mk_laws_heldInt64S_1_0 0 (lp_val (ls_laws_heldInt64S_1 a_0 k_1) (x := (lr_laws_heldInt64S_1_0 a_0 k_1)) (lp_laws_heldInt64S_1 a_0 k_1 hp0 (((a_0.length : Int) - 0).toNat + 1) k_1 0 (show 0 ≤ 0 from (by first | assumption | omega | (simp_all <;> omega))) (Nat.lt_succ_self _)) h0) <| sK [] sN) rfl (by kernel_rfl) (by kernel_rfl) rfl ?_ ?_
  · simp only [v_laws_heldInt64S, h0]
  · rfl

def hp_Int64 (x : Int) (c : Int) : Bool := (!(x != c))
def hq_Int64 (_ : Int) (c : Int) : Int := (IntKind.wrap .i64 (c + 1))
theorem hdeq_Int64 (a : List Int) (c : Int) : v_laws_heldInt64S a c = match hdL hp_Int64 hq_Int64 a c with
    | some c' => c'
    | none => -1 := by
  unfold v_laws_heldInt64S lr_laws_heldInt64S_1_0
  rw [held_loop (p := hp_Int64) (q := hq_Int64) (a := a) (x := ()) (lo := lo_laws_heldInt64S_1 a c) (fun k c i => by
    rw [lo_laws_heldInt64S_1]
    unfold hp_Int64 hq_Int64
    generalize a.getD i.toNat default = x
    cases decide (i < (a.length : Int)) <;> cases (x != c) <;> rfl) _ _ _ (Int.le_refl 0) (Nat.lt_succ_self _)]
  simp only [Int.toNat_zero, List.drop_zero]
  cases hdL hp_Int64 hq_Int64 a c <;> rfl

def v_laws_FnExactNeighboursOf (aM_0 : GMesh) (aPlace_1 : Int) : Bool := (cond (decide ((v_laws_szMesh aM_0 1048576) < 0))
  true
  (cond (v_laws_eqInt64S ((v_impl_NeighboursOf aM_0 aPlace_1).1) ((v_spec_NeighboursOf aM_0 aPlace_1).1))
    (cond ((v_impl_NeighboursOf aM_0 aPlace_1).2 == (v_spec_NeighboursOf aM_0 aPlace_1).2)
      (cond (v_laws_eqMesh aM_0 aM_0)
        (cond (decide ((v_laws_markMesh_mAooZn aM_0 1).1 < 0))
          false
          (cond (decide ((v_laws_heldInt64S ((v_laws_markInt64S_mon ((v_impl_NeighboursOf aM_0 aPlace_1).1) 1).2) 1) < 0))
            false
            (cond ((v_laws_heldInt64S ((v_laws_markInt64S_mon ((v_impl_NeighboursOf aM_0 aPlace_1).1) 1).2) 1) != (v_laws_markInt64S_mon ((v_impl_NeighboursOf aM_0 aPlace_1).1) 1).1)
              false
              true)))
        false)
      false)
    false))

set_option maxHeartbeats 1000000 in
theorem t_laws_FnExactNeighboursOf (aM_0 : GMesh) (aPlace_1 : Int) (hp0 : aM_0.Places.length ≤ 9223372036854775807) (hp1 : aM_0.Triangles.length ≤ 9223372036854775807) (hp2 : ∀ t ∈ aM_0.Triangles, t.length ≤ 9223372036854775807)  : Fn prog 7 [.agg [.sl (aM_0.Places.map GVector.cells), .sl (aM_0.Triangles.map (cL (cI .i64)))], .i .i64 aPlace_1] (.b (v_laws_FnExactNeighboursOf aM_0 aPlace_1)) [] := by
 have z0 := (ok_laws_szMesh aM_0 1048576 (by omega) (by omega) (by assumption) (by omega) (by omega))
 have p {a C} (s : Scr a C) := sF (t_laws_szMesh aM_0 1048576 hp0 hp1 hp2) <| s
 cases h0 : (decide ((v_laws_szMesh aM_0 1048576) < 0)) with
 | true =>
  have gh0 := of_decide_eq_true h0
  refine fnS E0Ok hMixed (c := bodyOf f7) [] (.b true) [] func7 (p (sB h0 <| sK [] sN)) rfl (by kernel_rfl) (by kernel_rfl) rfl ?_ ?_
  · simp only [v_laws_FnExactNeighboursOf, h0, cond_true]
  · rfl
 | false =>
  have gh0 := of_decide_eq_false h0
  have y0 : aM_0.Places.length ≤ 1073741824 := by clear p; exact (by first | assumption | omega | (simp_all <;> omega))
  have y1 : aM_0.Triangles.length ≤ 1073741824 := by clear p; exact (by first | assumption | omega | (simp_all <;> omega))
  have y2 : ∀ t ∈ aM_0.Triangles, t.length ≤ 1073741824 := by clear p; exact (by first | assumption | (intro t ht; first | (have q := z0.2.2.2.2 t ht; omega)) | omega | (simp_all <;> omega))
  have l1 := (le_spec_NeighboursOf aM_0 aPlace_1)
  have l2 := (le_impl_NeighboursOf aM_0 aPlace_1)
  have y3 : ((v_impl_NeighboursOf aM_0 aPlace_1).1).length ≤ 1073741824 := by clear p; exact (by first | assumption | omega | (simp_all <;> omega))
  have y4 : ((v_spec_NeighboursOf aM_0 aPlace_1).1).length ≤ 1073741824 := by clear p; exact (by first | assumption | omega | (simp_all <;> omega))
  have q {a C} (s : Scr a C) := p (sB h0 <| sF (i_laws_toMesh aM_0 y0 y1 y2) <| sF (Fn.castA (args' := [.agg [.sl (aM_0.Places.map GVector.cells), .sl ((aM_0.Triangles.map fun l => l.map (cI .i64)).map fun l => [.sl l])], .i .i64 aPlace_1]) (t_spec_NeighboursOf aM_0 aPlace_1 y0 y1 y2) (by first | (simp [cL, Function.comp_def]; done) | (simp [cL, Function.comp_def]; rfl))) <| sF (i_laws_toMesh aM_0 y0 y1 y2) <| sF (Fn.castA (args' := [.agg [.sl (aM_0.Places.map GVector.cells), .sl ((aM_0.Triangles.map fun l => l.map (cI .i64)).map fun l => [.sl l])], .i .i64 aPlace_1]) (t_impl_NeighboursOf aM_0 aPlace_1 y0 y1 y2) (by first | (simp [cL, Function.comp_def]; done) | (simp [cL, Function.comp_def]; rfl))) <| sF (t_laws_eqInt64S ((v_impl_NeighboursOf aM_0 aPlace_1).1) ((v_spec_NeighboursOf aM_0 aPlace_1).1) y3 y4) <| s)
  clear p
  cases h1 : (v_laws_eqInt64S ((v_impl_NeighboursOf aM_0 aPlace_1).1) ((v_spec_NeighboursOf aM_0 aPlace_1).1)) with
  | true =>
   have p {a C} (s : Scr a C) := q (sB' h1 <| sB' h1 <| sB' h1 <| sB' h1 <| s)
   clear q
   cases h2 : ((v_impl_NeighboursOf aM_0 aPlace_1).2 == (v_spec_NeighboursOf aM_0 aPlace_1).2) with
   | true =>
    have gh2 := eq_of_beq h2
    have q {a C} (s : Scr a C) := p (sB' h2 <| sK [3, 3] <| sF (i_laws_toMesh aM_0 y0 y1 y2) <| sF (Fn.castA (args' := [.agg [.sl (aM_0.Places.map GVector.cells), .sl ((aM_0.Triangles.map fun l => l.map (cI .i64)).map fun l => [.sl l])], .agg [.sl (aM_0.Places.map GVector.cells), .sl ((aM_0.Triangles.map fun l => l.map (cI .i64)).map fun l => [.sl l])]]) (t_laws_eqMesh aM_0 aM_0 y0 y1 y2 y0 y1 y2) (by first | (simp [cL, Function.comp_def]; done) | (simp [cL, Function.comp_def]; rfl))) <| s)
    clear p
    cases h3 : (v_laws_eqMesh aM_0 aM_0) with
    | true =>
     have p {a C} (s : Scr a C) := q (sB' h3 <| sS (CallSt.frame (t_laws_markMesh_mAooZn aM_0 1 y0 y1 y2) [4, 5] (R := [.box 25 [.sl (aM_0.Places.map GVector.cells), .sl (aM_0.Triangles.map (cL (cI .i64)))], .vec 67 3 (aM_0.Places.map GVector.cells) false, .nest 52 (aM_0.Triangles.map fun l => l.map (cI .i64)) false, .vec 2 1 (((v_spec_NeighboursOf aM_0 aPlace_1).1).map (cI .i64)) false, .vec 67 3 (aM_0.Places.map GVector.cells) false, .nest 52 (aM_0.Triangles.map fun l => l.map (cI .i64)) false, .box 31 [.own 4, .own 5], .vec 2 1 (((v_impl_NeighboursOf aM_0 aPlace_1).1).map (cI .i64)) false, .vec 67 3 (aM_0.Places.map GVector.cells) false, .nest 52 (aM_0.Triangles.map fun l => l.map (cI .i64)) false]) (args' := [.agg [.own 4, .own 5], .i .i64 1]) rfl rfl rfl rfl rfl rfl) <| s)
     clear q
     cases h4 : (decide ((v_laws_markMesh_mAooZn aM_0 1).1 < 0)) with
     | true =>
      have gh4 := of_decide_eq_true h4
      refine fnS E0Ok hMixed (c := bodyOf f7) [] (.b false) [] func7 (p (sB h4 <| sB h4 <| sB h4 <| sB h4 <| sB h4 <| sB (show true = true from rfl) <| sB (show true = true from rfl) <| sB (show true = true from rfl) <| sB (show true = true from rfl) <| sB (show true = true from rfl) <| sK [] sN)) rfl (by kernel_rfl) (by kernel_rfl) rfl ?_ ?_
      · simp only [v_laws_FnExactNeighboursOf, h0, h1, h2, h3, h4, cond_true, cond_false]
      · rfl
     | false =>
      have gh4 := of_decide_eq_false h4
      have y5 : ((v_laws_markInt64S_mon ((v_impl_NeighboursOf aM_0 aPlace_1).1) 1).2).length ≤ 1073741824 := by clear p; exact (by first | assumption | omega | (simp_all <;> omega))
      have q {a C} (s : Scr a C) := p (sB h4 <| sB h4 <| sB h4 <| sF (t_laws_eqInt64S ((v_impl_NeighboursOf aM_0 aPlace_1).1) ((v_spec_NeighboursOf aM_0 aPlace_1).1) y3 y4) <| sB h4 <| sB h4 <| sB' h1 <| sB' h1 <| sB' h1 <| sB' h1 <| sB' h2 <| sS (CallSt.frame (t_laws_markInt64S_mon ((v_impl_NeighboursOf aM_0 aPlace_1).1) 1 y3) [7] (R := [.box 25 [.sl (aM_0.Places.map GVector.cells), .sl (aM_0.Triangles.map (cL (cI .i64)))], .vec 67 3 (aM_0.Places.map GVector.cells) false, .nest 52 (aM_0.Triangles.map fun l => l.map (cI .i64)) false, .vec 2 1 (((v_spec_NeighboursOf aM_0 aPlace_1).1).map (cI .i64)) false, .vec 67 3 (((v_laws_markMesh_mAooZn aM_0 1).2.1).map GVector.cells) false, .nest 52 (((v_laws_markMesh_mAooZn aM_0 1).2.2).map fun l => l.map (cI .i64)) false, .box 31 [.own 4, .own 5], .vec 2 1 (((v_impl_NeighboursOf aM_0 aPlace_1).1).map (cI .i64)) false, .vec 67 3 (aM_0.Places.map GVector.cells) false, .nest 52 (aM_0.Triangles.map fun l => l.map (cI .i64)) false]) (args' := [.own 7, .i .i64 1]) rfl rfl rfl rfl rfl rfl) <| sF (t_laws_heldInt64S ((v_laws_markInt64S_mon ((v_impl_NeighboursOf aM_0 aPlace_1).1) 1).2) 1 y5) <| s)
      clear p
      cases h5 : (decide ((v_laws_heldInt64S ((v_laws_markInt64S_mon ((v_impl_NeighboursOf aM_0 aPlace_1).1) 1).2) 1) < 0)) with
      | true =>
       have gh5 := of_decide_eq_true h5
       refine fnS E0Ok hMixed (c := bodyOf f7) [] (.b false) [] func7 (q (sB h5 <| sK [] sN)) rfl (by kernel_rfl) (by kernel_rfl) rfl ?_ ?_
       · simp only [v_laws_FnExactNeighboursOf, h0, h1, h2, h3, h4, h5, cond_true, cond_false]
       · rfl
      | false =>
       have gh5 := of_decide_eq_false h5
       have p {a C} (s : Scr a C) := q (sB h5 <| s)
       clear q
       cases h6 : ((v_laws_heldInt64S ((v_laws_markInt64S_mon ((v_impl_NeighboursOf aM_0 aPlace_1).1) 1).2) 1) != (v_laws_markInt64S_mon ((v_impl_NeighboursOf aM_0 aPlace_1).1) 1).1) with
       | true =>
        have gh6 := bne_iff_ne.1 h6
        refine fnS E0Ok hMixed (c := bodyOf f7) [] (.b false) [] func7 (p (sB h6 <| sK [] sN)) rfl (by kernel_rfl) (by kernel_rfl) rfl ?_ ?_
        · simp only [v_laws_FnExactNeighboursOf, h0, h1, h2, h3, h4, h5, h6, cond_true, cond_false]
        · rfl
       | false =>
        have gh6 := bne_eq_false_iff_eq.1 h6
        refine fnS E0Ok hMixed (c := bodyOf f7) [] (.b true) [] func7 (p (sB h6 <| sF (i_laws_toMesh aM_0 y0 y1 y2) <| sF (Fn.castA (args' := [.agg [.sl (aM_0.Places.map GVector.cells), .sl ((aM_0.Triangles.map fun l => l.map (cI .i64)).map fun l => [.sl l])], .i .i64 aPlace_1]) (t_impl_NeighboursOf aM_0 aPlace_1 y0 y1 y2) (by first | (simp [cL, Function.comp_def]; done) | (simp [cL, Function.comp_def]; rfl))) <| sF (t_laws_eqInt64S ((v_impl_NeighboursOf aM_0 aPlace_1).1) ((v_spec_NeighboursOf aM_0 aPlace_1).1) y3 y4) <| sB' h1 <| sB' h1 <| sB' h1 <| sB' h1 <| sB' h2 <| sF (t_laws_heldInt64S ((v_laws_markInt64S_mon ((v_impl_NeighboursOf aM_0 aPlace_1).1) 1).2) 1 y5) <| sB h5 <| sB h6 <| sK [] sN)) rfl (by kernel_rfl) (by kernel_rfl) rfl ?_ ?_
        · simp only [v_laws_FnExactNeighboursOf, h0, h1, h2, h3, h4, h5, h6, cond_true, cond_false]
        · rfl
    | false =>
     refine fnS E0Ok hMixed (c := bodyOf f7) [] (.b false) [] func7 (q (sB' h3 <| sK [] sN)) rfl (by kernel_rfl) (by kernel_rfl) rfl ?_ ?_
     · simp only [v_laws_FnExactNeighboursOf, h0, h1, h2, h3, cond_true, cond_false]
     · rfl
   | false =>
    have gh2 := ne_of_beq_false h2
    refine fnS E0Ok hMixed (c := bodyOf f7) [] (.b false) [] func7 (p (sB' h2 <| sK [] sN)) rfl (by kernel_rfl) (by kernel_rfl) rfl ?_ ?_
    · simp only [v_laws_FnExactNeighboursOf, h0, h1, h2, cond_true, cond_false]
    · rfl
  | false =>
   refine fnS E0Ok hMixed (c := bodyOf f7) [] (.b false) [] func7 (q (sB' h1 <| sB' h1 <| sB' h1 <| sB' h1 <| sB (show true = true from rfl) <| sK [] sN)) rfl (by kernel_rfl) (by kernel_rfl) rfl ?_ ?_
   · simp only [v_laws_FnExactNeighboursOf, h0, h1, cond_false]
   · rfl

theorem held_Int64_mon (a : List Int) (c : Int) : v_laws_heldInt64S (v_laws_markInt64S_mon a c).2 c = (v_laws_markInt64S_mon a c).1 := by
  rw [hdeq_Int64, mkeq_Int64_mon, hdL_mkL (fun x c => by simp [hp_Int64, mk_Int64_mon, ofInt_self]) (fun x c => rfl)]

theorem true_laws_FnExactNeighboursOf (a : GMesh) (p : Int) (h0_0 : a.Places.length ≤ 9223372036854775807) (h0_1 : a.Triangles.length ≤ 9223372036854775807) (h0_2 : ∀ t ∈ a.Triangles, t.length ≤ 9223372036854775807) : v_laws_FnExactNeighboursOf a p = true := by
  unfold v_laws_FnExactNeighboursOf
  have z0 := ok_laws_szMesh a 1048576 h0_0 h0_1 h0_2 (by omega) (by omega)
  cases hc0 : decide (v_laws_szMesh a 1048576 < 0) with
  | true => rfl
  | false =>
    simp only [decide_eq_false_iff_not] at hc0
    have hm0 := markge_Mesh_mAooZn a 1 (by omega) (by omega) (fun t ht => by have q := z0.2.2.2.2 t ht; omega) (by omega) (by omega)
    have l0 := le_impl_NeighboursOf a p
    have v0 := markge_Int64_mon (v_impl_NeighboursOf a p).1 1 (by omega) (by omega) (by omega)
    simp only [eq_NeighboursOf] at *
    simp only [eqMesh_self, eqInt64S_self, held_Int64_mon, beq_self_eq_true, Bool.not_true, cond_true, cond_false, bne_self_eq_false]
    rw [decide_eq_false (by omega)]
    rw [decide_eq_false (by omega)]
    rfl

end Go.Ab
