/- The functions of this seat as plain Lean, and that the program's are these. Printed by a program of the prover's own. -/
import Derived.Test.YtiiijolkhbnblaaB5
set_option linter.unusedVariables false
set_option linter.unusedSimpArgs false
set_option maxRecDepth 100000
namespace Go.Ab
open Go.RowKit Go.Proofs.Try

theorem ln_laws_markHoldS_mon_1_1 (a_0 : (List GHold)) (k_1 : Int) : ∀ (k : Nat) (k_l0 : Int) (i_l1 : Int) (r0_l2 : (List GHold)) (hk : ((r0_l2.length : Int) - i_l1).toNat < k), (lo_laws_markHoldS_mon_1 a_0 k_1 k k_l0 i_l1 r0_l2).2.length = r0_l2.length := by
  intro k
  induction k with
  | zero => intro k_l0 i_l1 r0_l2 hk; exact absurd hk (Nat.not_lt_zero _)
  | succ k ih =>
    intro k_l0 i_l1 r0_l2 hk
    cases h_0 : (decide (i_l1 < (r0_l2.length : Int))) with
    | true =>
      have e : lo_laws_markHoldS_mon_1 a_0 k_1 (k + 1) k_l0 i_l1 r0_l2 = (lo_laws_markHoldS_mon_1 a_0 k_1 k (IntKind.wrap .i64 ((IntKind.wrap .i64 ((nd_laws_markHoldS_mon_0 k_l0) + 1)) + 1)) (i_l1 + 1) (r0_l2.set i_l1.toNat (⟨k_l0, (IntKind.wrap .i64 (k_l0 + 1)), (⟨(ofInt .f32 (IntKind.wrap .i64 ((IntKind.wrap .i64 (k_l0 + 1)) + 1))), (ofInt .f32 (IntKind.wrap .i64 ((IntKind.wrap .i64 ((IntKind.wrap .i64 (k_l0 + 1)) + 1)) + 1))), (ofInt .f32 (IntKind.wrap .i64 ((IntKind.wrap .i64 ((IntKind.wrap .i64 ((IntKind.wrap .i64 (k_l0 + 1)) + 1)) + 1)) + 1)))⟩ : GVector), (⟨(ofInt .f32 (IntKind.wrap .i64 ((IntKind.wrap .i64 ((IntKind.wrap .i64 ((IntKind.wrap .i64 ((IntKind.wrap .i64 (k_l0 + 1)) + 1)) + 1)) + 1)) + 1))), (ofInt .f32 (nd_laws_markHoldS_mon_0 k_l0)), (ofInt .f32 (IntKind.wrap .i64 ((nd_laws_markHoldS_mon_0 k_l0) + 1)))⟩ : GVector)⟩ : GHold))) := by simp only [lo_laws_markHoldS_mon_1, h_0, cond_true]
      rw [e, ih (IntKind.wrap .i64 ((IntKind.wrap .i64 ((nd_laws_markHoldS_mon_0 k_l0) + 1)) + 1)) (i_l1 + 1) (r0_l2.set i_l1.toNat (⟨k_l0, (IntKind.wrap .i64 (k_l0 + 1)), (⟨(ofInt .f32 (IntKind.wrap .i64 ((IntKind.wrap .i64 (k_l0 + 1)) + 1))), (ofInt .f32 (IntKind.wrap .i64 ((IntKind.wrap .i64 ((IntKind.wrap .i64 (k_l0 + 1)) + 1)) + 1))), (ofInt .f32 (IntKind.wrap .i64 ((IntKind.wrap .i64 ((IntKind.wrap .i64 ((IntKind.wrap .i64 (k_l0 + 1)) + 1)) + 1)) + 1)))⟩ : GVector), (⟨(ofInt .f32 (IntKind.wrap .i64 ((IntKind.wrap .i64 ((IntKind.wrap .i64 ((IntKind.wrap .i64 ((IntKind.wrap .i64 (k_l0 + 1)) + 1)) + 1)) + 1)) + 1))), (ofInt .f32 (nd_laws_markHoldS_mon_0 k_l0)), (ofInt .f32 (IntKind.wrap .i64 ((nd_laws_markHoldS_mon_0 k_l0) + 1)))⟩ : GVector)⟩ : GHold)) (by first | assumption | omega | (simp_all <;> omega))]; simp
    | false =>
      have e : lo_laws_markHoldS_mon_1 a_0 k_1 (k + 1) k_l0 i_l1 r0_l2 = (k_l0, r0_l2) := by simp only [lo_laws_markHoldS_mon_1, h_0, cond_false]
      first | (rw [e]; done) | (rw [e]; rfl)

def lr_laws_markHoldS_mon_1_0 (a_0 : (List GHold)) (k_1 : Int) : Int × (List GHold) := (lo_laws_markHoldS_mon_1 a_0 k_1 (((a_0.length : Int) - 0).toNat + 1) k_1 0 a_0)

@[simp] theorem len_lr_laws_markHoldS_mon_1_0_1 (a_0 : (List GHold)) (k_1 : Int) : (lr_laws_markHoldS_mon_1_0 a_0 k_1).2.length = (a_0 : (List GHold)).length := ln_laws_markHoldS_mon_1_1 a_0 k_1 (((a_0.length : Int) - 0).toNat + 1) k_1 0 a_0 (by first | exact Nat.lt_succ_self _ | simp)

def v_laws_markHoldS_mon (a_0 : (List GHold)) (k_1 : Int) : Int × (List GHold) := ((lr_laws_markHoldS_mon_1_0 a_0 k_1).1, (lr_laws_markHoldS_mon_1_0 a_0 k_1).2)

@[simp] theorem len_v_laws_markHoldS_mon_1 (a_0 : (List GHold)) (k_1 : Int) : (v_laws_markHoldS_mon a_0 k_1).2.length = a_0.length := by
  first | (simp [v_laws_markHoldS_mon]; done)

theorem t_laws_markHoldS_mon (a_0 : (List GHold)) (k_1 : Int) (hp0 : a_0.length ≤ 1073741824)  : CallSt prog 33 [.vec 114 8 (a_0.map GHold.cells) false] [.own 0, .i .i64 k_1] (.i .i64 ((v_laws_markHoldS_mon a_0 k_1).1)) [.vec 114 8 (((v_laws_markHoldS_mon a_0 k_1).2).map GHold.cells) false] := by
 refine callS (EpOk 1) hMixed (c := bodyOf f33) [.vec 114 8 (a_0.map GHold.cells) false] [] (.i .i64 ((lr_laws_markHoldS_mon_1_0 a_0 k_1).1)) [.vec 114 8 (((lr_laws_markHoldS_mon_1_0 a_0 k_1).2).map GHold.cells) false] func33 (sL mk_laws_markHoldS_mon_1_0 1 (lp_val (ls_laws_markHoldS_mon_1 a_0 k_1) (x := (lr_laws_markHoldS_mon_1_0 a_0 k_1)) (lp_laws_markHoldS_mon_1 a_0 k_1 hp0 (((a_0.length : Int) - 0).toNat + 1) k_1 0 a_0 (show 0 ≤ 0 from (by first | assumption | omega | (simp_all <;> omega))) (show a_0.length = a_0.length from (by simp)) (Nat.lt_succ_self _)) rfl) <| sK [] sN) rfl (by kernel_rfl) (by kernel_rfl) ?_ ?_
 · rfl
 · simp [v_laws_markHoldS_mon]

def mk_Hold_mon (_ : GHold) (c : Int) : Int × GHold := ((IntKind.wrap .i64 ((IntKind.wrap .i64 ((IntKind.wrap .i64 ((IntKind.wrap .i64 ((IntKind.wrap .i64 ((IntKind.wrap .i64 ((IntKind.wrap .i64 ((IntKind.wrap .i64 (c + 1)) + 1)) + 1)) + 1)) + 1)) + 1)) + 1)) + 1)), ⟨c, (IntKind.wrap .i64 (c + 1)), ⟨ofInt .f32 (IntKind.wrap .i64 ((IntKind.wrap .i64 (c + 1)) + 1)), ofInt .f32 (IntKind.wrap .i64 ((IntKind.wrap .i64 ((IntKind.wrap .i64 (c + 1)) + 1)) + 1)), ofInt .f32 (IntKind.wrap .i64 ((IntKind.wrap .i64 ((IntKind.wrap .i64 ((IntKind.wrap .i64 (c + 1)) + 1)) + 1)) + 1))⟩, ⟨ofInt .f32 (IntKind.wrap .i64 ((IntKind.wrap .i64 ((IntKind.wrap .i64 ((IntKind.wrap .i64 ((IntKind.wrap .i64 (c + 1)) + 1)) + 1)) + 1)) + 1)), ofInt .f32 (IntKind.wrap .i64 ((IntKind.wrap .i64 ((IntKind.wrap .i64 ((IntKind.wrap .i64 ((IntKind.wrap .i64 ((IntKind.wrap .i64 (c + 1)) + 1)) + 1)) + 1)) + 1)) + 1)), ofInt .f32 (IntKind.wrap .i64 ((IntKind.wrap .i64 ((IntKind.wrap .i64 ((IntKind.wrap .i64 ((IntKind.wrap .i64 ((IntKind.wrap .i64 ((IntKind.wrap .i64 (c + 1)) + 1)) + 1)) + 1)) + 1)) + 1)) + 1))⟩⟩)
theorem mkeq_Hold_mon (a : List GHold) (c : Int) : v_laws_markHoldS_mon a c = mkL mk_Hold_mon a c := by
  unfold v_laws_markHoldS_mon lr_laws_markHoldS_mon_1_0
  rw [mark_loop (f := mk_Hold_mon) (lo := lo_laws_markHoldS_mon_1 a c) (fun k c i r => rfl) _ _ _ _ (Int.le_refl 0) (Nat.lt_succ_self _)]
  simp
theorem markge_Hold_mon (a : List GHold) (c : Int) (g0 : a.length ≤ 1073741824) (h0 : 0 ≤ c) (h1 : c ≤ 4611686018427387904) : c ≤ (v_laws_markHoldS_mon a c).1 ∧ (v_laws_markHoldS_mon a c).1 ≤ c + 8589934592 := by
  rw [mkeq_Hold_mon]
  have q := mkL_ge (f := mk_Hold_mon) (W := 8) a c (fun x _ c k0 k1 => by simp only [mk_Hold_mon]; rw [wrap_id (n := c + 1) (by omega) (by omega), show c + 1 + 1 = c + 2 from by omega, wrap_id (n := c + 2) (by omega) (by omega), show c + 2 + 1 = c + 3 from by omega, wrap_id (n := c + 3) (by omega) (by omega), show c + 3 + 1 = c + 4 from by omega, wrap_id (n := c + 4) (by omega) (by omega), show c + 4 + 1 = c + 5 from by omega, wrap_id (n := c + 5) (by omega) (by omega), show c + 5 + 1 = c + 6 from by omega, wrap_id (n := c + 6) (by omega) (by omega), show c + 6 + 1 = c + 7 from by omega, wrap_id (n := c + 7) (by omega) (by omega), show c + 7 + 1 = c + 8 from by omega, wrap_id (n := c + 8) (by omega) (by omega)]; omega) h0 (by omega)
  omega

def lo_laws_markInt64S_mon_1 (a_0 : (List Int)) (k_1 : Int) : Nat → Int → Int → (List Int) → Int × (List Int)
  | 0, _, _, _ => default
  | k + 1, k_l0, i_l1, r0_l2 => (cond (decide (i_l1 < (r0_l2.length : Int)))
    (lo_laws_markInt64S_mon_1 a_0 k_1 k (IntKind.wrap .i64 (k_l0 + 1)) (i_l1 + 1) (r0_l2.set i_l1.toNat k_l0))
    (k_l0, r0_l2))

def ls_laws_markInt64S_mon_1 (a_0 : (List Int)) (k_1 : Int) (r : Int × (List Int)) : Ex × St := ((.exit 0), ⟨[.any, .i .i64 r.1, .any, .any, .i .i64 0, .any, .any, .any, .any, .any, .any, .any, .any, .any, .any, .any, .any, .any, .any], [.vec 2 1 (r.2.map (cI .i64)) false]⟩)

def hd_laws_markInt64S_mon_1 (a_0 : (List Int)) (k_1 : Int) (k_l0 : Int) (i_l1 : Int) (r0_l2 : (List Int)) : St := ⟨[.own 0, .i .i64 k_l0, .any, .any, .i .i64 0, .i .i64 i_l1, .any, .any, .any, .any, .any, .any, .any, .any, .any, .any, .any, .any, .any], [.vec 2 1 (r0_l2.map (cI .i64)) false]⟩

def mk_laws_markInt64S_mon_1_0 : List Bool := [true, true, false, false, true, true, false, false, false, false, false, false, false, false, false, false, false, false, false]

def mk_laws_markInt64S_mon_1_1 : List Bool := [false, true, false, false, true, false, false, false, false, false, false, false, false, false, false, false, false, false, false]

theorem lp_laws_markInt64S_mon_1 (a_0 : (List Int)) (k_1 : Int) (hp0 : a_0.length ≤ 1073741824) : ∀ (k : Nat) (k_l0 : Int) (i_l1 : Int) (r0_l2 : (List Int)) (hv_laws_markInt64S_mon_1_0 : 0 ≤ i_l1) (hv_laws_markInt64S_mon_1_1 : r0_l2.length = a_0.length) (hk : ((a_0.length : Int) - i_l1).toNat < k), Lp prog 1 (sub (bodyOf f34) [1, 0, 1, 0, 0]) (hd_laws_markInt64S_mon_1 a_0 k_1 k_l0 i_l1 r0_l2) (ls_laws_markInt64S_mon_1 a_0 k_1 (lo_laws_markInt64S_mon_1 a_0 k_1 k k_l0 i_l1 r0_l2)).1 (ls_laws_markInt64S_mon_1 a_0 k_1 (lo_laws_markInt64S_mon_1 a_0 k_1 k k_l0 i_l1 r0_l2)).2 := by
 intro k
 induction k with
 | zero => intro k_l0 i_l1 r0_l2 hv_laws_markInt64S_mon_1_0 hv_laws_markInt64S_mon_1_1 hk; exact absurd hk (Nat.not_lt_zero _)
 | succ k ih =>
  intro k_l0 i_l1 r0_l2 hv_laws_markInt64S_mon_1_0 hv_laws_markInt64S_mon_1_1 hk
  have p {a C} (s : Scr a C) := sZ (cI .i64) r0_l2 <| s
  cases h_0 : (decide (i_l1 < (r0_l2.length : Int))) with
  | true =>
   have gh_0 := of_decide_eq_true h_0
   have y_0 : (0 : Int) ≤ i_l1 := by clear p; exact (by first | assumption | omega | (simp_all <;> omega))
   have y_1 : i_l1 < (r0_l2.length : Int) := by clear p; exact (by first | assumption | omega | (simp_all <;> omega))
   have y_2 : i_l1.toNat < r0_l2.length := by clear p; exact (by first | assumption | omega | (simp_all <;> omega))
   have y_3 : (-9223372036854775808 : Int) ≤ (i_l1 + 1) := by clear p; exact (by first | assumption | omega | (simp_all <;> omega))
   have y_4 : (i_l1 + 1) ≤ (9223372036854775807 : Int) := by clear p; exact (by first | assumption | omega | (simp_all <;> omega))
   have e : lo_laws_markInt64S_mon_1 a_0 k_1 (k + 1) k_l0 i_l1 r0_l2 = (lo_laws_markInt64S_mon_1 a_0 k_1 k (IntKind.wrap .i64 (k_l0 + 1)) (i_l1 + 1) (r0_l2.set i_l1.toNat k_l0)) := by simp only [lo_laws_markInt64S_mon_1, h_0, cond_true]
   rw [e]
   exact nextS (EpOk 1) hMixed [] mk_laws_markInt64S_mon_1_0 [] (⟨[.own 0, .i .i64 (IntKind.wrap .i64 (k_l0 + 1)), .any, .any, .i .i64 0, .i .i64 (i_l1 + 1), .any, .any, .any, .any, .any, .any, .any, .any, .any, .any, .any, .any, .any], [.vec 2 1 ((r0_l2.map (cI .i64)).set i_l1.toNat [.i .i64 k_l0]) false]⟩) (p (sB h_0 <| sX (cI .i64) r0_l2 i_l1 y_0 y_1 <| sC (maplt (c := (cI .i64)) (l := r0_l2) y_2) <| sW .i64 (k_l0 + 1) <| sI (i_l1 + 1) y_3 y_4 <| sN)) (by kernel_rfl) (show _ = ⟨[.own 0, .i .i64 (IntKind.wrap .i64 (k_l0 + 1)), .any, .any, .i .i64 0, .i .i64 (i_l1 + 1), .any, .any, .any, .any, .any, .any, .any, .any, .any, .any, .any, .any, .any], [.vec 2 1 ((r0_l2.set i_l1.toNat k_l0).map (cI .i64)) false]⟩ from (by simp [List.map_set, cI])) (ih (IntKind.wrap .i64 (k_l0 + 1)) (i_l1 + 1) (r0_l2.set i_l1.toNat k_l0) (show 0 ≤ (i_l1 + 1) from (by first | assumption | omega | (simp_all <;> omega))) (show (r0_l2.set i_l1.toNat k_l0).length = a_0.length from (by first | assumption | omega | (simp_all <;> omega))) (by first | assumption | omega | (simp_all <;> omega)))
  | false =>
   have gh_0 := of_decide_eq_false h_0
   have e : lo_laws_markInt64S_mon_1 a_0 k_1 (k + 1) k_l0 i_l1 r0_l2 = (k_l0, r0_l2) := by simp only [lo_laws_markInt64S_mon_1, h_0, cond_false]
   rw [e]
   exact outR (e := (.exit 0)) (EpOk 1) hMixed [] mk_laws_markInt64S_mon_1_1 [] (p (sB h_0 <| sN)) (by kernel_rfl) (by intro h; cases h)

theorem ln_laws_markInt64S_mon_1_1 (a_0 : (List Int)) (k_1 : Int) : ∀ (k : Nat) (k_l0 : Int) (i_l1 : Int) (r0_l2 : (List Int)) (hk : ((r0_l2.length : Int) - i_l1).toNat < k), (lo_laws_markInt64S_mon_1 a_0 k_1 k k_l0 i_l1 r0_l2).2.length = r0_l2.length := by
  intro k
  induction k with
  | zero => intro k_l0 i_l1 r0_l2 hk; exact absurd hk (Nat.not_lt_zero _)
  | succ k ih =>
    intro k_l0 i_l1 r0_l2 hk
    cases h_0 : (decide (i_l1 < (r0_l2.length : Int))) with
    | true =>
      have e : lo_laws_markInt64S_mon_1 a_0 k_1 (k + 1) k_l0 i_l1 r0_l2 = (lo_laws_markInt64S_mon_1 a_0 k_1 k (IntKind.wrap .i64 (k_l0 + 1)) (i_l1 + 1) (r0_l2.set i_l1.toNat k_l0)) := by simp only [lo_laws_markInt64S_mon_1, h_0, cond_true]
      rw [e, ih (IntKind.wrap .i64 (k_l0 + 1)) (i_l1 + 1) (r0_l2.set i_l1.toNat k_l0) (by first | assumption | omega | (simp_all <;> omega))]; simp
    | false =>
      have e : lo_laws_markInt64S_mon_1 a_0 k_1 (k + 1) k_l0 i_l1 r0_l2 = (k_l0, r0_l2) := by simp only [lo_laws_markInt64S_mon_1, h_0, cond_false]
      first | (rw [e]; done) | (rw [e]; rfl)

def lr_laws_markInt64S_mon_1_0 (a_0 : (List Int)) (k_1 : Int) : Int × (List Int) := (lo_laws_markInt64S_mon_1 a_0 k_1 (((a_0.length : Int) - 0).toNat + 1) k_1 0 a_0)

@[simp] theorem len_lr_laws_markInt64S_mon_1_0_1 (a_0 : (List Int)) (k_1 : Int) : (lr_laws_markInt64S_mon_1_0 a_0 k_1).2.length = (a_0 : (List Int)).length := ln_laws_markInt64S_mon_1_1 a_0 k_1 (((a_0.length : Int) - 0).toNat + 1) k_1 0 a_0 (by first | exact Nat.lt_succ_self _ | simp)

def v_laws_markInt64S_mon (a_0 : (List Int)) (k_1 : Int) : Int × (List Int) := ((lr_laws_markInt64S_mon_1_0 a_0 k_1).1, (lr_laws_markInt64S_mon_1_0 a_0 k_1).2)

@[simp] theorem len_v_laws_markInt64S_mon_1 (a_0 : (List Int)) (k_1 : Int) : (v_laws_markInt64S_mon a_0 k_1).2.length = a_0.length := by
  first | (simp [v_laws_markInt64S_mon]; done)

theorem t_laws_markInt64S_mon (a_0 : (List Int)) (k_1 : Int) (hp0 : a_0.length ≤ 1073741824)  : CallSt prog 34 [.vec 2 1 (a_0.map (cI .i64)) false] [.own 0, .i .i64 k_1] (.i .i64 ((v_laws_markInt64S_mon a_0 k_1).1)) [.vec 2 1 (((v_laws_markInt64S_mon a_0 k_1).2).map (cI .i64)) false] := by
 refine callS (EpOk 1) hMixed (c := bodyOf f34) [.vec 2 1 (a_0.map (cI .i64)) false] [] (.i .i64 ((lr_laws_markInt64S_mon_1_0 a_0 k_1).1)) [.vec 2 1 (((lr_laws_markInt64S_mon_1_0 a_0 k_1).2).map (cI .i64)) false] func34 (sL mk_laws_markInt64S_mon_1_0 1 (lp_val (ls_laws_markInt64S_mon_1 a_0 k_1) (x := (lr_laws_markInt64S_mon_1_0 a_0 k_1)) (lp_laws_markInt64S_mon_1 a_0 k_1 hp0 (((a_0.length : Int) - 0).toNat + 1) k_1 0 a_0 (show 0 ≤ 0 from (by first | assumption | omega | (simp_all <;> omega))) (show a_0.length = a_0.length from (by simp)) (Nat.lt_succ_self _)) rfl) <| sK [] sN) rfl (by kernel_rfl) (by kernel_rfl) ?_ ?_
 · rfl
 · simp [v_laws_markInt64S_mon]

def mk_Int64_mon (_ : Int) (c : Int) : Int × Int := ((IntKind.wrap .i64 (c + 1)), c)
theorem mkeq_Int64_mon (a : List Int) (c : Int) : v_laws_markInt64S_mon a c = mkL mk_Int64_mon a c := by
  unfold v_laws_markInt64S_mon lr_laws_markInt64S_mon_1_0
  rw [mark_loop (f := mk_Int64_mon) (lo := lo_laws_markInt64S_mon_1 a c) (fun k c i r => rfl) _ _ _ _ (Int.le_refl 0) (Nat.lt_succ_self _)]
  simp
theorem markge_Int64_mon (a : List Int) (c : Int) (g0 : a.length ≤ 1073741824) (h0 : 0 ≤ c) (h1 : c ≤ 4611686018427387904) : c ≤ (v_laws_markInt64S_mon a c).1 ∧ (v_laws_markInt64S_mon a c).1 ≤ c + 1073741824 := by
  rw [mkeq_Int64_mon]
  have q := mkL_ge (f := mk_Int64_mon) (W := 1) a c (fun x _ c k0 k1 => by simp only [mk_Int64_mon]; rw [wrap_id (n := c + 1) (by omega) (by omega)]; omega) h0 (by omega)
  omega

def lo_laws_heldInt64S_1 (a_0 : (List Int)) (k_1 : Int) : Nat → Int → Int → (Unit) ⊕ (Int)
  | 0, _, _ => .inl default
  | k + 1, k_l0, i_l1 => (cond (decide (i_l1 < (a_0.length : Int)))
    (cond ((a_0.getD i_l1.toNat default) != k_l0)
      (.inl ())
      (lo_laws_heldInt64S_1 a_0 k_1 k (IntKind.wrap .i64 (k_l0 + 1)) (i_l1 + 1)))
    (.inr k_l0))

def ls_laws_heldInt64S_1 (a_0 : (List Int)) (k_1 : Int) : (Unit) ⊕ (Int) → Ex × St
  | .inl r => (.ret, ⟨[.any, .any, .any, .any, .i .i64 (-1), .any, .any, .any, .any, .any, .any, .any, .any, .any, .any, .any, .any, .any, .any, .any, .any], []⟩)
  | .inr r => ((.exit 0), ⟨[.any, .i .i64 r, .any, .any, .any, .any, .any, .any, .any, .any, .any, .any, .any, .any, .any, .any, .any, .any, .any, .any, .any], []⟩)

def hd_laws_heldInt64S_1 (a_0 : (List Int)) (k_1 : Int) (k_l0 : Int) (i_l1 : Int) : St := ⟨[.sl (a_0.map (cI .i64)), .i .i64 k_l0, .any, .any, .any, .i .i64 i_l1, .any, .any, .any, .any, .any, .any, .any, .any, .any, .any, .any, .any, .any, .any, .any], []⟩

def mk_laws_heldInt64S_1_0 : List Bool := [true, true, false, false, false, true, false, false, false, false, false, false, false, false, false, false, false, false, false, false, false]

def mk_laws_heldInt64S_1_1 : List Bool := [false, false, false, false, true, false, false, false, false, false, false, false, false, false, false, false, false, false, false, false, false]

def mk_laws_heldInt64S_1_2 : List Bool := [false, true, false, false, false, false, false, false, false, false, false, false, false, false, false, false, false, false, false, false, false]

theorem lp_laws_heldInt64S_1 (a_0 : (List Int)) (k_1 : Int) (hp0 : a_0.length ≤ 1073741824) : ∀ (k : Nat) (k_l0 : Int) (i_l1 : Int) (hv_laws_heldInt64S_1_0 : 0 ≤ i_l1) (hk : ((a_0.length : Int) - i_l1).toNat < k), Lp prog 0 (sub (bodyOf f35) [1, 0, 1, 0, 0]) (hd_laws_heldInt64S_1 a_0 k_1 k_l0 i_l1) (ls_laws_heldInt64S_1 a_0 k_1 (lo_laws_heldInt64S_1 a_0 k_1 k k_l0 i_l1)).1 (ls_laws_heldInt64S_1 a_0 k_1 (lo_laws_heldInt64S_1 a_0 k_1 k k_l0 i_l1)).2 := by
 intro k
 induction k with
 | zero => intro k_l0 i_l1 hv_laws_heldInt64S_1_0 hk; exact absurd hk (Nat.not_lt_zero _)
 | succ k ih =>
  intro k_l0 i_l1 hv_laws_heldInt64S_1_0 hk
  have p {a C} (s : Scr a C) := sZ (cI .i64) a_0 <| s
  cases h_0 : (decide (i_l1 < (a_0.length : Int))) with
  | true =>
   have gh_0 := of_decide_eq_true h_0
   have y_0 : (0 : Int) ≤ i_l1 := by clear p; exact (by first | assumption | omega | (simp_all <;> omega))
   have y_1 : i_l1 < (a_0.length : Int) := by clear p; exact (by first | assumption | omega | (simp_all <;> omega))
   have q {a C} (s : Scr a C) := p (sB h_0 <| sG (cI .i64) a_0 i_l1 y_0 y_1 <| s)
   clear p
   cases h_1 : ((a_0.getD i_l1.toNat default) != k_l0) with
   | true =>
    have gh_1 := bne_iff_ne.1 h_1
    have e : lo_laws_heldInt64S_1 a_0 k_1 (k + 1) k_l0 i_l1 = (.inl ()) := by simp only [lo_laws_heldInt64S_1, h_0, h_1, cond_true]
    rw [e]
    exact outR (e := .ret) E0Ok hMixed [] mk_laws_heldInt64S_1_1 [] (q (sB h_1 <| sN)) (by kernel_rfl) (by intro h; cases h)
   | false =>
    have gh_1 := bne_eq_false_iff_eq.1 h_1
    have y_2 : (-9223372036854775808 : Int) ≤ (i_l1 + 1) := by clear q; exact (by first | assumption | omega | (simp_all <;> omega))
    have y_3 : (i_l1 + 1) ≤ (9223372036854775807 : Int) := by clear q; exact (by first | assumption | omega | (simp_all <;> omega))
    have e : lo_laws_heldInt64S_1 a_0 k_1 (k + 1) k_l0 i_l1 = (lo_laws_heldInt64S_1 a_0 k_1 k (IntKind.wrap .i64 (k_l0 + 1)) (i_l1 + 1)) := by simp only [lo_laws_heldInt64S_1, h_0, h_1, cond_true, cond_false]
    rw [e]
    exact nextR E0Ok hMixed [] mk_laws_heldInt64S_1_0 [] (ih (IntKind.wrap .i64 (k_l0 + 1)) (i_l1 + 1) (show 0 ≤ (i_l1 + 1) from (by first | assumption | omega | (simp_all <;> omega))) (by first | assumption | omega | (simp_all <;> omega))) (q (sB h_1 <| sW .i64 (k_l0 + 1) <| sI (i_l1 + 1) y_2 y_3 <| sN)) (by kernel_rfl)
  | false =>
   have gh_0 := of_decide_eq_false h_0
   have e : lo_laws_heldInt64S_1 a_0 k_1 (k + 1) k_l0 i_l1 = (.inr k_l0) := by simp only [lo_laws_heldInt64S_1, h_0, cond_false]
   rw [e]
   exact outR (e := (.exit 0)) E0Ok hMixed [] mk_laws_heldInt64S_1_2 [] (p (sB h_0 <| sN)) (by kernel_rfl) (by intro h; cases h)

def lr_laws_heldInt64S_1_0 (a_0 : (List Int)) (k_1 : Int) : (Unit) ⊕ (Int) := (lo_laws_heldInt64S_1 a_0 k_1 (((a_0.length : Int) - 0).toNat + 1) k_1 0)

def v_laws_heldInt64S (a_0 : (List Int)) (k_1 : Int) : Int := (match (lr_laws_heldInt64S_1_0 a_0 k_1) with
  | .inl r1 => (-1)
  | .inr r1 => r1)

theorem t_laws_heldInt64S (a_0 : (List Int)) (k_1 : Int) (hp0 : a_0.length ≤ 1073741824)  : Fn prog 35 [.sl (a_0.map (cI .i64)), .i .i64 k_1] (.i .i64 (v_laws_heldInt64S a_0 k_1)) [] := by
 cases h0 : (lr_laws_heldInt64S_1_0 a_0 k_1) with
 | inl r1 =>
  refine fnS E0Ok hMixed (c := bodyOf f35) [] (.i .i64 (-1)) [] func35 (sL mk_laws_heldInt64S_1_0 0 (lp_val (ls_laws_heldInt64S_1 a_0 k_1) (x := (lr_laws_heldInt64S_1_0 a_0 k_1)) (lp_laws_heldInt64S_1 a_0 k_1 hp0 (((a_0.length : Int) - 0).toNat + 1) k_1 0 (show 0 ≤ 0 from (by first | assumption | omega | (simp_all <;> omega))) (Nat.lt_succ_self _)) h0) <| sK [] sN) rfl (by kernel_rfl) (by kernel_rfl) rfl ?_ ?_
  · simp only [v_laws_heldInt64S, h0]
  · rfl
 | inr r1 =>
  refine fnS E0Ok hMixed (c := bodyOf f35) [] (.i .i64 r1) [] func35 (sL mk_laws_heldInt64S_1_0 0 (lp_val (ls_laws_heldInt64S_1 a_0 k_1) (x := (lr_laws_heldInt64S_1_0 a_0 k_1)) (lp_laws_heldInt64S_1 a_0 k_1 hp0 (((a_0.length : Int) - 0).toNat + 1) k_1 0 (show 0 ≤ 0 from (by first | assumption | omega | (simp_all <;> omega))) (Nat.lt_succ_self _)) h0) <| sK [] sN) rfl (by kernel_rfl) (by kernel_rfl) rfl ?_ ?_
  · simp only [v_laws_heldInt64S, h0]
  · rfl

def hp_Int64 (x : Int) (c : Int) : Bool := (!(x != c))
def hq_Int64 (_ : Int) (c : Int) : Int := (IntKind.wrap .i64 (c + 1))
theorem hdeq_Int64 (a : List Int) (c : Int) : v_laws_heldInt64S a c = match hdL hp_Int64 hq_Int64 a c with
    | some c' => c'
    | none => -1 := by
  unfold v_laws_heldInt64S lr_laws_heldInt64S_1_0
  rw [held_loop (p := hp_Int64) (q := hq_Int64) (a := a) (x := ()) (lo := lo_laws_heldInt64S_1 a c) (fun k c i => by
    rw [lo_laws_heldInt64S_1]
    unfold hp_Int64 hq_Int64
    generalize a.getD i.toNat default = x
    cases decide (i < (a.length : Int)) <;> cases (x != c) <;> rfl) _ _ _ (Int.le_refl 0) (Nat.lt_succ_self _)]
  simp only [Int.toNat_zero, List.drop_zero]
  cases hdL hp_Int64 hq_Int64 a c <;> rfl

def v_laws_FnExactFreePlaces (aM_0 : GMesh) (aHolds_1 : (List GHold)) : Bool := (cond (decide ((v_laws_szMesh aM_0 1048576) < 0))
  true
  (cond (decide ((v_laws_szHoldS aHolds_1 (v_laws_szMesh aM_0 1048576)) < 0))
    true
    (cond (v_laws_eqInt64S ((v_impl_FreePlaces aM_0 aHolds_1).1) ((v_spec_FreePlaces aM_0 aHolds_1).1))
      (cond ((v_impl_FreePlaces aM_0 aHolds_1).2 == (v_spec_FreePlaces aM_0 aHolds_1).2)
        (cond (v_laws_eqMesh aM_0 aM_0)
          (cond (v_laws_eqHoldS aHolds_1 aHolds_1)
            (cond (decide ((v_laws_markHoldS_mon aHolds_1 ((v_laws_markMesh_mAooZn aM_0 1).1)).1 < 0))
              false
              (cond (decide ((v_laws_heldInt64S ((v_laws_markInt64S_mon ((v_impl_FreePlaces aM_0 aHolds_1).1) 1).2) 1) < 0))
                false
                (cond ((v_laws_heldInt64S ((v_laws_markInt64S_mon ((v_impl_FreePlaces aM_0 aHolds_1).1) 1).2) 1) != (v_laws_markInt64S_mon ((v_impl_FreePlaces aM_0 aHolds_1).1) 1).1)
                  false
                  true)))
            false)
          false)
        false)
      false)))

set_option maxHeartbeats 1000000 in
theorem t_laws_FnExactFreePlaces (aM_0 : GMesh) (aHolds_1 : (List GHold)) (hp0 : aM_0.Places.length ≤ 9223372036854775807) (hp1 : aM_0.Triangles.length ≤ 9223372036854775807) (hp2 : ∀ t ∈ aM_0.Triangles, t.length ≤ 9223372036854775807) (hp3 : aHolds_1.length ≤ 9223372036854775807)  : Fn prog 5 [.agg [.sl (aM_0.Places.map GVector.cells), .sl (aM_0.Triangles.map (cL (cI .i64)))], .sl (aHolds_1.map GHold.cells)] (.b (v_laws_FnExactFreePlaces aM_0 aHolds_1)) [] := by
 have z0 := (ok_laws_szMesh aM_0 1048576 (by omega) (by omega) (by assumption) (by omega) (by omega))
 have z1 := (ok_laws_szHoldS aHolds_1 (v_laws_szMesh aM_0 1048576) (by omega) (by omega) (by omega))
 have p {a C} (s : Scr a C) := sF (t_laws_szMesh aM_0 1048576 hp0 hp1 hp2) <| s
 cases h0 : (decide ((v_laws_szMesh aM_0 1048576) < 0)) with
 | true =>
  have gh0 := of_decide_eq_true h0
  refine fnS E0Ok hMixed (c := bodyOf f5) [] (.b true) [] func5 (p (sB h0 <| sK [] sN)) rfl (by kernel_rfl) (by kernel_rfl) rfl ?_ ?_
  · simp only [v_laws_FnExactFreePlaces, h0, cond_true]
  · rfl
 | false =>
  have gh0 := of_decide_eq_false h0
  have q {a C} (s : Scr a C) := p (sB h0 <| sF (t_laws_szHoldS aHolds_1 (v_laws_szMesh aM_0 1048576) hp3) <| s)
  clear p
  cases h1 : (decide ((v_laws_szHoldS aHolds_1 (v_laws_szMesh aM_0 1048576)) < 0)) with
  | true =>
   have gh1 := of_decide_eq_true h1
   refine fnS E0Ok hMixed (c := bodyOf f5) [] (.b true) [] func5 (q (sB h1 <| sK [] sN)) rfl (by kernel_rfl) (by kernel_rfl) rfl ?_ ?_
   · simp only [v_laws_FnExactFreePlaces, h0, h1, cond_true, cond_false]
   · rfl
  | false =>
   have gh1 := of_decide_eq_false h1
   have y0 : aM_0.Places.length ≤ 1073741824 := by clear q; exact (by first | assumption | omega | (simp_all <;> omega))
   have y1 : aM_0.Triangles.length ≤ 1073741824 := by clear q; exact (by first | assumption | omega | (simp_all <;> omega))
   have y2 : ∀ t ∈ aM_0.Triangles, t.length ≤ 1073741824 := by clear q; exact (by first | assumption | (intro t ht; first | (have q := z0.2.2.2.2 t ht; omega)) | omega | (simp_all <;> omega))
   have y3 : aHolds_1.length ≤ 1073741824 := by clear q; exact (by first | assumption | omega | (simp_all <;> omega))
   have l1 := (le_spec_FreePlaces aM_0 aHolds_1)
   have l2 := (le_impl_FreePlaces aM_0 aHolds_1)
   have y4 : ((v_impl_FreePlaces aM_0 aHolds_1).1).length ≤ 1073741824 := by clear q; exact (by first | assumption | omega | (simp_all <;> omega))
   have y5 : ((v_spec_FreePlaces aM_0 aHolds_1).1).length ≤ 1073741824 := by clear q; exact (by first | assumption | omega | (simp_all <;> omega))
   have p {a C} (s : Scr a C) := q (sB h1 <| sF (i_laws_toMesh aM_0 y0 y1 y2) <| sF (i_laws_toHoldS aHolds_1 y3) <| sF (Fn.castA (args' := [.agg [.sl (aM_0.Places.map GVector.cells), .sl ((aM_0.Triangles.map fun l => l.map (cI .i64)).map fun l => [.sl l])], .sl (aHolds_1.map GHold.cells)]) (t_spec_FreePlaces aM_0 aHolds_1 y0 y1 y2 y3) (by simp [cL, Function.comp_def])) <| sF (i_laws_toMesh aM_0 y0 y1 y2) <| sF (i_laws_toHoldS aHolds_1 y3) <| sF (Fn.castA (args' := [.agg [.sl (aM_0.Places.map GVector.cells), .sl ((aM_0.Triangles.map fun l => l.map (cI .i64)).map fun l => [.sl l])], .sl (aHolds_1.map GHold.cells)]) (t_impl_FreePlaces aM_0 aHolds_1 y0 y1 y2 y3) (by simp [cL, Function.comp_def])) <| sF (t_laws_eqInt64S ((v_impl_FreePlaces aM_0 aHolds_1).1) ((v_spec_FreePlaces aM_0 aHolds_1).1) y4 y5) <| s)
   clear q
   cases h2 : (v_laws_eqInt64S ((v_impl_FreePlaces aM_0 aHolds_1).1) ((v_spec_FreePlaces aM_0 aHolds_1).1)) with
   | true =>
    have q {a C} (s : Scr a C) := p (sB' h2 <| sB' h2 <| sB' h2 <| sB' h2 <| s)
    clear p
    cases h3 : ((v_impl_FreePlaces aM_0 aHolds_1).2 == (v_spec_FreePlaces aM_0 aHolds_1).2) with
    | true =>
     have gh3 := eq_of_beq h3
     have p {a C} (s : Scr a C) := q (sB' h3 <| sK [3, 3] <| sF (i_laws_toMesh aM_0 y0 y1 y2) <| sF (Fn.castA (args' := [.agg [.sl (aM_0.Places.map GVector.cells), .sl ((aM_0.Triangles.map fun l => l.map (cI .i64)).map fun l => [.sl l])], .agg [.sl (aM_0.Places.map GVector.cells), .sl ((aM_0.Triangles.map fun l => l.map (cI .i64)).map fun l => [.sl l])]]) (t_laws_eqMesh aM_0 aM_0 y0 y1 y2 y0 y1 y2) (by simp [cL, Function.comp_def])) <| s)
     clear q
     cases h4 : (v_laws_eqMesh aM_0 aM_0) with
     | true =>
      have q {a C} (s : Scr a C) := p (sB' h4 <| sF (i_laws_toHoldS aHolds_1 y3) <| sF (t_laws_eqHoldS aHolds_1 aHolds_1 y3 y3) <| s)
      clear p
      cases h5 : (v_laws_eqHoldS aHolds_1 aHolds_1) with
      | true =>
       have p {a C} (s : Scr a C) := q (sB' h5 <| sS (CallSt.frame (t_laws_markMesh_mAooZn aM_0 1 y0 y1 y2) [5, 6] (R := [.box 31 [.sl (aM_0.Places.map GVector.cells), .sl (aM_0.Triangles.map (cL (cI .i64)))], .vec 44 3 (aM_0.Places.map GVector.cells) false, .nest 52 (aM_0.Triangles.map fun l => l.map (cI .i64)) false, .vec 114 8 (aHolds_1.map GHold.cells) false, .vec 2 1 (((v_spec_FreePlaces aM_0 aHolds_1).1).map (cI .i64)) false, .vec 44 3 (aM_0.Places.map GVector.cells) false, .nest 52 (aM_0.Triangles.map fun l => l.map (cI .i64)) false, .box 42 [.own 5, .own 6], .vec 114 8 (aHolds_1.map GHold.cells) false, .vec 2 1 (((v_impl_FreePlaces aM_0 aHolds_1).1).map (cI .i64)) false, .vec 44 3 (aM_0.Places.map GVector.cells) false, .nest 52 (aM_0.Triangles.map fun l => l.map (cI .i64)) false, .vec 114 8 (aHolds_1.map GHold.cells) false]) (args' := [.agg [.own 5, .own 6], .i .i64 1]) rfl rfl rfl rfl rfl rfl) <| sS (CallSt.frame (t_laws_markHoldS_mon aHolds_1 ((v_laws_markMesh_mAooZn aM_0 1).1) y3) [8] (R := [.box 31 [.sl (aM_0.Places.map GVector.cells), .sl (aM_0.Triangles.map (cL (cI .i64)))], .vec 44 3 (aM_0.Places.map GVector.cells) false, .nest 52 (aM_0.Triangles.map fun l => l.map (cI .i64)) false, .vec 114 8 (aHolds_1.map GHold.cells) false, .vec 2 1 (((v_spec_FreePlaces aM_0 aHolds_1).1).map (cI .i64)) false, .vec 44 3 (((v_laws_markMesh_mAooZn aM_0 1).2.1).map GVector.cells) false, .nest 52 (((v_laws_markMesh_mAooZn aM_0 1).2.2).map fun l => l.map (cI .i64)) false, .box 42 [.own 5, .own 6], .vec 114 8 (aHolds_1.map GHold.cells) false, .vec 2 1 (((v_impl_FreePlaces aM_0 aHolds_1).1).map (cI .i64)) false, .vec 44 3 (aM_0.Places.map GVector.cells) false, .nest 52 (aM_0.Triangles.map fun l => l.map (cI .i64)) false, .vec 114 8 (aHolds_1.map GHold.cells) false]) (args' := [.own 8, .i .i64 ((v_laws_markMesh_mAooZn aM_0 1).1)]) rfl rfl rfl rfl rfl rfl) <| s)
       clear q
       cases h6 : (decide ((v_laws_markHoldS_mon aHolds_1 ((v_laws_markMesh_mAooZn aM_0 1).1)).1 < 0)) with
       | true =>
        have gh6 := of_decide_eq_true h6
        refine fnS E0Ok hMixed (c := bodyOf f5) [] (.b false) [] func5 (p (sB h6 <| sB h6 <| sB h6 <| sB h6 <| sB h6 <| sB (show true = true from rfl) <| sB (show true = true from rfl) <| sB (show true = true from rfl) <| sB (show true = true from rfl) <| sB (show true = true from rfl) <| sK [] sN)) rfl (by kernel_rfl) (by kernel_rfl) rfl ?_ ?_
        · simp only [v_laws_FnExactFreePlaces, h0, h1, h2, h3, h4, h5, h6, cond_true, cond_false]
        · rfl
       | false =>
        have gh6 := of_decide_eq_false h6
        have y6 : ((v_laws_markInt64S_mon ((v_impl_FreePlaces aM_0 aHolds_1).1) 1).2).length ≤ 1073741824 := by clear p; exact (by first | assumption | omega | (simp_all <;> omega))
        have q {a C} (s : Scr a C) := p (sB h6 <| sB h6 <| sB h6 <| sF (t_laws_eqInt64S ((v_impl_FreePlaces aM_0 aHolds_1).1) ((v_spec_FreePlaces aM_0 aHolds_1).1) y4 y5) <| sB h6 <| sB h6 <| sB' h2 <| sB' h2 <| sB' h2 <| sB' h2 <| sB' h3 <| sS (CallSt.frame (t_laws_markInt64S_mon ((v_impl_FreePlaces aM_0 aHolds_1).1) 1 y4) [9] (R := [.box 31 [.sl (aM_0.Places.map GVector.cells), .sl (aM_0.Triangles.map (cL (cI .i64)))], .vec 44 3 (aM_0.Places.map GVector.cells) false, .nest 52 (aM_0.Triangles.map fun l => l.map (cI .i64)) false, .vec 114 8 (aHolds_1.map GHold.cells) false, .vec 2 1 (((v_spec_FreePlaces aM_0 aHolds_1).1).map (cI .i64)) false, .vec 44 3 (((v_laws_markMesh_mAooZn aM_0 1).2.1).map GVector.cells) false, .nest 52 (((v_laws_markMesh_mAooZn aM_0 1).2.2).map fun l => l.map (cI .i64)) false, .box 42 [.own 5, .own 6], .vec 114 8 (((v_laws_markHoldS_mon aHolds_1 ((v_laws_markMesh_mAooZn aM_0 1).1)).2).map GHold.cells) false, .vec 2 1 (((v_impl_FreePlaces aM_0 aHolds_1).1).map (cI .i64)) false, .vec 44 3 (aM_0.Places.map GVector.cells) false, .nest 52 (aM_0.Triangles.map fun l => l.map (cI .i64)) false, .vec 114 8 (aHolds_1.map GHold.cells) false]) (args' := [.own 9, .i .i64 1]) rfl rfl rfl rfl rfl rfl) <| sF (t_laws_heldInt64S ((v_laws_markInt64S_mon ((v_impl_FreePlaces aM_0 aHolds_1).1) 1).2) 1 y6) <| s)
        clear p
        cases h7 : (decide ((v_laws_heldInt64S ((v_laws_markInt64S_mon ((v_impl_FreePlaces aM_0 aHolds_1).1) 1).2) 1) < 0)) with
        | true =>
         have gh7 := of_decide_eq_true h7
         refine fnS E0Ok hMixed (c := bodyOf f5) [] (.b false) [] func5 (q (sB h7 <| sK [] sN)) rfl (by kernel_rfl) (by kernel_rfl) rfl ?_ ?_
         · simp only [v_laws_FnExactFreePlaces, h0, h1, h2, h3, h4, h5, h6, h7, cond_true, cond_false]
         · rfl
        | false =>
         have gh7 := of_decide_eq_false h7
         have p {a C} (s : Scr a C) := q (sB h7 <| s)
         clear q
         cases h8 : ((v_laws_heldInt64S ((v_laws_markInt64S_mon ((v_impl_FreePlaces aM_0 aHolds_1).1) 1).2) 1) != (v_laws_markInt64S_mon ((v_impl_FreePlaces aM_0 aHolds_1).1) 1).1) with
         | true =>
          have gh8 := bne_iff_ne.1 h8
          refine fnS E0Ok hMixed (c := bodyOf f5) [] (.b false) [] func5 (p (sB h8 <| sK [] sN)) rfl (by kernel_rfl) (by kernel_rfl) rfl ?_ ?_
          · simp only [v_laws_FnExactFreePlaces, h0, h1, h2, h3, h4, h5, h6, h7, h8, cond_true, cond_false]
          · rfl
         | false =>
          have gh8 := bne_eq_false_iff_eq.1 h8
          refine fnS E0Ok hMixed (c := bodyOf f5) [] (.b true) [] func5 (p (sB h8 <| sF (i_laws_toMesh aM_0 y0 y1 y2) <| sF (i_laws_toHoldS aHolds_1 y3) <| sF (Fn.castA (args' := [.agg [.sl (aM_0.Places.map GVector.cells), .sl ((aM_0.Triangles.map fun l => l.map (cI .i64)).map fun l => [.sl l])], .sl (aHolds_1.map GHold.cells)]) (t_impl_FreePlaces aM_0 aHolds_1 y0 y1 y2 y3) (by simp [cL, Function.comp_def])) <| sF (t_laws_eqInt64S ((v_impl_FreePlaces aM_0 aHolds_1).1) ((v_spec_FreePlaces aM_0 aHolds_1).1) y4 y5) <| sB' h2 <| sB' h2 <| sB' h2 <| sB' h2 <| sB' h3 <| sF (t_laws_heldInt64S ((v_laws_markInt64S_mon ((v_impl_FreePlaces aM_0 aHolds_1).1) 1).2) 1 y6) <| sB h7 <| sB h8 <| sK [] sN)) rfl (by kernel_rfl) (by kernel_rfl) rfl ?_ ?_
          · simp only [v_laws_FnExactFreePlaces, h0, h1, h2, h3, h4, h5, h6, h7, h8, cond_true, cond_false]
          · rfl
      | false =>
       refine fnS E0Ok hMixed (c := bodyOf f5) [] (.b false) [] func5 (q (sB' h5 <| sK [] sN)) rfl (by kernel_rfl) (by kernel_rfl) rfl ?_ ?_
       · simp only [v_laws_FnExactFreePlaces, h0, h1, h2, h3, h4, h5, cond_true, cond_false]
       · rfl
     | false =>
      refine fnS E0Ok hMixed (c := bodyOf f5) [] (.b false) [] func5 (p (sB' h4 <| sK [] sN)) rfl (by kernel_rfl) (by kernel_rfl) rfl ?_ ?_
      · simp only [v_laws_FnExactFreePlaces, h0, h1, h2, h3, h4, cond_true, cond_false]
      · rfl
    | false =>
     have gh3 := ne_of_beq_false h3
     refine fnS E0Ok hMixed (c := bodyOf f5) [] (.b false) [] func5 (q (sB' h3 <| sK [] sN)) rfl (by kernel_rfl) (by kernel_rfl) rfl ?_ ?_
     · simp only [v_laws_FnExactFreePlaces, h0, h1, h2, h3, cond_true, cond_false]
     · rfl
   | false =>
    refine fnS E0Ok hMixed (c := bodyOf f5) [] (.b false) [] func5 (p (sB' h2 <| sB' h2 <| sB' h2 <| sB' h2 <| sB (show true = true from rfl) <| sK [] sN)) rfl (by kernel_rfl) (by kernel_rfl) rfl ?_ ?_
    · simp only [v_laws_FnExactFreePlaces, h0, h1, h2, cond_false]
    · rfl

theorem held_Int64_mon (a : List Int) (c : Int) : v_laws_heldInt64S (v_laws_markInt64S_mon a c).2 c = (v_laws_markInt64S_mon a c).1 := by
  rw [hdeq_Int64, mkeq_Int64_mon, hdL_mkL (fun x c => by simp [hp_Int64, mk_Int64_mon, ofInt_self]) (fun x c => rfl)]

theorem eq_FreePlaces (m : GMesh) (hs : List GHold) : v_impl_FreePlaces m hs = v_spec_FreePlaces m hs := by
  unfold v_impl_FreePlaces v_spec_FreePlaces
  rw [eq_AreHolds]
  cases h : v_spec_l04Are m hs with
  | false => rfl
  | true =>
    rw [cond_true, cond_true, app_impl_FreePlaces, app2_spec_FreePlaces]
    have e : (List.range m.Places.length).filter (fun j => !((lr_impl_FreePlaces_1_0 m hs).getD j default)) = (List.range m.Places.length).filter (fun (j : Nat) => !(v_spec_l00Has (lr_spec_FreePlaces_1_0 m hs) (j : Int))) := by
      refine List.filter_congr fun j hj => ?_
      have hj := List.mem_range.1 hj
      have q := flag_loop (f := fun h : GHold => h.Place.toNat) (a := hs) (lo := lo_impl_FreePlaces_1 m hs) (fun k i r => rfl) j (((hs.length : Int) - 0).toNat + 1) 0 (List.replicate (m.Places.length : Int).toNat false) (Int.le_refl 0) (Nat.lt_succ_self _) (by simpa using hj)
      rw [eq_l00Has, app_spec_FreePlaces]
      unfold lr_impl_FreePlaces_1_0
      rw [q]
      have e0 : (List.replicate (m.Places.length : Int).toNat false).getD j default = false := by
        rw [List.getD_eq_getElem?_getD, List.getElem?_replicate]; split <;> rfl
      rw [e0, Bool.false_or, Int.toNat_zero, List.drop_zero, List.any_map]
      congr 1
      have hk := (okH_is m hs h).2.1
      clear q e0 h
      induction hs with
      | nil => rfl
      | cons x l ih =>
        rw [List.any_cons, List.any_cons, ih (fun y hy => hk y (List.mem_cons_of_mem _ hy))]
        have := hk x List.mem_cons_self
        congr 1
        rw [Bool.eq_iff_iff]
        simp only [beq_iff_eq, Function.comp]
        omega
    rw [e]

theorem true_laws_FnExactFreePlaces (a : GMesh) (hs : (List GHold)) (h0_0 : a.Places.length ≤ 9223372036854775807) (h0_1 : a.Triangles.length ≤ 9223372036854775807) (h0_2 : ∀ t ∈ a.Triangles, t.length ≤ 9223372036854775807) (h1_0 : hs.length ≤ 9223372036854775807) : v_laws_FnExactFreePlaces a hs = true := by
  unfold v_laws_FnExactFreePlaces
  have z0 := ok_laws_szMesh a 1048576 h0_0 h0_1 h0_2 (by omega) (by omega)
  cases hc0 : decide (v_laws_szMesh a 1048576 < 0) with
  | true => rfl
  | false =>
    simp only [decide_eq_false_iff_not] at hc0
    have z1 := ok_laws_szHoldS hs (v_laws_szMesh a 1048576) h1_0 (by omega) (by omega)
    cases hc1 : decide (v_laws_szHoldS hs (v_laws_szMesh a 1048576) < 0) with
    | true => rfl
    | false =>
      simp only [decide_eq_false_iff_not] at hc1
      have hm0 := markge_Mesh_mAooZn a 1 (by omega) (by omega) (fun t ht => by have q := z0.2.2.2.2 t ht; omega) (by omega) (by omega)
      have hm1 := markge_Hold_mon hs ((v_laws_markMesh_mAooZn a 1).1) (by omega) (by omega) (by omega)
      have l0 := le_impl_FreePlaces a hs
      have v0 := markge_Int64_mon (v_impl_FreePlaces a hs).1 1 (by omega) (by omega) (by omega)
      simp only [eq_FreePlaces] at *
      simp only [eqMesh_self, eqHoldS_self, eqInt64S_self, held_Int64_mon, beq_self_eq_true, Bool.not_true, cond_true, cond_false, bne_self_eq_false]
      rw [decide_eq_false (by omega)]
      rw [decide_eq_false (by omega)]
      rfl

end Go.Ab
