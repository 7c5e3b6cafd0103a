/- The functions of this seat as plain Lean, and that the program's are these. Printed by a program of the prover's own. -/
import Derived.Test.YtiiijolkhbnblaaB5
set_option linter.unusedVariables false
set_option maxRecDepth 100000
namespace Go.Ab
open Go.RowKit Go.Proofs.Try

theorem ln_laws_markHoldS_mon_1_1 (a_0 : (List GHold)) (k_1 : Int) : ∀ (k : Nat) (k_l0 : Int) (i_l1 : Int) (r0_l2 : (List GHold)) (hk : ((r0_l2.length : Int) - i_l1).toNat < k), (lo_laws_markHoldS_mon_1 a_0 k_1 k k_l0 i_l1 r0_l2).2.length = r0_l2.length := by
  intro k
  induction k with
  | zero => intro k_l0 i_l1 r0_l2 hk; exact absurd hk (Nat.not_lt_zero _)
  | succ k ih =>
    intro k_l0 i_l1 r0_l2 hk
    cases h_0 : (decide (i_l1 < (r0_l2.length : Int))) with
    | true =>
      have e : lo_laws_markHoldS_mon_1 a_0 k_1 (k + 1) k_l0 i_l1 r0_l2 = (lo_laws_markHoldS_mon_1 a_0 k_1 k (IntKind.wrap .i64 ((IntKind.wrap .i64 ((nd_laws_markHoldS_mon_0 k_l0) + 1)) + 1)) (i_l1 + 1) (r0_l2.set i_l1.toNat (⟨k_l0, (IntKind.wrap .i64 (k_l0 + 1)), (⟨(ofInt .f32 (IntKind.wrap .i64 ((IntKind.wrap .i64 (k_l0 + 1)) + 1))), (ofInt .f32 (IntKind.wrap .i64 ((IntKind.wrap .i64 ((IntKind.wrap .i64 (k_l0 + 1)) + 1)) + 1))), (ofInt .f32 (IntKind.wrap .i64 ((IntKind.wrap .i64 ((IntKind.wrap .i64 ((IntKind.wrap .i64 (k_l0 + 1)) + 1)) + 1)) + 1)))⟩ : GVector), (⟨(ofInt .f32 (IntKind.wrap .i64 ((IntKind.wrap .i64 ((IntKind.wrap .i64 ((IntKind.wrap .i64 ((IntKind.wrap .i64 (k_l0 + 1)) + 1)) + 1)) + 1)) + 1))), (ofInt .f32 (nd_laws_markHoldS_mon_0 k_l0)), (ofInt .f32 (IntKind.wrap .i64 ((nd_laws_markHoldS_mon_0 k_l0) + 1)))⟩ : GVector)⟩ : GHold))) := by simp only [lo_laws_markHoldS_mon_1, h_0, cond_true]
      rw [e, ih (IntKind.wrap .i64 ((IntKind.wrap .i64 ((nd_laws_markHoldS_mon_0 k_l0) + 1)) + 1)) (i_l1 + 1) (r0_l2.set i_l1.toNat (⟨k_l0, (IntKind.wrap .i64 (k_l0 + 1)), (⟨(ofInt .f32 (IntKind.wrap .i64 ((IntKind.wrap .i64 (k_l0 + 1)) + 1))), (ofInt .f32 (IntKind.wrap .i64 ((IntKind.wrap .i64 ((IntKind.wrap .i64 (k_l0 + 1)) + 1)) + 1))), (ofInt .f32 (IntKind.wrap .i64 ((IntKind.wrap .i64 ((IntKind.wrap .i64 ((IntKind.wrap .i64 (k_l0 + 1)) + 1)) + 1)) + 1)))⟩ : GVector), (⟨(ofInt .f32 (IntKind.wrap .i64 ((IntKind.wrap .i64 ((IntKind.wrap .i64 ((IntKind.wrap .i64 ((IntKind.wrap .i64 (k_l0 + 1)) + 1)) + 1)) + 1)) + 1))), (ofInt .f32 (nd_laws_markHoldS_mon_0 k_l0)), (ofInt .f32 (IntKind.wrap .i64 ((nd_laws_markHoldS_mon_0 k_l0) + 1)))⟩ : GVector)⟩ : GHold)) (by first | assumption | omega | (simp at * <;> omega) | (simp_all <;> omega))]; simp
    | false =>
      have e : lo_laws_markHoldS_mon_1 a_0 k_1 (k + 1) k_l0 i_l1 r0_l2 = (k_l0, r0_l2) := by simp only [lo_laws_markHoldS_mon_1, h_0, cond_false]
      first | (rw [e]; done) | (rw [e]; rfl)

def lr_laws_markHoldS_mon_1_0 (a_0 : (List GHold)) (k_1 : Int) : Int × (List GHold) := (lo_laws_markHoldS_mon_1 a_0 k_1 (((a_0.length : Int) - 0).toNat + 1) k_1 0 a_0)

@[simp] theorem len_lr_laws_markHoldS_mon_1_0_1 (a_0 : (List GHold)) (k_1 : Int) : (lr_laws_markHoldS_mon_1_0 a_0 k_1).2.length = (a_0 : (List GHold)).length := ln_laws_markHoldS_mon_1_1 a_0 k_1 (((a_0.length : Int) - 0).toNat + 1) k_1 0 a_0 (by first | exact Nat.lt_succ_self _ | simp)

def v_laws_markHoldS_mon (a_0 : (List GHold)) (k_1 : Int) : Int × (List GHold) := ((lr_laws_markHoldS_mon_1_0 a_0 k_1).1, (lr_laws_markHoldS_mon_1_0 a_0 k_1).2)

@[simp] theorem len_v_laws_markHoldS_mon_1 (a_0 : (List GHold)) (k_1 : Int) : (v_laws_markHoldS_mon a_0 k_1).2.length = a_0.length := by
  first | (simp [v_laws_markHoldS_mon]; done)

theorem t_laws_markHoldS_mon (a_0 : (List GHold)) (k_1 : Int) (hp0 : a_0.length ≤ 1073741824)  : CallSt prog 33 [.vec 114 8 (a_0.map GHold.cells) false] [.own 0, .i .i64 k_1] (.i .i64 ((v_laws_markHoldS_mon a_0 k_1).1)) [.vec 114 8 (((v_laws_markHoldS_mon a_0 k_1).2).map GHold.cells) false] := by
 refine callS (EpOk 1) hMixed (c := bodyOf f33) [.vec 114 8 (a_0.map GHold.cells) false] [] (.i .i64 ((lr_laws_markHoldS_mon_1_0 a_0 k_1).1)) [.vec 114 8 (((lr_laws_markHoldS_mon_1_0 a_0 k_1).2).map GHold.cells) false] func33 (sL mk_laws_markHoldS_mon_1_0 1 (lp_val (ls_laws_markHoldS_mon_1 a_0 k_1) (x := (lr_laws_markHoldS_mon_1_0 a_0 k_1)) (lp_laws_markHoldS_mon_1 a_0 k_1 hp0 (((a_0.length : Int) - 0).toNat + 1) k_1 0 a_0 (show 0 ≤ 0 from (by first | assumption | omega | (simp at * <;> omega) | (simp_all <;> omega))) (show a_0.length = a_0.length from (by simp)) (Nat.lt_succ_self _)) rfl) <| sK [] sN) rfl (by kernel_rfl) (by kernel_rfl) ?_ ?_
 · rfl
 · simp [v_laws_markHoldS_mon]

def mk_Hold_mon (_ : GHold) (c : Int) : Int × GHold := ((IntKind.wrap .i64 ((IntKind.wrap .i64 ((IntKind.wrap .i64 ((IntKind.wrap .i64 ((IntKind.wrap .i64 ((IntKind.wrap .i64 ((IntKind.wrap .i64 ((IntKind.wrap .i64 (c + 1)) + 1)) + 1)) + 1)) + 1)) + 1)) + 1)) + 1)), ⟨c, (IntKind.wrap .i64 (c + 1)), ⟨ofInt .f32 (IntKind.wrap .i64 ((IntKind.wrap .i64 (c + 1)) + 1)), ofInt .f32 (IntKind.wrap .i64 ((IntKind.wrap .i64 ((IntKind.wrap .i64 (c + 1)) + 1)) + 1)), ofInt .f32 (IntKind.wrap .i64 ((IntKind.wrap .i64 ((IntKind.wrap .i64 ((IntKind.wrap .i64 (c + 1)) + 1)) + 1)) + 1))⟩, ⟨ofInt .f32 (IntKind.wrap .i64 ((IntKind.wrap .i64 ((IntKind.wrap .i64 ((IntKind.wrap .i64 ((IntKind.wrap .i64 (c + 1)) + 1)) + 1)) + 1)) + 1)), ofInt .f32 (IntKind.wrap .i64 ((IntKind.wrap .i64 ((IntKind.wrap .i64 ((IntKind.wrap .i64 ((IntKind.wrap .i64 ((IntKind.wrap .i64 (c + 1)) + 1)) + 1)) + 1)) + 1)) + 1)), ofInt .f32 (IntKind.wrap .i64 ((IntKind.wrap .i64 ((IntKind.wrap .i64 ((IntKind.wrap .i64 ((IntKind.wrap .i64 ((IntKind.wrap .i64 ((IntKind.wrap .i64 (c + 1)) + 1)) + 1)) + 1)) + 1)) + 1)) + 1))⟩⟩)
theorem mkeq_Hold_mon (a : List GHold) (c : Int) : v_laws_markHoldS_mon a c = mkL mk_Hold_mon a c := by
  unfold v_laws_markHoldS_mon lr_laws_markHoldS_mon_1_0
  rw [mark_loop (f := mk_Hold_mon) (lo := lo_laws_markHoldS_mon_1 a c) (fun k c i r => rfl) _ _ _ _ (Int.le_refl 0) (Nat.lt_succ_self _)]
  simp
theorem markge_Hold_mon (a : List GHold) (c : Int) (g0 : a.length ≤ 1073741824) (h0 : 0 ≤ c) (h1 : c ≤ 4611686018427387904) : c ≤ (v_laws_markHoldS_mon a c).1 ∧ (v_laws_markHoldS_mon a c).1 ≤ c + 8589934592 := by
  rw [mkeq_Hold_mon]
  have q := mkL_ge (f := mk_Hold_mon) (W := 8) a c (fun x _ c k0 k1 => by simp only [mk_Hold_mon]; rw [wrap_id (n := c + 1) (by omega) (by omega), show c + 1 + 1 = c + 2 from by omega, wrap_id (n := c + 2) (by omega) (by omega), show c + 2 + 1 = c + 3 from by omega, wrap_id (n := c + 3) (by omega) (by omega), show c + 3 + 1 = c + 4 from by omega, wrap_id (n := c + 4) (by omega) (by omega), show c + 4 + 1 = c + 5 from by omega, wrap_id (n := c + 5) (by omega) (by omega), show c + 5 + 1 = c + 6 from by omega, wrap_id (n := c + 6) (by omega) (by omega), show c + 6 + 1 = c + 7 from by omega, wrap_id (n := c + 7) (by omega) (by omega), show c + 7 + 1 = c + 8 from by omega, wrap_id (n := c + 8) (by omega) (by omega)]; omega) h0 (by omega)
  omega

def lo_laws_heldVectorS_1 (a_0 : (List GVector)) (k_1 : Int) : Nat → Int → Int → (Unit) ⊕ (Int)
  | 0, _, _ => .inl default
  | k + 1, k_l0, i_l1 => (cond (decide (i_l1 < (a_0.length : Int)))
    (cond (fcmp .neq .f32 ((a_0.getD i_l1.toNat default).X) (ofInt .f32 k_l0))
      (.inl ())
      (cond (fcmp .neq .f32 ((a_0.getD i_l1.toNat default).Y) (ofInt .f32 (IntKind.wrap .i64 (k_l0 + 1))))
        (.inl ())
        (cond (fcmp .neq .f32 ((a_0.getD i_l1.toNat default).Z) (ofInt .f32 (IntKind.wrap .i64 ((IntKind.wrap .i64 (k_l0 + 1)) + 1))))
          (.inl ())
          (lo_laws_heldVectorS_1 a_0 k_1 k (IntKind.wrap .i64 ((IntKind.wrap .i64 ((IntKind.wrap .i64 (k_l0 + 1)) + 1)) + 1)) (i_l1 + 1)))))
    (.inr k_l0))

def ls_laws_heldVectorS_1 (a_0 : (List GVector)) (k_1 : Int) : (Unit) ⊕ (Int) → Ex × St
  | .inl r => (.ret, ⟨[.any, .any, .any, .any, .i .i64 (-1), .any, .any, .any, .any, .any, .any, .any, .any, .any, .any, .any, .any, .any, .any, .any, .any, .any, .any, .any, .any, .any, .any, .any, .any, .any, .any, .any, .any, .any, .any, .any, .any, .any, .any, .any, .any, .any, .any], []⟩)
  | .inr r => ((.exit 0), ⟨[.any, .i .i64 r, .any, .any, .any, .any, .any, .any, .any, .any, .any, .any, .any, .any, .any, .any, .any, .any, .any, .any, .any, .any, .any, .any, .any, .any, .any, .any, .any, .any, .any, .any, .any, .any, .any, .any, .any, .any, .any, .any, .any, .any, .any], []⟩)

def hd_laws_heldVectorS_1 (a_0 : (List GVector)) (k_1 : Int) (k_l0 : Int) (i_l1 : Int) : St := ⟨[.sl (a_0.map GVector.cells), .i .i64 k_l0, .any, .any, .any, .i .i64 i_l1, .any, .any, .any, .any, .any, .any, .any, .any, .any, .any, .any, .any, .any, .any, .any, .any, .any, .any, .any, .any, .any, .any, .any, .any, .any, .any, .any, .any, .any, .any, .any, .any, .any, .any, .any, .any, .any], []⟩

def mk_laws_heldVectorS_1_0 : List Bool := [true, true, false, false, false, true, false, false, false, false, false, false, false, false, false, false, false, false, false, false, false, false, false, false, false, false, false, false, false, false, false, false, false, false, false, false, false, false, false, false, false, false, false]

def mk_laws_heldVectorS_1_1 : List Bool := [false, false, false, false, true, false, false, false, false, false, false, false, false, false, false, false, false, false, false, false, false, false, false, false, false, false, false, false, false, false, false, false, false, false, false, false, false, false, false, false, false, false, false]

def mk_laws_heldVectorS_1_2 : List Bool := [false, true, false, false, false, false, false, false, false, false, false, false, false, false, false, false, false, false, false, false, false, false, false, false, false, false, false, false, false, false, false, false, false, false, false, false, false, false, false, false, false, false, false]

theorem lp_laws_heldVectorS_1 (a_0 : (List GVector)) (k_1 : Int) (hp0 : a_0.length ≤ 1073741824) : ∀ (k : Nat) (k_l0 : Int) (i_l1 : Int) (hv_laws_heldVectorS_1_0 : 0 ≤ i_l1) (hk : ((a_0.length : Int) - i_l1).toNat < k), Lp prog 0 (sub (bodyOf f42) [1, 0, 1, 0, 0]) (hd_laws_heldVectorS_1 a_0 k_1 k_l0 i_l1) (ls_laws_heldVectorS_1 a_0 k_1 (lo_laws_heldVectorS_1 a_0 k_1 k k_l0 i_l1)).1 (ls_laws_heldVectorS_1 a_0 k_1 (lo_laws_heldVectorS_1 a_0 k_1 k k_l0 i_l1)).2 := by
 intro k
 induction k with
 | zero => intro k_l0 i_l1 hv_laws_heldVectorS_1_0 hk; exact absurd hk (Nat.not_lt_zero _)
 | succ k ih =>
  intro k_l0 i_l1 hv_laws_heldVectorS_1_0 hk
  have p {a C} (s : Scr a C) := sZ GVector.cells a_0 <| s
  cases h_0 : (decide (i_l1 < (a_0.length : Int))) with
  | true =>
   have y_0 : (0 : Int) ≤ i_l1 := by clear p; exact (by first | assumption | omega | (simp at * <;> omega) | (simp_all <;> omega))
   have y_1 : i_l1 < (a_0.length : Int) := by clear p; exact (by first | assumption | omega | (simp at * <;> omega) | (simp_all <;> omega))
   have q {a C} (s : Scr a C) := p (sB h_0 <| sG GVector.cells a_0 i_l1 y_0 y_1 <| s)
   clear p
   cases h_1 : (fcmp .neq .f32 ((a_0.getD i_l1.toNat default).X) (ofInt .f32 k_l0)) with
   | true =>
    have e : lo_laws_heldVectorS_1 a_0 k_1 (k + 1) k_l0 i_l1 = (.inl ()) := by simp only [lo_laws_heldVectorS_1, h_0, h_1, cond_true]
    rw [e]
    exact outR (e := .ret) E0Ok hMixed [] mk_laws_heldVectorS_1_1 [] (q (sB h_1 <| sN)) (by kernel_rfl) (by intro h; cases h)
   | false =>
    have p {a C} (s : Scr a C) := q (sB h_1 <| sW .i64 (k_l0 + 1) <| sG GVector.cells a_0 i_l1 y_0 y_1 <| s)
    clear q
    cases h_2 : (fcmp .neq .f32 ((a_0.getD i_l1.toNat default).Y) (ofInt .f32 (IntKind.wrap .i64 (k_l0 + 1)))) with
    | true =>
     have e : lo_laws_heldVectorS_1 a_0 k_1 (k + 1) k_l0 i_l1 = (.inl ()) := by simp only [lo_laws_heldVectorS_1, h_0, h_1, h_2, cond_true, cond_false]
     rw [e]
     exact outR (e := .ret) E0Ok hMixed [] mk_laws_heldVectorS_1_1 [] (p (sB h_2 <| sN)) (by kernel_rfl) (by intro h; cases h)
    | false =>
     have q {a C} (s : Scr a C) := p (sB h_2 <| sW .i64 ((IntKind.wrap .i64 (k_l0 + 1)) + 1) <| sG GVector.cells a_0 i_l1 y_0 y_1 <| s)
     clear p
     cases h_3 : (fcmp .neq .f32 ((a_0.getD i_l1.toNat default).Z) (ofInt .f32 (IntKind.wrap .i64 ((IntKind.wrap .i64 (k_l0 + 1)) + 1)))) with
     | true =>
      have e : lo_laws_heldVectorS_1 a_0 k_1 (k + 1) k_l0 i_l1 = (.inl ()) := by simp only [lo_laws_heldVectorS_1, h_0, h_1, h_2, h_3, cond_true, cond_false]
      rw [e]
      exact outR (e := .ret) E0Ok hMixed [] mk_laws_heldVectorS_1_1 [] (q (sB h_3 <| sN)) (by kernel_rfl) (by intro h; cases h)
     | false =>
      have y_2 : (-9223372036854775808 : Int) ≤ (i_l1 + 1) := by clear q; exact (by first | assumption | omega | (simp at * <;> omega) | (simp_all <;> omega))
      have y_3 : (i_l1 + 1) ≤ (9223372036854775807 : Int) := by clear q; exact (by first | assumption | omega | (simp at * <;> omega) | (simp_all <;> omega))
      have e : lo_laws_heldVectorS_1 a_0 k_1 (k + 1) k_l0 i_l1 = (lo_laws_heldVectorS_1 a_0 k_1 k (IntKind.wrap .i64 ((IntKind.wrap .i64 ((IntKind.wrap .i64 (k_l0 + 1)) + 1)) + 1)) (i_l1 + 1)) := by simp only [lo_laws_heldVectorS_1, h_0, h_1, h_2, h_3, cond_true, cond_false]
      rw [e]
      exact nextR E0Ok hMixed [] mk_laws_heldVectorS_1_0 [] (ih (IntKind.wrap .i64 ((IntKind.wrap .i64 ((IntKind.wrap .i64 (k_l0 + 1)) + 1)) + 1)) (i_l1 + 1) (show 0 ≤ (i_l1 + 1) from (by first | assumption | omega | (simp at * <;> omega) | (simp_all <;> omega))) (by first | assumption | omega | (simp at * <;> omega) | (simp_all <;> omega))) (q (sB h_3 <| sW .i64 ((IntKind.wrap .i64 ((IntKind.wrap .i64 (k_l0 + 1)) + 1)) + 1) <| sI (i_l1 + 1) y_2 y_3 <| sN)) (by kernel_rfl)
  | false =>
   have e : lo_laws_heldVectorS_1 a_0 k_1 (k + 1) k_l0 i_l1 = (.inr k_l0) := by simp only [lo_laws_heldVectorS_1, h_0, cond_false]
   rw [e]
   exact outR (e := (.exit 0)) E0Ok hMixed [] mk_laws_heldVectorS_1_2 [] (p (sB h_0 <| sN)) (by kernel_rfl) (by intro h; cases h)

def lr_laws_heldVectorS_1_0 (a_0 : (List GVector)) (k_1 : Int) : (Unit) ⊕ (Int) := (lo_laws_heldVectorS_1 a_0 k_1 (((a_0.length : Int) - 0).toNat + 1) k_1 0)

def v_laws_heldVectorS (a_0 : (List GVector)) (k_1 : Int) : Int := (match (lr_laws_heldVectorS_1_0 a_0 k_1) with
  | .inl r1 => (-1)
  | .inr r1 => r1)

theorem t_laws_heldVectorS (a_0 : (List GVector)) (k_1 : Int) (hp0 : a_0.length ≤ 1073741824)  : Fn prog 42 [.sl (a_0.map GVector.cells), .i .i64 k_1] (.i .i64 (v_laws_heldVectorS a_0 k_1)) [] := by
 cases h0 : (lr_laws_heldVectorS_1_0 a_0 k_1) with
 | inl r1 =>
  refine fnS E0Ok hMixed (c := bodyOf f42) [] (.i .i64 (-1)) [] func42 (sL mk_laws_heldVectorS_1_0 0 (lp_val (ls_laws_heldVectorS_1 a_0 k_1) (x := (lr_laws_heldVectorS_1_0 a_0 k_1)) (lp_laws_heldVectorS_1 a_0 k_1 hp0 (((a_0.length : Int) - 0).toNat + 1) k_1 0 (show 0 ≤ 0 from (by first | assumption | omega | (simp at * <;> omega) | (simp_all <;> omega))) (Nat.lt_succ_self _)) h0) <| sK [] sN) rfl (by kernel_rfl) (by kernel_rfl) rfl ?_ ?_
  · simp only [v_laws_heldVectorS, h0]
  · rfl
 | inr r1 =>
  refine fnS E0Ok hMixed (c := bodyOf f42) [] (.i .i64 r1) [] func42 (sL mk_laws_heldVectorS_1_0 0 (lp_val (ls_laws_heldVectorS_1 a_0 k_1) (x := (lr_laws_heldVectorS_1_0 a_0 k_1)) (lp_laws_heldVectorS_1 a_0 k_1 hp0 (((a_0.length : Int) - 0).toNat + 1) k_1 0 (show 0 ≤ 0 from (by first | assumption | omega | (simp at * <;> omega) | (simp_all <;> omega))) (Nat.lt_succ_self _)) h0) <| sK [] sN) rfl (by kernel_rfl) (by kernel_rfl) rfl ?_ ?_
  · simp only [v_laws_heldVectorS, h0]
  · rfl

def hp_Vector (x : GVector) (c : Int) : Bool := (!(fcmp .neq .f32 x.X (ofInt .f32 c))) && (!(fcmp .neq .f32 x.Y (ofInt .f32 (IntKind.wrap .i64 (c + 1))))) && (!(fcmp .neq .f32 x.Z (ofInt .f32 (IntKind.wrap .i64 ((IntKind.wrap .i64 (c + 1)) + 1)))))
def hq_Vector (_ : GVector) (c : Int) : Int := (IntKind.wrap .i64 ((IntKind.wrap .i64 ((IntKind.wrap .i64 (c + 1)) + 1)) + 1))
theorem hdeq_Vector (a : List GVector) (c : Int) : v_laws_heldVectorS a c = match hdL hp_Vector hq_Vector a c with
    | some c' => c'
    | none => -1 := by
  unfold v_laws_heldVectorS lr_laws_heldVectorS_1_0
  rw [held_loop (p := hp_Vector) (q := hq_Vector) (a := a) (x := ()) (lo := lo_laws_heldVectorS_1 a c) (fun k c i => by
    rw [lo_laws_heldVectorS_1]
    unfold hp_Vector hq_Vector
    generalize a.getD i.toNat default = x
    cases decide (i < (a.length : Int)) <;> cases fcmp .neq .f32 x.X (ofInt .f32 c) <;> cases fcmp .neq .f32 x.Y (ofInt .f32 (IntKind.wrap .i64 (c + 1))) <;> cases fcmp .neq .f32 x.Z (ofInt .f32 (IntKind.wrap .i64 ((IntKind.wrap .i64 (c + 1)) + 1))) <;> rfl) _ _ _ (Int.le_refl 0) (Nat.lt_succ_self _)]
  simp only [Int.toNat_zero, List.drop_zero]
  cases hdL hp_Vector hq_Vector a c <;> rfl

def nd_laws_FnExactHoldForces_0 (arr_0 : GMesh) (p_1 : (List GHold)) (p_2 : (List GVector)) : Bool := (v_laws_eqVectorS ((v_impl_HoldForces (v_laws_toMesh arr_0) (v_laws_toHoldS p_1) (v_laws_toVectorS p_2)).1) ((v_spec_HoldForces (v_laws_toMesh arr_0) (v_laws_toHoldS p_1) (v_laws_toVectorS p_2)).1))

def nd_laws_FnExactHoldForces_1 (arr_0 : GMesh) (p_1 : (List GHold)) (p_2 : (List GVector)) : Bool := (!((v_impl_HoldForces (v_laws_toMesh arr_0) (v_laws_toHoldS p_1) (v_laws_toVectorS p_2)).2 == (v_spec_HoldForces (v_laws_toMesh arr_0) (v_laws_toHoldS p_1) (v_laws_toVectorS p_2)).2))

def v_laws_FnExactHoldForces (arr_0 : GMesh) (p_1 : (List GHold)) (p_2 : (List GVector)) : Bool := (cond (decide ((v_laws_szMesh arr_0 1048576) < 0))
  true
  (cond (decide ((v_laws_szHoldS p_1 (v_laws_szMesh arr_0 1048576)) < 0))
    true
    (cond (decide ((v_laws_szVectorS p_2 (v_laws_szHoldS p_1 (v_laws_szMesh arr_0 1048576))) < 0))
      true
      (cond (nd_laws_FnExactHoldForces_0 arr_0 p_1 p_2)
        (cond (nd_laws_FnExactHoldForces_1 arr_0 p_1 p_2)
          false
          (cond (v_laws_eqMesh (v_laws_toMesh arr_0) (v_laws_toMesh arr_0))
            (cond (v_laws_eqHoldS (v_laws_toHoldS p_1) (v_laws_toHoldS p_1))
              (cond (v_laws_eqVectorS (v_laws_toVectorS p_2) (v_laws_toVectorS p_2))
                (cond (decide ((v_laws_markVectorS_mon (v_laws_toVectorS p_2) ((v_laws_markHoldS_mon (v_laws_toHoldS p_1) ((v_laws_markMesh_mAooZn (v_laws_toMesh arr_0) 1).1)).1)).1 < 0))
                  false
                  (cond (decide ((v_laws_heldVectorS ((v_laws_markVectorS_mon ((v_impl_HoldForces (v_laws_toMesh arr_0) (v_laws_toHoldS p_1) (v_laws_toVectorS p_2)).1) 1).2) 1) < 0))
                    false
                    (cond ((v_laws_heldVectorS ((v_laws_markVectorS_mon ((v_impl_HoldForces (v_laws_toMesh arr_0) (v_laws_toHoldS p_1) (v_laws_toVectorS p_2)).1) 1).2) 1) != (v_laws_markVectorS_mon ((v_impl_HoldForces (v_laws_toMesh arr_0) (v_laws_toHoldS p_1) (v_laws_toVectorS p_2)).1) 1).1)
                      false
                      true)))
                false)
              false)
            false))
        false))))

set_option maxHeartbeats 1000000 in
theorem t_laws_FnExactHoldForces (arr_0 : GMesh) (p_1 : (List GHold)) (p_2 : (List GVector)) (hp0 : arr_0.Places.length ≤ 9223372036854775807) (hp1 : arr_0.Triangles.length ≤ 9223372036854775807) (hp2 : ∀ t ∈ arr_0.Triangles, t.length ≤ 9223372036854775807) (hp3 : p_1.length ≤ 9223372036854775807) (hp4 : p_2.length ≤ 9223372036854775807)  : Fn prog 6 [.agg [.sl (arr_0.Places.map GVector.cells), .sl (arr_0.Triangles.map (cL (cI .i64)))], .sl (p_1.map GHold.cells), .sl (p_2.map GVector.cells)] (.b (v_laws_FnExactHoldForces arr_0 p_1 p_2)) [] := by
 have z0 := (ok_laws_szMesh arr_0 1048576 (by omega) (by omega) (by assumption) (by omega) (by omega))
 have z1 := (ok_laws_szHoldS p_1 (v_laws_szMesh arr_0 1048576) (by omega) (by omega) (by omega))
 have z2 := (ok_laws_szVectorS p_2 (v_laws_szHoldS p_1 (v_laws_szMesh arr_0 1048576)) (by omega) (by omega) (by omega))
 have p {a C} (s : Scr a C) := sF (t_laws_szMesh arr_0 1048576 hp0 hp1 hp2) <| s
 cases h0 : (decide ((v_laws_szMesh arr_0 1048576) < 0)) with
 | true =>
  refine fnS E0Ok hMixed (c := bodyOf f6) [] (.b true) [] func6 (p (sB h0 <| sK [] sN)) rfl (by kernel_rfl) (by kernel_rfl) rfl ?_ ?_
  · simp only [v_laws_FnExactHoldForces, h0, cond_true]
  · rfl
 | false =>
  have q {a C} (s : Scr a C) := p (sB h0 <| sF (t_laws_szHoldS p_1 (v_laws_szMesh arr_0 1048576) hp3) <| s)
  clear p
  cases h1 : (decide ((v_laws_szHoldS p_1 (v_laws_szMesh arr_0 1048576)) < 0)) with
  | true =>
   refine fnS E0Ok hMixed (c := bodyOf f6) [] (.b true) [] func6 (q (sB h1 <| sK [] sN)) rfl (by kernel_rfl) (by kernel_rfl) rfl ?_ ?_
   · simp only [v_laws_FnExactHoldForces, h0, h1, cond_true, cond_false]
   · rfl
  | false =>
   have p {a C} (s : Scr a C) := q (sB h1 <| sF (t_laws_szVectorS p_2 (v_laws_szHoldS p_1 (v_laws_szMesh arr_0 1048576)) hp4) <| s)
   clear q
   cases h2 : (decide ((v_laws_szVectorS p_2 (v_laws_szHoldS p_1 (v_laws_szMesh arr_0 1048576))) < 0)) with
   | true =>
    refine fnS E0Ok hMixed (c := bodyOf f6) [] (.b true) [] func6 (p (sB h2 <| sK [] sN)) rfl (by kernel_rfl) (by kernel_rfl) rfl ?_ ?_
    · simp only [v_laws_FnExactHoldForces, h0, h1, h2, cond_true, cond_false]
    · rfl
   | false =>
    have y0 : arr_0.Places.length ≤ 1073741824 := by clear p; exact (by first | assumption | omega | (first | (intro t ht; have ht0 := ht; (try simp at ht); simp only [decide_eq_false_iff_not, Int.not_lt] at *; first | (have q := z0.2.2.2.2 t ht; have q1 := z2.2.1; omega))) | (simp at * <;> omega) | (simp_all <;> omega))
    have y1 : arr_0.Triangles.length ≤ 1073741824 := by clear p; exact (by first | assumption | omega | (first | (intro t ht; have ht0 := ht; (try simp at ht); simp only [decide_eq_false_iff_not, Int.not_lt] at *; first | (have q := z0.2.2.2.2 t ht; have q1 := z2.2.1; omega))) | (simp at * <;> omega) | (simp_all <;> omega))
    have y2 : ∀ t ∈ arr_0.Triangles, t.length ≤ 1073741824 := by clear p; exact (by first | assumption | omega | (first | (intro t ht; have ht0 := ht; (try simp at ht); simp only [decide_eq_false_iff_not, Int.not_lt] at *; first | (have q := z0.2.2.2.2 t ht; have q1 := z2.2.1; omega))) | (simp at * <;> omega) | (simp_all <;> omega))
    have y3 : p_1.length ≤ 1073741824 := by clear p; exact (by first | assumption | omega | (first | (intro t ht; have ht0 := ht; (try simp at ht); simp only [decide_eq_false_iff_not, Int.not_lt] at *; first | (have q := z0.2.2.2.2 t ht; have q1 := z2.2.1; omega))) | (simp at * <;> omega) | (simp_all <;> omega))
    have y4 : p_2.length ≤ 1073741824 := by clear p; exact (by first | assumption | omega | (first | (intro t ht; have ht0 := ht; (try simp at ht); simp only [decide_eq_false_iff_not, Int.not_lt] at *; first | (have q := z0.2.2.2.2 t ht; have q1 := z2.2.1; omega))) | (simp at * <;> omega) | (simp_all <;> omega))
    have y5 : (v_laws_toMesh arr_0).Places.length ≤ 1073741824 := by clear p; exact (by first | assumption | omega | (first | (intro t ht; have ht0 := ht; (try simp at ht); simp only [decide_eq_false_iff_not, Int.not_lt] at *; first | (have q := z0.2.2.2.2 t ht; have q1 := z2.2.1; omega))) | (simp at * <;> omega) | (simp_all <;> omega))
    have y6 : (v_laws_toMesh arr_0).Triangles.length ≤ 1073741824 := by clear p; exact (by first | assumption | omega | (first | (intro t ht; have ht0 := ht; (try simp at ht); simp only [decide_eq_false_iff_not, Int.not_lt] at *; first | (have q := z0.2.2.2.2 t ht; have q1 := z2.2.1; omega))) | (simp at * <;> omega) | (simp_all <;> omega))
    have y7 : ∀ t ∈ (v_laws_toMesh arr_0).Triangles, t.length ≤ 1073741824 := by clear p; exact (by first | assumption | omega | (first | (intro t ht; have ht0 := ht; (try simp at ht); simp only [decide_eq_false_iff_not, Int.not_lt] at *; first | (have q := z0.2.2.2.2 t ht; have q1 := z2.2.1; omega))) | (simp at * <;> omega) | (simp_all <;> omega))
    have y8 : (v_laws_toHoldS p_1).length ≤ 1073741824 := by clear p; exact (by first | assumption | omega | (first | (intro t ht; have ht0 := ht; (try simp at ht); simp only [decide_eq_false_iff_not, Int.not_lt] at *; first | (have q := z0.2.2.2.2 t ht; have q1 := z2.2.1; omega))) | (simp at * <;> omega) | (simp_all <;> omega))
    have y9 : (v_laws_toVectorS p_2).length ≤ 1073741824 := by clear p; exact (by first | assumption | omega | (first | (intro t ht; have ht0 := ht; (try simp at ht); simp only [decide_eq_false_iff_not, Int.not_lt] at *; first | (have q := z0.2.2.2.2 t ht; have q1 := z2.2.1; omega))) | (simp at * <;> omega) | (simp_all <;> omega))
    have y10 : ((v_impl_HoldForces (v_laws_toMesh arr_0) (v_laws_toHoldS p_1) (v_laws_toVectorS p_2)).1).length ≤ 1073741824 := by clear p; exact (by first | assumption | omega | (first | (intro t ht; have ht0 := ht; (try simp at ht); simp only [decide_eq_false_iff_not, Int.not_lt] at *; first | (have q := z0.2.2.2.2 t ht; have q1 := z2.2.1; omega)) | (have l0 := (le_v_spec_HoldForces_0 (v_laws_toMesh arr_0) (v_laws_toHoldS p_1) (v_laws_toVectorS p_2)); have l1 := (le_v_impl_HoldForces_0 (v_laws_toMesh arr_0) (v_laws_toHoldS p_1) (v_laws_toVectorS p_2)); (try simp at *); omega)) | (simp at * <;> omega) | (simp_all <;> omega))
    have y11 : ((v_spec_HoldForces (v_laws_toMesh arr_0) (v_laws_toHoldS p_1) (v_laws_toVectorS p_2)).1).length ≤ 1073741824 := by clear p; exact (by first | assumption | omega | (first | (intro t ht; have ht0 := ht; (try simp at ht); simp only [decide_eq_false_iff_not, Int.not_lt] at *; first | (have q := z0.2.2.2.2 t ht; have q1 := z2.2.1; omega)) | (have l0 := (le_v_spec_HoldForces_0 (v_laws_toMesh arr_0) (v_laws_toHoldS p_1) (v_laws_toVectorS p_2)); have l1 := (le_v_impl_HoldForces_0 (v_laws_toMesh arr_0) (v_laws_toHoldS p_1) (v_laws_toVectorS p_2)); (try simp at *); omega)) | (simp at * <;> omega) | (simp_all <;> omega))
    have q {a C} (s : Scr a C) := p (sB h2 <| sF (t_laws_toMesh arr_0 y0 y1 y2) <| sF (t_laws_toHoldS p_1 y3) <| sF (t_laws_toVectorS p_2 y4) <| sF (Fn.castA (args' := [.agg [.sl (((v_laws_toMesh arr_0).Places).map GVector.cells), .sl ((((v_laws_toMesh arr_0).Triangles).map fun l => l.map (cI .i64)).map fun l => [.sl l])], .sl ((v_laws_toHoldS p_1).map GHold.cells), .sl ((v_laws_toVectorS p_2).map GVector.cells)]) (t_spec_HoldForces (v_laws_toMesh arr_0) (v_laws_toHoldS p_1) (v_laws_toVectorS p_2) y5 y6 y7 y8 y9) (by simp [cL, Function.comp_def])) <| sF (t_laws_toMesh arr_0 y0 y1 y2) <| sF (t_laws_toHoldS p_1 y3) <| sF (t_laws_toVectorS p_2 y4) <| sF (Fn.castA (args' := [.agg [.sl (((v_laws_toMesh arr_0).Places).map GVector.cells), .sl ((((v_laws_toMesh arr_0).Triangles).map fun l => l.map (cI .i64)).map fun l => [.sl l])], .sl ((v_laws_toHoldS p_1).map GHold.cells), .sl ((v_laws_toVectorS p_2).map GVector.cells)]) (t_impl_HoldForces (v_laws_toMesh arr_0) (v_laws_toHoldS p_1) (v_laws_toVectorS p_2) y5 y6 y7 y8 y9) (by simp [cL, Function.comp_def])) <| sF (t_laws_eqVectorS ((v_impl_HoldForces (v_laws_toMesh arr_0) (v_laws_toHoldS p_1) (v_laws_toVectorS p_2)).1) ((v_spec_HoldForces (v_laws_toMesh arr_0) (v_laws_toHoldS p_1) (v_laws_toVectorS p_2)).1) y10 y11) <| s)
    clear p
    cases h3 : (nd_laws_FnExactHoldForces_0 arr_0 p_1 p_2) with
    | true =>
     have p {a C} (s : Scr a C) := q (sB' h3 <| sB' h3 <| sB' h3 <| sB' h3 <| s)
     clear q
     cases h4 : (nd_laws_FnExactHoldForces_1 arr_0 p_1 p_2) with
     | true =>
      refine fnS E0Ok hMixed (c := bodyOf f6) [] (.b false) [] func6 (p (sB h4 <| sK [] sN)) rfl (by kernel_rfl) (by kernel_rfl) rfl ?_ ?_
      · simp only [v_laws_FnExactHoldForces, h0, h1, h2, h3, h4, cond_true, cond_false]
      · rfl
     | false =>
      have q {a C} (s : Scr a C) := p (sB h4 <| sK [3, 3] <| sF (t_laws_toMesh arr_0 y0 y1 y2) <| sF (Fn.castA (args' := [.agg [.sl (((v_laws_toMesh arr_0).Places).map GVector.cells), .sl ((((v_laws_toMesh arr_0).Triangles).map fun l => l.map (cI .i64)).map fun l => [.sl l])], .agg [.sl (((v_laws_toMesh arr_0).Places).map GVector.cells), .sl ((((v_laws_toMesh arr_0).Triangles).map fun l => l.map (cI .i64)).map fun l => [.sl l])]]) (t_laws_eqMesh (v_laws_toMesh arr_0) (v_laws_toMesh arr_0) y5 y6 y7 y5 y6 y7) (by simp [cL, Function.comp_def])) <| s)
      clear p
      cases h5 : (v_laws_eqMesh (v_laws_toMesh arr_0) (v_laws_toMesh arr_0)) with
      | true =>
       have p {a C} (s : Scr a C) := q (sB' h5 <| sF (t_laws_toHoldS p_1 y3) <| sF (t_laws_eqHoldS (v_laws_toHoldS p_1) (v_laws_toHoldS p_1) y8 y8) <| s)
       clear q
       cases h6 : (v_laws_eqHoldS (v_laws_toHoldS p_1) (v_laws_toHoldS p_1)) with
       | true =>
        have q {a C} (s : Scr a C) := p (sB' h6 <| sF (t_laws_toVectorS p_2 y4) <| sF (t_laws_eqVectorS (v_laws_toVectorS p_2) (v_laws_toVectorS p_2) y9 y9) <| s)
        clear p
        cases h7 : (v_laws_eqVectorS (v_laws_toVectorS p_2) (v_laws_toVectorS p_2)) with
        | true =>
         have p {a C} (s : Scr a C) := q (sB' h7 <| sS (CallSt.frame (t_laws_markMesh_mAooZn (v_laws_toMesh arr_0) 1 y5 y6 y7) [6, 7] (R := [.box 31 [.sl (arr_0.Places.map GVector.cells), .sl (arr_0.Triangles.map (cL (cI .i64)))], .vec 44 3 (((v_laws_toMesh arr_0).Places).map GVector.cells) false, .nest 52 (((v_laws_toMesh arr_0).Triangles).map fun l => l.map (cI .i64)) false, .vec 114 8 ((v_laws_toHoldS p_1).map GHold.cells) false, .vec 44 3 ((v_laws_toVectorS p_2).map GVector.cells) false, .vec 44 3 (((v_spec_HoldForces (v_laws_toMesh arr_0) (v_laws_toHoldS p_1) (v_laws_toVectorS p_2)).1).map GVector.cells) false, .vec 44 3 (((v_laws_toMesh arr_0).Places).map GVector.cells) false, .nest 52 (((v_laws_toMesh arr_0).Triangles).map fun l => l.map (cI .i64)) false, .box 42 [.own 6, .own 7], .vec 114 8 ((v_laws_toHoldS p_1).map GHold.cells) false, .vec 44 3 ((v_laws_toVectorS p_2).map GVector.cells) false, .vec 44 3 (((v_impl_HoldForces (v_laws_toMesh arr_0) (v_laws_toHoldS p_1) (v_laws_toVectorS p_2)).1).map GVector.cells) false, .vec 44 3 (((v_laws_toMesh arr_0).Places).map GVector.cells) false, .nest 52 (((v_laws_toMesh arr_0).Triangles).map fun l => l.map (cI .i64)) false, .vec 114 8 ((v_laws_toHoldS p_1).map GHold.cells) false, .vec 44 3 ((v_laws_toVectorS p_2).map GVector.cells) false]) (args' := [.agg [.own 6, .own 7], .i .i64 1]) rfl rfl rfl rfl rfl rfl) <| sS (CallSt.frame (t_laws_markHoldS_mon (v_laws_toHoldS p_1) ((v_laws_markMesh_mAooZn (v_laws_toMesh arr_0) 1).1) y8) [9] (R := [.box 31 [.sl (arr_0.Places.map GVector.cells), .sl (arr_0.Triangles.map (cL (cI .i64)))], .vec 44 3 (((v_laws_toMesh arr_0).Places).map GVector.cells) false, .nest 52 (((v_laws_toMesh arr_0).Triangles).map fun l => l.map (cI .i64)) false, .vec 114 8 ((v_laws_toHoldS p_1).map GHold.cells) false, .vec 44 3 ((v_laws_toVectorS p_2).map GVector.cells) false, .vec 44 3 (((v_spec_HoldForces (v_laws_toMesh arr_0) (v_laws_toHoldS p_1) (v_laws_toVectorS p_2)).1).map GVector.cells) false, .vec 44 3 (((v_laws_markMesh_mAooZn (v_laws_toMesh arr_0) 1).2.1).map GVector.cells) false, .nest 52 (((v_laws_markMesh_mAooZn (v_laws_toMesh arr_0) 1).2.2).map fun l => l.map (cI .i64)) false, .box 42 [.own 6, .own 7], .vec 114 8 ((v_laws_toHoldS p_1).map GHold.cells) false, .vec 44 3 ((v_laws_toVectorS p_2).map GVector.cells) false, .vec 44 3 (((v_impl_HoldForces (v_laws_toMesh arr_0) (v_laws_toHoldS p_1) (v_laws_toVectorS p_2)).1).map GVector.cells) false, .vec 44 3 (((v_laws_toMesh arr_0).Places).map GVector.cells) false, .nest 52 (((v_laws_toMesh arr_0).Triangles).map fun l => l.map (cI .i64)) false, .vec 114 8 ((v_laws_toHoldS p_1).map GHold.cells) false, .vec 44 3 ((v_laws_toVectorS p_2).map GVector.cells) false]) (args' := [.own 9, .i .i64 ((v_laws_markMesh_mAooZn (v_laws_toMesh arr_0) 1).1)]) rfl rfl rfl rfl rfl rfl) <| sS (CallSt.frame (t_laws_markVectorS_mon (v_laws_toVectorS p_2) ((v_laws_markHoldS_mon (v_laws_toHoldS p_1) ((v_laws_markMesh_mAooZn (v_laws_toMesh arr_0) 1).1)).1) y9) [10] (R := [.box 31 [.sl (arr_0.Places.map GVector.cells), .sl (arr_0.Triangles.map (cL (cI .i64)))], .vec 44 3 (((v_laws_toMesh arr_0).Places).map GVector.cells) false, .nest 52 (((v_laws_toMesh arr_0).Triangles).map fun l => l.map (cI .i64)) false, .vec 114 8 ((v_laws_toHoldS p_1).map GHold.cells) false, .vec 44 3 ((v_laws_toVectorS p_2).map GVector.cells) false, .vec 44 3 (((v_spec_HoldForces (v_laws_toMesh arr_0) (v_laws_toHoldS p_1) (v_laws_toVectorS p_2)).1).map GVector.cells) false, .vec 44 3 (((v_laws_markMesh_mAooZn (v_laws_toMesh arr_0) 1).2.1).map GVector.cells) false, .nest 52 (((v_laws_markMesh_mAooZn (v_laws_toMesh arr_0) 1).2.2).map fun l => l.map (cI .i64)) false, .box 42 [.own 6, .own 7], .vec 114 8 (((v_laws_markHoldS_mon (v_laws_toHoldS p_1) ((v_laws_markMesh_mAooZn (v_laws_toMesh arr_0) 1).1)).2).map GHold.cells) false, .vec 44 3 ((v_laws_toVectorS p_2).map GVector.cells) false, .vec 44 3 (((v_impl_HoldForces (v_laws_toMesh arr_0) (v_laws_toHoldS p_1) (v_laws_toVectorS p_2)).1).map GVector.cells) false, .vec 44 3 (((v_laws_toMesh arr_0).Places).map GVector.cells) false, .nest 52 (((v_laws_toMesh arr_0).Triangles).map fun l => l.map (cI .i64)) false, .vec 114 8 ((v_laws_toHoldS p_1).map GHold.cells) false, .vec 44 3 ((v_laws_toVectorS p_2).map GVector.cells) false]) (args' := [.own 10, .i .i64 ((v_laws_markHoldS_mon (v_laws_toHoldS p_1) ((v_laws_markMesh_mAooZn (v_laws_toMesh arr_0) 1).1)).1)]) rfl rfl rfl rfl rfl rfl) <| s)
         clear q
         cases h8 : (decide ((v_laws_markVectorS_mon (v_laws_toVectorS p_2) ((v_laws_markHoldS_mon (v_laws_toHoldS p_1) ((v_laws_markMesh_mAooZn (v_laws_toMesh arr_0) 1).1)).1)).1 < 0)) with
         | true =>
          refine fnS E0Ok hMixed (c := bodyOf f6) [] (.b false) [] func6 (p (sB h8 <| sB h8 <| sB h8 <| sB h8 <| sB h8 <| sB (show true = true from rfl) <| sB (show true = true from rfl) <| sB (show true = true from rfl) <| sB (show true = true from rfl) <| sB (show true = true from rfl) <| sK [] sN)) rfl (by kernel_rfl) (by kernel_rfl) rfl ?_ ?_
          · simp only [v_laws_FnExactHoldForces, h0, h1, h2, h3, h4, h5, h6, h7, h8, cond_true, cond_false]
          · rfl
         | false =>
          have y12 : ((v_laws_markVectorS_mon ((v_impl_HoldForces (v_laws_toMesh arr_0) (v_laws_toHoldS p_1) (v_laws_toVectorS p_2)).1) 1).2).length ≤ 1073741824 := by clear p; exact (by first | assumption | omega | (first | (intro t ht; have ht0 := ht; (try simp at ht); simp only [decide_eq_false_iff_not, Int.not_lt] at *; first | (have q := z0.2.2.2.2 t ht; have q1 := z2.2.1; omega)) | (have l0 := (le_v_spec_HoldForces_0 (v_laws_toMesh arr_0) (v_laws_toHoldS p_1) (v_laws_toVectorS p_2)); have l1 := (le_v_impl_HoldForces_0 (v_laws_toMesh arr_0) (v_laws_toHoldS p_1) (v_laws_toVectorS p_2)); (try simp at *); omega)) | (simp at * <;> omega) | (simp_all <;> omega))
          have q {a C} (s : Scr a C) := p (sB h8 <| sB h8 <| sB h8 <| sF (t_laws_eqVectorS ((v_impl_HoldForces (v_laws_toMesh arr_0) (v_laws_toHoldS p_1) (v_laws_toVectorS p_2)).1) ((v_spec_HoldForces (v_laws_toMesh arr_0) (v_laws_toHoldS p_1) (v_laws_toVectorS p_2)).1) y10 y11) <| sB h8 <| sB h8 <| sB' h3 <| sB' h3 <| sB' h3 <| sB' h3 <| sB h4 <| sS (CallSt.frame (t_laws_markVectorS_mon ((v_impl_HoldForces (v_laws_toMesh arr_0) (v_laws_toHoldS p_1) (v_laws_toVectorS p_2)).1) 1 y10) [11] (R := [.box 31 [.sl (arr_0.Places.map GVector.cells), .sl (arr_0.Triangles.map (cL (cI .i64)))], .vec 44 3 (((v_laws_toMesh arr_0).Places).map GVector.cells) false, .nest 52 (((v_laws_toMesh arr_0).Triangles).map fun l => l.map (cI .i64)) false, .vec 114 8 ((v_laws_toHoldS p_1).map GHold.cells) false, .vec 44 3 ((v_laws_toVectorS p_2).map GVector.cells) false, .vec 44 3 (((v_spec_HoldForces (v_laws_toMesh arr_0) (v_laws_toHoldS p_1) (v_laws_toVectorS p_2)).1).map GVector.cells) false, .vec 44 3 (((v_laws_markMesh_mAooZn (v_laws_toMesh arr_0) 1).2.1).map GVector.cells) false, .nest 52 (((v_laws_markMesh_mAooZn (v_laws_toMesh arr_0) 1).2.2).map fun l => l.map (cI .i64)) false, .box 42 [.own 6, .own 7], .vec 114 8 (((v_laws_markHoldS_mon (v_laws_toHoldS p_1) ((v_laws_markMesh_mAooZn (v_laws_toMesh arr_0) 1).1)).2).map GHold.cells) false, .vec 44 3 (((v_laws_markVectorS_mon (v_laws_toVectorS p_2) ((v_laws_markHoldS_mon (v_laws_toHoldS p_1) ((v_laws_markMesh_mAooZn (v_laws_toMesh arr_0) 1).1)).1)).2).map GVector.cells) false, .vec 44 3 (((v_impl_HoldForces (v_laws_toMesh arr_0) (v_laws_toHoldS p_1) (v_laws_toVectorS p_2)).1).map GVector.cells) false, .vec 44 3 (((v_laws_toMesh arr_0).Places).map GVector.cells) false, .nest 52 (((v_laws_toMesh arr_0).Triangles).map fun l => l.map (cI .i64)) false, .vec 114 8 ((v_laws_toHoldS p_1).map GHold.cells) false, .vec 44 3 ((v_laws_toVectorS p_2).map GVector.cells) false]) (args' := [.own 11, .i .i64 1]) rfl rfl rfl rfl rfl rfl) <| sF (t_laws_heldVectorS ((v_laws_markVectorS_mon ((v_impl_HoldForces (v_laws_toMesh arr_0) (v_laws_toHoldS p_1) (v_laws_toVectorS p_2)).1) 1).2) 1 y12) <| s)
          clear p
          cases h9 : (decide ((v_laws_heldVectorS ((v_laws_markVectorS_mon ((v_impl_HoldForces (v_laws_toMesh arr_0) (v_laws_toHoldS p_1) (v_laws_toVectorS p_2)).1) 1).2) 1) < 0)) with
          | true =>
           refine fnS E0Ok hMixed (c := bodyOf f6) [] (.b false) [] func6 (q (sB h9 <| sK [] sN)) rfl (by kernel_rfl) (by kernel_rfl) rfl ?_ ?_
           · simp only [v_laws_FnExactHoldForces, h0, h1, h2, h3, h4, h5, h6, h7, h8, h9, cond_true, cond_false]
           · rfl
          | false =>
           have p {a C} (s : Scr a C) := q (sB h9 <| s)
           clear q
           cases h10 : ((v_laws_heldVectorS ((v_laws_markVectorS_mon ((v_impl_HoldForces (v_laws_toMesh arr_0) (v_laws_toHoldS p_1) (v_laws_toVectorS p_2)).1) 1).2) 1) != (v_laws_markVectorS_mon ((v_impl_HoldForces (v_laws_toMesh arr_0) (v_laws_toHoldS p_1) (v_laws_toVectorS p_2)).1) 1).1) with
           | true =>
            refine fnS E0Ok hMixed (c := bodyOf f6) [] (.b false) [] func6 (p (sB h10 <| sK [] sN)) rfl (by kernel_rfl) (by kernel_rfl) rfl ?_ ?_
            · simp only [v_laws_FnExactHoldForces, h0, h1, h2, h3, h4, h5, h6, h7, h8, h9, h10, cond_true, cond_false]
            · rfl
           | false =>
            refine fnS E0Ok hMixed (c := bodyOf f6) [] (.b true) [] func6 (p (sB h10 <| sF (t_laws_toMesh arr_0 y0 y1 y2) <| sF (t_laws_toHoldS p_1 y3) <| sF (t_laws_toVectorS p_2 y4) <| sF (Fn.castA (args' := [.agg [.sl (((v_laws_toMesh arr_0).Places).map GVector.cells), .sl ((((v_laws_toMesh arr_0).Triangles).map fun l => l.map (cI .i64)).map fun l => [.sl l])], .sl ((v_laws_toHoldS p_1).map GHold.cells), .sl ((v_laws_toVectorS p_2).map GVector.cells)]) (t_impl_HoldForces (v_laws_toMesh arr_0) (v_laws_toHoldS p_1) (v_laws_toVectorS p_2) y5 y6 y7 y8 y9) (by simp [cL, Function.comp_def])) <| sF (t_laws_eqVectorS ((v_impl_HoldForces (v_laws_toMesh arr_0) (v_laws_toHoldS p_1) (v_laws_toVectorS p_2)).1) ((v_spec_HoldForces (v_laws_toMesh arr_0) (v_laws_toHoldS p_1) (v_laws_toVectorS p_2)).1) y10 y11) <| sB' h3 <| sB' h3 <| sB' h3 <| sB' h3 <| sB h4 <| sF (t_laws_heldVectorS ((v_laws_markVectorS_mon ((v_impl_HoldForces (v_laws_toMesh arr_0) (v_laws_toHoldS p_1) (v_laws_toVectorS p_2)).1) 1).2) 1 y12) <| sB h9 <| sB h10 <| sK [] sN)) rfl (by kernel_rfl) (by kernel_rfl) rfl ?_ ?_
            · simp only [v_laws_FnExactHoldForces, h0, h1, h2, h3, h4, h5, h6, h7, h8, h9, h10, cond_true, cond_false]
            · rfl
        | false =>
         refine fnS E0Ok hMixed (c := bodyOf f6) [] (.b false) [] func6 (q (sB' h7 <| sK [] sN)) rfl (by kernel_rfl) (by kernel_rfl) rfl ?_ ?_
         · simp only [v_laws_FnExactHoldForces, h0, h1, h2, h3, h4, h5, h6, h7, cond_true, cond_false]
         · rfl
       | false =>
        refine fnS E0Ok hMixed (c := bodyOf f6) [] (.b false) [] func6 (p (sB' h6 <| sK [] sN)) rfl (by kernel_rfl) (by kernel_rfl) rfl ?_ ?_
        · simp only [v_laws_FnExactHoldForces, h0, h1, h2, h3, h4, h5, h6, cond_true, cond_false]
        · rfl
      | false =>
       refine fnS E0Ok hMixed (c := bodyOf f6) [] (.b false) [] func6 (q (sB' h5 <| sK [] sN)) rfl (by kernel_rfl) (by kernel_rfl) rfl ?_ ?_
       · simp only [v_laws_FnExactHoldForces, h0, h1, h2, h3, h4, h5, cond_true, cond_false]
       · rfl
    | false =>
     refine fnS E0Ok hMixed (c := bodyOf f6) [] (.b false) [] func6 (q (sB' h3 <| sB' h3 <| sB' h3 <| sB' h3 <| sB (show true = true from rfl) <| sK [] sN)) rfl (by kernel_rfl) (by kernel_rfl) rfl ?_ ?_
     · simp only [v_laws_FnExactHoldForces, h0, h1, h2, h3, cond_false]
     · rfl

theorem held_Vector_mon (a : List GVector) (c : Int) : v_laws_heldVectorS (v_laws_markVectorS_mon a c).2 c = (v_laws_markVectorS_mon a c).1 := by
  rw [hdeq_Vector, mkeq_Vector_mon, hdL_mkL (fun x c => by simp [hp_Vector, mk_Vector_mon, ofInt_self]) (fun x c => rfl)]

theorem kind_of_is3 (h : GHold) (hs : v_spec_l04Is h = true) : h.Kind = 0 ∨ h.Kind = 1 ∨ h.Kind = 2 := by
  cases hk : v_spec_l00In h.Kind 0 2 with
  | false => simp [v_spec_l04Is, hk] at hs
  | true => simp [v_spec_l00In] at hk; omega
theorem holdForce_eq (h : GHold) (f : GVector) (hs : v_spec_l04Is h = true) : v_impl_holdForce h f = v_spec_l04Force h f := by
  rcases kind_of_is3 h hs with hk | hk | hk <;> simp [v_impl_holdForce, v_spec_l04Force, hk] <;> rfl
theorem lo_HoldForces (m : GMesh) (hs : List GHold) (f : List GVector) (h : ∀ x ∈ hs, v_spec_l04Is x = true) : ∀ k i r, 0 ≤ i → lo_impl_HoldForces_1 m hs f k i r = lo_spec_l04Forces_1 hs f k i r := by
  intro k
  induction k with
  | zero => intros; rfl
  | succ k ih =>
    intro i r h0
    rw [lo_impl_HoldForces_1, lo_spec_l04Forces_1]
    by_cases hi : i < (hs.length : Int)
    · have hx : v_spec_l04Is (hs.getD i.toNat default) = true := by
        have hn : i.toNat < hs.length := by omega
        rw [List.getD_eq_getElem?_getD, List.getElem?_eq_getElem hn]; exact h _ (List.getElem_mem hn)
      rw [decide_eq_true hi, cond_true, cond_true, ih _ _ (by omega), holdForce_eq _ _ hx]
    · rw [decide_eq_false hi]; rfl
theorem eq_HoldForces (m : GMesh) (hs : List GHold) (f : List GVector) : v_impl_HoldForces m hs f = v_spec_HoldForces m hs f := by
  unfold v_impl_HoldForces v_spec_HoldForces
  rw [eq_AreHolds]
  cases h : v_spec_l04Are m hs with
  | false => rfl
  | true =>
    unfold lr_impl_HoldForces_1_0 v_spec_l04Forces lr_spec_l04Forces_1_0
    rw [lo_HoldForces m hs f (okH_is m hs h).2.2 _ _ _ (Int.le_refl 0)]
theorem true_laws_FnExactHoldForces (a : GMesh) (hs : List GHold) (f : List GVector) (h0_0 : a.Places.length ≤ 9223372036854775807) (h0_1 : a.Triangles.length ≤ 9223372036854775807) (h0_2 : ∀ t ∈ a.Triangles, t.length ≤ 9223372036854775807) (h1_0 : hs.length ≤ 9223372036854775807) (h2_0 : f.length ≤ 9223372036854775807) : v_laws_FnExactHoldForces a hs f = true := by
  have z := ok_laws_szMesh a 1048576 h0_0 h0_1 h0_2 (by omega) (by omega)
  unfold v_laws_FnExactHoldForces
  cases hc : decide (v_laws_szMesh a 1048576 < 0) with
  | true => rfl
  | false =>
    simp only [decide_eq_false_iff_not] at hc
    have z1 := ok_laws_szHoldS hs (v_laws_szMesh a 1048576) (by assumption) (by omega) (by omega)
    cases hd : decide (v_laws_szHoldS hs (v_laws_szMesh a 1048576) < 0) with
    | true => rfl
    | false =>
      simp only [decide_eq_false_iff_not] at hd
      have z2 := ok_laws_szVectorS f (v_laws_szHoldS hs (v_laws_szMesh a 1048576)) (by assumption) (by omega) (by omega)
      cases he : decide (v_laws_szVectorS f (v_laws_szHoldS hs (v_laws_szMesh a 1048576)) < 0) with
      | true => rfl
      | false =>
        simp only [decide_eq_false_iff_not] at he
        have hm := markge_Mesh_mAooZn a 1 (by omega) (by omega) (fun t ht => by have q := z.2.2.2.2 t ht; omega) (by omega) (by omega)
        have hh := markge_Hold_mon hs (v_laws_markMesh_mAooZn a 1).1 (by omega) (by omega) (by omega)
        have hf := markge_Vector_mon f (v_laws_markHoldS_mon hs (v_laws_markMesh_mAooZn a 1).1).1 (by omega) (by omega) (by omega)
        have hl := le_v_impl_HoldForces_0 a hs f
        simp only [List.nil_append] at hl
        have hv := markge_Vector_mon (v_impl_HoldForces a hs f).1 1 (by omega) (by omega) (by omega)
        simp only [nd_laws_FnExactHoldForces_0, nd_laws_FnExactHoldForces_1, eq_laws_toMesh, eq_laws_toHoldS, eq_laws_toVectorS, eq_HoldForces, eqVectorS_self, eqHoldS_self, eqMesh_self, held_Vector_mon, beq_self_eq_true, Bool.not_true, cond_true, cond_false, bne_self_eq_false] at *
        rw [decide_eq_false (by omega), decide_eq_false (by omega)]
        rfl

end Go.Ab
