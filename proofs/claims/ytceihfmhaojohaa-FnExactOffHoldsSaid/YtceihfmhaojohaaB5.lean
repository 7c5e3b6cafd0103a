/- The functions of this seat as plain Lean, and that the program's are these. Printed by a program of the prover's own. -/
import Derived.Test.YtceihfmhaojohaaB4
set_option linter.unusedVariables false
set_option maxRecDepth 100000
namespace Go.Ab
open Go.RowKit

theorem same_self (x : Nat) : v_laws_sameFloat x x = true := by
  unfold v_laws_sameFloat
  cases h : fcmp .neq .f64 x x
  · simp only [cond_false]
    have h2 : fcmp .eql .f64 x x = true := by
      unfold fcmp at h ⊢
      simpa using h
    cases fcmp .eql .f64 x 0 <;> simp [h2]
  · rfl

/-- laws.eqVector -/
def v_laws_eqVector (a_0 : GVector) (b_1 : GVector) : Bool := (cond (v_laws_sameFloat (fcv .f32 .f64 a_0.X) (fcv .f32 .f64 b_1.X))
  (cond (v_laws_sameFloat (fcv .f32 .f64 a_0.Y) (fcv .f32 .f64 b_1.Y))
    (cond (v_laws_sameFloat (fcv .f32 .f64 a_0.Z) (fcv .f32 .f64 b_1.Z))
      true
      false)
    false)
  false)

theorem t_laws_eqVector (a_0 : GVector) (b_1 : GVector)   : Fn Go.Proofs.Try.prog 29 [.agg [.f .f32 a_0.X, .f .f32 a_0.Y, .f .f32 a_0.Z], .agg [.f .f32 b_1.X, .f .f32 b_1.Y, .f .f32 b_1.Z]] (.b (v_laws_eqVector a_0 b_1)) [] := by
  cases h0 : (v_laws_sameFloat (fcv .f32 .f64 a_0.X) (fcv .f32 .f64 b_1.X)) with
  | true =>
    cases h1 : (v_laws_sameFloat (fcv .f32 .f64 a_0.Y) (fcv .f32 .f64 b_1.Y)) with
    | true =>
      cases h2 : (v_laws_sameFloat (fcv .f32 .f64 a_0.Z) (fcv .f32 .f64 b_1.Z)) with
      | true =>
        exact Fn.cast (CallSt.fn (callSt_of_evK (E := E0) E0Ok hMixed (c := bodyOf Go.Proofs.Try.f29) (rows := []) (r := .b true) (rows' := [])
          (ans := [.call (.b (v_laws_sameFloat (fcv .f32 .f64 a_0.X) (fcv .f32 .f64 b_1.X))) [], .bo false, .call (.b (v_laws_sameFloat (fcv .f32 .f64 a_0.Y) (fcv .f32 .f64 b_1.Y))) [], .bo false, .call (.b (v_laws_sameFloat (fcv .f32 .f64 a_0.Z) (fcv .f32 .f64 b_1.Z))) [], .bo false, .keep []])
          (ps := [])
          (C := [fcvOk .f32 .f64 a_0.X = true,
            fcvOk .f32 .f64 b_1.X = true,
            Fn Go.Proofs.Try.prog 17 [.f .f64 (fcv .f32 .f64 a_0.X), .f .f64 (fcv .f32 .f64 b_1.X)] (.b (v_laws_sameFloat (fcv .f32 .f64 a_0.X) (fcv .f32 .f64 b_1.X))) [],
            (!(v_laws_sameFloat (fcv .f32 .f64 a_0.X) (fcv .f32 .f64 b_1.X))) = false,
            fcvOk .f32 .f64 a_0.Y = true,
            fcvOk .f32 .f64 b_1.Y = true,
            Fn Go.Proofs.Try.prog 17 [.f .f64 (fcv .f32 .f64 a_0.Y), .f .f64 (fcv .f32 .f64 b_1.Y)] (.b (v_laws_sameFloat (fcv .f32 .f64 a_0.Y) (fcv .f32 .f64 b_1.Y))) [],
            (!(v_laws_sameFloat (fcv .f32 .f64 a_0.Y) (fcv .f32 .f64 b_1.Y))) = false,
            fcvOk .f32 .f64 a_0.Z = true,
            fcvOk .f32 .f64 b_1.Z = true,
            Fn Go.Proofs.Try.prog 17 [.f .f64 (fcv .f32 .f64 a_0.Z), .f .f64 (fcv .f32 .f64 b_1.Z)] (.b (v_laws_sameFloat (fcv .f32 .f64 a_0.Z) (fcv .f32 .f64 b_1.Z))) [],
            (!(v_laws_sameFloat (fcv .f32 .f64 a_0.Z) (fcv .f32 .f64 b_1.Z))) = false])
          Go.Proofs.Try.func29 rfl (by kernel_rfl) (by kernel_rfl)
          ⟨(widenOk _), (widenOk _), (t_laws_sameFloat (fcv .f32 .f64 a_0.X) (fcv .f32 .f64 b_1.X)), (congrArg not h0), (widenOk _), (widenOk _), (t_laws_sameFloat (fcv .f32 .f64 a_0.Y) (fcv .f32 .f64 b_1.Y)), (congrArg not h1), (widenOk _), (widenOk _), (t_laws_sameFloat (fcv .f32 .f64 a_0.Z) (fcv .f32 .f64 b_1.Z)), (congrArg not h2), trivial⟩) rfl) (by simp only [v_laws_eqVector, h0, h1, h2, cond_true]) rfl
      | false =>
        exact Fn.cast (CallSt.fn (callSt_of_evK (E := E0) E0Ok hMixed (c := bodyOf Go.Proofs.Try.f29) (rows := []) (r := .b false) (rows' := [])
          (ans := [.call (.b (v_laws_sameFloat (fcv .f32 .f64 a_0.X) (fcv .f32 .f64 b_1.X))) [], .bo false, .call (.b (v_laws_sameFloat (fcv .f32 .f64 a_0.Y) (fcv .f32 .f64 b_1.Y))) [], .bo false, .call (.b (v_laws_sameFloat (fcv .f32 .f64 a_0.Z) (fcv .f32 .f64 b_1.Z))) [], .bo true, .keep []])
          (ps := [])
          (C := [fcvOk .f32 .f64 a_0.X = true,
            fcvOk .f32 .f64 b_1.X = true,
            Fn Go.Proofs.Try.prog 17 [.f .f64 (fcv .f32 .f64 a_0.X), .f .f64 (fcv .f32 .f64 b_1.X)] (.b (v_laws_sameFloat (fcv .f32 .f64 a_0.X) (fcv .f32 .f64 b_1.X))) [],
            (!(v_laws_sameFloat (fcv .f32 .f64 a_0.X) (fcv .f32 .f64 b_1.X))) = false,
            fcvOk .f32 .f64 a_0.Y = true,
            fcvOk .f32 .f64 b_1.Y = true,
            Fn Go.Proofs.Try.prog 17 [.f .f64 (fcv .f32 .f64 a_0.Y), .f .f64 (fcv .f32 .f64 b_1.Y)] (.b (v_laws_sameFloat (fcv .f32 .f64 a_0.Y) (fcv .f32 .f64 b_1.Y))) [],
            (!(v_laws_sameFloat (fcv .f32 .f64 a_0.Y) (fcv .f32 .f64 b_1.Y))) = false,
            fcvOk .f32 .f64 a_0.Z = true,
            fcvOk .f32 .f64 b_1.Z = true,
            Fn Go.Proofs.Try.prog 17 [.f .f64 (fcv .f32 .f64 a_0.Z), .f .f64 (fcv .f32 .f64 b_1.Z)] (.b (v_laws_sameFloat (fcv .f32 .f64 a_0.Z) (fcv .f32 .f64 b_1.Z))) [],
            (!(v_laws_sameFloat (fcv .f32 .f64 a_0.Z) (fcv .f32 .f64 b_1.Z))) = true])
          Go.Proofs.Try.func29 rfl (by kernel_rfl) (by kernel_rfl)
          ⟨(widenOk _), (widenOk _), (t_laws_sameFloat (fcv .f32 .f64 a_0.X) (fcv .f32 .f64 b_1.X)), (congrArg not h0), (widenOk _), (widenOk _), (t_laws_sameFloat (fcv .f32 .f64 a_0.Y) (fcv .f32 .f64 b_1.Y)), (congrArg not h1), (widenOk _), (widenOk _), (t_laws_sameFloat (fcv .f32 .f64 a_0.Z) (fcv .f32 .f64 b_1.Z)), (congrArg not h2), trivial⟩) rfl) (by simp only [v_laws_eqVector, h0, h1, h2, cond_true, cond_false]) rfl
    | false =>
      exact Fn.cast (CallSt.fn (callSt_of_evK (E := E0) E0Ok hMixed (c := bodyOf Go.Proofs.Try.f29) (rows := []) (r := .b false) (rows' := [])
        (ans := [.call (.b (v_laws_sameFloat (fcv .f32 .f64 a_0.X) (fcv .f32 .f64 b_1.X))) [], .bo false, .call (.b (v_laws_sameFloat (fcv .f32 .f64 a_0.Y) (fcv .f32 .f64 b_1.Y))) [], .bo true, .keep []])
        (ps := [])
        (C := [fcvOk .f32 .f64 a_0.X = true,
          fcvOk .f32 .f64 b_1.X = true,
          Fn Go.Proofs.Try.prog 17 [.f .f64 (fcv .f32 .f64 a_0.X), .f .f64 (fcv .f32 .f64 b_1.X)] (.b (v_laws_sameFloat (fcv .f32 .f64 a_0.X) (fcv .f32 .f64 b_1.X))) [],
          (!(v_laws_sameFloat (fcv .f32 .f64 a_0.X) (fcv .f32 .f64 b_1.X))) = false,
          fcvOk .f32 .f64 a_0.Y = true,
          fcvOk .f32 .f64 b_1.Y = true,
          Fn Go.Proofs.Try.prog 17 [.f .f64 (fcv .f32 .f64 a_0.Y), .f .f64 (fcv .f32 .f64 b_1.Y)] (.b (v_laws_sameFloat (fcv .f32 .f64 a_0.Y) (fcv .f32 .f64 b_1.Y))) [],
          (!(v_laws_sameFloat (fcv .f32 .f64 a_0.Y) (fcv .f32 .f64 b_1.Y))) = true])
        Go.Proofs.Try.func29 rfl (by kernel_rfl) (by kernel_rfl)
        ⟨(widenOk _), (widenOk _), (t_laws_sameFloat (fcv .f32 .f64 a_0.X) (fcv .f32 .f64 b_1.X)), (congrArg not h0), (widenOk _), (widenOk _), (t_laws_sameFloat (fcv .f32 .f64 a_0.Y) (fcv .f32 .f64 b_1.Y)), (congrArg not h1), trivial⟩) rfl) (by simp only [v_laws_eqVector, h0, h1, cond_true, cond_false]) rfl
  | false =>
    exact Fn.cast (CallSt.fn (callSt_of_evK (E := E0) E0Ok hMixed (c := bodyOf Go.Proofs.Try.f29) (rows := []) (r := .b false) (rows' := [])
      (ans := [.call (.b (v_laws_sameFloat (fcv .f32 .f64 a_0.X) (fcv .f32 .f64 b_1.X))) [], .bo true, .keep []])
      (ps := [])
      (C := [fcvOk .f32 .f64 a_0.X = true,
        fcvOk .f32 .f64 b_1.X = true,
        Fn Go.Proofs.Try.prog 17 [.f .f64 (fcv .f32 .f64 a_0.X), .f .f64 (fcv .f32 .f64 b_1.X)] (.b (v_laws_sameFloat (fcv .f32 .f64 a_0.X) (fcv .f32 .f64 b_1.X))) [],
        (!(v_laws_sameFloat (fcv .f32 .f64 a_0.X) (fcv .f32 .f64 b_1.X))) = true])
      Go.Proofs.Try.func29 rfl (by kernel_rfl) (by kernel_rfl)
      ⟨(widenOk _), (widenOk _), (t_laws_sameFloat (fcv .f32 .f64 a_0.X) (fcv .f32 .f64 b_1.X)), (congrArg not h0), trivial⟩) rfl) (by simp only [v_laws_eqVector, h0, cond_false]) rfl

theorem eqVector_self (a : GVector) : v_laws_eqVector a a = true := by
  simp [v_laws_eqVector, same_self]

def lo_laws_eqVectorS_1 (a_0 : (List GVector)) (b_1 : (List GVector)) : Nat → Int → (Unit) ⊕ (Unit)
  | 0, _ => .inl default
  | k + 1, i_l0 => (cond (decide (i_l0 < (a_0.length : Int)))
    (cond (v_laws_eqVector (a_0.getD i_l0.toNat default) (b_1.getD i_l0.toNat default))
      (lo_laws_eqVectorS_1 a_0 b_1 k (i_l0 + 1))
      (.inl ()))
    (.inr ()))

def ls_laws_eqVectorS_1 (a_0 : (List GVector)) (b_1 : (List GVector)) : (Unit) ⊕ (Unit) → Ex × St
  | .inl r => (.ret, ⟨[.any, .any, .any, .any, .b false, .any, .any, .any, .any, .any, .any, .any, .any, .any, .any, .any, .any, .any, .any, .any, .any, .any, .any, .any, .any, .any, .any], []⟩)
  | .inr r => ((.exit 0), ⟨[.sl (a_0.map GVector.cells), .sl (b_1.map GVector.cells), .any, .any, .any, .any, .sl (a_0.map GVector.cells), .i .i64 (a_0.length : Int), .sl (b_1.map GVector.cells), .i .i64 (b_1.length : Int), .b ((a_0.length : Int) != (b_1.length : Int)), .any, .any, .any, .any, .any, .any, .any, .any, .any, .any, .any, .any, .any, .any, .any, .any], []⟩)

theorem lp_laws_eqVectorS_1 (a_0 : (List GVector)) (b_1 : (List GVector)) (hp0 : a_0.length ≤ 1073741824) (hp1 : b_1.length ≤ 1073741824) (hf_laws_eqVectorS_1_0 : ((a_0.length : Int) != (b_1.length : Int)) = false) : ∀ (k : Nat) (i_l0 : Int) (hv_laws_eqVectorS_1_0 : 0 ≤ i_l0) (hk : ((a_0.length : Int) - i_l0).toNat < k), Lp Go.Proofs.Try.prog 0 (sub (bodyOf Go.Proofs.Try.f48) [1, 1, 0, 1, 0, 0]) ⟨[.sl (a_0.map GVector.cells), .sl (b_1.map GVector.cells), .any, .any, .any, .i .i64 i_l0, .sl (a_0.map GVector.cells), .i .i64 (a_0.length : Int), .sl (b_1.map GVector.cells), .i .i64 (b_1.length : Int), .b ((a_0.length : Int) != (b_1.length : Int)), .any, .any, .any, .any, .any, .any, .any, .any, .any, .any, .any, .any, .any, .any, .any, .any], []⟩ (ls_laws_eqVectorS_1 a_0 b_1 (lo_laws_eqVectorS_1 a_0 b_1 k i_l0)).1 (ls_laws_eqVectorS_1 a_0 b_1 (lo_laws_eqVectorS_1 a_0 b_1 k i_l0)).2 := by
  intro k
  induction k with
  | zero => intro i_l0 hv_laws_eqVectorS_1_0 hk; exact absurd hk (Nat.not_lt_zero _)
  | succ k ih =>
    intro i_l0 hv_laws_eqVectorS_1_0 hk
    cases h_0 : (decide (i_l0 < (a_0.length : Int))) with
    | true =>
      cases h_1 : (v_laws_eqVector (a_0.getD i_l0.toNat default) (b_1.getD i_l0.toNat default)) with
      | true =>
        have e : lo_laws_eqVectorS_1 a_0 b_1 (k + 1) i_l0 = (lo_laws_eqVectorS_1 a_0 b_1 k (i_l0 + 1)) := by simp only [lo_laws_eqVectorS_1, h_0, h_1, cond_true]
        rw [e]
        exact stepK_next (E := E0) E0Ok hMixed (body := (sub (bodyOf Go.Proofs.Try.f48) [1, 1, 0, 1, 0, 0])) (st := ⟨[.sl (a_0.map GVector.cells), .sl (b_1.map GVector.cells), .any, .any, .any, .i .i64 i_l0, .sl (a_0.map GVector.cells), .i .i64 (a_0.length : Int), .sl (b_1.map GVector.cells), .i .i64 (b_1.length : Int), .b ((a_0.length : Int) != (b_1.length : Int)), .any, .any, .any, .any, .any, .any, .any, .any, .any, .any, .any, .any, .any, .any, .any, .any], []⟩)
          (st2 := ⟨[.sl (a_0.map GVector.cells), .sl (b_1.map GVector.cells), .any, .any, .any, .i .i64 (i_l0 + 1), .sl (a_0.map GVector.cells), .i .i64 (a_0.length : Int), .sl (b_1.map GVector.cells), .i .i64 (b_1.length : Int), .b ((a_0.length : Int) != (b_1.length : Int)), .any, .any, .any, .any, .any, .any, .any, .any, .any, .any, .any, .any, .any, .any, .any, .any], []⟩)
          (ans := [.num (a_0.length : Int), .bo true, .keep [8, 8], .el [.f .f32 ((a_0.getD i_l0.toNat default).X), .f .f32 ((a_0.getD i_l0.toNat default).Y), .f .f32 ((a_0.getD i_l0.toNat default).Z)], .el [.f .f32 ((b_1.getD i_l0.toNat default).X), .f .f32 ((b_1.getD i_l0.toNat default).Y), .f .f32 ((b_1.getD i_l0.toNat default).Z)], .call (.b (v_laws_eqVector (a_0.getD i_l0.toNat default) (b_1.getD i_l0.toNat default))) [], .bo false, .num (i_l0 + 1)])
          (ps := []) (mask := [true, true, false, false, false, true, true, true, true, true, true, false, false, false, false, false, false, false, false, false, false, false, false, false, false, false, false]) (ks := [])
          (C := [(((a_0.map GVector.cells).length : Nat) : Int) = (a_0.length : Int),
            (decide (i_l0 < (a_0.length : Int))) = true,
            0 ≤ i_l0 ∧ (a_0.map GVector.cells)[Int.toNat i_l0]? = some [.f .f32 ((a_0.getD i_l0.toNat default).X), .f .f32 ((a_0.getD i_l0.toNat default).Y), .f .f32 ((a_0.getD i_l0.toNat default).Z)],
            0 ≤ i_l0 ∧ (b_1.map GVector.cells)[Int.toNat i_l0]? = some [.f .f32 ((b_1.getD i_l0.toNat default).X), .f .f32 ((b_1.getD i_l0.toNat default).Y), .f .f32 ((b_1.getD i_l0.toNat default).Z)],
            Fn Go.Proofs.Try.prog 29 [.agg [.f .f32 ((a_0.getD i_l0.toNat default).X), .f .f32 ((a_0.getD i_l0.toNat default).Y), .f .f32 ((a_0.getD i_l0.toNat default).Z)], .agg [.f .f32 ((b_1.getD i_l0.toNat default).X), .f .f32 ((b_1.getD i_l0.toNat default).Y), .f .f32 ((b_1.getD i_l0.toNat default).Z)]] (.b (v_laws_eqVector (a_0.getD i_l0.toNat default) (b_1.getD i_l0.toNat default))) [],
            (!(v_laws_eqVector (a_0.getD i_l0.toNat default) (b_1.getD i_l0.toNat default))) = false,
            IntKind.wrap .i64 (i_l0 + 1) = (i_l0 + 1)])
          (by kernel_rfl)
          ⟨len_ok, h_0, (get_ok (by first | assumption | omega | (simp at * <;> omega) | (simp_all <;> omega)) (by first | assumption | omega | (simp at * <;> omega) | (simp_all <;> omega))), (get_ok (by first | assumption | omega | (simp at * <;> omega) | (simp_all <;> omega)) (by first | assumption | omega | (simp at * <;> omega) | (simp_all <;> omega))), (t_laws_eqVector (a_0.getD i_l0.toNat default) (b_1.getD i_l0.toNat default)), (congrArg not h_1), (wrap_id (by first | assumption | omega | (simp at * <;> omega) | (simp_all <;> omega)) (by first | assumption | omega | (simp at * <;> omega) | (simp_all <;> omega))), trivial⟩
          rfl (ih (i_l0 + 1) (show 0 ≤ (i_l0 + 1) from (by first | assumption | omega | (simp at * <;> omega) | (simp_all <;> omega))) (by first | assumption | omega | (simp at * <;> omega) | (simp_all <;> omega)))
      | false =>
        have e : lo_laws_eqVectorS_1 a_0 b_1 (k + 1) i_l0 = (.inl ()) := by simp only [lo_laws_eqVectorS_1, h_0, h_1, cond_true, cond_false]
        rw [e]
        exact stepK_out (E := E0) E0Ok hMixed (e := .ret) (body := (sub (bodyOf Go.Proofs.Try.f48) [1, 1, 0, 1, 0, 0])) (st := ⟨[.sl (a_0.map GVector.cells), .sl (b_1.map GVector.cells), .any, .any, .any, .i .i64 i_l0, .sl (a_0.map GVector.cells), .i .i64 (a_0.length : Int), .sl (b_1.map GVector.cells), .i .i64 (b_1.length : Int), .b ((a_0.length : Int) != (b_1.length : Int)), .any, .any, .any, .any, .any, .any, .any, .any, .any, .any, .any, .any, .any, .any, .any, .any], []⟩)
          (st2 := ⟨[.any, .any, .any, .any, .b false, .any, .any, .any, .any, .any, .any, .any, .any, .any, .any, .any, .any, .any, .any, .any, .any, .any, .any, .any, .any, .any, .any], []⟩)
          (ans := [.num (a_0.length : Int), .bo true, .keep [8, 8], .el [.f .f32 ((a_0.getD i_l0.toNat default).X), .f .f32 ((a_0.getD i_l0.toNat default).Y), .f .f32 ((a_0.getD i_l0.toNat default).Z)], .el [.f .f32 ((b_1.getD i_l0.toNat default).X), .f .f32 ((b_1.getD i_l0.toNat default).Y), .f .f32 ((b_1.getD i_l0.toNat default).Z)], .call (.b (v_laws_eqVector (a_0.getD i_l0.toNat default) (b_1.getD i_l0.toNat default))) [], .bo true])
          (ps := []) (mask := [false, false, false, false, true, false, false, false, false, false, false, false, false, false, false, false, false, false, false, false, false, false, false, false, false, false, false]) (ks := [])
          (C := [(((a_0.map GVector.cells).length : Nat) : Int) = (a_0.length : Int),
            (decide (i_l0 < (a_0.length : Int))) = true,
            0 ≤ i_l0 ∧ (a_0.map GVector.cells)[Int.toNat i_l0]? = some [.f .f32 ((a_0.getD i_l0.toNat default).X), .f .f32 ((a_0.getD i_l0.toNat default).Y), .f .f32 ((a_0.getD i_l0.toNat default).Z)],
            0 ≤ i_l0 ∧ (b_1.map GVector.cells)[Int.toNat i_l0]? = some [.f .f32 ((b_1.getD i_l0.toNat default).X), .f .f32 ((b_1.getD i_l0.toNat default).Y), .f .f32 ((b_1.getD i_l0.toNat default).Z)],
            Fn Go.Proofs.Try.prog 29 [.agg [.f .f32 ((a_0.getD i_l0.toNat default).X), .f .f32 ((a_0.getD i_l0.toNat default).Y), .f .f32 ((a_0.getD i_l0.toNat default).Z)], .agg [.f .f32 ((b_1.getD i_l0.toNat default).X), .f .f32 ((b_1.getD i_l0.toNat default).Y), .f .f32 ((b_1.getD i_l0.toNat default).Z)]] (.b (v_laws_eqVector (a_0.getD i_l0.toNat default) (b_1.getD i_l0.toNat default))) [],
            (!(v_laws_eqVector (a_0.getD i_l0.toNat default) (b_1.getD i_l0.toNat default))) = true])
          (by kernel_rfl)
          ⟨len_ok, h_0, (get_ok (by first | assumption | omega | (simp at * <;> omega) | (simp_all <;> omega)) (by first | assumption | omega | (simp at * <;> omega) | (simp_all <;> omega))), (get_ok (by first | assumption | omega | (simp at * <;> omega) | (simp_all <;> omega)) (by first | assumption | omega | (simp at * <;> omega) | (simp_all <;> omega))), (t_laws_eqVector (a_0.getD i_l0.toNat default) (b_1.getD i_l0.toNat default)), (congrArg not h_1), trivial⟩
          (by intro h; cases h) rfl
    | false =>
      have e : lo_laws_eqVectorS_1 a_0 b_1 (k + 1) i_l0 = (.inr ()) := by simp only [lo_laws_eqVectorS_1, h_0, cond_false]
      rw [e]
      exact stepK_out (E := E0) E0Ok hMixed (e := (.exit 0)) (body := (sub (bodyOf Go.Proofs.Try.f48) [1, 1, 0, 1, 0, 0])) (st := ⟨[.sl (a_0.map GVector.cells), .sl (b_1.map GVector.cells), .any, .any, .any, .i .i64 i_l0, .sl (a_0.map GVector.cells), .i .i64 (a_0.length : Int), .sl (b_1.map GVector.cells), .i .i64 (b_1.length : Int), .b ((a_0.length : Int) != (b_1.length : Int)), .any, .any, .any, .any, .any, .any, .any, .any, .any, .any, .any, .any, .any, .any, .any, .any], []⟩)
        (st2 := ⟨[.sl (a_0.map GVector.cells), .sl (b_1.map GVector.cells), .any, .any, .any, .any, .sl (a_0.map GVector.cells), .i .i64 (a_0.length : Int), .sl (b_1.map GVector.cells), .i .i64 (b_1.length : Int), .b ((a_0.length : Int) != (b_1.length : Int)), .any, .any, .any, .any, .any, .any, .any, .any, .any, .any, .any, .any, .any, .any, .any, .any], []⟩)
        (ans := [.num (a_0.length : Int), .bo false])
        (ps := []) (mask := [true, true, false, false, false, false, true, true, true, true, true, false, false, false, false, false, false, false, false, false, false, false, false, false, false, false, false]) (ks := [])
        (C := [(((a_0.map GVector.cells).length : Nat) : Int) = (a_0.length : Int),
          (decide (i_l0 < (a_0.length : Int))) = false])
        (by kernel_rfl)
        ⟨len_ok, h_0, trivial⟩
        (by intro h; cases h) rfl

def lr_laws_eqVectorS_1_0 (a_0 : (List GVector)) (b_1 : (List GVector)) : (Unit) ⊕ (Unit) := (lo_laws_eqVectorS_1 a_0 b_1 (((a_0.length : Int) - 0).toNat + 1) 0)

/-- laws.eqVectorS -/
def v_laws_eqVectorS (a_0 : (List GVector)) (b_1 : (List GVector)) : Bool := (cond ((a_0.length : Int) != (b_1.length : Int))
  false
  (match (lr_laws_eqVectorS_1_0 a_0 b_1) with
    | .inl r2 => false
    | .inr r2 => true))

theorem t_laws_eqVectorS (a_0 : (List GVector)) (b_1 : (List GVector)) (hp0 : a_0.length ≤ 1073741824) (hp1 : b_1.length ≤ 1073741824)  : Fn Go.Proofs.Try.prog 48 [.sl (a_0.map GVector.cells), .sl (b_1.map GVector.cells)] (.b (v_laws_eqVectorS a_0 b_1)) [] := by
  cases h0 : ((a_0.length : Int) != (b_1.length : Int)) with
  | true =>
    exact Fn.cast (CallSt.fn (callSt_of_evK (E := E0) E0Ok hMixed (c := bodyOf Go.Proofs.Try.f48) (rows := []) (r := .b false) (rows' := [])
      (ans := [.num (a_0.length : Int), .num (b_1.length : Int), .bo true, .keep []])
      (ps := [])
      (C := [(((a_0.map GVector.cells).length : Nat) : Int) = (a_0.length : Int),
        (((b_1.map GVector.cells).length : Nat) : Int) = (b_1.length : Int),
        ((a_0.length : Int) != (b_1.length : Int)) = true])
      Go.Proofs.Try.func48 rfl (by kernel_rfl) (by kernel_rfl)
      ⟨len_ok, len_ok, h0, trivial⟩) rfl) (by simp only [v_laws_eqVectorS, h0, cond_true]) rfl
  | false =>
    cases h1 : (lr_laws_eqVectorS_1_0 a_0 b_1) with
    | inl r2 =>
      exact Fn.cast (CallSt.fn (callSt_of_evK (E := E0) E0Ok hMixed (c := bodyOf Go.Proofs.Try.f48) (rows := []) (r := .b false) (rows' := [])
        (ans := [.num (a_0.length : Int), .num (b_1.length : Int), .bo false, .loop [true, true, false, false, false, true, true, true, true, true, true, false, false, false, false, false, false, false, false, false, false, false, false, false, false, false, false] 0 .ret ⟨[.any, .any, .any, .any, .b false, .any, .any, .any, .any, .any, .any, .any, .any, .any, .any, .any, .any, .any, .any, .any, .any, .any, .any, .any, .any, .any, .any], []⟩, .keep []])
        (ps := [])
        (C := [(((a_0.map GVector.cells).length : Nat) : Int) = (a_0.length : Int),
          (((b_1.map GVector.cells).length : Nat) : Int) = (b_1.length : Int),
          ((a_0.length : Int) != (b_1.length : Int)) = false,
          Lp Go.Proofs.Try.prog 0 (sub (bodyOf Go.Proofs.Try.f48) [1, 1, 0, 1, 0, 0]) ⟨[.sl (a_0.map GVector.cells), .sl (b_1.map GVector.cells), .any, .any, .any, .i .i64 0, .sl (a_0.map GVector.cells), .i .i64 (a_0.length : Int), .sl (b_1.map GVector.cells), .i .i64 (b_1.length : Int), .b ((a_0.length : Int) != (b_1.length : Int)), .any, .any, .any, .any, .any, .any, .any, .any, .any, .any, .any, .any, .any, .any, .any, .any], []⟩ .ret ⟨[.any, .any, .any, .any, .b false, .any, .any, .any, .any, .any, .any, .any, .any, .any, .any, .any, .any, .any, .any, .any, .any, .any, .any, .any, .any, .any, .any], []⟩])
        Go.Proofs.Try.func48 rfl (by kernel_rfl) (by kernel_rfl)
        ⟨len_ok, len_ok, h0, (by have q := (lp_laws_eqVectorS_1 a_0 b_1 hp0 hp1 h0 (((a_0.length : Int) - 0).toNat + 1) 0 (show 0 ≤ 0 from (by first | assumption | omega | (simp at * <;> omega) | (simp_all <;> omega))) (Nat.lt_succ_self _)); rw [show (lo_laws_eqVectorS_1 a_0 b_1 (((a_0.length : Int) - 0).toNat + 1) 0) = _ from rfl] at q; rw [show (lo_laws_eqVectorS_1 a_0 b_1 (((a_0.length : Int) - 0).toNat + 1) 0) = (lr_laws_eqVectorS_1_0 a_0 b_1) from rfl, h1] at q; exact q), trivial⟩) rfl) (by simp only [v_laws_eqVectorS, h0, h1, cond_false]) rfl
    | inr r2 =>
      exact Fn.cast (CallSt.fn (callSt_of_evK (E := E0) E0Ok hMixed (c := bodyOf Go.Proofs.Try.f48) (rows := []) (r := .b true) (rows' := [])
        (ans := [.num (a_0.length : Int), .num (b_1.length : Int), .bo false, .loop [true, true, false, false, false, true, true, true, true, true, true, false, false, false, false, false, false, false, false, false, false, false, false, false, false, false, false] 0 (.exit 0) ⟨[.sl (a_0.map GVector.cells), .sl (b_1.map GVector.cells), .any, .any, .any, .any, .sl (a_0.map GVector.cells), .i .i64 (a_0.length : Int), .sl (b_1.map GVector.cells), .i .i64 (b_1.length : Int), .b ((a_0.length : Int) != (b_1.length : Int)), .any, .any, .any, .any, .any, .any, .any, .any, .any, .any, .any, .any, .any, .any, .any, .any], []⟩, .keep []])
        (ps := [])
        (C := [(((a_0.map GVector.cells).length : Nat) : Int) = (a_0.length : Int),
          (((b_1.map GVector.cells).length : Nat) : Int) = (b_1.length : Int),
          ((a_0.length : Int) != (b_1.length : Int)) = false,
          Lp Go.Proofs.Try.prog 0 (sub (bodyOf Go.Proofs.Try.f48) [1, 1, 0, 1, 0, 0]) ⟨[.sl (a_0.map GVector.cells), .sl (b_1.map GVector.cells), .any, .any, .any, .i .i64 0, .sl (a_0.map GVector.cells), .i .i64 (a_0.length : Int), .sl (b_1.map GVector.cells), .i .i64 (b_1.length : Int), .b ((a_0.length : Int) != (b_1.length : Int)), .any, .any, .any, .any, .any, .any, .any, .any, .any, .any, .any, .any, .any, .any, .any, .any], []⟩ (.exit 0) ⟨[.sl (a_0.map GVector.cells), .sl (b_1.map GVector.cells), .any, .any, .any, .any, .sl (a_0.map GVector.cells), .i .i64 (a_0.length : Int), .sl (b_1.map GVector.cells), .i .i64 (b_1.length : Int), .b ((a_0.length : Int) != (b_1.length : Int)), .any, .any, .any, .any, .any, .any, .any, .any, .any, .any, .any, .any, .any, .any, .any, .any], []⟩])
        Go.Proofs.Try.func48 rfl (by kernel_rfl) (by kernel_rfl)
        ⟨len_ok, len_ok, h0, (by have q := (lp_laws_eqVectorS_1 a_0 b_1 hp0 hp1 h0 (((a_0.length : Int) - 0).toNat + 1) 0 (show 0 ≤ 0 from (by first | assumption | omega | (simp at * <;> omega) | (simp_all <;> omega))) (Nat.lt_succ_self _)); rw [show (lo_laws_eqVectorS_1 a_0 b_1 (((a_0.length : Int) - 0).toNat + 1) 0) = _ from rfl] at q; rw [show (lo_laws_eqVectorS_1 a_0 b_1 (((a_0.length : Int) - 0).toNat + 1) 0) = (lr_laws_eqVectorS_1_0 a_0 b_1) from rfl, h1] at q; exact q), trivial⟩) rfl) (by simp only [v_laws_eqVectorS, h0, h1, cond_false]) rfl

theorem eqVectorS_self (a : List GVector) : v_laws_eqVectorS a a = true := by
  unfold v_laws_eqVectorS lr_laws_eqVectorS_1_0
  rw [all_loop (a := a) (p := fun v => v_laws_eqVector v v) (lo := lo_laws_eqVectorS_1 a a) (x := ()) (y := ()) (fun k i => rfl) (fun v _ => eqVector_self v) _ _ (Int.le_refl 0) (Nat.lt_succ_self _)]
  simp

def lo_laws_eqInt64S_1 (a_0 : (List Int)) (b_1 : (List Int)) : Nat → Int → (Unit) ⊕ (Unit)
  | 0, _ => .inl default
  | k + 1, i_l0 => (cond (decide (i_l0 < (a_0.length : Int)))
    (cond ((a_0.getD i_l0.toNat default) != (b_1.getD i_l0.toNat default))
      (.inl ())
      (lo_laws_eqInt64S_1 a_0 b_1 k (i_l0 + 1)))
    (.inr ()))

def ls_laws_eqInt64S_1 (a_0 : (List Int)) (b_1 : (List Int)) : (Unit) ⊕ (Unit) → Ex × St
  | .inl r => (.ret, ⟨[.any, .any, .any, .any, .b false, .any, .any, .any, .any, .any, .any, .any, .any, .any, .any, .any, .any, .any, .any, .any, .any, .any, .any, .any, .any, .any], []⟩)
  | .inr r => ((.exit 0), ⟨[.sl (a_0.map (cI .i64)), .sl (b_1.map (cI .i64)), .any, .any, .any, .any, .sl (a_0.map (cI .i64)), .i .i64 (a_0.length : Int), .sl (b_1.map (cI .i64)), .i .i64 (b_1.length : Int), .b ((a_0.length : Int) != (b_1.length : Int)), .any, .any, .any, .any, .any, .any, .any, .any, .any, .any, .any, .any, .any, .any, .any], []⟩)

theorem lp_laws_eqInt64S_1 (a_0 : (List Int)) (b_1 : (List Int)) (hp0 : a_0.length ≤ 1073741824) (hp1 : b_1.length ≤ 1073741824) (hf_laws_eqInt64S_1_0 : ((a_0.length : Int) != (b_1.length : Int)) = false) : ∀ (k : Nat) (i_l0 : Int) (hv_laws_eqInt64S_1_0 : 0 ≤ i_l0) (hk : ((a_0.length : Int) - i_l0).toNat < k), Lp Go.Proofs.Try.prog 0 (sub (bodyOf Go.Proofs.Try.f125) [1, 1, 0, 1, 0, 0]) ⟨[.sl (a_0.map (cI .i64)), .sl (b_1.map (cI .i64)), .any, .any, .any, .i .i64 i_l0, .sl (a_0.map (cI .i64)), .i .i64 (a_0.length : Int), .sl (b_1.map (cI .i64)), .i .i64 (b_1.length : Int), .b ((a_0.length : Int) != (b_1.length : Int)), .any, .any, .any, .any, .any, .any, .any, .any, .any, .any, .any, .any, .any, .any, .any], []⟩ (ls_laws_eqInt64S_1 a_0 b_1 (lo_laws_eqInt64S_1 a_0 b_1 k i_l0)).1 (ls_laws_eqInt64S_1 a_0 b_1 (lo_laws_eqInt64S_1 a_0 b_1 k i_l0)).2 := by
  intro k
  induction k with
  | zero => intro i_l0 hv_laws_eqInt64S_1_0 hk; exact absurd hk (Nat.not_lt_zero _)
  | succ k ih =>
    intro i_l0 hv_laws_eqInt64S_1_0 hk
    cases h_0 : (decide (i_l0 < (a_0.length : Int))) with
    | true =>
      cases h_1 : ((a_0.getD i_l0.toNat default) != (b_1.getD i_l0.toNat default)) with
      | true =>
        have e : lo_laws_eqInt64S_1 a_0 b_1 (k + 1) i_l0 = (.inl ()) := by simp only [lo_laws_eqInt64S_1, h_0, h_1, cond_true]
        rw [e]
        exact stepK_out (E := E0) E0Ok hMixed (e := .ret) (body := (sub (bodyOf Go.Proofs.Try.f125) [1, 1, 0, 1, 0, 0])) (st := ⟨[.sl (a_0.map (cI .i64)), .sl (b_1.map (cI .i64)), .any, .any, .any, .i .i64 i_l0, .sl (a_0.map (cI .i64)), .i .i64 (a_0.length : Int), .sl (b_1.map (cI .i64)), .i .i64 (b_1.length : Int), .b ((a_0.length : Int) != (b_1.length : Int)), .any, .any, .any, .any, .any, .any, .any, .any, .any, .any, .any, .any, .any, .any, .any], []⟩)
          (st2 := ⟨[.any, .any, .any, .any, .b false, .any, .any, .any, .any, .any, .any, .any, .any, .any, .any, .any, .any, .any, .any, .any, .any, .any, .any, .any, .any, .any], []⟩)
          (ans := [.num (a_0.length : Int), .bo true, .keep [8, 8], .el [.i .i64 (a_0.getD i_l0.toNat default)], .el [.i .i64 (b_1.getD i_l0.toNat default)], .bo true])
          (ps := []) (mask := [false, false, false, false, true, false, false, false, false, false, false, false, false, false, false, false, false, false, false, false, false, false, false, false, false, false]) (ks := [])
          (C := [(((a_0.map (cI .i64)).length : Nat) : Int) = (a_0.length : Int),
            (decide (i_l0 < (a_0.length : Int))) = true,
            0 ≤ i_l0 ∧ (a_0.map (cI .i64))[Int.toNat i_l0]? = some [.i .i64 (a_0.getD i_l0.toNat default)],
            0 ≤ i_l0 ∧ (b_1.map (cI .i64))[Int.toNat i_l0]? = some [.i .i64 (b_1.getD i_l0.toNat default)],
            ((a_0.getD i_l0.toNat default) != (b_1.getD i_l0.toNat default)) = true])
          (by kernel_rfl)
          ⟨len_ok, h_0, (get_ok (by first | assumption | omega | (simp at * <;> omega) | (simp_all <;> omega)) (by first | assumption | omega | (simp at * <;> omega) | (simp_all <;> omega))), (get_ok (by first | assumption | omega | (simp at * <;> omega) | (simp_all <;> omega)) (by first | assumption | omega | (simp at * <;> omega) | (simp_all <;> omega))), h_1, trivial⟩
          (by intro h; cases h) rfl
      | false =>
        have e : lo_laws_eqInt64S_1 a_0 b_1 (k + 1) i_l0 = (lo_laws_eqInt64S_1 a_0 b_1 k (i_l0 + 1)) := by simp only [lo_laws_eqInt64S_1, h_0, h_1, cond_true, cond_false]
        rw [e]
        exact stepK_next (E := E0) E0Ok hMixed (body := (sub (bodyOf Go.Proofs.Try.f125) [1, 1, 0, 1, 0, 0])) (st := ⟨[.sl (a_0.map (cI .i64)), .sl (b_1.map (cI .i64)), .any, .any, .any, .i .i64 i_l0, .sl (a_0.map (cI .i64)), .i .i64 (a_0.length : Int), .sl (b_1.map (cI .i64)), .i .i64 (b_1.length : Int), .b ((a_0.length : Int) != (b_1.length : Int)), .any, .any, .any, .any, .any, .any, .any, .any, .any, .any, .any, .any, .any, .any, .any], []⟩)
          (st2 := ⟨[.sl (a_0.map (cI .i64)), .sl (b_1.map (cI .i64)), .any, .any, .any, .i .i64 (i_l0 + 1), .sl (a_0.map (cI .i64)), .i .i64 (a_0.length : Int), .sl (b_1.map (cI .i64)), .i .i64 (b_1.length : Int), .b ((a_0.length : Int) != (b_1.length : Int)), .any, .any, .any, .any, .any, .any, .any, .any, .any, .any, .any, .any, .any, .any, .any], []⟩)
          (ans := [.num (a_0.length : Int), .bo true, .keep [8, 8], .el [.i .i64 (a_0.getD i_l0.toNat default)], .el [.i .i64 (b_1.getD i_l0.toNat default)], .bo false, .num (i_l0 + 1)])
          (ps := []) (mask := [true, true, false, false, false, true, true, true, true, true, true, false, false, false, false, false, false, false, false, false, false, false, false, false, false, false]) (ks := [])
          (C := [(((a_0.map (cI .i64)).length : Nat) : Int) = (a_0.length : Int),
            (decide (i_l0 < (a_0.length : Int))) = true,
            0 ≤ i_l0 ∧ (a_0.map (cI .i64))[Int.toNat i_l0]? = some [.i .i64 (a_0.getD i_l0.toNat default)],
            0 ≤ i_l0 ∧ (b_1.map (cI .i64))[Int.toNat i_l0]? = some [.i .i64 (b_1.getD i_l0.toNat default)],
            ((a_0.getD i_l0.toNat default) != (b_1.getD i_l0.toNat default)) = false,
            IntKind.wrap .i64 (i_l0 + 1) = (i_l0 + 1)])
          (by kernel_rfl)
          ⟨len_ok, h_0, (get_ok (by first | assumption | omega | (simp at * <;> omega) | (simp_all <;> omega)) (by first | assumption | omega | (simp at * <;> omega) | (simp_all <;> omega))), (get_ok (by first | assumption | omega | (simp at * <;> omega) | (simp_all <;> omega)) (by first | assumption | omega | (simp at * <;> omega) | (simp_all <;> omega))), h_1, (wrap_id (by first | assumption | omega | (simp at * <;> omega) | (simp_all <;> omega)) (by first | assumption | omega | (simp at * <;> omega) | (simp_all <;> omega))), trivial⟩
          rfl (ih (i_l0 + 1) (show 0 ≤ (i_l0 + 1) from (by first | assumption | omega | (simp at * <;> omega) | (simp_all <;> omega))) (by first | assumption | omega | (simp at * <;> omega) | (simp_all <;> omega)))
    | false =>
      have e : lo_laws_eqInt64S_1 a_0 b_1 (k + 1) i_l0 = (.inr ()) := by simp only [lo_laws_eqInt64S_1, h_0, cond_false]
      rw [e]
      exact stepK_out (E := E0) E0Ok hMixed (e := (.exit 0)) (body := (sub (bodyOf Go.Proofs.Try.f125) [1, 1, 0, 1, 0, 0])) (st := ⟨[.sl (a_0.map (cI .i64)), .sl (b_1.map (cI .i64)), .any, .any, .any, .i .i64 i_l0, .sl (a_0.map (cI .i64)), .i .i64 (a_0.length : Int), .sl (b_1.map (cI .i64)), .i .i64 (b_1.length : Int), .b ((a_0.length : Int) != (b_1.length : Int)), .any, .any, .any, .any, .any, .any, .any, .any, .any, .any, .any, .any, .any, .any, .any], []⟩)
        (st2 := ⟨[.sl (a_0.map (cI .i64)), .sl (b_1.map (cI .i64)), .any, .any, .any, .any, .sl (a_0.map (cI .i64)), .i .i64 (a_0.length : Int), .sl (b_1.map (cI .i64)), .i .i64 (b_1.length : Int), .b ((a_0.length : Int) != (b_1.length : Int)), .any, .any, .any, .any, .any, .any, .any, .any, .any, .any, .any, .any, .any, .any, .any], []⟩)
        (ans := [.num (a_0.length : Int), .bo false])
        (ps := []) (mask := [true, true, false, false, false, false, true, true, true, true, true, false, false, false, false, false, false, false, false, false, false, false, false, false, false, false]) (ks := [])
        (C := [(((a_0.map (cI .i64)).length : Nat) : Int) = (a_0.length : Int),
          (decide (i_l0 < (a_0.length : Int))) = false])
        (by kernel_rfl)
        ⟨len_ok, h_0, trivial⟩
        (by intro h; cases h) rfl

def lr_laws_eqInt64S_1_0 (a_0 : (List Int)) (b_1 : (List Int)) : (Unit) ⊕ (Unit) := (lo_laws_eqInt64S_1 a_0 b_1 (((a_0.length : Int) - 0).toNat + 1) 0)

/-- laws.eqInt64S -/
def v_laws_eqInt64S (a_0 : (List Int)) (b_1 : (List Int)) : Bool := (cond ((a_0.length : Int) != (b_1.length : Int))
  false
  (match (lr_laws_eqInt64S_1_0 a_0 b_1) with
    | .inl r2 => false
    | .inr r2 => true))

theorem t_laws_eqInt64S (a_0 : (List Int)) (b_1 : (List Int)) (hp0 : a_0.length ≤ 1073741824) (hp1 : b_1.length ≤ 1073741824)  : Fn Go.Proofs.Try.prog 125 [.sl (a_0.map (cI .i64)), .sl (b_1.map (cI .i64))] (.b (v_laws_eqInt64S a_0 b_1)) [] := by
  cases h0 : ((a_0.length : Int) != (b_1.length : Int)) with
  | true =>
    exact Fn.cast (CallSt.fn (callSt_of_evK (E := E0) E0Ok hMixed (c := bodyOf Go.Proofs.Try.f125) (rows := []) (r := .b false) (rows' := [])
      (ans := [.num (a_0.length : Int), .num (b_1.length : Int), .bo true, .keep []])
      (ps := [])
      (C := [(((a_0.map (cI .i64)).length : Nat) : Int) = (a_0.length : Int),
        (((b_1.map (cI .i64)).length : Nat) : Int) = (b_1.length : Int),
        ((a_0.length : Int) != (b_1.length : Int)) = true])
      Go.Proofs.Try.func125 rfl (by kernel_rfl) (by kernel_rfl)
      ⟨len_ok, len_ok, h0, trivial⟩) rfl) (by simp only [v_laws_eqInt64S, h0, cond_true]) rfl
  | false =>
    cases h1 : (lr_laws_eqInt64S_1_0 a_0 b_1) with
    | inl r2 =>
      exact Fn.cast (CallSt.fn (callSt_of_evK (E := E0) E0Ok hMixed (c := bodyOf Go.Proofs.Try.f125) (rows := []) (r := .b false) (rows' := [])
        (ans := [.num (a_0.length : Int), .num (b_1.length : Int), .bo false, .loop [true, true, false, false, false, true, true, true, true, true, true, false, false, false, false, false, false, false, false, false, false, false, false, false, false, false] 0 .ret ⟨[.any, .any, .any, .any, .b false, .any, .any, .any, .any, .any, .any, .any, .any, .any, .any, .any, .any, .any, .any, .any, .any, .any, .any, .any, .any, .any], []⟩, .keep []])
        (ps := [])
        (C := [(((a_0.map (cI .i64)).length : Nat) : Int) = (a_0.length : Int),
          (((b_1.map (cI .i64)).length : Nat) : Int) = (b_1.length : Int),
          ((a_0.length : Int) != (b_1.length : Int)) = false,
          Lp Go.Proofs.Try.prog 0 (sub (bodyOf Go.Proofs.Try.f125) [1, 1, 0, 1, 0, 0]) ⟨[.sl (a_0.map (cI .i64)), .sl (b_1.map (cI .i64)), .any, .any, .any, .i .i64 0, .sl (a_0.map (cI .i64)), .i .i64 (a_0.length : Int), .sl (b_1.map (cI .i64)), .i .i64 (b_1.length : Int), .b ((a_0.length : Int) != (b_1.length : Int)), .any, .any, .any, .any, .any, .any, .any, .any, .any, .any, .any, .any, .any, .any, .any], []⟩ .ret ⟨[.any, .any, .any, .any, .b false, .any, .any, .any, .any, .any, .any, .any, .any, .any, .any, .any, .any, .any, .any, .any, .any, .any, .any, .any, .any, .any], []⟩])
        Go.Proofs.Try.func125 rfl (by kernel_rfl) (by kernel_rfl)
        ⟨len_ok, len_ok, h0, (by have q := (lp_laws_eqInt64S_1 a_0 b_1 hp0 hp1 h0 (((a_0.length : Int) - 0).toNat + 1) 0 (show 0 ≤ 0 from (by first | assumption | omega | (simp at * <;> omega) | (simp_all <;> omega))) (Nat.lt_succ_self _)); rw [show (lo_laws_eqInt64S_1 a_0 b_1 (((a_0.length : Int) - 0).toNat + 1) 0) = _ from rfl] at q; rw [show (lo_laws_eqInt64S_1 a_0 b_1 (((a_0.length : Int) - 0).toNat + 1) 0) = (lr_laws_eqInt64S_1_0 a_0 b_1) from rfl, h1] at q; exact q), trivial⟩) rfl) (by simp only [v_laws_eqInt64S, h0, h1, cond_false]) rfl
    | inr r2 =>
      exact Fn.cast (CallSt.fn (callSt_of_evK (E := E0) E0Ok hMixed (c := bodyOf Go.Proofs.Try.f125) (rows := []) (r := .b true) (rows' := [])
        (ans := [.num (a_0.length : Int), .num (b_1.length : Int), .bo false, .loop [true, true, false, false, false, true, true, true, true, true, true, false, false, false, false, false, false, false, false, false, false, false, false, false, false, false] 0 (.exit 0) ⟨[.sl (a_0.map (cI .i64)), .sl (b_1.map (cI .i64)), .any, .any, .any, .any, .sl (a_0.map (cI .i64)), .i .i64 (a_0.length : Int), .sl (b_1.map (cI .i64)), .i .i64 (b_1.length : Int), .b ((a_0.length : Int) != (b_1.length : Int)), .any, .any, .any, .any, .any, .any, .any, .any, .any, .any, .any, .any, .any, .any, .any], []⟩, .keep []])
        (ps := [])
        (C := [(((a_0.map (cI .i64)).length : Nat) : Int) = (a_0.length : Int),
          (((b_1.map (cI .i64)).length : Nat) : Int) = (b_1.length : Int),
          ((a_0.length : Int) != (b_1.length : Int)) = false,
          Lp Go.Proofs.Try.prog 0 (sub (bodyOf Go.Proofs.Try.f125) [1, 1, 0, 1, 0, 0]) ⟨[.sl (a_0.map (cI .i64)), .sl (b_1.map (cI .i64)), .any, .any, .any, .i .i64 0, .sl (a_0.map (cI .i64)), .i .i64 (a_0.length : Int), .sl (b_1.map (cI .i64)), .i .i64 (b_1.length : Int), .b ((a_0.length : Int) != (b_1.length : Int)), .any, .any, .any, .any, .any, .any, .any, .any, .any, .any, .any, .any, .any, .any, .any], []⟩ (.exit 0) ⟨[.sl (a_0.map (cI .i64)), .sl (b_1.map (cI .i64)), .any, .any, .any, .any, .sl (a_0.map (cI .i64)), .i .i64 (a_0.length : Int), .sl (b_1.map (cI .i64)), .i .i64 (b_1.length : Int), .b ((a_0.length : Int) != (b_1.length : Int)), .any, .any, .any, .any, .any, .any, .any, .any, .any, .any, .any, .any, .any, .any, .any], []⟩])
        Go.Proofs.Try.func125 rfl (by kernel_rfl) (by kernel_rfl)
        ⟨len_ok, len_ok, h0, (by have q := (lp_laws_eqInt64S_1 a_0 b_1 hp0 hp1 h0 (((a_0.length : Int) - 0).toNat + 1) 0 (show 0 ≤ 0 from (by first | assumption | omega | (simp at * <;> omega) | (simp_all <;> omega))) (Nat.lt_succ_self _)); rw [show (lo_laws_eqInt64S_1 a_0 b_1 (((a_0.length : Int) - 0).toNat + 1) 0) = _ from rfl] at q; rw [show (lo_laws_eqInt64S_1 a_0 b_1 (((a_0.length : Int) - 0).toNat + 1) 0) = (lr_laws_eqInt64S_1_0 a_0 b_1) from rfl, h1] at q; exact q), trivial⟩) rfl) (by simp only [v_laws_eqInt64S, h0, h1, cond_false]) rfl

theorem eqInt64S_self (a : List Int) : v_laws_eqInt64S a a = true := by
  unfold v_laws_eqInt64S lr_laws_eqInt64S_1_0
  rw [all_from (a := a) (p := fun v => !(v != v)) (lo := lo_laws_eqInt64S_1 a a) (x := ()) (y := ()) (fun k i => by rw [lo_laws_eqInt64S_1]; cases (a.getD i.toNat default != a.getD i.toNat default) <;> rfl)]
  rw [show (a.all fun v => !(v != v)) = true from by rw [List.all_eq_true]; intro v _; simp]
  simp

def lo_laws_eqInt64SS_1 (a_0 : (List (List Int))) (b_1 : (List (List Int))) : Nat → Int → (Unit) ⊕ (Unit)
  | 0, _ => .inl default
  | k + 1, i_l0 => (cond (decide (i_l0 < (a_0.length : Int)))
    (cond (v_laws_eqInt64S (a_0.getD i_l0.toNat default) (b_1.getD i_l0.toNat default))
      (lo_laws_eqInt64SS_1 a_0 b_1 k (i_l0 + 1))
      (.inl ()))
    (.inr ()))

def ls_laws_eqInt64SS_1 (a_0 : (List (List Int))) (b_1 : (List (List Int))) : (Unit) ⊕ (Unit) → Ex × St
  | .inl r => (.ret, ⟨[.any, .any, .any, .any, .b false, .any, .any, .any, .any, .any, .any, .any, .any, .any, .any, .any, .any, .any, .any, .any, .any, .any, .any, .any, .any, .any, .any], []⟩)
  | .inr r => ((.exit 0), ⟨[.sl (a_0.map (cL (cI .i64))), .sl (b_1.map (cL (cI .i64))), .any, .any, .any, .any, .sl (a_0.map (cL (cI .i64))), .i .i64 (a_0.length : Int), .sl (b_1.map (cL (cI .i64))), .i .i64 (b_1.length : Int), .b ((a_0.length : Int) != (b_1.length : Int)), .any, .any, .any, .any, .any, .any, .any, .any, .any, .any, .any, .any, .any, .any, .any, .any], []⟩)

theorem lp_laws_eqInt64SS_1 (a_0 : (List (List Int))) (b_1 : (List (List Int))) (hp0 : a_0.length ≤ 1073741824) (hp1 : ∀ t ∈ a_0, t.length ≤ 1073741824) (hp2 : b_1.length ≤ 1073741824) (hp3 : ∀ t ∈ b_1, t.length ≤ 1073741824) (hf_laws_eqInt64SS_1_0 : ((a_0.length : Int) != (b_1.length : Int)) = false) : ∀ (k : Nat) (i_l0 : Int) (hv_laws_eqInt64SS_1_0 : 0 ≤ i_l0) (hk : ((a_0.length : Int) - i_l0).toNat < k), Lp Go.Proofs.Try.prog 0 (sub (bodyOf Go.Proofs.Try.f64) [1, 1, 0, 1, 0, 0]) ⟨[.sl (a_0.map (cL (cI .i64))), .sl (b_1.map (cL (cI .i64))), .any, .any, .any, .i .i64 i_l0, .sl (a_0.map (cL (cI .i64))), .i .i64 (a_0.length : Int), .sl (b_1.map (cL (cI .i64))), .i .i64 (b_1.length : Int), .b ((a_0.length : Int) != (b_1.length : Int)), .any, .any, .any, .any, .any, .any, .any, .any, .any, .any, .any, .any, .any, .any, .any, .any], []⟩ (ls_laws_eqInt64SS_1 a_0 b_1 (lo_laws_eqInt64SS_1 a_0 b_1 k i_l0)).1 (ls_laws_eqInt64SS_1 a_0 b_1 (lo_laws_eqInt64SS_1 a_0 b_1 k i_l0)).2 := by
  intro k
  induction k with
  | zero => intro i_l0 hv_laws_eqInt64SS_1_0 hk; exact absurd hk (Nat.not_lt_zero _)
  | succ k ih =>
    intro i_l0 hv_laws_eqInt64SS_1_0 hk
    cases h_0 : (decide (i_l0 < (a_0.length : Int))) with
    | true =>
      cases h_1 : (v_laws_eqInt64S (a_0.getD i_l0.toNat default) (b_1.getD i_l0.toNat default)) with
      | true =>
        have e : lo_laws_eqInt64SS_1 a_0 b_1 (k + 1) i_l0 = (lo_laws_eqInt64SS_1 a_0 b_1 k (i_l0 + 1)) := by simp only [lo_laws_eqInt64SS_1, h_0, h_1, cond_true]
        rw [e]
        exact stepK_next (E := E0) E0Ok hMixed (body := (sub (bodyOf Go.Proofs.Try.f64) [1, 1, 0, 1, 0, 0])) (st := ⟨[.sl (a_0.map (cL (cI .i64))), .sl (b_1.map (cL (cI .i64))), .any, .any, .any, .i .i64 i_l0, .sl (a_0.map (cL (cI .i64))), .i .i64 (a_0.length : Int), .sl (b_1.map (cL (cI .i64))), .i .i64 (b_1.length : Int), .b ((a_0.length : Int) != (b_1.length : Int)), .any, .any, .any, .any, .any, .any, .any, .any, .any, .any, .any, .any, .any, .any, .any, .any], []⟩)
          (st2 := ⟨[.sl (a_0.map (cL (cI .i64))), .sl (b_1.map (cL (cI .i64))), .any, .any, .any, .i .i64 (i_l0 + 1), .sl (a_0.map (cL (cI .i64))), .i .i64 (a_0.length : Int), .sl (b_1.map (cL (cI .i64))), .i .i64 (b_1.length : Int), .b ((a_0.length : Int) != (b_1.length : Int)), .any, .any, .any, .any, .any, .any, .any, .any, .any, .any, .any, .any, .any, .any, .any, .any], []⟩)
          (ans := [.num (a_0.length : Int), .bo true, .keep [8, 8], .el [.sl ((a_0.getD i_l0.toNat default).map (cI .i64))], .el [.sl ((b_1.getD i_l0.toNat default).map (cI .i64))], .call (.b (v_laws_eqInt64S (a_0.getD i_l0.toNat default) (b_1.getD i_l0.toNat default))) [], .bo false, .num (i_l0 + 1)])
          (ps := []) (mask := [true, true, false, false, false, true, true, true, true, true, true, false, false, false, false, false, false, false, false, false, false, false, false, false, false, false, false]) (ks := [])
          (C := [(((a_0.map (cL (cI .i64))).length : Nat) : Int) = (a_0.length : Int),
            (decide (i_l0 < (a_0.length : Int))) = true,
            0 ≤ i_l0 ∧ (a_0.map (cL (cI .i64)))[Int.toNat i_l0]? = some [.sl ((a_0.getD i_l0.toNat default).map (cI .i64))],
            0 ≤ i_l0 ∧ (b_1.map (cL (cI .i64)))[Int.toNat i_l0]? = some [.sl ((b_1.getD i_l0.toNat default).map (cI .i64))],
            Fn Go.Proofs.Try.prog 125 [.sl ((a_0.getD i_l0.toNat default).map (cI .i64)), .sl ((b_1.getD i_l0.toNat default).map (cI .i64))] (.b (v_laws_eqInt64S (a_0.getD i_l0.toNat default) (b_1.getD i_l0.toNat default))) [],
            (!(v_laws_eqInt64S (a_0.getD i_l0.toNat default) (b_1.getD i_l0.toNat default))) = false,
            IntKind.wrap .i64 (i_l0 + 1) = (i_l0 + 1)])
          (by kernel_rfl)
          ⟨len_ok, h_0, (get_ok (by first | assumption | omega | (simp at * <;> omega) | (simp_all <;> omega)) (by first | assumption | omega | (simp at * <;> omega) | (simp_all <;> omega))), (get_ok (by first | assumption | omega | (simp at * <;> omega) | (simp_all <;> omega)) (by first | assumption | omega | (simp at * <;> omega) | (simp_all <;> omega))), (t_laws_eqInt64S (a_0.getD i_l0.toNat default) (b_1.getD i_l0.toNat default) (show (a_0.getD i_l0.toNat default).length ≤ 1073741824 from (by first | assumption | omega | (simp at * <;> omega) | (simp_all <;> omega))) (show (b_1.getD i_l0.toNat default).length ≤ 1073741824 from (by first | assumption | omega | (simp at * <;> omega) | (simp_all <;> omega)))), (congrArg not h_1), (wrap_id (by first | assumption | omega | (simp at * <;> omega) | (simp_all <;> omega)) (by first | assumption | omega | (simp at * <;> omega) | (simp_all <;> omega))), trivial⟩
          rfl (ih (i_l0 + 1) (show 0 ≤ (i_l0 + 1) from (by first | assumption | omega | (simp at * <;> omega) | (simp_all <;> omega))) (by first | assumption | omega | (simp at * <;> omega) | (simp_all <;> omega)))
      | false =>
        have e : lo_laws_eqInt64SS_1 a_0 b_1 (k + 1) i_l0 = (.inl ()) := by simp only [lo_laws_eqInt64SS_1, h_0, h_1, cond_true, cond_false]
        rw [e]
        exact stepK_out (E := E0) E0Ok hMixed (e := .ret) (body := (sub (bodyOf Go.Proofs.Try.f64) [1, 1, 0, 1, 0, 0])) (st := ⟨[.sl (a_0.map (cL (cI .i64))), .sl (b_1.map (cL (cI .i64))), .any, .any, .any, .i .i64 i_l0, .sl (a_0.map (cL (cI .i64))), .i .i64 (a_0.length : Int), .sl (b_1.map (cL (cI .i64))), .i .i64 (b_1.length : Int), .b ((a_0.length : Int) != (b_1.length : Int)), .any, .any, .any, .any, .any, .any, .any, .any, .any, .any, .any, .any, .any, .any, .any, .any], []⟩)
          (st2 := ⟨[.any, .any, .any, .any, .b false, .any, .any, .any, .any, .any, .any, .any, .any, .any, .any, .any, .any, .any, .any, .any, .any, .any, .any, .any, .any, .any, .any], []⟩)
          (ans := [.num (a_0.length : Int), .bo true, .keep [8, 8], .el [.sl ((a_0.getD i_l0.toNat default).map (cI .i64))], .el [.sl ((b_1.getD i_l0.toNat default).map (cI .i64))], .call (.b (v_laws_eqInt64S (a_0.getD i_l0.toNat default) (b_1.getD i_l0.toNat default))) [], .bo true])
          (ps := []) (mask := [false, false, false, false, true, false, false, false, false, false, false, false, false, false, false, false, false, false, false, false, false, false, false, false, false, false, false]) (ks := [])
          (C := [(((a_0.map (cL (cI .i64))).length : Nat) : Int) = (a_0.length : Int),
            (decide (i_l0 < (a_0.length : Int))) = true,
            0 ≤ i_l0 ∧ (a_0.map (cL (cI .i64)))[Int.toNat i_l0]? = some [.sl ((a_0.getD i_l0.toNat default).map (cI .i64))],
            0 ≤ i_l0 ∧ (b_1.map (cL (cI .i64)))[Int.toNat i_l0]? = some [.sl ((b_1.getD i_l0.toNat default).map (cI .i64))],
            Fn Go.Proofs.Try.prog 125 [.sl ((a_0.getD i_l0.toNat default).map (cI .i64)), .sl ((b_1.getD i_l0.toNat default).map (cI .i64))] (.b (v_laws_eqInt64S (a_0.getD i_l0.toNat default) (b_1.getD i_l0.toNat default))) [],
            (!(v_laws_eqInt64S (a_0.getD i_l0.toNat default) (b_1.getD i_l0.toNat default))) = true])
          (by kernel_rfl)
          ⟨len_ok, h_0, (get_ok (by first | assumption | omega | (simp at * <;> omega) | (simp_all <;> omega)) (by first | assumption | omega | (simp at * <;> omega) | (simp_all <;> omega))), (get_ok (by first | assumption | omega | (simp at * <;> omega) | (simp_all <;> omega)) (by first | assumption | omega | (simp at * <;> omega) | (simp_all <;> omega))), (t_laws_eqInt64S (a_0.getD i_l0.toNat default) (b_1.getD i_l0.toNat default) (show (a_0.getD i_l0.toNat default).length ≤ 1073741824 from (by first | assumption | omega | (simp at * <;> omega) | (simp_all <;> omega))) (show (b_1.getD i_l0.toNat default).length ≤ 1073741824 from (by first | assumption | omega | (simp at * <;> omega) | (simp_all <;> omega)))), (congrArg not h_1), trivial⟩
          (by intro h; cases h) rfl
    | false =>
      have e : lo_laws_eqInt64SS_1 a_0 b_1 (k + 1) i_l0 = (.inr ()) := by simp only [lo_laws_eqInt64SS_1, h_0, cond_false]
      rw [e]
      exact stepK_out (E := E0) E0Ok hMixed (e := (.exit 0)) (body := (sub (bodyOf Go.Proofs.Try.f64) [1, 1, 0, 1, 0, 0])) (st := ⟨[.sl (a_0.map (cL (cI .i64))), .sl (b_1.map (cL (cI .i64))), .any, .any, .any, .i .i64 i_l0, .sl (a_0.map (cL (cI .i64))), .i .i64 (a_0.length : Int), .sl (b_1.map (cL (cI .i64))), .i .i64 (b_1.length : Int), .b ((a_0.length : Int) != (b_1.length : Int)), .any, .any, .any, .any, .any, .any, .any, .any, .any, .any, .any, .any, .any, .any, .any, .any], []⟩)
        (st2 := ⟨[.sl (a_0.map (cL (cI .i64))), .sl (b_1.map (cL (cI .i64))), .any, .any, .any, .any, .sl (a_0.map (cL (cI .i64))), .i .i64 (a_0.length : Int), .sl (b_1.map (cL (cI .i64))), .i .i64 (b_1.length : Int), .b ((a_0.length : Int) != (b_1.length : Int)), .any, .any, .any, .any, .any, .any, .any, .any, .any, .any, .any, .any, .any, .any, .any, .any], []⟩)
        (ans := [.num (a_0.length : Int), .bo false])
        (ps := []) (mask := [true, true, false, false, false, false, true, true, true, true, true, false, false, false, false, false, false, false, false, false, false, false, false, false, false, false, false]) (ks := [])
        (C := [(((a_0.map (cL (cI .i64))).length : Nat) : Int) = (a_0.length : Int),
          (decide (i_l0 < (a_0.length : Int))) = false])
        (by kernel_rfl)
        ⟨len_ok, h_0, trivial⟩
        (by intro h; cases h) rfl

def lr_laws_eqInt64SS_1_0 (a_0 : (List (List Int))) (b_1 : (List (List Int))) : (Unit) ⊕ (Unit) := (lo_laws_eqInt64SS_1 a_0 b_1 (((a_0.length : Int) - 0).toNat + 1) 0)

/-- laws.eqInt64SS -/
def v_laws_eqInt64SS (a_0 : (List (List Int))) (b_1 : (List (List Int))) : Bool := (cond ((a_0.length : Int) != (b_1.length : Int))
  false
  (match (lr_laws_eqInt64SS_1_0 a_0 b_1) with
    | .inl r2 => false
    | .inr r2 => true))

theorem t_laws_eqInt64SS (a_0 : (List (List Int))) (b_1 : (List (List Int))) (hp0 : a_0.length ≤ 1073741824) (hp1 : ∀ t ∈ a_0, t.length ≤ 1073741824) (hp2 : b_1.length ≤ 1073741824) (hp3 : ∀ t ∈ b_1, t.length ≤ 1073741824)  : Fn Go.Proofs.Try.prog 64 [.sl (a_0.map (cL (cI .i64))), .sl (b_1.map (cL (cI .i64)))] (.b (v_laws_eqInt64SS a_0 b_1)) [] := by
  cases h0 : ((a_0.length : Int) != (b_1.length : Int)) with
  | true =>
    exact Fn.cast (CallSt.fn (callSt_of_evK (E := E0) E0Ok hMixed (c := bodyOf Go.Proofs.Try.f64) (rows := []) (r := .b false) (rows' := [])
      (ans := [.num (a_0.length : Int), .num (b_1.length : Int), .bo true, .keep []])
      (ps := [])
      (C := [(((a_0.map (cL (cI .i64))).length : Nat) : Int) = (a_0.length : Int),
        (((b_1.map (cL (cI .i64))).length : Nat) : Int) = (b_1.length : Int),
        ((a_0.length : Int) != (b_1.length : Int)) = true])
      Go.Proofs.Try.func64 rfl (by kernel_rfl) (by kernel_rfl)
      ⟨len_ok, len_ok, h0, trivial⟩) rfl) (by simp only [v_laws_eqInt64SS, h0, cond_true]) rfl
  | false =>
    cases h1 : (lr_laws_eqInt64SS_1_0 a_0 b_1) with
    | inl r2 =>
      exact Fn.cast (CallSt.fn (callSt_of_evK (E := E0) E0Ok hMixed (c := bodyOf Go.Proofs.Try.f64) (rows := []) (r := .b false) (rows' := [])
        (ans := [.num (a_0.length : Int), .num (b_1.length : Int), .bo false, .loop [true, true, false, false, false, true, true, true, true, true, true, false, false, false, false, false, false, false, false, false, false, false, false, false, false, false, false] 0 .ret ⟨[.any, .any, .any, .any, .b false, .any, .any, .any, .any, .any, .any, .any, .any, .any, .any, .any, .any, .any, .any, .any, .any, .any, .any, .any, .any, .any, .any], []⟩, .keep []])
        (ps := [])
        (C := [(((a_0.map (cL (cI .i64))).length : Nat) : Int) = (a_0.length : Int),
          (((b_1.map (cL (cI .i64))).length : Nat) : Int) = (b_1.length : Int),
          ((a_0.length : Int) != (b_1.length : Int)) = false,
          Lp Go.Proofs.Try.prog 0 (sub (bodyOf Go.Proofs.Try.f64) [1, 1, 0, 1, 0, 0]) ⟨[.sl (a_0.map (cL (cI .i64))), .sl (b_1.map (cL (cI .i64))), .any, .any, .any, .i .i64 0, .sl (a_0.map (cL (cI .i64))), .i .i64 (a_0.length : Int), .sl (b_1.map (cL (cI .i64))), .i .i64 (b_1.length : Int), .b ((a_0.length : Int) != (b_1.length : Int)), .any, .any, .any, .any, .any, .any, .any, .any, .any, .any, .any, .any, .any, .any, .any, .any], []⟩ .ret ⟨[.any, .any, .any, .any, .b false, .any, .any, .any, .any, .any, .any, .any, .any, .any, .any, .any, .any, .any, .any, .any, .any, .any, .any, .any, .any, .any, .any], []⟩])
        Go.Proofs.Try.func64 rfl (by kernel_rfl) (by kernel_rfl)
        ⟨len_ok, len_ok, h0, (by have q := (lp_laws_eqInt64SS_1 a_0 b_1 hp0 hp1 hp2 hp3 h0 (((a_0.length : Int) - 0).toNat + 1) 0 (show 0 ≤ 0 from (by first | assumption | omega | (simp at * <;> omega) | (simp_all <;> omega))) (Nat.lt_succ_self _)); rw [show (lo_laws_eqInt64SS_1 a_0 b_1 (((a_0.length : Int) - 0).toNat + 1) 0) = _ from rfl] at q; rw [show (lo_laws_eqInt64SS_1 a_0 b_1 (((a_0.length : Int) - 0).toNat + 1) 0) = (lr_laws_eqInt64SS_1_0 a_0 b_1) from rfl, h1] at q; exact q), trivial⟩) rfl) (by simp only [v_laws_eqInt64SS, h0, h1, cond_false]) rfl
    | inr r2 =>
      exact Fn.cast (CallSt.fn (callSt_of_evK (E := E0) E0Ok hMixed (c := bodyOf Go.Proofs.Try.f64) (rows := []) (r := .b true) (rows' := [])
        (ans := [.num (a_0.length : Int), .num (b_1.length : Int), .bo false, .loop [true, true, false, false, false, true, true, true, true, true, true, false, false, false, false, false, false, false, false, false, false, false, false, false, false, false, false] 0 (.exit 0) ⟨[.sl (a_0.map (cL (cI .i64))), .sl (b_1.map (cL (cI .i64))), .any, .any, .any, .any, .sl (a_0.map (cL (cI .i64))), .i .i64 (a_0.length : Int), .sl (b_1.map (cL (cI .i64))), .i .i64 (b_1.length : Int), .b ((a_0.length : Int) != (b_1.length : Int)), .any, .any, .any, .any, .any, .any, .any, .any, .any, .any, .any, .any, .any, .any, .any, .any], []⟩, .keep []])
        (ps := [])
        (C := [(((a_0.map (cL (cI .i64))).length : Nat) : Int) = (a_0.length : Int),
          (((b_1.map (cL (cI .i64))).length : Nat) : Int) = (b_1.length : Int),
          ((a_0.length : Int) != (b_1.length : Int)) = false,
          Lp Go.Proofs.Try.prog 0 (sub (bodyOf Go.Proofs.Try.f64) [1, 1, 0, 1, 0, 0]) ⟨[.sl (a_0.map (cL (cI .i64))), .sl (b_1.map (cL (cI .i64))), .any, .any, .any, .i .i64 0, .sl (a_0.map (cL (cI .i64))), .i .i64 (a_0.length : Int), .sl (b_1.map (cL (cI .i64))), .i .i64 (b_1.length : Int), .b ((a_0.length : Int) != (b_1.length : Int)), .any, .any, .any, .any, .any, .any, .any, .any, .any, .any, .any, .any, .any, .any, .any, .any], []⟩ (.exit 0) ⟨[.sl (a_0.map (cL (cI .i64))), .sl (b_1.map (cL (cI .i64))), .any, .any, .any, .any, .sl (a_0.map (cL (cI .i64))), .i .i64 (a_0.length : Int), .sl (b_1.map (cL (cI .i64))), .i .i64 (b_1.length : Int), .b ((a_0.length : Int) != (b_1.length : Int)), .any, .any, .any, .any, .any, .any, .any, .any, .any, .any, .any, .any, .any, .any, .any, .any], []⟩])
        Go.Proofs.Try.func64 rfl (by kernel_rfl) (by kernel_rfl)
        ⟨len_ok, len_ok, h0, (by have q := (lp_laws_eqInt64SS_1 a_0 b_1 hp0 hp1 hp2 hp3 h0 (((a_0.length : Int) - 0).toNat + 1) 0 (show 0 ≤ 0 from (by first | assumption | omega | (simp at * <;> omega) | (simp_all <;> omega))) (Nat.lt_succ_self _)); rw [show (lo_laws_eqInt64SS_1 a_0 b_1 (((a_0.length : Int) - 0).toNat + 1) 0) = _ from rfl] at q; rw [show (lo_laws_eqInt64SS_1 a_0 b_1 (((a_0.length : Int) - 0).toNat + 1) 0) = (lr_laws_eqInt64SS_1_0 a_0 b_1) from rfl, h1] at q; exact q), trivial⟩) rfl) (by simp only [v_laws_eqInt64SS, h0, h1, cond_false]) rfl

theorem eqInt64SS_self (a : List (List Int)) : v_laws_eqInt64SS a a = true := by
  unfold v_laws_eqInt64SS lr_laws_eqInt64SS_1_0
  rw [all_from (a := a) (p := fun v => v_laws_eqInt64S v v) (lo := lo_laws_eqInt64SS_1 a a) (x := ()) (y := ()) (fun k i => rfl)]
  rw [show (a.all fun v => v_laws_eqInt64S v v) = true from by rw [List.all_eq_true]; intro v _; exact eqInt64S_self v]
  simp

/-- laws.eqMesh -/
def v_laws_eqMesh (a_0 : GMesh) (b_1 : GMesh) : Bool := (cond (v_laws_eqVectorS a_0.Places b_1.Places)
  (cond (v_laws_eqInt64SS a_0.Triangles b_1.Triangles)
    true
    false)
  false)

theorem t_laws_eqMesh (a_0 : GMesh) (b_1 : GMesh) (hp0 : a_0.Places.length ≤ 1073741824) (hp1 : a_0.Triangles.length ≤ 1073741824) (hp2 : ∀ t ∈ a_0.Triangles, t.length ≤ 1073741824) (hp3 : b_1.Places.length ≤ 1073741824) (hp4 : b_1.Triangles.length ≤ 1073741824) (hp5 : ∀ t ∈ b_1.Triangles, t.length ≤ 1073741824)  : Fn Go.Proofs.Try.prog 18 [.agg [.sl (a_0.Places.map GVector.cells), .sl (a_0.Triangles.map (cL (cI .i64)))], .agg [.sl (b_1.Places.map GVector.cells), .sl (b_1.Triangles.map (cL (cI .i64)))]] (.b (v_laws_eqMesh a_0 b_1)) [] := by
  cases h0 : (v_laws_eqVectorS a_0.Places b_1.Places) with
  | true =>
    cases h1 : (v_laws_eqInt64SS a_0.Triangles b_1.Triangles) with
    | true =>
      exact Fn.cast (CallSt.fn (callSt_of_evK (E := E0) E0Ok hMixed (c := bodyOf Go.Proofs.Try.f18) (rows := []) (r := .b true) (rows' := [])
        (ans := [.call (.b (v_laws_eqVectorS a_0.Places b_1.Places)) [], .bo false, .call (.b (v_laws_eqInt64SS a_0.Triangles b_1.Triangles)) [], .bo false, .keep []])
        (ps := [])
        (C := [Fn Go.Proofs.Try.prog 48 [.sl (a_0.Places.map GVector.cells), .sl (b_1.Places.map GVector.cells)] (.b (v_laws_eqVectorS a_0.Places b_1.Places)) [],
          (!(v_laws_eqVectorS a_0.Places b_1.Places)) = false,
          Fn Go.Proofs.Try.prog 64 [.sl (a_0.Triangles.map (cL (cI .i64))), .sl (b_1.Triangles.map (cL (cI .i64)))] (.b (v_laws_eqInt64SS a_0.Triangles b_1.Triangles)) [],
          (!(v_laws_eqInt64SS a_0.Triangles b_1.Triangles)) = false])
        Go.Proofs.Try.func18 rfl (by kernel_rfl) (by kernel_rfl)
        ⟨(t_laws_eqVectorS a_0.Places b_1.Places (show a_0.Places.length ≤ 1073741824 from (by first | assumption | omega | (simp at * <;> omega) | (simp_all <;> omega))) (show b_1.Places.length ≤ 1073741824 from (by first | assumption | omega | (simp at * <;> omega) | (simp_all <;> omega)))), (congrArg not h0), (t_laws_eqInt64SS a_0.Triangles b_1.Triangles (show a_0.Triangles.length ≤ 1073741824 from (by first | assumption | omega | (simp at * <;> omega) | (simp_all <;> omega))) (show ∀ t ∈ a_0.Triangles, t.length ≤ 1073741824 from (by first | assumption | omega | (simp at * <;> omega) | (simp_all <;> omega))) (show b_1.Triangles.length ≤ 1073741824 from (by first | assumption | omega | (simp at * <;> omega) | (simp_all <;> omega))) (show ∀ t ∈ b_1.Triangles, t.length ≤ 1073741824 from (by first | assumption | omega | (simp at * <;> omega) | (simp_all <;> omega)))), (congrArg not h1), trivial⟩) rfl) (by simp only [v_laws_eqMesh, h0, h1, cond_true]) rfl
    | false =>
      exact Fn.cast (CallSt.fn (callSt_of_evK (E := E0) E0Ok hMixed (c := bodyOf Go.Proofs.Try.f18) (rows := []) (r := .b false) (rows' := [])
        (ans := [.call (.b (v_laws_eqVectorS a_0.Places b_1.Places)) [], .bo false, .call (.b (v_laws_eqInt64SS a_0.Triangles b_1.Triangles)) [], .bo true, .keep []])
        (ps := [])
        (C := [Fn Go.Proofs.Try.prog 48 [.sl (a_0.Places.map GVector.cells), .sl (b_1.Places.map GVector.cells)] (.b (v_laws_eqVectorS a_0.Places b_1.Places)) [],
          (!(v_laws_eqVectorS a_0.Places b_1.Places)) = false,
          Fn Go.Proofs.Try.prog 64 [.sl (a_0.Triangles.map (cL (cI .i64))), .sl (b_1.Triangles.map (cL (cI .i64)))] (.b (v_laws_eqInt64SS a_0.Triangles b_1.Triangles)) [],
          (!(v_laws_eqInt64SS a_0.Triangles b_1.Triangles)) = true])
        Go.Proofs.Try.func18 rfl (by kernel_rfl) (by kernel_rfl)
        ⟨(t_laws_eqVectorS a_0.Places b_1.Places (show a_0.Places.length ≤ 1073741824 from (by first | assumption | omega | (simp at * <;> omega) | (simp_all <;> omega))) (show b_1.Places.length ≤ 1073741824 from (by first | assumption | omega | (simp at * <;> omega) | (simp_all <;> omega)))), (congrArg not h0), (t_laws_eqInt64SS a_0.Triangles b_1.Triangles (show a_0.Triangles.length ≤ 1073741824 from (by first | assumption | omega | (simp at * <;> omega) | (simp_all <;> omega))) (show ∀ t ∈ a_0.Triangles, t.length ≤ 1073741824 from (by first | assumption | omega | (simp at * <;> omega) | (simp_all <;> omega))) (show b_1.Triangles.length ≤ 1073741824 from (by first | assumption | omega | (simp at * <;> omega) | (simp_all <;> omega))) (show ∀ t ∈ b_1.Triangles, t.length ≤ 1073741824 from (by first | assumption | omega | (simp at * <;> omega) | (simp_all <;> omega)))), (congrArg not h1), trivial⟩) rfl) (by simp only [v_laws_eqMesh, h0, h1, cond_true, cond_false]) rfl
  | false =>
    exact Fn.cast (CallSt.fn (callSt_of_evK (E := E0) E0Ok hMixed (c := bodyOf Go.Proofs.Try.f18) (rows := []) (r := .b false) (rows' := [])
      (ans := [.call (.b (v_laws_eqVectorS a_0.Places b_1.Places)) [], .bo true, .keep []])
      (ps := [])
      (C := [Fn Go.Proofs.Try.prog 48 [.sl (a_0.Places.map GVector.cells), .sl (b_1.Places.map GVector.cells)] (.b (v_laws_eqVectorS a_0.Places b_1.Places)) [],
        (!(v_laws_eqVectorS a_0.Places b_1.Places)) = true])
      Go.Proofs.Try.func18 rfl (by kernel_rfl) (by kernel_rfl)
      ⟨(t_laws_eqVectorS a_0.Places b_1.Places (show a_0.Places.length ≤ 1073741824 from (by first | assumption | omega | (simp at * <;> omega) | (simp_all <;> omega))) (show b_1.Places.length ≤ 1073741824 from (by first | assumption | omega | (simp at * <;> omega) | (simp_all <;> omega)))), (congrArg not h0), trivial⟩) rfl) (by simp only [v_laws_eqMesh, h0, cond_false]) rfl

theorem eqMesh_self (a : GMesh) : v_laws_eqMesh a a = true := by
  simp [v_laws_eqMesh, eqVectorS_self, eqInt64SS_self]

/-- laws.eqHold -/
def v_laws_eqHold (a_0 : GHold) (b_1 : GHold) : Bool := (cond (a_0.Place != b_1.Place)
  false
  (cond (a_0.Kind != b_1.Kind)
    false
    (cond (v_laws_eqVector a_0.At b_1.At)
      (cond (v_laws_eqVector a_0.Way b_1.Way)
        true
        false)
      false)))

theorem t_laws_eqHold (a_0 : GHold) (b_1 : GHold)   : Fn Go.Proofs.Try.prog 65 [.agg [.i .i64 a_0.Place, .i .i64 a_0.Kind, .f .f32 a_0.At.X, .f .f32 a_0.At.Y, .f .f32 a_0.At.Z, .f .f32 a_0.Way.X, .f .f32 a_0.Way.Y, .f .f32 a_0.Way.Z], .agg [.i .i64 b_1.Place, .i .i64 b_1.Kind, .f .f32 b_1.At.X, .f .f32 b_1.At.Y, .f .f32 b_1.At.Z, .f .f32 b_1.Way.X, .f .f32 b_1.Way.Y, .f .f32 b_1.Way.Z]] (.b (v_laws_eqHold a_0 b_1)) [] := by
  cases h0 : (a_0.Place != b_1.Place) with
  | true =>
    exact Fn.cast (CallSt.fn (callSt_of_evK (E := E0) E0Ok hMixed (c := bodyOf Go.Proofs.Try.f65) (rows := []) (r := .b false) (rows' := [])
      (ans := [.bo true, .keep []])
      (ps := [])
      (C := [(a_0.Place != b_1.Place) = true])
      Go.Proofs.Try.func65 rfl (by kernel_rfl) (by kernel_rfl)
      ⟨h0, trivial⟩) rfl) (by simp only [v_laws_eqHold, h0, cond_true]) rfl
  | false =>
    cases h1 : (a_0.Kind != b_1.Kind) with
    | true =>
      exact Fn.cast (CallSt.fn (callSt_of_evK (E := E0) E0Ok hMixed (c := bodyOf Go.Proofs.Try.f65) (rows := []) (r := .b false) (rows' := [])
        (ans := [.bo false, .bo true, .keep []])
        (ps := [])
        (C := [(a_0.Place != b_1.Place) = false,
          (a_0.Kind != b_1.Kind) = true])
        Go.Proofs.Try.func65 rfl (by kernel_rfl) (by kernel_rfl)
        ⟨h0, h1, trivial⟩) rfl) (by simp only [v_laws_eqHold, h0, h1, cond_true, cond_false]) rfl
    | false =>
      cases h2 : (v_laws_eqVector a_0.At b_1.At) with
      | true =>
        cases h3 : (v_laws_eqVector a_0.Way b_1.Way) with
        | true =>
          exact Fn.cast (CallSt.fn (callSt_of_evK (E := E0) E0Ok hMixed (c := bodyOf Go.Proofs.Try.f65) (rows := []) (r := .b true) (rows' := [])
            (ans := [.bo false, .bo false, .call (.b (v_laws_eqVector a_0.At b_1.At)) [], .bo false, .call (.b (v_laws_eqVector a_0.Way b_1.Way)) [], .bo false, .keep []])
            (ps := [])
            (C := [(a_0.Place != b_1.Place) = false,
              (a_0.Kind != b_1.Kind) = false,
              Fn Go.Proofs.Try.prog 29 [.agg [.f .f32 a_0.At.X, .f .f32 a_0.At.Y, .f .f32 a_0.At.Z], .agg [.f .f32 b_1.At.X, .f .f32 b_1.At.Y, .f .f32 b_1.At.Z]] (.b (v_laws_eqVector a_0.At b_1.At)) [],
              (!(v_laws_eqVector a_0.At b_1.At)) = false,
              Fn Go.Proofs.Try.prog 29 [.agg [.f .f32 a_0.Way.X, .f .f32 a_0.Way.Y, .f .f32 a_0.Way.Z], .agg [.f .f32 b_1.Way.X, .f .f32 b_1.Way.Y, .f .f32 b_1.Way.Z]] (.b (v_laws_eqVector a_0.Way b_1.Way)) [],
              (!(v_laws_eqVector a_0.Way b_1.Way)) = false])
            Go.Proofs.Try.func65 rfl (by kernel_rfl) (by kernel_rfl)
            ⟨h0, h1, (t_laws_eqVector a_0.At b_1.At), (congrArg not h2), (t_laws_eqVector a_0.Way b_1.Way), (congrArg not h3), trivial⟩) rfl) (by simp only [v_laws_eqHold, h0, h1, h2, h3, cond_true, cond_false]) rfl
        | false =>
          exact Fn.cast (CallSt.fn (callSt_of_evK (E := E0) E0Ok hMixed (c := bodyOf Go.Proofs.Try.f65) (rows := []) (r := .b false) (rows' := [])
            (ans := [.bo false, .bo false, .call (.b (v_laws_eqVector a_0.At b_1.At)) [], .bo false, .call (.b (v_laws_eqVector a_0.Way b_1.Way)) [], .bo true, .keep []])
            (ps := [])
            (C := [(a_0.Place != b_1.Place) = false,
              (a_0.Kind != b_1.Kind) = false,
              Fn Go.Proofs.Try.prog 29 [.agg [.f .f32 a_0.At.X, .f .f32 a_0.At.Y, .f .f32 a_0.At.Z], .agg [.f .f32 b_1.At.X, .f .f32 b_1.At.Y, .f .f32 b_1.At.Z]] (.b (v_laws_eqVector a_0.At b_1.At)) [],
              (!(v_laws_eqVector a_0.At b_1.At)) = false,
              Fn Go.Proofs.Try.prog 29 [.agg [.f .f32 a_0.Way.X, .f .f32 a_0.Way.Y, .f .f32 a_0.Way.Z], .agg [.f .f32 b_1.Way.X, .f .f32 b_1.Way.Y, .f .f32 b_1.Way.Z]] (.b (v_laws_eqVector a_0.Way b_1.Way)) [],
              (!(v_laws_eqVector a_0.Way b_1.Way)) = true])
            Go.Proofs.Try.func65 rfl (by kernel_rfl) (by kernel_rfl)
            ⟨h0, h1, (t_laws_eqVector a_0.At b_1.At), (congrArg not h2), (t_laws_eqVector a_0.Way b_1.Way), (congrArg not h3), trivial⟩) rfl) (by simp only [v_laws_eqHold, h0, h1, h2, h3, cond_true, cond_false]) rfl
      | false =>
        exact Fn.cast (CallSt.fn (callSt_of_evK (E := E0) E0Ok hMixed (c := bodyOf Go.Proofs.Try.f65) (rows := []) (r := .b false) (rows' := [])
          (ans := [.bo false, .bo false, .call (.b (v_laws_eqVector a_0.At b_1.At)) [], .bo true, .keep []])
          (ps := [])
          (C := [(a_0.Place != b_1.Place) = false,
            (a_0.Kind != b_1.Kind) = false,
            Fn Go.Proofs.Try.prog 29 [.agg [.f .f32 a_0.At.X, .f .f32 a_0.At.Y, .f .f32 a_0.At.Z], .agg [.f .f32 b_1.At.X, .f .f32 b_1.At.Y, .f .f32 b_1.At.Z]] (.b (v_laws_eqVector a_0.At b_1.At)) [],
            (!(v_laws_eqVector a_0.At b_1.At)) = true])
          Go.Proofs.Try.func65 rfl (by kernel_rfl) (by kernel_rfl)
          ⟨h0, h1, (t_laws_eqVector a_0.At b_1.At), (congrArg not h2), trivial⟩) rfl) (by simp only [v_laws_eqHold, h0, h1, h2, cond_false]) rfl

theorem eqHold_self (a : GHold) : v_laws_eqHold a a = true := by
  simp [v_laws_eqHold, same_self, eqVector_self]

def lo_laws_eqHoldS_1 (a_0 : (List GHold)) (b_1 : (List GHold)) : Nat → Int → (Unit) ⊕ (Unit)
  | 0, _ => .inl default
  | k + 1, i_l0 => (cond (decide (i_l0 < (a_0.length : Int)))
    (cond (v_laws_eqHold (a_0.getD i_l0.toNat default) (b_1.getD i_l0.toNat default))
      (lo_laws_eqHoldS_1 a_0 b_1 k (i_l0 + 1))
      (.inl ()))
    (.inr ()))

def ls_laws_eqHoldS_1 (a_0 : (List GHold)) (b_1 : (List GHold)) : (Unit) ⊕ (Unit) → Ex × St
  | .inl r => (.ret, ⟨[.any, .any, .any, .any, .b false, .any, .any, .any, .any, .any, .any, .any, .any, .any, .any, .any, .any, .any, .any, .any, .any, .any, .any, .any, .any, .any, .any], []⟩)
  | .inr r => ((.exit 0), ⟨[.sl (a_0.map GHold.cells), .sl (b_1.map GHold.cells), .any, .any, .any, .any, .sl (a_0.map GHold.cells), .i .i64 (a_0.length : Int), .sl (b_1.map GHold.cells), .i .i64 (b_1.length : Int), .b ((a_0.length : Int) != (b_1.length : Int)), .any, .any, .any, .any, .any, .any, .any, .any, .any, .any, .any, .any, .any, .any, .any, .any], []⟩)

theorem lp_laws_eqHoldS_1 (a_0 : (List GHold)) (b_1 : (List GHold)) (hp0 : a_0.length ≤ 1073741824) (hp1 : b_1.length ≤ 1073741824) (hf_laws_eqHoldS_1_0 : ((a_0.length : Int) != (b_1.length : Int)) = false) : ∀ (k : Nat) (i_l0 : Int) (hv_laws_eqHoldS_1_0 : 0 ≤ i_l0) (hk : ((a_0.length : Int) - i_l0).toNat < k), Lp Go.Proofs.Try.prog 0 (sub (bodyOf Go.Proofs.Try.f19) [1, 1, 0, 1, 0, 0]) ⟨[.sl (a_0.map GHold.cells), .sl (b_1.map GHold.cells), .any, .any, .any, .i .i64 i_l0, .sl (a_0.map GHold.cells), .i .i64 (a_0.length : Int), .sl (b_1.map GHold.cells), .i .i64 (b_1.length : Int), .b ((a_0.length : Int) != (b_1.length : Int)), .any, .any, .any, .any, .any, .any, .any, .any, .any, .any, .any, .any, .any, .any, .any, .any], []⟩ (ls_laws_eqHoldS_1 a_0 b_1 (lo_laws_eqHoldS_1 a_0 b_1 k i_l0)).1 (ls_laws_eqHoldS_1 a_0 b_1 (lo_laws_eqHoldS_1 a_0 b_1 k i_l0)).2 := by
  intro k
  induction k with
  | zero => intro i_l0 hv_laws_eqHoldS_1_0 hk; exact absurd hk (Nat.not_lt_zero _)
  | succ k ih =>
    intro i_l0 hv_laws_eqHoldS_1_0 hk
    cases h_0 : (decide (i_l0 < (a_0.length : Int))) with
    | true =>
      cases h_1 : (v_laws_eqHold (a_0.getD i_l0.toNat default) (b_1.getD i_l0.toNat default)) with
      | true =>
        have e : lo_laws_eqHoldS_1 a_0 b_1 (k + 1) i_l0 = (lo_laws_eqHoldS_1 a_0 b_1 k (i_l0 + 1)) := by simp only [lo_laws_eqHoldS_1, h_0, h_1, cond_true]
        rw [e]
        exact stepK_next (E := E0) E0Ok hMixed (body := (sub (bodyOf Go.Proofs.Try.f19) [1, 1, 0, 1, 0, 0])) (st := ⟨[.sl (a_0.map GHold.cells), .sl (b_1.map GHold.cells), .any, .any, .any, .i .i64 i_l0, .sl (a_0.map GHold.cells), .i .i64 (a_0.length : Int), .sl (b_1.map GHold.cells), .i .i64 (b_1.length : Int), .b ((a_0.length : Int) != (b_1.length : Int)), .any, .any, .any, .any, .any, .any, .any, .any, .any, .any, .any, .any, .any, .any, .any, .any], []⟩)
          (st2 := ⟨[.sl (a_0.map GHold.cells), .sl (b_1.map GHold.cells), .any, .any, .any, .i .i64 (i_l0 + 1), .sl (a_0.map GHold.cells), .i .i64 (a_0.length : Int), .sl (b_1.map GHold.cells), .i .i64 (b_1.length : Int), .b ((a_0.length : Int) != (b_1.length : Int)), .any, .any, .any, .any, .any, .any, .any, .any, .any, .any, .any, .any, .any, .any, .any, .any], []⟩)
          (ans := [.num (a_0.length : Int), .bo true, .keep [8, 8], .el [.i .i64 ((a_0.getD i_l0.toNat default).Place), .i .i64 ((a_0.getD i_l0.toNat default).Kind), .f .f32 ((a_0.getD i_l0.toNat default).At.X), .f .f32 ((a_0.getD i_l0.toNat default).At.Y), .f .f32 ((a_0.getD i_l0.toNat default).At.Z), .f .f32 ((a_0.getD i_l0.toNat default).Way.X), .f .f32 ((a_0.getD i_l0.toNat default).Way.Y), .f .f32 ((a_0.getD i_l0.toNat default).Way.Z)], .el [.i .i64 ((b_1.getD i_l0.toNat default).Place), .i .i64 ((b_1.getD i_l0.toNat default).Kind), .f .f32 ((b_1.getD i_l0.toNat default).At.X), .f .f32 ((b_1.getD i_l0.toNat default).At.Y), .f .f32 ((b_1.getD i_l0.toNat default).At.Z), .f .f32 ((b_1.getD i_l0.toNat default).Way.X), .f .f32 ((b_1.getD i_l0.toNat default).Way.Y), .f .f32 ((b_1.getD i_l0.toNat default).Way.Z)], .call (.b (v_laws_eqHold (a_0.getD i_l0.toNat default) (b_1.getD i_l0.toNat default))) [], .bo false, .num (i_l0 + 1)])
          (ps := []) (mask := [true, true, false, false, false, true, true, true, true, true, true, false, false, false, false, false, false, false, false, false, false, false, false, false, false, false, false]) (ks := [])
          (C := [(((a_0.map GHold.cells).length : Nat) : Int) = (a_0.length : Int),
            (decide (i_l0 < (a_0.length : Int))) = true,
            0 ≤ i_l0 ∧ (a_0.map GHold.cells)[Int.toNat i_l0]? = some [.i .i64 ((a_0.getD i_l0.toNat default).Place), .i .i64 ((a_0.getD i_l0.toNat default).Kind), .f .f32 ((a_0.getD i_l0.toNat default).At.X), .f .f32 ((a_0.getD i_l0.toNat default).At.Y), .f .f32 ((a_0.getD i_l0.toNat default).At.Z), .f .f32 ((a_0.getD i_l0.toNat default).Way.X), .f .f32 ((a_0.getD i_l0.toNat default).Way.Y), .f .f32 ((a_0.getD i_l0.toNat default).Way.Z)],
            0 ≤ i_l0 ∧ (b_1.map GHold.cells)[Int.toNat i_l0]? = some [.i .i64 ((b_1.getD i_l0.toNat default).Place), .i .i64 ((b_1.getD i_l0.toNat default).Kind), .f .f32 ((b_1.getD i_l0.toNat default).At.X), .f .f32 ((b_1.getD i_l0.toNat default).At.Y), .f .f32 ((b_1.getD i_l0.toNat default).At.Z), .f .f32 ((b_1.getD i_l0.toNat default).Way.X), .f .f32 ((b_1.getD i_l0.toNat default).Way.Y), .f .f32 ((b_1.getD i_l0.toNat default).Way.Z)],
            Fn Go.Proofs.Try.prog 65 [.agg [.i .i64 ((a_0.getD i_l0.toNat default).Place), .i .i64 ((a_0.getD i_l0.toNat default).Kind), .f .f32 ((a_0.getD i_l0.toNat default).At.X), .f .f32 ((a_0.getD i_l0.toNat default).At.Y), .f .f32 ((a_0.getD i_l0.toNat default).At.Z), .f .f32 ((a_0.getD i_l0.toNat default).Way.X), .f .f32 ((a_0.getD i_l0.toNat default).Way.Y), .f .f32 ((a_0.getD i_l0.toNat default).Way.Z)], .agg [.i .i64 ((b_1.getD i_l0.toNat default).Place), .i .i64 ((b_1.getD i_l0.toNat default).Kind), .f .f32 ((b_1.getD i_l0.toNat default).At.X), .f .f32 ((b_1.getD i_l0.toNat default).At.Y), .f .f32 ((b_1.getD i_l0.toNat default).At.Z), .f .f32 ((b_1.getD i_l0.toNat default).Way.X), .f .f32 ((b_1.getD i_l0.toNat default).Way.Y), .f .f32 ((b_1.getD i_l0.toNat default).Way.Z)]] (.b (v_laws_eqHold (a_0.getD i_l0.toNat default) (b_1.getD i_l0.toNat default))) [],
            (!(v_laws_eqHold (a_0.getD i_l0.toNat default) (b_1.getD i_l0.toNat default))) = false,
            IntKind.wrap .i64 (i_l0 + 1) = (i_l0 + 1)])
          (by kernel_rfl)
          ⟨len_ok, h_0, (get_ok (by first | assumption | omega | (simp at * <;> omega) | (simp_all <;> omega)) (by first | assumption | omega | (simp at * <;> omega) | (simp_all <;> omega))), (get_ok (by first | assumption | omega | (simp at * <;> omega) | (simp_all <;> omega)) (by first | assumption | omega | (simp at * <;> omega) | (simp_all <;> omega))), (t_laws_eqHold (a_0.getD i_l0.toNat default) (b_1.getD i_l0.toNat default)), (congrArg not h_1), (wrap_id (by first | assumption | omega | (simp at * <;> omega) | (simp_all <;> omega)) (by first | assumption | omega | (simp at * <;> omega) | (simp_all <;> omega))), trivial⟩
          rfl (ih (i_l0 + 1) (show 0 ≤ (i_l0 + 1) from (by first | assumption | omega | (simp at * <;> omega) | (simp_all <;> omega))) (by first | assumption | omega | (simp at * <;> omega) | (simp_all <;> omega)))
      | false =>
        have e : lo_laws_eqHoldS_1 a_0 b_1 (k + 1) i_l0 = (.inl ()) := by simp only [lo_laws_eqHoldS_1, h_0, h_1, cond_true, cond_false]
        rw [e]
        exact stepK_out (E := E0) E0Ok hMixed (e := .ret) (body := (sub (bodyOf Go.Proofs.Try.f19) [1, 1, 0, 1, 0, 0])) (st := ⟨[.sl (a_0.map GHold.cells), .sl (b_1.map GHold.cells), .any, .any, .any, .i .i64 i_l0, .sl (a_0.map GHold.cells), .i .i64 (a_0.length : Int), .sl (b_1.map GHold.cells), .i .i64 (b_1.length : Int), .b ((a_0.length : Int) != (b_1.length : Int)), .any, .any, .any, .any, .any, .any, .any, .any, .any, .any, .any, .any, .any, .any, .any, .any], []⟩)
          (st2 := ⟨[.any, .any, .any, .any, .b false, .any, .any, .any, .any, .any, .any, .any, .any, .any, .any, .any, .any, .any, .any, .any, .any, .any, .any, .any, .any, .any, .any], []⟩)
          (ans := [.num (a_0.length : Int), .bo true, .keep [8, 8], .el [.i .i64 ((a_0.getD i_l0.toNat default).Place), .i .i64 ((a_0.getD i_l0.toNat default).Kind), .f .f32 ((a_0.getD i_l0.toNat default).At.X), .f .f32 ((a_0.getD i_l0.toNat default).At.Y), .f .f32 ((a_0.getD i_l0.toNat default).At.Z), .f .f32 ((a_0.getD i_l0.toNat default).Way.X), .f .f32 ((a_0.getD i_l0.toNat default).Way.Y), .f .f32 ((a_0.getD i_l0.toNat default).Way.Z)], .el [.i .i64 ((b_1.getD i_l0.toNat default).Place), .i .i64 ((b_1.getD i_l0.toNat default).Kind), .f .f32 ((b_1.getD i_l0.toNat default).At.X), .f .f32 ((b_1.getD i_l0.toNat default).At.Y), .f .f32 ((b_1.getD i_l0.toNat default).At.Z), .f .f32 ((b_1.getD i_l0.toNat default).Way.X), .f .f32 ((b_1.getD i_l0.toNat default).Way.Y), .f .f32 ((b_1.getD i_l0.toNat default).Way.Z)], .call (.b (v_laws_eqHold (a_0.getD i_l0.toNat default) (b_1.getD i_l0.toNat default))) [], .bo true])
          (ps := []) (mask := [false, false, false, false, true, false, false, false, false, false, false, false, false, false, false, false, false, false, false, false, false, false, false, false, false, false, false]) (ks := [])
          (C := [(((a_0.map GHold.cells).length : Nat) : Int) = (a_0.length : Int),
            (decide (i_l0 < (a_0.length : Int))) = true,
            0 ≤ i_l0 ∧ (a_0.map GHold.cells)[Int.toNat i_l0]? = some [.i .i64 ((a_0.getD i_l0.toNat default).Place), .i .i64 ((a_0.getD i_l0.toNat default).Kind), .f .f32 ((a_0.getD i_l0.toNat default).At.X), .f .f32 ((a_0.getD i_l0.toNat default).At.Y), .f .f32 ((a_0.getD i_l0.toNat default).At.Z), .f .f32 ((a_0.getD i_l0.toNat default).Way.X), .f .f32 ((a_0.getD i_l0.toNat default).Way.Y), .f .f32 ((a_0.getD i_l0.toNat default).Way.Z)],
            0 ≤ i_l0 ∧ (b_1.map GHold.cells)[Int.toNat i_l0]? = some [.i .i64 ((b_1.getD i_l0.toNat default).Place), .i .i64 ((b_1.getD i_l0.toNat default).Kind), .f .f32 ((b_1.getD i_l0.toNat default).At.X), .f .f32 ((b_1.getD i_l0.toNat default).At.Y), .f .f32 ((b_1.getD i_l0.toNat default).At.Z), .f .f32 ((b_1.getD i_l0.toNat default).Way.X), .f .f32 ((b_1.getD i_l0.toNat default).Way.Y), .f .f32 ((b_1.getD i_l0.toNat default).Way.Z)],
            Fn Go.Proofs.Try.prog 65 [.agg [.i .i64 ((a_0.getD i_l0.toNat default).Place), .i .i64 ((a_0.getD i_l0.toNat default).Kind), .f .f32 ((a_0.getD i_l0.toNat default).At.X), .f .f32 ((a_0.getD i_l0.toNat default).At.Y), .f .f32 ((a_0.getD i_l0.toNat default).At.Z), .f .f32 ((a_0.getD i_l0.toNat default).Way.X), .f .f32 ((a_0.getD i_l0.toNat default).Way.Y), .f .f32 ((a_0.getD i_l0.toNat default).Way.Z)], .agg [.i .i64 ((b_1.getD i_l0.toNat default).Place), .i .i64 ((b_1.getD i_l0.toNat default).Kind), .f .f32 ((b_1.getD i_l0.toNat default).At.X), .f .f32 ((b_1.getD i_l0.toNat default).At.Y), .f .f32 ((b_1.getD i_l0.toNat default).At.Z), .f .f32 ((b_1.getD i_l0.toNat default).Way.X), .f .f32 ((b_1.getD i_l0.toNat default).Way.Y), .f .f32 ((b_1.getD i_l0.toNat default).Way.Z)]] (.b (v_laws_eqHold (a_0.getD i_l0.toNat default) (b_1.getD i_l0.toNat default))) [],
            (!(v_laws_eqHold (a_0.getD i_l0.toNat default) (b_1.getD i_l0.toNat default))) = true])
          (by kernel_rfl)
          ⟨len_ok, h_0, (get_ok (by first | assumption | omega | (simp at * <;> omega) | (simp_all <;> omega)) (by first | assumption | omega | (simp at * <;> omega) | (simp_all <;> omega))), (get_ok (by first | assumption | omega | (simp at * <;> omega) | (simp_all <;> omega)) (by first | assumption | omega | (simp at * <;> omega) | (simp_all <;> omega))), (t_laws_eqHold (a_0.getD i_l0.toNat default) (b_1.getD i_l0.toNat default)), (congrArg not h_1), trivial⟩
          (by intro h; cases h) rfl
    | false =>
      have e : lo_laws_eqHoldS_1 a_0 b_1 (k + 1) i_l0 = (.inr ()) := by simp only [lo_laws_eqHoldS_1, h_0, cond_false]
      rw [e]
      exact stepK_out (E := E0) E0Ok hMixed (e := (.exit 0)) (body := (sub (bodyOf Go.Proofs.Try.f19) [1, 1, 0, 1, 0, 0])) (st := ⟨[.sl (a_0.map GHold.cells), .sl (b_1.map GHold.cells), .any, .any, .any, .i .i64 i_l0, .sl (a_0.map GHold.cells), .i .i64 (a_0.length : Int), .sl (b_1.map GHold.cells), .i .i64 (b_1.length : Int), .b ((a_0.length : Int) != (b_1.length : Int)), .any, .any, .any, .any, .any, .any, .any, .any, .any, .any, .any, .any, .any, .any, .any, .any], []⟩)
        (st2 := ⟨[.sl (a_0.map GHold.cells), .sl (b_1.map GHold.cells), .any, .any, .any, .any, .sl (a_0.map GHold.cells), .i .i64 (a_0.length : Int), .sl (b_1.map GHold.cells), .i .i64 (b_1.length : Int), .b ((a_0.length : Int) != (b_1.length : Int)), .any, .any, .any, .any, .any, .any, .any, .any, .any, .any, .any, .any, .any, .any, .any, .any], []⟩)
        (ans := [.num (a_0.length : Int), .bo false])
        (ps := []) (mask := [true, true, false, false, false, false, true, true, true, true, true, false, false, false, false, false, false, false, false, false, false, false, false, false, false, false, false]) (ks := [])
        (C := [(((a_0.map GHold.cells).length : Nat) : Int) = (a_0.length : Int),
          (decide (i_l0 < (a_0.length : Int))) = false])
        (by kernel_rfl)
        ⟨len_ok, h_0, trivial⟩
        (by intro h; cases h) rfl

def lr_laws_eqHoldS_1_0 (a_0 : (List GHold)) (b_1 : (List GHold)) : (Unit) ⊕ (Unit) := (lo_laws_eqHoldS_1 a_0 b_1 (((a_0.length : Int) - 0).toNat + 1) 0)

/-- laws.eqHoldS -/
def v_laws_eqHoldS (a_0 : (List GHold)) (b_1 : (List GHold)) : Bool := (cond ((a_0.length : Int) != (b_1.length : Int))
  false
  (match (lr_laws_eqHoldS_1_0 a_0 b_1) with
    | .inl r2 => false
    | .inr r2 => true))

theorem t_laws_eqHoldS (a_0 : (List GHold)) (b_1 : (List GHold)) (hp0 : a_0.length ≤ 1073741824) (hp1 : b_1.length ≤ 1073741824)  : Fn Go.Proofs.Try.prog 19 [.sl (a_0.map GHold.cells), .sl (b_1.map GHold.cells)] (.b (v_laws_eqHoldS a_0 b_1)) [] := by
  cases h0 : ((a_0.length : Int) != (b_1.length : Int)) with
  | true =>
    exact Fn.cast (CallSt.fn (callSt_of_evK (E := E0) E0Ok hMixed (c := bodyOf Go.Proofs.Try.f19) (rows := []) (r := .b false) (rows' := [])
      (ans := [.num (a_0.length : Int), .num (b_1.length : Int), .bo true, .keep []])
      (ps := [])
      (C := [(((a_0.map GHold.cells).length : Nat) : Int) = (a_0.length : Int),
        (((b_1.map GHold.cells).length : Nat) : Int) = (b_1.length : Int),
        ((a_0.length : Int) != (b_1.length : Int)) = true])
      Go.Proofs.Try.func19 rfl (by kernel_rfl) (by kernel_rfl)
      ⟨len_ok, len_ok, h0, trivial⟩) rfl) (by simp only [v_laws_eqHoldS, h0, cond_true]) rfl
  | false =>
    cases h1 : (lr_laws_eqHoldS_1_0 a_0 b_1) with
    | inl r2 =>
      exact Fn.cast (CallSt.fn (callSt_of_evK (E := E0) E0Ok hMixed (c := bodyOf Go.Proofs.Try.f19) (rows := []) (r := .b false) (rows' := [])
        (ans := [.num (a_0.length : Int), .num (b_1.length : Int), .bo false, .loop [true, true, false, false, false, true, true, true, true, true, true, false, false, false, false, false, false, false, false, false, false, false, false, false, false, false, false] 0 .ret ⟨[.any, .any, .any, .any, .b false, .any, .any, .any, .any, .any, .any, .any, .any, .any, .any, .any, .any, .any, .any, .any, .any, .any, .any, .any, .any, .any, .any], []⟩, .keep []])
        (ps := [])
        (C := [(((a_0.map GHold.cells).length : Nat) : Int) = (a_0.length : Int),
          (((b_1.map GHold.cells).length : Nat) : Int) = (b_1.length : Int),
          ((a_0.length : Int) != (b_1.length : Int)) = false,
          Lp Go.Proofs.Try.prog 0 (sub (bodyOf Go.Proofs.Try.f19) [1, 1, 0, 1, 0, 0]) ⟨[.sl (a_0.map GHold.cells), .sl (b_1.map GHold.cells), .any, .any, .any, .i .i64 0, .sl (a_0.map GHold.cells), .i .i64 (a_0.length : Int), .sl (b_1.map GHold.cells), .i .i64 (b_1.length : Int), .b ((a_0.length : Int) != (b_1.length : Int)), .any, .any, .any, .any, .any, .any, .any, .any, .any, .any, .any, .any, .any, .any, .any, .any], []⟩ .ret ⟨[.any, .any, .any, .any, .b false, .any, .any, .any, .any, .any, .any, .any, .any, .any, .any, .any, .any, .any, .any, .any, .any, .any, .any, .any, .any, .any, .any], []⟩])
        Go.Proofs.Try.func19 rfl (by kernel_rfl) (by kernel_rfl)
        ⟨len_ok, len_ok, h0, (by have q := (lp_laws_eqHoldS_1 a_0 b_1 hp0 hp1 h0 (((a_0.length : Int) - 0).toNat + 1) 0 (show 0 ≤ 0 from (by first | assumption | omega | (simp at * <;> omega) | (simp_all <;> omega))) (Nat.lt_succ_self _)); rw [show (lo_laws_eqHoldS_1 a_0 b_1 (((a_0.length : Int) - 0).toNat + 1) 0) = _ from rfl] at q; rw [show (lo_laws_eqHoldS_1 a_0 b_1 (((a_0.length : Int) - 0).toNat + 1) 0) = (lr_laws_eqHoldS_1_0 a_0 b_1) from rfl, h1] at q; exact q), trivial⟩) rfl) (by simp only [v_laws_eqHoldS, h0, h1, cond_false]) rfl
    | inr r2 =>
      exact Fn.cast (CallSt.fn (callSt_of_evK (E := E0) E0Ok hMixed (c := bodyOf Go.Proofs.Try.f19) (rows := []) (r := .b true) (rows' := [])
        (ans := [.num (a_0.length : Int), .num (b_1.length : Int), .bo false, .loop [true, true, false, false, false, true, true, true, true, true, true, false, false, false, false, false, false, false, false, false, false, false, false, false, false, false, false] 0 (.exit 0) ⟨[.sl (a_0.map GHold.cells), .sl (b_1.map GHold.cells), .any, .any, .any, .any, .sl (a_0.map GHold.cells), .i .i64 (a_0.length : Int), .sl (b_1.map GHold.cells), .i .i64 (b_1.length : Int), .b ((a_0.length : Int) != (b_1.length : Int)), .any, .any, .any, .any, .any, .any, .any, .any, .any, .any, .any, .any, .any, .any, .any, .any], []⟩, .keep []])
        (ps := [])
        (C := [(((a_0.map GHold.cells).length : Nat) : Int) = (a_0.length : Int),
          (((b_1.map GHold.cells).length : Nat) : Int) = (b_1.length : Int),
          ((a_0.length : Int) != (b_1.length : Int)) = false,
          Lp Go.Proofs.Try.prog 0 (sub (bodyOf Go.Proofs.Try.f19) [1, 1, 0, 1, 0, 0]) ⟨[.sl (a_0.map GHold.cells), .sl (b_1.map GHold.cells), .any, .any, .any, .i .i64 0, .sl (a_0.map GHold.cells), .i .i64 (a_0.length : Int), .sl (b_1.map GHold.cells), .i .i64 (b_1.length : Int), .b ((a_0.length : Int) != (b_1.length : Int)), .any, .any, .any, .any, .any, .any, .any, .any, .any, .any, .any, .any, .any, .any, .any, .any], []⟩ (.exit 0) ⟨[.sl (a_0.map GHold.cells), .sl (b_1.map GHold.cells), .any, .any, .any, .any, .sl (a_0.map GHold.cells), .i .i64 (a_0.length : Int), .sl (b_1.map GHold.cells), .i .i64 (b_1.length : Int), .b ((a_0.length : Int) != (b_1.length : Int)), .any, .any, .any, .any, .any, .any, .any, .any, .any, .any, .any, .any, .any, .any, .any, .any], []⟩])
        Go.Proofs.Try.func19 rfl (by kernel_rfl) (by kernel_rfl)
        ⟨len_ok, len_ok, h0, (by have q := (lp_laws_eqHoldS_1 a_0 b_1 hp0 hp1 h0 (((a_0.length : Int) - 0).toNat + 1) 0 (show 0 ≤ 0 from (by first | assumption | omega | (simp at * <;> omega) | (simp_all <;> omega))) (Nat.lt_succ_self _)); rw [show (lo_laws_eqHoldS_1 a_0 b_1 (((a_0.length : Int) - 0).toNat + 1) 0) = _ from rfl] at q; rw [show (lo_laws_eqHoldS_1 a_0 b_1 (((a_0.length : Int) - 0).toNat + 1) 0) = (lr_laws_eqHoldS_1_0 a_0 b_1) from rfl, h1] at q; exact q), trivial⟩) rfl) (by simp only [v_laws_eqHoldS, h0, h1, cond_false]) rfl

theorem eqHoldS_self (a : List GHold) : v_laws_eqHoldS a a = true := by
  unfold v_laws_eqHoldS lr_laws_eqHoldS_1_0
  rw [all_from (a := a) (p := fun v => v_laws_eqHold v v) (lo := lo_laws_eqHoldS_1 a a) (x := ()) (y := ()) (fun k i => rfl)]
  rw [show (a.all fun v => v_laws_eqHold v v) = true from by rw [List.all_eq_true]; intro v _; exact eqHold_self v]
  simp

def nd_laws_FnExactOffHolds_0 (aM_0 : GMesh) (aHolds_1 : (List GHold)) : Bool := (v_laws_sameFloat (fcv .f32 .f64 ((v_impl_OffHolds (v_laws_toMesh aM_0) (v_laws_toHoldS aHolds_1)).1)) (fcv .f32 .f64 ((v_spec_OffHolds (v_laws_toMesh aM_0) (v_laws_toHoldS aHolds_1)).1)))

/-- laws.FnExactOffHolds -/
def v_laws_FnExactOffHolds (aM_0 : GMesh) (aHolds_1 : (List GHold)) : Bool := (cond (decide ((v_laws_szMesh aM_0 1048576) < 0))
  true
  (cond (decide ((v_laws_szHoldS aHolds_1 (v_laws_szMesh aM_0 1048576)) < 0))
    true
    (cond (nd_laws_FnExactOffHolds_0 aM_0 aHolds_1)
      (cond ((v_impl_OffHolds (v_laws_toMesh aM_0) (v_laws_toHoldS aHolds_1)).2 == (v_spec_OffHolds (v_laws_toMesh aM_0) (v_laws_toHoldS aHolds_1)).2)
        (cond (v_laws_eqMesh (v_laws_toMesh aM_0) (v_laws_toMesh aM_0))
          (cond (v_laws_eqHoldS (v_laws_toHoldS aHolds_1) (v_laws_toHoldS aHolds_1))
            true
            false)
          false)
        false)
      false)))

theorem t_laws_FnExactOffHolds (aM_0 : GMesh) (aHolds_1 : (List GHold)) (hp0 : aM_0.Places.length ≤ 9223372036854775807) (hp1 : aM_0.Triangles.length ≤ 9223372036854775807) (hp2 : ∀ t ∈ aM_0.Triangles, t.length ≤ 9223372036854775807) (hp3 : aHolds_1.length ≤ 9223372036854775807)  : Fn Go.Proofs.Try.prog 3 [.agg [.sl (aM_0.Places.map GVector.cells), .sl (aM_0.Triangles.map (cL (cI .i64)))], .sl (aHolds_1.map GHold.cells)] (.b (v_laws_FnExactOffHolds aM_0 aHolds_1)) [] := by
  have z0 := (ok_laws_szMesh aM_0 1048576 (by omega) (by omega) (by assumption) (by omega) (by omega))
  have z1 := (ok_laws_szHoldS aHolds_1 (v_laws_szMesh aM_0 1048576) (by omega) (by omega) (by omega))
  cases h0 : (decide ((v_laws_szMesh aM_0 1048576) < 0)) with
  | true =>
    exact Fn.cast (CallSt.fn (callSt_of_evK (E := E0) E0Ok hMixed (c := bodyOf Go.Proofs.Try.f3) (rows := []) (r := .b true) (rows' := [])
      (ans := [.call (.i .i64 (v_laws_szMesh aM_0 1048576)) [], .bo true, .keep []])
      (ps := [])
      (C := [Fn Go.Proofs.Try.prog 11 [.agg [.sl (aM_0.Places.map GVector.cells), .sl (aM_0.Triangles.map (cL (cI .i64)))], .i .i64 1048576] (.i .i64 (v_laws_szMesh aM_0 1048576)) [],
        (decide ((v_laws_szMesh aM_0 1048576) < 0)) = true])
      Go.Proofs.Try.func3 rfl (by kernel_rfl) (by kernel_rfl)
      ⟨(t_laws_szMesh aM_0 1048576 (show aM_0.Places.length ≤ 9223372036854775807 from (by first | assumption | omega | (first | (intro t ht; (try simp at ht); simp only [decide_eq_false_iff_not, Int.not_lt] at *; first | (have q := z0.2.2.2.2 t ht; have q1 := z0.2.1; omega))) | (simp at * <;> omega) | (simp_all <;> omega))) (show aM_0.Triangles.length ≤ 9223372036854775807 from (by first | assumption | omega | (first | (intro t ht; (try simp at ht); simp only [decide_eq_false_iff_not, Int.not_lt] at *; first | (have q := z0.2.2.2.2 t ht; have q1 := z0.2.1; omega))) | (simp at * <;> omega) | (simp_all <;> omega))) (show ∀ t ∈ aM_0.Triangles, t.length ≤ 9223372036854775807 from (by first | assumption | omega | (first | (intro t ht; (try simp at ht); simp only [decide_eq_false_iff_not, Int.not_lt] at *; first | (have q := z0.2.2.2.2 t ht; have q1 := z0.2.1; omega))) | (simp at * <;> omega) | (simp_all <;> omega)))), h0, trivial⟩) rfl) (by simp only [v_laws_FnExactOffHolds, h0, cond_true]) rfl
  | false =>
    cases h1 : (decide ((v_laws_szHoldS aHolds_1 (v_laws_szMesh aM_0 1048576)) < 0)) with
    | true =>
      exact Fn.cast (CallSt.fn (callSt_of_evK (E := E0) E0Ok hMixed (c := bodyOf Go.Proofs.Try.f3) (rows := []) (r := .b true) (rows' := [])
        (ans := [.call (.i .i64 (v_laws_szMesh aM_0 1048576)) [], .bo false, .call (.i .i64 (v_laws_szHoldS aHolds_1 (v_laws_szMesh aM_0 1048576))) [], .bo true, .keep []])
        (ps := [])
        (C := [Fn Go.Proofs.Try.prog 11 [.agg [.sl (aM_0.Places.map GVector.cells), .sl (aM_0.Triangles.map (cL (cI .i64)))], .i .i64 1048576] (.i .i64 (v_laws_szMesh aM_0 1048576)) [],
          (decide ((v_laws_szMesh aM_0 1048576) < 0)) = false,
          Fn Go.Proofs.Try.prog 12 [.sl (aHolds_1.map GHold.cells), .i .i64 (v_laws_szMesh aM_0 1048576)] (.i .i64 (v_laws_szHoldS aHolds_1 (v_laws_szMesh aM_0 1048576))) [],
          (decide ((v_laws_szHoldS aHolds_1 (v_laws_szMesh aM_0 1048576)) < 0)) = true])
        Go.Proofs.Try.func3 rfl (by kernel_rfl) (by kernel_rfl)
        ⟨(t_laws_szMesh aM_0 1048576 (show aM_0.Places.length ≤ 9223372036854775807 from (by first | assumption | omega | (first | (intro t ht; (try simp at ht); simp only [decide_eq_false_iff_not, Int.not_lt] at *; first | (have q := z0.2.2.2.2 t ht; have q1 := z0.2.1; omega))) | (simp at * <;> omega) | (simp_all <;> omega))) (show aM_0.Triangles.length ≤ 9223372036854775807 from (by first | assumption | omega | (first | (intro t ht; (try simp at ht); simp only [decide_eq_false_iff_not, Int.not_lt] at *; first | (have q := z0.2.2.2.2 t ht; have q1 := z0.2.1; omega))) | (simp at * <;> omega) | (simp_all <;> omega))) (show ∀ t ∈ aM_0.Triangles, t.length ≤ 9223372036854775807 from (by first | assumption | omega | (first | (intro t ht; (try simp at ht); simp only [decide_eq_false_iff_not, Int.not_lt] at *; first | (have q := z0.2.2.2.2 t ht; have q1 := z0.2.1; omega))) | (simp at * <;> omega) | (simp_all <;> omega)))), h0, (t_laws_szHoldS aHolds_1 (v_laws_szMesh aM_0 1048576) (show aHolds_1.length ≤ 9223372036854775807 from (by first | assumption | omega | (first | (intro t ht; (try simp at ht); simp only [decide_eq_false_iff_not, Int.not_lt] at *; first | (have q := z0.2.2.2.2 t ht; have q1 := z1.2.1; omega))) | (simp at * <;> omega) | (simp_all <;> omega)))), h1, trivial⟩) rfl) (by simp only [v_laws_FnExactOffHolds, h0, h1, cond_true, cond_false]) rfl
    | false =>
      cases h2 : (nd_laws_FnExactOffHolds_0 aM_0 aHolds_1) with
      | true =>
        cases h3 : ((v_impl_OffHolds (v_laws_toMesh aM_0) (v_laws_toHoldS aHolds_1)).2 == (v_spec_OffHolds (v_laws_toMesh aM_0) (v_laws_toHoldS aHolds_1)).2) with
        | true =>
          cases h4 : (v_laws_eqMesh (v_laws_toMesh aM_0) (v_laws_toMesh aM_0)) with
          | true =>
            cases h5 : (v_laws_eqHoldS (v_laws_toHoldS aHolds_1) (v_laws_toHoldS aHolds_1)) with
            | true =>
              exact Fn.cast (CallSt.fn (callSt_of_evK (E := E0) E0Ok hMixed (c := bodyOf Go.Proofs.Try.f3) (rows := []) (r := .b true) (rows' := [])
                (ans := [.call (.i .i64 (v_laws_szMesh aM_0 1048576)) [], .bo false, .call (.i .i64 (v_laws_szHoldS aHolds_1 (v_laws_szMesh aM_0 1048576))) [], .bo false, .call (.agg [.own 0, .own 1]) [.vec 54 3 (((v_laws_toMesh aM_0).Places).map GVector.cells) false, .nest 141 (((v_laws_toMesh aM_0).Triangles).map fun l => l.map (cI .i64)) false], .call (.own 0) [.vec 90 8 ((v_laws_toHoldS aHolds_1).map GHold.cells) false], .call (.tup [.f .f32 ((v_spec_OffHolds (v_laws_toMesh aM_0) (v_laws_toHoldS aHolds_1)).1), .b ((v_spec_OffHolds (v_laws_toMesh aM_0) (v_laws_toHoldS aHolds_1)).2)]) [], .call (.agg [.own 0, .own 1]) [.vec 54 3 (((v_laws_toMesh aM_0).Places).map GVector.cells) false, .nest 141 (((v_laws_toMesh aM_0).Triangles).map fun l => l.map (cI .i64)) false], .call (.own 0) [.vec 90 8 ((v_laws_toHoldS aHolds_1).map GHold.cells) false], .call (.tup [.f .f32 ((v_impl_OffHolds (v_laws_toMesh aM_0) (v_laws_toHoldS aHolds_1)).1), .b ((v_impl_OffHolds (v_laws_toMesh aM_0) (v_laws_toHoldS aHolds_1)).2)]) [], .call (.b (nd_laws_FnExactOffHolds_0 aM_0 aHolds_1)) [], .bo false, .bo false, .bo false, .bo false, .bo false, .keep [3, 3], .call (.agg [.own 0, .own 1]) [.vec 54 3 (((v_laws_toMesh aM_0).Places).map GVector.cells) false, .nest 141 (((v_laws_toMesh aM_0).Triangles).map fun l => l.map (cI .i64)) false], .call (.b (v_laws_eqMesh (v_laws_toMesh aM_0) (v_laws_toMesh aM_0))) [], .bo false, .call (.own 0) [.vec 90 8 ((v_laws_toHoldS aHolds_1).map GHold.cells) false], .call (.b (v_laws_eqHoldS (v_laws_toHoldS aHolds_1) (v_laws_toHoldS aHolds_1))) [], .bo false, .keep []])
                (ps := [])
                (C := [Fn Go.Proofs.Try.prog 11 [.agg [.sl (aM_0.Places.map GVector.cells), .sl (aM_0.Triangles.map (cL (cI .i64)))], .i .i64 1048576] (.i .i64 (v_laws_szMesh aM_0 1048576)) [],
                  (decide ((v_laws_szMesh aM_0 1048576) < 0)) = false,
                  Fn Go.Proofs.Try.prog 12 [.sl (aHolds_1.map GHold.cells), .i .i64 (v_laws_szMesh aM_0 1048576)] (.i .i64 (v_laws_szHoldS aHolds_1 (v_laws_szMesh aM_0 1048576))) [],
                  (decide ((v_laws_szHoldS aHolds_1 (v_laws_szMesh aM_0 1048576)) < 0)) = false,
                  Fn Go.Proofs.Try.prog 14 [.agg [.sl (aM_0.Places.map GVector.cells), .sl (aM_0.Triangles.map (cL (cI .i64)))]] (.agg [.own 0, .own 1]) [.vec 54 3 (((v_laws_toMesh aM_0).Places).map GVector.cells) false, .nest 141 (((v_laws_toMesh aM_0).Triangles).map fun l => l.map (cI .i64)) false],
                  Fn Go.Proofs.Try.prog 15 [.sl (aHolds_1.map GHold.cells)] (.own 0) [.vec 90 8 ((v_laws_toHoldS aHolds_1).map GHold.cells) false],
                  Fn Go.Proofs.Try.prog 13 [.agg [.sl (((v_laws_toMesh aM_0).Places).map GVector.cells), .sl ((((v_laws_toMesh aM_0).Triangles).map fun l => l.map (cI .i64)).map fun l => [.sl l])], .sl ((v_laws_toHoldS aHolds_1).map GHold.cells)] (.tup [.f .f32 ((v_spec_OffHolds (v_laws_toMesh aM_0) (v_laws_toHoldS aHolds_1)).1), .b ((v_spec_OffHolds (v_laws_toMesh aM_0) (v_laws_toHoldS aHolds_1)).2)]) [],
                  Fn Go.Proofs.Try.prog 14 [.agg [.sl (aM_0.Places.map GVector.cells), .sl (aM_0.Triangles.map (cL (cI .i64)))]] (.agg [.own 0, .own 1]) [.vec 54 3 (((v_laws_toMesh aM_0).Places).map GVector.cells) false, .nest 141 (((v_laws_toMesh aM_0).Triangles).map fun l => l.map (cI .i64)) false],
                  Fn Go.Proofs.Try.prog 15 [.sl (aHolds_1.map GHold.cells)] (.own 0) [.vec 90 8 ((v_laws_toHoldS aHolds_1).map GHold.cells) false],
                  Fn Go.Proofs.Try.prog 16 [.agg [.sl (((v_laws_toMesh aM_0).Places).map GVector.cells), .sl ((((v_laws_toMesh aM_0).Triangles).map fun l => l.map (cI .i64)).map fun l => [.sl l])], .sl ((v_laws_toHoldS aHolds_1).map GHold.cells)] (.tup [.f .f32 ((v_impl_OffHolds (v_laws_toMesh aM_0) (v_laws_toHoldS aHolds_1)).1), .b ((v_impl_OffHolds (v_laws_toMesh aM_0) (v_laws_toHoldS aHolds_1)).2)]) [],
                  fcvOk .f32 .f64 ((v_impl_OffHolds (v_laws_toMesh aM_0) (v_laws_toHoldS aHolds_1)).1) = true,
                  fcvOk .f32 .f64 ((v_spec_OffHolds (v_laws_toMesh aM_0) (v_laws_toHoldS aHolds_1)).1) = true,
                  Fn Go.Proofs.Try.prog 17 [.f .f64 (fcv .f32 .f64 ((v_impl_OffHolds (v_laws_toMesh aM_0) (v_laws_toHoldS aHolds_1)).1)), .f .f64 (fcv .f32 .f64 ((v_spec_OffHolds (v_laws_toMesh aM_0) (v_laws_toHoldS aHolds_1)).1))] (.b (nd_laws_FnExactOffHolds_0 aM_0 aHolds_1)) [],
                  (!(nd_laws_FnExactOffHolds_0 aM_0 aHolds_1)) = false,
                  (!(nd_laws_FnExactOffHolds_0 aM_0 aHolds_1)) = false,
                  (!(nd_laws_FnExactOffHolds_0 aM_0 aHolds_1)) = false,
                  (!(nd_laws_FnExactOffHolds_0 aM_0 aHolds_1)) = false,
                  (!((v_impl_OffHolds (v_laws_toMesh aM_0) (v_laws_toHoldS aHolds_1)).2 == (v_spec_OffHolds (v_laws_toMesh aM_0) (v_laws_toHoldS aHolds_1)).2)) = false,
                  Fn Go.Proofs.Try.prog 14 [.agg [.sl (aM_0.Places.map GVector.cells), .sl (aM_0.Triangles.map (cL (cI .i64)))]] (.agg [.own 0, .own 1]) [.vec 54 3 (((v_laws_toMesh aM_0).Places).map GVector.cells) false, .nest 141 (((v_laws_toMesh aM_0).Triangles).map fun l => l.map (cI .i64)) false],
                  Fn Go.Proofs.Try.prog 18 [.agg [.sl (((v_laws_toMesh aM_0).Places).map GVector.cells), .sl ((((v_laws_toMesh aM_0).Triangles).map fun l => l.map (cI .i64)).map fun l => [.sl l])], .agg [.sl (((v_laws_toMesh aM_0).Places).map GVector.cells), .sl ((((v_laws_toMesh aM_0).Triangles).map fun l => l.map (cI .i64)).map fun l => [.sl l])]] (.b (v_laws_eqMesh (v_laws_toMesh aM_0) (v_laws_toMesh aM_0))) [],
                  (!(v_laws_eqMesh (v_laws_toMesh aM_0) (v_laws_toMesh aM_0))) = false,
                  Fn Go.Proofs.Try.prog 15 [.sl (aHolds_1.map GHold.cells)] (.own 0) [.vec 90 8 ((v_laws_toHoldS aHolds_1).map GHold.cells) false],
                  Fn Go.Proofs.Try.prog 19 [.sl ((v_laws_toHoldS aHolds_1).map GHold.cells), .sl ((v_laws_toHoldS aHolds_1).map GHold.cells)] (.b (v_laws_eqHoldS (v_laws_toHoldS aHolds_1) (v_laws_toHoldS aHolds_1))) [],
                  (!(v_laws_eqHoldS (v_laws_toHoldS aHolds_1) (v_laws_toHoldS aHolds_1))) = false])
                Go.Proofs.Try.func3 rfl (by kernel_rfl) (by kernel_rfl)
                ⟨(t_laws_szMesh aM_0 1048576 (show aM_0.Places.length ≤ 9223372036854775807 from (by first | assumption | omega | (first | (intro t ht; (try simp at ht); simp only [decide_eq_false_iff_not, Int.not_lt] at *; first | (have q := z0.2.2.2.2 t ht; have q1 := z1.2.1; omega))) | (simp at * <;> omega) | (simp_all <;> omega))) (show aM_0.Triangles.length ≤ 9223372036854775807 from (by first | assumption | omega | (first | (intro t ht; (try simp at ht); simp only [decide_eq_false_iff_not, Int.not_lt] at *; first | (have q := z0.2.2.2.2 t ht; have q1 := z1.2.1; omega))) | (simp at * <;> omega) | (simp_all <;> omega))) (show ∀ t ∈ aM_0.Triangles, t.length ≤ 9223372036854775807 from (by first | assumption | omega | (first | (intro t ht; (try simp at ht); simp only [decide_eq_false_iff_not, Int.not_lt] at *; first | (have q := z0.2.2.2.2 t ht; have q1 := z1.2.1; omega))) | (simp at * <;> omega) | (simp_all <;> omega)))), h0, (t_laws_szHoldS aHolds_1 (v_laws_szMesh aM_0 1048576) (show aHolds_1.length ≤ 9223372036854775807 from (by first | assumption | omega | (first | (intro t ht; (try simp at ht); simp only [decide_eq_false_iff_not, Int.not_lt] at *; first | (have q := z0.2.2.2.2 t ht; have q1 := z1.2.1; omega))) | (simp at * <;> omega) | (simp_all <;> omega)))), h1, (t_laws_toMesh aM_0 (show aM_0.Places.length ≤ 1073741824 from (by first | assumption | omega | (first | (intro t ht; (try simp at ht); simp only [decide_eq_false_iff_not, Int.not_lt] at *; first | (have q := z0.2.2.2.2 t ht; have q1 := z1.2.1; omega))) | (simp at * <;> omega) | (simp_all <;> omega))) (show aM_0.Triangles.length ≤ 1073741824 from (by first | assumption | omega | (first | (intro t ht; (try simp at ht); simp only [decide_eq_false_iff_not, Int.not_lt] at *; first | (have q := z0.2.2.2.2 t ht; have q1 := z1.2.1; omega))) | (simp at * <;> omega) | (simp_all <;> omega))) (show ∀ t ∈ aM_0.Triangles, t.length ≤ 1073741824 from (by first | assumption | omega | (first | (intro t ht; (try simp at ht); simp only [decide_eq_false_iff_not, Int.not_lt] at *; first | (have q := z0.2.2.2.2 t ht; have q1 := z1.2.1; omega))) | (simp at * <;> omega) | (simp_all <;> omega)))), (t_laws_toHoldS aHolds_1 (show aHolds_1.length ≤ 1073741824 from (by first | assumption | omega | (first | (intro t ht; (try simp at ht); simp only [decide_eq_false_iff_not, Int.not_lt] at *; first | (have q := z0.2.2.2.2 t ht; have q1 := z1.2.1; omega))) | (simp at * <;> omega) | (simp_all <;> omega)))), (Fn.castA (t_spec_OffHolds (v_laws_toMesh aM_0) (v_laws_toHoldS aHolds_1) (show (v_laws_toMesh aM_0).Places.length ≤ 1073741824 from (by first | assumption | omega | (first | (intro t ht; (try simp at ht); simp only [decide_eq_false_iff_not, Int.not_lt] at *; first | (have q := z0.2.2.2.2 t ht; have q1 := z1.2.1; omega))) | (simp at * <;> omega) | (simp_all <;> omega))) (show (v_laws_toMesh aM_0).Triangles.length ≤ 1073741824 from (by first | assumption | omega | (first | (intro t ht; (try simp at ht); simp only [decide_eq_false_iff_not, Int.not_lt] at *; first | (have q := z0.2.2.2.2 t ht; have q1 := z1.2.1; omega))) | (simp at * <;> omega) | (simp_all <;> omega))) (show ∀ t ∈ (v_laws_toMesh aM_0).Triangles, t.length ≤ 1073741824 from (by first | assumption | omega | (first | (intro t ht; (try simp at ht); simp only [decide_eq_false_iff_not, Int.not_lt] at *; first | (have q := z0.2.2.2.2 t ht; have q1 := z1.2.1; omega))) | (simp at * <;> omega) | (simp_all <;> omega))) (show (v_laws_toHoldS aHolds_1).length ≤ 1073741824 from (by first | assumption | omega | (first | (intro t ht; (try simp at ht); simp only [decide_eq_false_iff_not, Int.not_lt] at *; first | (have q := z0.2.2.2.2 t ht; have q1 := z1.2.1; omega))) | (simp at * <;> omega) | (simp_all <;> omega)))) (by simp [cL, Function.comp_def])), (t_laws_toMesh aM_0 (show aM_0.Places.length ≤ 1073741824 from (by first | assumption | omega | (first | (intro t ht; (try simp at ht); simp only [decide_eq_false_iff_not, Int.not_lt] at *; first | (have q := z0.2.2.2.2 t ht; have q1 := z1.2.1; omega))) | (simp at * <;> omega) | (simp_all <;> omega))) (show aM_0.Triangles.length ≤ 1073741824 from (by first | assumption | omega | (first | (intro t ht; (try simp at ht); simp only [decide_eq_false_iff_not, Int.not_lt] at *; first | (have q := z0.2.2.2.2 t ht; have q1 := z1.2.1; omega))) | (simp at * <;> omega) | (simp_all <;> omega))) (show ∀ t ∈ aM_0.Triangles, t.length ≤ 1073741824 from (by first | assumption | omega | (first | (intro t ht; (try simp at ht); simp only [decide_eq_false_iff_not, Int.not_lt] at *; first | (have q := z0.2.2.2.2 t ht; have q1 := z1.2.1; omega))) | (simp at * <;> omega) | (simp_all <;> omega)))), (t_laws_toHoldS aHolds_1 (show aHolds_1.length ≤ 1073741824 from (by first | assumption | omega | (first | (intro t ht; (try simp at ht); simp only [decide_eq_false_iff_not, Int.not_lt] at *; first | (have q := z0.2.2.2.2 t ht; have q1 := z1.2.1; omega))) | (simp at * <;> omega) | (simp_all <;> omega)))), (Fn.castA (t_impl_OffHolds (v_laws_toMesh aM_0) (v_laws_toHoldS aHolds_1) (show (v_laws_toMesh aM_0).Places.length ≤ 1073741824 from (by first | assumption | omega | (first | (intro t ht; (try simp at ht); simp only [decide_eq_false_iff_not, Int.not_lt] at *; first | (have q := z0.2.2.2.2 t ht; have q1 := z1.2.1; omega))) | (simp at * <;> omega) | (simp_all <;> omega))) (show (v_laws_toMesh aM_0).Triangles.length ≤ 1073741824 from (by first | assumption | omega | (first | (intro t ht; (try simp at ht); simp only [decide_eq_false_iff_not, Int.not_lt] at *; first | (have q := z0.2.2.2.2 t ht; have q1 := z1.2.1; omega))) | (simp at * <;> omega) | (simp_all <;> omega))) (show ∀ t ∈ (v_laws_toMesh aM_0).Triangles, t.length ≤ 1073741824 from (by first | assumption | omega | (first | (intro t ht; (try simp at ht); simp only [decide_eq_false_iff_not, Int.not_lt] at *; first | (have q := z0.2.2.2.2 t ht; have q1 := z1.2.1; omega))) | (simp at * <;> omega) | (simp_all <;> omega))) (show (v_laws_toHoldS aHolds_1).length ≤ 1073741824 from (by first | assumption | omega | (first | (intro t ht; (try simp at ht); simp only [decide_eq_false_iff_not, Int.not_lt] at *; first | (have q := z0.2.2.2.2 t ht; have q1 := z1.2.1; omega))) | (simp at * <;> omega) | (simp_all <;> omega)))) (by simp [cL, Function.comp_def])), (widenOk _), (widenOk _), (t_laws_sameFloat (fcv .f32 .f64 ((v_impl_OffHolds (v_laws_toMesh aM_0) (v_laws_toHoldS aHolds_1)).1)) (fcv .f32 .f64 ((v_spec_OffHolds (v_laws_toMesh aM_0) (v_laws_toHoldS aHolds_1)).1))), (congrArg not h2), (congrArg not h2), (congrArg not h2), (congrArg not h2), (congrArg not h3), (t_laws_toMesh aM_0 (show aM_0.Places.length ≤ 1073741824 from (by first | assumption | omega | (first | (intro t ht; (try simp at ht); simp only [decide_eq_false_iff_not, Int.not_lt] at *; first | (have q := z0.2.2.2.2 t ht; have q1 := z1.2.1; omega))) | (simp at * <;> omega) | (simp_all <;> omega))) (show aM_0.Triangles.length ≤ 1073741824 from (by first | assumption | omega | (first | (intro t ht; (try simp at ht); simp only [decide_eq_false_iff_not, Int.not_lt] at *; first | (have q := z0.2.2.2.2 t ht; have q1 := z1.2.1; omega))) | (simp at * <;> omega) | (simp_all <;> omega))) (show ∀ t ∈ aM_0.Triangles, t.length ≤ 1073741824 from (by first | assumption | omega | (first | (intro t ht; (try simp at ht); simp only [decide_eq_false_iff_not, Int.not_lt] at *; first | (have q := z0.2.2.2.2 t ht; have q1 := z1.2.1; omega))) | (simp at * <;> omega) | (simp_all <;> omega)))), (Fn.castA (t_laws_eqMesh (v_laws_toMesh aM_0) (v_laws_toMesh aM_0) (show (v_laws_toMesh aM_0).Places.length ≤ 1073741824 from (by first | assumption | omega | (first | (intro t ht; (try simp at ht); simp only [decide_eq_false_iff_not, Int.not_lt] at *; first | (have q := z0.2.2.2.2 t ht; have q1 := z1.2.1; omega))) | (simp at * <;> omega) | (simp_all <;> omega))) (show (v_laws_toMesh aM_0).Triangles.length ≤ 1073741824 from (by first | assumption | omega | (first | (intro t ht; (try simp at ht); simp only [decide_eq_false_iff_not, Int.not_lt] at *; first | (have q := z0.2.2.2.2 t ht; have q1 := z1.2.1; omega))) | (simp at * <;> omega) | (simp_all <;> omega))) (show ∀ t ∈ (v_laws_toMesh aM_0).Triangles, t.length ≤ 1073741824 from (by first | assumption | omega | (first | (intro t ht; (try simp at ht); simp only [decide_eq_false_iff_not, Int.not_lt] at *; first | (have q := z0.2.2.2.2 t ht; have q1 := z1.2.1; omega))) | (simp at * <;> omega) | (simp_all <;> omega))) (show (v_laws_toMesh aM_0).Places.length ≤ 1073741824 from (by first | assumption | omega | (first | (intro t ht; (try simp at ht); simp only [decide_eq_false_iff_not, Int.not_lt] at *; first | (have q := z0.2.2.2.2 t ht; have q1 := z1.2.1; omega))) | (simp at * <;> omega) | (simp_all <;> omega))) (show (v_laws_toMesh aM_0).Triangles.length ≤ 1073741824 from (by first | assumption | omega | (first | (intro t ht; (try simp at ht); simp only [decide_eq_false_iff_not, Int.not_lt] at *; first | (have q := z0.2.2.2.2 t ht; have q1 := z1.2.1; omega))) | (simp at * <;> omega) | (simp_all <;> omega))) (show ∀ t ∈ (v_laws_toMesh aM_0).Triangles, t.length ≤ 1073741824 from (by first | assumption | omega | (first | (intro t ht; (try simp at ht); simp only [decide_eq_false_iff_not, Int.not_lt] at *; first | (have q := z0.2.2.2.2 t ht; have q1 := z1.2.1; omega))) | (simp at * <;> omega) | (simp_all <;> omega)))) (by simp [cL, Function.comp_def])), (congrArg not h4), (t_laws_toHoldS aHolds_1 (show aHolds_1.length ≤ 1073741824 from (by first | assumption | omega | (first | (intro t ht; (try simp at ht); simp only [decide_eq_false_iff_not, Int.not_lt] at *; first | (have q := z0.2.2.2.2 t ht; have q1 := z1.2.1; omega))) | (simp at * <;> omega) | (simp_all <;> omega)))), (t_laws_eqHoldS (v_laws_toHoldS aHolds_1) (v_laws_toHoldS aHolds_1) (show (v_laws_toHoldS aHolds_1).length ≤ 1073741824 from (by first | assumption | omega | (first | (intro t ht; (try simp at ht); simp only [decide_eq_false_iff_not, Int.not_lt] at *; first | (have q := z0.2.2.2.2 t ht; have q1 := z1.2.1; omega))) | (simp at * <;> omega) | (simp_all <;> omega))) (show (v_laws_toHoldS aHolds_1).length ≤ 1073741824 from (by first | assumption | omega | (first | (intro t ht; (try simp at ht); simp only [decide_eq_false_iff_not, Int.not_lt] at *; first | (have q := z0.2.2.2.2 t ht; have q1 := z1.2.1; omega))) | (simp at * <;> omega) | (simp_all <;> omega)))), (congrArg not h5), trivial⟩) rfl) (by simp only [v_laws_FnExactOffHolds, h0, h1, h2, h3, h4, h5, cond_true, cond_false]) rfl
            | false =>
              exact Fn.cast (CallSt.fn (callSt_of_evK (E := E0) E0Ok hMixed (c := bodyOf Go.Proofs.Try.f3) (rows := []) (r := .b false) (rows' := [])
                (ans := [.call (.i .i64 (v_laws_szMesh aM_0 1048576)) [], .bo false, .call (.i .i64 (v_laws_szHoldS aHolds_1 (v_laws_szMesh aM_0 1048576))) [], .bo false, .call (.agg [.own 0, .own 1]) [.vec 54 3 (((v_laws_toMesh aM_0).Places).map GVector.cells) false, .nest 141 (((v_laws_toMesh aM_0).Triangles).map fun l => l.map (cI .i64)) false], .call (.own 0) [.vec 90 8 ((v_laws_toHoldS aHolds_1).map GHold.cells) false], .call (.tup [.f .f32 ((v_spec_OffHolds (v_laws_toMesh aM_0) (v_laws_toHoldS aHolds_1)).1), .b ((v_spec_OffHolds (v_laws_toMesh aM_0) (v_laws_toHoldS aHolds_1)).2)]) [], .call (.agg [.own 0, .own 1]) [.vec 54 3 (((v_laws_toMesh aM_0).Places).map GVector.cells) false, .nest 141 (((v_laws_toMesh aM_0).Triangles).map fun l => l.map (cI .i64)) false], .call (.own 0) [.vec 90 8 ((v_laws_toHoldS aHolds_1).map GHold.cells) false], .call (.tup [.f .f32 ((v_impl_OffHolds (v_laws_toMesh aM_0) (v_laws_toHoldS aHolds_1)).1), .b ((v_impl_OffHolds (v_laws_toMesh aM_0) (v_laws_toHoldS aHolds_1)).2)]) [], .call (.b (nd_laws_FnExactOffHolds_0 aM_0 aHolds_1)) [], .bo false, .bo false, .bo false, .bo false, .bo false, .keep [3, 3], .call (.agg [.own 0, .own 1]) [.vec 54 3 (((v_laws_toMesh aM_0).Places).map GVector.cells) false, .nest 141 (((v_laws_toMesh aM_0).Triangles).map fun l => l.map (cI .i64)) false], .call (.b (v_laws_eqMesh (v_laws_toMesh aM_0) (v_laws_toMesh aM_0))) [], .bo false, .call (.own 0) [.vec 90 8 ((v_laws_toHoldS aHolds_1).map GHold.cells) false], .call (.b (v_laws_eqHoldS (v_laws_toHoldS aHolds_1) (v_laws_toHoldS aHolds_1))) [], .bo true, .keep []])
                (ps := [])
                (C := [Fn Go.Proofs.Try.prog 11 [.agg [.sl (aM_0.Places.map GVector.cells), .sl (aM_0.Triangles.map (cL (cI .i64)))], .i .i64 1048576] (.i .i64 (v_laws_szMesh aM_0 1048576)) [],
                  (decide ((v_laws_szMesh aM_0 1048576) < 0)) = false,
                  Fn Go.Proofs.Try.prog 12 [.sl (aHolds_1.map GHold.cells), .i .i64 (v_laws_szMesh aM_0 1048576)] (.i .i64 (v_laws_szHoldS aHolds_1 (v_laws_szMesh aM_0 1048576))) [],
                  (decide ((v_laws_szHoldS aHolds_1 (v_laws_szMesh aM_0 1048576)) < 0)) = false,
                  Fn Go.Proofs.Try.prog 14 [.agg [.sl (aM_0.Places.map GVector.cells), .sl (aM_0.Triangles.map (cL (cI .i64)))]] (.agg [.own 0, .own 1]) [.vec 54 3 (((v_laws_toMesh aM_0).Places).map GVector.cells) false, .nest 141 (((v_laws_toMesh aM_0).Triangles).map fun l => l.map (cI .i64)) false],
                  Fn Go.Proofs.Try.prog 15 [.sl (aHolds_1.map GHold.cells)] (.own 0) [.vec 90 8 ((v_laws_toHoldS aHolds_1).map GHold.cells) false],
                  Fn Go.Proofs.Try.prog 13 [.agg [.sl (((v_laws_toMesh aM_0).Places).map GVector.cells), .sl ((((v_laws_toMesh aM_0).Triangles).map fun l => l.map (cI .i64)).map fun l => [.sl l])], .sl ((v_laws_toHoldS aHolds_1).map GHold.cells)] (.tup [.f .f32 ((v_spec_OffHolds (v_laws_toMesh aM_0) (v_laws_toHoldS aHolds_1)).1), .b ((v_spec_OffHolds (v_laws_toMesh aM_0) (v_laws_toHoldS aHolds_1)).2)]) [],
                  Fn Go.Proofs.Try.prog 14 [.agg [.sl (aM_0.Places.map GVector.cells), .sl (aM_0.Triangles.map (cL (cI .i64)))]] (.agg [.own 0, .own 1]) [.vec 54 3 (((v_laws_toMesh aM_0).Places).map GVector.cells) false, .nest 141 (((v_laws_toMesh aM_0).Triangles).map fun l => l.map (cI .i64)) false],
                  Fn Go.Proofs.Try.prog 15 [.sl (aHolds_1.map GHold.cells)] (.own 0) [.vec 90 8 ((v_laws_toHoldS aHolds_1).map GHold.cells) false],
                  Fn Go.Proofs.Try.prog 16 [.agg [.sl (((v_laws_toMesh aM_0).Places).map GVector.cells), .sl ((((v_laws_toMesh aM_0).Triangles).map fun l => l.map (cI .i64)).map fun l => [.sl l])], .sl ((v_laws_toHoldS aHolds_1).map GHold.cells)] (.tup [.f .f32 ((v_impl_OffHolds (v_laws_toMesh aM_0) (v_laws_toHoldS aHolds_1)).1), .b ((v_impl_OffHolds (v_laws_toMesh aM_0) (v_laws_toHoldS aHolds_1)).2)]) [],
                  fcvOk .f32 .f64 ((v_impl_OffHolds (v_laws_toMesh aM_0) (v_laws_toHoldS aHolds_1)).1) = true,
                  fcvOk .f32 .f64 ((v_spec_OffHolds (v_laws_toMesh aM_0) (v_laws_toHoldS aHolds_1)).1) = true,
                  Fn Go.Proofs.Try.prog 17 [.f .f64 (fcv .f32 .f64 ((v_impl_OffHolds (v_laws_toMesh aM_0) (v_laws_toHoldS aHolds_1)).1)), .f .f64 (fcv .f32 .f64 ((v_spec_OffHolds (v_laws_toMesh aM_0) (v_laws_toHoldS aHolds_1)).1))] (.b (nd_laws_FnExactOffHolds_0 aM_0 aHolds_1)) [],
                  (!(nd_laws_FnExactOffHolds_0 aM_0 aHolds_1)) = false,
                  (!(nd_laws_FnExactOffHolds_0 aM_0 aHolds_1)) = false,
                  (!(nd_laws_FnExactOffHolds_0 aM_0 aHolds_1)) = false,
                  (!(nd_laws_FnExactOffHolds_0 aM_0 aHolds_1)) = false,
                  (!((v_impl_OffHolds (v_laws_toMesh aM_0) (v_laws_toHoldS aHolds_1)).2 == (v_spec_OffHolds (v_laws_toMesh aM_0) (v_laws_toHoldS aHolds_1)).2)) = false,
                  Fn Go.Proofs.Try.prog 14 [.agg [.sl (aM_0.Places.map GVector.cells), .sl (aM_0.Triangles.map (cL (cI .i64)))]] (.agg [.own 0, .own 1]) [.vec 54 3 (((v_laws_toMesh aM_0).Places).map GVector.cells) false, .nest 141 (((v_laws_toMesh aM_0).Triangles).map fun l => l.map (cI .i64)) false],
                  Fn Go.Proofs.Try.prog 18 [.agg [.sl (((v_laws_toMesh aM_0).Places).map GVector.cells), .sl ((((v_laws_toMesh aM_0).Triangles).map fun l => l.map (cI .i64)).map fun l => [.sl l])], .agg [.sl (((v_laws_toMesh aM_0).Places).map GVector.cells), .sl ((((v_laws_toMesh aM_0).Triangles).map fun l => l.map (cI .i64)).map fun l => [.sl l])]] (.b (v_laws_eqMesh (v_laws_toMesh aM_0) (v_laws_toMesh aM_0))) [],
                  (!(v_laws_eqMesh (v_laws_toMesh aM_0) (v_laws_toMesh aM_0))) = false,
                  Fn Go.Proofs.Try.prog 15 [.sl (aHolds_1.map GHold.cells)] (.own 0) [.vec 90 8 ((v_laws_toHoldS aHolds_1).map GHold.cells) false],
                  Fn Go.Proofs.Try.prog 19 [.sl ((v_laws_toHoldS aHolds_1).map GHold.cells), .sl ((v_laws_toHoldS aHolds_1).map GHold.cells)] (.b (v_laws_eqHoldS (v_laws_toHoldS aHolds_1) (v_laws_toHoldS aHolds_1))) [],
                  (!(v_laws_eqHoldS (v_laws_toHoldS aHolds_1) (v_laws_toHoldS aHolds_1))) = true])
                Go.Proofs.Try.func3 rfl (by kernel_rfl) (by kernel_rfl)
                ⟨(t_laws_szMesh aM_0 1048576 (show aM_0.Places.length ≤ 9223372036854775807 from (by first | assumption | omega | (first | (intro t ht; (try simp at ht); simp only [decide_eq_false_iff_not, Int.not_lt] at *; first | (have q := z0.2.2.2.2 t ht; have q1 := z1.2.1; omega))) | (simp at * <;> omega) | (simp_all <;> omega))) (show aM_0.Triangles.length ≤ 9223372036854775807 from (by first | assumption | omega | (first | (intro t ht; (try simp at ht); simp only [decide_eq_false_iff_not, Int.not_lt] at *; first | (have q := z0.2.2.2.2 t ht; have q1 := z1.2.1; omega))) | (simp at * <;> omega) | (simp_all <;> omega))) (show ∀ t ∈ aM_0.Triangles, t.length ≤ 9223372036854775807 from (by first | assumption | omega | (first | (intro t ht; (try simp at ht); simp only [decide_eq_false_iff_not, Int.not_lt] at *; first | (have q := z0.2.2.2.2 t ht; have q1 := z1.2.1; omega))) | (simp at * <;> omega) | (simp_all <;> omega)))), h0, (t_laws_szHoldS aHolds_1 (v_laws_szMesh aM_0 1048576) (show aHolds_1.length ≤ 9223372036854775807 from (by first | assumption | omega | (first | (intro t ht; (try simp at ht); simp only [decide_eq_false_iff_not, Int.not_lt] at *; first | (have q := z0.2.2.2.2 t ht; have q1 := z1.2.1; omega))) | (simp at * <;> omega) | (simp_all <;> omega)))), h1, (t_laws_toMesh aM_0 (show aM_0.Places.length ≤ 1073741824 from (by first | assumption | omega | (first | (intro t ht; (try simp at ht); simp only [decide_eq_false_iff_not, Int.not_lt] at *; first | (have q := z0.2.2.2.2 t ht; have q1 := z1.2.1; omega))) | (simp at * <;> omega) | (simp_all <;> omega))) (show aM_0.Triangles.length ≤ 1073741824 from (by first | assumption | omega | (first | (intro t ht; (try simp at ht); simp only [decide_eq_false_iff_not, Int.not_lt] at *; first | (have q := z0.2.2.2.2 t ht; have q1 := z1.2.1; omega))) | (simp at * <;> omega) | (simp_all <;> omega))) (show ∀ t ∈ aM_0.Triangles, t.length ≤ 1073741824 from (by first | assumption | omega | (first | (intro t ht; (try simp at ht); simp only [decide_eq_false_iff_not, Int.not_lt] at *; first | (have q := z0.2.2.2.2 t ht; have q1 := z1.2.1; omega))) | (simp at * <;> omega) | (simp_all <;> omega)))), (t_laws_toHoldS aHolds_1 (show aHolds_1.length ≤ 1073741824 from (by first | assumption | omega | (first | (intro t ht; (try simp at ht); simp only [decide_eq_false_iff_not, Int.not_lt] at *; first | (have q := z0.2.2.2.2 t ht; have q1 := z1.2.1; omega))) | (simp at * <;> omega) | (simp_all <;> omega)))), (Fn.castA (t_spec_OffHolds (v_laws_toMesh aM_0) (v_laws_toHoldS aHolds_1) (show (v_laws_toMesh aM_0).Places.length ≤ 1073741824 from (by first | assumption | omega | (first | (intro t ht; (try simp at ht); simp only [decide_eq_false_iff_not, Int.not_lt] at *; first | (have q := z0.2.2.2.2 t ht; have q1 := z1.2.1; omega))) | (simp at * <;> omega) | (simp_all <;> omega))) (show (v_laws_toMesh aM_0).Triangles.length ≤ 1073741824 from (by first | assumption | omega | (first | (intro t ht; (try simp at ht); simp only [decide_eq_false_iff_not, Int.not_lt] at *; first | (have q := z0.2.2.2.2 t ht; have q1 := z1.2.1; omega))) | (simp at * <;> omega) | (simp_all <;> omega))) (show ∀ t ∈ (v_laws_toMesh aM_0).Triangles, t.length ≤ 1073741824 from (by first | assumption | omega | (first | (intro t ht; (try simp at ht); simp only [decide_eq_false_iff_not, Int.not_lt] at *; first | (have q := z0.2.2.2.2 t ht; have q1 := z1.2.1; omega))) | (simp at * <;> omega) | (simp_all <;> omega))) (show (v_laws_toHoldS aHolds_1).length ≤ 1073741824 from (by first | assumption | omega | (first | (intro t ht; (try simp at ht); simp only [decide_eq_false_iff_not, Int.not_lt] at *; first | (have q := z0.2.2.2.2 t ht; have q1 := z1.2.1; omega))) | (simp at * <;> omega) | (simp_all <;> omega)))) (by simp [cL, Function.comp_def])), (t_laws_toMesh aM_0 (show aM_0.Places.length ≤ 1073741824 from (by first | assumption | omega | (first | (intro t ht; (try simp at ht); simp only [decide_eq_false_iff_not, Int.not_lt] at *; first | (have q := z0.2.2.2.2 t ht; have q1 := z1.2.1; omega))) | (simp at * <;> omega) | (simp_all <;> omega))) (show aM_0.Triangles.length ≤ 1073741824 from (by first | assumption | omega | (first | (intro t ht; (try simp at ht); simp only [decide_eq_false_iff_not, Int.not_lt] at *; first | (have q := z0.2.2.2.2 t ht; have q1 := z1.2.1; omega))) | (simp at * <;> omega) | (simp_all <;> omega))) (show ∀ t ∈ aM_0.Triangles, t.length ≤ 1073741824 from (by first | assumption | omega | (first | (intro t ht; (try simp at ht); simp only [decide_eq_false_iff_not, Int.not_lt] at *; first | (have q := z0.2.2.2.2 t ht; have q1 := z1.2.1; omega))) | (simp at * <;> omega) | (simp_all <;> omega)))), (t_laws_toHoldS aHolds_1 (show aHolds_1.length ≤ 1073741824 from (by first | assumption | omega | (first | (intro t ht; (try simp at ht); simp only [decide_eq_false_iff_not, Int.not_lt] at *; first | (have q := z0.2.2.2.2 t ht; have q1 := z1.2.1; omega))) | (simp at * <;> omega) | (simp_all <;> omega)))), (Fn.castA (t_impl_OffHolds (v_laws_toMesh aM_0) (v_laws_toHoldS aHolds_1) (show (v_laws_toMesh aM_0).Places.length ≤ 1073741824 from (by first | assumption | omega | (first | (intro t ht; (try simp at ht); simp only [decide_eq_false_iff_not, Int.not_lt] at *; first | (have q := z0.2.2.2.2 t ht; have q1 := z1.2.1; omega))) | (simp at * <;> omega) | (simp_all <;> omega))) (show (v_laws_toMesh aM_0).Triangles.length ≤ 1073741824 from (by first | assumption | omega | (first | (intro t ht; (try simp at ht); simp only [decide_eq_false_iff_not, Int.not_lt] at *; first | (have q := z0.2.2.2.2 t ht; have q1 := z1.2.1; omega))) | (simp at * <;> omega) | (simp_all <;> omega))) (show ∀ t ∈ (v_laws_toMesh aM_0).Triangles, t.length ≤ 1073741824 from (by first | assumption | omega | (first | (intro t ht; (try simp at ht); simp only [decide_eq_false_iff_not, Int.not_lt] at *; first | (have q := z0.2.2.2.2 t ht; have q1 := z1.2.1; omega))) | (simp at * <;> omega) | (simp_all <;> omega))) (show (v_laws_toHoldS aHolds_1).length ≤ 1073741824 from (by first | assumption | omega | (first | (intro t ht; (try simp at ht); simp only [decide_eq_false_iff_not, Int.not_lt] at *; first | (have q := z0.2.2.2.2 t ht; have q1 := z1.2.1; omega))) | (simp at * <;> omega) | (simp_all <;> omega)))) (by simp [cL, Function.comp_def])), (widenOk _), (widenOk _), (t_laws_sameFloat (fcv .f32 .f64 ((v_impl_OffHolds (v_laws_toMesh aM_0) (v_laws_toHoldS aHolds_1)).1)) (fcv .f32 .f64 ((v_spec_OffHolds (v_laws_toMesh aM_0) (v_laws_toHoldS aHolds_1)).1))), (congrArg not h2), (congrArg not h2), (congrArg not h2), (congrArg not h2), (congrArg not h3), (t_laws_toMesh aM_0 (show aM_0.Places.length ≤ 1073741824 from (by first | assumption | omega | (first | (intro t ht; (try simp at ht); simp only [decide_eq_false_iff_not, Int.not_lt] at *; first | (have q := z0.2.2.2.2 t ht; have q1 := z1.2.1; omega))) | (simp at * <;> omega) | (simp_all <;> omega))) (show aM_0.Triangles.length ≤ 1073741824 from (by first | assumption | omega | (first | (intro t ht; (try simp at ht); simp only [decide_eq_false_iff_not, Int.not_lt] at *; first | (have q := z0.2.2.2.2 t ht; have q1 := z1.2.1; omega))) | (simp at * <;> omega) | (simp_all <;> omega))) (show ∀ t ∈ aM_0.Triangles, t.length ≤ 1073741824 from (by first | assumption | omega | (first | (intro t ht; (try simp at ht); simp only [decide_eq_false_iff_not, Int.not_lt] at *; first | (have q := z0.2.2.2.2 t ht; have q1 := z1.2.1; omega))) | (simp at * <;> omega) | (simp_all <;> omega)))), (Fn.castA (t_laws_eqMesh (v_laws_toMesh aM_0) (v_laws_toMesh aM_0) (show (v_laws_toMesh aM_0).Places.length ≤ 1073741824 from (by first | assumption | omega | (first | (intro t ht; (try simp at ht); simp only [decide_eq_false_iff_not, Int.not_lt] at *; first | (have q := z0.2.2.2.2 t ht; have q1 := z1.2.1; omega))) | (simp at * <;> omega) | (simp_all <;> omega))) (show (v_laws_toMesh aM_0).Triangles.length ≤ 1073741824 from (by first | assumption | omega | (first | (intro t ht; (try simp at ht); simp only [decide_eq_false_iff_not, Int.not_lt] at *; first | (have q := z0.2.2.2.2 t ht; have q1 := z1.2.1; omega))) | (simp at * <;> omega) | (simp_all <;> omega))) (show ∀ t ∈ (v_laws_toMesh aM_0).Triangles, t.length ≤ 1073741824 from (by first | assumption | omega | (first | (intro t ht; (try simp at ht); simp only [decide_eq_false_iff_not, Int.not_lt] at *; first | (have q := z0.2.2.2.2 t ht; have q1 := z1.2.1; omega))) | (simp at * <;> omega) | (simp_all <;> omega))) (show (v_laws_toMesh aM_0).Places.length ≤ 1073741824 from (by first | assumption | omega | (first | (intro t ht; (try simp at ht); simp only [decide_eq_false_iff_not, Int.not_lt] at *; first | (have q := z0.2.2.2.2 t ht; have q1 := z1.2.1; omega))) | (simp at * <;> omega) | (simp_all <;> omega))) (show (v_laws_toMesh aM_0).Triangles.length ≤ 1073741824 from (by first | assumption | omega | (first | (intro t ht; (try simp at ht); simp only [decide_eq_false_iff_not, Int.not_lt] at *; first | (have q := z0.2.2.2.2 t ht; have q1 := z1.2.1; omega))) | (simp at * <;> omega) | (simp_all <;> omega))) (show ∀ t ∈ (v_laws_toMesh aM_0).Triangles, t.length ≤ 1073741824 from (by first | assumption | omega | (first | (intro t ht; (try simp at ht); simp only [decide_eq_false_iff_not, Int.not_lt] at *; first | (have q := z0.2.2.2.2 t ht; have q1 := z1.2.1; omega))) | (simp at * <;> omega) | (simp_all <;> omega)))) (by simp [cL, Function.comp_def])), (congrArg not h4), (t_laws_toHoldS aHolds_1 (show aHolds_1.length ≤ 1073741824 from (by first | assumption | omega | (first | (intro t ht; (try simp at ht); simp only [decide_eq_false_iff_not, Int.not_lt] at *; first | (have q := z0.2.2.2.2 t ht; have q1 := z1.2.1; omega))) | (simp at * <;> omega) | (simp_all <;> omega)))), (t_laws_eqHoldS (v_laws_toHoldS aHolds_1) (v_laws_toHoldS aHolds_1) (show (v_laws_toHoldS aHolds_1).length ≤ 1073741824 from (by first | assumption | omega | (first | (intro t ht; (try simp at ht); simp only [decide_eq_false_iff_not, Int.not_lt] at *; first | (have q := z0.2.2.2.2 t ht; have q1 := z1.2.1; omega))) | (simp at * <;> omega) | (simp_all <;> omega))) (show (v_laws_toHoldS aHolds_1).length ≤ 1073741824 from (by first | assumption | omega | (first | (intro t ht; (try simp at ht); simp only [decide_eq_false_iff_not, Int.not_lt] at *; first | (have q := z0.2.2.2.2 t ht; have q1 := z1.2.1; omega))) | (simp at * <;> omega) | (simp_all <;> omega)))), (congrArg not h5), trivial⟩) rfl) (by simp only [v_laws_FnExactOffHolds, h0, h1, h2, h3, h4, h5, cond_true, cond_false]) rfl
          | false =>
            exact Fn.cast (CallSt.fn (callSt_of_evK (E := E0) E0Ok hMixed (c := bodyOf Go.Proofs.Try.f3) (rows := []) (r := .b false) (rows' := [])
              (ans := [.call (.i .i64 (v_laws_szMesh aM_0 1048576)) [], .bo false, .call (.i .i64 (v_laws_szHoldS aHolds_1 (v_laws_szMesh aM_0 1048576))) [], .bo false, .call (.agg [.own 0, .own 1]) [.vec 54 3 (((v_laws_toMesh aM_0).Places).map GVector.cells) false, .nest 141 (((v_laws_toMesh aM_0).Triangles).map fun l => l.map (cI .i64)) false], .call (.own 0) [.vec 90 8 ((v_laws_toHoldS aHolds_1).map GHold.cells) false], .call (.tup [.f .f32 ((v_spec_OffHolds (v_laws_toMesh aM_0) (v_laws_toHoldS aHolds_1)).1), .b ((v_spec_OffHolds (v_laws_toMesh aM_0) (v_laws_toHoldS aHolds_1)).2)]) [], .call (.agg [.own 0, .own 1]) [.vec 54 3 (((v_laws_toMesh aM_0).Places).map GVector.cells) false, .nest 141 (((v_laws_toMesh aM_0).Triangles).map fun l => l.map (cI .i64)) false], .call (.own 0) [.vec 90 8 ((v_laws_toHoldS aHolds_1).map GHold.cells) false], .call (.tup [.f .f32 ((v_impl_OffHolds (v_laws_toMesh aM_0) (v_laws_toHoldS aHolds_1)).1), .b ((v_impl_OffHolds (v_laws_toMesh aM_0) (v_laws_toHoldS aHolds_1)).2)]) [], .call (.b (nd_laws_FnExactOffHolds_0 aM_0 aHolds_1)) [], .bo false, .bo false, .bo false, .bo false, .bo false, .keep [3, 3], .call (.agg [.own 0, .own 1]) [.vec 54 3 (((v_laws_toMesh aM_0).Places).map GVector.cells) false, .nest 141 (((v_laws_toMesh aM_0).Triangles).map fun l => l.map (cI .i64)) false], .call (.b (v_laws_eqMesh (v_laws_toMesh aM_0) (v_laws_toMesh aM_0))) [], .bo true, .keep []])
              (ps := [])
              (C := [Fn Go.Proofs.Try.prog 11 [.agg [.sl (aM_0.Places.map GVector.cells), .sl (aM_0.Triangles.map (cL (cI .i64)))], .i .i64 1048576] (.i .i64 (v_laws_szMesh aM_0 1048576)) [],
                (decide ((v_laws_szMesh aM_0 1048576) < 0)) = false,
                Fn Go.Proofs.Try.prog 12 [.sl (aHolds_1.map GHold.cells), .i .i64 (v_laws_szMesh aM_0 1048576)] (.i .i64 (v_laws_szHoldS aHolds_1 (v_laws_szMesh aM_0 1048576))) [],
                (decide ((v_laws_szHoldS aHolds_1 (v_laws_szMesh aM_0 1048576)) < 0)) = false,
                Fn Go.Proofs.Try.prog 14 [.agg [.sl (aM_0.Places.map GVector.cells), .sl (aM_0.Triangles.map (cL (cI .i64)))]] (.agg [.own 0, .own 1]) [.vec 54 3 (((v_laws_toMesh aM_0).Places).map GVector.cells) false, .nest 141 (((v_laws_toMesh aM_0).Triangles).map fun l => l.map (cI .i64)) false],
                Fn Go.Proofs.Try.prog 15 [.sl (aHolds_1.map GHold.cells)] (.own 0) [.vec 90 8 ((v_laws_toHoldS aHolds_1).map GHold.cells) false],
                Fn Go.Proofs.Try.prog 13 [.agg [.sl (((v_laws_toMesh aM_0).Places).map GVector.cells), .sl ((((v_laws_toMesh aM_0).Triangles).map fun l => l.map (cI .i64)).map fun l => [.sl l])], .sl ((v_laws_toHoldS aHolds_1).map GHold.cells)] (.tup [.f .f32 ((v_spec_OffHolds (v_laws_toMesh aM_0) (v_laws_toHoldS aHolds_1)).1), .b ((v_spec_OffHolds (v_laws_toMesh aM_0) (v_laws_toHoldS aHolds_1)).2)]) [],
                Fn Go.Proofs.Try.prog 14 [.agg [.sl (aM_0.Places.map GVector.cells), .sl (aM_0.Triangles.map (cL (cI .i64)))]] (.agg [.own 0, .own 1]) [.vec 54 3 (((v_laws_toMesh aM_0).Places).map GVector.cells) false, .nest 141 (((v_laws_toMesh aM_0).Triangles).map fun l => l.map (cI .i64)) false],
                Fn Go.Proofs.Try.prog 15 [.sl (aHolds_1.map GHold.cells)] (.own 0) [.vec 90 8 ((v_laws_toHoldS aHolds_1).map GHold.cells) false],
                Fn Go.Proofs.Try.prog 16 [.agg [.sl (((v_laws_toMesh aM_0).Places).map GVector.cells), .sl ((((v_laws_toMesh aM_0).Triangles).map fun l => l.map (cI .i64)).map fun l => [.sl l])], .sl ((v_laws_toHoldS aHolds_1).map GHold.cells)] (.tup [.f .f32 ((v_impl_OffHolds (v_laws_toMesh aM_0) (v_laws_toHoldS aHolds_1)).1), .b ((v_impl_OffHolds (v_laws_toMesh aM_0) (v_laws_toHoldS aHolds_1)).2)]) [],
                fcvOk .f32 .f64 ((v_impl_OffHolds (v_laws_toMesh aM_0) (v_laws_toHoldS aHolds_1)).1) = true,
                fcvOk .f32 .f64 ((v_spec_OffHolds (v_laws_toMesh aM_0) (v_laws_toHoldS aHolds_1)).1) = true,
                Fn Go.Proofs.Try.prog 17 [.f .f64 (fcv .f32 .f64 ((v_impl_OffHolds (v_laws_toMesh aM_0) (v_laws_toHoldS aHolds_1)).1)), .f .f64 (fcv .f32 .f64 ((v_spec_OffHolds (v_laws_toMesh aM_0) (v_laws_toHoldS aHolds_1)).1))] (.b (nd_laws_FnExactOffHolds_0 aM_0 aHolds_1)) [],
                (!(nd_laws_FnExactOffHolds_0 aM_0 aHolds_1)) = false,
                (!(nd_laws_FnExactOffHolds_0 aM_0 aHolds_1)) = false,
                (!(nd_laws_FnExactOffHolds_0 aM_0 aHolds_1)) = false,
                (!(nd_laws_FnExactOffHolds_0 aM_0 aHolds_1)) = false,
                (!((v_impl_OffHolds (v_laws_toMesh aM_0) (v_laws_toHoldS aHolds_1)).2 == (v_spec_OffHolds (v_laws_toMesh aM_0) (v_laws_toHoldS aHolds_1)).2)) = false,
                Fn Go.Proofs.Try.prog 14 [.agg [.sl (aM_0.Places.map GVector.cells), .sl (aM_0.Triangles.map (cL (cI .i64)))]] (.agg [.own 0, .own 1]) [.vec 54 3 (((v_laws_toMesh aM_0).Places).map GVector.cells) false, .nest 141 (((v_laws_toMesh aM_0).Triangles).map fun l => l.map (cI .i64)) false],
                Fn Go.Proofs.Try.prog 18 [.agg [.sl (((v_laws_toMesh aM_0).Places).map GVector.cells), .sl ((((v_laws_toMesh aM_0).Triangles).map fun l => l.map (cI .i64)).map fun l => [.sl l])], .agg [.sl (((v_laws_toMesh aM_0).Places).map GVector.cells), .sl ((((v_laws_toMesh aM_0).Triangles).map fun l => l.map (cI .i64)).map fun l => [.sl l])]] (.b (v_laws_eqMesh (v_laws_toMesh aM_0) (v_laws_toMesh aM_0))) [],
                (!(v_laws_eqMesh (v_laws_toMesh aM_0) (v_laws_toMesh aM_0))) = true])
              Go.Proofs.Try.func3 rfl (by kernel_rfl) (by kernel_rfl)
              ⟨(t_laws_szMesh aM_0 1048576 (show aM_0.Places.length ≤ 9223372036854775807 from (by first | assumption | omega | (first | (intro t ht; (try simp at ht); simp only [decide_eq_false_iff_not, Int.not_lt] at *; first | (have q := z0.2.2.2.2 t ht; have q1 := z1.2.1; omega))) | (simp at * <;> omega) | (simp_all <;> omega))) (show aM_0.Triangles.length ≤ 9223372036854775807 from (by first | assumption | omega | (first | (intro t ht; (try simp at ht); simp only [decide_eq_false_iff_not, Int.not_lt] at *; first | (have q := z0.2.2.2.2 t ht; have q1 := z1.2.1; omega))) | (simp at * <;> omega) | (simp_all <;> omega))) (show ∀ t ∈ aM_0.Triangles, t.length ≤ 9223372036854775807 from (by first | assumption | omega | (first | (intro t ht; (try simp at ht); simp only [decide_eq_false_iff_not, Int.not_lt] at *; first | (have q := z0.2.2.2.2 t ht; have q1 := z1.2.1; omega))) | (simp at * <;> omega) | (simp_all <;> omega)))), h0, (t_laws_szHoldS aHolds_1 (v_laws_szMesh aM_0 1048576) (show aHolds_1.length ≤ 9223372036854775807 from (by first | assumption | omega | (first | (intro t ht; (try simp at ht); simp only [decide_eq_false_iff_not, Int.not_lt] at *; first | (have q := z0.2.2.2.2 t ht; have q1 := z1.2.1; omega))) | (simp at * <;> omega) | (simp_all <;> omega)))), h1, (t_laws_toMesh aM_0 (show aM_0.Places.length ≤ 1073741824 from (by first | assumption | omega | (first | (intro t ht; (try simp at ht); simp only [decide_eq_false_iff_not, Int.not_lt] at *; first | (have q := z0.2.2.2.2 t ht; have q1 := z1.2.1; omega))) | (simp at * <;> omega) | (simp_all <;> omega))) (show aM_0.Triangles.length ≤ 1073741824 from (by first | assumption | omega | (first | (intro t ht; (try simp at ht); simp only [decide_eq_false_iff_not, Int.not_lt] at *; first | (have q := z0.2.2.2.2 t ht; have q1 := z1.2.1; omega))) | (simp at * <;> omega) | (simp_all <;> omega))) (show ∀ t ∈ aM_0.Triangles, t.length ≤ 1073741824 from (by first | assumption | omega | (first | (intro t ht; (try simp at ht); simp only [decide_eq_false_iff_not, Int.not_lt] at *; first | (have q := z0.2.2.2.2 t ht; have q1 := z1.2.1; omega))) | (simp at * <;> omega) | (simp_all <;> omega)))), (t_laws_toHoldS aHolds_1 (show aHolds_1.length ≤ 1073741824 from (by first | assumption | omega | (first | (intro t ht; (try simp at ht); simp only [decide_eq_false_iff_not, Int.not_lt] at *; first | (have q := z0.2.2.2.2 t ht; have q1 := z1.2.1; omega))) | (simp at * <;> omega) | (simp_all <;> omega)))), (Fn.castA (t_spec_OffHolds (v_laws_toMesh aM_0) (v_laws_toHoldS aHolds_1) (show (v_laws_toMesh aM_0).Places.length ≤ 1073741824 from (by first | assumption | omega | (first | (intro t ht; (try simp at ht); simp only [decide_eq_false_iff_not, Int.not_lt] at *; first | (have q := z0.2.2.2.2 t ht; have q1 := z1.2.1; omega))) | (simp at * <;> omega) | (simp_all <;> omega))) (show (v_laws_toMesh aM_0).Triangles.length ≤ 1073741824 from (by first | assumption | omega | (first | (intro t ht; (try simp at ht); simp only [decide_eq_false_iff_not, Int.not_lt] at *; first | (have q := z0.2.2.2.2 t ht; have q1 := z1.2.1; omega))) | (simp at * <;> omega) | (simp_all <;> omega))) (show ∀ t ∈ (v_laws_toMesh aM_0).Triangles, t.length ≤ 1073741824 from (by first | assumption | omega | (first | (intro t ht; (try simp at ht); simp only [decide_eq_false_iff_not, Int.not_lt] at *; first | (have q := z0.2.2.2.2 t ht; have q1 := z1.2.1; omega))) | (simp at * <;> omega) | (simp_all <;> omega))) (show (v_laws_toHoldS aHolds_1).length ≤ 1073741824 from (by first | assumption | omega | (first | (intro t ht; (try simp at ht); simp only [decide_eq_false_iff_not, Int.not_lt] at *; first | (have q := z0.2.2.2.2 t ht; have q1 := z1.2.1; omega))) | (simp at * <;> omega) | (simp_all <;> omega)))) (by simp [cL, Function.comp_def])), (t_laws_toMesh aM_0 (show aM_0.Places.length ≤ 1073741824 from (by first | assumption | omega | (first | (intro t ht; (try simp at ht); simp only [decide_eq_false_iff_not, Int.not_lt] at *; first | (have q := z0.2.2.2.2 t ht; have q1 := z1.2.1; omega))) | (simp at * <;> omega) | (simp_all <;> omega))) (show aM_0.Triangles.length ≤ 1073741824 from (by first | assumption | omega | (first | (intro t ht; (try simp at ht); simp only [decide_eq_false_iff_not, Int.not_lt] at *; first | (have q := z0.2.2.2.2 t ht; have q1 := z1.2.1; omega))) | (simp at * <;> omega) | (simp_all <;> omega))) (show ∀ t ∈ aM_0.Triangles, t.length ≤ 1073741824 from (by first | assumption | omega | (first | (intro t ht; (try simp at ht); simp only [decide_eq_false_iff_not, Int.not_lt] at *; first | (have q := z0.2.2.2.2 t ht; have q1 := z1.2.1; omega))) | (simp at * <;> omega) | (simp_all <;> omega)))), (t_laws_toHoldS aHolds_1 (show aHolds_1.length ≤ 1073741824 from (by first | assumption | omega | (first | (intro t ht; (try simp at ht); simp only [decide_eq_false_iff_not, Int.not_lt] at *; first | (have q := z0.2.2.2.2 t ht; have q1 := z1.2.1; omega))) | (simp at * <;> omega) | (simp_all <;> omega)))), (Fn.castA (t_impl_OffHolds (v_laws_toMesh aM_0) (v_laws_toHoldS aHolds_1) (show (v_laws_toMesh aM_0).Places.length ≤ 1073741824 from (by first | assumption | omega | (first | (intro t ht; (try simp at ht); simp only [decide_eq_false_iff_not, Int.not_lt] at *; first | (have q := z0.2.2.2.2 t ht; have q1 := z1.2.1; omega))) | (simp at * <;> omega) | (simp_all <;> omega))) (show (v_laws_toMesh aM_0).Triangles.length ≤ 1073741824 from (by first | assumption | omega | (first | (intro t ht; (try simp at ht); simp only [decide_eq_false_iff_not, Int.not_lt] at *; first | (have q := z0.2.2.2.2 t ht; have q1 := z1.2.1; omega))) | (simp at * <;> omega) | (simp_all <;> omega))) (show ∀ t ∈ (v_laws_toMesh aM_0).Triangles, t.length ≤ 1073741824 from (by first | assumption | omega | (first | (intro t ht; (try simp at ht); simp only [decide_eq_false_iff_not, Int.not_lt] at *; first | (have q := z0.2.2.2.2 t ht; have q1 := z1.2.1; omega))) | (simp at * <;> omega) | (simp_all <;> omega))) (show (v_laws_toHoldS aHolds_1).length ≤ 1073741824 from (by first | assumption | omega | (first | (intro t ht; (try simp at ht); simp only [decide_eq_false_iff_not, Int.not_lt] at *; first | (have q := z0.2.2.2.2 t ht; have q1 := z1.2.1; omega))) | (simp at * <;> omega) | (simp_all <;> omega)))) (by simp [cL, Function.comp_def])), (widenOk _), (widenOk _), (t_laws_sameFloat (fcv .f32 .f64 ((v_impl_OffHolds (v_laws_toMesh aM_0) (v_laws_toHoldS aHolds_1)).1)) (fcv .f32 .f64 ((v_spec_OffHolds (v_laws_toMesh aM_0) (v_laws_toHoldS aHolds_1)).1))), (congrArg not h2), (congrArg not h2), (congrArg not h2), (congrArg not h2), (congrArg not h3), (t_laws_toMesh aM_0 (show aM_0.Places.length ≤ 1073741824 from (by first | assumption | omega | (first | (intro t ht; (try simp at ht); simp only [decide_eq_false_iff_not, Int.not_lt] at *; first | (have q := z0.2.2.2.2 t ht; have q1 := z1.2.1; omega))) | (simp at * <;> omega) | (simp_all <;> omega))) (show aM_0.Triangles.length ≤ 1073741824 from (by first | assumption | omega | (first | (intro t ht; (try simp at ht); simp only [decide_eq_false_iff_not, Int.not_lt] at *; first | (have q := z0.2.2.2.2 t ht; have q1 := z1.2.1; omega))) | (simp at * <;> omega) | (simp_all <;> omega))) (show ∀ t ∈ aM_0.Triangles, t.length ≤ 1073741824 from (by first | assumption | omega | (first | (intro t ht; (try simp at ht); simp only [decide_eq_false_iff_not, Int.not_lt] at *; first | (have q := z0.2.2.2.2 t ht; have q1 := z1.2.1; omega))) | (simp at * <;> omega) | (simp_all <;> omega)))), (Fn.castA (t_laws_eqMesh (v_laws_toMesh aM_0) (v_laws_toMesh aM_0) (show (v_laws_toMesh aM_0).Places.length ≤ 1073741824 from (by first | assumption | omega | (first | (intro t ht; (try simp at ht); simp only [decide_eq_false_iff_not, Int.not_lt] at *; first | (have q := z0.2.2.2.2 t ht; have q1 := z1.2.1; omega))) | (simp at * <;> omega) | (simp_all <;> omega))) (show (v_laws_toMesh aM_0).Triangles.length ≤ 1073741824 from (by first | assumption | omega | (first | (intro t ht; (try simp at ht); simp only [decide_eq_false_iff_not, Int.not_lt] at *; first | (have q := z0.2.2.2.2 t ht; have q1 := z1.2.1; omega))) | (simp at * <;> omega) | (simp_all <;> omega))) (show ∀ t ∈ (v_laws_toMesh aM_0).Triangles, t.length ≤ 1073741824 from (by first | assumption | omega | (first | (intro t ht; (try simp at ht); simp only [decide_eq_false_iff_not, Int.not_lt] at *; first | (have q := z0.2.2.2.2 t ht; have q1 := z1.2.1; omega))) | (simp at * <;> omega) | (simp_all <;> omega))) (show (v_laws_toMesh aM_0).Places.length ≤ 1073741824 from (by first | assumption | omega | (first | (intro t ht; (try simp at ht); simp only [decide_eq_false_iff_not, Int.not_lt] at *; first | (have q := z0.2.2.2.2 t ht; have q1 := z1.2.1; omega))) | (simp at * <;> omega) | (simp_all <;> omega))) (show (v_laws_toMesh aM_0).Triangles.length ≤ 1073741824 from (by first | assumption | omega | (first | (intro t ht; (try simp at ht); simp only [decide_eq_false_iff_not, Int.not_lt] at *; first | (have q := z0.2.2.2.2 t ht; have q1 := z1.2.1; omega))) | (simp at * <;> omega) | (simp_all <;> omega))) (show ∀ t ∈ (v_laws_toMesh aM_0).Triangles, t.length ≤ 1073741824 from (by first | assumption | omega | (first | (intro t ht; (try simp at ht); simp only [decide_eq_false_iff_not, Int.not_lt] at *; first | (have q := z0.2.2.2.2 t ht; have q1 := z1.2.1; omega))) | (simp at * <;> omega) | (simp_all <;> omega)))) (by simp [cL, Function.comp_def])), (congrArg not h4), trivial⟩) rfl) (by simp only [v_laws_FnExactOffHolds, h0, h1, h2, h3, h4, cond_true, cond_false]) rfl
        | false =>
          exact Fn.cast (CallSt.fn (callSt_of_evK (E := E0) E0Ok hMixed (c := bodyOf Go.Proofs.Try.f3) (rows := []) (r := .b false) (rows' := [])
            (ans := [.call (.i .i64 (v_laws_szMesh aM_0 1048576)) [], .bo false, .call (.i .i64 (v_laws_szHoldS aHolds_1 (v_laws_szMesh aM_0 1048576))) [], .bo false, .call (.agg [.own 0, .own 1]) [.vec 54 3 (((v_laws_toMesh aM_0).Places).map GVector.cells) false, .nest 141 (((v_laws_toMesh aM_0).Triangles).map fun l => l.map (cI .i64)) false], .call (.own 0) [.vec 90 8 ((v_laws_toHoldS aHolds_1).map GHold.cells) false], .call (.tup [.f .f32 ((v_spec_OffHolds (v_laws_toMesh aM_0) (v_laws_toHoldS aHolds_1)).1), .b ((v_spec_OffHolds (v_laws_toMesh aM_0) (v_laws_toHoldS aHolds_1)).2)]) [], .call (.agg [.own 0, .own 1]) [.vec 54 3 (((v_laws_toMesh aM_0).Places).map GVector.cells) false, .nest 141 (((v_laws_toMesh aM_0).Triangles).map fun l => l.map (cI .i64)) false], .call (.own 0) [.vec 90 8 ((v_laws_toHoldS aHolds_1).map GHold.cells) false], .call (.tup [.f .f32 ((v_impl_OffHolds (v_laws_toMesh aM_0) (v_laws_toHoldS aHolds_1)).1), .b ((v_impl_OffHolds (v_laws_toMesh aM_0) (v_laws_toHoldS aHolds_1)).2)]) [], .call (.b (nd_laws_FnExactOffHolds_0 aM_0 aHolds_1)) [], .bo false, .bo false, .bo false, .bo false, .bo true, .keep []])
            (ps := [])
            (C := [Fn Go.Proofs.Try.prog 11 [.agg [.sl (aM_0.Places.map GVector.cells), .sl (aM_0.Triangles.map (cL (cI .i64)))], .i .i64 1048576] (.i .i64 (v_laws_szMesh aM_0 1048576)) [],
              (decide ((v_laws_szMesh aM_0 1048576) < 0)) = false,
              Fn Go.Proofs.Try.prog 12 [.sl (aHolds_1.map GHold.cells), .i .i64 (v_laws_szMesh aM_0 1048576)] (.i .i64 (v_laws_szHoldS aHolds_1 (v_laws_szMesh aM_0 1048576))) [],
              (decide ((v_laws_szHoldS aHolds_1 (v_laws_szMesh aM_0 1048576)) < 0)) = false,
              Fn Go.Proofs.Try.prog 14 [.agg [.sl (aM_0.Places.map GVector.cells), .sl (aM_0.Triangles.map (cL (cI .i64)))]] (.agg [.own 0, .own 1]) [.vec 54 3 (((v_laws_toMesh aM_0).Places).map GVector.cells) false, .nest 141 (((v_laws_toMesh aM_0).Triangles).map fun l => l.map (cI .i64)) false],
              Fn Go.Proofs.Try.prog 15 [.sl (aHolds_1.map GHold.cells)] (.own 0) [.vec 90 8 ((v_laws_toHoldS aHolds_1).map GHold.cells) false],
              Fn Go.Proofs.Try.prog 13 [.agg [.sl (((v_laws_toMesh aM_0).Places).map GVector.cells), .sl ((((v_laws_toMesh aM_0).Triangles).map fun l => l.map (cI .i64)).map fun l => [.sl l])], .sl ((v_laws_toHoldS aHolds_1).map GHold.cells)] (.tup [.f .f32 ((v_spec_OffHolds (v_laws_toMesh aM_0) (v_laws_toHoldS aHolds_1)).1), .b ((v_spec_OffHolds (v_laws_toMesh aM_0) (v_laws_toHoldS aHolds_1)).2)]) [],
              Fn Go.Proofs.Try.prog 14 [.agg [.sl (aM_0.Places.map GVector.cells), .sl (aM_0.Triangles.map (cL (cI .i64)))]] (.agg [.own 0, .own 1]) [.vec 54 3 (((v_laws_toMesh aM_0).Places).map GVector.cells) false, .nest 141 (((v_laws_toMesh aM_0).Triangles).map fun l => l.map (cI .i64)) false],
              Fn Go.Proofs.Try.prog 15 [.sl (aHolds_1.map GHold.cells)] (.own 0) [.vec 90 8 ((v_laws_toHoldS aHolds_1).map GHold.cells) false],
              Fn Go.Proofs.Try.prog 16 [.agg [.sl (((v_laws_toMesh aM_0).Places).map GVector.cells), .sl ((((v_laws_toMesh aM_0).Triangles).map fun l => l.map (cI .i64)).map fun l => [.sl l])], .sl ((v_laws_toHoldS aHolds_1).map GHold.cells)] (.tup [.f .f32 ((v_impl_OffHolds (v_laws_toMesh aM_0) (v_laws_toHoldS aHolds_1)).1), .b ((v_impl_OffHolds (v_laws_toMesh aM_0) (v_laws_toHoldS aHolds_1)).2)]) [],
              fcvOk .f32 .f64 ((v_impl_OffHolds (v_laws_toMesh aM_0) (v_laws_toHoldS aHolds_1)).1) = true,
              fcvOk .f32 .f64 ((v_spec_OffHolds (v_laws_toMesh aM_0) (v_laws_toHoldS aHolds_1)).1) = true,
              Fn Go.Proofs.Try.prog 17 [.f .f64 (fcv .f32 .f64 ((v_impl_OffHolds (v_laws_toMesh aM_0) (v_laws_toHoldS aHolds_1)).1)), .f .f64 (fcv .f32 .f64 ((v_spec_OffHolds (v_laws_toMesh aM_0) (v_laws_toHoldS aHolds_1)).1))] (.b (nd_laws_FnExactOffHolds_0 aM_0 aHolds_1)) [],
              (!(nd_laws_FnExactOffHolds_0 aM_0 aHolds_1)) = false,
              (!(nd_laws_FnExactOffHolds_0 aM_0 aHolds_1)) = false,
              (!(nd_laws_FnExactOffHolds_0 aM_0 aHolds_1)) = false,
              (!(nd_laws_FnExactOffHolds_0 aM_0 aHolds_1)) = false,
              (!((v_impl_OffHolds (v_laws_toMesh aM_0) (v_laws_toHoldS aHolds_1)).2 == (v_spec_OffHolds (v_laws_toMesh aM_0) (v_laws_toHoldS aHolds_1)).2)) = true])
            Go.Proofs.Try.func3 rfl (by kernel_rfl) (by kernel_rfl)
            ⟨(t_laws_szMesh aM_0 1048576 (show aM_0.Places.length ≤ 9223372036854775807 from (by first | assumption | omega | (first | (intro t ht; (try simp at ht); simp only [decide_eq_false_iff_not, Int.not_lt] at *; first | (have q := z0.2.2.2.2 t ht; have q1 := z1.2.1; omega))) | (simp at * <;> omega) | (simp_all <;> omega))) (show aM_0.Triangles.length ≤ 9223372036854775807 from (by first | assumption | omega | (first | (intro t ht; (try simp at ht); simp only [decide_eq_false_iff_not, Int.not_lt] at *; first | (have q := z0.2.2.2.2 t ht; have q1 := z1.2.1; omega))) | (simp at * <;> omega) | (simp_all <;> omega))) (show ∀ t ∈ aM_0.Triangles, t.length ≤ 9223372036854775807 from (by first | assumption | omega | (first | (intro t ht; (try simp at ht); simp only [decide_eq_false_iff_not, Int.not_lt] at *; first | (have q := z0.2.2.2.2 t ht; have q1 := z1.2.1; omega))) | (simp at * <;> omega) | (simp_all <;> omega)))), h0, (t_laws_szHoldS aHolds_1 (v_laws_szMesh aM_0 1048576) (show aHolds_1.length ≤ 9223372036854775807 from (by first | assumption | omega | (first | (intro t ht; (try simp at ht); simp only [decide_eq_false_iff_not, Int.not_lt] at *; first | (have q := z0.2.2.2.2 t ht; have q1 := z1.2.1; omega))) | (simp at * <;> omega) | (simp_all <;> omega)))), h1, (t_laws_toMesh aM_0 (show aM_0.Places.length ≤ 1073741824 from (by first | assumption | omega | (first | (intro t ht; (try simp at ht); simp only [decide_eq_false_iff_not, Int.not_lt] at *; first | (have q := z0.2.2.2.2 t ht; have q1 := z1.2.1; omega))) | (simp at * <;> omega) | (simp_all <;> omega))) (show aM_0.Triangles.length ≤ 1073741824 from (by first | assumption | omega | (first | (intro t ht; (try simp at ht); simp only [decide_eq_false_iff_not, Int.not_lt] at *; first | (have q := z0.2.2.2.2 t ht; have q1 := z1.2.1; omega))) | (simp at * <;> omega) | (simp_all <;> omega))) (show ∀ t ∈ aM_0.Triangles, t.length ≤ 1073741824 from (by first | assumption | omega | (first | (intro t ht; (try simp at ht); simp only [decide_eq_false_iff_not, Int.not_lt] at *; first | (have q := z0.2.2.2.2 t ht; have q1 := z1.2.1; omega))) | (simp at * <;> omega) | (simp_all <;> omega)))), (t_laws_toHoldS aHolds_1 (show aHolds_1.length ≤ 1073741824 from (by first | assumption | omega | (first | (intro t ht; (try simp at ht); simp only [decide_eq_false_iff_not, Int.not_lt] at *; first | (have q := z0.2.2.2.2 t ht; have q1 := z1.2.1; omega))) | (simp at * <;> omega) | (simp_all <;> omega)))), (Fn.castA (t_spec_OffHolds (v_laws_toMesh aM_0) (v_laws_toHoldS aHolds_1) (show (v_laws_toMesh aM_0).Places.length ≤ 1073741824 from (by first | assumption | omega | (first | (intro t ht; (try simp at ht); simp only [decide_eq_false_iff_not, Int.not_lt] at *; first | (have q := z0.2.2.2.2 t ht; have q1 := z1.2.1; omega))) | (simp at * <;> omega) | (simp_all <;> omega))) (show (v_laws_toMesh aM_0).Triangles.length ≤ 1073741824 from (by first | assumption | omega | (first | (intro t ht; (try simp at ht); simp only [decide_eq_false_iff_not, Int.not_lt] at *; first | (have q := z0.2.2.2.2 t ht; have q1 := z1.2.1; omega))) | (simp at * <;> omega) | (simp_all <;> omega))) (show ∀ t ∈ (v_laws_toMesh aM_0).Triangles, t.length ≤ 1073741824 from (by first | assumption | omega | (first | (intro t ht; (try simp at ht); simp only [decide_eq_false_iff_not, Int.not_lt] at *; first | (have q := z0.2.2.2.2 t ht; have q1 := z1.2.1; omega))) | (simp at * <;> omega) | (simp_all <;> omega))) (show (v_laws_toHoldS aHolds_1).length ≤ 1073741824 from (by first | assumption | omega | (first | (intro t ht; (try simp at ht); simp only [decide_eq_false_iff_not, Int.not_lt] at *; first | (have q := z0.2.2.2.2 t ht; have q1 := z1.2.1; omega))) | (simp at * <;> omega) | (simp_all <;> omega)))) (by simp [cL, Function.comp_def])), (t_laws_toMesh aM_0 (show aM_0.Places.length ≤ 1073741824 from (by first | assumption | omega | (first | (intro t ht; (try simp at ht); simp only [decide_eq_false_iff_not, Int.not_lt] at *; first | (have q := z0.2.2.2.2 t ht; have q1 := z1.2.1; omega))) | (simp at * <;> omega) | (simp_all <;> omega))) (show aM_0.Triangles.length ≤ 1073741824 from (by first | assumption | omega | (first | (intro t ht; (try simp at ht); simp only [decide_eq_false_iff_not, Int.not_lt] at *; first | (have q := z0.2.2.2.2 t ht; have q1 := z1.2.1; omega))) | (simp at * <;> omega) | (simp_all <;> omega))) (show ∀ t ∈ aM_0.Triangles, t.length ≤ 1073741824 from (by first | assumption | omega | (first | (intro t ht; (try simp at ht); simp only [decide_eq_false_iff_not, Int.not_lt] at *; first | (have q := z0.2.2.2.2 t ht; have q1 := z1.2.1; omega))) | (simp at * <;> omega) | (simp_all <;> omega)))), (t_laws_toHoldS aHolds_1 (show aHolds_1.length ≤ 1073741824 from (by first | assumption | omega | (first | (intro t ht; (try simp at ht); simp only [decide_eq_false_iff_not, Int.not_lt] at *; first | (have q := z0.2.2.2.2 t ht; have q1 := z1.2.1; omega))) | (simp at * <;> omega) | (simp_all <;> omega)))), (Fn.castA (t_impl_OffHolds (v_laws_toMesh aM_0) (v_laws_toHoldS aHolds_1) (show (v_laws_toMesh aM_0).Places.length ≤ 1073741824 from (by first | assumption | omega | (first | (intro t ht; (try simp at ht); simp only [decide_eq_false_iff_not, Int.not_lt] at *; first | (have q := z0.2.2.2.2 t ht; have q1 := z1.2.1; omega))) | (simp at * <;> omega) | (simp_all <;> omega))) (show (v_laws_toMesh aM_0).Triangles.length ≤ 1073741824 from (by first | assumption | omega | (first | (intro t ht; (try simp at ht); simp only [decide_eq_false_iff_not, Int.not_lt] at *; first | (have q := z0.2.2.2.2 t ht; have q1 := z1.2.1; omega))) | (simp at * <;> omega) | (simp_all <;> omega))) (show ∀ t ∈ (v_laws_toMesh aM_0).Triangles, t.length ≤ 1073741824 from (by first | assumption | omega | (first | (intro t ht; (try simp at ht); simp only [decide_eq_false_iff_not, Int.not_lt] at *; first | (have q := z0.2.2.2.2 t ht; have q1 := z1.2.1; omega))) | (simp at * <;> omega) | (simp_all <;> omega))) (show (v_laws_toHoldS aHolds_1).length ≤ 1073741824 from (by first | assumption | omega | (first | (intro t ht; (try simp at ht); simp only [decide_eq_false_iff_not, Int.not_lt] at *; first | (have q := z0.2.2.2.2 t ht; have q1 := z1.2.1; omega))) | (simp at * <;> omega) | (simp_all <;> omega)))) (by simp [cL, Function.comp_def])), (widenOk _), (widenOk _), (t_laws_sameFloat (fcv .f32 .f64 ((v_impl_OffHolds (v_laws_toMesh aM_0) (v_laws_toHoldS aHolds_1)).1)) (fcv .f32 .f64 ((v_spec_OffHolds (v_laws_toMesh aM_0) (v_laws_toHoldS aHolds_1)).1))), (congrArg not h2), (congrArg not h2), (congrArg not h2), (congrArg not h2), (congrArg not h3), trivial⟩) rfl) (by simp only [v_laws_FnExactOffHolds, h0, h1, h2, h3, cond_true, cond_false]) rfl
      | false =>
        exact Fn.cast (CallSt.fn (callSt_of_evK (E := E0) E0Ok hMixed (c := bodyOf Go.Proofs.Try.f3) (rows := []) (r := .b false) (rows' := [])
          (ans := [.call (.i .i64 (v_laws_szMesh aM_0 1048576)) [], .bo false, .call (.i .i64 (v_laws_szHoldS aHolds_1 (v_laws_szMesh aM_0 1048576))) [], .bo false, .call (.agg [.own 0, .own 1]) [.vec 54 3 (((v_laws_toMesh aM_0).Places).map GVector.cells) false, .nest 141 (((v_laws_toMesh aM_0).Triangles).map fun l => l.map (cI .i64)) false], .call (.own 0) [.vec 90 8 ((v_laws_toHoldS aHolds_1).map GHold.cells) false], .call (.tup [.f .f32 ((v_spec_OffHolds (v_laws_toMesh aM_0) (v_laws_toHoldS aHolds_1)).1), .b ((v_spec_OffHolds (v_laws_toMesh aM_0) (v_laws_toHoldS aHolds_1)).2)]) [], .call (.agg [.own 0, .own 1]) [.vec 54 3 (((v_laws_toMesh aM_0).Places).map GVector.cells) false, .nest 141 (((v_laws_toMesh aM_0).Triangles).map fun l => l.map (cI .i64)) false], .call (.own 0) [.vec 90 8 ((v_laws_toHoldS aHolds_1).map GHold.cells) false], .call (.tup [.f .f32 ((v_impl_OffHolds (v_laws_toMesh aM_0) (v_laws_toHoldS aHolds_1)).1), .b ((v_impl_OffHolds (v_laws_toMesh aM_0) (v_laws_toHoldS aHolds_1)).2)]) [], .call (.b (nd_laws_FnExactOffHolds_0 aM_0 aHolds_1)) [], .bo true, .bo true, .bo true, .bo true, .bo true, .keep []])
          (ps := [])
          (C := [Fn Go.Proofs.Try.prog 11 [.agg [.sl (aM_0.Places.map GVector.cells), .sl (aM_0.Triangles.map (cL (cI .i64)))], .i .i64 1048576] (.i .i64 (v_laws_szMesh aM_0 1048576)) [],
            (decide ((v_laws_szMesh aM_0 1048576) < 0)) = false,
            Fn Go.Proofs.Try.prog 12 [.sl (aHolds_1.map GHold.cells), .i .i64 (v_laws_szMesh aM_0 1048576)] (.i .i64 (v_laws_szHoldS aHolds_1 (v_laws_szMesh aM_0 1048576))) [],
            (decide ((v_laws_szHoldS aHolds_1 (v_laws_szMesh aM_0 1048576)) < 0)) = false,
            Fn Go.Proofs.Try.prog 14 [.agg [.sl (aM_0.Places.map GVector.cells), .sl (aM_0.Triangles.map (cL (cI .i64)))]] (.agg [.own 0, .own 1]) [.vec 54 3 (((v_laws_toMesh aM_0).Places).map GVector.cells) false, .nest 141 (((v_laws_toMesh aM_0).Triangles).map fun l => l.map (cI .i64)) false],
            Fn Go.Proofs.Try.prog 15 [.sl (aHolds_1.map GHold.cells)] (.own 0) [.vec 90 8 ((v_laws_toHoldS aHolds_1).map GHold.cells) false],
            Fn Go.Proofs.Try.prog 13 [.agg [.sl (((v_laws_toMesh aM_0).Places).map GVector.cells), .sl ((((v_laws_toMesh aM_0).Triangles).map fun l => l.map (cI .i64)).map fun l => [.sl l])], .sl ((v_laws_toHoldS aHolds_1).map GHold.cells)] (.tup [.f .f32 ((v_spec_OffHolds (v_laws_toMesh aM_0) (v_laws_toHoldS aHolds_1)).1), .b ((v_spec_OffHolds (v_laws_toMesh aM_0) (v_laws_toHoldS aHolds_1)).2)]) [],
            Fn Go.Proofs.Try.prog 14 [.agg [.sl (aM_0.Places.map GVector.cells), .sl (aM_0.Triangles.map (cL (cI .i64)))]] (.agg [.own 0, .own 1]) [.vec 54 3 (((v_laws_toMesh aM_0).Places).map GVector.cells) false, .nest 141 (((v_laws_toMesh aM_0).Triangles).map fun l => l.map (cI .i64)) false],
            Fn Go.Proofs.Try.prog 15 [.sl (aHolds_1.map GHold.cells)] (.own 0) [.vec 90 8 ((v_laws_toHoldS aHolds_1).map GHold.cells) false],
            Fn Go.Proofs.Try.prog 16 [.agg [.sl (((v_laws_toMesh aM_0).Places).map GVector.cells), .sl ((((v_laws_toMesh aM_0).Triangles).map fun l => l.map (cI .i64)).map fun l => [.sl l])], .sl ((v_laws_toHoldS aHolds_1).map GHold.cells)] (.tup [.f .f32 ((v_impl_OffHolds (v_laws_toMesh aM_0) (v_laws_toHoldS aHolds_1)).1), .b ((v_impl_OffHolds (v_laws_toMesh aM_0) (v_laws_toHoldS aHolds_1)).2)]) [],
            fcvOk .f32 .f64 ((v_impl_OffHolds (v_laws_toMesh aM_0) (v_laws_toHoldS aHolds_1)).1) = true,
            fcvOk .f32 .f64 ((v_spec_OffHolds (v_laws_toMesh aM_0) (v_laws_toHoldS aHolds_1)).1) = true,
            Fn Go.Proofs.Try.prog 17 [.f .f64 (fcv .f32 .f64 ((v_impl_OffHolds (v_laws_toMesh aM_0) (v_laws_toHoldS aHolds_1)).1)), .f .f64 (fcv .f32 .f64 ((v_spec_OffHolds (v_laws_toMesh aM_0) (v_laws_toHoldS aHolds_1)).1))] (.b (nd_laws_FnExactOffHolds_0 aM_0 aHolds_1)) [],
            (!(nd_laws_FnExactOffHolds_0 aM_0 aHolds_1)) = true,
            (!(nd_laws_FnExactOffHolds_0 aM_0 aHolds_1)) = true,
            (!(nd_laws_FnExactOffHolds_0 aM_0 aHolds_1)) = true,
            (!(nd_laws_FnExactOffHolds_0 aM_0 aHolds_1)) = true,
            true = true])
          Go.Proofs.Try.func3 rfl (by kernel_rfl) (by kernel_rfl)
          ⟨(t_laws_szMesh aM_0 1048576 (show aM_0.Places.length ≤ 9223372036854775807 from (by first | assumption | omega | (first | (intro t ht; (try simp at ht); simp only [decide_eq_false_iff_not, Int.not_lt] at *; first | (have q := z0.2.2.2.2 t ht; have q1 := z1.2.1; omega))) | (simp at * <;> omega) | (simp_all <;> omega))) (show aM_0.Triangles.length ≤ 9223372036854775807 from (by first | assumption | omega | (first | (intro t ht; (try simp at ht); simp only [decide_eq_false_iff_not, Int.not_lt] at *; first | (have q := z0.2.2.2.2 t ht; have q1 := z1.2.1; omega))) | (simp at * <;> omega) | (simp_all <;> omega))) (show ∀ t ∈ aM_0.Triangles, t.length ≤ 9223372036854775807 from (by first | assumption | omega | (first | (intro t ht; (try simp at ht); simp only [decide_eq_false_iff_not, Int.not_lt] at *; first | (have q := z0.2.2.2.2 t ht; have q1 := z1.2.1; omega))) | (simp at * <;> omega) | (simp_all <;> omega)))), h0, (t_laws_szHoldS aHolds_1 (v_laws_szMesh aM_0 1048576) (show aHolds_1.length ≤ 9223372036854775807 from (by first | assumption | omega | (first | (intro t ht; (try simp at ht); simp only [decide_eq_false_iff_not, Int.not_lt] at *; first | (have q := z0.2.2.2.2 t ht; have q1 := z1.2.1; omega))) | (simp at * <;> omega) | (simp_all <;> omega)))), h1, (t_laws_toMesh aM_0 (show aM_0.Places.length ≤ 1073741824 from (by first | assumption | omega | (first | (intro t ht; (try simp at ht); simp only [decide_eq_false_iff_not, Int.not_lt] at *; first | (have q := z0.2.2.2.2 t ht; have q1 := z1.2.1; omega))) | (simp at * <;> omega) | (simp_all <;> omega))) (show aM_0.Triangles.length ≤ 1073741824 from (by first | assumption | omega | (first | (intro t ht; (try simp at ht); simp only [decide_eq_false_iff_not, Int.not_lt] at *; first | (have q := z0.2.2.2.2 t ht; have q1 := z1.2.1; omega))) | (simp at * <;> omega) | (simp_all <;> omega))) (show ∀ t ∈ aM_0.Triangles, t.length ≤ 1073741824 from (by first | assumption | omega | (first | (intro t ht; (try simp at ht); simp only [decide_eq_false_iff_not, Int.not_lt] at *; first | (have q := z0.2.2.2.2 t ht; have q1 := z1.2.1; omega))) | (simp at * <;> omega) | (simp_all <;> omega)))), (t_laws_toHoldS aHolds_1 (show aHolds_1.length ≤ 1073741824 from (by first | assumption | omega | (first | (intro t ht; (try simp at ht); simp only [decide_eq_false_iff_not, Int.not_lt] at *; first | (have q := z0.2.2.2.2 t ht; have q1 := z1.2.1; omega))) | (simp at * <;> omega) | (simp_all <;> omega)))), (Fn.castA (t_spec_OffHolds (v_laws_toMesh aM_0) (v_laws_toHoldS aHolds_1) (show (v_laws_toMesh aM_0).Places.length ≤ 1073741824 from (by first | assumption | omega | (first | (intro t ht; (try simp at ht); simp only [decide_eq_false_iff_not, Int.not_lt] at *; first | (have q := z0.2.2.2.2 t ht; have q1 := z1.2.1; omega))) | (simp at * <;> omega) | (simp_all <;> omega))) (show (v_laws_toMesh aM_0).Triangles.length ≤ 1073741824 from (by first | assumption | omega | (first | (intro t ht; (try simp at ht); simp only [decide_eq_false_iff_not, Int.not_lt] at *; first | (have q := z0.2.2.2.2 t ht; have q1 := z1.2.1; omega))) | (simp at * <;> omega) | (simp_all <;> omega))) (show ∀ t ∈ (v_laws_toMesh aM_0).Triangles, t.length ≤ 1073741824 from (by first | assumption | omega | (first | (intro t ht; (try simp at ht); simp only [decide_eq_false_iff_not, Int.not_lt] at *; first | (have q := z0.2.2.2.2 t ht; have q1 := z1.2.1; omega))) | (simp at * <;> omega) | (simp_all <;> omega))) (show (v_laws_toHoldS aHolds_1).length ≤ 1073741824 from (by first | assumption | omega | (first | (intro t ht; (try simp at ht); simp only [decide_eq_false_iff_not, Int.not_lt] at *; first | (have q := z0.2.2.2.2 t ht; have q1 := z1.2.1; omega))) | (simp at * <;> omega) | (simp_all <;> omega)))) (by simp [cL, Function.comp_def])), (t_laws_toMesh aM_0 (show aM_0.Places.length ≤ 1073741824 from (by first | assumption | omega | (first | (intro t ht; (try simp at ht); simp only [decide_eq_false_iff_not, Int.not_lt] at *; first | (have q := z0.2.2.2.2 t ht; have q1 := z1.2.1; omega))) | (simp at * <;> omega) | (simp_all <;> omega))) (show aM_0.Triangles.length ≤ 1073741824 from (by first | assumption | omega | (first | (intro t ht; (try simp at ht); simp only [decide_eq_false_iff_not, Int.not_lt] at *; first | (have q := z0.2.2.2.2 t ht; have q1 := z1.2.1; omega))) | (simp at * <;> omega) | (simp_all <;> omega))) (show ∀ t ∈ aM_0.Triangles, t.length ≤ 1073741824 from (by first | assumption | omega | (first | (intro t ht; (try simp at ht); simp only [decide_eq_false_iff_not, Int.not_lt] at *; first | (have q := z0.2.2.2.2 t ht; have q1 := z1.2.1; omega))) | (simp at * <;> omega) | (simp_all <;> omega)))), (t_laws_toHoldS aHolds_1 (show aHolds_1.length ≤ 1073741824 from (by first | assumption | omega | (first | (intro t ht; (try simp at ht); simp only [decide_eq_false_iff_not, Int.not_lt] at *; first | (have q := z0.2.2.2.2 t ht; have q1 := z1.2.1; omega))) | (simp at * <;> omega) | (simp_all <;> omega)))), (Fn.castA (t_impl_OffHolds (v_laws_toMesh aM_0) (v_laws_toHoldS aHolds_1) (show (v_laws_toMesh aM_0).Places.length ≤ 1073741824 from (by first | assumption | omega | (first | (intro t ht; (try simp at ht); simp only [decide_eq_false_iff_not, Int.not_lt] at *; first | (have q := z0.2.2.2.2 t ht; have q1 := z1.2.1; omega))) | (simp at * <;> omega) | (simp_all <;> omega))) (show (v_laws_toMesh aM_0).Triangles.length ≤ 1073741824 from (by first | assumption | omega | (first | (intro t ht; (try simp at ht); simp only [decide_eq_false_iff_not, Int.not_lt] at *; first | (have q := z0.2.2.2.2 t ht; have q1 := z1.2.1; omega))) | (simp at * <;> omega) | (simp_all <;> omega))) (show ∀ t ∈ (v_laws_toMesh aM_0).Triangles, t.length ≤ 1073741824 from (by first | assumption | omega | (first | (intro t ht; (try simp at ht); simp only [decide_eq_false_iff_not, Int.not_lt] at *; first | (have q := z0.2.2.2.2 t ht; have q1 := z1.2.1; omega))) | (simp at * <;> omega) | (simp_all <;> omega))) (show (v_laws_toHoldS aHolds_1).length ≤ 1073741824 from (by first | assumption | omega | (first | (intro t ht; (try simp at ht); simp only [decide_eq_false_iff_not, Int.not_lt] at *; first | (have q := z0.2.2.2.2 t ht; have q1 := z1.2.1; omega))) | (simp at * <;> omega) | (simp_all <;> omega)))) (by simp [cL, Function.comp_def])), (widenOk _), (widenOk _), (t_laws_sameFloat (fcv .f32 .f64 ((v_impl_OffHolds (v_laws_toMesh aM_0) (v_laws_toHoldS aHolds_1)).1)) (fcv .f32 .f64 ((v_spec_OffHolds (v_laws_toMesh aM_0) (v_laws_toHoldS aHolds_1)).1))), (congrArg not h2), (congrArg not h2), (congrArg not h2), (congrArg not h2), rfl, trivial⟩) rfl) (by simp only [v_laws_FnExactOffHolds, h0, h1, h2, cond_false]) rfl

end Go.Ab
