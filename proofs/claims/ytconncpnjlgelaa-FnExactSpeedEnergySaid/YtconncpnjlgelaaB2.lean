/- The functions of this seat as plain Lean, and that the program's are these. Printed by a program of the prover's own. -/
import Derived.Test.YtconncpnjlgelaaB1
set_option linter.unusedVariables false
set_option maxRecDepth 100000
namespace Go.Ab
open Go.RowKit

@[simp] theorem eq_laws_toMotion (a : GMotion) : v_laws_toMotion a = a := by
  simp [v_laws_toMotion]

/-- spec.l00In -/
def v_spec_l00In (n_0 : Int) (low_1 : Int) (high_2 : Int) : Bool := (cond (decide (n_0 ≥ low_1))
  (decide (n_0 ≤ high_2))
  false)

theorem t_spec_l00In (n_0 : Int) (low_1 : Int) (high_2 : Int)   : Fn Go.Proofs.Try.prog 155 [.i .i64 n_0, .i .i64 low_1, .i .i64 high_2] (.b (v_spec_l00In n_0 low_1 high_2)) [] := by
  cases h0 : (decide (n_0 ≥ low_1)) with
  | true =>
    exact Fn.cast (CallSt.fn (callSt_of_evK (E := E0) E0Ok hMixed (c := bodyOf Go.Proofs.Try.f155) (rows := []) (r := .b (decide (n_0 ≤ high_2))) (rows' := [])
      (ans := [.bo true, .bo true, .bo true, .bo true, .keep []])
      (ps := [])
      (C := [(decide (n_0 ≥ low_1)) = true,
        (decide (n_0 ≥ low_1)) = true,
        (decide (n_0 ≥ low_1)) = true,
        (decide (n_0 ≥ low_1)) = true])
      Go.Proofs.Try.func155 rfl (by kernel_rfl) (by kernel_rfl)
      ⟨h0, h0, h0, h0, trivial⟩) rfl) (by simp only [v_spec_l00In, h0, cond_true]) rfl
  | false =>
    exact Fn.cast (CallSt.fn (callSt_of_evK (E := E0) E0Ok hMixed (c := bodyOf Go.Proofs.Try.f155) (rows := []) (r := .b false) (rows' := [])
      (ans := [.bo false, .bo false, .bo false, .bo false, .keep []])
      (ps := [])
      (C := [(decide (n_0 ≥ low_1)) = false,
        (decide (n_0 ≥ low_1)) = false,
        (decide (n_0 ≥ low_1)) = false,
        (decide (n_0 ≥ low_1)) = false])
      Go.Proofs.Try.func155 rfl (by kernel_rfl) (by kernel_rfl)
      ⟨h0, h0, h0, h0, trivial⟩) rfl) (by simp only [v_spec_l00In, h0, cond_false]) rfl

/-- spec.l02Triangle -/
def v_spec_l02Triangle (t_0 : (List Int)) (n_1 : Int) : Bool := (cond ((t_0.length : Int) != 3)
  false
  (cond ((t_0.getD 0 default) == (t_0.getD 1 default))
    false
    (cond ((t_0.getD 1 default) == (t_0.getD 2 default))
      false
      (cond ((t_0.getD 0 default) == (t_0.getD 2 default))
        false
        (cond (v_spec_l00In (t_0.getD 0 default) 0 (IntKind.wrap .i64 (n_1 - 1)))
          (cond (v_spec_l00In (t_0.getD 1 default) 0 (IntKind.wrap .i64 (n_1 - 1)))
            (v_spec_l00In (t_0.getD 2 default) 0 (IntKind.wrap .i64 (n_1 - 1)))
            false)
          false)))))

theorem t_spec_l02Triangle (t_0 : (List Int)) (n_1 : Int) (hp0 : t_0.length ≤ 1073741824)  : Fn Go.Proofs.Try.prog 125 [.sl (t_0.map (cI .i64)), .i .i64 n_1] (.b (v_spec_l02Triangle t_0 n_1)) [] := by
  cases h0 : ((t_0.length : Int) != 3) with
  | true =>
    exact Fn.cast (CallSt.fn (callSt_of_evK (E := E0) E0Ok hMixed (c := bodyOf Go.Proofs.Try.f125) (rows := []) (r := .b false) (rows' := [])
      (ans := [.keep [28, 28], .num (t_0.length : Int), .bo true, .bo true, .bo true, .bo true, .bo true, .bo true, .bo true, .bo true, .bo true, .bo true, .bo true, .bo true, .bo true, .bo true, .bo true, .bo true, .bo true, .bo true, .bo true, .bo true, .bo true, .bo true, .bo true, .bo true, .bo true, .keep []])
      (ps := [])
      (C := [(((t_0.map (cI .i64)).length : Nat) : Int) = (t_0.length : Int),
        ((t_0.length : Int) != 3) = true,
        ((t_0.length : Int) != 3) = true,
        ((t_0.length : Int) != 3) = true,
        ((t_0.length : Int) != 3) = true,
        ((t_0.length : Int) != 3) = true,
        ((t_0.length : Int) != 3) = true,
        ((t_0.length : Int) != 3) = true,
        ((t_0.length : Int) != 3) = true,
        true = true,
        true = true,
        true = true,
        true = true,
        true = true,
        true = true,
        true = true,
        true = true,
        true = true,
        true = true,
        true = true,
        true = true,
        true = true,
        true = true,
        true = true,
        true = true,
        true = true])
      Go.Proofs.Try.func125 rfl (by kernel_rfl) (by kernel_rfl)
      ⟨len_ok, h0, h0, h0, h0, h0, h0, h0, h0, rfl, rfl, rfl, rfl, rfl, rfl, rfl, rfl, rfl, rfl, rfl, rfl, rfl, rfl, rfl, rfl, rfl, trivial⟩) rfl) (by simp only [v_spec_l02Triangle, h0, cond_true]) rfl
  | false =>
    cases h1 : ((t_0.getD 0 default) == (t_0.getD 1 default)) with
    | true =>
      exact Fn.cast (CallSt.fn (callSt_of_evK (E := E0) E0Ok hMixed (c := bodyOf Go.Proofs.Try.f125) (rows := []) (r := .b false) (rows' := [])
        (ans := [.keep [28, 28], .num (t_0.length : Int), .bo false, .bo false, .el [.i .i64 (t_0.getD 0 default)], .bo false, .bo false, .bo false, .el [.i .i64 (t_0.getD 1 default)], .bo false, .bo false, .bo false, .bo true, .bo true, .bo true, .bo true, .bo true, .bo true, .bo true, .bo true, .bo true, .bo true, .bo true, .bo true, .bo true, .bo true, .bo true, .bo true, .bo true, .keep []])
        (ps := [])
        (C := [(((t_0.map (cI .i64)).length : Nat) : Int) = (t_0.length : Int),
          ((t_0.length : Int) != 3) = false,
          ((t_0.length : Int) != 3) = false,
          0 ≤ 0 ∧ (t_0.map (cI .i64))[Int.toNat 0]? = some [.i .i64 (t_0.getD 0 default)],
          ((t_0.length : Int) != 3) = false,
          ((t_0.length : Int) != 3) = false,
          ((t_0.length : Int) != 3) = false,
          0 ≤ 1 ∧ (t_0.map (cI .i64))[Int.toNat 1]? = some [.i .i64 (t_0.getD 1 default)],
          ((t_0.length : Int) != 3) = false,
          ((t_0.length : Int) != 3) = false,
          ((t_0.length : Int) != 3) = false,
          ((t_0.getD 0 default) == (t_0.getD 1 default)) = true,
          ((t_0.getD 0 default) == (t_0.getD 1 default)) = true,
          ((t_0.getD 0 default) == (t_0.getD 1 default)) = true,
          ((t_0.getD 0 default) == (t_0.getD 1 default)) = true,
          ((t_0.getD 0 default) == (t_0.getD 1 default)) = true,
          ((t_0.getD 0 default) == (t_0.getD 1 default)) = true,
          ((t_0.getD 0 default) == (t_0.getD 1 default)) = true,
          ((t_0.getD 0 default) == (t_0.getD 1 default)) = true,
          true = true,
          true = true,
          true = true,
          true = true,
          true = true,
          true = true,
          true = true,
          true = true,
          true = true])
        Go.Proofs.Try.func125 rfl (by kernel_rfl) (by kernel_rfl)
        ⟨len_ok, h0, h0, (get_ok (by first | assumption | omega | (simp at * <;> omega) | (simp_all <;> omega)) (by first | assumption | omega | (simp at * <;> omega) | (simp_all <;> omega))), h0, h0, h0, (get_ok (by first | assumption | omega | (simp at * <;> omega) | (simp_all <;> omega)) (by first | assumption | omega | (simp at * <;> omega) | (simp_all <;> omega))), h0, h0, h0, h1, h1, h1, h1, h1, h1, h1, h1, rfl, rfl, rfl, rfl, rfl, rfl, rfl, rfl, rfl, trivial⟩) rfl) (by simp only [v_spec_l02Triangle, h0, h1, cond_true, cond_false]) rfl
    | false =>
      cases h2 : ((t_0.getD 1 default) == (t_0.getD 2 default)) with
      | true =>
        exact Fn.cast (CallSt.fn (callSt_of_evK (E := E0) E0Ok hMixed (c := bodyOf Go.Proofs.Try.f125) (rows := []) (r := .b false) (rows' := [])
          (ans := [.keep [28, 28], .num (t_0.length : Int), .bo false, .bo false, .el [.i .i64 (t_0.getD 0 default)], .bo false, .bo false, .bo false, .el [.i .i64 (t_0.getD 1 default)], .bo false, .bo false, .bo false, .bo false, .bo false, .el [.i .i64 (t_0.getD 1 default)], .bo false, .bo false, .bo false, .el [.i .i64 (t_0.getD 2 default)], .bo false, .bo false, .bo false, .bo true, .bo true, .bo true, .bo true, .bo true, .bo true, .bo true, .bo true, .bo true, .keep []])
          (ps := [])
          (C := [(((t_0.map (cI .i64)).length : Nat) : Int) = (t_0.length : Int),
            ((t_0.length : Int) != 3) = false,
            ((t_0.length : Int) != 3) = false,
            0 ≤ 0 ∧ (t_0.map (cI .i64))[Int.toNat 0]? = some [.i .i64 (t_0.getD 0 default)],
            ((t_0.length : Int) != 3) = false,
            ((t_0.length : Int) != 3) = false,
            ((t_0.length : Int) != 3) = false,
            0 ≤ 1 ∧ (t_0.map (cI .i64))[Int.toNat 1]? = some [.i .i64 (t_0.getD 1 default)],
            ((t_0.length : Int) != 3) = false,
            ((t_0.length : Int) != 3) = false,
            ((t_0.length : Int) != 3) = false,
            ((t_0.getD 0 default) == (t_0.getD 1 default)) = false,
            ((t_0.getD 0 default) == (t_0.getD 1 default)) = false,
            0 ≤ 1 ∧ (t_0.map (cI .i64))[Int.toNat 1]? = some [.i .i64 (t_0.getD 1 default)],
            ((t_0.getD 0 default) == (t_0.getD 1 default)) = false,
            ((t_0.getD 0 default) == (t_0.getD 1 default)) = false,
            ((t_0.getD 0 default) == (t_0.getD 1 default)) = false,
            0 ≤ 2 ∧ (t_0.map (cI .i64))[Int.toNat 2]? = some [.i .i64 (t_0.getD 2 default)],
            ((t_0.getD 0 default) == (t_0.getD 1 default)) = false,
            ((t_0.getD 0 default) == (t_0.getD 1 default)) = false,
            ((t_0.getD 0 default) == (t_0.getD 1 default)) = false,
            ((t_0.getD 1 default) == (t_0.getD 2 default)) = true,
            ((t_0.getD 1 default) == (t_0.getD 2 default)) = true,
            ((t_0.getD 1 default) == (t_0.getD 2 default)) = true,
            ((t_0.getD 1 default) == (t_0.getD 2 default)) = true,
            ((t_0.getD 1 default) == (t_0.getD 2 default)) = true,
            ((t_0.getD 1 default) == (t_0.getD 2 default)) = true,
            ((t_0.getD 1 default) == (t_0.getD 2 default)) = true,
            ((t_0.getD 1 default) == (t_0.getD 2 default)) = true,
            true = true])
          Go.Proofs.Try.func125 rfl (by kernel_rfl) (by kernel_rfl)
          ⟨len_ok, h0, h0, (get_ok (by first | assumption | omega | (simp at * <;> omega) | (simp_all <;> omega)) (by first | assumption | omega | (simp at * <;> omega) | (simp_all <;> omega))), h0, h0, h0, (get_ok (by first | assumption | omega | (simp at * <;> omega) | (simp_all <;> omega)) (by first | assumption | omega | (simp at * <;> omega) | (simp_all <;> omega))), h0, h0, h0, h1, h1, (get_ok (by first | assumption | omega | (simp at * <;> omega) | (simp_all <;> omega)) (by first | assumption | omega | (simp at * <;> omega) | (simp_all <;> omega))), h1, h1, h1, (get_ok (by first | assumption | omega | (simp at * <;> omega) | (simp_all <;> omega)) (by first | assumption | omega | (simp at * <;> omega) | (simp_all <;> omega))), h1, h1, h1, h2, h2, h2, h2, h2, h2, h2, h2, rfl, trivial⟩) rfl) (by simp only [v_spec_l02Triangle, h0, h1, h2, cond_true, cond_false]) rfl
      | false =>
        cases h3 : ((t_0.getD 0 default) == (t_0.getD 2 default)) with
        | true =>
          exact Fn.cast (CallSt.fn (callSt_of_evK (E := E0) E0Ok hMixed (c := bodyOf Go.Proofs.Try.f125) (rows := []) (r := .b false) (rows' := [])
            (ans := [.keep [28, 28], .num (t_0.length : Int), .bo false, .bo false, .el [.i .i64 (t_0.getD 0 default)], .bo false, .bo false, .bo false, .el [.i .i64 (t_0.getD 1 default)], .bo false, .bo false, .bo false, .bo false, .bo false, .el [.i .i64 (t_0.getD 1 default)], .bo false, .bo false, .bo false, .el [.i .i64 (t_0.getD 2 default)], .bo false, .bo false, .bo false, .bo false, .bo false, .el [.i .i64 (t_0.getD 0 default)], .bo false, .bo false, .bo false, .el [.i .i64 (t_0.getD 2 default)], .bo false, .bo false, .bo false, .bo true, .keep []])
            (ps := [])
            (C := [(((t_0.map (cI .i64)).length : Nat) : Int) = (t_0.length : Int),
              ((t_0.length : Int) != 3) = false,
              ((t_0.length : Int) != 3) = false,
              0 ≤ 0 ∧ (t_0.map (cI .i64))[Int.toNat 0]? = some [.i .i64 (t_0.getD 0 default)],
              ((t_0.length : Int) != 3) = false,
              ((t_0.length : Int) != 3) = false,
              ((t_0.length : Int) != 3) = false,
              0 ≤ 1 ∧ (t_0.map (cI .i64))[Int.toNat 1]? = some [.i .i64 (t_0.getD 1 default)],
              ((t_0.length : Int) != 3) = false,
              ((t_0.length : Int) != 3) = false,
              ((t_0.length : Int) != 3) = false,
              ((t_0.getD 0 default) == (t_0.getD 1 default)) = false,
              ((t_0.getD 0 default) == (t_0.getD 1 default)) = false,
              0 ≤ 1 ∧ (t_0.map (cI .i64))[Int.toNat 1]? = some [.i .i64 (t_0.getD 1 default)],
              ((t_0.getD 0 default) == (t_0.getD 1 default)) = false,
              ((t_0.getD 0 default) == (t_0.getD 1 default)) = false,
              ((t_0.getD 0 default) == (t_0.getD 1 default)) = false,
              0 ≤ 2 ∧ (t_0.map (cI .i64))[Int.toNat 2]? = some [.i .i64 (t_0.getD 2 default)],
              ((t_0.getD 0 default) == (t_0.getD 1 default)) = false,
              ((t_0.getD 0 default) == (t_0.getD 1 default)) = false,
              ((t_0.getD 0 default) == (t_0.getD 1 default)) = false,
              ((t_0.getD 1 default) == (t_0.getD 2 default)) = false,
              ((t_0.getD 1 default) == (t_0.getD 2 default)) = false,
              0 ≤ 0 ∧ (t_0.map (cI .i64))[Int.toNat 0]? = some [.i .i64 (t_0.getD 0 default)],
              ((t_0.getD 1 default) == (t_0.getD 2 default)) = false,
              ((t_0.getD 1 default) == (t_0.getD 2 default)) = false,
              ((t_0.getD 1 default) == (t_0.getD 2 default)) = false,
              0 ≤ 2 ∧ (t_0.map (cI .i64))[Int.toNat 2]? = some [.i .i64 (t_0.getD 2 default)],
              ((t_0.getD 1 default) == (t_0.getD 2 default)) = false,
              ((t_0.getD 1 default) == (t_0.getD 2 default)) = false,
              ((t_0.getD 1 default) == (t_0.getD 2 default)) = false,
              ((t_0.getD 0 default) == (t_0.getD 2 default)) = true])
            Go.Proofs.Try.func125 rfl (by kernel_rfl) (by kernel_rfl)
            ⟨len_ok, h0, h0, (get_ok (by first | assumption | omega | (simp at * <;> omega) | (simp_all <;> omega)) (by first | assumption | omega | (simp at * <;> omega) | (simp_all <;> omega))), h0, h0, h0, (get_ok (by first | assumption | omega | (simp at * <;> omega) | (simp_all <;> omega)) (by first | assumption | omega | (simp at * <;> omega) | (simp_all <;> omega))), h0, h0, h0, h1, h1, (get_ok (by first | assumption | omega | (simp at * <;> omega) | (simp_all <;> omega)) (by first | assumption | omega | (simp at * <;> omega) | (simp_all <;> omega))), h1, h1, h1, (get_ok (by first | assumption | omega | (simp at * <;> omega) | (simp_all <;> omega)) (by first | assumption | omega | (simp at * <;> omega) | (simp_all <;> omega))), h1, h1, h1, h2, h2, (get_ok (by first | assumption | omega | (simp at * <;> omega) | (simp_all <;> omega)) (by first | assumption | omega | (simp at * <;> omega) | (simp_all <;> omega))), h2, h2, h2, (get_ok (by first | assumption | omega | (simp at * <;> omega) | (simp_all <;> omega)) (by first | assumption | omega | (simp at * <;> omega) | (simp_all <;> omega))), h2, h2, h2, h3, trivial⟩) rfl) (by simp only [v_spec_l02Triangle, h0, h1, h2, h3, cond_true, cond_false]) rfl
        | false =>
          cases h4 : (v_spec_l00In (t_0.getD 0 default) 0 (IntKind.wrap .i64 (n_1 - 1))) with
          | true =>
            cases h5 : (v_spec_l00In (t_0.getD 1 default) 0 (IntKind.wrap .i64 (n_1 - 1))) with
            | true =>
              exact Fn.cast (CallSt.fn (callSt_of_evK (E := E0) E0Ok hMixed (c := bodyOf Go.Proofs.Try.f125) (rows := []) (r := .b (v_spec_l00In (t_0.getD 2 default) 0 (IntKind.wrap .i64 (n_1 - 1)))) (rows' := [])
                (ans := [.keep [28, 28], .num (t_0.length : Int), .bo false, .bo false, .el [.i .i64 (t_0.getD 0 default)], .bo false, .bo false, .bo false, .el [.i .i64 (t_0.getD 1 default)], .bo false, .bo false, .bo false, .bo false, .bo false, .el [.i .i64 (t_0.getD 1 default)], .bo false, .bo false, .bo false, .el [.i .i64 (t_0.getD 2 default)], .bo false, .bo false, .bo false, .bo false, .bo false, .el [.i .i64 (t_0.getD 0 default)], .bo false, .bo false, .bo false, .el [.i .i64 (t_0.getD 2 default)], .bo false, .bo false, .bo false, .bo false, .el [.i .i64 (t_0.getD 0 default)], .num (IntKind.wrap .i64 (n_1 - 1)), .call (.b (v_spec_l00In (t_0.getD 0 default) 0 (IntKind.wrap .i64 (n_1 - 1)))) [], .bo true, .bo true, .el [.i .i64 (t_0.getD 1 default)], .bo true, .bo true, .bo true, .num (IntKind.wrap .i64 (n_1 - 1)), .bo true, .call (.b (v_spec_l00In (t_0.getD 1 default) 0 (IntKind.wrap .i64 (n_1 - 1)))) [], .bo true, .bo true, .bo true, .el [.i .i64 (t_0.getD 2 default)], .bo true, .bo true, .bo true, .num (IntKind.wrap .i64 (n_1 - 1)), .bo true, .call (.b (v_spec_l00In (t_0.getD 2 default) 0 (IntKind.wrap .i64 (n_1 - 1)))) [], .bo true, .keep []])
                (ps := [])
                (C := [(((t_0.map (cI .i64)).length : Nat) : Int) = (t_0.length : Int),
                  ((t_0.length : Int) != 3) = false,
                  ((t_0.length : Int) != 3) = false,
                  0 ≤ 0 ∧ (t_0.map (cI .i64))[Int.toNat 0]? = some [.i .i64 (t_0.getD 0 default)],
                  ((t_0.length : Int) != 3) = false,
                  ((t_0.length : Int) != 3) = false,
                  ((t_0.length : Int) != 3) = false,
                  0 ≤ 1 ∧ (t_0.map (cI .i64))[Int.toNat 1]? = some [.i .i64 (t_0.getD 1 default)],
                  ((t_0.length : Int) != 3) = false,
                  ((t_0.length : Int) != 3) = false,
                  ((t_0.length : Int) != 3) = false,
                  ((t_0.getD 0 default) == (t_0.getD 1 default)) = false,
                  ((t_0.getD 0 default) == (t_0.getD 1 default)) = false,
                  0 ≤ 1 ∧ (t_0.map (cI .i64))[Int.toNat 1]? = some [.i .i64 (t_0.getD 1 default)],
                  ((t_0.getD 0 default) == (t_0.getD 1 default)) = false,
                  ((t_0.getD 0 default) == (t_0.getD 1 default)) = false,
                  ((t_0.getD 0 default) == (t_0.getD 1 default)) = false,
                  0 ≤ 2 ∧ (t_0.map (cI .i64))[Int.toNat 2]? = some [.i .i64 (t_0.getD 2 default)],
                  ((t_0.getD 0 default) == (t_0.getD 1 default)) = false,
                  ((t_0.getD 0 default) == (t_0.getD 1 default)) = false,
                  ((t_0.getD 0 default) == (t_0.getD 1 default)) = false,
                  ((t_0.getD 1 default) == (t_0.getD 2 default)) = false,
                  ((t_0.getD 1 default) == (t_0.getD 2 default)) = false,
                  0 ≤ 0 ∧ (t_0.map (cI .i64))[Int.toNat 0]? = some [.i .i64 (t_0.getD 0 default)],
                  ((t_0.getD 1 default) == (t_0.getD 2 default)) = false,
                  ((t_0.getD 1 default) == (t_0.getD 2 default)) = false,
                  ((t_0.getD 1 default) == (t_0.getD 2 default)) = false,
                  0 ≤ 2 ∧ (t_0.map (cI .i64))[Int.toNat 2]? = some [.i .i64 (t_0.getD 2 default)],
                  ((t_0.getD 1 default) == (t_0.getD 2 default)) = false,
                  ((t_0.getD 1 default) == (t_0.getD 2 default)) = false,
                  ((t_0.getD 1 default) == (t_0.getD 2 default)) = false,
                  ((t_0.getD 0 default) == (t_0.getD 2 default)) = false,
                  0 ≤ 0 ∧ (t_0.map (cI .i64))[Int.toNat 0]? = some [.i .i64 (t_0.getD 0 default)],
                  IntKind.wrap .i64 (n_1 - 1) = (IntKind.wrap .i64 (n_1 - 1)),
                  Fn Go.Proofs.Try.prog 155 [.i .i64 (t_0.getD 0 default), .i .i64 0, .i .i64 (IntKind.wrap .i64 (n_1 - 1))] (.b (v_spec_l00In (t_0.getD 0 default) 0 (IntKind.wrap .i64 (n_1 - 1)))) [],
                  (v_spec_l00In (t_0.getD 0 default) 0 (IntKind.wrap .i64 (n_1 - 1))) = true,
                  (v_spec_l00In (t_0.getD 0 default) 0 (IntKind.wrap .i64 (n_1 - 1))) = true,
                  0 ≤ 1 ∧ (t_0.map (cI .i64))[Int.toNat 1]? = some [.i .i64 (t_0.getD 1 default)],
                  (v_spec_l00In (t_0.getD 0 default) 0 (IntKind.wrap .i64 (n_1 - 1))) = true,
                  (v_spec_l00In (t_0.getD 0 default) 0 (IntKind.wrap .i64 (n_1 - 1))) = true,
                  (v_spec_l00In (t_0.getD 0 default) 0 (IntKind.wrap .i64 (n_1 - 1))) = true,
                  IntKind.wrap .i64 (n_1 - 1) = (IntKind.wrap .i64 (n_1 - 1)),
                  (v_spec_l00In (t_0.getD 0 default) 0 (IntKind.wrap .i64 (n_1 - 1))) = true,
                  Fn Go.Proofs.Try.prog 155 [.i .i64 (t_0.getD 1 default), .i .i64 0, .i .i64 (IntKind.wrap .i64 (n_1 - 1))] (.b (v_spec_l00In (t_0.getD 1 default) 0 (IntKind.wrap .i64 (n_1 - 1)))) [],
                  (v_spec_l00In (t_0.getD 0 default) 0 (IntKind.wrap .i64 (n_1 - 1))) = true,
                  (v_spec_l00In (t_0.getD 1 default) 0 (IntKind.wrap .i64 (n_1 - 1))) = true,
                  (v_spec_l00In (t_0.getD 1 default) 0 (IntKind.wrap .i64 (n_1 - 1))) = true,
                  0 ≤ 2 ∧ (t_0.map (cI .i64))[Int.toNat 2]? = some [.i .i64 (t_0.getD 2 default)],
                  (v_spec_l00In (t_0.getD 1 default) 0 (IntKind.wrap .i64 (n_1 - 1))) = true,
                  (v_spec_l00In (t_0.getD 1 default) 0 (IntKind.wrap .i64 (n_1 - 1))) = true,
                  (v_spec_l00In (t_0.getD 1 default) 0 (IntKind.wrap .i64 (n_1 - 1))) = true,
                  IntKind.wrap .i64 (n_1 - 1) = (IntKind.wrap .i64 (n_1 - 1)),
                  (v_spec_l00In (t_0.getD 1 default) 0 (IntKind.wrap .i64 (n_1 - 1))) = true,
                  Fn Go.Proofs.Try.prog 155 [.i .i64 (t_0.getD 2 default), .i .i64 0, .i .i64 (IntKind.wrap .i64 (n_1 - 1))] (.b (v_spec_l00In (t_0.getD 2 default) 0 (IntKind.wrap .i64 (n_1 - 1)))) [],
                  (v_spec_l00In (t_0.getD 1 default) 0 (IntKind.wrap .i64 (n_1 - 1))) = true])
                Go.Proofs.Try.func125 rfl (by kernel_rfl) (by kernel_rfl)
                ⟨len_ok, h0, h0, (get_ok (by first | assumption | omega | (simp at * <;> omega) | (simp_all <;> omega)) (by first | assumption | omega | (simp at * <;> omega) | (simp_all <;> omega))), h0, h0, h0, (get_ok (by first | assumption | omega | (simp at * <;> omega) | (simp_all <;> omega)) (by first | assumption | omega | (simp at * <;> omega) | (simp_all <;> omega))), h0, h0, h0, h1, h1, (get_ok (by first | assumption | omega | (simp at * <;> omega) | (simp_all <;> omega)) (by first | assumption | omega | (simp at * <;> omega) | (simp_all <;> omega))), h1, h1, h1, (get_ok (by first | assumption | omega | (simp at * <;> omega) | (simp_all <;> omega)) (by first | assumption | omega | (simp at * <;> omega) | (simp_all <;> omega))), h1, h1, h1, h2, h2, (get_ok (by first | assumption | omega | (simp at * <;> omega) | (simp_all <;> omega)) (by first | assumption | omega | (simp at * <;> omega) | (simp_all <;> omega))), h2, h2, h2, (get_ok (by first | assumption | omega | (simp at * <;> omega) | (simp_all <;> omega)) (by first | assumption | omega | (simp at * <;> omega) | (simp_all <;> omega))), h2, h2, h2, h3, (get_ok (by first | assumption | omega | (simp at * <;> omega) | (simp_all <;> omega)) (by first | assumption | omega | (simp at * <;> omega) | (simp_all <;> omega))), rfl, (t_spec_l00In (t_0.getD 0 default) 0 (IntKind.wrap .i64 (n_1 - 1))), h4, h4, (get_ok (by first | assumption | omega | (simp at * <;> omega) | (simp_all <;> omega)) (by first | assumption | omega | (simp at * <;> omega) | (simp_all <;> omega))), h4, h4, h4, rfl, h4, (t_spec_l00In (t_0.getD 1 default) 0 (IntKind.wrap .i64 (n_1 - 1))), h4, h5, h5, (get_ok (by first | assumption | omega | (simp at * <;> omega) | (simp_all <;> omega)) (by first | assumption | omega | (simp at * <;> omega) | (simp_all <;> omega))), h5, h5, h5, rfl, h5, (t_spec_l00In (t_0.getD 2 default) 0 (IntKind.wrap .i64 (n_1 - 1))), h5, trivial⟩) rfl) (by simp only [v_spec_l02Triangle, h0, h1, h2, h3, h4, h5, cond_true, cond_false]) rfl
            | false =>
              exact Fn.cast (CallSt.fn (callSt_of_evK (E := E0) E0Ok hMixed (c := bodyOf Go.Proofs.Try.f125) (rows := []) (r := .b false) (rows' := [])
                (ans := [.keep [28, 28], .num (t_0.length : Int), .bo false, .bo false, .el [.i .i64 (t_0.getD 0 default)], .bo false, .bo false, .bo false, .el [.i .i64 (t_0.getD 1 default)], .bo false, .bo false, .bo false, .bo false, .bo false, .el [.i .i64 (t_0.getD 1 default)], .bo false, .bo false, .bo false, .el [.i .i64 (t_0.getD 2 default)], .bo false, .bo false, .bo false, .bo false, .bo false, .el [.i .i64 (t_0.getD 0 default)], .bo false, .bo false, .bo false, .el [.i .i64 (t_0.getD 2 default)], .bo false, .bo false, .bo false, .bo false, .el [.i .i64 (t_0.getD 0 default)], .num (IntKind.wrap .i64 (n_1 - 1)), .call (.b (v_spec_l00In (t_0.getD 0 default) 0 (IntKind.wrap .i64 (n_1 - 1)))) [], .bo true, .bo true, .el [.i .i64 (t_0.getD 1 default)], .bo true, .bo true, .bo true, .num (IntKind.wrap .i64 (n_1 - 1)), .bo true, .call (.b (v_spec_l00In (t_0.getD 1 default) 0 (IntKind.wrap .i64 (n_1 - 1)))) [], .bo true, .bo false, .bo false, .bo false, .bo false, .bo false, .bo false, .bo false, .keep []])
                (ps := [])
                (C := [(((t_0.map (cI .i64)).length : Nat) : Int) = (t_0.length : Int),
                  ((t_0.length : Int) != 3) = false,
                  ((t_0.length : Int) != 3) = false,
                  0 ≤ 0 ∧ (t_0.map (cI .i64))[Int.toNat 0]? = some [.i .i64 (t_0.getD 0 default)],
                  ((t_0.length : Int) != 3) = false,
                  ((t_0.length : Int) != 3) = false,
                  ((t_0.length : Int) != 3) = false,
                  0 ≤ 1 ∧ (t_0.map (cI .i64))[Int.toNat 1]? = some [.i .i64 (t_0.getD 1 default)],
                  ((t_0.length : Int) != 3) = false,
                  ((t_0.length : Int) != 3) = false,
                  ((t_0.length : Int) != 3) = false,
                  ((t_0.getD 0 default) == (t_0.getD 1 default)) = false,
                  ((t_0.getD 0 default) == (t_0.getD 1 default)) = false,
                  0 ≤ 1 ∧ (t_0.map (cI .i64))[Int.toNat 1]? = some [.i .i64 (t_0.getD 1 default)],
                  ((t_0.getD 0 default) == (t_0.getD 1 default)) = false,
                  ((t_0.getD 0 default) == (t_0.getD 1 default)) = false,
                  ((t_0.getD 0 default) == (t_0.getD 1 default)) = false,
                  0 ≤ 2 ∧ (t_0.map (cI .i64))[Int.toNat 2]? = some [.i .i64 (t_0.getD 2 default)],
                  ((t_0.getD 0 default) == (t_0.getD 1 default)) = false,
                  ((t_0.getD 0 default) == (t_0.getD 1 default)) = false,
                  ((t_0.getD 0 default) == (t_0.getD 1 default)) = false,
                  ((t_0.getD 1 default) == (t_0.getD 2 default)) = false,
                  ((t_0.getD 1 default) == (t_0.getD 2 default)) = false,
                  0 ≤ 0 ∧ (t_0.map (cI .i64))[Int.toNat 0]? = some [.i .i64 (t_0.getD 0 default)],
                  ((t_0.getD 1 default) == (t_0.getD 2 default)) = false,
                  ((t_0.getD 1 default) == (t_0.getD 2 default)) = false,
                  ((t_0.getD 1 default) == (t_0.getD 2 default)) = false,
                  0 ≤ 2 ∧ (t_0.map (cI .i64))[Int.toNat 2]? = some [.i .i64 (t_0.getD 2 default)],
                  ((t_0.getD 1 default) == (t_0.getD 2 default)) = false,
                  ((t_0.getD 1 default) == (t_0.getD 2 default)) = false,
                  ((t_0.getD 1 default) == (t_0.getD 2 default)) = false,
                  ((t_0.getD 0 default) == (t_0.getD 2 default)) = false,
                  0 ≤ 0 ∧ (t_0.map (cI .i64))[Int.toNat 0]? = some [.i .i64 (t_0.getD 0 default)],
                  IntKind.wrap .i64 (n_1 - 1) = (IntKind.wrap .i64 (n_1 - 1)),
                  Fn Go.Proofs.Try.prog 155 [.i .i64 (t_0.getD 0 default), .i .i64 0, .i .i64 (IntKind.wrap .i64 (n_1 - 1))] (.b (v_spec_l00In (t_0.getD 0 default) 0 (IntKind.wrap .i64 (n_1 - 1)))) [],
                  (v_spec_l00In (t_0.getD 0 default) 0 (IntKind.wrap .i64 (n_1 - 1))) = true,
                  (v_spec_l00In (t_0.getD 0 default) 0 (IntKind.wrap .i64 (n_1 - 1))) = true,
                  0 ≤ 1 ∧ (t_0.map (cI .i64))[Int.toNat 1]? = some [.i .i64 (t_0.getD 1 default)],
                  (v_spec_l00In (t_0.getD 0 default) 0 (IntKind.wrap .i64 (n_1 - 1))) = true,
                  (v_spec_l00In (t_0.getD 0 default) 0 (IntKind.wrap .i64 (n_1 - 1))) = true,
                  (v_spec_l00In (t_0.getD 0 default) 0 (IntKind.wrap .i64 (n_1 - 1))) = true,
                  IntKind.wrap .i64 (n_1 - 1) = (IntKind.wrap .i64 (n_1 - 1)),
                  (v_spec_l00In (t_0.getD 0 default) 0 (IntKind.wrap .i64 (n_1 - 1))) = true,
                  Fn Go.Proofs.Try.prog 155 [.i .i64 (t_0.getD 1 default), .i .i64 0, .i .i64 (IntKind.wrap .i64 (n_1 - 1))] (.b (v_spec_l00In (t_0.getD 1 default) 0 (IntKind.wrap .i64 (n_1 - 1)))) [],
                  (v_spec_l00In (t_0.getD 0 default) 0 (IntKind.wrap .i64 (n_1 - 1))) = true,
                  (v_spec_l00In (t_0.getD 1 default) 0 (IntKind.wrap .i64 (n_1 - 1))) = false,
                  (v_spec_l00In (t_0.getD 1 default) 0 (IntKind.wrap .i64 (n_1 - 1))) = false,
                  (v_spec_l00In (t_0.getD 1 default) 0 (IntKind.wrap .i64 (n_1 - 1))) = false,
                  (v_spec_l00In (t_0.getD 1 default) 0 (IntKind.wrap .i64 (n_1 - 1))) = false,
                  (v_spec_l00In (t_0.getD 1 default) 0 (IntKind.wrap .i64 (n_1 - 1))) = false,
                  (v_spec_l00In (t_0.getD 1 default) 0 (IntKind.wrap .i64 (n_1 - 1))) = false,
                  (v_spec_l00In (t_0.getD 1 default) 0 (IntKind.wrap .i64 (n_1 - 1))) = false])
                Go.Proofs.Try.func125 rfl (by kernel_rfl) (by kernel_rfl)
                ⟨len_ok, h0, h0, (get_ok (by first | assumption | omega | (simp at * <;> omega) | (simp_all <;> omega)) (by first | assumption | omega | (simp at * <;> omega) | (simp_all <;> omega))), h0, h0, h0, (get_ok (by first | assumption | omega | (simp at * <;> omega) | (simp_all <;> omega)) (by first | assumption | omega | (simp at * <;> omega) | (simp_all <;> omega))), h0, h0, h0, h1, h1, (get_ok (by first | assumption | omega | (simp at * <;> omega) | (simp_all <;> omega)) (by first | assumption | omega | (simp at * <;> omega) | (simp_all <;> omega))), h1, h1, h1, (get_ok (by first | assumption | omega | (simp at * <;> omega) | (simp_all <;> omega)) (by first | assumption | omega | (simp at * <;> omega) | (simp_all <;> omega))), h1, h1, h1, h2, h2, (get_ok (by first | assumption | omega | (simp at * <;> omega) | (simp_all <;> omega)) (by first | assumption | omega | (simp at * <;> omega) | (simp_all <;> omega))), h2, h2, h2, (get_ok (by first | assumption | omega | (simp at * <;> omega) | (simp_all <;> omega)) (by first | assumption | omega | (simp at * <;> omega) | (simp_all <;> omega))), h2, h2, h2, h3, (get_ok (by first | assumption | omega | (simp at * <;> omega) | (simp_all <;> omega)) (by first | assumption | omega | (simp at * <;> omega) | (simp_all <;> omega))), rfl, (t_spec_l00In (t_0.getD 0 default) 0 (IntKind.wrap .i64 (n_1 - 1))), h4, h4, (get_ok (by first | assumption | omega | (simp at * <;> omega) | (simp_all <;> omega)) (by first | assumption | omega | (simp at * <;> omega) | (simp_all <;> omega))), h4, h4, h4, rfl, h4, (t_spec_l00In (t_0.getD 1 default) 0 (IntKind.wrap .i64 (n_1 - 1))), h4, h5, h5, h5, h5, h5, h5, h5, trivial⟩) rfl) (by simp only [v_spec_l02Triangle, h0, h1, h2, h3, h4, h5, cond_true, cond_false]) rfl
          | false =>
            exact Fn.cast (CallSt.fn (callSt_of_evK (E := E0) E0Ok hMixed (c := bodyOf Go.Proofs.Try.f125) (rows := []) (r := .b false) (rows' := [])
              (ans := [.keep [28, 28], .num (t_0.length : Int), .bo false, .bo false, .el [.i .i64 (t_0.getD 0 default)], .bo false, .bo false, .bo false, .el [.i .i64 (t_0.getD 1 default)], .bo false, .bo false, .bo false, .bo false, .bo false, .el [.i .i64 (t_0.getD 1 default)], .bo false, .bo false, .bo false, .el [.i .i64 (t_0.getD 2 default)], .bo false, .bo false, .bo false, .bo false, .bo false, .el [.i .i64 (t_0.getD 0 default)], .bo false, .bo false, .bo false, .el [.i .i64 (t_0.getD 2 default)], .bo false, .bo false, .bo false, .bo false, .el [.i .i64 (t_0.getD 0 default)], .num (IntKind.wrap .i64 (n_1 - 1)), .call (.b (v_spec_l00In (t_0.getD 0 default) 0 (IntKind.wrap .i64 (n_1 - 1)))) [], .bo false, .bo false, .bo false, .bo false, .bo false, .bo false, .bo false, .bo false, .bo false, .bo false, .bo false, .bo false, .bo false, .bo false, .keep []])
              (ps := [])
              (C := [(((t_0.map (cI .i64)).length : Nat) : Int) = (t_0.length : Int),
                ((t_0.length : Int) != 3) = false,
                ((t_0.length : Int) != 3) = false,
                0 ≤ 0 ∧ (t_0.map (cI .i64))[Int.toNat 0]? = some [.i .i64 (t_0.getD 0 default)],
                ((t_0.length : Int) != 3) = false,
                ((t_0.length : Int) != 3) = false,
                ((t_0.length : Int) != 3) = false,
                0 ≤ 1 ∧ (t_0.map (cI .i64))[Int.toNat 1]? = some [.i .i64 (t_0.getD 1 default)],
                ((t_0.length : Int) != 3) = false,
                ((t_0.length : Int) != 3) = false,
                ((t_0.length : Int) != 3) = false,
                ((t_0.getD 0 default) == (t_0.getD 1 default)) = false,
                ((t_0.getD 0 default) == (t_0.getD 1 default)) = false,
                0 ≤ 1 ∧ (t_0.map (cI .i64))[Int.toNat 1]? = some [.i .i64 (t_0.getD 1 default)],
                ((t_0.getD 0 default) == (t_0.getD 1 default)) = false,
                ((t_0.getD 0 default) == (t_0.getD 1 default)) = false,
                ((t_0.getD 0 default) == (t_0.getD 1 default)) = false,
                0 ≤ 2 ∧ (t_0.map (cI .i64))[Int.toNat 2]? = some [.i .i64 (t_0.getD 2 default)],
                ((t_0.getD 0 default) == (t_0.getD 1 default)) = false,
                ((t_0.getD 0 default) == (t_0.getD 1 default)) = false,
                ((t_0.getD 0 default) == (t_0.getD 1 default)) = false,
                ((t_0.getD 1 default) == (t_0.getD 2 default)) = false,
                ((t_0.getD 1 default) == (t_0.getD 2 default)) = false,
                0 ≤ 0 ∧ (t_0.map (cI .i64))[Int.toNat 0]? = some [.i .i64 (t_0.getD 0 default)],
                ((t_0.getD 1 default) == (t_0.getD 2 default)) = false,
                ((t_0.getD 1 default) == (t_0.getD 2 default)) = false,
                ((t_0.getD 1 default) == (t_0.getD 2 default)) = false,
                0 ≤ 2 ∧ (t_0.map (cI .i64))[Int.toNat 2]? = some [.i .i64 (t_0.getD 2 default)],
                ((t_0.getD 1 default) == (t_0.getD 2 default)) = false,
                ((t_0.getD 1 default) == (t_0.getD 2 default)) = false,
                ((t_0.getD 1 default) == (t_0.getD 2 default)) = false,
                ((t_0.getD 0 default) == (t_0.getD 2 default)) = false,
                0 ≤ 0 ∧ (t_0.map (cI .i64))[Int.toNat 0]? = some [.i .i64 (t_0.getD 0 default)],
                IntKind.wrap .i64 (n_1 - 1) = (IntKind.wrap .i64 (n_1 - 1)),
                Fn Go.Proofs.Try.prog 155 [.i .i64 (t_0.getD 0 default), .i .i64 0, .i .i64 (IntKind.wrap .i64 (n_1 - 1))] (.b (v_spec_l00In (t_0.getD 0 default) 0 (IntKind.wrap .i64 (n_1 - 1)))) [],
                (v_spec_l00In (t_0.getD 0 default) 0 (IntKind.wrap .i64 (n_1 - 1))) = false,
                (v_spec_l00In (t_0.getD 0 default) 0 (IntKind.wrap .i64 (n_1 - 1))) = false,
                (v_spec_l00In (t_0.getD 0 default) 0 (IntKind.wrap .i64 (n_1 - 1))) = false,
                (v_spec_l00In (t_0.getD 0 default) 0 (IntKind.wrap .i64 (n_1 - 1))) = false,
                (v_spec_l00In (t_0.getD 0 default) 0 (IntKind.wrap .i64 (n_1 - 1))) = false,
                (v_spec_l00In (t_0.getD 0 default) 0 (IntKind.wrap .i64 (n_1 - 1))) = false,
                (v_spec_l00In (t_0.getD 0 default) 0 (IntKind.wrap .i64 (n_1 - 1))) = false,
                false = false,
                false = false,
                false = false,
                false = false,
                false = false,
                false = false,
                false = false])
              Go.Proofs.Try.func125 rfl (by kernel_rfl) (by kernel_rfl)
              ⟨len_ok, h0, h0, (get_ok (by first | assumption | omega | (simp at * <;> omega) | (simp_all <;> omega)) (by first | assumption | omega | (simp at * <;> omega) | (simp_all <;> omega))), h0, h0, h0, (get_ok (by first | assumption | omega | (simp at * <;> omega) | (simp_all <;> omega)) (by first | assumption | omega | (simp at * <;> omega) | (simp_all <;> omega))), h0, h0, h0, h1, h1, (get_ok (by first | assumption | omega | (simp at * <;> omega) | (simp_all <;> omega)) (by first | assumption | omega | (simp at * <;> omega) | (simp_all <;> omega))), h1, h1, h1, (get_ok (by first | assumption | omega | (simp at * <;> omega) | (simp_all <;> omega)) (by first | assumption | omega | (simp at * <;> omega) | (simp_all <;> omega))), h1, h1, h1, h2, h2, (get_ok (by first | assumption | omega | (simp at * <;> omega) | (simp_all <;> omega)) (by first | assumption | omega | (simp at * <;> omega) | (simp_all <;> omega))), h2, h2, h2, (get_ok (by first | assumption | omega | (simp at * <;> omega) | (simp_all <;> omega)) (by first | assumption | omega | (simp at * <;> omega) | (simp_all <;> omega))), h2, h2, h2, h3, (get_ok (by first | assumption | omega | (simp at * <;> omega) | (simp_all <;> omega)) (by first | assumption | omega | (simp at * <;> omega) | (simp_all <;> omega))), rfl, (t_spec_l00In (t_0.getD 0 default) 0 (IntKind.wrap .i64 (n_1 - 1))), h4, h4, h4, h4, h4, h4, h4, rfl, rfl, rfl, rfl, rfl, rfl, rfl, trivial⟩) rfl) (by simp only [v_spec_l02Triangle, h0, h1, h2, h3, h4, cond_false]) rfl

def lo_spec_l02Is_1 (m_0 : GMesh) : Nat → Int → (Unit) ⊕ (Unit)
  | 0, _ => .inl default
  | k + 1, i_l0 => (cond (decide (i_l0 < (m_0.Triangles.length : Int)))
    (cond (v_spec_l02Triangle (m_0.Triangles.getD i_l0.toNat default) (m_0.Places.length : Int))
      (lo_spec_l02Is_1 m_0 k (i_l0 + 1))
      (.inl ()))
    (.inr ()))

def ls_spec_l02Is_1 (m_0 : GMesh) : (Unit) ⊕ (Unit) → Ex × St
  | .inl r => (.ret, ⟨[.any, .any, .b false, .any, .any, .any, .any, .any, .any, .any, .any, .any, .any, .any, .any, .any, .any, .any, .any, .any, .any, .any, .any, .any, .any, .any, .any, .any, .any, .any, .any, .any, .any, .any, .any, .any, .any, .any, .any, .any, .any], []⟩)
  | .inr r => ((.exit 0), ⟨[.ref [.sl (m_0.Places.map GVector.cells), .sl (m_0.Triangles.map (cL (cI .i64)))] 0, .any, .any, .any, .ref [.sl (m_0.Places.map GVector.cells), .sl (m_0.Triangles.map (cL (cI .i64)))] 0, .ref [.sl (m_0.Places.map GVector.cells), .sl (m_0.Triangles.map (cL (cI .i64)))] 0, .ref [.sl (m_0.Places.map GVector.cells), .sl (m_0.Triangles.map (cL (cI .i64)))] 0, .sl (m_0.Places.map GVector.cells), .i .i64 (m_0.Places.length : Int), .b (decide ((m_0.Places.length : Int) > 64)), .b (decide ((m_0.Places.length : Int) > 64)), .ref [.sl (m_0.Places.map GVector.cells), .sl (m_0.Triangles.map (cL (cI .i64)))] 0, .ref [.sl (m_0.Places.map GVector.cells), .sl (m_0.Triangles.map (cL (cI .i64)))] 0, .ref [.sl (m_0.Places.map GVector.cells), .sl (m_0.Triangles.map (cL (cI .i64)))] 1, .sl (m_0.Triangles.map (cL (cI .i64))), .i .i64 (m_0.Triangles.length : Int), .b (decide ((m_0.Triangles.length : Int) > 128)), .b (decide ((m_0.Triangles.length : Int) > 128)), .any, .any, .any, .any, .any, .any, .any, .any, .any, .any, .any, .any, .any, .any, .any, .any, .any, .any, .any, .any, .any, .any, .any], []⟩)

theorem lp_spec_l02Is_1 (m_0 : GMesh) (hp0 : m_0.Places.length ≤ 1073741824) (hp1 : m_0.Triangles.length ≤ 1073741824) (hp2 : ∀ t ∈ m_0.Triangles, t.length ≤ 1073741824) (hf_spec_l02Is_1_0 : (decide ((m_0.Places.length : Int) > 64)) = false) (hf_spec_l02Is_1_1 : (decide ((m_0.Triangles.length : Int) > 128)) = false) : ∀ (k : Nat) (i_l0 : Int) (hv_spec_l02Is_1_0 : 0 ≤ i_l0) (hk : ((m_0.Triangles.length : Int) - i_l0).toNat < k), Lp Go.Proofs.Try.prog 0 (sub (bodyOf Go.Proofs.Try.f71) [1, 1, 0, 1, 0, 0]) ⟨[.ref [.sl (m_0.Places.map GVector.cells), .sl (m_0.Triangles.map (cL (cI .i64)))] 0, .any, .any, .i .i64 i_l0, .ref [.sl (m_0.Places.map GVector.cells), .sl (m_0.Triangles.map (cL (cI .i64)))] 0, .ref [.sl (m_0.Places.map GVector.cells), .sl (m_0.Triangles.map (cL (cI .i64)))] 0, .ref [.sl (m_0.Places.map GVector.cells), .sl (m_0.Triangles.map (cL (cI .i64)))] 0, .sl (m_0.Places.map GVector.cells), .i .i64 (m_0.Places.length : Int), .b (decide ((m_0.Places.length : Int) > 64)), .b (decide ((m_0.Places.length : Int) > 64)), .ref [.sl (m_0.Places.map GVector.cells), .sl (m_0.Triangles.map (cL (cI .i64)))] 0, .ref [.sl (m_0.Places.map GVector.cells), .sl (m_0.Triangles.map (cL (cI .i64)))] 0, .ref [.sl (m_0.Places.map GVector.cells), .sl (m_0.Triangles.map (cL (cI .i64)))] 1, .sl (m_0.Triangles.map (cL (cI .i64))), .i .i64 (m_0.Triangles.length : Int), .b (decide ((m_0.Triangles.length : Int) > 128)), .b (decide ((m_0.Triangles.length : Int) > 128)), .any, .any, .any, .any, .any, .any, .any, .any, .any, .any, .any, .any, .any, .any, .any, .any, .any, .any, .any, .any, .any, .any, .any], []⟩ (ls_spec_l02Is_1 m_0 (lo_spec_l02Is_1 m_0 k i_l0)).1 (ls_spec_l02Is_1 m_0 (lo_spec_l02Is_1 m_0 k i_l0)).2 := by
  intro k
  induction k with
  | zero => intro i_l0 hv_spec_l02Is_1_0 hk; exact absurd hk (Nat.not_lt_zero _)
  | succ k ih =>
    intro i_l0 hv_spec_l02Is_1_0 hk
    cases h_0 : (decide (i_l0 < (m_0.Triangles.length : Int))) with
    | true =>
      cases h_1 : (v_spec_l02Triangle (m_0.Triangles.getD i_l0.toNat default) (m_0.Places.length : Int)) with
      | true =>
        have e : lo_spec_l02Is_1 m_0 (k + 1) i_l0 = (lo_spec_l02Is_1 m_0 k (i_l0 + 1)) := by simp only [lo_spec_l02Is_1, h_0, h_1, cond_true]
        rw [e]
        exact stepK_next (E := E0) E0Ok hMixed (body := (sub (bodyOf Go.Proofs.Try.f71) [1, 1, 0, 1, 0, 0])) (st := ⟨[.ref [.sl (m_0.Places.map GVector.cells), .sl (m_0.Triangles.map (cL (cI .i64)))] 0, .any, .any, .i .i64 i_l0, .ref [.sl (m_0.Places.map GVector.cells), .sl (m_0.Triangles.map (cL (cI .i64)))] 0, .ref [.sl (m_0.Places.map GVector.cells), .sl (m_0.Triangles.map (cL (cI .i64)))] 0, .ref [.sl (m_0.Places.map GVector.cells), .sl (m_0.Triangles.map (cL (cI .i64)))] 0, .sl (m_0.Places.map GVector.cells), .i .i64 (m_0.Places.length : Int), .b (decide ((m_0.Places.length : Int) > 64)), .b (decide ((m_0.Places.length : Int) > 64)), .ref [.sl (m_0.Places.map GVector.cells), .sl (m_0.Triangles.map (cL (cI .i64)))] 0, .ref [.sl (m_0.Places.map GVector.cells), .sl (m_0.Triangles.map (cL (cI .i64)))] 0, .ref [.sl (m_0.Places.map GVector.cells), .sl (m_0.Triangles.map (cL (cI .i64)))] 1, .sl (m_0.Triangles.map (cL (cI .i64))), .i .i64 (m_0.Triangles.length : Int), .b (decide ((m_0.Triangles.length : Int) > 128)), .b (decide ((m_0.Triangles.length : Int) > 128)), .any, .any, .any, .any, .any, .any, .any, .any, .any, .any, .any, .any, .any, .any, .any, .any, .any, .any, .any, .any, .any, .any, .any], []⟩)
          (st2 := ⟨[.ref [.sl (m_0.Places.map GVector.cells), .sl (m_0.Triangles.map (cL (cI .i64)))] 0, .any, .any, .i .i64 (i_l0 + 1), .ref [.sl (m_0.Places.map GVector.cells), .sl (m_0.Triangles.map (cL (cI .i64)))] 0, .ref [.sl (m_0.Places.map GVector.cells), .sl (m_0.Triangles.map (cL (cI .i64)))] 0, .ref [.sl (m_0.Places.map GVector.cells), .sl (m_0.Triangles.map (cL (cI .i64)))] 0, .sl (m_0.Places.map GVector.cells), .i .i64 (m_0.Places.length : Int), .b (decide ((m_0.Places.length : Int) > 64)), .b (decide ((m_0.Places.length : Int) > 64)), .ref [.sl (m_0.Places.map GVector.cells), .sl (m_0.Triangles.map (cL (cI .i64)))] 0, .ref [.sl (m_0.Places.map GVector.cells), .sl (m_0.Triangles.map (cL (cI .i64)))] 0, .ref [.sl (m_0.Places.map GVector.cells), .sl (m_0.Triangles.map (cL (cI .i64)))] 1, .sl (m_0.Triangles.map (cL (cI .i64))), .i .i64 (m_0.Triangles.length : Int), .b (decide ((m_0.Triangles.length : Int) > 128)), .b (decide ((m_0.Triangles.length : Int) > 128)), .any, .any, .any, .any, .any, .any, .any, .any, .any, .any, .any, .any, .any, .any, .any, .any, .any, .any, .any, .any, .any, .any, .any], []⟩)
          (ans := [.num (m_0.Triangles.length : Int), .bo true, .keep [12, 12], .el [.sl ((m_0.Triangles.getD i_l0.toNat default).map (cI .i64))], .num (m_0.Places.length : Int), .call (.b (v_spec_l02Triangle (m_0.Triangles.getD i_l0.toNat default) (m_0.Places.length : Int))) [], .bo false, .num (i_l0 + 1)])
          (ps := []) (mask := [true, false, false, true, true, true, true, true, true, true, true, true, true, true, true, true, true, true, false, false, false, false, false, false, false, false, false, false, false, false, false, false, false, false, false, false, false, false, false, false, false]) (ks := [])
          (C := [(((m_0.Triangles.map (cL (cI .i64))).length : Nat) : Int) = (m_0.Triangles.length : Int),
            (decide (i_l0 < (m_0.Triangles.length : Int))) = true,
            0 ≤ i_l0 ∧ (m_0.Triangles.map (cL (cI .i64)))[Int.toNat i_l0]? = some [.sl ((m_0.Triangles.getD i_l0.toNat default).map (cI .i64))],
            (((m_0.Places.map GVector.cells).length : Nat) : Int) = (m_0.Places.length : Int),
            Fn Go.Proofs.Try.prog 125 [.sl ((m_0.Triangles.getD i_l0.toNat default).map (cI .i64)), .i .i64 (m_0.Places.length : Int)] (.b (v_spec_l02Triangle (m_0.Triangles.getD i_l0.toNat default) (m_0.Places.length : Int))) [],
            (!(v_spec_l02Triangle (m_0.Triangles.getD i_l0.toNat default) (m_0.Places.length : Int))) = false,
            IntKind.wrap .i64 (i_l0 + 1) = (i_l0 + 1)])
          (by kernel_rfl)
          ⟨len_ok, h_0, (get_ok (by first | assumption | omega | (simp at * <;> omega) | (simp_all <;> omega)) (by first | assumption | omega | (simp at * <;> omega) | (simp_all <;> omega))), len_ok, (t_spec_l02Triangle (m_0.Triangles.getD i_l0.toNat default) (m_0.Places.length : Int) (show (m_0.Triangles.getD i_l0.toNat default).length ≤ 1073741824 from (by first | assumption | omega | (simp at * <;> omega) | (simp_all <;> omega)))), (congrArg not h_1), (wrap_id (by first | assumption | omega | (simp at * <;> omega) | (simp_all <;> omega)) (by first | assumption | omega | (simp at * <;> omega) | (simp_all <;> omega))), trivial⟩
          rfl (ih (i_l0 + 1) (show 0 ≤ (i_l0 + 1) from (by first | assumption | omega | (simp at * <;> omega) | (simp_all <;> omega))) (by first | assumption | omega | (simp at * <;> omega) | (simp_all <;> omega)))
      | false =>
        have e : lo_spec_l02Is_1 m_0 (k + 1) i_l0 = (.inl ()) := by simp only [lo_spec_l02Is_1, h_0, h_1, cond_true, cond_false]
        rw [e]
        exact stepK_out (E := E0) E0Ok hMixed (e := .ret) (body := (sub (bodyOf Go.Proofs.Try.f71) [1, 1, 0, 1, 0, 0])) (st := ⟨[.ref [.sl (m_0.Places.map GVector.cells), .sl (m_0.Triangles.map (cL (cI .i64)))] 0, .any, .any, .i .i64 i_l0, .ref [.sl (m_0.Places.map GVector.cells), .sl (m_0.Triangles.map (cL (cI .i64)))] 0, .ref [.sl (m_0.Places.map GVector.cells), .sl (m_0.Triangles.map (cL (cI .i64)))] 0, .ref [.sl (m_0.Places.map GVector.cells), .sl (m_0.Triangles.map (cL (cI .i64)))] 0, .sl (m_0.Places.map GVector.cells), .i .i64 (m_0.Places.length : Int), .b (decide ((m_0.Places.length : Int) > 64)), .b (decide ((m_0.Places.length : Int) > 64)), .ref [.sl (m_0.Places.map GVector.cells), .sl (m_0.Triangles.map (cL (cI .i64)))] 0, .ref [.sl (m_0.Places.map GVector.cells), .sl (m_0.Triangles.map (cL (cI .i64)))] 0, .ref [.sl (m_0.Places.map GVector.cells), .sl (m_0.Triangles.map (cL (cI .i64)))] 1, .sl (m_0.Triangles.map (cL (cI .i64))), .i .i64 (m_0.Triangles.length : Int), .b (decide ((m_0.Triangles.length : Int) > 128)), .b (decide ((m_0.Triangles.length : Int) > 128)), .any, .any, .any, .any, .any, .any, .any, .any, .any, .any, .any, .any, .any, .any, .any, .any, .any, .any, .any, .any, .any, .any, .any], []⟩)
          (st2 := ⟨[.any, .any, .b false, .any, .any, .any, .any, .any, .any, .any, .any, .any, .any, .any, .any, .any, .any, .any, .any, .any, .any, .any, .any, .any, .any, .any, .any, .any, .any, .any, .any, .any, .any, .any, .any, .any, .any, .any, .any, .any, .any], []⟩)
          (ans := [.num (m_0.Triangles.length : Int), .bo true, .keep [12, 12], .el [.sl ((m_0.Triangles.getD i_l0.toNat default).map (cI .i64))], .num (m_0.Places.length : Int), .call (.b (v_spec_l02Triangle (m_0.Triangles.getD i_l0.toNat default) (m_0.Places.length : Int))) [], .bo true])
          (ps := []) (mask := [false, false, true, false, false, false, false, false, false, false, false, false, false, false, false, false, false, false, false, false, false, false, false, false, false, false, false, false, false, false, false, false, false, false, false, false, false, false, false, false, false]) (ks := [])
          (C := [(((m_0.Triangles.map (cL (cI .i64))).length : Nat) : Int) = (m_0.Triangles.length : Int),
            (decide (i_l0 < (m_0.Triangles.length : Int))) = true,
            0 ≤ i_l0 ∧ (m_0.Triangles.map (cL (cI .i64)))[Int.toNat i_l0]? = some [.sl ((m_0.Triangles.getD i_l0.toNat default).map (cI .i64))],
            (((m_0.Places.map GVector.cells).length : Nat) : Int) = (m_0.Places.length : Int),
            Fn Go.Proofs.Try.prog 125 [.sl ((m_0.Triangles.getD i_l0.toNat default).map (cI .i64)), .i .i64 (m_0.Places.length : Int)] (.b (v_spec_l02Triangle (m_0.Triangles.getD i_l0.toNat default) (m_0.Places.length : Int))) [],
            (!(v_spec_l02Triangle (m_0.Triangles.getD i_l0.toNat default) (m_0.Places.length : Int))) = true])
          (by kernel_rfl)
          ⟨len_ok, h_0, (get_ok (by first | assumption | omega | (simp at * <;> omega) | (simp_all <;> omega)) (by first | assumption | omega | (simp at * <;> omega) | (simp_all <;> omega))), len_ok, (t_spec_l02Triangle (m_0.Triangles.getD i_l0.toNat default) (m_0.Places.length : Int) (show (m_0.Triangles.getD i_l0.toNat default).length ≤ 1073741824 from (by first | assumption | omega | (simp at * <;> omega) | (simp_all <;> omega)))), (congrArg not h_1), trivial⟩
          (by intro h; cases h) rfl
    | false =>
      have e : lo_spec_l02Is_1 m_0 (k + 1) i_l0 = (.inr ()) := by simp only [lo_spec_l02Is_1, h_0, cond_false]
      rw [e]
      exact stepK_out (E := E0) E0Ok hMixed (e := (.exit 0)) (body := (sub (bodyOf Go.Proofs.Try.f71) [1, 1, 0, 1, 0, 0])) (st := ⟨[.ref [.sl (m_0.Places.map GVector.cells), .sl (m_0.Triangles.map (cL (cI .i64)))] 0, .any, .any, .i .i64 i_l0, .ref [.sl (m_0.Places.map GVector.cells), .sl (m_0.Triangles.map (cL (cI .i64)))] 0, .ref [.sl (m_0.Places.map GVector.cells), .sl (m_0.Triangles.map (cL (cI .i64)))] 0, .ref [.sl (m_0.Places.map GVector.cells), .sl (m_0.Triangles.map (cL (cI .i64)))] 0, .sl (m_0.Places.map GVector.cells), .i .i64 (m_0.Places.length : Int), .b (decide ((m_0.Places.length : Int) > 64)), .b (decide ((m_0.Places.length : Int) > 64)), .ref [.sl (m_0.Places.map GVector.cells), .sl (m_0.Triangles.map (cL (cI .i64)))] 0, .ref [.sl (m_0.Places.map GVector.cells), .sl (m_0.Triangles.map (cL (cI .i64)))] 0, .ref [.sl (m_0.Places.map GVector.cells), .sl (m_0.Triangles.map (cL (cI .i64)))] 1, .sl (m_0.Triangles.map (cL (cI .i64))), .i .i64 (m_0.Triangles.length : Int), .b (decide ((m_0.Triangles.length : Int) > 128)), .b (decide ((m_0.Triangles.length : Int) > 128)), .any, .any, .any, .any, .any, .any, .any, .any, .any, .any, .any, .any, .any, .any, .any, .any, .any, .any, .any, .any, .any, .any, .any], []⟩)
        (st2 := ⟨[.ref [.sl (m_0.Places.map GVector.cells), .sl (m_0.Triangles.map (cL (cI .i64)))] 0, .any, .any, .any, .ref [.sl (m_0.Places.map GVector.cells), .sl (m_0.Triangles.map (cL (cI .i64)))] 0, .ref [.sl (m_0.Places.map GVector.cells), .sl (m_0.Triangles.map (cL (cI .i64)))] 0, .ref [.sl (m_0.Places.map GVector.cells), .sl (m_0.Triangles.map (cL (cI .i64)))] 0, .sl (m_0.Places.map GVector.cells), .i .i64 (m_0.Places.length : Int), .b (decide ((m_0.Places.length : Int) > 64)), .b (decide ((m_0.Places.length : Int) > 64)), .ref [.sl (m_0.Places.map GVector.cells), .sl (m_0.Triangles.map (cL (cI .i64)))] 0, .ref [.sl (m_0.Places.map GVector.cells), .sl (m_0.Triangles.map (cL (cI .i64)))] 0, .ref [.sl (m_0.Places.map GVector.cells), .sl (m_0.Triangles.map (cL (cI .i64)))] 1, .sl (m_0.Triangles.map (cL (cI .i64))), .i .i64 (m_0.Triangles.length : Int), .b (decide ((m_0.Triangles.length : Int) > 128)), .b (decide ((m_0.Triangles.length : Int) > 128)), .any, .any, .any, .any, .any, .any, .any, .any, .any, .any, .any, .any, .any, .any, .any, .any, .any, .any, .any, .any, .any, .any, .any], []⟩)
        (ans := [.num (m_0.Triangles.length : Int), .bo false])
        (ps := []) (mask := [true, false, false, false, true, true, true, true, true, true, true, true, true, true, true, true, true, true, false, false, false, false, false, false, false, false, false, false, false, false, false, false, false, false, false, false, false, false, false, false, false]) (ks := [])
        (C := [(((m_0.Triangles.map (cL (cI .i64))).length : Nat) : Int) = (m_0.Triangles.length : Int),
          (decide (i_l0 < (m_0.Triangles.length : Int))) = false])
        (by kernel_rfl)
        ⟨len_ok, h_0, trivial⟩
        (by intro h; cases h) rfl

def lr_spec_l02Is_1_0 (m_0 : GMesh) : (Unit) ⊕ (Unit) := (lo_spec_l02Is_1 m_0 (((m_0.Triangles.length : Int) - 0).toNat + 1) 0)

/-- spec.l02Is -/
def v_spec_l02Is (m_0 : GMesh) : Bool := (cond (decide ((m_0.Places.length : Int) > 64))
  false
  (cond (decide ((m_0.Triangles.length : Int) > 128))
    false
    (match (lr_spec_l02Is_1_0 m_0) with
      | .inl r3 => false
      | .inr r3 => true)))

theorem t_spec_l02Is (m_0 : GMesh) (hp0 : m_0.Places.length ≤ 1073741824) (hp1 : m_0.Triangles.length ≤ 1073741824) (hp2 : ∀ t ∈ m_0.Triangles, t.length ≤ 1073741824)  : Fn Go.Proofs.Try.prog 71 [.ref [.sl (m_0.Places.map GVector.cells), .sl (m_0.Triangles.map (cL (cI .i64)))] 0] (.b (v_spec_l02Is m_0)) [] := by
  cases h0 : (decide ((m_0.Places.length : Int) > 64)) with
  | true =>
    exact Fn.cast (CallSt.fn (callSt_of_evK (E := E0) E0Ok hMixed (c := bodyOf Go.Proofs.Try.f71) (rows := []) (r := .b false) (rows' := [])
      (ans := [.num (m_0.Places.length : Int), .bo true, .bo true, .bo true, .bo true, .bo true, .bo true, .bo true, .bo true, .keep []])
      (ps := [])
      (C := [(((m_0.Places.map GVector.cells).length : Nat) : Int) = (m_0.Places.length : Int),
        (decide ((m_0.Places.length : Int) > 64)) = true,
        (decide ((m_0.Places.length : Int) > 64)) = true,
        (decide ((m_0.Places.length : Int) > 64)) = true,
        (decide ((m_0.Places.length : Int) > 64)) = true,
        (decide ((m_0.Places.length : Int) > 64)) = true,
        (decide ((m_0.Places.length : Int) > 64)) = true,
        (decide ((m_0.Places.length : Int) > 64)) = true,
        true = true])
      Go.Proofs.Try.func71 rfl (by kernel_rfl) (by kernel_rfl)
      ⟨len_ok, h0, h0, h0, h0, h0, h0, h0, rfl, trivial⟩) rfl) (by simp only [v_spec_l02Is, h0, cond_true]) rfl
  | false =>
    cases h1 : (decide ((m_0.Triangles.length : Int) > 128)) with
    | true =>
      exact Fn.cast (CallSt.fn (callSt_of_evK (E := E0) E0Ok hMixed (c := bodyOf Go.Proofs.Try.f71) (rows := []) (r := .b false) (rows' := [])
        (ans := [.num (m_0.Places.length : Int), .bo false, .bo false, .bo false, .bo false, .bo false, .num (m_0.Triangles.length : Int), .bo false, .bo false, .bo true, .keep []])
        (ps := [])
        (C := [(((m_0.Places.map GVector.cells).length : Nat) : Int) = (m_0.Places.length : Int),
          (decide ((m_0.Places.length : Int) > 64)) = false,
          (decide ((m_0.Places.length : Int) > 64)) = false,
          (decide ((m_0.Places.length : Int) > 64)) = false,
          (decide ((m_0.Places.length : Int) > 64)) = false,
          (decide ((m_0.Places.length : Int) > 64)) = false,
          (((m_0.Triangles.map (cL (cI .i64))).length : Nat) : Int) = (m_0.Triangles.length : Int),
          (decide ((m_0.Places.length : Int) > 64)) = false,
          (decide ((m_0.Places.length : Int) > 64)) = false,
          (decide ((m_0.Triangles.length : Int) > 128)) = true])
        Go.Proofs.Try.func71 rfl (by kernel_rfl) (by kernel_rfl)
        ⟨len_ok, h0, h0, h0, h0, h0, len_ok, h0, h0, h1, trivial⟩) rfl) (by simp only [v_spec_l02Is, h0, h1, cond_true, cond_false]) rfl
    | false =>
      cases h2 : (lr_spec_l02Is_1_0 m_0) with
      | inl r3 =>
        exact Fn.cast (CallSt.fn (callSt_of_evK (E := E0) E0Ok hMixed (c := bodyOf Go.Proofs.Try.f71) (rows := []) (r := .b false) (rows' := [])
          (ans := [.num (m_0.Places.length : Int), .bo false, .bo false, .bo false, .bo false, .bo false, .num (m_0.Triangles.length : Int), .bo false, .bo false, .bo false, .loop [true, false, false, true, true, true, true, true, true, true, true, true, true, true, true, true, true, true, false, false, false, false, false, false, false, false, false, false, false, false, false, false, false, false, false, false, false, false, false, false, false] 0 .ret ⟨[.any, .any, .b false, .any, .any, .any, .any, .any, .any, .any, .any, .any, .any, .any, .any, .any, .any, .any, .any, .any, .any, .any, .any, .any, .any, .any, .any, .any, .any, .any, .any, .any, .any, .any, .any, .any, .any, .any, .any, .any, .any], []⟩, .keep []])
          (ps := [])
          (C := [(((m_0.Places.map GVector.cells).length : Nat) : Int) = (m_0.Places.length : Int),
            (decide ((m_0.Places.length : Int) > 64)) = false,
            (decide ((m_0.Places.length : Int) > 64)) = false,
            (decide ((m_0.Places.length : Int) > 64)) = false,
            (decide ((m_0.Places.length : Int) > 64)) = false,
            (decide ((m_0.Places.length : Int) > 64)) = false,
            (((m_0.Triangles.map (cL (cI .i64))).length : Nat) : Int) = (m_0.Triangles.length : Int),
            (decide ((m_0.Places.length : Int) > 64)) = false,
            (decide ((m_0.Places.length : Int) > 64)) = false,
            (decide ((m_0.Triangles.length : Int) > 128)) = false,
            Lp Go.Proofs.Try.prog 0 (sub (bodyOf Go.Proofs.Try.f71) [1, 1, 0, 1, 0, 0]) ⟨[.ref [.sl (m_0.Places.map GVector.cells), .sl (m_0.Triangles.map (cL (cI .i64)))] 0, .any, .any, .i .i64 0, .ref [.sl (m_0.Places.map GVector.cells), .sl (m_0.Triangles.map (cL (cI .i64)))] 0, .ref [.sl (m_0.Places.map GVector.cells), .sl (m_0.Triangles.map (cL (cI .i64)))] 0, .ref [.sl (m_0.Places.map GVector.cells), .sl (m_0.Triangles.map (cL (cI .i64)))] 0, .sl (m_0.Places.map GVector.cells), .i .i64 (m_0.Places.length : Int), .b (decide ((m_0.Places.length : Int) > 64)), .b (decide ((m_0.Places.length : Int) > 64)), .ref [.sl (m_0.Places.map GVector.cells), .sl (m_0.Triangles.map (cL (cI .i64)))] 0, .ref [.sl (m_0.Places.map GVector.cells), .sl (m_0.Triangles.map (cL (cI .i64)))] 0, .ref [.sl (m_0.Places.map GVector.cells), .sl (m_0.Triangles.map (cL (cI .i64)))] 1, .sl (m_0.Triangles.map (cL (cI .i64))), .i .i64 (m_0.Triangles.length : Int), .b (decide ((m_0.Triangles.length : Int) > 128)), .b (decide ((m_0.Triangles.length : Int) > 128)), .any, .any, .any, .any, .any, .any, .any, .any, .any, .any, .any, .any, .any, .any, .any, .any, .any, .any, .any, .any, .any, .any, .any], []⟩ .ret ⟨[.any, .any, .b false, .any, .any, .any, .any, .any, .any, .any, .any, .any, .any, .any, .any, .any, .any, .any, .any, .any, .any, .any, .any, .any, .any, .any, .any, .any, .any, .any, .any, .any, .any, .any, .any, .any, .any, .any, .any, .any, .any], []⟩])
          Go.Proofs.Try.func71 rfl (by kernel_rfl) (by kernel_rfl)
          ⟨len_ok, h0, h0, h0, h0, h0, len_ok, h0, h0, h1, (by have q := (lp_spec_l02Is_1 m_0 hp0 hp1 hp2 h0 h1 (((m_0.Triangles.length : Int) - 0).toNat + 1) 0 (show 0 ≤ 0 from (by first | assumption | omega | (simp at * <;> omega) | (simp_all <;> omega))) (Nat.lt_succ_self _)); rw [show (lo_spec_l02Is_1 m_0 (((m_0.Triangles.length : Int) - 0).toNat + 1) 0) = _ from rfl] at q; rw [show (lo_spec_l02Is_1 m_0 (((m_0.Triangles.length : Int) - 0).toNat + 1) 0) = (lr_spec_l02Is_1_0 m_0) from rfl, h2] at q; exact q), trivial⟩) rfl) (by simp only [v_spec_l02Is, h0, h1, h2, cond_false]) rfl
      | inr r3 =>
        exact Fn.cast (CallSt.fn (callSt_of_evK (E := E0) E0Ok hMixed (c := bodyOf Go.Proofs.Try.f71) (rows := []) (r := .b true) (rows' := [])
          (ans := [.num (m_0.Places.length : Int), .bo false, .bo false, .bo false, .bo false, .bo false, .num (m_0.Triangles.length : Int), .bo false, .bo false, .bo false, .loop [true, false, false, true, true, true, true, true, true, true, true, true, true, true, true, true, true, true, false, false, false, false, false, false, false, false, false, false, false, false, false, false, false, false, false, false, false, false, false, false, false] 0 (.exit 0) ⟨[.ref [.sl (m_0.Places.map GVector.cells), .sl (m_0.Triangles.map (cL (cI .i64)))] 0, .any, .any, .any, .ref [.sl (m_0.Places.map GVector.cells), .sl (m_0.Triangles.map (cL (cI .i64)))] 0, .ref [.sl (m_0.Places.map GVector.cells), .sl (m_0.Triangles.map (cL (cI .i64)))] 0, .ref [.sl (m_0.Places.map GVector.cells), .sl (m_0.Triangles.map (cL (cI .i64)))] 0, .sl (m_0.Places.map GVector.cells), .i .i64 (m_0.Places.length : Int), .b (decide ((m_0.Places.length : Int) > 64)), .b (decide ((m_0.Places.length : Int) > 64)), .ref [.sl (m_0.Places.map GVector.cells), .sl (m_0.Triangles.map (cL (cI .i64)))] 0, .ref [.sl (m_0.Places.map GVector.cells), .sl (m_0.Triangles.map (cL (cI .i64)))] 0, .ref [.sl (m_0.Places.map GVector.cells), .sl (m_0.Triangles.map (cL (cI .i64)))] 1, .sl (m_0.Triangles.map (cL (cI .i64))), .i .i64 (m_0.Triangles.length : Int), .b (decide ((m_0.Triangles.length : Int) > 128)), .b (decide ((m_0.Triangles.length : Int) > 128)), .any, .any, .any, .any, .any, .any, .any, .any, .any, .any, .any, .any, .any, .any, .any, .any, .any, .any, .any, .any, .any, .any, .any], []⟩, .keep []])
          (ps := [])
          (C := [(((m_0.Places.map GVector.cells).length : Nat) : Int) = (m_0.Places.length : Int),
            (decide ((m_0.Places.length : Int) > 64)) = false,
            (decide ((m_0.Places.length : Int) > 64)) = false,
            (decide ((m_0.Places.length : Int) > 64)) = false,
            (decide ((m_0.Places.length : Int) > 64)) = false,
            (decide ((m_0.Places.length : Int) > 64)) = false,
            (((m_0.Triangles.map (cL (cI .i64))).length : Nat) : Int) = (m_0.Triangles.length : Int),
            (decide ((m_0.Places.length : Int) > 64)) = false,
            (decide ((m_0.Places.length : Int) > 64)) = false,
            (decide ((m_0.Triangles.length : Int) > 128)) = false,
            Lp Go.Proofs.Try.prog 0 (sub (bodyOf Go.Proofs.Try.f71) [1, 1, 0, 1, 0, 0]) ⟨[.ref [.sl (m_0.Places.map GVector.cells), .sl (m_0.Triangles.map (cL (cI .i64)))] 0, .any, .any, .i .i64 0, .ref [.sl (m_0.Places.map GVector.cells), .sl (m_0.Triangles.map (cL (cI .i64)))] 0, .ref [.sl (m_0.Places.map GVector.cells), .sl (m_0.Triangles.map (cL (cI .i64)))] 0, .ref [.sl (m_0.Places.map GVector.cells), .sl (m_0.Triangles.map (cL (cI .i64)))] 0, .sl (m_0.Places.map GVector.cells), .i .i64 (m_0.Places.length : Int), .b (decide ((m_0.Places.length : Int) > 64)), .b (decide ((m_0.Places.length : Int) > 64)), .ref [.sl (m_0.Places.map GVector.cells), .sl (m_0.Triangles.map (cL (cI .i64)))] 0, .ref [.sl (m_0.Places.map GVector.cells), .sl (m_0.Triangles.map (cL (cI .i64)))] 0, .ref [.sl (m_0.Places.map GVector.cells), .sl (m_0.Triangles.map (cL (cI .i64)))] 1, .sl (m_0.Triangles.map (cL (cI .i64))), .i .i64 (m_0.Triangles.length : Int), .b (decide ((m_0.Triangles.length : Int) > 128)), .b (decide ((m_0.Triangles.length : Int) > 128)), .any, .any, .any, .any, .any, .any, .any, .any, .any, .any, .any, .any, .any, .any, .any, .any, .any, .any, .any, .any, .any, .any, .any], []⟩ (.exit 0) ⟨[.ref [.sl (m_0.Places.map GVector.cells), .sl (m_0.Triangles.map (cL (cI .i64)))] 0, .any, .any, .any, .ref [.sl (m_0.Places.map GVector.cells), .sl (m_0.Triangles.map (cL (cI .i64)))] 0, .ref [.sl (m_0.Places.map GVector.cells), .sl (m_0.Triangles.map (cL (cI .i64)))] 0, .ref [.sl (m_0.Places.map GVector.cells), .sl (m_0.Triangles.map (cL (cI .i64)))] 0, .sl (m_0.Places.map GVector.cells), .i .i64 (m_0.Places.length : Int), .b (decide ((m_0.Places.length : Int) > 64)), .b (decide ((m_0.Places.length : Int) > 64)), .ref [.sl (m_0.Places.map GVector.cells), .sl (m_0.Triangles.map (cL (cI .i64)))] 0, .ref [.sl (m_0.Places.map GVector.cells), .sl (m_0.Triangles.map (cL (cI .i64)))] 0, .ref [.sl (m_0.Places.map GVector.cells), .sl (m_0.Triangles.map (cL (cI .i64)))] 1, .sl (m_0.Triangles.map (cL (cI .i64))), .i .i64 (m_0.Triangles.length : Int), .b (decide ((m_0.Triangles.length : Int) > 128)), .b (decide ((m_0.Triangles.length : Int) > 128)), .any, .any, .any, .any, .any, .any, .any, .any, .any, .any, .any, .any, .any, .any, .any, .any, .any, .any, .any, .any, .any, .any, .any], []⟩])
          Go.Proofs.Try.func71 rfl (by kernel_rfl) (by kernel_rfl)
          ⟨len_ok, h0, h0, h0, h0, h0, len_ok, h0, h0, h1, (by have q := (lp_spec_l02Is_1 m_0 hp0 hp1 hp2 h0 h1 (((m_0.Triangles.length : Int) - 0).toNat + 1) 0 (show 0 ≤ 0 from (by first | assumption | omega | (simp at * <;> omega) | (simp_all <;> omega))) (Nat.lt_succ_self _)); rw [show (lo_spec_l02Is_1 m_0 (((m_0.Triangles.length : Int) - 0).toNat + 1) 0) = _ from rfl] at q; rw [show (lo_spec_l02Is_1 m_0 (((m_0.Triangles.length : Int) - 0).toNat + 1) 0) = (lr_spec_l02Is_1_0 m_0) from rfl, h2] at q; exact q), trivial⟩) rfl) (by simp only [v_spec_l02Is, h0, h1, h2, cond_false]) rfl

theorem l02Is_eq (m : GMesh) : v_spec_l02Is m = cond (decide ((m.Places.length : Int) > 64)) false (cond (decide ((m.Triangles.length : Int) > 128)) false (m.Triangles.all fun t => v_spec_l02Triangle t (m.Places.length : Int))) := by
  unfold v_spec_l02Is lr_spec_l02Is_1_0
  rw [all_from (a := m.Triangles) (p := fun t => v_spec_l02Triangle t (m.Places.length : Int)) (lo := lo_spec_l02Is_1 m) (x := ()) (y := ()) (fun k i => rfl)]
  cases (m.Triangles.all fun t => v_spec_l02Triangle t (m.Places.length : Int)) <;> rfl
theorem tri_ok {t : List Int} {n : Int} (h0 : 0 ≤ n) (h1 : n ≤ 64) (h : v_spec_l02Triangle t n = true) : t.length = 3 ∧ ∀ x ∈ t, 0 ≤ x ∧ x < n := by
  unfold v_spec_l02Triangle at h
  rw [wrap_sub (by omega) (by omega)] at h
  cases hl : ((t.length : Int) != 3) with
  | true => rw [hl] at h; cases h
  | false =>
    rw [hl, cond_false] at h
    have hl3 : t.length = 3 := by simp at hl; omega
    match t, hl3 with
    | [a, b, c], _ =>
      refine ⟨rfl, ?_⟩
      simp only [List.getD_cons_zero, List.getD_cons_succ, v_spec_l00In] at h
      cases e1 : (a == b) <;> rw [e1] at h <;> (try (cases h; done))
      cases e2 : (b == c) <;> rw [e2] at h <;> (try (cases h; done))
      cases e3 : (a == c) <;> rw [e3] at h <;> (try (cases h; done))
      simp only [cond_false] at h
      cases f1 : decide (a ≥ 0) <;> rw [f1] at h <;> (try (cases h; done))
      cases f2 : decide (a ≤ n - 1) <;> rw [f2] at h <;> (try (cases h; done))
      cases f3 : decide (b ≥ 0) <;> rw [f3] at h <;> (try (cases h; done))
      cases f4 : decide (b ≤ n - 1) <;> rw [f4] at h <;> (try (cases h; done))
      cases f5 : decide (c ≥ 0) <;> rw [f5] at h <;> (try (cases h; done))
      simp only [cond_true, decide_eq_true_eq] at h f1 f2 f3 f4 f5
      intro x hx
      simp only [List.mem_cons, List.not_mem_nil, or_false] at hx
      rcases hx with rfl | rfl | rfl <;> omega
theorem okTris_is (m : GMesh) (h : v_spec_l02Is m = true) : OkTris m.Places.length m.Triangles := by
  rw [l02Is_eq] at h
  cases h1 : decide ((m.Places.length : Int) > 64) <;> rw [h1] at h <;> (try (cases h; done))
  cases h2 : decide ((m.Triangles.length : Int) > 128) <;> rw [h2] at h <;> (try (cases h; done))
  simp only [cond_false, List.all_eq_true, decide_eq_false_iff_not] at h h1
  intro t ht
  exact tri_ok (by omega) (by omega) (h t ht)

/-- spec.l03Spring -/
def v_spec_l03Spring (x_0 : GSpring) (n_1 : Int) : Bool := (cond (v_spec_l00In x_0.A 0 (IntKind.wrap .i64 (n_1 - 1)))
  (cond (v_spec_l00In x_0.B 0 (IntKind.wrap .i64 (n_1 - 1)))
    (cond (x_0.A != x_0.B)
      (fcmp .geq .f32 x_0.Long 0)
      false)
    false)
  false)

theorem t_spec_l03Spring (x_0 : GSpring) (n_1 : Int)   : Fn Go.Proofs.Try.prog 138 [.ref [.i .i64 x_0.A, .i .i64 x_0.B, .f .f32 x_0.Long, .f .f32 x_0.Stiff] 0, .i .i64 n_1] (.b (v_spec_l03Spring x_0 n_1)) [] := by
  cases h0 : (v_spec_l00In x_0.A 0 (IntKind.wrap .i64 (n_1 - 1))) with
  | true =>
    cases h1 : (v_spec_l00In x_0.B 0 (IntKind.wrap .i64 (n_1 - 1))) with
    | true =>
      cases h2 : (x_0.A != x_0.B) with
      | true =>
        exact Fn.cast (CallSt.fn (callSt_of_evK (E := E0) E0Ok hMixed (c := bodyOf Go.Proofs.Try.f138) (rows := []) (r := .b (fcmp .geq .f32 x_0.Long 0)) (rows' := [])
          (ans := [.keep [25, 25], .num (IntKind.wrap .i64 (n_1 - 1)), .call (.b (v_spec_l00In x_0.A 0 (IntKind.wrap .i64 (n_1 - 1)))) [], .bo true, .bo true, .bo true, .bo true, .bo true, .bo true, .num (IntKind.wrap .i64 (n_1 - 1)), .bo true, .call (.b (v_spec_l00In x_0.B 0 (IntKind.wrap .i64 (n_1 - 1)))) [], .bo true, .bo true, .bo true, .bo true, .bo true, .bo true, .bo true, .bo true, .bo true, .bo true, .bo true, .bo true, .bo true, .bo true, .bo true, .bo true, .bo true, .keep []])
          (ps := [])
          (C := [IntKind.wrap .i64 (n_1 - 1) = (IntKind.wrap .i64 (n_1 - 1)),
            Fn Go.Proofs.Try.prog 155 [.i .i64 x_0.A, .i .i64 0, .i .i64 (IntKind.wrap .i64 (n_1 - 1))] (.b (v_spec_l00In x_0.A 0 (IntKind.wrap .i64 (n_1 - 1)))) [],
            (v_spec_l00In x_0.A 0 (IntKind.wrap .i64 (n_1 - 1))) = true,
            (v_spec_l00In x_0.A 0 (IntKind.wrap .i64 (n_1 - 1))) = true,
            (v_spec_l00In x_0.A 0 (IntKind.wrap .i64 (n_1 - 1))) = true,
            (v_spec_l00In x_0.A 0 (IntKind.wrap .i64 (n_1 - 1))) = true,
            (v_spec_l00In x_0.A 0 (IntKind.wrap .i64 (n_1 - 1))) = true,
            (v_spec_l00In x_0.A 0 (IntKind.wrap .i64 (n_1 - 1))) = true,
            IntKind.wrap .i64 (n_1 - 1) = (IntKind.wrap .i64 (n_1 - 1)),
            (v_spec_l00In x_0.A 0 (IntKind.wrap .i64 (n_1 - 1))) = true,
            Fn Go.Proofs.Try.prog 155 [.i .i64 x_0.B, .i .i64 0, .i .i64 (IntKind.wrap .i64 (n_1 - 1))] (.b (v_spec_l00In x_0.B 0 (IntKind.wrap .i64 (n_1 - 1)))) [],
            (v_spec_l00In x_0.A 0 (IntKind.wrap .i64 (n_1 - 1))) = true,
            (v_spec_l00In x_0.B 0 (IntKind.wrap .i64 (n_1 - 1))) = true,
            (v_spec_l00In x_0.B 0 (IntKind.wrap .i64 (n_1 - 1))) = true,
            (v_spec_l00In x_0.B 0 (IntKind.wrap .i64 (n_1 - 1))) = true,
            (v_spec_l00In x_0.B 0 (IntKind.wrap .i64 (n_1 - 1))) = true,
            (v_spec_l00In x_0.B 0 (IntKind.wrap .i64 (n_1 - 1))) = true,
            (v_spec_l00In x_0.B 0 (IntKind.wrap .i64 (n_1 - 1))) = true,
            (v_spec_l00In x_0.B 0 (IntKind.wrap .i64 (n_1 - 1))) = true,
            (v_spec_l00In x_0.B 0 (IntKind.wrap .i64 (n_1 - 1))) = true,
            (v_spec_l00In x_0.B 0 (IntKind.wrap .i64 (n_1 - 1))) = true,
            (v_spec_l00In x_0.B 0 (IntKind.wrap .i64 (n_1 - 1))) = true,
            (x_0.A != x_0.B) = true,
            (x_0.A != x_0.B) = true,
            (x_0.A != x_0.B) = true,
            (x_0.A != x_0.B) = true,
            (x_0.A != x_0.B) = true,
            (x_0.A != x_0.B) = true])
          Go.Proofs.Try.func138 rfl (by kernel_rfl) (by kernel_rfl)
          ⟨rfl, (t_spec_l00In x_0.A 0 (IntKind.wrap .i64 (n_1 - 1))), h0, h0, h0, h0, h0, h0, rfl, h0, (t_spec_l00In x_0.B 0 (IntKind.wrap .i64 (n_1 - 1))), h0, h1, h1, h1, h1, h1, h1, h1, h1, h1, h1, h2, h2, h2, h2, h2, h2, trivial⟩) rfl) (by simp only [v_spec_l03Spring, h0, h1, h2, cond_true]) rfl
      | false =>
        exact Fn.cast (CallSt.fn (callSt_of_evK (E := E0) E0Ok hMixed (c := bodyOf Go.Proofs.Try.f138) (rows := []) (r := .b false) (rows' := [])
          (ans := [.keep [25, 25], .num (IntKind.wrap .i64 (n_1 - 1)), .call (.b (v_spec_l00In x_0.A 0 (IntKind.wrap .i64 (n_1 - 1)))) [], .bo true, .bo true, .bo true, .bo true, .bo true, .bo true, .num (IntKind.wrap .i64 (n_1 - 1)), .bo true, .call (.b (v_spec_l00In x_0.B 0 (IntKind.wrap .i64 (n_1 - 1)))) [], .bo true, .bo true, .bo true, .bo true, .bo true, .bo true, .bo true, .bo true, .bo true, .bo true, .bo true, .bo false, .bo false, .bo false, .bo false, .bo false, .bo false, .keep []])
          (ps := [])
          (C := [IntKind.wrap .i64 (n_1 - 1) = (IntKind.wrap .i64 (n_1 - 1)),
            Fn Go.Proofs.Try.prog 155 [.i .i64 x_0.A, .i .i64 0, .i .i64 (IntKind.wrap .i64 (n_1 - 1))] (.b (v_spec_l00In x_0.A 0 (IntKind.wrap .i64 (n_1 - 1)))) [],
            (v_spec_l00In x_0.A 0 (IntKind.wrap .i64 (n_1 - 1))) = true,
            (v_spec_l00In x_0.A 0 (IntKind.wrap .i64 (n_1 - 1))) = true,
            (v_spec_l00In x_0.A 0 (IntKind.wrap .i64 (n_1 - 1))) = true,
            (v_spec_l00In x_0.A 0 (IntKind.wrap .i64 (n_1 - 1))) = true,
            (v_spec_l00In x_0.A 0 (IntKind.wrap .i64 (n_1 - 1))) = true,
            (v_spec_l00In x_0.A 0 (IntKind.wrap .i64 (n_1 - 1))) = true,
            IntKind.wrap .i64 (n_1 - 1) = (IntKind.wrap .i64 (n_1 - 1)),
            (v_spec_l00In x_0.A 0 (IntKind.wrap .i64 (n_1 - 1))) = true,
            Fn Go.Proofs.Try.prog 155 [.i .i64 x_0.B, .i .i64 0, .i .i64 (IntKind.wrap .i64 (n_1 - 1))] (.b (v_spec_l00In x_0.B 0 (IntKind.wrap .i64 (n_1 - 1)))) [],
            (v_spec_l00In x_0.A 0 (IntKind.wrap .i64 (n_1 - 1))) = true,
            (v_spec_l00In x_0.B 0 (IntKind.wrap .i64 (n_1 - 1))) = true,
            (v_spec_l00In x_0.B 0 (IntKind.wrap .i64 (n_1 - 1))) = true,
            (v_spec_l00In x_0.B 0 (IntKind.wrap .i64 (n_1 - 1))) = true,
            (v_spec_l00In x_0.B 0 (IntKind.wrap .i64 (n_1 - 1))) = true,
            (v_spec_l00In x_0.B 0 (IntKind.wrap .i64 (n_1 - 1))) = true,
            (v_spec_l00In x_0.B 0 (IntKind.wrap .i64 (n_1 - 1))) = true,
            (v_spec_l00In x_0.B 0 (IntKind.wrap .i64 (n_1 - 1))) = true,
            (v_spec_l00In x_0.B 0 (IntKind.wrap .i64 (n_1 - 1))) = true,
            (v_spec_l00In x_0.B 0 (IntKind.wrap .i64 (n_1 - 1))) = true,
            (v_spec_l00In x_0.B 0 (IntKind.wrap .i64 (n_1 - 1))) = true,
            (x_0.A != x_0.B) = false,
            (x_0.A != x_0.B) = false,
            (x_0.A != x_0.B) = false,
            (x_0.A != x_0.B) = false,
            (x_0.A != x_0.B) = false,
            (x_0.A != x_0.B) = false])
          Go.Proofs.Try.func138 rfl (by kernel_rfl) (by kernel_rfl)
          ⟨rfl, (t_spec_l00In x_0.A 0 (IntKind.wrap .i64 (n_1 - 1))), h0, h0, h0, h0, h0, h0, rfl, h0, (t_spec_l00In x_0.B 0 (IntKind.wrap .i64 (n_1 - 1))), h0, h1, h1, h1, h1, h1, h1, h1, h1, h1, h1, h2, h2, h2, h2, h2, h2, trivial⟩) rfl) (by simp only [v_spec_l03Spring, h0, h1, h2, cond_true, cond_false]) rfl
    | false =>
      exact Fn.cast (CallSt.fn (callSt_of_evK (E := E0) E0Ok hMixed (c := bodyOf Go.Proofs.Try.f138) (rows := []) (r := .b false) (rows' := [])
        (ans := [.keep [25, 25], .num (IntKind.wrap .i64 (n_1 - 1)), .call (.b (v_spec_l00In x_0.A 0 (IntKind.wrap .i64 (n_1 - 1)))) [], .bo true, .bo true, .bo true, .bo true, .bo true, .bo true, .num (IntKind.wrap .i64 (n_1 - 1)), .bo true, .call (.b (v_spec_l00In x_0.B 0 (IntKind.wrap .i64 (n_1 - 1)))) [], .bo true, .bo false, .bo false, .bo false, .bo false, .bo false, .bo false, .bo false, .bo false, .bo false, .bo false, .bo false, .bo false, .bo false, .bo false, .bo false, .bo false, .keep []])
        (ps := [])
        (C := [IntKind.wrap .i64 (n_1 - 1) = (IntKind.wrap .i64 (n_1 - 1)),
          Fn Go.Proofs.Try.prog 155 [.i .i64 x_0.A, .i .i64 0, .i .i64 (IntKind.wrap .i64 (n_1 - 1))] (.b (v_spec_l00In x_0.A 0 (IntKind.wrap .i64 (n_1 - 1)))) [],
          (v_spec_l00In x_0.A 0 (IntKind.wrap .i64 (n_1 - 1))) = true,
          (v_spec_l00In x_0.A 0 (IntKind.wrap .i64 (n_1 - 1))) = true,
          (v_spec_l00In x_0.A 0 (IntKind.wrap .i64 (n_1 - 1))) = true,
          (v_spec_l00In x_0.A 0 (IntKind.wrap .i64 (n_1 - 1))) = true,
          (v_spec_l00In x_0.A 0 (IntKind.wrap .i64 (n_1 - 1))) = true,
          (v_spec_l00In x_0.A 0 (IntKind.wrap .i64 (n_1 - 1))) = true,
          IntKind.wrap .i64 (n_1 - 1) = (IntKind.wrap .i64 (n_1 - 1)),
          (v_spec_l00In x_0.A 0 (IntKind.wrap .i64 (n_1 - 1))) = true,
          Fn Go.Proofs.Try.prog 155 [.i .i64 x_0.B, .i .i64 0, .i .i64 (IntKind.wrap .i64 (n_1 - 1))] (.b (v_spec_l00In x_0.B 0 (IntKind.wrap .i64 (n_1 - 1)))) [],
          (v_spec_l00In x_0.A 0 (IntKind.wrap .i64 (n_1 - 1))) = true,
          (v_spec_l00In x_0.B 0 (IntKind.wrap .i64 (n_1 - 1))) = false,
          (v_spec_l00In x_0.B 0 (IntKind.wrap .i64 (n_1 - 1))) = false,
          (v_spec_l00In x_0.B 0 (IntKind.wrap .i64 (n_1 - 1))) = false,
          (v_spec_l00In x_0.B 0 (IntKind.wrap .i64 (n_1 - 1))) = false,
          (v_spec_l00In x_0.B 0 (IntKind.wrap .i64 (n_1 - 1))) = false,
          (v_spec_l00In x_0.B 0 (IntKind.wrap .i64 (n_1 - 1))) = false,
          (v_spec_l00In x_0.B 0 (IntKind.wrap .i64 (n_1 - 1))) = false,
          (v_spec_l00In x_0.B 0 (IntKind.wrap .i64 (n_1 - 1))) = false,
          (v_spec_l00In x_0.B 0 (IntKind.wrap .i64 (n_1 - 1))) = false,
          (v_spec_l00In x_0.B 0 (IntKind.wrap .i64 (n_1 - 1))) = false,
          false = false,
          false = false,
          false = false,
          false = false,
          false = false,
          false = false])
        Go.Proofs.Try.func138 rfl (by kernel_rfl) (by kernel_rfl)
        ⟨rfl, (t_spec_l00In x_0.A 0 (IntKind.wrap .i64 (n_1 - 1))), h0, h0, h0, h0, h0, h0, rfl, h0, (t_spec_l00In x_0.B 0 (IntKind.wrap .i64 (n_1 - 1))), h0, h1, h1, h1, h1, h1, h1, h1, h1, h1, h1, rfl, rfl, rfl, rfl, rfl, rfl, trivial⟩) rfl) (by simp only [v_spec_l03Spring, h0, h1, cond_true, cond_false]) rfl
  | false =>
    exact Fn.cast (CallSt.fn (callSt_of_evK (E := E0) E0Ok hMixed (c := bodyOf Go.Proofs.Try.f138) (rows := []) (r := .b false) (rows' := [])
      (ans := [.keep [25, 25], .num (IntKind.wrap .i64 (n_1 - 1)), .call (.b (v_spec_l00In x_0.A 0 (IntKind.wrap .i64 (n_1 - 1)))) [], .bo false, .bo false, .bo false, .bo false, .bo false, .bo false, .bo false, .bo false, .bo false, .bo false, .bo false, .bo false, .bo false, .bo false, .bo false, .bo false, .bo false, .bo false, .bo false, .bo false, .bo false, .bo false, .bo false, .bo false, .keep []])
      (ps := [])
      (C := [IntKind.wrap .i64 (n_1 - 1) = (IntKind.wrap .i64 (n_1 - 1)),
        Fn Go.Proofs.Try.prog 155 [.i .i64 x_0.A, .i .i64 0, .i .i64 (IntKind.wrap .i64 (n_1 - 1))] (.b (v_spec_l00In x_0.A 0 (IntKind.wrap .i64 (n_1 - 1)))) [],
        (v_spec_l00In x_0.A 0 (IntKind.wrap .i64 (n_1 - 1))) = false,
        (v_spec_l00In x_0.A 0 (IntKind.wrap .i64 (n_1 - 1))) = false,
        (v_spec_l00In x_0.A 0 (IntKind.wrap .i64 (n_1 - 1))) = false,
        (v_spec_l00In x_0.A 0 (IntKind.wrap .i64 (n_1 - 1))) = false,
        (v_spec_l00In x_0.A 0 (IntKind.wrap .i64 (n_1 - 1))) = false,
        (v_spec_l00In x_0.A 0 (IntKind.wrap .i64 (n_1 - 1))) = false,
        (v_spec_l00In x_0.A 0 (IntKind.wrap .i64 (n_1 - 1))) = false,
        (v_spec_l00In x_0.A 0 (IntKind.wrap .i64 (n_1 - 1))) = false,
        false = false,
        false = false,
        false = false,
        false = false,
        false = false,
        false = false,
        false = false,
        false = false,
        false = false,
        false = false,
        false = false,
        false = false,
        false = false,
        false = false,
        false = false,
        false = false])
      Go.Proofs.Try.func138 rfl (by kernel_rfl) (by kernel_rfl)
      ⟨rfl, (t_spec_l00In x_0.A 0 (IntKind.wrap .i64 (n_1 - 1))), h0, h0, h0, h0, h0, h0, h0, h0, rfl, rfl, rfl, rfl, rfl, rfl, rfl, rfl, rfl, rfl, rfl, rfl, rfl, rfl, rfl, rfl, trivial⟩) rfl) (by simp only [v_spec_l03Spring, h0, cond_false]) rfl

def lo_spec_l03Is_1 (b_0 : GBody) : Nat → Int → (Unit) ⊕ (Unit)
  | 0, _ => .inl default
  | k + 1, x_l0 => (cond (decide (x_l0 < (b_0.Springs.length : Int)))
    (cond (v_spec_l03Spring (b_0.Springs.getD x_l0.toNat default) (b_0.Mesh.Places.length : Int))
      (lo_spec_l03Is_1 b_0 k (x_l0 + 1))
      (.inl ()))
    (.inr ()))

def ls_spec_l03Is_1 (b_0 : GBody) : (Unit) ⊕ (Unit) → Ex × St
  | .inl r => (.ret, ⟨[.any, .any, .b false, .any, .any, .any, .any, .any, .any, .any, .any, .any, .any, .any, .any, .any, .any, .any, .any, .any, .any, .any, .any, .any, .any, .any, .any, .any, .any, .any, .any, .any, .any, .any, .any, .any, .any, .any, .any, .any, .any, .any, .any, .any, .any, .any, .any, .any, .any, .any, .any, .any, .any, .any], []⟩)
  | .inr r => ((.exit 0), ⟨[.ref [.sl (b_0.Mesh.Places.map GVector.cells), .sl (b_0.Mesh.Triangles.map (cL (cI .i64))), .sl (b_0.Springs.map GSpring.cells), .f .f32 b_0.Film, .f .f32 b_0.Bend, .sl (b_0.Weights.map (cF .f32)), .f .f32 b_0.Fall.X, .f .f32 b_0.Fall.Y, .f .f32 b_0.Fall.Z] 0, .any, .any, .any, .ref [.sl (b_0.Mesh.Places.map GVector.cells), .sl (b_0.Mesh.Triangles.map (cL (cI .i64))), .sl (b_0.Springs.map GSpring.cells), .f .f32 b_0.Film, .f .f32 b_0.Bend, .sl (b_0.Weights.map (cF .f32)), .f .f32 b_0.Fall.X, .f .f32 b_0.Fall.Y, .f .f32 b_0.Fall.Z] 0, .ref [.sl (b_0.Mesh.Places.map GVector.cells), .sl (b_0.Mesh.Triangles.map (cL (cI .i64))), .sl (b_0.Springs.map GSpring.cells), .f .f32 b_0.Film, .f .f32 b_0.Bend, .sl (b_0.Weights.map (cF .f32)), .f .f32 b_0.Fall.X, .f .f32 b_0.Fall.Y, .f .f32 b_0.Fall.Z] 0, .ref [.sl (b_0.Mesh.Places.map GVector.cells), .sl (b_0.Mesh.Triangles.map (cL (cI .i64))), .sl (b_0.Springs.map GSpring.cells), .f .f32 b_0.Film, .f .f32 b_0.Bend, .sl (b_0.Weights.map (cF .f32)), .f .f32 b_0.Fall.X, .f .f32 b_0.Fall.Y, .f .f32 b_0.Fall.Z] 0, .b (v_spec_l02Is b_0.Mesh), .b (!(v_spec_l02Is b_0.Mesh)), .b (!(v_spec_l02Is b_0.Mesh)), .ref [.sl (b_0.Mesh.Places.map GVector.cells), .sl (b_0.Mesh.Triangles.map (cL (cI .i64))), .sl (b_0.Springs.map GSpring.cells), .f .f32 b_0.Film, .f .f32 b_0.Bend, .sl (b_0.Weights.map (cF .f32)), .f .f32 b_0.Fall.X, .f .f32 b_0.Fall.Y, .f .f32 b_0.Fall.Z] 0, .ref [.sl (b_0.Mesh.Places.map GVector.cells), .sl (b_0.Mesh.Triangles.map (cL (cI .i64))), .sl (b_0.Springs.map GSpring.cells), .f .f32 b_0.Film, .f .f32 b_0.Bend, .sl (b_0.Weights.map (cF .f32)), .f .f32 b_0.Fall.X, .f .f32 b_0.Fall.Y, .f .f32 b_0.Fall.Z] 0, .ref [.sl (b_0.Mesh.Places.map GVector.cells), .sl (b_0.Mesh.Triangles.map (cL (cI .i64))), .sl (b_0.Springs.map GSpring.cells), .f .f32 b_0.Film, .f .f32 b_0.Bend, .sl (b_0.Weights.map (cF .f32)), .f .f32 b_0.Fall.X, .f .f32 b_0.Fall.Y, .f .f32 b_0.Fall.Z] 2, .sl (b_0.Springs.map GSpring.cells), .i .i64 (b_0.Springs.length : Int), .b (decide ((b_0.Springs.length : Int) > 200)), .b (decide ((b_0.Springs.length : Int) > 200)), .b (decide ((b_0.Springs.length : Int) > 200)), .ref [.sl (b_0.Mesh.Places.map GVector.cells), .sl (b_0.Mesh.Triangles.map (cL (cI .i64))), .sl (b_0.Springs.map GSpring.cells), .f .f32 b_0.Film, .f .f32 b_0.Bend, .sl (b_0.Weights.map (cF .f32)), .f .f32 b_0.Fall.X, .f .f32 b_0.Fall.Y, .f .f32 b_0.Fall.Z] 0, .ref [.sl (b_0.Mesh.Places.map GVector.cells), .sl (b_0.Mesh.Triangles.map (cL (cI .i64))), .sl (b_0.Springs.map GSpring.cells), .f .f32 b_0.Film, .f .f32 b_0.Bend, .sl (b_0.Weights.map (cF .f32)), .f .f32 b_0.Fall.X, .f .f32 b_0.Fall.Y, .f .f32 b_0.Fall.Z] 0, .ref [.sl (b_0.Mesh.Places.map GVector.cells), .sl (b_0.Mesh.Triangles.map (cL (cI .i64))), .sl (b_0.Springs.map GSpring.cells), .f .f32 b_0.Film, .f .f32 b_0.Bend, .sl (b_0.Weights.map (cF .f32)), .f .f32 b_0.Fall.X, .f .f32 b_0.Fall.Y, .f .f32 b_0.Fall.Z] 5, .sl (b_0.Weights.map (cF .f32)), .i .i64 (b_0.Weights.length : Int), .ref [.sl (b_0.Mesh.Places.map GVector.cells), .sl (b_0.Mesh.Triangles.map (cL (cI .i64))), .sl (b_0.Springs.map GSpring.cells), .f .f32 b_0.Film, .f .f32 b_0.Bend, .sl (b_0.Weights.map (cF .f32)), .f .f32 b_0.Fall.X, .f .f32 b_0.Fall.Y, .f .f32 b_0.Fall.Z] 0, .ref [.sl (b_0.Mesh.Places.map GVector.cells), .sl (b_0.Mesh.Triangles.map (cL (cI .i64))), .sl (b_0.Springs.map GSpring.cells), .f .f32 b_0.Film, .f .f32 b_0.Bend, .sl (b_0.Weights.map (cF .f32)), .f .f32 b_0.Fall.X, .f .f32 b_0.Fall.Y, .f .f32 b_0.Fall.Z] 0, .ref [.sl (b_0.Mesh.Places.map GVector.cells), .sl (b_0.Mesh.Triangles.map (cL (cI .i64))), .sl (b_0.Springs.map GSpring.cells), .f .f32 b_0.Film, .f .f32 b_0.Bend, .sl (b_0.Weights.map (cF .f32)), .f .f32 b_0.Fall.X, .f .f32 b_0.Fall.Y, .f .f32 b_0.Fall.Z] 0, .ref [.sl (b_0.Mesh.Places.map GVector.cells), .sl (b_0.Mesh.Triangles.map (cL (cI .i64))), .sl (b_0.Springs.map GSpring.cells), .f .f32 b_0.Film, .f .f32 b_0.Bend, .sl (b_0.Weights.map (cF .f32)), .f .f32 b_0.Fall.X, .f .f32 b_0.Fall.Y, .f .f32 b_0.Fall.Z] 0, .sl (b_0.Mesh.Places.map GVector.cells), .i .i64 (b_0.Mesh.Places.length : Int), .b ((b_0.Weights.length : Int) != (b_0.Mesh.Places.length : Int)), .b ((b_0.Weights.length : Int) != (b_0.Mesh.Places.length : Int)), .ref [.sl (b_0.Mesh.Places.map GVector.cells), .sl (b_0.Mesh.Triangles.map (cL (cI .i64))), .sl (b_0.Springs.map GSpring.cells), .f .f32 b_0.Film, .f .f32 b_0.Bend, .sl (b_0.Weights.map (cF .f32)), .f .f32 b_0.Fall.X, .f .f32 b_0.Fall.Y, .f .f32 b_0.Fall.Z] 0, .ref [.sl (b_0.Mesh.Places.map GVector.cells), .sl (b_0.Mesh.Triangles.map (cL (cI .i64))), .sl (b_0.Springs.map GSpring.cells), .f .f32 b_0.Film, .f .f32 b_0.Bend, .sl (b_0.Weights.map (cF .f32)), .f .f32 b_0.Fall.X, .f .f32 b_0.Fall.Y, .f .f32 b_0.Fall.Z] 0, .ref [.sl (b_0.Mesh.Places.map GVector.cells), .sl (b_0.Mesh.Triangles.map (cL (cI .i64))), .sl (b_0.Springs.map GSpring.cells), .f .f32 b_0.Film, .f .f32 b_0.Bend, .sl (b_0.Weights.map (cF .f32)), .f .f32 b_0.Fall.X, .f .f32 b_0.Fall.Y, .f .f32 b_0.Fall.Z] 2, .sl (b_0.Springs.map GSpring.cells), .any, .any, .any, .any, .any, .any, .any, .any, .any, .any, .any, .any, .any, .any, .any, .any, .any, .any, .any], []⟩)

theorem lp_spec_l03Is_1 (b_0 : GBody) (hp0 : b_0.Mesh.Places.length ≤ 1073741824) (hp1 : b_0.Mesh.Triangles.length ≤ 1073741824) (hp2 : ∀ t ∈ b_0.Mesh.Triangles, t.length ≤ 1073741824) (hp3 : b_0.Springs.length ≤ 1073741824) (hp4 : b_0.Weights.length ≤ 1073741824) (hf_spec_l03Is_1_0 : ((b_0.Weights.length : Int) != (b_0.Mesh.Places.length : Int)) = false) (hf_spec_l03Is_1_1 : (decide ((b_0.Springs.length : Int) > 200)) = false) (hf_spec_l03Is_1_2 : (v_spec_l02Is b_0.Mesh) = true) : ∀ (k : Nat) (x_l0 : Int) (hv_spec_l03Is_1_0 : 0 ≤ x_l0) (hk : ((b_0.Springs.length : Int) - x_l0).toNat < k), Lp Go.Proofs.Try.prog 0 (sub (bodyOf Go.Proofs.Try.f90) [1, 1, 0, 1, 0, 0]) ⟨[.ref [.sl (b_0.Mesh.Places.map GVector.cells), .sl (b_0.Mesh.Triangles.map (cL (cI .i64))), .sl (b_0.Springs.map GSpring.cells), .f .f32 b_0.Film, .f .f32 b_0.Bend, .sl (b_0.Weights.map (cF .f32)), .f .f32 b_0.Fall.X, .f .f32 b_0.Fall.Y, .f .f32 b_0.Fall.Z] 0, .any, .any, .any, .ref [.sl (b_0.Mesh.Places.map GVector.cells), .sl (b_0.Mesh.Triangles.map (cL (cI .i64))), .sl (b_0.Springs.map GSpring.cells), .f .f32 b_0.Film, .f .f32 b_0.Bend, .sl (b_0.Weights.map (cF .f32)), .f .f32 b_0.Fall.X, .f .f32 b_0.Fall.Y, .f .f32 b_0.Fall.Z] 0, .ref [.sl (b_0.Mesh.Places.map GVector.cells), .sl (b_0.Mesh.Triangles.map (cL (cI .i64))), .sl (b_0.Springs.map GSpring.cells), .f .f32 b_0.Film, .f .f32 b_0.Bend, .sl (b_0.Weights.map (cF .f32)), .f .f32 b_0.Fall.X, .f .f32 b_0.Fall.Y, .f .f32 b_0.Fall.Z] 0, .ref [.sl (b_0.Mesh.Places.map GVector.cells), .sl (b_0.Mesh.Triangles.map (cL (cI .i64))), .sl (b_0.Springs.map GSpring.cells), .f .f32 b_0.Film, .f .f32 b_0.Bend, .sl (b_0.Weights.map (cF .f32)), .f .f32 b_0.Fall.X, .f .f32 b_0.Fall.Y, .f .f32 b_0.Fall.Z] 0, .b (v_spec_l02Is b_0.Mesh), .b (!(v_spec_l02Is b_0.Mesh)), .b (!(v_spec_l02Is b_0.Mesh)), .ref [.sl (b_0.Mesh.Places.map GVector.cells), .sl (b_0.Mesh.Triangles.map (cL (cI .i64))), .sl (b_0.Springs.map GSpring.cells), .f .f32 b_0.Film, .f .f32 b_0.Bend, .sl (b_0.Weights.map (cF .f32)), .f .f32 b_0.Fall.X, .f .f32 b_0.Fall.Y, .f .f32 b_0.Fall.Z] 0, .ref [.sl (b_0.Mesh.Places.map GVector.cells), .sl (b_0.Mesh.Triangles.map (cL (cI .i64))), .sl (b_0.Springs.map GSpring.cells), .f .f32 b_0.Film, .f .f32 b_0.Bend, .sl (b_0.Weights.map (cF .f32)), .f .f32 b_0.Fall.X, .f .f32 b_0.Fall.Y, .f .f32 b_0.Fall.Z] 0, .ref [.sl (b_0.Mesh.Places.map GVector.cells), .sl (b_0.Mesh.Triangles.map (cL (cI .i64))), .sl (b_0.Springs.map GSpring.cells), .f .f32 b_0.Film, .f .f32 b_0.Bend, .sl (b_0.Weights.map (cF .f32)), .f .f32 b_0.Fall.X, .f .f32 b_0.Fall.Y, .f .f32 b_0.Fall.Z] 2, .sl (b_0.Springs.map GSpring.cells), .i .i64 (b_0.Springs.length : Int), .b (decide ((b_0.Springs.length : Int) > 200)), .b (decide ((b_0.Springs.length : Int) > 200)), .b (decide ((b_0.Springs.length : Int) > 200)), .ref [.sl (b_0.Mesh.Places.map GVector.cells), .sl (b_0.Mesh.Triangles.map (cL (cI .i64))), .sl (b_0.Springs.map GSpring.cells), .f .f32 b_0.Film, .f .f32 b_0.Bend, .sl (b_0.Weights.map (cF .f32)), .f .f32 b_0.Fall.X, .f .f32 b_0.Fall.Y, .f .f32 b_0.Fall.Z] 0, .ref [.sl (b_0.Mesh.Places.map GVector.cells), .sl (b_0.Mesh.Triangles.map (cL (cI .i64))), .sl (b_0.Springs.map GSpring.cells), .f .f32 b_0.Film, .f .f32 b_0.Bend, .sl (b_0.Weights.map (cF .f32)), .f .f32 b_0.Fall.X, .f .f32 b_0.Fall.Y, .f .f32 b_0.Fall.Z] 0, .ref [.sl (b_0.Mesh.Places.map GVector.cells), .sl (b_0.Mesh.Triangles.map (cL (cI .i64))), .sl (b_0.Springs.map GSpring.cells), .f .f32 b_0.Film, .f .f32 b_0.Bend, .sl (b_0.Weights.map (cF .f32)), .f .f32 b_0.Fall.X, .f .f32 b_0.Fall.Y, .f .f32 b_0.Fall.Z] 5, .sl (b_0.Weights.map (cF .f32)), .i .i64 (b_0.Weights.length : Int), .ref [.sl (b_0.Mesh.Places.map GVector.cells), .sl (b_0.Mesh.Triangles.map (cL (cI .i64))), .sl (b_0.Springs.map GSpring.cells), .f .f32 b_0.Film, .f .f32 b_0.Bend, .sl (b_0.Weights.map (cF .f32)), .f .f32 b_0.Fall.X, .f .f32 b_0.Fall.Y, .f .f32 b_0.Fall.Z] 0, .ref [.sl (b_0.Mesh.Places.map GVector.cells), .sl (b_0.Mesh.Triangles.map (cL (cI .i64))), .sl (b_0.Springs.map GSpring.cells), .f .f32 b_0.Film, .f .f32 b_0.Bend, .sl (b_0.Weights.map (cF .f32)), .f .f32 b_0.Fall.X, .f .f32 b_0.Fall.Y, .f .f32 b_0.Fall.Z] 0, .ref [.sl (b_0.Mesh.Places.map GVector.cells), .sl (b_0.Mesh.Triangles.map (cL (cI .i64))), .sl (b_0.Springs.map GSpring.cells), .f .f32 b_0.Film, .f .f32 b_0.Bend, .sl (b_0.Weights.map (cF .f32)), .f .f32 b_0.Fall.X, .f .f32 b_0.Fall.Y, .f .f32 b_0.Fall.Z] 0, .ref [.sl (b_0.Mesh.Places.map GVector.cells), .sl (b_0.Mesh.Triangles.map (cL (cI .i64))), .sl (b_0.Springs.map GSpring.cells), .f .f32 b_0.Film, .f .f32 b_0.Bend, .sl (b_0.Weights.map (cF .f32)), .f .f32 b_0.Fall.X, .f .f32 b_0.Fall.Y, .f .f32 b_0.Fall.Z] 0, .sl (b_0.Mesh.Places.map GVector.cells), .i .i64 (b_0.Mesh.Places.length : Int), .b ((b_0.Weights.length : Int) != (b_0.Mesh.Places.length : Int)), .b ((b_0.Weights.length : Int) != (b_0.Mesh.Places.length : Int)), .ref [.sl (b_0.Mesh.Places.map GVector.cells), .sl (b_0.Mesh.Triangles.map (cL (cI .i64))), .sl (b_0.Springs.map GSpring.cells), .f .f32 b_0.Film, .f .f32 b_0.Bend, .sl (b_0.Weights.map (cF .f32)), .f .f32 b_0.Fall.X, .f .f32 b_0.Fall.Y, .f .f32 b_0.Fall.Z] 0, .ref [.sl (b_0.Mesh.Places.map GVector.cells), .sl (b_0.Mesh.Triangles.map (cL (cI .i64))), .sl (b_0.Springs.map GSpring.cells), .f .f32 b_0.Film, .f .f32 b_0.Bend, .sl (b_0.Weights.map (cF .f32)), .f .f32 b_0.Fall.X, .f .f32 b_0.Fall.Y, .f .f32 b_0.Fall.Z] 0, .ref [.sl (b_0.Mesh.Places.map GVector.cells), .sl (b_0.Mesh.Triangles.map (cL (cI .i64))), .sl (b_0.Springs.map GSpring.cells), .f .f32 b_0.Film, .f .f32 b_0.Bend, .sl (b_0.Weights.map (cF .f32)), .f .f32 b_0.Fall.X, .f .f32 b_0.Fall.Y, .f .f32 b_0.Fall.Z] 2, .sl (b_0.Springs.map GSpring.cells), .i .i64 (b_0.Springs.length : Int), .i .i64 x_l0, .any, .any, .any, .any, .any, .any, .any, .any, .any, .any, .any, .any, .any, .any, .any, .any, .any], []⟩ (ls_spec_l03Is_1 b_0 (lo_spec_l03Is_1 b_0 k x_l0)).1 (ls_spec_l03Is_1 b_0 (lo_spec_l03Is_1 b_0 k x_l0)).2 := by
  intro k
  induction k with
  | zero => intro x_l0 hv_spec_l03Is_1_0 hk; exact absurd hk (Nat.not_lt_zero _)
  | succ k ih =>
    intro x_l0 hv_spec_l03Is_1_0 hk
    cases h_0 : (decide (x_l0 < (b_0.Springs.length : Int))) with
    | true =>
      cases h_1 : (v_spec_l03Spring (b_0.Springs.getD x_l0.toNat default) (b_0.Mesh.Places.length : Int)) with
      | true =>
        have e : lo_spec_l03Is_1 b_0 (k + 1) x_l0 = (lo_spec_l03Is_1 b_0 k (x_l0 + 1)) := by simp only [lo_spec_l03Is_1, h_0, h_1, cond_true]
        rw [e]
        exact stepK_next (E := E0) E0Ok hMixed (body := (sub (bodyOf Go.Proofs.Try.f90) [1, 1, 0, 1, 0, 0])) (st := ⟨[.ref [.sl (b_0.Mesh.Places.map GVector.cells), .sl (b_0.Mesh.Triangles.map (cL (cI .i64))), .sl (b_0.Springs.map GSpring.cells), .f .f32 b_0.Film, .f .f32 b_0.Bend, .sl (b_0.Weights.map (cF .f32)), .f .f32 b_0.Fall.X, .f .f32 b_0.Fall.Y, .f .f32 b_0.Fall.Z] 0, .any, .any, .any, .ref [.sl (b_0.Mesh.Places.map GVector.cells), .sl (b_0.Mesh.Triangles.map (cL (cI .i64))), .sl (b_0.Springs.map GSpring.cells), .f .f32 b_0.Film, .f .f32 b_0.Bend, .sl (b_0.Weights.map (cF .f32)), .f .f32 b_0.Fall.X, .f .f32 b_0.Fall.Y, .f .f32 b_0.Fall.Z] 0, .ref [.sl (b_0.Mesh.Places.map GVector.cells), .sl (b_0.Mesh.Triangles.map (cL (cI .i64))), .sl (b_0.Springs.map GSpring.cells), .f .f32 b_0.Film, .f .f32 b_0.Bend, .sl (b_0.Weights.map (cF .f32)), .f .f32 b_0.Fall.X, .f .f32 b_0.Fall.Y, .f .f32 b_0.Fall.Z] 0, .ref [.sl (b_0.Mesh.Places.map GVector.cells), .sl (b_0.Mesh.Triangles.map (cL (cI .i64))), .sl (b_0.Springs.map GSpring.cells), .f .f32 b_0.Film, .f .f32 b_0.Bend, .sl (b_0.Weights.map (cF .f32)), .f .f32 b_0.Fall.X, .f .f32 b_0.Fall.Y, .f .f32 b_0.Fall.Z] 0, .b (v_spec_l02Is b_0.Mesh), .b (!(v_spec_l02Is b_0.Mesh)), .b (!(v_spec_l02Is b_0.Mesh)), .ref [.sl (b_0.Mesh.Places.map GVector.cells), .sl (b_0.Mesh.Triangles.map (cL (cI .i64))), .sl (b_0.Springs.map GSpring.cells), .f .f32 b_0.Film, .f .f32 b_0.Bend, .sl (b_0.Weights.map (cF .f32)), .f .f32 b_0.Fall.X, .f .f32 b_0.Fall.Y, .f .f32 b_0.Fall.Z] 0, .ref [.sl (b_0.Mesh.Places.map GVector.cells), .sl (b_0.Mesh.Triangles.map (cL (cI .i64))), .sl (b_0.Springs.map GSpring.cells), .f .f32 b_0.Film, .f .f32 b_0.Bend, .sl (b_0.Weights.map (cF .f32)), .f .f32 b_0.Fall.X, .f .f32 b_0.Fall.Y, .f .f32 b_0.Fall.Z] 0, .ref [.sl (b_0.Mesh.Places.map GVector.cells), .sl (b_0.Mesh.Triangles.map (cL (cI .i64))), .sl (b_0.Springs.map GSpring.cells), .f .f32 b_0.Film, .f .f32 b_0.Bend, .sl (b_0.Weights.map (cF .f32)), .f .f32 b_0.Fall.X, .f .f32 b_0.Fall.Y, .f .f32 b_0.Fall.Z] 2, .sl (b_0.Springs.map GSpring.cells), .i .i64 (b_0.Springs.length : Int), .b (decide ((b_0.Springs.length : Int) > 200)), .b (decide ((b_0.Springs.length : Int) > 200)), .b (decide ((b_0.Springs.length : Int) > 200)), .ref [.sl (b_0.Mesh.Places.map GVector.cells), .sl (b_0.Mesh.Triangles.map (cL (cI .i64))), .sl (b_0.Springs.map GSpring.cells), .f .f32 b_0.Film, .f .f32 b_0.Bend, .sl (b_0.Weights.map (cF .f32)), .f .f32 b_0.Fall.X, .f .f32 b_0.Fall.Y, .f .f32 b_0.Fall.Z] 0, .ref [.sl (b_0.Mesh.Places.map GVector.cells), .sl (b_0.Mesh.Triangles.map (cL (cI .i64))), .sl (b_0.Springs.map GSpring.cells), .f .f32 b_0.Film, .f .f32 b_0.Bend, .sl (b_0.Weights.map (cF .f32)), .f .f32 b_0.Fall.X, .f .f32 b_0.Fall.Y, .f .f32 b_0.Fall.Z] 0, .ref [.sl (b_0.Mesh.Places.map GVector.cells), .sl (b_0.Mesh.Triangles.map (cL (cI .i64))), .sl (b_0.Springs.map GSpring.cells), .f .f32 b_0.Film, .f .f32 b_0.Bend, .sl (b_0.Weights.map (cF .f32)), .f .f32 b_0.Fall.X, .f .f32 b_0.Fall.Y, .f .f32 b_0.Fall.Z] 5, .sl (b_0.Weights.map (cF .f32)), .i .i64 (b_0.Weights.length : Int), .ref [.sl (b_0.Mesh.Places.map GVector.cells), .sl (b_0.Mesh.Triangles.map (cL (cI .i64))), .sl (b_0.Springs.map GSpring.cells), .f .f32 b_0.Film, .f .f32 b_0.Bend, .sl (b_0.Weights.map (cF .f32)), .f .f32 b_0.Fall.X, .f .f32 b_0.Fall.Y, .f .f32 b_0.Fall.Z] 0, .ref [.sl (b_0.Mesh.Places.map GVector.cells), .sl (b_0.Mesh.Triangles.map (cL (cI .i64))), .sl (b_0.Springs.map GSpring.cells), .f .f32 b_0.Film, .f .f32 b_0.Bend, .sl (b_0.Weights.map (cF .f32)), .f .f32 b_0.Fall.X, .f .f32 b_0.Fall.Y, .f .f32 b_0.Fall.Z] 0, .ref [.sl (b_0.Mesh.Places.map GVector.cells), .sl (b_0.Mesh.Triangles.map (cL (cI .i64))), .sl (b_0.Springs.map GSpring.cells), .f .f32 b_0.Film, .f .f32 b_0.Bend, .sl (b_0.Weights.map (cF .f32)), .f .f32 b_0.Fall.X, .f .f32 b_0.Fall.Y, .f .f32 b_0.Fall.Z] 0, .ref [.sl (b_0.Mesh.Places.map GVector.cells), .sl (b_0.Mesh.Triangles.map (cL (cI .i64))), .sl (b_0.Springs.map GSpring.cells), .f .f32 b_0.Film, .f .f32 b_0.Bend, .sl (b_0.Weights.map (cF .f32)), .f .f32 b_0.Fall.X, .f .f32 b_0.Fall.Y, .f .f32 b_0.Fall.Z] 0, .sl (b_0.Mesh.Places.map GVector.cells), .i .i64 (b_0.Mesh.Places.length : Int), .b ((b_0.Weights.length : Int) != (b_0.Mesh.Places.length : Int)), .b ((b_0.Weights.length : Int) != (b_0.Mesh.Places.length : Int)), .ref [.sl (b_0.Mesh.Places.map GVector.cells), .sl (b_0.Mesh.Triangles.map (cL (cI .i64))), .sl (b_0.Springs.map GSpring.cells), .f .f32 b_0.Film, .f .f32 b_0.Bend, .sl (b_0.Weights.map (cF .f32)), .f .f32 b_0.Fall.X, .f .f32 b_0.Fall.Y, .f .f32 b_0.Fall.Z] 0, .ref [.sl (b_0.Mesh.Places.map GVector.cells), .sl (b_0.Mesh.Triangles.map (cL (cI .i64))), .sl (b_0.Springs.map GSpring.cells), .f .f32 b_0.Film, .f .f32 b_0.Bend, .sl (b_0.Weights.map (cF .f32)), .f .f32 b_0.Fall.X, .f .f32 b_0.Fall.Y, .f .f32 b_0.Fall.Z] 0, .ref [.sl (b_0.Mesh.Places.map GVector.cells), .sl (b_0.Mesh.Triangles.map (cL (cI .i64))), .sl (b_0.Springs.map GSpring.cells), .f .f32 b_0.Film, .f .f32 b_0.Bend, .sl (b_0.Weights.map (cF .f32)), .f .f32 b_0.Fall.X, .f .f32 b_0.Fall.Y, .f .f32 b_0.Fall.Z] 2, .sl (b_0.Springs.map GSpring.cells), .i .i64 (b_0.Springs.length : Int), .i .i64 x_l0, .any, .any, .any, .any, .any, .any, .any, .any, .any, .any, .any, .any, .any, .any, .any, .any, .any], []⟩)
          (st2 := ⟨[.ref [.sl (b_0.Mesh.Places.map GVector.cells), .sl (b_0.Mesh.Triangles.map (cL (cI .i64))), .sl (b_0.Springs.map GSpring.cells), .f .f32 b_0.Film, .f .f32 b_0.Bend, .sl (b_0.Weights.map (cF .f32)), .f .f32 b_0.Fall.X, .f .f32 b_0.Fall.Y, .f .f32 b_0.Fall.Z] 0, .any, .any, .any, .ref [.sl (b_0.Mesh.Places.map GVector.cells), .sl (b_0.Mesh.Triangles.map (cL (cI .i64))), .sl (b_0.Springs.map GSpring.cells), .f .f32 b_0.Film, .f .f32 b_0.Bend, .sl (b_0.Weights.map (cF .f32)), .f .f32 b_0.Fall.X, .f .f32 b_0.Fall.Y, .f .f32 b_0.Fall.Z] 0, .ref [.sl (b_0.Mesh.Places.map GVector.cells), .sl (b_0.Mesh.Triangles.map (cL (cI .i64))), .sl (b_0.Springs.map GSpring.cells), .f .f32 b_0.Film, .f .f32 b_0.Bend, .sl (b_0.Weights.map (cF .f32)), .f .f32 b_0.Fall.X, .f .f32 b_0.Fall.Y, .f .f32 b_0.Fall.Z] 0, .ref [.sl (b_0.Mesh.Places.map GVector.cells), .sl (b_0.Mesh.Triangles.map (cL (cI .i64))), .sl (b_0.Springs.map GSpring.cells), .f .f32 b_0.Film, .f .f32 b_0.Bend, .sl (b_0.Weights.map (cF .f32)), .f .f32 b_0.Fall.X, .f .f32 b_0.Fall.Y, .f .f32 b_0.Fall.Z] 0, .b (v_spec_l02Is b_0.Mesh), .b (!(v_spec_l02Is b_0.Mesh)), .b (!(v_spec_l02Is b_0.Mesh)), .ref [.sl (b_0.Mesh.Places.map GVector.cells), .sl (b_0.Mesh.Triangles.map (cL (cI .i64))), .sl (b_0.Springs.map GSpring.cells), .f .f32 b_0.Film, .f .f32 b_0.Bend, .sl (b_0.Weights.map (cF .f32)), .f .f32 b_0.Fall.X, .f .f32 b_0.Fall.Y, .f .f32 b_0.Fall.Z] 0, .ref [.sl (b_0.Mesh.Places.map GVector.cells), .sl (b_0.Mesh.Triangles.map (cL (cI .i64))), .sl (b_0.Springs.map GSpring.cells), .f .f32 b_0.Film, .f .f32 b_0.Bend, .sl (b_0.Weights.map (cF .f32)), .f .f32 b_0.Fall.X, .f .f32 b_0.Fall.Y, .f .f32 b_0.Fall.Z] 0, .ref [.sl (b_0.Mesh.Places.map GVector.cells), .sl (b_0.Mesh.Triangles.map (cL (cI .i64))), .sl (b_0.Springs.map GSpring.cells), .f .f32 b_0.Film, .f .f32 b_0.Bend, .sl (b_0.Weights.map (cF .f32)), .f .f32 b_0.Fall.X, .f .f32 b_0.Fall.Y, .f .f32 b_0.Fall.Z] 2, .sl (b_0.Springs.map GSpring.cells), .i .i64 (b_0.Springs.length : Int), .b (decide ((b_0.Springs.length : Int) > 200)), .b (decide ((b_0.Springs.length : Int) > 200)), .b (decide ((b_0.Springs.length : Int) > 200)), .ref [.sl (b_0.Mesh.Places.map GVector.cells), .sl (b_0.Mesh.Triangles.map (cL (cI .i64))), .sl (b_0.Springs.map GSpring.cells), .f .f32 b_0.Film, .f .f32 b_0.Bend, .sl (b_0.Weights.map (cF .f32)), .f .f32 b_0.Fall.X, .f .f32 b_0.Fall.Y, .f .f32 b_0.Fall.Z] 0, .ref [.sl (b_0.Mesh.Places.map GVector.cells), .sl (b_0.Mesh.Triangles.map (cL (cI .i64))), .sl (b_0.Springs.map GSpring.cells), .f .f32 b_0.Film, .f .f32 b_0.Bend, .sl (b_0.Weights.map (cF .f32)), .f .f32 b_0.Fall.X, .f .f32 b_0.Fall.Y, .f .f32 b_0.Fall.Z] 0, .ref [.sl (b_0.Mesh.Places.map GVector.cells), .sl (b_0.Mesh.Triangles.map (cL (cI .i64))), .sl (b_0.Springs.map GSpring.cells), .f .f32 b_0.Film, .f .f32 b_0.Bend, .sl (b_0.Weights.map (cF .f32)), .f .f32 b_0.Fall.X, .f .f32 b_0.Fall.Y, .f .f32 b_0.Fall.Z] 5, .sl (b_0.Weights.map (cF .f32)), .i .i64 (b_0.Weights.length : Int), .ref [.sl (b_0.Mesh.Places.map GVector.cells), .sl (b_0.Mesh.Triangles.map (cL (cI .i64))), .sl (b_0.Springs.map GSpring.cells), .f .f32 b_0.Film, .f .f32 b_0.Bend, .sl (b_0.Weights.map (cF .f32)), .f .f32 b_0.Fall.X, .f .f32 b_0.Fall.Y, .f .f32 b_0.Fall.Z] 0, .ref [.sl (b_0.Mesh.Places.map GVector.cells), .sl (b_0.Mesh.Triangles.map (cL (cI .i64))), .sl (b_0.Springs.map GSpring.cells), .f .f32 b_0.Film, .f .f32 b_0.Bend, .sl (b_0.Weights.map (cF .f32)), .f .f32 b_0.Fall.X, .f .f32 b_0.Fall.Y, .f .f32 b_0.Fall.Z] 0, .ref [.sl (b_0.Mesh.Places.map GVector.cells), .sl (b_0.Mesh.Triangles.map (cL (cI .i64))), .sl (b_0.Springs.map GSpring.cells), .f .f32 b_0.Film, .f .f32 b_0.Bend, .sl (b_0.Weights.map (cF .f32)), .f .f32 b_0.Fall.X, .f .f32 b_0.Fall.Y, .f .f32 b_0.Fall.Z] 0, .ref [.sl (b_0.Mesh.Places.map GVector.cells), .sl (b_0.Mesh.Triangles.map (cL (cI .i64))), .sl (b_0.Springs.map GSpring.cells), .f .f32 b_0.Film, .f .f32 b_0.Bend, .sl (b_0.Weights.map (cF .f32)), .f .f32 b_0.Fall.X, .f .f32 b_0.Fall.Y, .f .f32 b_0.Fall.Z] 0, .sl (b_0.Mesh.Places.map GVector.cells), .i .i64 (b_0.Mesh.Places.length : Int), .b ((b_0.Weights.length : Int) != (b_0.Mesh.Places.length : Int)), .b ((b_0.Weights.length : Int) != (b_0.Mesh.Places.length : Int)), .ref [.sl (b_0.Mesh.Places.map GVector.cells), .sl (b_0.Mesh.Triangles.map (cL (cI .i64))), .sl (b_0.Springs.map GSpring.cells), .f .f32 b_0.Film, .f .f32 b_0.Bend, .sl (b_0.Weights.map (cF .f32)), .f .f32 b_0.Fall.X, .f .f32 b_0.Fall.Y, .f .f32 b_0.Fall.Z] 0, .ref [.sl (b_0.Mesh.Places.map GVector.cells), .sl (b_0.Mesh.Triangles.map (cL (cI .i64))), .sl (b_0.Springs.map GSpring.cells), .f .f32 b_0.Film, .f .f32 b_0.Bend, .sl (b_0.Weights.map (cF .f32)), .f .f32 b_0.Fall.X, .f .f32 b_0.Fall.Y, .f .f32 b_0.Fall.Z] 0, .ref [.sl (b_0.Mesh.Places.map GVector.cells), .sl (b_0.Mesh.Triangles.map (cL (cI .i64))), .sl (b_0.Springs.map GSpring.cells), .f .f32 b_0.Film, .f .f32 b_0.Bend, .sl (b_0.Weights.map (cF .f32)), .f .f32 b_0.Fall.X, .f .f32 b_0.Fall.Y, .f .f32 b_0.Fall.Z] 2, .sl (b_0.Springs.map GSpring.cells), .i .i64 (b_0.Springs.length : Int), .i .i64 (x_l0 + 1), .any, .any, .any, .any, .any, .any, .any, .any, .any, .any, .any, .any, .any, .any, .any, .any, .any], []⟩)
          (ans := [.bo true, .keep [12, 12], .el [.i .i64 ((b_0.Springs.getD x_l0.toNat default).A), .i .i64 ((b_0.Springs.getD x_l0.toNat default).B), .f .f32 ((b_0.Springs.getD x_l0.toNat default).Long), .f .f32 ((b_0.Springs.getD x_l0.toNat default).Stiff)], .num (b_0.Mesh.Places.length : Int), .call (.b (v_spec_l03Spring (b_0.Springs.getD x_l0.toNat default) (b_0.Mesh.Places.length : Int))) [], .bo false, .num (x_l0 + 1)])
          (ps := []) (mask := [true, false, false, false, true, true, true, true, true, true, true, true, true, true, true, true, true, true, true, true, true, true, true, true, true, true, true, true, true, true, true, true, true, true, true, true, true, false, false, false, false, false, false, false, false, false, false, false, false, false, false, false, false, false]) (ks := [])
          (C := [(decide (x_l0 < (b_0.Springs.length : Int))) = true,
            0 ≤ x_l0 ∧ (b_0.Springs.map GSpring.cells)[Int.toNat x_l0]? = some [.i .i64 ((b_0.Springs.getD x_l0.toNat default).A), .i .i64 ((b_0.Springs.getD x_l0.toNat default).B), .f .f32 ((b_0.Springs.getD x_l0.toNat default).Long), .f .f32 ((b_0.Springs.getD x_l0.toNat default).Stiff)],
            (((b_0.Mesh.Places.map GVector.cells).length : Nat) : Int) = (b_0.Mesh.Places.length : Int),
            Fn Go.Proofs.Try.prog 138 [.ref [.i .i64 ((b_0.Springs.getD x_l0.toNat default).A), .i .i64 ((b_0.Springs.getD x_l0.toNat default).B), .f .f32 ((b_0.Springs.getD x_l0.toNat default).Long), .f .f32 ((b_0.Springs.getD x_l0.toNat default).Stiff)] 0, .i .i64 (b_0.Mesh.Places.length : Int)] (.b (v_spec_l03Spring (b_0.Springs.getD x_l0.toNat default) (b_0.Mesh.Places.length : Int))) [],
            (!(v_spec_l03Spring (b_0.Springs.getD x_l0.toNat default) (b_0.Mesh.Places.length : Int))) = false,
            IntKind.wrap .i64 (x_l0 + 1) = (x_l0 + 1)])
          (by kernel_rfl)
          ⟨h_0, (get_ok (by first | assumption | omega | (simp at * <;> omega) | (simp_all <;> omega)) (by first | assumption | omega | (simp at * <;> omega) | (simp_all <;> omega))), len_ok, (t_spec_l03Spring (b_0.Springs.getD x_l0.toNat default) (b_0.Mesh.Places.length : Int)), (congrArg not h_1), (wrap_id (by first | assumption | omega | (simp at * <;> omega) | (simp_all <;> omega)) (by first | assumption | omega | (simp at * <;> omega) | (simp_all <;> omega))), trivial⟩
          rfl (ih (x_l0 + 1) (show 0 ≤ (x_l0 + 1) from (by first | assumption | omega | (simp at * <;> omega) | (simp_all <;> omega))) (by first | assumption | omega | (simp at * <;> omega) | (simp_all <;> omega)))
      | false =>
        have e : lo_spec_l03Is_1 b_0 (k + 1) x_l0 = (.inl ()) := by simp only [lo_spec_l03Is_1, h_0, h_1, cond_true, cond_false]
        rw [e]
        exact stepK_out (E := E0) E0Ok hMixed (e := .ret) (body := (sub (bodyOf Go.Proofs.Try.f90) [1, 1, 0, 1, 0, 0])) (st := ⟨[.ref [.sl (b_0.Mesh.Places.map GVector.cells), .sl (b_0.Mesh.Triangles.map (cL (cI .i64))), .sl (b_0.Springs.map GSpring.cells), .f .f32 b_0.Film, .f .f32 b_0.Bend, .sl (b_0.Weights.map (cF .f32)), .f .f32 b_0.Fall.X, .f .f32 b_0.Fall.Y, .f .f32 b_0.Fall.Z] 0, .any, .any, .any, .ref [.sl (b_0.Mesh.Places.map GVector.cells), .sl (b_0.Mesh.Triangles.map (cL (cI .i64))), .sl (b_0.Springs.map GSpring.cells), .f .f32 b_0.Film, .f .f32 b_0.Bend, .sl (b_0.Weights.map (cF .f32)), .f .f32 b_0.Fall.X, .f .f32 b_0.Fall.Y, .f .f32 b_0.Fall.Z] 0, .ref [.sl (b_0.Mesh.Places.map GVector.cells), .sl (b_0.Mesh.Triangles.map (cL (cI .i64))), .sl (b_0.Springs.map GSpring.cells), .f .f32 b_0.Film, .f .f32 b_0.Bend, .sl (b_0.Weights.map (cF .f32)), .f .f32 b_0.Fall.X, .f .f32 b_0.Fall.Y, .f .f32 b_0.Fall.Z] 0, .ref [.sl (b_0.Mesh.Places.map GVector.cells), .sl (b_0.Mesh.Triangles.map (cL (cI .i64))), .sl (b_0.Springs.map GSpring.cells), .f .f32 b_0.Film, .f .f32 b_0.Bend, .sl (b_0.Weights.map (cF .f32)), .f .f32 b_0.Fall.X, .f .f32 b_0.Fall.Y, .f .f32 b_0.Fall.Z] 0, .b (v_spec_l02Is b_0.Mesh), .b (!(v_spec_l02Is b_0.Mesh)), .b (!(v_spec_l02Is b_0.Mesh)), .ref [.sl (b_0.Mesh.Places.map GVector.cells), .sl (b_0.Mesh.Triangles.map (cL (cI .i64))), .sl (b_0.Springs.map GSpring.cells), .f .f32 b_0.Film, .f .f32 b_0.Bend, .sl (b_0.Weights.map (cF .f32)), .f .f32 b_0.Fall.X, .f .f32 b_0.Fall.Y, .f .f32 b_0.Fall.Z] 0, .ref [.sl (b_0.Mesh.Places.map GVector.cells), .sl (b_0.Mesh.Triangles.map (cL (cI .i64))), .sl (b_0.Springs.map GSpring.cells), .f .f32 b_0.Film, .f .f32 b_0.Bend, .sl (b_0.Weights.map (cF .f32)), .f .f32 b_0.Fall.X, .f .f32 b_0.Fall.Y, .f .f32 b_0.Fall.Z] 0, .ref [.sl (b_0.Mesh.Places.map GVector.cells), .sl (b_0.Mesh.Triangles.map (cL (cI .i64))), .sl (b_0.Springs.map GSpring.cells), .f .f32 b_0.Film, .f .f32 b_0.Bend, .sl (b_0.Weights.map (cF .f32)), .f .f32 b_0.Fall.X, .f .f32 b_0.Fall.Y, .f .f32 b_0.Fall.Z] 2, .sl (b_0.Springs.map GSpring.cells), .i .i64 (b_0.Springs.length : Int), .b (decide ((b_0.Springs.length : Int) > 200)), .b (decide ((b_0.Springs.length : Int) > 200)), .b (decide ((b_0.Springs.length : Int) > 200)), .ref [.sl (b_0.Mesh.Places.map GVector.cells), .sl (b_0.Mesh.Triangles.map (cL (cI .i64))), .sl (b_0.Springs.map GSpring.cells), .f .f32 b_0.Film, .f .f32 b_0.Bend, .sl (b_0.Weights.map (cF .f32)), .f .f32 b_0.Fall.X, .f .f32 b_0.Fall.Y, .f .f32 b_0.Fall.Z] 0, .ref [.sl (b_0.Mesh.Places.map GVector.cells), .sl (b_0.Mesh.Triangles.map (cL (cI .i64))), .sl (b_0.Springs.map GSpring.cells), .f .f32 b_0.Film, .f .f32 b_0.Bend, .sl (b_0.Weights.map (cF .f32)), .f .f32 b_0.Fall.X, .f .f32 b_0.Fall.Y, .f .f32 b_0.Fall.Z] 0, .ref [.sl (b_0.Mesh.Places.map GVector.cells), .sl (b_0.Mesh.Triangles.map (cL (cI .i64))), .sl (b_0.Springs.map GSpring.cells), .f .f32 b_0.Film, .f .f32 b_0.Bend, .sl (b_0.Weights.map (cF .f32)), .f .f32 b_0.Fall.X, .f .f32 b_0.Fall.Y, .f .f32 b_0.Fall.Z] 5, .sl (b_0.Weights.map (cF .f32)), .i .i64 (b_0.Weights.length : Int), .ref [.sl (b_0.Mesh.Places.map GVector.cells), .sl (b_0.Mesh.Triangles.map (cL (cI .i64))), .sl (b_0.Springs.map GSpring.cells), .f .f32 b_0.Film, .f .f32 b_0.Bend, .sl (b_0.Weights.map (cF .f32)), .f .f32 b_0.Fall.X, .f .f32 b_0.Fall.Y, .f .f32 b_0.Fall.Z] 0, .ref [.sl (b_0.Mesh.Places.map GVector.cells), .sl (b_0.Mesh.Triangles.map (cL (cI .i64))), .sl (b_0.Springs.map GSpring.cells), .f .f32 b_0.Film, .f .f32 b_0.Bend, .sl (b_0.Weights.map (cF .f32)), .f .f32 b_0.Fall.X, .f .f32 b_0.Fall.Y, .f .f32 b_0.Fall.Z] 0, .ref [.sl (b_0.Mesh.Places.map GVector.cells), .sl (b_0.Mesh.Triangles.map (cL (cI .i64))), .sl (b_0.Springs.map GSpring.cells), .f .f32 b_0.Film, .f .f32 b_0.Bend, .sl (b_0.Weights.map (cF .f32)), .f .f32 b_0.Fall.X, .f .f32 b_0.Fall.Y, .f .f32 b_0.Fall.Z] 0, .ref [.sl (b_0.Mesh.Places.map GVector.cells), .sl (b_0.Mesh.Triangles.map (cL (cI .i64))), .sl (b_0.Springs.map GSpring.cells), .f .f32 b_0.Film, .f .f32 b_0.Bend, .sl (b_0.Weights.map (cF .f32)), .f .f32 b_0.Fall.X, .f .f32 b_0.Fall.Y, .f .f32 b_0.Fall.Z] 0, .sl (b_0.Mesh.Places.map GVector.cells), .i .i64 (b_0.Mesh.Places.length : Int), .b ((b_0.Weights.length : Int) != (b_0.Mesh.Places.length : Int)), .b ((b_0.Weights.length : Int) != (b_0.Mesh.Places.length : Int)), .ref [.sl (b_0.Mesh.Places.map GVector.cells), .sl (b_0.Mesh.Triangles.map (cL (cI .i64))), .sl (b_0.Springs.map GSpring.cells), .f .f32 b_0.Film, .f .f32 b_0.Bend, .sl (b_0.Weights.map (cF .f32)), .f .f32 b_0.Fall.X, .f .f32 b_0.Fall.Y, .f .f32 b_0.Fall.Z] 0, .ref [.sl (b_0.Mesh.Places.map GVector.cells), .sl (b_0.Mesh.Triangles.map (cL (cI .i64))), .sl (b_0.Springs.map GSpring.cells), .f .f32 b_0.Film, .f .f32 b_0.Bend, .sl (b_0.Weights.map (cF .f32)), .f .f32 b_0.Fall.X, .f .f32 b_0.Fall.Y, .f .f32 b_0.Fall.Z] 0, .ref [.sl (b_0.Mesh.Places.map GVector.cells), .sl (b_0.Mesh.Triangles.map (cL (cI .i64))), .sl (b_0.Springs.map GSpring.cells), .f .f32 b_0.Film, .f .f32 b_0.Bend, .sl (b_0.Weights.map (cF .f32)), .f .f32 b_0.Fall.X, .f .f32 b_0.Fall.Y, .f .f32 b_0.Fall.Z] 2, .sl (b_0.Springs.map GSpring.cells), .i .i64 (b_0.Springs.length : Int), .i .i64 x_l0, .any, .any, .any, .any, .any, .any, .any, .any, .any, .any, .any, .any, .any, .any, .any, .any, .any], []⟩)
          (st2 := ⟨[.any, .any, .b false, .any, .any, .any, .any, .any, .any, .any, .any, .any, .any, .any, .any, .any, .any, .any, .any, .any, .any, .any, .any, .any, .any, .any, .any, .any, .any, .any, .any, .any, .any, .any, .any, .any, .any, .any, .any, .any, .any, .any, .any, .any, .any, .any, .any, .any, .any, .any, .any, .any, .any, .any], []⟩)
          (ans := [.bo true, .keep [12, 12], .el [.i .i64 ((b_0.Springs.getD x_l0.toNat default).A), .i .i64 ((b_0.Springs.getD x_l0.toNat default).B), .f .f32 ((b_0.Springs.getD x_l0.toNat default).Long), .f .f32 ((b_0.Springs.getD x_l0.toNat default).Stiff)], .num (b_0.Mesh.Places.length : Int), .call (.b (v_spec_l03Spring (b_0.Springs.getD x_l0.toNat default) (b_0.Mesh.Places.length : Int))) [], .bo true])
          (ps := []) (mask := [false, false, true, false, false, false, false, false, false, false, false, false, false, false, false, false, false, false, false, false, false, false, false, false, false, false, false, false, false, false, false, false, false, false, false, false, false, false, false, false, false, false, false, false, false, false, false, false, false, false, false, false, false, false]) (ks := [])
          (C := [(decide (x_l0 < (b_0.Springs.length : Int))) = true,
            0 ≤ x_l0 ∧ (b_0.Springs.map GSpring.cells)[Int.toNat x_l0]? = some [.i .i64 ((b_0.Springs.getD x_l0.toNat default).A), .i .i64 ((b_0.Springs.getD x_l0.toNat default).B), .f .f32 ((b_0.Springs.getD x_l0.toNat default).Long), .f .f32 ((b_0.Springs.getD x_l0.toNat default).Stiff)],
            (((b_0.Mesh.Places.map GVector.cells).length : Nat) : Int) = (b_0.Mesh.Places.length : Int),
            Fn Go.Proofs.Try.prog 138 [.ref [.i .i64 ((b_0.Springs.getD x_l0.toNat default).A), .i .i64 ((b_0.Springs.getD x_l0.toNat default).B), .f .f32 ((b_0.Springs.getD x_l0.toNat default).Long), .f .f32 ((b_0.Springs.getD x_l0.toNat default).Stiff)] 0, .i .i64 (b_0.Mesh.Places.length : Int)] (.b (v_spec_l03Spring (b_0.Springs.getD x_l0.toNat default) (b_0.Mesh.Places.length : Int))) [],
            (!(v_spec_l03Spring (b_0.Springs.getD x_l0.toNat default) (b_0.Mesh.Places.length : Int))) = true])
          (by kernel_rfl)
          ⟨h_0, (get_ok (by first | assumption | omega | (simp at * <;> omega) | (simp_all <;> omega)) (by first | assumption | omega | (simp at * <;> omega) | (simp_all <;> omega))), len_ok, (t_spec_l03Spring (b_0.Springs.getD x_l0.toNat default) (b_0.Mesh.Places.length : Int)), (congrArg not h_1), trivial⟩
          (by intro h; cases h) rfl
    | false =>
      have e : lo_spec_l03Is_1 b_0 (k + 1) x_l0 = (.inr ()) := by simp only [lo_spec_l03Is_1, h_0, cond_false]
      rw [e]
      exact stepK_out (E := E0) E0Ok hMixed (e := (.exit 0)) (body := (sub (bodyOf Go.Proofs.Try.f90) [1, 1, 0, 1, 0, 0])) (st := ⟨[.ref [.sl (b_0.Mesh.Places.map GVector.cells), .sl (b_0.Mesh.Triangles.map (cL (cI .i64))), .sl (b_0.Springs.map GSpring.cells), .f .f32 b_0.Film, .f .f32 b_0.Bend, .sl (b_0.Weights.map (cF .f32)), .f .f32 b_0.Fall.X, .f .f32 b_0.Fall.Y, .f .f32 b_0.Fall.Z] 0, .any, .any, .any, .ref [.sl (b_0.Mesh.Places.map GVector.cells), .sl (b_0.Mesh.Triangles.map (cL (cI .i64))), .sl (b_0.Springs.map GSpring.cells), .f .f32 b_0.Film, .f .f32 b_0.Bend, .sl (b_0.Weights.map (cF .f32)), .f .f32 b_0.Fall.X, .f .f32 b_0.Fall.Y, .f .f32 b_0.Fall.Z] 0, .ref [.sl (b_0.Mesh.Places.map GVector.cells), .sl (b_0.Mesh.Triangles.map (cL (cI .i64))), .sl (b_0.Springs.map GSpring.cells), .f .f32 b_0.Film, .f .f32 b_0.Bend, .sl (b_0.Weights.map (cF .f32)), .f .f32 b_0.Fall.X, .f .f32 b_0.Fall.Y, .f .f32 b_0.Fall.Z] 0, .ref [.sl (b_0.Mesh.Places.map GVector.cells), .sl (b_0.Mesh.Triangles.map (cL (cI .i64))), .sl (b_0.Springs.map GSpring.cells), .f .f32 b_0.Film, .f .f32 b_0.Bend, .sl (b_0.Weights.map (cF .f32)), .f .f32 b_0.Fall.X, .f .f32 b_0.Fall.Y, .f .f32 b_0.Fall.Z] 0, .b (v_spec_l02Is b_0.Mesh), .b (!(v_spec_l02Is b_0.Mesh)), .b (!(v_spec_l02Is b_0.Mesh)), .ref [.sl (b_0.Mesh.Places.map GVector.cells), .sl (b_0.Mesh.Triangles.map (cL (cI .i64))), .sl (b_0.Springs.map GSpring.cells), .f .f32 b_0.Film, .f .f32 b_0.Bend, .sl (b_0.Weights.map (cF .f32)), .f .f32 b_0.Fall.X, .f .f32 b_0.Fall.Y, .f .f32 b_0.Fall.Z] 0, .ref [.sl (b_0.Mesh.Places.map GVector.cells), .sl (b_0.Mesh.Triangles.map (cL (cI .i64))), .sl (b_0.Springs.map GSpring.cells), .f .f32 b_0.Film, .f .f32 b_0.Bend, .sl (b_0.Weights.map (cF .f32)), .f .f32 b_0.Fall.X, .f .f32 b_0.Fall.Y, .f .f32 b_0.Fall.Z] 0, .ref [.sl (b_0.Mesh.Places.map GVector.cells), .sl (b_0.Mesh.Triangles.map (cL (cI .i64))), .sl (b_0.Springs.map GSpring.cells), .f .f32 b_0.Film, .f .f32 b_0.Bend, .sl (b_0.Weights.map (cF .f32)), .f .f32 b_0.Fall.X, .f .f32 b_0.Fall.Y, .f .f32 b_0.Fall.Z] 2, .sl (b_0.Springs.map GSpring.cells), .i .i64 (b_0.Springs.length : Int), .b (decide ((b_0.Springs.length : Int) > 200)), .b (decide ((b_0.Springs.length : Int) > 200)), .b (decide ((b_0.Springs.length : Int) > 200)), .ref [.sl (b_0.Mesh.Places.map GVector.cells), .sl (b_0.Mesh.Triangles.map (cL (cI .i64))), .sl (b_0.Springs.map GSpring.cells), .f .f32 b_0.Film, .f .f32 b_0.Bend, .sl (b_0.Weights.map (cF .f32)), .f .f32 b_0.Fall.X, .f .f32 b_0.Fall.Y, .f .f32 b_0.Fall.Z] 0, .ref [.sl (b_0.Mesh.Places.map GVector.cells), .sl (b_0.Mesh.Triangles.map (cL (cI .i64))), .sl (b_0.Springs.map GSpring.cells), .f .f32 b_0.Film, .f .f32 b_0.Bend, .sl (b_0.Weights.map (cF .f32)), .f .f32 b_0.Fall.X, .f .f32 b_0.Fall.Y, .f .f32 b_0.Fall.Z] 0, .ref [.sl (b_0.Mesh.Places.map GVector.cells), .sl (b_0.Mesh.Triangles.map (cL (cI .i64))), .sl (b_0.Springs.map GSpring.cells), .f .f32 b_0.Film, .f .f32 b_0.Bend, .sl (b_0.Weights.map (cF .f32)), .f .f32 b_0.Fall.X, .f .f32 b_0.Fall.Y, .f .f32 b_0.Fall.Z] 5, .sl (b_0.Weights.map (cF .f32)), .i .i64 (b_0.Weights.length : Int), .ref [.sl (b_0.Mesh.Places.map GVector.cells), .sl (b_0.Mesh.Triangles.map (cL (cI .i64))), .sl (b_0.Springs.map GSpring.cells), .f .f32 b_0.Film, .f .f32 b_0.Bend, .sl (b_0.Weights.map (cF .f32)), .f .f32 b_0.Fall.X, .f .f32 b_0.Fall.Y, .f .f32 b_0.Fall.Z] 0, .ref [.sl (b_0.Mesh.Places.map GVector.cells), .sl (b_0.Mesh.Triangles.map (cL (cI .i64))), .sl (b_0.Springs.map GSpring.cells), .f .f32 b_0.Film, .f .f32 b_0.Bend, .sl (b_0.Weights.map (cF .f32)), .f .f32 b_0.Fall.X, .f .f32 b_0.Fall.Y, .f .f32 b_0.Fall.Z] 0, .ref [.sl (b_0.Mesh.Places.map GVector.cells), .sl (b_0.Mesh.Triangles.map (cL (cI .i64))), .sl (b_0.Springs.map GSpring.cells), .f .f32 b_0.Film, .f .f32 b_0.Bend, .sl (b_0.Weights.map (cF .f32)), .f .f32 b_0.Fall.X, .f .f32 b_0.Fall.Y, .f .f32 b_0.Fall.Z] 0, .ref [.sl (b_0.Mesh.Places.map GVector.cells), .sl (b_0.Mesh.Triangles.map (cL (cI .i64))), .sl (b_0.Springs.map GSpring.cells), .f .f32 b_0.Film, .f .f32 b_0.Bend, .sl (b_0.Weights.map (cF .f32)), .f .f32 b_0.Fall.X, .f .f32 b_0.Fall.Y, .f .f32 b_0.Fall.Z] 0, .sl (b_0.Mesh.Places.map GVector.cells), .i .i64 (b_0.Mesh.Places.length : Int), .b ((b_0.Weights.length : Int) != (b_0.Mesh.Places.length : Int)), .b ((b_0.Weights.length : Int) != (b_0.Mesh.Places.length : Int)), .ref [.sl (b_0.Mesh.Places.map GVector.cells), .sl (b_0.Mesh.Triangles.map (cL (cI .i64))), .sl (b_0.Springs.map GSpring.cells), .f .f32 b_0.Film, .f .f32 b_0.Bend, .sl (b_0.Weights.map (cF .f32)), .f .f32 b_0.Fall.X, .f .f32 b_0.Fall.Y, .f .f32 b_0.Fall.Z] 0, .ref [.sl (b_0.Mesh.Places.map GVector.cells), .sl (b_0.Mesh.Triangles.map (cL (cI .i64))), .sl (b_0.Springs.map GSpring.cells), .f .f32 b_0.Film, .f .f32 b_0.Bend, .sl (b_0.Weights.map (cF .f32)), .f .f32 b_0.Fall.X, .f .f32 b_0.Fall.Y, .f .f32 b_0.Fall.Z] 0, .ref [.sl (b_0.Mesh.Places.map GVector.cells), .sl (b_0.Mesh.Triangles.map (cL (cI .i64))), .sl (b_0.Springs.map GSpring.cells), .f .f32 b_0.Film, .f .f32 b_0.Bend, .sl (b_0.Weights.map (cF .f32)), .f .f32 b_0.Fall.X, .f .f32 b_0.Fall.Y, .f .f32 b_0.Fall.Z] 2, .sl (b_0.Springs.map GSpring.cells), .i .i64 (b_0.Springs.length : Int), .i .i64 x_l0, .any, .any, .any, .any, .any, .any, .any, .any, .any, .any, .any, .any, .any, .any, .any, .any, .any], []⟩)
        (st2 := ⟨[.ref [.sl (b_0.Mesh.Places.map GVector.cells), .sl (b_0.Mesh.Triangles.map (cL (cI .i64))), .sl (b_0.Springs.map GSpring.cells), .f .f32 b_0.Film, .f .f32 b_0.Bend, .sl (b_0.Weights.map (cF .f32)), .f .f32 b_0.Fall.X, .f .f32 b_0.Fall.Y, .f .f32 b_0.Fall.Z] 0, .any, .any, .any, .ref [.sl (b_0.Mesh.Places.map GVector.cells), .sl (b_0.Mesh.Triangles.map (cL (cI .i64))), .sl (b_0.Springs.map GSpring.cells), .f .f32 b_0.Film, .f .f32 b_0.Bend, .sl (b_0.Weights.map (cF .f32)), .f .f32 b_0.Fall.X, .f .f32 b_0.Fall.Y, .f .f32 b_0.Fall.Z] 0, .ref [.sl (b_0.Mesh.Places.map GVector.cells), .sl (b_0.Mesh.Triangles.map (cL (cI .i64))), .sl (b_0.Springs.map GSpring.cells), .f .f32 b_0.Film, .f .f32 b_0.Bend, .sl (b_0.Weights.map (cF .f32)), .f .f32 b_0.Fall.X, .f .f32 b_0.Fall.Y, .f .f32 b_0.Fall.Z] 0, .ref [.sl (b_0.Mesh.Places.map GVector.cells), .sl (b_0.Mesh.Triangles.map (cL (cI .i64))), .sl (b_0.Springs.map GSpring.cells), .f .f32 b_0.Film, .f .f32 b_0.Bend, .sl (b_0.Weights.map (cF .f32)), .f .f32 b_0.Fall.X, .f .f32 b_0.Fall.Y, .f .f32 b_0.Fall.Z] 0, .b (v_spec_l02Is b_0.Mesh), .b (!(v_spec_l02Is b_0.Mesh)), .b (!(v_spec_l02Is b_0.Mesh)), .ref [.sl (b_0.Mesh.Places.map GVector.cells), .sl (b_0.Mesh.Triangles.map (cL (cI .i64))), .sl (b_0.Springs.map GSpring.cells), .f .f32 b_0.Film, .f .f32 b_0.Bend, .sl (b_0.Weights.map (cF .f32)), .f .f32 b_0.Fall.X, .f .f32 b_0.Fall.Y, .f .f32 b_0.Fall.Z] 0, .ref [.sl (b_0.Mesh.Places.map GVector.cells), .sl (b_0.Mesh.Triangles.map (cL (cI .i64))), .sl (b_0.Springs.map GSpring.cells), .f .f32 b_0.Film, .f .f32 b_0.Bend, .sl (b_0.Weights.map (cF .f32)), .f .f32 b_0.Fall.X, .f .f32 b_0.Fall.Y, .f .f32 b_0.Fall.Z] 0, .ref [.sl (b_0.Mesh.Places.map GVector.cells), .sl (b_0.Mesh.Triangles.map (cL (cI .i64))), .sl (b_0.Springs.map GSpring.cells), .f .f32 b_0.Film, .f .f32 b_0.Bend, .sl (b_0.Weights.map (cF .f32)), .f .f32 b_0.Fall.X, .f .f32 b_0.Fall.Y, .f .f32 b_0.Fall.Z] 2, .sl (b_0.Springs.map GSpring.cells), .i .i64 (b_0.Springs.length : Int), .b (decide ((b_0.Springs.length : Int) > 200)), .b (decide ((b_0.Springs.length : Int) > 200)), .b (decide ((b_0.Springs.length : Int) > 200)), .ref [.sl (b_0.Mesh.Places.map GVector.cells), .sl (b_0.Mesh.Triangles.map (cL (cI .i64))), .sl (b_0.Springs.map GSpring.cells), .f .f32 b_0.Film, .f .f32 b_0.Bend, .sl (b_0.Weights.map (cF .f32)), .f .f32 b_0.Fall.X, .f .f32 b_0.Fall.Y, .f .f32 b_0.Fall.Z] 0, .ref [.sl (b_0.Mesh.Places.map GVector.cells), .sl (b_0.Mesh.Triangles.map (cL (cI .i64))), .sl (b_0.Springs.map GSpring.cells), .f .f32 b_0.Film, .f .f32 b_0.Bend, .sl (b_0.Weights.map (cF .f32)), .f .f32 b_0.Fall.X, .f .f32 b_0.Fall.Y, .f .f32 b_0.Fall.Z] 0, .ref [.sl (b_0.Mesh.Places.map GVector.cells), .sl (b_0.Mesh.Triangles.map (cL (cI .i64))), .sl (b_0.Springs.map GSpring.cells), .f .f32 b_0.Film, .f .f32 b_0.Bend, .sl (b_0.Weights.map (cF .f32)), .f .f32 b_0.Fall.X, .f .f32 b_0.Fall.Y, .f .f32 b_0.Fall.Z] 5, .sl (b_0.Weights.map (cF .f32)), .i .i64 (b_0.Weights.length : Int), .ref [.sl (b_0.Mesh.Places.map GVector.cells), .sl (b_0.Mesh.Triangles.map (cL (cI .i64))), .sl (b_0.Springs.map GSpring.cells), .f .f32 b_0.Film, .f .f32 b_0.Bend, .sl (b_0.Weights.map (cF .f32)), .f .f32 b_0.Fall.X, .f .f32 b_0.Fall.Y, .f .f32 b_0.Fall.Z] 0, .ref [.sl (b_0.Mesh.Places.map GVector.cells), .sl (b_0.Mesh.Triangles.map (cL (cI .i64))), .sl (b_0.Springs.map GSpring.cells), .f .f32 b_0.Film, .f .f32 b_0.Bend, .sl (b_0.Weights.map (cF .f32)), .f .f32 b_0.Fall.X, .f .f32 b_0.Fall.Y, .f .f32 b_0.Fall.Z] 0, .ref [.sl (b_0.Mesh.Places.map GVector.cells), .sl (b_0.Mesh.Triangles.map (cL (cI .i64))), .sl (b_0.Springs.map GSpring.cells), .f .f32 b_0.Film, .f .f32 b_0.Bend, .sl (b_0.Weights.map (cF .f32)), .f .f32 b_0.Fall.X, .f .f32 b_0.Fall.Y, .f .f32 b_0.Fall.Z] 0, .ref [.sl (b_0.Mesh.Places.map GVector.cells), .sl (b_0.Mesh.Triangles.map (cL (cI .i64))), .sl (b_0.Springs.map GSpring.cells), .f .f32 b_0.Film, .f .f32 b_0.Bend, .sl (b_0.Weights.map (cF .f32)), .f .f32 b_0.Fall.X, .f .f32 b_0.Fall.Y, .f .f32 b_0.Fall.Z] 0, .sl (b_0.Mesh.Places.map GVector.cells), .i .i64 (b_0.Mesh.Places.length : Int), .b ((b_0.Weights.length : Int) != (b_0.Mesh.Places.length : Int)), .b ((b_0.Weights.length : Int) != (b_0.Mesh.Places.length : Int)), .ref [.sl (b_0.Mesh.Places.map GVector.cells), .sl (b_0.Mesh.Triangles.map (cL (cI .i64))), .sl (b_0.Springs.map GSpring.cells), .f .f32 b_0.Film, .f .f32 b_0.Bend, .sl (b_0.Weights.map (cF .f32)), .f .f32 b_0.Fall.X, .f .f32 b_0.Fall.Y, .f .f32 b_0.Fall.Z] 0, .ref [.sl (b_0.Mesh.Places.map GVector.cells), .sl (b_0.Mesh.Triangles.map (cL (cI .i64))), .sl (b_0.Springs.map GSpring.cells), .f .f32 b_0.Film, .f .f32 b_0.Bend, .sl (b_0.Weights.map (cF .f32)), .f .f32 b_0.Fall.X, .f .f32 b_0.Fall.Y, .f .f32 b_0.Fall.Z] 0, .ref [.sl (b_0.Mesh.Places.map GVector.cells), .sl (b_0.Mesh.Triangles.map (cL (cI .i64))), .sl (b_0.Springs.map GSpring.cells), .f .f32 b_0.Film, .f .f32 b_0.Bend, .sl (b_0.Weights.map (cF .f32)), .f .f32 b_0.Fall.X, .f .f32 b_0.Fall.Y, .f .f32 b_0.Fall.Z] 2, .sl (b_0.Springs.map GSpring.cells), .any, .any, .any, .any, .any, .any, .any, .any, .any, .any, .any, .any, .any, .any, .any, .any, .any, .any, .any], []⟩)
        (ans := [.bo false])
        (ps := []) (mask := [true, false, false, false, true, true, true, true, true, true, true, true, true, true, true, true, true, true, true, true, true, true, true, true, true, true, true, true, true, true, true, true, true, true, true, false, false, false, false, false, false, false, false, false, false, false, false, false, false, false, false, false, false, false]) (ks := [])
        (C := [(decide (x_l0 < (b_0.Springs.length : Int))) = false])
        (by kernel_rfl)
        ⟨h_0, trivial⟩
        (by intro h; cases h) rfl

end Go.Ab
