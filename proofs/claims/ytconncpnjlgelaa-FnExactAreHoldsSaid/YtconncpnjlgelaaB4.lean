/- The functions of this seat as plain Lean, and that the program's are these. Printed by a program of the prover's own. -/
import Derived.Test.YtconncpnjlgelaaB3
set_option linter.unusedVariables false
set_option maxRecDepth 100000
namespace Go.Ab
open Go.RowKit

/-- impl.isFiniteVector -/
def v_impl_isFiniteVector (v_0 : GVector) : Bool := (cond (v_impl_IsFinite v_0.X)
  (cond (v_impl_IsFinite v_0.Y)
    (v_impl_IsFinite v_0.Z)
    false)
  false)

theorem t_impl_isFiniteVector (v_0 : GVector)   : Fn Go.Proofs.Try.prog 131 [.agg [.f .f32 v_0.X, .f .f32 v_0.Y, .f .f32 v_0.Z]] (.b (v_impl_isFiniteVector v_0)) [] := by
  cases h0 : (v_impl_IsFinite v_0.X) with
  | true =>
    cases h1 : (v_impl_IsFinite v_0.Y) with
    | true =>
      exact Fn.cast (CallSt.fn (callSt_of_evK (E := E0) E0Ok hMixed (c := bodyOf Go.Proofs.Try.f131) (rows := []) (r := .b (v_impl_IsFinite v_0.Z)) (rows' := [])
        (ans := [.call (.b (v_impl_IsFinite v_0.X)) [], .bo true, .bo true, .bo true, .call (.b (v_impl_IsFinite v_0.Y)) [], .bo true, .bo true, .bo true, .bo true, .call (.b (v_impl_IsFinite v_0.Z)) [], .bo true, .keep []])
        (ps := [])
        (C := [Fn Go.Proofs.Try.prog 67 [.f .f32 v_0.X] (.b (v_impl_IsFinite v_0.X)) [],
          (v_impl_IsFinite v_0.X) = true,
          (v_impl_IsFinite v_0.X) = true,
          (v_impl_IsFinite v_0.X) = true,
          Fn Go.Proofs.Try.prog 67 [.f .f32 v_0.Y] (.b (v_impl_IsFinite v_0.Y)) [],
          (v_impl_IsFinite v_0.X) = true,
          (v_impl_IsFinite v_0.Y) = true,
          (v_impl_IsFinite v_0.Y) = true,
          (v_impl_IsFinite v_0.Y) = true,
          Fn Go.Proofs.Try.prog 67 [.f .f32 v_0.Z] (.b (v_impl_IsFinite v_0.Z)) [],
          (v_impl_IsFinite v_0.Y) = true])
        Go.Proofs.Try.func131 rfl (by kernel_rfl) (by kernel_rfl)
        ⟨(t_impl_IsFinite v_0.X), h0, h0, h0, (t_impl_IsFinite v_0.Y), h0, h1, h1, h1, (t_impl_IsFinite v_0.Z), h1, trivial⟩) rfl) (by simp only [v_impl_isFiniteVector, h0, h1, cond_true]) rfl
    | false =>
      exact Fn.cast (CallSt.fn (callSt_of_evK (E := E0) E0Ok hMixed (c := bodyOf Go.Proofs.Try.f131) (rows := []) (r := .b false) (rows' := [])
        (ans := [.call (.b (v_impl_IsFinite v_0.X)) [], .bo true, .bo true, .bo true, .call (.b (v_impl_IsFinite v_0.Y)) [], .bo true, .bo false, .bo false, .bo false, .bo false, .keep []])
        (ps := [])
        (C := [Fn Go.Proofs.Try.prog 67 [.f .f32 v_0.X] (.b (v_impl_IsFinite v_0.X)) [],
          (v_impl_IsFinite v_0.X) = true,
          (v_impl_IsFinite v_0.X) = true,
          (v_impl_IsFinite v_0.X) = true,
          Fn Go.Proofs.Try.prog 67 [.f .f32 v_0.Y] (.b (v_impl_IsFinite v_0.Y)) [],
          (v_impl_IsFinite v_0.X) = true,
          (v_impl_IsFinite v_0.Y) = false,
          (v_impl_IsFinite v_0.Y) = false,
          (v_impl_IsFinite v_0.Y) = false,
          (v_impl_IsFinite v_0.Y) = false])
        Go.Proofs.Try.func131 rfl (by kernel_rfl) (by kernel_rfl)
        ⟨(t_impl_IsFinite v_0.X), h0, h0, h0, (t_impl_IsFinite v_0.Y), h0, h1, h1, h1, h1, trivial⟩) rfl) (by simp only [v_impl_isFiniteVector, h0, h1, cond_true, cond_false]) rfl
  | false =>
    exact Fn.cast (CallSt.fn (callSt_of_evK (E := E0) E0Ok hMixed (c := bodyOf Go.Proofs.Try.f131) (rows := []) (r := .b false) (rows' := [])
      (ans := [.call (.b (v_impl_IsFinite v_0.X)) [], .bo false, .bo false, .bo false, .bo false, .bo false, .bo false, .bo false, .bo false, .keep []])
      (ps := [])
      (C := [Fn Go.Proofs.Try.prog 67 [.f .f32 v_0.X] (.b (v_impl_IsFinite v_0.X)) [],
        (v_impl_IsFinite v_0.X) = false,
        (v_impl_IsFinite v_0.X) = false,
        (v_impl_IsFinite v_0.X) = false,
        (v_impl_IsFinite v_0.X) = false,
        false = false,
        false = false,
        false = false,
        false = false])
      Go.Proofs.Try.func131 rfl (by kernel_rfl) (by kernel_rfl)
      ⟨(t_impl_IsFinite v_0.X), h0, h0, h0, h0, rfl, rfl, rfl, rfl, trivial⟩) rfl) (by simp only [v_impl_isFiniteVector, h0, cond_false]) rfl

/-- impl.InnerOf -/
def v_impl_InnerOf (a_0 : GVector) (b_1 : GVector) : Nat := (fop .add .f32 (fop .add .f32 (fop .mul .f32 a_0.X b_1.X) (fop .mul .f32 a_0.Y b_1.Y)) (fop .mul .f32 a_0.Z b_1.Z))

theorem t_impl_InnerOf (a_0 : GVector) (b_1 : GVector)   : Fn Go.Proofs.Try.prog 132 [.agg [.f .f32 a_0.X, .f .f32 a_0.Y, .f .f32 a_0.Z], .agg [.f .f32 b_1.X, .f .f32 b_1.Y, .f .f32 b_1.Z]] (.f .f32 (v_impl_InnerOf a_0 b_1)) [] := by
  exact Fn.cast (CallSt.fn (callSt_of_evK (E := E0) E0Ok hMixed (c := bodyOf Go.Proofs.Try.f132) (rows := []) (r := .f .f32 (fop .add .f32 (fop .add .f32 (fop .mul .f32 a_0.X b_1.X) (fop .mul .f32 a_0.Y b_1.Y)) (fop .mul .f32 a_0.Z b_1.Z))) (rows' := [])
    (ans := [.keep []])
    (ps := [])
    (C := [])
    Go.Proofs.Try.func132 rfl (by kernel_rfl) (by kernel_rfl)
    trivial) rfl) rfl rfl

/-- impl.isOver -/
def v_impl_isOver (x_0 : Nat) : Bool := (cond (v_impl_IsFinite x_0)
  (fcmp .gtr .f32 x_0 0)
  false)

theorem t_impl_isOver (x_0 : Nat)   : Fn Go.Proofs.Try.prog 68 [.f .f32 x_0] (.b (v_impl_isOver x_0)) [] := by
  cases h0 : (v_impl_IsFinite x_0) with
  | true =>
    exact Fn.cast (CallSt.fn (callSt_of_evK (E := E0) E0Ok hMixed (c := bodyOf Go.Proofs.Try.f68) (rows := []) (r := .b (fcmp .gtr .f32 x_0 0)) (rows' := [])
      (ans := [.call (.b (v_impl_IsFinite x_0)) [], .bo true, .bo true, .bo true, .keep []])
      (ps := [])
      (C := [Fn Go.Proofs.Try.prog 67 [.f .f32 x_0] (.b (v_impl_IsFinite x_0)) [],
        (v_impl_IsFinite x_0) = true,
        (v_impl_IsFinite x_0) = true,
        (v_impl_IsFinite x_0) = true])
      Go.Proofs.Try.func68 rfl (by kernel_rfl) (by kernel_rfl)
      ⟨(t_impl_IsFinite x_0), h0, h0, h0, trivial⟩) rfl) (by simp only [v_impl_isOver, h0, cond_true]) rfl
  | false =>
    exact Fn.cast (CallSt.fn (callSt_of_evK (E := E0) E0Ok hMixed (c := bodyOf Go.Proofs.Try.f68) (rows := []) (r := .b false) (rows' := [])
      (ans := [.call (.b (v_impl_IsFinite x_0)) [], .bo false, .bo false, .bo false, .keep []])
      (ps := [])
      (C := [Fn Go.Proofs.Try.prog 67 [.f .f32 x_0] (.b (v_impl_IsFinite x_0)) [],
        (v_impl_IsFinite x_0) = false,
        (v_impl_IsFinite x_0) = false,
        (v_impl_IsFinite x_0) = false])
      Go.Proofs.Try.func68 rfl (by kernel_rfl) (by kernel_rfl)
      ⟨(t_impl_IsFinite x_0), h0, h0, h0, trivial⟩) rfl) (by simp only [v_impl_isOver, h0, cond_false]) rfl

/-- impl.IsHold -/
def v_impl_IsHold (h_0 : GHold) : Bool := (cond (decide (h_0.Place < 0))
  false
  (cond (v_impl_within h_0.Kind 0 2)
    (cond (v_impl_isFiniteVector h_0.At)
      (cond (v_impl_isFiniteVector h_0.Way)
        (cond (h_0.Kind == 0)
          true
          (v_impl_isOver (v_impl_InnerOf h_0.Way h_0.Way)))
        false)
      false)
    false))

theorem t_impl_IsHold (h_0 : GHold)   : Fn Go.Proofs.Try.prog 79 [.agg [.i .i64 h_0.Place, .i .i64 h_0.Kind, .f .f32 h_0.At.X, .f .f32 h_0.At.Y, .f .f32 h_0.At.Z, .f .f32 h_0.Way.X, .f .f32 h_0.Way.Y, .f .f32 h_0.Way.Z]] (.b (v_impl_IsHold h_0)) [] := by
  cases h0 : (decide (h_0.Place < 0)) with
  | true =>
    exact Fn.cast (CallSt.fn (callSt_of_evK (E := E0) E0Ok hMixed (c := bodyOf Go.Proofs.Try.f79) (rows := []) (r := .b false) (rows' := [])
      (ans := [.bo true, .bo true, .bo true, .bo true, .bo true, .bo true, .bo true, .bo true, .bo true, .bo true, .bo true, .bo true, .bo true, .bo true, .bo true, .bo true, .keep []])
      (ps := [])
      (C := [(decide (h_0.Place < 0)) = true,
        (decide (h_0.Place < 0)) = true,
        (decide (h_0.Place < 0)) = true,
        (decide (h_0.Place < 0)) = true,
        (decide (h_0.Place < 0)) = true,
        true = true,
        true = true,
        true = true,
        true = true,
        true = true,
        true = true,
        true = true,
        true = true,
        true = true,
        true = true,
        true = true])
      Go.Proofs.Try.func79 rfl (by kernel_rfl) (by kernel_rfl)
      ⟨h0, h0, h0, h0, h0, rfl, rfl, rfl, rfl, rfl, rfl, rfl, rfl, rfl, rfl, rfl, trivial⟩) rfl) (by simp only [v_impl_IsHold, h0, cond_true]) rfl
  | false =>
    cases h1 : (v_impl_within h_0.Kind 0 2) with
    | true =>
      cases h2 : (v_impl_isFiniteVector h_0.At) with
      | true =>
        cases h3 : (v_impl_isFiniteVector h_0.Way) with
        | true =>
          cases h4 : (h_0.Kind == 0) with
          | true =>
            exact Fn.cast (CallSt.fn (callSt_of_evK (E := E0) E0Ok hMixed (c := bodyOf Go.Proofs.Try.f79) (rows := []) (r := .b true) (rows' := [])
              (ans := [.bo false, .bo false, .bo false, .call (.b (v_impl_within h_0.Kind 0 2)) [], .bo false, .bo false, .bo false, .bo false, .bo false, .call (.b (v_impl_isFiniteVector h_0.At)) [], .bo false, .bo false, .bo false, .bo false, .bo false, .call (.b (v_impl_isFiniteVector h_0.Way)) [], .bo false, .bo false, .bo false, .bo true, .bo true, .bo true, .bo true, .bo true, .bo true, .bo true, .keep []])
              (ps := [])
              (C := [(decide (h_0.Place < 0)) = false,
                (decide (h_0.Place < 0)) = false,
                (decide (h_0.Place < 0)) = false,
                Fn Go.Proofs.Try.prog 80 [.i .i64 h_0.Kind, .i .i64 0, .i .i64 2] (.b (v_impl_within h_0.Kind 0 2)) [],
                (decide (h_0.Place < 0)) = false,
                (decide (h_0.Place < 0)) = false,
                (!(v_impl_within h_0.Kind 0 2)) = false,
                (!(v_impl_within h_0.Kind 0 2)) = false,
                (!(v_impl_within h_0.Kind 0 2)) = false,
                Fn Go.Proofs.Try.prog 131 [.agg [.f .f32 h_0.At.X, .f .f32 h_0.At.Y, .f .f32 h_0.At.Z]] (.b (v_impl_isFiniteVector h_0.At)) [],
                (!(v_impl_within h_0.Kind 0 2)) = false,
                (!(v_impl_within h_0.Kind 0 2)) = false,
                (!(v_impl_isFiniteVector h_0.At)) = false,
                (!(v_impl_isFiniteVector h_0.At)) = false,
                (!(v_impl_isFiniteVector h_0.At)) = false,
                Fn Go.Proofs.Try.prog 131 [.agg [.f .f32 h_0.Way.X, .f .f32 h_0.Way.Y, .f .f32 h_0.Way.Z]] (.b (v_impl_isFiniteVector h_0.Way)) [],
                (!(v_impl_isFiniteVector h_0.At)) = false,
                (!(v_impl_isFiniteVector h_0.At)) = false,
                (!(v_impl_isFiniteVector h_0.Way)) = false,
                (h_0.Kind == 0) = true,
                (h_0.Kind == 0) = true,
                (h_0.Kind == 0) = true,
                (h_0.Kind == 0) = true,
                (h_0.Kind == 0) = true,
                (h_0.Kind == 0) = true,
                (h_0.Kind == 0) = true])
              Go.Proofs.Try.func79 rfl (by kernel_rfl) (by kernel_rfl)
              ⟨h0, h0, h0, (t_impl_within h_0.Kind 0 2), h0, h0, (congrArg not h1), (congrArg not h1), (congrArg not h1), (t_impl_isFiniteVector h_0.At), (congrArg not h1), (congrArg not h1), (congrArg not h2), (congrArg not h2), (congrArg not h2), (t_impl_isFiniteVector h_0.Way), (congrArg not h2), (congrArg not h2), (congrArg not h3), h4, h4, h4, h4, h4, h4, h4, trivial⟩) rfl) (by simp only [v_impl_IsHold, h0, h1, h2, h3, h4, cond_true, cond_false]) rfl
          | false =>
            exact Fn.cast (CallSt.fn (callSt_of_evK (E := E0) E0Ok hMixed (c := bodyOf Go.Proofs.Try.f79) (rows := []) (r := .b (v_impl_isOver (v_impl_InnerOf h_0.Way h_0.Way))) (rows' := [])
              (ans := [.bo false, .bo false, .bo false, .call (.b (v_impl_within h_0.Kind 0 2)) [], .bo false, .bo false, .bo false, .bo false, .bo false, .call (.b (v_impl_isFiniteVector h_0.At)) [], .bo false, .bo false, .bo false, .bo false, .bo false, .call (.b (v_impl_isFiniteVector h_0.Way)) [], .bo false, .bo false, .bo false, .bo false, .bo false, .bo false, .bo false, .bo false, .call (.f .f32 (v_impl_InnerOf h_0.Way h_0.Way)) [], .bo false, .call (.b (v_impl_isOver (v_impl_InnerOf h_0.Way h_0.Way))) [], .bo false, .keep []])
              (ps := [])
              (C := [(decide (h_0.Place < 0)) = false,
                (decide (h_0.Place < 0)) = false,
                (decide (h_0.Place < 0)) = false,
                Fn Go.Proofs.Try.prog 80 [.i .i64 h_0.Kind, .i .i64 0, .i .i64 2] (.b (v_impl_within h_0.Kind 0 2)) [],
                (decide (h_0.Place < 0)) = false,
                (decide (h_0.Place < 0)) = false,
                (!(v_impl_within h_0.Kind 0 2)) = false,
                (!(v_impl_within h_0.Kind 0 2)) = false,
                (!(v_impl_within h_0.Kind 0 2)) = false,
                Fn Go.Proofs.Try.prog 131 [.agg [.f .f32 h_0.At.X, .f .f32 h_0.At.Y, .f .f32 h_0.At.Z]] (.b (v_impl_isFiniteVector h_0.At)) [],
                (!(v_impl_within h_0.Kind 0 2)) = false,
                (!(v_impl_within h_0.Kind 0 2)) = false,
                (!(v_impl_isFiniteVector h_0.At)) = false,
                (!(v_impl_isFiniteVector h_0.At)) = false,
                (!(v_impl_isFiniteVector h_0.At)) = false,
                Fn Go.Proofs.Try.prog 131 [.agg [.f .f32 h_0.Way.X, .f .f32 h_0.Way.Y, .f .f32 h_0.Way.Z]] (.b (v_impl_isFiniteVector h_0.Way)) [],
                (!(v_impl_isFiniteVector h_0.At)) = false,
                (!(v_impl_isFiniteVector h_0.At)) = false,
                (!(v_impl_isFiniteVector h_0.Way)) = false,
                (h_0.Kind == 0) = false,
                (h_0.Kind == 0) = false,
                (h_0.Kind == 0) = false,
                (h_0.Kind == 0) = false,
                (h_0.Kind == 0) = false,
                Fn Go.Proofs.Try.prog 132 [.agg [.f .f32 h_0.Way.X, .f .f32 h_0.Way.Y, .f .f32 h_0.Way.Z], .agg [.f .f32 h_0.Way.X, .f .f32 h_0.Way.Y, .f .f32 h_0.Way.Z]] (.f .f32 (v_impl_InnerOf h_0.Way h_0.Way)) [],
                (h_0.Kind == 0) = false,
                Fn Go.Proofs.Try.prog 68 [.f .f32 (v_impl_InnerOf h_0.Way h_0.Way)] (.b (v_impl_isOver (v_impl_InnerOf h_0.Way h_0.Way))) [],
                (h_0.Kind == 0) = false])
              Go.Proofs.Try.func79 rfl (by kernel_rfl) (by kernel_rfl)
              ⟨h0, h0, h0, (t_impl_within h_0.Kind 0 2), h0, h0, (congrArg not h1), (congrArg not h1), (congrArg not h1), (t_impl_isFiniteVector h_0.At), (congrArg not h1), (congrArg not h1), (congrArg not h2), (congrArg not h2), (congrArg not h2), (t_impl_isFiniteVector h_0.Way), (congrArg not h2), (congrArg not h2), (congrArg not h3), h4, h4, h4, h4, h4, (t_impl_InnerOf h_0.Way h_0.Way), h4, (t_impl_isOver (v_impl_InnerOf h_0.Way h_0.Way)), h4, trivial⟩) rfl) (by simp only [v_impl_IsHold, h0, h1, h2, h3, h4, cond_true, cond_false]) rfl
        | false =>
          exact Fn.cast (CallSt.fn (callSt_of_evK (E := E0) E0Ok hMixed (c := bodyOf Go.Proofs.Try.f79) (rows := []) (r := .b false) (rows' := [])
            (ans := [.bo false, .bo false, .bo false, .call (.b (v_impl_within h_0.Kind 0 2)) [], .bo false, .bo false, .bo false, .bo false, .bo false, .call (.b (v_impl_isFiniteVector h_0.At)) [], .bo false, .bo false, .bo false, .bo false, .bo false, .call (.b (v_impl_isFiniteVector h_0.Way)) [], .bo false, .bo false, .bo true, .keep []])
            (ps := [])
            (C := [(decide (h_0.Place < 0)) = false,
              (decide (h_0.Place < 0)) = false,
              (decide (h_0.Place < 0)) = false,
              Fn Go.Proofs.Try.prog 80 [.i .i64 h_0.Kind, .i .i64 0, .i .i64 2] (.b (v_impl_within h_0.Kind 0 2)) [],
              (decide (h_0.Place < 0)) = false,
              (decide (h_0.Place < 0)) = false,
              (!(v_impl_within h_0.Kind 0 2)) = false,
              (!(v_impl_within h_0.Kind 0 2)) = false,
              (!(v_impl_within h_0.Kind 0 2)) = false,
              Fn Go.Proofs.Try.prog 131 [.agg [.f .f32 h_0.At.X, .f .f32 h_0.At.Y, .f .f32 h_0.At.Z]] (.b (v_impl_isFiniteVector h_0.At)) [],
              (!(v_impl_within h_0.Kind 0 2)) = false,
              (!(v_impl_within h_0.Kind 0 2)) = false,
              (!(v_impl_isFiniteVector h_0.At)) = false,
              (!(v_impl_isFiniteVector h_0.At)) = false,
              (!(v_impl_isFiniteVector h_0.At)) = false,
              Fn Go.Proofs.Try.prog 131 [.agg [.f .f32 h_0.Way.X, .f .f32 h_0.Way.Y, .f .f32 h_0.Way.Z]] (.b (v_impl_isFiniteVector h_0.Way)) [],
              (!(v_impl_isFiniteVector h_0.At)) = false,
              (!(v_impl_isFiniteVector h_0.At)) = false,
              (!(v_impl_isFiniteVector h_0.Way)) = true])
            Go.Proofs.Try.func79 rfl (by kernel_rfl) (by kernel_rfl)
            ⟨h0, h0, h0, (t_impl_within h_0.Kind 0 2), h0, h0, (congrArg not h1), (congrArg not h1), (congrArg not h1), (t_impl_isFiniteVector h_0.At), (congrArg not h1), (congrArg not h1), (congrArg not h2), (congrArg not h2), (congrArg not h2), (t_impl_isFiniteVector h_0.Way), (congrArg not h2), (congrArg not h2), (congrArg not h3), trivial⟩) rfl) (by simp only [v_impl_IsHold, h0, h1, h2, h3, cond_true, cond_false]) rfl
      | false =>
        exact Fn.cast (CallSt.fn (callSt_of_evK (E := E0) E0Ok hMixed (c := bodyOf Go.Proofs.Try.f79) (rows := []) (r := .b false) (rows' := [])
          (ans := [.bo false, .bo false, .bo false, .call (.b (v_impl_within h_0.Kind 0 2)) [], .bo false, .bo false, .bo false, .bo false, .bo false, .call (.b (v_impl_isFiniteVector h_0.At)) [], .bo false, .bo false, .bo true, .bo true, .bo true, .bo true, .bo true, .bo true, .keep []])
          (ps := [])
          (C := [(decide (h_0.Place < 0)) = false,
            (decide (h_0.Place < 0)) = false,
            (decide (h_0.Place < 0)) = false,
            Fn Go.Proofs.Try.prog 80 [.i .i64 h_0.Kind, .i .i64 0, .i .i64 2] (.b (v_impl_within h_0.Kind 0 2)) [],
            (decide (h_0.Place < 0)) = false,
            (decide (h_0.Place < 0)) = false,
            (!(v_impl_within h_0.Kind 0 2)) = false,
            (!(v_impl_within h_0.Kind 0 2)) = false,
            (!(v_impl_within h_0.Kind 0 2)) = false,
            Fn Go.Proofs.Try.prog 131 [.agg [.f .f32 h_0.At.X, .f .f32 h_0.At.Y, .f .f32 h_0.At.Z]] (.b (v_impl_isFiniteVector h_0.At)) [],
            (!(v_impl_within h_0.Kind 0 2)) = false,
            (!(v_impl_within h_0.Kind 0 2)) = false,
            (!(v_impl_isFiniteVector h_0.At)) = true,
            (!(v_impl_isFiniteVector h_0.At)) = true,
            (!(v_impl_isFiniteVector h_0.At)) = true,
            (!(v_impl_isFiniteVector h_0.At)) = true,
            (!(v_impl_isFiniteVector h_0.At)) = true,
            true = true])
          Go.Proofs.Try.func79 rfl (by kernel_rfl) (by kernel_rfl)
          ⟨h0, h0, h0, (t_impl_within h_0.Kind 0 2), h0, h0, (congrArg not h1), (congrArg not h1), (congrArg not h1), (t_impl_isFiniteVector h_0.At), (congrArg not h1), (congrArg not h1), (congrArg not h2), (congrArg not h2), (congrArg not h2), (congrArg not h2), (congrArg not h2), rfl, trivial⟩) rfl) (by simp only [v_impl_IsHold, h0, h1, h2, cond_true, cond_false]) rfl
    | false =>
      exact Fn.cast (CallSt.fn (callSt_of_evK (E := E0) E0Ok hMixed (c := bodyOf Go.Proofs.Try.f79) (rows := []) (r := .b false) (rows' := [])
        (ans := [.bo false, .bo false, .bo false, .call (.b (v_impl_within h_0.Kind 0 2)) [], .bo false, .bo false, .bo true, .bo true, .bo true, .bo true, .bo true, .bo true, .bo true, .bo true, .bo true, .bo true, .bo true, .keep []])
        (ps := [])
        (C := [(decide (h_0.Place < 0)) = false,
          (decide (h_0.Place < 0)) = false,
          (decide (h_0.Place < 0)) = false,
          Fn Go.Proofs.Try.prog 80 [.i .i64 h_0.Kind, .i .i64 0, .i .i64 2] (.b (v_impl_within h_0.Kind 0 2)) [],
          (decide (h_0.Place < 0)) = false,
          (decide (h_0.Place < 0)) = false,
          (!(v_impl_within h_0.Kind 0 2)) = true,
          (!(v_impl_within h_0.Kind 0 2)) = true,
          (!(v_impl_within h_0.Kind 0 2)) = true,
          (!(v_impl_within h_0.Kind 0 2)) = true,
          (!(v_impl_within h_0.Kind 0 2)) = true,
          true = true,
          true = true,
          true = true,
          true = true,
          true = true,
          true = true])
        Go.Proofs.Try.func79 rfl (by kernel_rfl) (by kernel_rfl)
        ⟨h0, h0, h0, (t_impl_within h_0.Kind 0 2), h0, h0, (congrArg not h1), (congrArg not h1), (congrArg not h1), (congrArg not h1), (congrArg not h1), rfl, rfl, rfl, rfl, rfl, rfl, trivial⟩) rfl) (by simp only [v_impl_IsHold, h0, h1, cond_false]) rfl

def lo_impl_AreHolds_1 (m_0 : GMesh) (holds_1 : (List GHold)) : Nat → Int → Int → (Unit) ⊕ (Unit)
  | 0, _, _ => .inl default
  | k + 1, last_l0, x_l1 => (cond (decide (x_l1 < (holds_1.length : Int)))
    (cond (v_impl_IsHold (holds_1.getD x_l1.toNat default))
      (cond (v_impl_within ((holds_1.getD x_l1.toNat default).Place) (IntKind.wrap .i64 (last_l0 + 1)) (IntKind.wrap .i64 ((m_0.Places.length : Int) - 1)))
        (lo_impl_AreHolds_1 m_0 holds_1 k ((holds_1.getD x_l1.toNat default).Place) (x_l1 + 1))
        (.inl ()))
      (.inl ()))
    (.inr ()))

def ls_impl_AreHolds_1 (m_0 : GMesh) (holds_1 : (List GHold)) : (Unit) ⊕ (Unit) → Ex × St
  | .inl r => (.ret, ⟨[.any, .any, .any, .any, .b false, .any, .any, .any, .any, .any, .any, .any, .any, .any, .any, .any, .any, .any, .any, .any, .any, .any, .any, .any, .any, .any, .any, .any, .any, .any, .any, .any, .any, .any, .any], []⟩)
  | .inr r => ((.exit 0), ⟨[.agg [.sl (m_0.Places.map GVector.cells), .sl (m_0.Triangles.map (cL (cI .i64)))], .sl (holds_1.map GHold.cells), .ptr 0 0 0, .any, .any, .any, .any, .any, .agg [.sl (m_0.Places.map GVector.cells), .sl (m_0.Triangles.map (cL (cI .i64)))], .b (v_impl_ValidMesh m_0), .b (!(v_impl_ValidMesh m_0)), .sl (holds_1.map GHold.cells), .any, .any, .any, .any, .any, .any, .any, .any, .any, .any, .any, .any, .any, .any, .any, .any, .any, .any, .any, .any, .any, .any, .any], [.box 36 [.sl (m_0.Places.map GVector.cells), .sl (m_0.Triangles.map (cL (cI .i64)))]]⟩)

theorem lp_impl_AreHolds_1 (m_0 : GMesh) (holds_1 : (List GHold)) (hp0 : m_0.Places.length ≤ 1073741824) (hp1 : m_0.Triangles.length ≤ 1073741824) (hp2 : ∀ t ∈ m_0.Triangles, t.length ≤ 1073741824) (hp3 : holds_1.length ≤ 1073741824) (hf_impl_AreHolds_1_0 : (v_impl_ValidMesh m_0) = true) : ∀ (k : Nat) (last_l0 : Int) (x_l1 : Int) (hv_impl_AreHolds_1_0 : 0 ≤ x_l1) (hk : ((holds_1.length : Int) - x_l1).toNat < k), Lp Go.Proofs.Try.prog 0 (sub (bodyOf Go.Proofs.Try.f26) [1, 1, 1, 0, 1, 0, 0]) ⟨[.agg [.sl (m_0.Places.map GVector.cells), .sl (m_0.Triangles.map (cL (cI .i64)))], .sl (holds_1.map GHold.cells), .ptr 0 0 0, .any, .any, .i .i64 last_l0, .any, .any, .agg [.sl (m_0.Places.map GVector.cells), .sl (m_0.Triangles.map (cL (cI .i64)))], .b (v_impl_ValidMesh m_0), .b (!(v_impl_ValidMesh m_0)), .sl (holds_1.map GHold.cells), .i .i64 (holds_1.length : Int), .i .i64 x_l1, .any, .any, .any, .any, .any, .any, .any, .any, .any, .any, .any, .any, .any, .any, .any, .any, .any, .any, .any, .any, .any], [.box 36 [.sl (m_0.Places.map GVector.cells), .sl (m_0.Triangles.map (cL (cI .i64)))]]⟩ (ls_impl_AreHolds_1 m_0 holds_1 (lo_impl_AreHolds_1 m_0 holds_1 k last_l0 x_l1)).1 (ls_impl_AreHolds_1 m_0 holds_1 (lo_impl_AreHolds_1 m_0 holds_1 k last_l0 x_l1)).2 := by
  intro k
  induction k with
  | zero => intro last_l0 x_l1 hv_impl_AreHolds_1_0 hk; exact absurd hk (Nat.not_lt_zero _)
  | succ k ih =>
    intro last_l0 x_l1 hv_impl_AreHolds_1_0 hk
    cases h_0 : (decide (x_l1 < (holds_1.length : Int))) with
    | true =>
      cases h_1 : (v_impl_IsHold (holds_1.getD x_l1.toNat default)) with
      | true =>
        cases h_2 : (v_impl_within ((holds_1.getD x_l1.toNat default).Place) (IntKind.wrap .i64 (last_l0 + 1)) (IntKind.wrap .i64 ((m_0.Places.length : Int) - 1))) with
        | true =>
          have e : lo_impl_AreHolds_1 m_0 holds_1 (k + 1) last_l0 x_l1 = (lo_impl_AreHolds_1 m_0 holds_1 k ((holds_1.getD x_l1.toNat default).Place) (x_l1 + 1)) := by simp only [lo_impl_AreHolds_1, h_0, h_1, h_2, cond_true]
          rw [e]
          exact stepK_next (E := E0) E0Ok hMixed (body := (sub (bodyOf Go.Proofs.Try.f26) [1, 1, 1, 0, 1, 0, 0])) (st := ⟨[.agg [.sl (m_0.Places.map GVector.cells), .sl (m_0.Triangles.map (cL (cI .i64)))], .sl (holds_1.map GHold.cells), .ptr 0 0 0, .any, .any, .i .i64 last_l0, .any, .any, .agg [.sl (m_0.Places.map GVector.cells), .sl (m_0.Triangles.map (cL (cI .i64)))], .b (v_impl_ValidMesh m_0), .b (!(v_impl_ValidMesh m_0)), .sl (holds_1.map GHold.cells), .i .i64 (holds_1.length : Int), .i .i64 x_l1, .any, .any, .any, .any, .any, .any, .any, .any, .any, .any, .any, .any, .any, .any, .any, .any, .any, .any, .any, .any, .any], [.box 36 [.sl (m_0.Places.map GVector.cells), .sl (m_0.Triangles.map (cL (cI .i64)))]]⟩)
            (st2 := ⟨[.agg [.sl (m_0.Places.map GVector.cells), .sl (m_0.Triangles.map (cL (cI .i64)))], .sl (holds_1.map GHold.cells), .ptr 0 0 0, .any, .any, .i .i64 ((holds_1.getD x_l1.toNat default).Place), .any, .any, .agg [.sl (m_0.Places.map GVector.cells), .sl (m_0.Triangles.map (cL (cI .i64)))], .b (v_impl_ValidMesh m_0), .b (!(v_impl_ValidMesh m_0)), .sl (holds_1.map GHold.cells), .i .i64 (holds_1.length : Int), .i .i64 (x_l1 + 1), .any, .any, .any, .any, .any, .any, .any, .any, .any, .any, .any, .any, .any, .any, .any, .any, .any, .any, .any, .any, .any], [.box 36 [.sl (m_0.Places.map GVector.cells), .sl (m_0.Triangles.map (cL (cI .i64)))]]⟩)
            (ans := [.bo true, .el [.i .i64 ((holds_1.getD x_l1.toNat default).Place), .i .i64 ((holds_1.getD x_l1.toNat default).Kind), .f .f32 ((holds_1.getD x_l1.toNat default).At.X), .f .f32 ((holds_1.getD x_l1.toNat default).At.Y), .f .f32 ((holds_1.getD x_l1.toNat default).At.Z), .f .f32 ((holds_1.getD x_l1.toNat default).Way.X), .f .f32 ((holds_1.getD x_l1.toNat default).Way.Y), .f .f32 ((holds_1.getD x_l1.toNat default).Way.Z)], .call (.b (v_impl_IsHold (holds_1.getD x_l1.toNat default))) [], .bo false, .bo false, .bo false, .bo false, .num (IntKind.wrap .i64 (last_l0 + 1)), .bo false, .bo false, .bo false, .num (m_0.Places.length : Int), .bo false, .num (IntKind.wrap .i64 ((m_0.Places.length : Int) - 1)), .bo false, .call (.b (v_impl_within ((holds_1.getD x_l1.toNat default).Place) (IntKind.wrap .i64 (last_l0 + 1)) (IntKind.wrap .i64 ((m_0.Places.length : Int) - 1)))) [], .bo false, .bo false, .bo false, .num (x_l1 + 1)])
            (ps := []) (mask := [true, true, true, false, false, true, false, false, true, true, true, true, true, true, false, false, false, false, false, false, false, false, false, false, false, false, false, false, false, false, false, false, false, false, false]) (ks := [0])
            (C := [(decide (x_l1 < (holds_1.length : Int))) = true,
              0 ≤ x_l1 ∧ (holds_1.map GHold.cells)[Int.toNat x_l1]? = some [.i .i64 ((holds_1.getD x_l1.toNat default).Place), .i .i64 ((holds_1.getD x_l1.toNat default).Kind), .f .f32 ((holds_1.getD x_l1.toNat default).At.X), .f .f32 ((holds_1.getD x_l1.toNat default).At.Y), .f .f32 ((holds_1.getD x_l1.toNat default).At.Z), .f .f32 ((holds_1.getD x_l1.toNat default).Way.X), .f .f32 ((holds_1.getD x_l1.toNat default).Way.Y), .f .f32 ((holds_1.getD x_l1.toNat default).Way.Z)],
              Fn Go.Proofs.Try.prog 79 [.agg [.i .i64 ((holds_1.getD x_l1.toNat default).Place), .i .i64 ((holds_1.getD x_l1.toNat default).Kind), .f .f32 ((holds_1.getD x_l1.toNat default).At.X), .f .f32 ((holds_1.getD x_l1.toNat default).At.Y), .f .f32 ((holds_1.getD x_l1.toNat default).At.Z), .f .f32 ((holds_1.getD x_l1.toNat default).Way.X), .f .f32 ((holds_1.getD x_l1.toNat default).Way.Y), .f .f32 ((holds_1.getD x_l1.toNat default).Way.Z)]] (.b (v_impl_IsHold (holds_1.getD x_l1.toNat default))) [],
              (!(v_impl_IsHold (holds_1.getD x_l1.toNat default))) = false,
              (!(v_impl_IsHold (holds_1.getD x_l1.toNat default))) = false,
              (!(v_impl_IsHold (holds_1.getD x_l1.toNat default))) = false,
              (!(v_impl_IsHold (holds_1.getD x_l1.toNat default))) = false,
              IntKind.wrap .i64 (last_l0 + 1) = (IntKind.wrap .i64 (last_l0 + 1)),
              (!(v_impl_IsHold (holds_1.getD x_l1.toNat default))) = false,
              (!(v_impl_IsHold (holds_1.getD x_l1.toNat default))) = false,
              (!(v_impl_IsHold (holds_1.getD x_l1.toNat default))) = false,
              (((m_0.Places.map GVector.cells).length : Nat) : Int) = (m_0.Places.length : Int),
              (!(v_impl_IsHold (holds_1.getD x_l1.toNat default))) = false,
              IntKind.wrap .i64 ((m_0.Places.length : Int) - 1) = (IntKind.wrap .i64 ((m_0.Places.length : Int) - 1)),
              (!(v_impl_IsHold (holds_1.getD x_l1.toNat default))) = false,
              Fn Go.Proofs.Try.prog 80 [.i .i64 ((holds_1.getD x_l1.toNat default).Place), .i .i64 (IntKind.wrap .i64 (last_l0 + 1)), .i .i64 (IntKind.wrap .i64 ((m_0.Places.length : Int) - 1))] (.b (v_impl_within ((holds_1.getD x_l1.toNat default).Place) (IntKind.wrap .i64 (last_l0 + 1)) (IntKind.wrap .i64 ((m_0.Places.length : Int) - 1)))) [],
              (!(v_impl_IsHold (holds_1.getD x_l1.toNat default))) = false,
              (!(v_impl_IsHold (holds_1.getD x_l1.toNat default))) = false,
              (!(v_impl_within ((holds_1.getD x_l1.toNat default).Place) (IntKind.wrap .i64 (last_l0 + 1)) (IntKind.wrap .i64 ((m_0.Places.length : Int) - 1)))) = false,
              IntKind.wrap .i64 (x_l1 + 1) = (x_l1 + 1)])
            (by kernel_rfl)
            ⟨h_0, (get_ok (by first | assumption | omega | (simp at * <;> omega) | (simp_all <;> omega)) (by first | assumption | omega | (simp at * <;> omega) | (simp_all <;> omega))), (t_impl_IsHold (holds_1.getD x_l1.toNat default)), (congrArg not h_1), (congrArg not h_1), (congrArg not h_1), (congrArg not h_1), rfl, (congrArg not h_1), (congrArg not h_1), (congrArg not h_1), len_ok, (congrArg not h_1), rfl, (congrArg not h_1), (t_impl_within ((holds_1.getD x_l1.toNat default).Place) (IntKind.wrap .i64 (last_l0 + 1)) (IntKind.wrap .i64 ((m_0.Places.length : Int) - 1))), (congrArg not h_1), (congrArg not h_1), (congrArg not h_2), (wrap_id (by first | assumption | omega | (simp at * <;> omega) | (simp_all <;> omega)) (by first | assumption | omega | (simp at * <;> omega) | (simp_all <;> omega))), trivial⟩
            rfl (ih ((holds_1.getD x_l1.toNat default).Place) (x_l1 + 1) (show 0 ≤ (x_l1 + 1) from (by first | assumption | omega | (simp at * <;> omega) | (simp_all <;> omega))) (by first | assumption | omega | (simp at * <;> omega) | (simp_all <;> omega)))
        | false =>
          have e : lo_impl_AreHolds_1 m_0 holds_1 (k + 1) last_l0 x_l1 = (.inl ()) := by simp only [lo_impl_AreHolds_1, h_0, h_1, h_2, cond_true, cond_false]
          rw [e]
          exact stepK_out (E := E0) E0Ok hMixed (e := .ret) (body := (sub (bodyOf Go.Proofs.Try.f26) [1, 1, 1, 0, 1, 0, 0])) (st := ⟨[.agg [.sl (m_0.Places.map GVector.cells), .sl (m_0.Triangles.map (cL (cI .i64)))], .sl (holds_1.map GHold.cells), .ptr 0 0 0, .any, .any, .i .i64 last_l0, .any, .any, .agg [.sl (m_0.Places.map GVector.cells), .sl (m_0.Triangles.map (cL (cI .i64)))], .b (v_impl_ValidMesh m_0), .b (!(v_impl_ValidMesh m_0)), .sl (holds_1.map GHold.cells), .i .i64 (holds_1.length : Int), .i .i64 x_l1, .any, .any, .any, .any, .any, .any, .any, .any, .any, .any, .any, .any, .any, .any, .any, .any, .any, .any, .any, .any, .any], [.box 36 [.sl (m_0.Places.map GVector.cells), .sl (m_0.Triangles.map (cL (cI .i64)))]]⟩)
            (st2 := ⟨[.any, .any, .any, .any, .b false, .any, .any, .any, .any, .any, .any, .any, .any, .any, .any, .any, .any, .any, .any, .any, .any, .any, .any, .any, .any, .any, .any, .any, .any, .any, .any, .any, .any, .any, .any], []⟩)
            (ans := [.bo true, .el [.i .i64 ((holds_1.getD x_l1.toNat default).Place), .i .i64 ((holds_1.getD x_l1.toNat default).Kind), .f .f32 ((holds_1.getD x_l1.toNat default).At.X), .f .f32 ((holds_1.getD x_l1.toNat default).At.Y), .f .f32 ((holds_1.getD x_l1.toNat default).At.Z), .f .f32 ((holds_1.getD x_l1.toNat default).Way.X), .f .f32 ((holds_1.getD x_l1.toNat default).Way.Y), .f .f32 ((holds_1.getD x_l1.toNat default).Way.Z)], .call (.b (v_impl_IsHold (holds_1.getD x_l1.toNat default))) [], .bo false, .bo false, .bo false, .bo false, .num (IntKind.wrap .i64 (last_l0 + 1)), .bo false, .bo false, .bo false, .num (m_0.Places.length : Int), .bo false, .num (IntKind.wrap .i64 ((m_0.Places.length : Int) - 1)), .bo false, .call (.b (v_impl_within ((holds_1.getD x_l1.toNat default).Place) (IntKind.wrap .i64 (last_l0 + 1)) (IntKind.wrap .i64 ((m_0.Places.length : Int) - 1)))) [], .bo false, .bo false, .bo true])
            (ps := []) (mask := [false, false, false, false, true, false, false, false, false, false, false, false, false, false, false, false, false, false, false, false, false, false, false, false, false, false, false, false, false, false, false, false, false, false, false]) (ks := [])
            (C := [(decide (x_l1 < (holds_1.length : Int))) = true,
              0 ≤ x_l1 ∧ (holds_1.map GHold.cells)[Int.toNat x_l1]? = some [.i .i64 ((holds_1.getD x_l1.toNat default).Place), .i .i64 ((holds_1.getD x_l1.toNat default).Kind), .f .f32 ((holds_1.getD x_l1.toNat default).At.X), .f .f32 ((holds_1.getD x_l1.toNat default).At.Y), .f .f32 ((holds_1.getD x_l1.toNat default).At.Z), .f .f32 ((holds_1.getD x_l1.toNat default).Way.X), .f .f32 ((holds_1.getD x_l1.toNat default).Way.Y), .f .f32 ((holds_1.getD x_l1.toNat default).Way.Z)],
              Fn Go.Proofs.Try.prog 79 [.agg [.i .i64 ((holds_1.getD x_l1.toNat default).Place), .i .i64 ((holds_1.getD x_l1.toNat default).Kind), .f .f32 ((holds_1.getD x_l1.toNat default).At.X), .f .f32 ((holds_1.getD x_l1.toNat default).At.Y), .f .f32 ((holds_1.getD x_l1.toNat default).At.Z), .f .f32 ((holds_1.getD x_l1.toNat default).Way.X), .f .f32 ((holds_1.getD x_l1.toNat default).Way.Y), .f .f32 ((holds_1.getD x_l1.toNat default).Way.Z)]] (.b (v_impl_IsHold (holds_1.getD x_l1.toNat default))) [],
              (!(v_impl_IsHold (holds_1.getD x_l1.toNat default))) = false,
              (!(v_impl_IsHold (holds_1.getD x_l1.toNat default))) = false,
              (!(v_impl_IsHold (holds_1.getD x_l1.toNat default))) = false,
              (!(v_impl_IsHold (holds_1.getD x_l1.toNat default))) = false,
              IntKind.wrap .i64 (last_l0 + 1) = (IntKind.wrap .i64 (last_l0 + 1)),
              (!(v_impl_IsHold (holds_1.getD x_l1.toNat default))) = false,
              (!(v_impl_IsHold (holds_1.getD x_l1.toNat default))) = false,
              (!(v_impl_IsHold (holds_1.getD x_l1.toNat default))) = false,
              (((m_0.Places.map GVector.cells).length : Nat) : Int) = (m_0.Places.length : Int),
              (!(v_impl_IsHold (holds_1.getD x_l1.toNat default))) = false,
              IntKind.wrap .i64 ((m_0.Places.length : Int) - 1) = (IntKind.wrap .i64 ((m_0.Places.length : Int) - 1)),
              (!(v_impl_IsHold (holds_1.getD x_l1.toNat default))) = false,
              Fn Go.Proofs.Try.prog 80 [.i .i64 ((holds_1.getD x_l1.toNat default).Place), .i .i64 (IntKind.wrap .i64 (last_l0 + 1)), .i .i64 (IntKind.wrap .i64 ((m_0.Places.length : Int) - 1))] (.b (v_impl_within ((holds_1.getD x_l1.toNat default).Place) (IntKind.wrap .i64 (last_l0 + 1)) (IntKind.wrap .i64 ((m_0.Places.length : Int) - 1)))) [],
              (!(v_impl_IsHold (holds_1.getD x_l1.toNat default))) = false,
              (!(v_impl_IsHold (holds_1.getD x_l1.toNat default))) = false,
              (!(v_impl_within ((holds_1.getD x_l1.toNat default).Place) (IntKind.wrap .i64 (last_l0 + 1)) (IntKind.wrap .i64 ((m_0.Places.length : Int) - 1)))) = true])
            (by kernel_rfl)
            ⟨h_0, (get_ok (by first | assumption | omega | (simp at * <;> omega) | (simp_all <;> omega)) (by first | assumption | omega | (simp at * <;> omega) | (simp_all <;> omega))), (t_impl_IsHold (holds_1.getD x_l1.toNat default)), (congrArg not h_1), (congrArg not h_1), (congrArg not h_1), (congrArg not h_1), rfl, (congrArg not h_1), (congrArg not h_1), (congrArg not h_1), len_ok, (congrArg not h_1), rfl, (congrArg not h_1), (t_impl_within ((holds_1.getD x_l1.toNat default).Place) (IntKind.wrap .i64 (last_l0 + 1)) (IntKind.wrap .i64 ((m_0.Places.length : Int) - 1))), (congrArg not h_1), (congrArg not h_1), (congrArg not h_2), trivial⟩
            (by intro h; cases h) rfl
      | false =>
        have e : lo_impl_AreHolds_1 m_0 holds_1 (k + 1) last_l0 x_l1 = (.inl ()) := by simp only [lo_impl_AreHolds_1, h_0, h_1, cond_true, cond_false]
        rw [e]
        exact stepK_out (E := E0) E0Ok hMixed (e := .ret) (body := (sub (bodyOf Go.Proofs.Try.f26) [1, 1, 1, 0, 1, 0, 0])) (st := ⟨[.agg [.sl (m_0.Places.map GVector.cells), .sl (m_0.Triangles.map (cL (cI .i64)))], .sl (holds_1.map GHold.cells), .ptr 0 0 0, .any, .any, .i .i64 last_l0, .any, .any, .agg [.sl (m_0.Places.map GVector.cells), .sl (m_0.Triangles.map (cL (cI .i64)))], .b (v_impl_ValidMesh m_0), .b (!(v_impl_ValidMesh m_0)), .sl (holds_1.map GHold.cells), .i .i64 (holds_1.length : Int), .i .i64 x_l1, .any, .any, .any, .any, .any, .any, .any, .any, .any, .any, .any, .any, .any, .any, .any, .any, .any, .any, .any, .any, .any], [.box 36 [.sl (m_0.Places.map GVector.cells), .sl (m_0.Triangles.map (cL (cI .i64)))]]⟩)
          (st2 := ⟨[.any, .any, .any, .any, .b false, .any, .any, .any, .any, .any, .any, .any, .any, .any, .any, .any, .any, .any, .any, .any, .any, .any, .any, .any, .any, .any, .any, .any, .any, .any, .any, .any, .any, .any, .any], []⟩)
          (ans := [.bo true, .el [.i .i64 ((holds_1.getD x_l1.toNat default).Place), .i .i64 ((holds_1.getD x_l1.toNat default).Kind), .f .f32 ((holds_1.getD x_l1.toNat default).At.X), .f .f32 ((holds_1.getD x_l1.toNat default).At.Y), .f .f32 ((holds_1.getD x_l1.toNat default).At.Z), .f .f32 ((holds_1.getD x_l1.toNat default).Way.X), .f .f32 ((holds_1.getD x_l1.toNat default).Way.Y), .f .f32 ((holds_1.getD x_l1.toNat default).Way.Z)], .call (.b (v_impl_IsHold (holds_1.getD x_l1.toNat default))) [], .bo true, .bo true, .bo true, .bo true, .bo true, .bo true, .bo true, .bo true, .bo true, .bo true, .bo true, .bo true])
          (ps := []) (mask := [false, false, false, false, true, false, false, false, false, false, false, false, false, false, false, false, false, false, false, false, false, false, false, false, false, false, false, false, false, false, false, false, false, false, false]) (ks := [])
          (C := [(decide (x_l1 < (holds_1.length : Int))) = true,
            0 ≤ x_l1 ∧ (holds_1.map GHold.cells)[Int.toNat x_l1]? = some [.i .i64 ((holds_1.getD x_l1.toNat default).Place), .i .i64 ((holds_1.getD x_l1.toNat default).Kind), .f .f32 ((holds_1.getD x_l1.toNat default).At.X), .f .f32 ((holds_1.getD x_l1.toNat default).At.Y), .f .f32 ((holds_1.getD x_l1.toNat default).At.Z), .f .f32 ((holds_1.getD x_l1.toNat default).Way.X), .f .f32 ((holds_1.getD x_l1.toNat default).Way.Y), .f .f32 ((holds_1.getD x_l1.toNat default).Way.Z)],
            Fn Go.Proofs.Try.prog 79 [.agg [.i .i64 ((holds_1.getD x_l1.toNat default).Place), .i .i64 ((holds_1.getD x_l1.toNat default).Kind), .f .f32 ((holds_1.getD x_l1.toNat default).At.X), .f .f32 ((holds_1.getD x_l1.toNat default).At.Y), .f .f32 ((holds_1.getD x_l1.toNat default).At.Z), .f .f32 ((holds_1.getD x_l1.toNat default).Way.X), .f .f32 ((holds_1.getD x_l1.toNat default).Way.Y), .f .f32 ((holds_1.getD x_l1.toNat default).Way.Z)]] (.b (v_impl_IsHold (holds_1.getD x_l1.toNat default))) [],
            (!(v_impl_IsHold (holds_1.getD x_l1.toNat default))) = true,
            (!(v_impl_IsHold (holds_1.getD x_l1.toNat default))) = true,
            (!(v_impl_IsHold (holds_1.getD x_l1.toNat default))) = true,
            (!(v_impl_IsHold (holds_1.getD x_l1.toNat default))) = true,
            (!(v_impl_IsHold (holds_1.getD x_l1.toNat default))) = true,
            (!(v_impl_IsHold (holds_1.getD x_l1.toNat default))) = true,
            (!(v_impl_IsHold (holds_1.getD x_l1.toNat default))) = true,
            (!(v_impl_IsHold (holds_1.getD x_l1.toNat default))) = true,
            (!(v_impl_IsHold (holds_1.getD x_l1.toNat default))) = true,
            (!(v_impl_IsHold (holds_1.getD x_l1.toNat default))) = true,
            (!(v_impl_IsHold (holds_1.getD x_l1.toNat default))) = true,
            true = true])
          (by kernel_rfl)
          ⟨h_0, (get_ok (by first | assumption | omega | (simp at * <;> omega) | (simp_all <;> omega)) (by first | assumption | omega | (simp at * <;> omega) | (simp_all <;> omega))), (t_impl_IsHold (holds_1.getD x_l1.toNat default)), (congrArg not h_1), (congrArg not h_1), (congrArg not h_1), (congrArg not h_1), (congrArg not h_1), (congrArg not h_1), (congrArg not h_1), (congrArg not h_1), (congrArg not h_1), (congrArg not h_1), (congrArg not h_1), rfl, trivial⟩
          (by intro h; cases h) rfl
    | false =>
      have e : lo_impl_AreHolds_1 m_0 holds_1 (k + 1) last_l0 x_l1 = (.inr ()) := by simp only [lo_impl_AreHolds_1, h_0, cond_false]
      rw [e]
      exact stepK_out (E := E0) E0Ok hMixed (e := (.exit 0)) (body := (sub (bodyOf Go.Proofs.Try.f26) [1, 1, 1, 0, 1, 0, 0])) (st := ⟨[.agg [.sl (m_0.Places.map GVector.cells), .sl (m_0.Triangles.map (cL (cI .i64)))], .sl (holds_1.map GHold.cells), .ptr 0 0 0, .any, .any, .i .i64 last_l0, .any, .any, .agg [.sl (m_0.Places.map GVector.cells), .sl (m_0.Triangles.map (cL (cI .i64)))], .b (v_impl_ValidMesh m_0), .b (!(v_impl_ValidMesh m_0)), .sl (holds_1.map GHold.cells), .i .i64 (holds_1.length : Int), .i .i64 x_l1, .any, .any, .any, .any, .any, .any, .any, .any, .any, .any, .any, .any, .any, .any, .any, .any, .any, .any, .any, .any, .any], [.box 36 [.sl (m_0.Places.map GVector.cells), .sl (m_0.Triangles.map (cL (cI .i64)))]]⟩)
        (st2 := ⟨[.agg [.sl (m_0.Places.map GVector.cells), .sl (m_0.Triangles.map (cL (cI .i64)))], .sl (holds_1.map GHold.cells), .ptr 0 0 0, .any, .any, .any, .any, .any, .agg [.sl (m_0.Places.map GVector.cells), .sl (m_0.Triangles.map (cL (cI .i64)))], .b (v_impl_ValidMesh m_0), .b (!(v_impl_ValidMesh m_0)), .sl (holds_1.map GHold.cells), .any, .any, .any, .any, .any, .any, .any, .any, .any, .any, .any, .any, .any, .any, .any, .any, .any, .any, .any, .any, .any, .any, .any], [.box 36 [.sl (m_0.Places.map GVector.cells), .sl (m_0.Triangles.map (cL (cI .i64)))]]⟩)
        (ans := [.bo false])
        (ps := []) (mask := [true, true, true, false, false, false, false, false, true, true, true, true, false, false, false, false, false, false, false, false, false, false, false, false, false, false, false, false, false, false, false, false, false, false, false]) (ks := [0])
        (C := [(decide (x_l1 < (holds_1.length : Int))) = false])
        (by kernel_rfl)
        ⟨h_0, trivial⟩
        (by intro h; cases h) rfl

def lr_impl_AreHolds_1_0 (m_0 : GMesh) (holds_1 : (List GHold)) : (Unit) ⊕ (Unit) := (lo_impl_AreHolds_1 m_0 holds_1 (((holds_1.length : Int) - 0).toNat + 1) (-1) 0)

/-- impl.AreHolds -/
def v_impl_AreHolds (m_0 : GMesh) (holds_1 : (List GHold)) : Bool := (cond (v_impl_ValidMesh m_0)
  (match (lr_impl_AreHolds_1_0 m_0 holds_1) with
    | .inl r2 => false
    | .inr r2 => true)
  false)

theorem t_impl_AreHolds (m_0 : GMesh) (holds_1 : (List GHold)) (hp0 : m_0.Places.length ≤ 1073741824) (hp1 : m_0.Triangles.length ≤ 1073741824) (hp2 : ∀ t ∈ m_0.Triangles, t.length ≤ 1073741824) (hp3 : holds_1.length ≤ 1073741824)  : Fn Go.Proofs.Try.prog 26 [.agg [.sl (m_0.Places.map GVector.cells), .sl (m_0.Triangles.map (cL (cI .i64)))], .sl (holds_1.map GHold.cells)] (.b (v_impl_AreHolds m_0 holds_1)) [] := by
  cases h0 : (v_impl_ValidMesh m_0) with
  | true =>
    cases h1 : (lr_impl_AreHolds_1_0 m_0 holds_1) with
    | inl r2 =>
      exact Fn.cast (CallSt.fn (callSt_of_evK (E := E0) E0Ok hMixed (c := bodyOf Go.Proofs.Try.f26) (rows := []) (r := .b false) (rows' := [])
        (ans := [.call (.b (v_impl_ValidMesh m_0)) [], .bo false, .num (holds_1.length : Int), .loop [true, true, true, false, false, true, false, false, true, true, true, true, true, true, false, false, false, false, false, false, false, false, false, false, false, false, false, false, false, false, false, false, false, false, false] 1 .ret ⟨[.any, .any, .any, .any, .b false, .any, .any, .any, .any, .any, .any, .any, .any, .any, .any, .any, .any, .any, .any, .any, .any, .any, .any, .any, .any, .any, .any, .any, .any, .any, .any, .any, .any, .any, .any], []⟩, .keep []])
        (ps := [])
        (C := [Fn Go.Proofs.Try.prog 74 [.agg [.sl (m_0.Places.map GVector.cells), .sl (m_0.Triangles.map (cL (cI .i64)))]] (.b (v_impl_ValidMesh m_0)) [],
          (!(v_impl_ValidMesh m_0)) = false,
          (((holds_1.map GHold.cells).length : Nat) : Int) = (holds_1.length : Int),
          Lp Go.Proofs.Try.prog 0 (sub (bodyOf Go.Proofs.Try.f26) [1, 1, 1, 0, 1, 0, 0]) ⟨[.agg [.sl (m_0.Places.map GVector.cells), .sl (m_0.Triangles.map (cL (cI .i64)))], .sl (holds_1.map GHold.cells), .ptr 0 0 0, .any, .any, .i .i64 (-1), .any, .any, .agg [.sl (m_0.Places.map GVector.cells), .sl (m_0.Triangles.map (cL (cI .i64)))], .b (v_impl_ValidMesh m_0), .b (!(v_impl_ValidMesh m_0)), .sl (holds_1.map GHold.cells), .i .i64 (holds_1.length : Int), .i .i64 0, .any, .any, .any, .any, .any, .any, .any, .any, .any, .any, .any, .any, .any, .any, .any, .any, .any, .any, .any, .any, .any], [.box 36 [.sl (m_0.Places.map GVector.cells), .sl (m_0.Triangles.map (cL (cI .i64)))]]⟩ .ret ⟨[.any, .any, .any, .any, .b false, .any, .any, .any, .any, .any, .any, .any, .any, .any, .any, .any, .any, .any, .any, .any, .any, .any, .any, .any, .any, .any, .any, .any, .any, .any, .any, .any, .any, .any, .any], []⟩])
        Go.Proofs.Try.func26 rfl (by kernel_rfl) (by kernel_rfl)
        ⟨(t_impl_ValidMesh m_0 (show m_0.Places.length ≤ 1073741824 from (by first | assumption | omega | (simp at * <;> omega) | (simp_all <;> omega))) (show m_0.Triangles.length ≤ 1073741824 from (by first | assumption | omega | (simp at * <;> omega) | (simp_all <;> omega))) (show ∀ t ∈ m_0.Triangles, t.length ≤ 1073741824 from (by first | assumption | omega | (simp at * <;> omega) | (simp_all <;> omega)))), (congrArg not h0), len_ok, (by have q := (lp_impl_AreHolds_1 m_0 holds_1 hp0 hp1 hp2 hp3 h0 (((holds_1.length : Int) - 0).toNat + 1) (-1) 0 (show 0 ≤ 0 from (by first | assumption | omega | (simp at * <;> omega) | (simp_all <;> omega))) (Nat.lt_succ_self _)); rw [show (lo_impl_AreHolds_1 m_0 holds_1 (((holds_1.length : Int) - 0).toNat + 1) (-1) 0) = _ from rfl] at q; rw [show (lo_impl_AreHolds_1 m_0 holds_1 (((holds_1.length : Int) - 0).toNat + 1) (-1) 0) = (lr_impl_AreHolds_1_0 m_0 holds_1) from rfl, h1] at q; exact q), trivial⟩) rfl) (by simp only [v_impl_AreHolds, h0, h1, cond_true]) rfl
    | inr r2 =>
      exact Fn.cast (CallSt.fn (callSt_of_evK (E := E0) E0Ok hMixed (c := bodyOf Go.Proofs.Try.f26) (rows := []) (r := .b true) (rows' := [])
        (ans := [.call (.b (v_impl_ValidMesh m_0)) [], .bo false, .num (holds_1.length : Int), .loop [true, true, true, false, false, true, false, false, true, true, true, true, true, true, false, false, false, false, false, false, false, false, false, false, false, false, false, false, false, false, false, false, false, false, false] 1 (.exit 0) ⟨[.agg [.sl (m_0.Places.map GVector.cells), .sl (m_0.Triangles.map (cL (cI .i64)))], .sl (holds_1.map GHold.cells), .ptr 0 0 0, .any, .any, .any, .any, .any, .agg [.sl (m_0.Places.map GVector.cells), .sl (m_0.Triangles.map (cL (cI .i64)))], .b (v_impl_ValidMesh m_0), .b (!(v_impl_ValidMesh m_0)), .sl (holds_1.map GHold.cells), .any, .any, .any, .any, .any, .any, .any, .any, .any, .any, .any, .any, .any, .any, .any, .any, .any, .any, .any, .any, .any, .any, .any], [.box 36 [.sl (m_0.Places.map GVector.cells), .sl (m_0.Triangles.map (cL (cI .i64)))]]⟩, .keep []])
        (ps := [])
        (C := [Fn Go.Proofs.Try.prog 74 [.agg [.sl (m_0.Places.map GVector.cells), .sl (m_0.Triangles.map (cL (cI .i64)))]] (.b (v_impl_ValidMesh m_0)) [],
          (!(v_impl_ValidMesh m_0)) = false,
          (((holds_1.map GHold.cells).length : Nat) : Int) = (holds_1.length : Int),
          Lp Go.Proofs.Try.prog 0 (sub (bodyOf Go.Proofs.Try.f26) [1, 1, 1, 0, 1, 0, 0]) ⟨[.agg [.sl (m_0.Places.map GVector.cells), .sl (m_0.Triangles.map (cL (cI .i64)))], .sl (holds_1.map GHold.cells), .ptr 0 0 0, .any, .any, .i .i64 (-1), .any, .any, .agg [.sl (m_0.Places.map GVector.cells), .sl (m_0.Triangles.map (cL (cI .i64)))], .b (v_impl_ValidMesh m_0), .b (!(v_impl_ValidMesh m_0)), .sl (holds_1.map GHold.cells), .i .i64 (holds_1.length : Int), .i .i64 0, .any, .any, .any, .any, .any, .any, .any, .any, .any, .any, .any, .any, .any, .any, .any, .any, .any, .any, .any, .any, .any], [.box 36 [.sl (m_0.Places.map GVector.cells), .sl (m_0.Triangles.map (cL (cI .i64)))]]⟩ (.exit 0) ⟨[.agg [.sl (m_0.Places.map GVector.cells), .sl (m_0.Triangles.map (cL (cI .i64)))], .sl (holds_1.map GHold.cells), .ptr 0 0 0, .any, .any, .any, .any, .any, .agg [.sl (m_0.Places.map GVector.cells), .sl (m_0.Triangles.map (cL (cI .i64)))], .b (v_impl_ValidMesh m_0), .b (!(v_impl_ValidMesh m_0)), .sl (holds_1.map GHold.cells), .any, .any, .any, .any, .any, .any, .any, .any, .any, .any, .any, .any, .any, .any, .any, .any, .any, .any, .any, .any, .any, .any, .any], [.box 36 [.sl (m_0.Places.map GVector.cells), .sl (m_0.Triangles.map (cL (cI .i64)))]]⟩])
        Go.Proofs.Try.func26 rfl (by kernel_rfl) (by kernel_rfl)
        ⟨(t_impl_ValidMesh m_0 (show m_0.Places.length ≤ 1073741824 from (by first | assumption | omega | (simp at * <;> omega) | (simp_all <;> omega))) (show m_0.Triangles.length ≤ 1073741824 from (by first | assumption | omega | (simp at * <;> omega) | (simp_all <;> omega))) (show ∀ t ∈ m_0.Triangles, t.length ≤ 1073741824 from (by first | assumption | omega | (simp at * <;> omega) | (simp_all <;> omega)))), (congrArg not h0), len_ok, (by have q := (lp_impl_AreHolds_1 m_0 holds_1 hp0 hp1 hp2 hp3 h0 (((holds_1.length : Int) - 0).toNat + 1) (-1) 0 (show 0 ≤ 0 from (by first | assumption | omega | (simp at * <;> omega) | (simp_all <;> omega))) (Nat.lt_succ_self _)); rw [show (lo_impl_AreHolds_1 m_0 holds_1 (((holds_1.length : Int) - 0).toNat + 1) (-1) 0) = _ from rfl] at q; rw [show (lo_impl_AreHolds_1 m_0 holds_1 (((holds_1.length : Int) - 0).toNat + 1) (-1) 0) = (lr_impl_AreHolds_1_0 m_0 holds_1) from rfl, h1] at q; exact q), trivial⟩) rfl) (by simp only [v_impl_AreHolds, h0, h1, cond_true]) rfl
  | false =>
    exact Fn.cast (CallSt.fn (callSt_of_evK (E := E0) E0Ok hMixed (c := bodyOf Go.Proofs.Try.f26) (rows := []) (r := .b false) (rows' := [])
      (ans := [.call (.b (v_impl_ValidMesh m_0)) [], .bo true, .keep []])
      (ps := [])
      (C := [Fn Go.Proofs.Try.prog 74 [.agg [.sl (m_0.Places.map GVector.cells), .sl (m_0.Triangles.map (cL (cI .i64)))]] (.b (v_impl_ValidMesh m_0)) [],
        (!(v_impl_ValidMesh m_0)) = true])
      Go.Proofs.Try.func26 rfl (by kernel_rfl) (by kernel_rfl)
      ⟨(t_impl_ValidMesh m_0 (show m_0.Places.length ≤ 1073741824 from (by first | assumption | omega | (simp at * <;> omega) | (simp_all <;> omega))) (show m_0.Triangles.length ≤ 1073741824 from (by first | assumption | omega | (simp at * <;> omega) | (simp_all <;> omega))) (show ∀ t ∈ m_0.Triangles, t.length ≤ 1073741824 from (by first | assumption | omega | (simp at * <;> omega) | (simp_all <;> omega)))), (congrArg not h0), trivial⟩) rfl) (by simp only [v_impl_AreHolds, h0, cond_false]) rfl

theorem within_rise (p last n : Int) (h0 : -1 ≤ last) (hn : 0 ≤ n) (hn' : n ≤ 64) (hl : last < n ∨ last = -1) : v_impl_within p (IntKind.wrap .i64 (last + 1)) (IntKind.wrap .i64 (n - 1)) = (v_spec_l00In p 0 (IntKind.wrap .i64 (n - 1)) && !(decide (last ≥ p))) := by
  rw [show v_impl_within = v_spec_l00In from rfl]
  unfold v_spec_l00In
  rw [wrap_id (n := last + 1) (by omega) (by omega), wrap_id (n := n - 1) (by omega) (by omega)]
  by_cases h1 : p ≥ last + 1 <;> by_cases h2 : p ≤ n - 1 <;> by_cases h3 : p ≥ 0 <;> by_cases h4 : last ≥ p <;> simp [h1, h2, h3, h4] <;> omega
theorem lo_AreHolds (m : GMesh) (hs : List GHold) (hn : m.Places.length ≤ 64) : ∀ (k : Nat) (last i : Int), 0 ≤ i → (i = 0 ∧ last = -1 ∨ 0 < i ∧ last = (hs.getD (i - 1).toNat default).Place ∧ 0 ≤ last ∧ last < (m.Places.length : Int)) → lo_impl_AreHolds_1 m hs k last i = lo_spec_l04Are_1 m hs k i := by
  intro k
  induction k with
  | zero => intros; rfl
  | succ k ih =>
    intro last i h0 hl
    rw [lo_impl_AreHolds_1, lo_spec_l04Are_1]
    cases decide (i < (hs.length : Int)) with
    | false => rfl
    | true =>
      rw [cond_true, cond_true, show v_impl_IsHold (hs.getD i.toNat default) = v_spec_l04Is (hs.getD i.toNat default) from rfl]
      cases v_spec_l04Is (hs.getD i.toNat default) with
      | false => rfl
      | true =>
        rw [cond_true, cond_true, within_rise _ last (m.Places.length : Int) (by omega) (by omega) (by omega) (by omega)]
        unfold v_spec_l02Place
        cases hP : v_spec_l00In ((hs.getD i.toNat default).Place) 0 (IntKind.wrap .i64 ((m.Places.length : Int) - 1)) with
        | false => rfl
        | true =>
          rw [Bool.true_and, cond_true]
          have hb : 0 ≤ (hs.getD i.toNat default).Place ∧ (hs.getD i.toNat default).Place < (m.Places.length : Int) := by
            unfold v_spec_l00In at hP
            rw [wrap_id (n := (m.Places.length : Int) - 1) (by omega) (by omega)] at hP
            generalize (hs.getD i.toNat default).Place = P at hP ⊢
            by_cases h1 : P ≥ 0 <;> simp [h1] at hP
            omega
          have hi := ih (hs.getD i.toNat default).Place (i + 1) (by omega) (.inr ⟨by omega, by rw [show i + 1 - 1 = i from by omega], hb.1, hb.2⟩)
          rw [hi]
          rcases hl with ⟨hi0, hl⟩ | ⟨hi0, hl, _⟩
          · rw [decide_eq_false (show ¬ last ≥ (hs.getD i.toNat default).Place from by omega), decide_eq_false (show ¬ i > 0 from by omega)]; rfl
          · rw [decide_eq_true (show i > 0 from hi0), cond_true, ← hl]
            cases decide (last ≥ (hs.getD i.toNat default).Place) <;> rfl
theorem eq_AreHolds (m : GMesh) (hs : List GHold) : v_impl_AreHolds m hs = v_spec_l04Are m hs := by
  unfold v_impl_AreHolds v_spec_l04Are
  rw [eq_ValidMesh]
  cases h : v_spec_l02Is m with
  | false => rfl
  | true =>
    unfold lr_impl_AreHolds_1_0 lr_spec_l04Are_1_0
    have hn : m.Places.length ≤ 64 := by
      rw [l02Is_eq] at h
      cases h1 : decide ((m.Places.length : Int) > 64) <;> rw [h1] at h <;> (try (cases h; done))
      simp only [decide_eq_false_iff_not] at h1
      omega
    rw [lo_AreHolds m hs hn _ _ _ (Int.le_refl 0) (.inl ⟨rfl, rfl⟩)]
    rfl

/-- laws.sameFloat -/
def v_laws_sameFloat (a_0 : Nat) (b_1 : Nat) : Bool := (cond (fcmp .neq .f64 a_0 a_0)
  (fcmp .neq .f64 b_1 b_1)
  (cond (fcmp .neq .f64 b_1 b_1)
    false
    (cond (fcmp .eql .f64 a_0 0)
      (cond (fcmp .eql .f64 b_1 0)
        ((fcmp .gtr .f64 (fop .quo .f64 4607182418800017408 a_0) 0) == (fcmp .gtr .f64 (fop .quo .f64 4607182418800017408 b_1) 0))
        (fcmp .eql .f64 a_0 b_1))
      (fcmp .eql .f64 a_0 b_1))))

theorem t_laws_sameFloat (a_0 : Nat) (b_1 : Nat)   : Fn Go.Proofs.Try.prog 17 [.f .f64 a_0, .f .f64 b_1] (.b (v_laws_sameFloat a_0 b_1)) [] := by
  cases h0 : (fcmp .neq .f64 a_0 a_0) with
  | true =>
    exact Fn.cast (CallSt.fn (callSt_of_evK (E := E0) E0Ok hMixed (c := bodyOf Go.Proofs.Try.f17) (rows := []) (r := .b (fcmp .neq .f64 b_1 b_1)) (rows' := [])
      (ans := [.bo true, .bo true, .bo true, .bo true, .bo true, .bo true, .bo true, .bo true, .bo true, .keep []])
      (ps := [])
      (C := [(fcmp .neq .f64 a_0 a_0) = true,
        (fcmp .neq .f64 a_0 a_0) = true,
        (fcmp .neq .f64 a_0 a_0) = true,
        (fcmp .neq .f64 a_0 a_0) = true,
        true = true,
        (fcmp .neq .f64 a_0 a_0) = true,
        (fcmp .neq .f64 a_0 a_0) = true,
        (fcmp .neq .f64 a_0 a_0) = true,
        (fcmp .neq .f64 a_0 a_0) = true])
      Go.Proofs.Try.func17 rfl (by kernel_rfl) (by kernel_rfl)
      ⟨h0, h0, h0, h0, rfl, h0, h0, h0, h0, trivial⟩) rfl) (by simp only [v_laws_sameFloat, h0, cond_true]) rfl
  | false =>
    cases h1 : (fcmp .neq .f64 b_1 b_1) with
    | true =>
      exact Fn.cast (CallSt.fn (callSt_of_evK (E := E0) E0Ok hMixed (c := bodyOf Go.Proofs.Try.f17) (rows := []) (r := .b false) (rows' := [])
        (ans := [.bo false, .bo false, .bo false, .bo false, .bo true, .bo false, .bo false, .bo false, .bo false, .keep []])
        (ps := [])
        (C := [(fcmp .neq .f64 a_0 a_0) = false,
          (fcmp .neq .f64 a_0 a_0) = false,
          (fcmp .neq .f64 a_0 a_0) = false,
          (fcmp .neq .f64 a_0 a_0) = false,
          (fcmp .neq .f64 b_1 b_1) = true,
          (fcmp .neq .f64 a_0 a_0) = false,
          (fcmp .neq .f64 a_0 a_0) = false,
          (fcmp .neq .f64 a_0 a_0) = false,
          (fcmp .neq .f64 a_0 a_0) = false])
        Go.Proofs.Try.func17 rfl (by kernel_rfl) (by kernel_rfl)
        ⟨h0, h0, h0, h0, h1, h0, h0, h0, h0, trivial⟩) rfl) (by simp only [v_laws_sameFloat, h0, h1, cond_true, cond_false]) rfl
    | false =>
      cases h2 : (fcmp .eql .f64 a_0 0) with
      | true =>
        cases h3 : (fcmp .eql .f64 b_1 0) with
        | true =>
          exact Fn.cast (CallSt.fn (callSt_of_evK (E := E0) E0Ok hMixed (c := bodyOf Go.Proofs.Try.f17) (rows := []) (r := .b ((fcmp .gtr .f64 (fop .quo .f64 4607182418800017408 a_0) 0) == (fcmp .gtr .f64 (fop .quo .f64 4607182418800017408 b_1) 0))) (rows' := [])
            (ans := [.bo false, .bo false, .bo false, .bo false, .bo false, .bo true, .bo true, .bo true, .bo true, .keep []])
            (ps := [])
            (C := [(fcmp .neq .f64 a_0 a_0) = false,
              (fcmp .neq .f64 a_0 a_0) = false,
              (fcmp .neq .f64 a_0 a_0) = false,
              (fcmp .neq .f64 a_0 a_0) = false,
              (fcmp .neq .f64 b_1 b_1) = false,
              (fcmp .eql .f64 a_0 0) = true,
              (fcmp .eql .f64 a_0 0) = true,
              (fcmp .eql .f64 a_0 0) = true,
              (fcmp .eql .f64 b_1 0) = true])
            Go.Proofs.Try.func17 rfl (by kernel_rfl) (by kernel_rfl)
            ⟨h0, h0, h0, h0, h1, h2, h2, h2, h3, trivial⟩) rfl) (by simp only [v_laws_sameFloat, h0, h1, h2, h3, cond_true, cond_false]) rfl
        | false =>
          exact Fn.cast (CallSt.fn (callSt_of_evK (E := E0) E0Ok hMixed (c := bodyOf Go.Proofs.Try.f17) (rows := []) (r := .b (fcmp .eql .f64 a_0 b_1)) (rows' := [])
            (ans := [.bo false, .bo false, .bo false, .bo false, .bo false, .bo true, .bo true, .bo true, .bo false, .keep []])
            (ps := [])
            (C := [(fcmp .neq .f64 a_0 a_0) = false,
              (fcmp .neq .f64 a_0 a_0) = false,
              (fcmp .neq .f64 a_0 a_0) = false,
              (fcmp .neq .f64 a_0 a_0) = false,
              (fcmp .neq .f64 b_1 b_1) = false,
              (fcmp .eql .f64 a_0 0) = true,
              (fcmp .eql .f64 a_0 0) = true,
              (fcmp .eql .f64 a_0 0) = true,
              (fcmp .eql .f64 b_1 0) = false])
            Go.Proofs.Try.func17 rfl (by kernel_rfl) (by kernel_rfl)
            ⟨h0, h0, h0, h0, h1, h2, h2, h2, h3, trivial⟩) rfl) (by simp only [v_laws_sameFloat, h0, h1, h2, h3, cond_true, cond_false]) rfl
      | false =>
        exact Fn.cast (CallSt.fn (callSt_of_evK (E := E0) E0Ok hMixed (c := bodyOf Go.Proofs.Try.f17) (rows := []) (r := .b (fcmp .eql .f64 a_0 b_1)) (rows' := [])
          (ans := [.bo false, .bo false, .bo false, .bo false, .bo false, .bo false, .bo false, .bo false, .bo false, .keep []])
          (ps := [])
          (C := [(fcmp .neq .f64 a_0 a_0) = false,
            (fcmp .neq .f64 a_0 a_0) = false,
            (fcmp .neq .f64 a_0 a_0) = false,
            (fcmp .neq .f64 a_0 a_0) = false,
            (fcmp .neq .f64 b_1 b_1) = false,
            (fcmp .eql .f64 a_0 0) = false,
            (fcmp .eql .f64 a_0 0) = false,
            (fcmp .eql .f64 a_0 0) = false,
            false = false])
          Go.Proofs.Try.func17 rfl (by kernel_rfl) (by kernel_rfl)
          ⟨h0, h0, h0, h0, h1, h2, h2, h2, rfl, trivial⟩) rfl) (by simp only [v_laws_sameFloat, h0, h1, h2, cond_false]) rfl

theorem same_self (x : Nat) : v_laws_sameFloat x x = true := by
  unfold v_laws_sameFloat
  cases h : fcmp .neq .f64 x x
  · simp only [cond_false]
    have h2 : fcmp .eql .f64 x x = true := by
      unfold fcmp at h ⊢
      simpa using h
    cases fcmp .eql .f64 x 0 <;> simp [h2]
  · rfl

/-- laws.eqVector -/
def v_laws_eqVector (a_0 : GVector) (b_1 : GVector) : Bool := (cond (v_laws_sameFloat (fcv .f32 .f64 a_0.X) (fcv .f32 .f64 b_1.X))
  (cond (v_laws_sameFloat (fcv .f32 .f64 a_0.Y) (fcv .f32 .f64 b_1.Y))
    (cond (v_laws_sameFloat (fcv .f32 .f64 a_0.Z) (fcv .f32 .f64 b_1.Z))
      true
      false)
    false)
  false)

theorem t_laws_eqVector (a_0 : GVector) (b_1 : GVector)   : Fn Go.Proofs.Try.prog 86 [.agg [.f .f32 a_0.X, .f .f32 a_0.Y, .f .f32 a_0.Z], .agg [.f .f32 b_1.X, .f .f32 b_1.Y, .f .f32 b_1.Z]] (.b (v_laws_eqVector a_0 b_1)) [] := by
  cases h0 : (v_laws_sameFloat (fcv .f32 .f64 a_0.X) (fcv .f32 .f64 b_1.X)) with
  | true =>
    cases h1 : (v_laws_sameFloat (fcv .f32 .f64 a_0.Y) (fcv .f32 .f64 b_1.Y)) with
    | true =>
      cases h2 : (v_laws_sameFloat (fcv .f32 .f64 a_0.Z) (fcv .f32 .f64 b_1.Z)) with
      | true =>
        exact Fn.cast (CallSt.fn (callSt_of_evK (E := E0) E0Ok hMixed (c := bodyOf Go.Proofs.Try.f86) (rows := []) (r := .b true) (rows' := [])
          (ans := [.call (.b (v_laws_sameFloat (fcv .f32 .f64 a_0.X) (fcv .f32 .f64 b_1.X))) [], .bo false, .call (.b (v_laws_sameFloat (fcv .f32 .f64 a_0.Y) (fcv .f32 .f64 b_1.Y))) [], .bo false, .call (.b (v_laws_sameFloat (fcv .f32 .f64 a_0.Z) (fcv .f32 .f64 b_1.Z))) [], .bo false, .keep []])
          (ps := [])
          (C := [fcvOk .f32 .f64 a_0.X = true,
            fcvOk .f32 .f64 b_1.X = true,
            Fn Go.Proofs.Try.prog 17 [.f .f64 (fcv .f32 .f64 a_0.X), .f .f64 (fcv .f32 .f64 b_1.X)] (.b (v_laws_sameFloat (fcv .f32 .f64 a_0.X) (fcv .f32 .f64 b_1.X))) [],
            (!(v_laws_sameFloat (fcv .f32 .f64 a_0.X) (fcv .f32 .f64 b_1.X))) = false,
            fcvOk .f32 .f64 a_0.Y = true,
            fcvOk .f32 .f64 b_1.Y = true,
            Fn Go.Proofs.Try.prog 17 [.f .f64 (fcv .f32 .f64 a_0.Y), .f .f64 (fcv .f32 .f64 b_1.Y)] (.b (v_laws_sameFloat (fcv .f32 .f64 a_0.Y) (fcv .f32 .f64 b_1.Y))) [],
            (!(v_laws_sameFloat (fcv .f32 .f64 a_0.Y) (fcv .f32 .f64 b_1.Y))) = false,
            fcvOk .f32 .f64 a_0.Z = true,
            fcvOk .f32 .f64 b_1.Z = true,
            Fn Go.Proofs.Try.prog 17 [.f .f64 (fcv .f32 .f64 a_0.Z), .f .f64 (fcv .f32 .f64 b_1.Z)] (.b (v_laws_sameFloat (fcv .f32 .f64 a_0.Z) (fcv .f32 .f64 b_1.Z))) [],
            (!(v_laws_sameFloat (fcv .f32 .f64 a_0.Z) (fcv .f32 .f64 b_1.Z))) = false])
          Go.Proofs.Try.func86 rfl (by kernel_rfl) (by kernel_rfl)
          ⟨(widenOk _), (widenOk _), (t_laws_sameFloat (fcv .f32 .f64 a_0.X) (fcv .f32 .f64 b_1.X)), (congrArg not h0), (widenOk _), (widenOk _), (t_laws_sameFloat (fcv .f32 .f64 a_0.Y) (fcv .f32 .f64 b_1.Y)), (congrArg not h1), (widenOk _), (widenOk _), (t_laws_sameFloat (fcv .f32 .f64 a_0.Z) (fcv .f32 .f64 b_1.Z)), (congrArg not h2), trivial⟩) rfl) (by simp only [v_laws_eqVector, h0, h1, h2, cond_true]) rfl
      | false =>
        exact Fn.cast (CallSt.fn (callSt_of_evK (E := E0) E0Ok hMixed (c := bodyOf Go.Proofs.Try.f86) (rows := []) (r := .b false) (rows' := [])
          (ans := [.call (.b (v_laws_sameFloat (fcv .f32 .f64 a_0.X) (fcv .f32 .f64 b_1.X))) [], .bo false, .call (.b (v_laws_sameFloat (fcv .f32 .f64 a_0.Y) (fcv .f32 .f64 b_1.Y))) [], .bo false, .call (.b (v_laws_sameFloat (fcv .f32 .f64 a_0.Z) (fcv .f32 .f64 b_1.Z))) [], .bo true, .keep []])
          (ps := [])
          (C := [fcvOk .f32 .f64 a_0.X = true,
            fcvOk .f32 .f64 b_1.X = true,
            Fn Go.Proofs.Try.prog 17 [.f .f64 (fcv .f32 .f64 a_0.X), .f .f64 (fcv .f32 .f64 b_1.X)] (.b (v_laws_sameFloat (fcv .f32 .f64 a_0.X) (fcv .f32 .f64 b_1.X))) [],
            (!(v_laws_sameFloat (fcv .f32 .f64 a_0.X) (fcv .f32 .f64 b_1.X))) = false,
            fcvOk .f32 .f64 a_0.Y = true,
            fcvOk .f32 .f64 b_1.Y = true,
            Fn Go.Proofs.Try.prog 17 [.f .f64 (fcv .f32 .f64 a_0.Y), .f .f64 (fcv .f32 .f64 b_1.Y)] (.b (v_laws_sameFloat (fcv .f32 .f64 a_0.Y) (fcv .f32 .f64 b_1.Y))) [],
            (!(v_laws_sameFloat (fcv .f32 .f64 a_0.Y) (fcv .f32 .f64 b_1.Y))) = false,
            fcvOk .f32 .f64 a_0.Z = true,
            fcvOk .f32 .f64 b_1.Z = true,
            Fn Go.Proofs.Try.prog 17 [.f .f64 (fcv .f32 .f64 a_0.Z), .f .f64 (fcv .f32 .f64 b_1.Z)] (.b (v_laws_sameFloat (fcv .f32 .f64 a_0.Z) (fcv .f32 .f64 b_1.Z))) [],
            (!(v_laws_sameFloat (fcv .f32 .f64 a_0.Z) (fcv .f32 .f64 b_1.Z))) = true])
          Go.Proofs.Try.func86 rfl (by kernel_rfl) (by kernel_rfl)
          ⟨(widenOk _), (widenOk _), (t_laws_sameFloat (fcv .f32 .f64 a_0.X) (fcv .f32 .f64 b_1.X)), (congrArg not h0), (widenOk _), (widenOk _), (t_laws_sameFloat (fcv .f32 .f64 a_0.Y) (fcv .f32 .f64 b_1.Y)), (congrArg not h1), (widenOk _), (widenOk _), (t_laws_sameFloat (fcv .f32 .f64 a_0.Z) (fcv .f32 .f64 b_1.Z)), (congrArg not h2), trivial⟩) rfl) (by simp only [v_laws_eqVector, h0, h1, h2, cond_true, cond_false]) rfl
    | false =>
      exact Fn.cast (CallSt.fn (callSt_of_evK (E := E0) E0Ok hMixed (c := bodyOf Go.Proofs.Try.f86) (rows := []) (r := .b false) (rows' := [])
        (ans := [.call (.b (v_laws_sameFloat (fcv .f32 .f64 a_0.X) (fcv .f32 .f64 b_1.X))) [], .bo false, .call (.b (v_laws_sameFloat (fcv .f32 .f64 a_0.Y) (fcv .f32 .f64 b_1.Y))) [], .bo true, .keep []])
        (ps := [])
        (C := [fcvOk .f32 .f64 a_0.X = true,
          fcvOk .f32 .f64 b_1.X = true,
          Fn Go.Proofs.Try.prog 17 [.f .f64 (fcv .f32 .f64 a_0.X), .f .f64 (fcv .f32 .f64 b_1.X)] (.b (v_laws_sameFloat (fcv .f32 .f64 a_0.X) (fcv .f32 .f64 b_1.X))) [],
          (!(v_laws_sameFloat (fcv .f32 .f64 a_0.X) (fcv .f32 .f64 b_1.X))) = false,
          fcvOk .f32 .f64 a_0.Y = true,
          fcvOk .f32 .f64 b_1.Y = true,
          Fn Go.Proofs.Try.prog 17 [.f .f64 (fcv .f32 .f64 a_0.Y), .f .f64 (fcv .f32 .f64 b_1.Y)] (.b (v_laws_sameFloat (fcv .f32 .f64 a_0.Y) (fcv .f32 .f64 b_1.Y))) [],
          (!(v_laws_sameFloat (fcv .f32 .f64 a_0.Y) (fcv .f32 .f64 b_1.Y))) = true])
        Go.Proofs.Try.func86 rfl (by kernel_rfl) (by kernel_rfl)
        ⟨(widenOk _), (widenOk _), (t_laws_sameFloat (fcv .f32 .f64 a_0.X) (fcv .f32 .f64 b_1.X)), (congrArg not h0), (widenOk _), (widenOk _), (t_laws_sameFloat (fcv .f32 .f64 a_0.Y) (fcv .f32 .f64 b_1.Y)), (congrArg not h1), trivial⟩) rfl) (by simp only [v_laws_eqVector, h0, h1, cond_true, cond_false]) rfl
  | false =>
    exact Fn.cast (CallSt.fn (callSt_of_evK (E := E0) E0Ok hMixed (c := bodyOf Go.Proofs.Try.f86) (rows := []) (r := .b false) (rows' := [])
      (ans := [.call (.b (v_laws_sameFloat (fcv .f32 .f64 a_0.X) (fcv .f32 .f64 b_1.X))) [], .bo true, .keep []])
      (ps := [])
      (C := [fcvOk .f32 .f64 a_0.X = true,
        fcvOk .f32 .f64 b_1.X = true,
        Fn Go.Proofs.Try.prog 17 [.f .f64 (fcv .f32 .f64 a_0.X), .f .f64 (fcv .f32 .f64 b_1.X)] (.b (v_laws_sameFloat (fcv .f32 .f64 a_0.X) (fcv .f32 .f64 b_1.X))) [],
        (!(v_laws_sameFloat (fcv .f32 .f64 a_0.X) (fcv .f32 .f64 b_1.X))) = true])
      Go.Proofs.Try.func86 rfl (by kernel_rfl) (by kernel_rfl)
      ⟨(widenOk _), (widenOk _), (t_laws_sameFloat (fcv .f32 .f64 a_0.X) (fcv .f32 .f64 b_1.X)), (congrArg not h0), trivial⟩) rfl) (by simp only [v_laws_eqVector, h0, cond_false]) rfl

theorem eqVector_self (a : GVector) : v_laws_eqVector a a = true := by
  simp [v_laws_eqVector, same_self]

def lo_laws_eqVectorS_1 (a_0 : (List GVector)) (b_1 : (List GVector)) : Nat → Int → (Unit) ⊕ (Unit)
  | 0, _ => .inl default
  | k + 1, i_l0 => (cond (decide (i_l0 < (a_0.length : Int)))
    (cond (v_laws_eqVector (a_0.getD i_l0.toNat default) (b_1.getD i_l0.toNat default))
      (lo_laws_eqVectorS_1 a_0 b_1 k (i_l0 + 1))
      (.inl ()))
    (.inr ()))

def ls_laws_eqVectorS_1 (a_0 : (List GVector)) (b_1 : (List GVector)) : (Unit) ⊕ (Unit) → Ex × St
  | .inl r => (.ret, ⟨[.any, .any, .any, .any, .b false, .any, .any, .any, .any, .any, .any, .any, .any, .any, .any, .any, .any, .any, .any, .any, .any, .any, .any, .any, .any, .any, .any], []⟩)
  | .inr r => ((.exit 0), ⟨[.sl (a_0.map GVector.cells), .sl (b_1.map GVector.cells), .any, .any, .any, .any, .sl (a_0.map GVector.cells), .i .i64 (a_0.length : Int), .sl (b_1.map GVector.cells), .i .i64 (b_1.length : Int), .b ((a_0.length : Int) != (b_1.length : Int)), .any, .any, .any, .any, .any, .any, .any, .any, .any, .any, .any, .any, .any, .any, .any, .any], []⟩)

theorem lp_laws_eqVectorS_1 (a_0 : (List GVector)) (b_1 : (List GVector)) (hp0 : a_0.length ≤ 1073741824) (hp1 : b_1.length ≤ 1073741824) (hf_laws_eqVectorS_1_0 : ((a_0.length : Int) != (b_1.length : Int)) = false) : ∀ (k : Nat) (i_l0 : Int) (hv_laws_eqVectorS_1_0 : 0 ≤ i_l0) (hk : ((a_0.length : Int) - i_l0).toNat < k), Lp Go.Proofs.Try.prog 0 (sub (bodyOf Go.Proofs.Try.f30) [1, 1, 0, 1, 0, 0]) ⟨[.sl (a_0.map GVector.cells), .sl (b_1.map GVector.cells), .any, .any, .any, .i .i64 i_l0, .sl (a_0.map GVector.cells), .i .i64 (a_0.length : Int), .sl (b_1.map GVector.cells), .i .i64 (b_1.length : Int), .b ((a_0.length : Int) != (b_1.length : Int)), .any, .any, .any, .any, .any, .any, .any, .any, .any, .any, .any, .any, .any, .any, .any, .any], []⟩ (ls_laws_eqVectorS_1 a_0 b_1 (lo_laws_eqVectorS_1 a_0 b_1 k i_l0)).1 (ls_laws_eqVectorS_1 a_0 b_1 (lo_laws_eqVectorS_1 a_0 b_1 k i_l0)).2 := by
  intro k
  induction k with
  | zero => intro i_l0 hv_laws_eqVectorS_1_0 hk; exact absurd hk (Nat.not_lt_zero _)
  | succ k ih =>
    intro i_l0 hv_laws_eqVectorS_1_0 hk
    cases h_0 : (decide (i_l0 < (a_0.length : Int))) with
    | true =>
      cases h_1 : (v_laws_eqVector (a_0.getD i_l0.toNat default) (b_1.getD i_l0.toNat default)) with
      | true =>
        have e : lo_laws_eqVectorS_1 a_0 b_1 (k + 1) i_l0 = (lo_laws_eqVectorS_1 a_0 b_1 k (i_l0 + 1)) := by simp only [lo_laws_eqVectorS_1, h_0, h_1, cond_true]
        rw [e]
        exact stepK_next (E := E0) E0Ok hMixed (body := (sub (bodyOf Go.Proofs.Try.f30) [1, 1, 0, 1, 0, 0])) (st := ⟨[.sl (a_0.map GVector.cells), .sl (b_1.map GVector.cells), .any, .any, .any, .i .i64 i_l0, .sl (a_0.map GVector.cells), .i .i64 (a_0.length : Int), .sl (b_1.map GVector.cells), .i .i64 (b_1.length : Int), .b ((a_0.length : Int) != (b_1.length : Int)), .any, .any, .any, .any, .any, .any, .any, .any, .any, .any, .any, .any, .any, .any, .any, .any], []⟩)
          (st2 := ⟨[.sl (a_0.map GVector.cells), .sl (b_1.map GVector.cells), .any, .any, .any, .i .i64 (i_l0 + 1), .sl (a_0.map GVector.cells), .i .i64 (a_0.length : Int), .sl (b_1.map GVector.cells), .i .i64 (b_1.length : Int), .b ((a_0.length : Int) != (b_1.length : Int)), .any, .any, .any, .any, .any, .any, .any, .any, .any, .any, .any, .any, .any, .any, .any, .any], []⟩)
          (ans := [.num (a_0.length : Int), .bo true, .keep [8, 8], .el [.f .f32 ((a_0.getD i_l0.toNat default).X), .f .f32 ((a_0.getD i_l0.toNat default).Y), .f .f32 ((a_0.getD i_l0.toNat default).Z)], .el [.f .f32 ((b_1.getD i_l0.toNat default).X), .f .f32 ((b_1.getD i_l0.toNat default).Y), .f .f32 ((b_1.getD i_l0.toNat default).Z)], .call (.b (v_laws_eqVector (a_0.getD i_l0.toNat default) (b_1.getD i_l0.toNat default))) [], .bo false, .num (i_l0 + 1)])
          (ps := []) (mask := [true, true, false, false, false, true, true, true, true, true, true, false, false, false, false, false, false, false, false, false, false, false, false, false, false, false, false]) (ks := [])
          (C := [(((a_0.map GVector.cells).length : Nat) : Int) = (a_0.length : Int),
            (decide (i_l0 < (a_0.length : Int))) = true,
            0 ≤ i_l0 ∧ (a_0.map GVector.cells)[Int.toNat i_l0]? = some [.f .f32 ((a_0.getD i_l0.toNat default).X), .f .f32 ((a_0.getD i_l0.toNat default).Y), .f .f32 ((a_0.getD i_l0.toNat default).Z)],
            0 ≤ i_l0 ∧ (b_1.map GVector.cells)[Int.toNat i_l0]? = some [.f .f32 ((b_1.getD i_l0.toNat default).X), .f .f32 ((b_1.getD i_l0.toNat default).Y), .f .f32 ((b_1.getD i_l0.toNat default).Z)],
            Fn Go.Proofs.Try.prog 86 [.agg [.f .f32 ((a_0.getD i_l0.toNat default).X), .f .f32 ((a_0.getD i_l0.toNat default).Y), .f .f32 ((a_0.getD i_l0.toNat default).Z)], .agg [.f .f32 ((b_1.getD i_l0.toNat default).X), .f .f32 ((b_1.getD i_l0.toNat default).Y), .f .f32 ((b_1.getD i_l0.toNat default).Z)]] (.b (v_laws_eqVector (a_0.getD i_l0.toNat default) (b_1.getD i_l0.toNat default))) [],
            (!(v_laws_eqVector (a_0.getD i_l0.toNat default) (b_1.getD i_l0.toNat default))) = false,
            IntKind.wrap .i64 (i_l0 + 1) = (i_l0 + 1)])
          (by kernel_rfl)
          ⟨len_ok, h_0, (get_ok (by first | assumption | omega | (simp at * <;> omega) | (simp_all <;> omega)) (by first | assumption | omega | (simp at * <;> omega) | (simp_all <;> omega))), (get_ok (by first | assumption | omega | (simp at * <;> omega) | (simp_all <;> omega)) (by first | assumption | omega | (simp at * <;> omega) | (simp_all <;> omega))), (t_laws_eqVector (a_0.getD i_l0.toNat default) (b_1.getD i_l0.toNat default)), (congrArg not h_1), (wrap_id (by first | assumption | omega | (simp at * <;> omega) | (simp_all <;> omega)) (by first | assumption | omega | (simp at * <;> omega) | (simp_all <;> omega))), trivial⟩
          rfl (ih (i_l0 + 1) (show 0 ≤ (i_l0 + 1) from (by first | assumption | omega | (simp at * <;> omega) | (simp_all <;> omega))) (by first | assumption | omega | (simp at * <;> omega) | (simp_all <;> omega)))
      | false =>
        have e : lo_laws_eqVectorS_1 a_0 b_1 (k + 1) i_l0 = (.inl ()) := by simp only [lo_laws_eqVectorS_1, h_0, h_1, cond_true, cond_false]
        rw [e]
        exact stepK_out (E := E0) E0Ok hMixed (e := .ret) (body := (sub (bodyOf Go.Proofs.Try.f30) [1, 1, 0, 1, 0, 0])) (st := ⟨[.sl (a_0.map GVector.cells), .sl (b_1.map GVector.cells), .any, .any, .any, .i .i64 i_l0, .sl (a_0.map GVector.cells), .i .i64 (a_0.length : Int), .sl (b_1.map GVector.cells), .i .i64 (b_1.length : Int), .b ((a_0.length : Int) != (b_1.length : Int)), .any, .any, .any, .any, .any, .any, .any, .any, .any, .any, .any, .any, .any, .any, .any, .any], []⟩)
          (st2 := ⟨[.any, .any, .any, .any, .b false, .any, .any, .any, .any, .any, .any, .any, .any, .any, .any, .any, .any, .any, .any, .any, .any, .any, .any, .any, .any, .any, .any], []⟩)
          (ans := [.num (a_0.length : Int), .bo true, .keep [8, 8], .el [.f .f32 ((a_0.getD i_l0.toNat default).X), .f .f32 ((a_0.getD i_l0.toNat default).Y), .f .f32 ((a_0.getD i_l0.toNat default).Z)], .el [.f .f32 ((b_1.getD i_l0.toNat default).X), .f .f32 ((b_1.getD i_l0.toNat default).Y), .f .f32 ((b_1.getD i_l0.toNat default).Z)], .call (.b (v_laws_eqVector (a_0.getD i_l0.toNat default) (b_1.getD i_l0.toNat default))) [], .bo true])
          (ps := []) (mask := [false, false, false, false, true, false, false, false, false, false, false, false, false, false, false, false, false, false, false, false, false, false, false, false, false, false, false]) (ks := [])
          (C := [(((a_0.map GVector.cells).length : Nat) : Int) = (a_0.length : Int),
            (decide (i_l0 < (a_0.length : Int))) = true,
            0 ≤ i_l0 ∧ (a_0.map GVector.cells)[Int.toNat i_l0]? = some [.f .f32 ((a_0.getD i_l0.toNat default).X), .f .f32 ((a_0.getD i_l0.toNat default).Y), .f .f32 ((a_0.getD i_l0.toNat default).Z)],
            0 ≤ i_l0 ∧ (b_1.map GVector.cells)[Int.toNat i_l0]? = some [.f .f32 ((b_1.getD i_l0.toNat default).X), .f .f32 ((b_1.getD i_l0.toNat default).Y), .f .f32 ((b_1.getD i_l0.toNat default).Z)],
            Fn Go.Proofs.Try.prog 86 [.agg [.f .f32 ((a_0.getD i_l0.toNat default).X), .f .f32 ((a_0.getD i_l0.toNat default).Y), .f .f32 ((a_0.getD i_l0.toNat default).Z)], .agg [.f .f32 ((b_1.getD i_l0.toNat default).X), .f .f32 ((b_1.getD i_l0.toNat default).Y), .f .f32 ((b_1.getD i_l0.toNat default).Z)]] (.b (v_laws_eqVector (a_0.getD i_l0.toNat default) (b_1.getD i_l0.toNat default))) [],
            (!(v_laws_eqVector (a_0.getD i_l0.toNat default) (b_1.getD i_l0.toNat default))) = true])
          (by kernel_rfl)
          ⟨len_ok, h_0, (get_ok (by first | assumption | omega | (simp at * <;> omega) | (simp_all <;> omega)) (by first | assumption | omega | (simp at * <;> omega) | (simp_all <;> omega))), (get_ok (by first | assumption | omega | (simp at * <;> omega) | (simp_all <;> omega)) (by first | assumption | omega | (simp at * <;> omega) | (simp_all <;> omega))), (t_laws_eqVector (a_0.getD i_l0.toNat default) (b_1.getD i_l0.toNat default)), (congrArg not h_1), trivial⟩
          (by intro h; cases h) rfl
    | false =>
      have e : lo_laws_eqVectorS_1 a_0 b_1 (k + 1) i_l0 = (.inr ()) := by simp only [lo_laws_eqVectorS_1, h_0, cond_false]
      rw [e]
      exact stepK_out (E := E0) E0Ok hMixed (e := (.exit 0)) (body := (sub (bodyOf Go.Proofs.Try.f30) [1, 1, 0, 1, 0, 0])) (st := ⟨[.sl (a_0.map GVector.cells), .sl (b_1.map GVector.cells), .any, .any, .any, .i .i64 i_l0, .sl (a_0.map GVector.cells), .i .i64 (a_0.length : Int), .sl (b_1.map GVector.cells), .i .i64 (b_1.length : Int), .b ((a_0.length : Int) != (b_1.length : Int)), .any, .any, .any, .any, .any, .any, .any, .any, .any, .any, .any, .any, .any, .any, .any, .any], []⟩)
        (st2 := ⟨[.sl (a_0.map GVector.cells), .sl (b_1.map GVector.cells), .any, .any, .any, .any, .sl (a_0.map GVector.cells), .i .i64 (a_0.length : Int), .sl (b_1.map GVector.cells), .i .i64 (b_1.length : Int), .b ((a_0.length : Int) != (b_1.length : Int)), .any, .any, .any, .any, .any, .any, .any, .any, .any, .any, .any, .any, .any, .any, .any, .any], []⟩)
        (ans := [.num (a_0.length : Int), .bo false])
        (ps := []) (mask := [true, true, false, false, false, false, true, true, true, true, true, false, false, false, false, false, false, false, false, false, false, false, false, false, false, false, false]) (ks := [])
        (C := [(((a_0.map GVector.cells).length : Nat) : Int) = (a_0.length : Int),
          (decide (i_l0 < (a_0.length : Int))) = false])
        (by kernel_rfl)
        ⟨len_ok, h_0, trivial⟩
        (by intro h; cases h) rfl

def lr_laws_eqVectorS_1_0 (a_0 : (List GVector)) (b_1 : (List GVector)) : (Unit) ⊕ (Unit) := (lo_laws_eqVectorS_1 a_0 b_1 (((a_0.length : Int) - 0).toNat + 1) 0)

/-- laws.eqVectorS -/
def v_laws_eqVectorS (a_0 : (List GVector)) (b_1 : (List GVector)) : Bool := (cond ((a_0.length : Int) != (b_1.length : Int))
  false
  (match (lr_laws_eqVectorS_1_0 a_0 b_1) with
    | .inl r2 => false
    | .inr r2 => true))

theorem t_laws_eqVectorS (a_0 : (List GVector)) (b_1 : (List GVector)) (hp0 : a_0.length ≤ 1073741824) (hp1 : b_1.length ≤ 1073741824)  : Fn Go.Proofs.Try.prog 30 [.sl (a_0.map GVector.cells), .sl (b_1.map GVector.cells)] (.b (v_laws_eqVectorS a_0 b_1)) [] := by
  cases h0 : ((a_0.length : Int) != (b_1.length : Int)) with
  | true =>
    exact Fn.cast (CallSt.fn (callSt_of_evK (E := E0) E0Ok hMixed (c := bodyOf Go.Proofs.Try.f30) (rows := []) (r := .b false) (rows' := [])
      (ans := [.num (a_0.length : Int), .num (b_1.length : Int), .bo true, .keep []])
      (ps := [])
      (C := [(((a_0.map GVector.cells).length : Nat) : Int) = (a_0.length : Int),
        (((b_1.map GVector.cells).length : Nat) : Int) = (b_1.length : Int),
        ((a_0.length : Int) != (b_1.length : Int)) = true])
      Go.Proofs.Try.func30 rfl (by kernel_rfl) (by kernel_rfl)
      ⟨len_ok, len_ok, h0, trivial⟩) rfl) (by simp only [v_laws_eqVectorS, h0, cond_true]) rfl
  | false =>
    cases h1 : (lr_laws_eqVectorS_1_0 a_0 b_1) with
    | inl r2 =>
      exact Fn.cast (CallSt.fn (callSt_of_evK (E := E0) E0Ok hMixed (c := bodyOf Go.Proofs.Try.f30) (rows := []) (r := .b false) (rows' := [])
        (ans := [.num (a_0.length : Int), .num (b_1.length : Int), .bo false, .loop [true, true, false, false, false, true, true, true, true, true, true, false, false, false, false, false, false, false, false, false, false, false, false, false, false, false, false] 0 .ret ⟨[.any, .any, .any, .any, .b false, .any, .any, .any, .any, .any, .any, .any, .any, .any, .any, .any, .any, .any, .any, .any, .any, .any, .any, .any, .any, .any, .any], []⟩, .keep []])
        (ps := [])
        (C := [(((a_0.map GVector.cells).length : Nat) : Int) = (a_0.length : Int),
          (((b_1.map GVector.cells).length : Nat) : Int) = (b_1.length : Int),
          ((a_0.length : Int) != (b_1.length : Int)) = false,
          Lp Go.Proofs.Try.prog 0 (sub (bodyOf Go.Proofs.Try.f30) [1, 1, 0, 1, 0, 0]) ⟨[.sl (a_0.map GVector.cells), .sl (b_1.map GVector.cells), .any, .any, .any, .i .i64 0, .sl (a_0.map GVector.cells), .i .i64 (a_0.length : Int), .sl (b_1.map GVector.cells), .i .i64 (b_1.length : Int), .b ((a_0.length : Int) != (b_1.length : Int)), .any, .any, .any, .any, .any, .any, .any, .any, .any, .any, .any, .any, .any, .any, .any, .any], []⟩ .ret ⟨[.any, .any, .any, .any, .b false, .any, .any, .any, .any, .any, .any, .any, .any, .any, .any, .any, .any, .any, .any, .any, .any, .any, .any, .any, .any, .any, .any], []⟩])
        Go.Proofs.Try.func30 rfl (by kernel_rfl) (by kernel_rfl)
        ⟨len_ok, len_ok, h0, (by have q := (lp_laws_eqVectorS_1 a_0 b_1 hp0 hp1 h0 (((a_0.length : Int) - 0).toNat + 1) 0 (show 0 ≤ 0 from (by first | assumption | omega | (simp at * <;> omega) | (simp_all <;> omega))) (Nat.lt_succ_self _)); rw [show (lo_laws_eqVectorS_1 a_0 b_1 (((a_0.length : Int) - 0).toNat + 1) 0) = _ from rfl] at q; rw [show (lo_laws_eqVectorS_1 a_0 b_1 (((a_0.length : Int) - 0).toNat + 1) 0) = (lr_laws_eqVectorS_1_0 a_0 b_1) from rfl, h1] at q; exact q), trivial⟩) rfl) (by simp only [v_laws_eqVectorS, h0, h1, cond_false]) rfl
    | inr r2 =>
      exact Fn.cast (CallSt.fn (callSt_of_evK (E := E0) E0Ok hMixed (c := bodyOf Go.Proofs.Try.f30) (rows := []) (r := .b true) (rows' := [])
        (ans := [.num (a_0.length : Int), .num (b_1.length : Int), .bo false, .loop [true, true, false, false, false, true, true, true, true, true, true, false, false, false, false, false, false, false, false, false, false, false, false, false, false, false, false] 0 (.exit 0) ⟨[.sl (a_0.map GVector.cells), .sl (b_1.map GVector.cells), .any, .any, .any, .any, .sl (a_0.map GVector.cells), .i .i64 (a_0.length : Int), .sl (b_1.map GVector.cells), .i .i64 (b_1.length : Int), .b ((a_0.length : Int) != (b_1.length : Int)), .any, .any, .any, .any, .any, .any, .any, .any, .any, .any, .any, .any, .any, .any, .any, .any], []⟩, .keep []])
        (ps := [])
        (C := [(((a_0.map GVector.cells).length : Nat) : Int) = (a_0.length : Int),
          (((b_1.map GVector.cells).length : Nat) : Int) = (b_1.length : Int),
          ((a_0.length : Int) != (b_1.length : Int)) = false,
          Lp Go.Proofs.Try.prog 0 (sub (bodyOf Go.Proofs.Try.f30) [1, 1, 0, 1, 0, 0]) ⟨[.sl (a_0.map GVector.cells), .sl (b_1.map GVector.cells), .any, .any, .any, .i .i64 0, .sl (a_0.map GVector.cells), .i .i64 (a_0.length : Int), .sl (b_1.map GVector.cells), .i .i64 (b_1.length : Int), .b ((a_0.length : Int) != (b_1.length : Int)), .any, .any, .any, .any, .any, .any, .any, .any, .any, .any, .any, .any, .any, .any, .any, .any], []⟩ (.exit 0) ⟨[.sl (a_0.map GVector.cells), .sl (b_1.map GVector.cells), .any, .any, .any, .any, .sl (a_0.map GVector.cells), .i .i64 (a_0.length : Int), .sl (b_1.map GVector.cells), .i .i64 (b_1.length : Int), .b ((a_0.length : Int) != (b_1.length : Int)), .any, .any, .any, .any, .any, .any, .any, .any, .any, .any, .any, .any, .any, .any, .any, .any], []⟩])
        Go.Proofs.Try.func30 rfl (by kernel_rfl) (by kernel_rfl)
        ⟨len_ok, len_ok, h0, (by have q := (lp_laws_eqVectorS_1 a_0 b_1 hp0 hp1 h0 (((a_0.length : Int) - 0).toNat + 1) 0 (show 0 ≤ 0 from (by first | assumption | omega | (simp at * <;> omega) | (simp_all <;> omega))) (Nat.lt_succ_self _)); rw [show (lo_laws_eqVectorS_1 a_0 b_1 (((a_0.length : Int) - 0).toNat + 1) 0) = _ from rfl] at q; rw [show (lo_laws_eqVectorS_1 a_0 b_1 (((a_0.length : Int) - 0).toNat + 1) 0) = (lr_laws_eqVectorS_1_0 a_0 b_1) from rfl, h1] at q; exact q), trivial⟩) rfl) (by simp only [v_laws_eqVectorS, h0, h1, cond_false]) rfl

theorem eqVectorS_self (a : List GVector) : v_laws_eqVectorS a a = true := by
  unfold v_laws_eqVectorS lr_laws_eqVectorS_1_0
  rw [all_loop (a := a) (p := fun v => v_laws_eqVector v v) (lo := lo_laws_eqVectorS_1 a a) (x := ()) (y := ()) (fun k i => rfl) (fun v _ => eqVector_self v) _ _ (Int.le_refl 0) (Nat.lt_succ_self _)]
  simp

def lo_laws_eqInt64S_1 (a_0 : (List Int)) (b_1 : (List Int)) : Nat → Int → (Unit) ⊕ (Unit)
  | 0, _ => .inl default
  | k + 1, i_l0 => (cond (decide (i_l0 < (a_0.length : Int)))
    (cond ((a_0.getD i_l0.toNat default) != (b_1.getD i_l0.toNat default))
      (.inl ())
      (lo_laws_eqInt64S_1 a_0 b_1 k (i_l0 + 1)))
    (.inr ()))

def ls_laws_eqInt64S_1 (a_0 : (List Int)) (b_1 : (List Int)) : (Unit) ⊕ (Unit) → Ex × St
  | .inl r => (.ret, ⟨[.any, .any, .any, .any, .b false, .any, .any, .any, .any, .any, .any, .any, .any, .any, .any, .any, .any, .any, .any, .any, .any, .any, .any, .any, .any, .any], []⟩)
  | .inr r => ((.exit 0), ⟨[.sl (a_0.map (cI .i64)), .sl (b_1.map (cI .i64)), .any, .any, .any, .any, .sl (a_0.map (cI .i64)), .i .i64 (a_0.length : Int), .sl (b_1.map (cI .i64)), .i .i64 (b_1.length : Int), .b ((a_0.length : Int) != (b_1.length : Int)), .any, .any, .any, .any, .any, .any, .any, .any, .any, .any, .any, .any, .any, .any, .any], []⟩)

theorem lp_laws_eqInt64S_1 (a_0 : (List Int)) (b_1 : (List Int)) (hp0 : a_0.length ≤ 1073741824) (hp1 : b_1.length ≤ 1073741824) (hf_laws_eqInt64S_1_0 : ((a_0.length : Int) != (b_1.length : Int)) = false) : ∀ (k : Nat) (i_l0 : Int) (hv_laws_eqInt64S_1_0 : 0 ≤ i_l0) (hk : ((a_0.length : Int) - i_l0).toNat < k), Lp Go.Proofs.Try.prog 0 (sub (bodyOf Go.Proofs.Try.f42) [1, 1, 0, 1, 0, 0]) ⟨[.sl (a_0.map (cI .i64)), .sl (b_1.map (cI .i64)), .any, .any, .any, .i .i64 i_l0, .sl (a_0.map (cI .i64)), .i .i64 (a_0.length : Int), .sl (b_1.map (cI .i64)), .i .i64 (b_1.length : Int), .b ((a_0.length : Int) != (b_1.length : Int)), .any, .any, .any, .any, .any, .any, .any, .any, .any, .any, .any, .any, .any, .any, .any], []⟩ (ls_laws_eqInt64S_1 a_0 b_1 (lo_laws_eqInt64S_1 a_0 b_1 k i_l0)).1 (ls_laws_eqInt64S_1 a_0 b_1 (lo_laws_eqInt64S_1 a_0 b_1 k i_l0)).2 := by
  intro k
  induction k with
  | zero => intro i_l0 hv_laws_eqInt64S_1_0 hk; exact absurd hk (Nat.not_lt_zero _)
  | succ k ih =>
    intro i_l0 hv_laws_eqInt64S_1_0 hk
    cases h_0 : (decide (i_l0 < (a_0.length : Int))) with
    | true =>
      cases h_1 : ((a_0.getD i_l0.toNat default) != (b_1.getD i_l0.toNat default)) with
      | true =>
        have e : lo_laws_eqInt64S_1 a_0 b_1 (k + 1) i_l0 = (.inl ()) := by simp only [lo_laws_eqInt64S_1, h_0, h_1, cond_true]
        rw [e]
        exact stepK_out (E := E0) E0Ok hMixed (e := .ret) (body := (sub (bodyOf Go.Proofs.Try.f42) [1, 1, 0, 1, 0, 0])) (st := ⟨[.sl (a_0.map (cI .i64)), .sl (b_1.map (cI .i64)), .any, .any, .any, .i .i64 i_l0, .sl (a_0.map (cI .i64)), .i .i64 (a_0.length : Int), .sl (b_1.map (cI .i64)), .i .i64 (b_1.length : Int), .b ((a_0.length : Int) != (b_1.length : Int)), .any, .any, .any, .any, .any, .any, .any, .any, .any, .any, .any, .any, .any, .any, .any], []⟩)
          (st2 := ⟨[.any, .any, .any, .any, .b false, .any, .any, .any, .any, .any, .any, .any, .any, .any, .any, .any, .any, .any, .any, .any, .any, .any, .any, .any, .any, .any], []⟩)
          (ans := [.num (a_0.length : Int), .bo true, .keep [8, 8], .el [.i .i64 (a_0.getD i_l0.toNat default)], .el [.i .i64 (b_1.getD i_l0.toNat default)], .bo true])
          (ps := []) (mask := [false, false, false, false, true, false, false, false, false, false, false, false, false, false, false, false, false, false, false, false, false, false, false, false, false, false]) (ks := [])
          (C := [(((a_0.map (cI .i64)).length : Nat) : Int) = (a_0.length : Int),
            (decide (i_l0 < (a_0.length : Int))) = true,
            0 ≤ i_l0 ∧ (a_0.map (cI .i64))[Int.toNat i_l0]? = some [.i .i64 (a_0.getD i_l0.toNat default)],
            0 ≤ i_l0 ∧ (b_1.map (cI .i64))[Int.toNat i_l0]? = some [.i .i64 (b_1.getD i_l0.toNat default)],
            ((a_0.getD i_l0.toNat default) != (b_1.getD i_l0.toNat default)) = true])
          (by kernel_rfl)
          ⟨len_ok, h_0, (get_ok (by first | assumption | omega | (simp at * <;> omega) | (simp_all <;> omega)) (by first | assumption | omega | (simp at * <;> omega) | (simp_all <;> omega))), (get_ok (by first | assumption | omega | (simp at * <;> omega) | (simp_all <;> omega)) (by first | assumption | omega | (simp at * <;> omega) | (simp_all <;> omega))), h_1, trivial⟩
          (by intro h; cases h) rfl
      | false =>
        have e : lo_laws_eqInt64S_1 a_0 b_1 (k + 1) i_l0 = (lo_laws_eqInt64S_1 a_0 b_1 k (i_l0 + 1)) := by simp only [lo_laws_eqInt64S_1, h_0, h_1, cond_true, cond_false]
        rw [e]
        exact stepK_next (E := E0) E0Ok hMixed (body := (sub (bodyOf Go.Proofs.Try.f42) [1, 1, 0, 1, 0, 0])) (st := ⟨[.sl (a_0.map (cI .i64)), .sl (b_1.map (cI .i64)), .any, .any, .any, .i .i64 i_l0, .sl (a_0.map (cI .i64)), .i .i64 (a_0.length : Int), .sl (b_1.map (cI .i64)), .i .i64 (b_1.length : Int), .b ((a_0.length : Int) != (b_1.length : Int)), .any, .any, .any, .any, .any, .any, .any, .any, .any, .any, .any, .any, .any, .any, .any], []⟩)
          (st2 := ⟨[.sl (a_0.map (cI .i64)), .sl (b_1.map (cI .i64)), .any, .any, .any, .i .i64 (i_l0 + 1), .sl (a_0.map (cI .i64)), .i .i64 (a_0.length : Int), .sl (b_1.map (cI .i64)), .i .i64 (b_1.length : Int), .b ((a_0.length : Int) != (b_1.length : Int)), .any, .any, .any, .any, .any, .any, .any, .any, .any, .any, .any, .any, .any, .any, .any], []⟩)
          (ans := [.num (a_0.length : Int), .bo true, .keep [8, 8], .el [.i .i64 (a_0.getD i_l0.toNat default)], .el [.i .i64 (b_1.getD i_l0.toNat default)], .bo false, .num (i_l0 + 1)])
          (ps := []) (mask := [true, true, false, false, false, true, true, true, true, true, true, false, false, false, false, false, false, false, false, false, false, false, false, false, false, false]) (ks := [])
          (C := [(((a_0.map (cI .i64)).length : Nat) : Int) = (a_0.length : Int),
            (decide (i_l0 < (a_0.length : Int))) = true,
            0 ≤ i_l0 ∧ (a_0.map (cI .i64))[Int.toNat i_l0]? = some [.i .i64 (a_0.getD i_l0.toNat default)],
            0 ≤ i_l0 ∧ (b_1.map (cI .i64))[Int.toNat i_l0]? = some [.i .i64 (b_1.getD i_l0.toNat default)],
            ((a_0.getD i_l0.toNat default) != (b_1.getD i_l0.toNat default)) = false,
            IntKind.wrap .i64 (i_l0 + 1) = (i_l0 + 1)])
          (by kernel_rfl)
          ⟨len_ok, h_0, (get_ok (by first | assumption | omega | (simp at * <;> omega) | (simp_all <;> omega)) (by first | assumption | omega | (simp at * <;> omega) | (simp_all <;> omega))), (get_ok (by first | assumption | omega | (simp at * <;> omega) | (simp_all <;> omega)) (by first | assumption | omega | (simp at * <;> omega) | (simp_all <;> omega))), h_1, (wrap_id (by first | assumption | omega | (simp at * <;> omega) | (simp_all <;> omega)) (by first | assumption | omega | (simp at * <;> omega) | (simp_all <;> omega))), trivial⟩
          rfl (ih (i_l0 + 1) (show 0 ≤ (i_l0 + 1) from (by first | assumption | omega | (simp at * <;> omega) | (simp_all <;> omega))) (by first | assumption | omega | (simp at * <;> omega) | (simp_all <;> omega)))
    | false =>
      have e : lo_laws_eqInt64S_1 a_0 b_1 (k + 1) i_l0 = (.inr ()) := by simp only [lo_laws_eqInt64S_1, h_0, cond_false]
      rw [e]
      exact stepK_out (E := E0) E0Ok hMixed (e := (.exit 0)) (body := (sub (bodyOf Go.Proofs.Try.f42) [1, 1, 0, 1, 0, 0])) (st := ⟨[.sl (a_0.map (cI .i64)), .sl (b_1.map (cI .i64)), .any, .any, .any, .i .i64 i_l0, .sl (a_0.map (cI .i64)), .i .i64 (a_0.length : Int), .sl (b_1.map (cI .i64)), .i .i64 (b_1.length : Int), .b ((a_0.length : Int) != (b_1.length : Int)), .any, .any, .any, .any, .any, .any, .any, .any, .any, .any, .any, .any, .any, .any, .any], []⟩)
        (st2 := ⟨[.sl (a_0.map (cI .i64)), .sl (b_1.map (cI .i64)), .any, .any, .any, .any, .sl (a_0.map (cI .i64)), .i .i64 (a_0.length : Int), .sl (b_1.map (cI .i64)), .i .i64 (b_1.length : Int), .b ((a_0.length : Int) != (b_1.length : Int)), .any, .any, .any, .any, .any, .any, .any, .any, .any, .any, .any, .any, .any, .any, .any], []⟩)
        (ans := [.num (a_0.length : Int), .bo false])
        (ps := []) (mask := [true, true, false, false, false, false, true, true, true, true, true, false, false, false, false, false, false, false, false, false, false, false, false, false, false, false]) (ks := [])
        (C := [(((a_0.map (cI .i64)).length : Nat) : Int) = (a_0.length : Int),
          (decide (i_l0 < (a_0.length : Int))) = false])
        (by kernel_rfl)
        ⟨len_ok, h_0, trivial⟩
        (by intro h; cases h) rfl

def lr_laws_eqInt64S_1_0 (a_0 : (List Int)) (b_1 : (List Int)) : (Unit) ⊕ (Unit) := (lo_laws_eqInt64S_1 a_0 b_1 (((a_0.length : Int) - 0).toNat + 1) 0)

/-- laws.eqInt64S -/
def v_laws_eqInt64S (a_0 : (List Int)) (b_1 : (List Int)) : Bool := (cond ((a_0.length : Int) != (b_1.length : Int))
  false
  (match (lr_laws_eqInt64S_1_0 a_0 b_1) with
    | .inl r2 => false
    | .inr r2 => true))

theorem t_laws_eqInt64S (a_0 : (List Int)) (b_1 : (List Int)) (hp0 : a_0.length ≤ 1073741824) (hp1 : b_1.length ≤ 1073741824)  : Fn Go.Proofs.Try.prog 42 [.sl (a_0.map (cI .i64)), .sl (b_1.map (cI .i64))] (.b (v_laws_eqInt64S a_0 b_1)) [] := by
  cases h0 : ((a_0.length : Int) != (b_1.length : Int)) with
  | true =>
    exact Fn.cast (CallSt.fn (callSt_of_evK (E := E0) E0Ok hMixed (c := bodyOf Go.Proofs.Try.f42) (rows := []) (r := .b false) (rows' := [])
      (ans := [.num (a_0.length : Int), .num (b_1.length : Int), .bo true, .keep []])
      (ps := [])
      (C := [(((a_0.map (cI .i64)).length : Nat) : Int) = (a_0.length : Int),
        (((b_1.map (cI .i64)).length : Nat) : Int) = (b_1.length : Int),
        ((a_0.length : Int) != (b_1.length : Int)) = true])
      Go.Proofs.Try.func42 rfl (by kernel_rfl) (by kernel_rfl)
      ⟨len_ok, len_ok, h0, trivial⟩) rfl) (by simp only [v_laws_eqInt64S, h0, cond_true]) rfl
  | false =>
    cases h1 : (lr_laws_eqInt64S_1_0 a_0 b_1) with
    | inl r2 =>
      exact Fn.cast (CallSt.fn (callSt_of_evK (E := E0) E0Ok hMixed (c := bodyOf Go.Proofs.Try.f42) (rows := []) (r := .b false) (rows' := [])
        (ans := [.num (a_0.length : Int), .num (b_1.length : Int), .bo false, .loop [true, true, false, false, false, true, true, true, true, true, true, false, false, false, false, false, false, false, false, false, false, false, false, false, false, false] 0 .ret ⟨[.any, .any, .any, .any, .b false, .any, .any, .any, .any, .any, .any, .any, .any, .any, .any, .any, .any, .any, .any, .any, .any, .any, .any, .any, .any, .any], []⟩, .keep []])
        (ps := [])
        (C := [(((a_0.map (cI .i64)).length : Nat) : Int) = (a_0.length : Int),
          (((b_1.map (cI .i64)).length : Nat) : Int) = (b_1.length : Int),
          ((a_0.length : Int) != (b_1.length : Int)) = false,
          Lp Go.Proofs.Try.prog 0 (sub (bodyOf Go.Proofs.Try.f42) [1, 1, 0, 1, 0, 0]) ⟨[.sl (a_0.map (cI .i64)), .sl (b_1.map (cI .i64)), .any, .any, .any, .i .i64 0, .sl (a_0.map (cI .i64)), .i .i64 (a_0.length : Int), .sl (b_1.map (cI .i64)), .i .i64 (b_1.length : Int), .b ((a_0.length : Int) != (b_1.length : Int)), .any, .any, .any, .any, .any, .any, .any, .any, .any, .any, .any, .any, .any, .any, .any], []⟩ .ret ⟨[.any, .any, .any, .any, .b false, .any, .any, .any, .any, .any, .any, .any, .any, .any, .any, .any, .any, .any, .any, .any, .any, .any, .any, .any, .any, .any], []⟩])
        Go.Proofs.Try.func42 rfl (by kernel_rfl) (by kernel_rfl)
        ⟨len_ok, len_ok, h0, (by have q := (lp_laws_eqInt64S_1 a_0 b_1 hp0 hp1 h0 (((a_0.length : Int) - 0).toNat + 1) 0 (show 0 ≤ 0 from (by first | assumption | omega | (simp at * <;> omega) | (simp_all <;> omega))) (Nat.lt_succ_self _)); rw [show (lo_laws_eqInt64S_1 a_0 b_1 (((a_0.length : Int) - 0).toNat + 1) 0) = _ from rfl] at q; rw [show (lo_laws_eqInt64S_1 a_0 b_1 (((a_0.length : Int) - 0).toNat + 1) 0) = (lr_laws_eqInt64S_1_0 a_0 b_1) from rfl, h1] at q; exact q), trivial⟩) rfl) (by simp only [v_laws_eqInt64S, h0, h1, cond_false]) rfl
    | inr r2 =>
      exact Fn.cast (CallSt.fn (callSt_of_evK (E := E0) E0Ok hMixed (c := bodyOf Go.Proofs.Try.f42) (rows := []) (r := .b true) (rows' := [])
        (ans := [.num (a_0.length : Int), .num (b_1.length : Int), .bo false, .loop [true, true, false, false, false, true, true, true, true, true, true, false, false, false, false, false, false, false, false, false, false, false, false, false, false, false] 0 (.exit 0) ⟨[.sl (a_0.map (cI .i64)), .sl (b_1.map (cI .i64)), .any, .any, .any, .any, .sl (a_0.map (cI .i64)), .i .i64 (a_0.length : Int), .sl (b_1.map (cI .i64)), .i .i64 (b_1.length : Int), .b ((a_0.length : Int) != (b_1.length : Int)), .any, .any, .any, .any, .any, .any, .any, .any, .any, .any, .any, .any, .any, .any, .any], []⟩, .keep []])
        (ps := [])
        (C := [(((a_0.map (cI .i64)).length : Nat) : Int) = (a_0.length : Int),
          (((b_1.map (cI .i64)).length : Nat) : Int) = (b_1.length : Int),
          ((a_0.length : Int) != (b_1.length : Int)) = false,
          Lp Go.Proofs.Try.prog 0 (sub (bodyOf Go.Proofs.Try.f42) [1, 1, 0, 1, 0, 0]) ⟨[.sl (a_0.map (cI .i64)), .sl (b_1.map (cI .i64)), .any, .any, .any, .i .i64 0, .sl (a_0.map (cI .i64)), .i .i64 (a_0.length : Int), .sl (b_1.map (cI .i64)), .i .i64 (b_1.length : Int), .b ((a_0.length : Int) != (b_1.length : Int)), .any, .any, .any, .any, .any, .any, .any, .any, .any, .any, .any, .any, .any, .any, .any], []⟩ (.exit 0) ⟨[.sl (a_0.map (cI .i64)), .sl (b_1.map (cI .i64)), .any, .any, .any, .any, .sl (a_0.map (cI .i64)), .i .i64 (a_0.length : Int), .sl (b_1.map (cI .i64)), .i .i64 (b_1.length : Int), .b ((a_0.length : Int) != (b_1.length : Int)), .any, .any, .any, .any, .any, .any, .any, .any, .any, .any, .any, .any, .any, .any, .any], []⟩])
        Go.Proofs.Try.func42 rfl (by kernel_rfl) (by kernel_rfl)
        ⟨len_ok, len_ok, h0, (by have q := (lp_laws_eqInt64S_1 a_0 b_1 hp0 hp1 h0 (((a_0.length : Int) - 0).toNat + 1) 0 (show 0 ≤ 0 from (by first | assumption | omega | (simp at * <;> omega) | (simp_all <;> omega))) (Nat.lt_succ_self _)); rw [show (lo_laws_eqInt64S_1 a_0 b_1 (((a_0.length : Int) - 0).toNat + 1) 0) = _ from rfl] at q; rw [show (lo_laws_eqInt64S_1 a_0 b_1 (((a_0.length : Int) - 0).toNat + 1) 0) = (lr_laws_eqInt64S_1_0 a_0 b_1) from rfl, h1] at q; exact q), trivial⟩) rfl) (by simp only [v_laws_eqInt64S, h0, h1, cond_false]) rfl

theorem eqInt64S_self (a : List Int) : v_laws_eqInt64S a a = true := by
  unfold v_laws_eqInt64S lr_laws_eqInt64S_1_0
  rw [all_from (a := a) (p := fun v => !(v != v)) (lo := lo_laws_eqInt64S_1 a a) (x := ()) (y := ()) (fun k i => by rw [lo_laws_eqInt64S_1]; cases (a.getD i.toNat default != a.getD i.toNat default) <;> rfl)]
  rw [show (a.all fun v => !(v != v)) = true from by rw [List.all_eq_true]; intro v _; simp]
  simp

def lo_laws_eqInt64SS_1 (a_0 : (List (List Int))) (b_1 : (List (List Int))) : Nat → Int → (Unit) ⊕ (Unit)
  | 0, _ => .inl default
  | k + 1, i_l0 => (cond (decide (i_l0 < (a_0.length : Int)))
    (cond (v_laws_eqInt64S (a_0.getD i_l0.toNat default) (b_1.getD i_l0.toNat default))
      (lo_laws_eqInt64SS_1 a_0 b_1 k (i_l0 + 1))
      (.inl ()))
    (.inr ()))

def ls_laws_eqInt64SS_1 (a_0 : (List (List Int))) (b_1 : (List (List Int))) : (Unit) ⊕ (Unit) → Ex × St
  | .inl r => (.ret, ⟨[.any, .any, .any, .any, .b false, .any, .any, .any, .any, .any, .any, .any, .any, .any, .any, .any, .any, .any, .any, .any, .any, .any, .any, .any, .any, .any, .any], []⟩)
  | .inr r => ((.exit 0), ⟨[.sl (a_0.map (cL (cI .i64))), .sl (b_1.map (cL (cI .i64))), .any, .any, .any, .any, .sl (a_0.map (cL (cI .i64))), .i .i64 (a_0.length : Int), .sl (b_1.map (cL (cI .i64))), .i .i64 (b_1.length : Int), .b ((a_0.length : Int) != (b_1.length : Int)), .any, .any, .any, .any, .any, .any, .any, .any, .any, .any, .any, .any, .any, .any, .any, .any], []⟩)

theorem lp_laws_eqInt64SS_1 (a_0 : (List (List Int))) (b_1 : (List (List Int))) (hp0 : a_0.length ≤ 1073741824) (hp1 : ∀ t ∈ a_0, t.length ≤ 1073741824) (hp2 : b_1.length ≤ 1073741824) (hp3 : ∀ t ∈ b_1, t.length ≤ 1073741824) (hf_laws_eqInt64SS_1_0 : ((a_0.length : Int) != (b_1.length : Int)) = false) : ∀ (k : Nat) (i_l0 : Int) (hv_laws_eqInt64SS_1_0 : 0 ≤ i_l0) (hk : ((a_0.length : Int) - i_l0).toNat < k), Lp Go.Proofs.Try.prog 0 (sub (bodyOf Go.Proofs.Try.f76) [1, 1, 0, 1, 0, 0]) ⟨[.sl (a_0.map (cL (cI .i64))), .sl (b_1.map (cL (cI .i64))), .any, .any, .any, .i .i64 i_l0, .sl (a_0.map (cL (cI .i64))), .i .i64 (a_0.length : Int), .sl (b_1.map (cL (cI .i64))), .i .i64 (b_1.length : Int), .b ((a_0.length : Int) != (b_1.length : Int)), .any, .any, .any, .any, .any, .any, .any, .any, .any, .any, .any, .any, .any, .any, .any, .any], []⟩ (ls_laws_eqInt64SS_1 a_0 b_1 (lo_laws_eqInt64SS_1 a_0 b_1 k i_l0)).1 (ls_laws_eqInt64SS_1 a_0 b_1 (lo_laws_eqInt64SS_1 a_0 b_1 k i_l0)).2 := by
  intro k
  induction k with
  | zero => intro i_l0 hv_laws_eqInt64SS_1_0 hk; exact absurd hk (Nat.not_lt_zero _)
  | succ k ih =>
    intro i_l0 hv_laws_eqInt64SS_1_0 hk
    cases h_0 : (decide (i_l0 < (a_0.length : Int))) with
    | true =>
      cases h_1 : (v_laws_eqInt64S (a_0.getD i_l0.toNat default) (b_1.getD i_l0.toNat default)) with
      | true =>
        have e : lo_laws_eqInt64SS_1 a_0 b_1 (k + 1) i_l0 = (lo_laws_eqInt64SS_1 a_0 b_1 k (i_l0 + 1)) := by simp only [lo_laws_eqInt64SS_1, h_0, h_1, cond_true]
        rw [e]
        exact stepK_next (E := E0) E0Ok hMixed (body := (sub (bodyOf Go.Proofs.Try.f76) [1, 1, 0, 1, 0, 0])) (st := ⟨[.sl (a_0.map (cL (cI .i64))), .sl (b_1.map (cL (cI .i64))), .any, .any, .any, .i .i64 i_l0, .sl (a_0.map (cL (cI .i64))), .i .i64 (a_0.length : Int), .sl (b_1.map (cL (cI .i64))), .i .i64 (b_1.length : Int), .b ((a_0.length : Int) != (b_1.length : Int)), .any, .any, .any, .any, .any, .any, .any, .any, .any, .any, .any, .any, .any, .any, .any, .any], []⟩)
          (st2 := ⟨[.sl (a_0.map (cL (cI .i64))), .sl (b_1.map (cL (cI .i64))), .any, .any, .any, .i .i64 (i_l0 + 1), .sl (a_0.map (cL (cI .i64))), .i .i64 (a_0.length : Int), .sl (b_1.map (cL (cI .i64))), .i .i64 (b_1.length : Int), .b ((a_0.length : Int) != (b_1.length : Int)), .any, .any, .any, .any, .any, .any, .any, .any, .any, .any, .any, .any, .any, .any, .any, .any], []⟩)
          (ans := [.num (a_0.length : Int), .bo true, .keep [8, 8], .el [.sl ((a_0.getD i_l0.toNat default).map (cI .i64))], .el [.sl ((b_1.getD i_l0.toNat default).map (cI .i64))], .call (.b (v_laws_eqInt64S (a_0.getD i_l0.toNat default) (b_1.getD i_l0.toNat default))) [], .bo false, .num (i_l0 + 1)])
          (ps := []) (mask := [true, true, false, false, false, true, true, true, true, true, true, false, false, false, false, false, false, false, false, false, false, false, false, false, false, false, false]) (ks := [])
          (C := [(((a_0.map (cL (cI .i64))).length : Nat) : Int) = (a_0.length : Int),
            (decide (i_l0 < (a_0.length : Int))) = true,
            0 ≤ i_l0 ∧ (a_0.map (cL (cI .i64)))[Int.toNat i_l0]? = some [.sl ((a_0.getD i_l0.toNat default).map (cI .i64))],
            0 ≤ i_l0 ∧ (b_1.map (cL (cI .i64)))[Int.toNat i_l0]? = some [.sl ((b_1.getD i_l0.toNat default).map (cI .i64))],
            Fn Go.Proofs.Try.prog 42 [.sl ((a_0.getD i_l0.toNat default).map (cI .i64)), .sl ((b_1.getD i_l0.toNat default).map (cI .i64))] (.b (v_laws_eqInt64S (a_0.getD i_l0.toNat default) (b_1.getD i_l0.toNat default))) [],
            (!(v_laws_eqInt64S (a_0.getD i_l0.toNat default) (b_1.getD i_l0.toNat default))) = false,
            IntKind.wrap .i64 (i_l0 + 1) = (i_l0 + 1)])
          (by kernel_rfl)
          ⟨len_ok, h_0, (get_ok (by first | assumption | omega | (simp at * <;> omega) | (simp_all <;> omega)) (by first | assumption | omega | (simp at * <;> omega) | (simp_all <;> omega))), (get_ok (by first | assumption | omega | (simp at * <;> omega) | (simp_all <;> omega)) (by first | assumption | omega | (simp at * <;> omega) | (simp_all <;> omega))), (t_laws_eqInt64S (a_0.getD i_l0.toNat default) (b_1.getD i_l0.toNat default) (show (a_0.getD i_l0.toNat default).length ≤ 1073741824 from (by first | assumption | omega | (simp at * <;> omega) | (simp_all <;> omega))) (show (b_1.getD i_l0.toNat default).length ≤ 1073741824 from (by first | assumption | omega | (simp at * <;> omega) | (simp_all <;> omega)))), (congrArg not h_1), (wrap_id (by first | assumption | omega | (simp at * <;> omega) | (simp_all <;> omega)) (by first | assumption | omega | (simp at * <;> omega) | (simp_all <;> omega))), trivial⟩
          rfl (ih (i_l0 + 1) (show 0 ≤ (i_l0 + 1) from (by first | assumption | omega | (simp at * <;> omega) | (simp_all <;> omega))) (by first | assumption | omega | (simp at * <;> omega) | (simp_all <;> omega)))
      | false =>
        have e : lo_laws_eqInt64SS_1 a_0 b_1 (k + 1) i_l0 = (.inl ()) := by simp only [lo_laws_eqInt64SS_1, h_0, h_1, cond_true, cond_false]
        rw [e]
        exact stepK_out (E := E0) E0Ok hMixed (e := .ret) (body := (sub (bodyOf Go.Proofs.Try.f76) [1, 1, 0, 1, 0, 0])) (st := ⟨[.sl (a_0.map (cL (cI .i64))), .sl (b_1.map (cL (cI .i64))), .any, .any, .any, .i .i64 i_l0, .sl (a_0.map (cL (cI .i64))), .i .i64 (a_0.length : Int), .sl (b_1.map (cL (cI .i64))), .i .i64 (b_1.length : Int), .b ((a_0.length : Int) != (b_1.length : Int)), .any, .any, .any, .any, .any, .any, .any, .any, .any, .any, .any, .any, .any, .any, .any, .any], []⟩)
          (st2 := ⟨[.any, .any, .any, .any, .b false, .any, .any, .any, .any, .any, .any, .any, .any, .any, .any, .any, .any, .any, .any, .any, .any, .any, .any, .any, .any, .any, .any], []⟩)
          (ans := [.num (a_0.length : Int), .bo true, .keep [8, 8], .el [.sl ((a_0.getD i_l0.toNat default).map (cI .i64))], .el [.sl ((b_1.getD i_l0.toNat default).map (cI .i64))], .call (.b (v_laws_eqInt64S (a_0.getD i_l0.toNat default) (b_1.getD i_l0.toNat default))) [], .bo true])
          (ps := []) (mask := [false, false, false, false, true, false, false, false, false, false, false, false, false, false, false, false, false, false, false, false, false, false, false, false, false, false, false]) (ks := [])
          (C := [(((a_0.map (cL (cI .i64))).length : Nat) : Int) = (a_0.length : Int),
            (decide (i_l0 < (a_0.length : Int))) = true,
            0 ≤ i_l0 ∧ (a_0.map (cL (cI .i64)))[Int.toNat i_l0]? = some [.sl ((a_0.getD i_l0.toNat default).map (cI .i64))],
            0 ≤ i_l0 ∧ (b_1.map (cL (cI .i64)))[Int.toNat i_l0]? = some [.sl ((b_1.getD i_l0.toNat default).map (cI .i64))],
            Fn Go.Proofs.Try.prog 42 [.sl ((a_0.getD i_l0.toNat default).map (cI .i64)), .sl ((b_1.getD i_l0.toNat default).map (cI .i64))] (.b (v_laws_eqInt64S (a_0.getD i_l0.toNat default) (b_1.getD i_l0.toNat default))) [],
            (!(v_laws_eqInt64S (a_0.getD i_l0.toNat default) (b_1.getD i_l0.toNat default))) = true])
          (by kernel_rfl)
          ⟨len_ok, h_0, (get_ok (by first | assumption | omega | (simp at * <;> omega) | (simp_all <;> omega)) (by first | assumption | omega | (simp at * <;> omega) | (simp_all <;> omega))), (get_ok (by first | assumption | omega | (simp at * <;> omega) | (simp_all <;> omega)) (by first | assumption | omega | (simp at * <;> omega) | (simp_all <;> omega))), (t_laws_eqInt64S (a_0.getD i_l0.toNat default) (b_1.getD i_l0.toNat default) (show (a_0.getD i_l0.toNat default).length ≤ 1073741824 from (by first | assumption | omega | (simp at * <;> omega) | (simp_all <;> omega))) (show (b_1.getD i_l0.toNat default).length ≤ 1073741824 from (by first | assumption | omega | (simp at * <;> omega) | (simp_all <;> omega)))), (congrArg not h_1), trivial⟩
          (by intro h; cases h) rfl
    | false =>
      have e : lo_laws_eqInt64SS_1 a_0 b_1 (k + 1) i_l0 = (.inr ()) := by simp only [lo_laws_eqInt64SS_1, h_0, cond_false]
      rw [e]
      exact stepK_out (E := E0) E0Ok hMixed (e := (.exit 0)) (body := (sub (bodyOf Go.Proofs.Try.f76) [1, 1, 0, 1, 0, 0])) (st := ⟨[.sl (a_0.map (cL (cI .i64))), .sl (b_1.map (cL (cI .i64))), .any, .any, .any, .i .i64 i_l0, .sl (a_0.map (cL (cI .i64))), .i .i64 (a_0.length : Int), .sl (b_1.map (cL (cI .i64))), .i .i64 (b_1.length : Int), .b ((a_0.length : Int) != (b_1.length : Int)), .any, .any, .any, .any, .any, .any, .any, .any, .any, .any, .any, .any, .any, .any, .any, .any], []⟩)
        (st2 := ⟨[.sl (a_0.map (cL (cI .i64))), .sl (b_1.map (cL (cI .i64))), .any, .any, .any, .any, .sl (a_0.map (cL (cI .i64))), .i .i64 (a_0.length : Int), .sl (b_1.map (cL (cI .i64))), .i .i64 (b_1.length : Int), .b ((a_0.length : Int) != (b_1.length : Int)), .any, .any, .any, .any, .any, .any, .any, .any, .any, .any, .any, .any, .any, .any, .any, .any], []⟩)
        (ans := [.num (a_0.length : Int), .bo false])
        (ps := []) (mask := [true, true, false, false, false, false, true, true, true, true, true, false, false, false, false, false, false, false, false, false, false, false, false, false, false, false, false]) (ks := [])
        (C := [(((a_0.map (cL (cI .i64))).length : Nat) : Int) = (a_0.length : Int),
          (decide (i_l0 < (a_0.length : Int))) = false])
        (by kernel_rfl)
        ⟨len_ok, h_0, trivial⟩
        (by intro h; cases h) rfl

def lr_laws_eqInt64SS_1_0 (a_0 : (List (List Int))) (b_1 : (List (List Int))) : (Unit) ⊕ (Unit) := (lo_laws_eqInt64SS_1 a_0 b_1 (((a_0.length : Int) - 0).toNat + 1) 0)

/-- laws.eqInt64SS -/
def v_laws_eqInt64SS (a_0 : (List (List Int))) (b_1 : (List (List Int))) : Bool := (cond ((a_0.length : Int) != (b_1.length : Int))
  false
  (match (lr_laws_eqInt64SS_1_0 a_0 b_1) with
    | .inl r2 => false
    | .inr r2 => true))

theorem t_laws_eqInt64SS (a_0 : (List (List Int))) (b_1 : (List (List Int))) (hp0 : a_0.length ≤ 1073741824) (hp1 : ∀ t ∈ a_0, t.length ≤ 1073741824) (hp2 : b_1.length ≤ 1073741824) (hp3 : ∀ t ∈ b_1, t.length ≤ 1073741824)  : Fn Go.Proofs.Try.prog 76 [.sl (a_0.map (cL (cI .i64))), .sl (b_1.map (cL (cI .i64)))] (.b (v_laws_eqInt64SS a_0 b_1)) [] := by
  cases h0 : ((a_0.length : Int) != (b_1.length : Int)) with
  | true =>
    exact Fn.cast (CallSt.fn (callSt_of_evK (E := E0) E0Ok hMixed (c := bodyOf Go.Proofs.Try.f76) (rows := []) (r := .b false) (rows' := [])
      (ans := [.num (a_0.length : Int), .num (b_1.length : Int), .bo true, .keep []])
      (ps := [])
      (C := [(((a_0.map (cL (cI .i64))).length : Nat) : Int) = (a_0.length : Int),
        (((b_1.map (cL (cI .i64))).length : Nat) : Int) = (b_1.length : Int),
        ((a_0.length : Int) != (b_1.length : Int)) = true])
      Go.Proofs.Try.func76 rfl (by kernel_rfl) (by kernel_rfl)
      ⟨len_ok, len_ok, h0, trivial⟩) rfl) (by simp only [v_laws_eqInt64SS, h0, cond_true]) rfl
  | false =>
    cases h1 : (lr_laws_eqInt64SS_1_0 a_0 b_1) with
    | inl r2 =>
      exact Fn.cast (CallSt.fn (callSt_of_evK (E := E0) E0Ok hMixed (c := bodyOf Go.Proofs.Try.f76) (rows := []) (r := .b false) (rows' := [])
        (ans := [.num (a_0.length : Int), .num (b_1.length : Int), .bo false, .loop [true, true, false, false, false, true, true, true, true, true, true, false, false, false, false, false, false, false, false, false, false, false, false, false, false, false, false] 0 .ret ⟨[.any, .any, .any, .any, .b false, .any, .any, .any, .any, .any, .any, .any, .any, .any, .any, .any, .any, .any, .any, .any, .any, .any, .any, .any, .any, .any, .any], []⟩, .keep []])
        (ps := [])
        (C := [(((a_0.map (cL (cI .i64))).length : Nat) : Int) = (a_0.length : Int),
          (((b_1.map (cL (cI .i64))).length : Nat) : Int) = (b_1.length : Int),
          ((a_0.length : Int) != (b_1.length : Int)) = false,
          Lp Go.Proofs.Try.prog 0 (sub (bodyOf Go.Proofs.Try.f76) [1, 1, 0, 1, 0, 0]) ⟨[.sl (a_0.map (cL (cI .i64))), .sl (b_1.map (cL (cI .i64))), .any, .any, .any, .i .i64 0, .sl (a_0.map (cL (cI .i64))), .i .i64 (a_0.length : Int), .sl (b_1.map (cL (cI .i64))), .i .i64 (b_1.length : Int), .b ((a_0.length : Int) != (b_1.length : Int)), .any, .any, .any, .any, .any, .any, .any, .any, .any, .any, .any, .any, .any, .any, .any, .any], []⟩ .ret ⟨[.any, .any, .any, .any, .b false, .any, .any, .any, .any, .any, .any, .any, .any, .any, .any, .any, .any, .any, .any, .any, .any, .any, .any, .any, .any, .any, .any], []⟩])
        Go.Proofs.Try.func76 rfl (by kernel_rfl) (by kernel_rfl)
        ⟨len_ok, len_ok, h0, (by have q := (lp_laws_eqInt64SS_1 a_0 b_1 hp0 hp1 hp2 hp3 h0 (((a_0.length : Int) - 0).toNat + 1) 0 (show 0 ≤ 0 from (by first | assumption | omega | (simp at * <;> omega) | (simp_all <;> omega))) (Nat.lt_succ_self _)); rw [show (lo_laws_eqInt64SS_1 a_0 b_1 (((a_0.length : Int) - 0).toNat + 1) 0) = _ from rfl] at q; rw [show (lo_laws_eqInt64SS_1 a_0 b_1 (((a_0.length : Int) - 0).toNat + 1) 0) = (lr_laws_eqInt64SS_1_0 a_0 b_1) from rfl, h1] at q; exact q), trivial⟩) rfl) (by simp only [v_laws_eqInt64SS, h0, h1, cond_false]) rfl
    | inr r2 =>
      exact Fn.cast (CallSt.fn (callSt_of_evK (E := E0) E0Ok hMixed (c := bodyOf Go.Proofs.Try.f76) (rows := []) (r := .b true) (rows' := [])
        (ans := [.num (a_0.length : Int), .num (b_1.length : Int), .bo false, .loop [true, true, false, false, false, true, true, true, true, true, true, false, false, false, false, false, false, false, false, false, false, false, false, false, false, false, false] 0 (.exit 0) ⟨[.sl (a_0.map (cL (cI .i64))), .sl (b_1.map (cL (cI .i64))), .any, .any, .any, .any, .sl (a_0.map (cL (cI .i64))), .i .i64 (a_0.length : Int), .sl (b_1.map (cL (cI .i64))), .i .i64 (b_1.length : Int), .b ((a_0.length : Int) != (b_1.length : Int)), .any, .any, .any, .any, .any, .any, .any, .any, .any, .any, .any, .any, .any, .any, .any, .any], []⟩, .keep []])
        (ps := [])
        (C := [(((a_0.map (cL (cI .i64))).length : Nat) : Int) = (a_0.length : Int),
          (((b_1.map (cL (cI .i64))).length : Nat) : Int) = (b_1.length : Int),
          ((a_0.length : Int) != (b_1.length : Int)) = false,
          Lp Go.Proofs.Try.prog 0 (sub (bodyOf Go.Proofs.Try.f76) [1, 1, 0, 1, 0, 0]) ⟨[.sl (a_0.map (cL (cI .i64))), .sl (b_1.map (cL (cI .i64))), .any, .any, .any, .i .i64 0, .sl (a_0.map (cL (cI .i64))), .i .i64 (a_0.length : Int), .sl (b_1.map (cL (cI .i64))), .i .i64 (b_1.length : Int), .b ((a_0.length : Int) != (b_1.length : Int)), .any, .any, .any, .any, .any, .any, .any, .any, .any, .any, .any, .any, .any, .any, .any, .any], []⟩ (.exit 0) ⟨[.sl (a_0.map (cL (cI .i64))), .sl (b_1.map (cL (cI .i64))), .any, .any, .any, .any, .sl (a_0.map (cL (cI .i64))), .i .i64 (a_0.length : Int), .sl (b_1.map (cL (cI .i64))), .i .i64 (b_1.length : Int), .b ((a_0.length : Int) != (b_1.length : Int)), .any, .any, .any, .any, .any, .any, .any, .any, .any, .any, .any, .any, .any, .any, .any, .any], []⟩])
        Go.Proofs.Try.func76 rfl (by kernel_rfl) (by kernel_rfl)
        ⟨len_ok, len_ok, h0, (by have q := (lp_laws_eqInt64SS_1 a_0 b_1 hp0 hp1 hp2 hp3 h0 (((a_0.length : Int) - 0).toNat + 1) 0 (show 0 ≤ 0 from (by first | assumption | omega | (simp at * <;> omega) | (simp_all <;> omega))) (Nat.lt_succ_self _)); rw [show (lo_laws_eqInt64SS_1 a_0 b_1 (((a_0.length : Int) - 0).toNat + 1) 0) = _ from rfl] at q; rw [show (lo_laws_eqInt64SS_1 a_0 b_1 (((a_0.length : Int) - 0).toNat + 1) 0) = (lr_laws_eqInt64SS_1_0 a_0 b_1) from rfl, h1] at q; exact q), trivial⟩) rfl) (by simp only [v_laws_eqInt64SS, h0, h1, cond_false]) rfl

theorem eqInt64SS_self (a : List (List Int)) : v_laws_eqInt64SS a a = true := by
  unfold v_laws_eqInt64SS lr_laws_eqInt64SS_1_0
  rw [all_from (a := a) (p := fun v => v_laws_eqInt64S v v) (lo := lo_laws_eqInt64SS_1 a a) (x := ()) (y := ()) (fun k i => rfl)]
  rw [show (a.all fun v => v_laws_eqInt64S v v) = true from by rw [List.all_eq_true]; intro v _; exact eqInt64S_self v]
  simp

/-- laws.eqMesh -/
def v_laws_eqMesh (a_0 : GMesh) (b_1 : GMesh) : Bool := (cond (v_laws_eqVectorS a_0.Places b_1.Places)
  (cond (v_laws_eqInt64SS a_0.Triangles b_1.Triangles)
    true
    false)
  false)

theorem t_laws_eqMesh (a_0 : GMesh) (b_1 : GMesh) (hp0 : a_0.Places.length ≤ 1073741824) (hp1 : a_0.Triangles.length ≤ 1073741824) (hp2 : ∀ t ∈ a_0.Triangles, t.length ≤ 1073741824) (hp3 : b_1.Places.length ≤ 1073741824) (hp4 : b_1.Triangles.length ≤ 1073741824) (hp5 : ∀ t ∈ b_1.Triangles, t.length ≤ 1073741824)  : Fn Go.Proofs.Try.prog 22 [.agg [.sl (a_0.Places.map GVector.cells), .sl (a_0.Triangles.map (cL (cI .i64)))], .agg [.sl (b_1.Places.map GVector.cells), .sl (b_1.Triangles.map (cL (cI .i64)))]] (.b (v_laws_eqMesh a_0 b_1)) [] := by
  cases h0 : (v_laws_eqVectorS a_0.Places b_1.Places) with
  | true =>
    cases h1 : (v_laws_eqInt64SS a_0.Triangles b_1.Triangles) with
    | true =>
      exact Fn.cast (CallSt.fn (callSt_of_evK (E := E0) E0Ok hMixed (c := bodyOf Go.Proofs.Try.f22) (rows := []) (r := .b true) (rows' := [])
        (ans := [.call (.b (v_laws_eqVectorS a_0.Places b_1.Places)) [], .bo false, .call (.b (v_laws_eqInt64SS a_0.Triangles b_1.Triangles)) [], .bo false, .keep []])
        (ps := [])
        (C := [Fn Go.Proofs.Try.prog 30 [.sl (a_0.Places.map GVector.cells), .sl (b_1.Places.map GVector.cells)] (.b (v_laws_eqVectorS a_0.Places b_1.Places)) [],
          (!(v_laws_eqVectorS a_0.Places b_1.Places)) = false,
          Fn Go.Proofs.Try.prog 76 [.sl (a_0.Triangles.map (cL (cI .i64))), .sl (b_1.Triangles.map (cL (cI .i64)))] (.b (v_laws_eqInt64SS a_0.Triangles b_1.Triangles)) [],
          (!(v_laws_eqInt64SS a_0.Triangles b_1.Triangles)) = false])
        Go.Proofs.Try.func22 rfl (by kernel_rfl) (by kernel_rfl)
        ⟨(t_laws_eqVectorS a_0.Places b_1.Places (show a_0.Places.length ≤ 1073741824 from (by first | assumption | omega | (simp at * <;> omega) | (simp_all <;> omega))) (show b_1.Places.length ≤ 1073741824 from (by first | assumption | omega | (simp at * <;> omega) | (simp_all <;> omega)))), (congrArg not h0), (t_laws_eqInt64SS a_0.Triangles b_1.Triangles (show a_0.Triangles.length ≤ 1073741824 from (by first | assumption | omega | (simp at * <;> omega) | (simp_all <;> omega))) (show ∀ t ∈ a_0.Triangles, t.length ≤ 1073741824 from (by first | assumption | omega | (simp at * <;> omega) | (simp_all <;> omega))) (show b_1.Triangles.length ≤ 1073741824 from (by first | assumption | omega | (simp at * <;> omega) | (simp_all <;> omega))) (show ∀ t ∈ b_1.Triangles, t.length ≤ 1073741824 from (by first | assumption | omega | (simp at * <;> omega) | (simp_all <;> omega)))), (congrArg not h1), trivial⟩) rfl) (by simp only [v_laws_eqMesh, h0, h1, cond_true]) rfl
    | false =>
      exact Fn.cast (CallSt.fn (callSt_of_evK (E := E0) E0Ok hMixed (c := bodyOf Go.Proofs.Try.f22) (rows := []) (r := .b false) (rows' := [])
        (ans := [.call (.b (v_laws_eqVectorS a_0.Places b_1.Places)) [], .bo false, .call (.b (v_laws_eqInt64SS a_0.Triangles b_1.Triangles)) [], .bo true, .keep []])
        (ps := [])
        (C := [Fn Go.Proofs.Try.prog 30 [.sl (a_0.Places.map GVector.cells), .sl (b_1.Places.map GVector.cells)] (.b (v_laws_eqVectorS a_0.Places b_1.Places)) [],
          (!(v_laws_eqVectorS a_0.Places b_1.Places)) = false,
          Fn Go.Proofs.Try.prog 76 [.sl (a_0.Triangles.map (cL (cI .i64))), .sl (b_1.Triangles.map (cL (cI .i64)))] (.b (v_laws_eqInt64SS a_0.Triangles b_1.Triangles)) [],
          (!(v_laws_eqInt64SS a_0.Triangles b_1.Triangles)) = true])
        Go.Proofs.Try.func22 rfl (by kernel_rfl) (by kernel_rfl)
        ⟨(t_laws_eqVectorS a_0.Places b_1.Places (show a_0.Places.length ≤ 1073741824 from (by first | assumption | omega | (simp at * <;> omega) | (simp_all <;> omega))) (show b_1.Places.length ≤ 1073741824 from (by first | assumption | omega | (simp at * <;> omega) | (simp_all <;> omega)))), (congrArg not h0), (t_laws_eqInt64SS a_0.Triangles b_1.Triangles (show a_0.Triangles.length ≤ 1073741824 from (by first | assumption | omega | (simp at * <;> omega) | (simp_all <;> omega))) (show ∀ t ∈ a_0.Triangles, t.length ≤ 1073741824 from (by first | assumption | omega | (simp at * <;> omega) | (simp_all <;> omega))) (show b_1.Triangles.length ≤ 1073741824 from (by first | assumption | omega | (simp at * <;> omega) | (simp_all <;> omega))) (show ∀ t ∈ b_1.Triangles, t.length ≤ 1073741824 from (by first | assumption | omega | (simp at * <;> omega) | (simp_all <;> omega)))), (congrArg not h1), trivial⟩) rfl) (by simp only [v_laws_eqMesh, h0, h1, cond_true, cond_false]) rfl
  | false =>
    exact Fn.cast (CallSt.fn (callSt_of_evK (E := E0) E0Ok hMixed (c := bodyOf Go.Proofs.Try.f22) (rows := []) (r := .b false) (rows' := [])
      (ans := [.call (.b (v_laws_eqVectorS a_0.Places b_1.Places)) [], .bo true, .keep []])
      (ps := [])
      (C := [Fn Go.Proofs.Try.prog 30 [.sl (a_0.Places.map GVector.cells), .sl (b_1.Places.map GVector.cells)] (.b (v_laws_eqVectorS a_0.Places b_1.Places)) [],
        (!(v_laws_eqVectorS a_0.Places b_1.Places)) = true])
      Go.Proofs.Try.func22 rfl (by kernel_rfl) (by kernel_rfl)
      ⟨(t_laws_eqVectorS a_0.Places b_1.Places (show a_0.Places.length ≤ 1073741824 from (by first | assumption | omega | (simp at * <;> omega) | (simp_all <;> omega))) (show b_1.Places.length ≤ 1073741824 from (by first | assumption | omega | (simp at * <;> omega) | (simp_all <;> omega)))), (congrArg not h0), trivial⟩) rfl) (by simp only [v_laws_eqMesh, h0, cond_false]) rfl

end Go.Ab
