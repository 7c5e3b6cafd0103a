/- The functions of this seat as plain Lean, and that the program's are these. Printed by a program of the prover's own. -/
import Derived.Test.YtdlbdodnokgemaaB0
set_option linter.unusedVariables false
set_option maxRecDepth 100000
namespace Go.Ab
open Go.RowKit

/-- laws.toVector -/
def v_laws_toVector (a_0 : GVector) : GVector := a_0

theorem t_laws_toVector (a_0 : GVector)   : Fn Go.Proofs.Try.prog 32 [.agg [.f .f32 a_0.X, .f .f32 a_0.Y, .f .f32 a_0.Z]] (.agg [.f .f32 ((v_laws_toVector a_0).X), .f .f32 ((v_laws_toVector a_0).Y), .f .f32 ((v_laws_toVector a_0).Z)]) [] := by
  exact Fn.cast (fn_of_ev E0Ok hMixed (c := bodyOf Go.Proofs.Try.f32) (r := .agg [.f .f32 a_0.X, .f .f32 a_0.Y, .f .f32 a_0.Z]) (new := [])
    (ans := [.keep []])
    (C := [])
    Go.Proofs.Try.func32 rfl (by kernel_rfl) (by kernel_rfl)
    trivial) rfl rfl

@[simp] theorem eq_laws_toVector (a : GVector) : v_laws_toVector a = a := rfl

/-- laws.toHold -/
def v_laws_toHold (a_0 : GHold) : GHold := (⟨a_0.Place, a_0.Kind, (v_laws_toVector a_0.At), (v_laws_toVector a_0.Way)⟩ : GHold)

theorem t_laws_toHold (a_0 : GHold)   : Fn Go.Proofs.Try.prog 19 [.agg [.i .i64 a_0.Place, .i .i64 a_0.Kind, .f .f32 a_0.At.X, .f .f32 a_0.At.Y, .f .f32 a_0.At.Z, .f .f32 a_0.Way.X, .f .f32 a_0.Way.Y, .f .f32 a_0.Way.Z]] (.agg [.i .i64 ((v_laws_toHold a_0).Place), .i .i64 ((v_laws_toHold a_0).Kind), .f .f32 ((v_laws_toHold a_0).At.X), .f .f32 ((v_laws_toHold a_0).At.Y), .f .f32 ((v_laws_toHold a_0).At.Z), .f .f32 ((v_laws_toHold a_0).Way.X), .f .f32 ((v_laws_toHold a_0).Way.Y), .f .f32 ((v_laws_toHold a_0).Way.Z)]) [] := by
  exact Fn.cast (fn_of_ev E0Ok hMixed (c := bodyOf Go.Proofs.Try.f19) (r := .agg [.i .i64 a_0.Place, .i .i64 a_0.Kind, .f .f32 ((v_laws_toVector a_0.At).X), .f .f32 ((v_laws_toVector a_0.At).Y), .f .f32 ((v_laws_toVector a_0.At).Z), .f .f32 ((v_laws_toVector a_0.Way).X), .f .f32 ((v_laws_toVector a_0.Way).Y), .f .f32 ((v_laws_toVector a_0.Way).Z)]) (new := [])
    (ans := [.call (.agg [.f .f32 ((v_laws_toVector a_0.At).X), .f .f32 ((v_laws_toVector a_0.At).Y), .f .f32 ((v_laws_toVector a_0.At).Z)]) [], .call (.agg [.f .f32 ((v_laws_toVector a_0.Way).X), .f .f32 ((v_laws_toVector a_0.Way).Y), .f .f32 ((v_laws_toVector a_0.Way).Z)]) [], .keep []])
    (C := [Fn Go.Proofs.Try.prog 32 [.agg [.f .f32 a_0.At.X, .f .f32 a_0.At.Y, .f .f32 a_0.At.Z]] (.agg [.f .f32 ((v_laws_toVector a_0.At).X), .f .f32 ((v_laws_toVector a_0.At).Y), .f .f32 ((v_laws_toVector a_0.At).Z)]) [],
      Fn Go.Proofs.Try.prog 32 [.agg [.f .f32 a_0.Way.X, .f .f32 a_0.Way.Y, .f .f32 a_0.Way.Z]] (.agg [.f .f32 ((v_laws_toVector a_0.Way).X), .f .f32 ((v_laws_toVector a_0.Way).Y), .f .f32 ((v_laws_toVector a_0.Way).Z)]) []])
    Go.Proofs.Try.func19 rfl (by kernel_rfl) (by kernel_rfl)
    ⟨(t_laws_toVector a_0.At), (t_laws_toVector a_0.Way), trivial⟩) rfl rfl

@[simp] theorem eq_laws_toHold (a : GHold) : v_laws_toHold a = a := rfl

/-- spec.l00In -/
def v_spec_l00In (n_0 : Int) (low_1 : Int) (high_2 : Int) : Bool := (cond (decide (n_0 ≥ low_1))
  (decide (n_0 ≤ high_2))
  false)

theorem t_spec_l00In (n_0 : Int) (low_1 : Int) (high_2 : Int)   : Fn Go.Proofs.Try.prog 81 [.i .i64 n_0, .i .i64 low_1, .i .i64 high_2] (.b (v_spec_l00In n_0 low_1 high_2)) [] := by
  cases h0 : (decide (n_0 ≥ low_1)) with
  | true =>
    exact Fn.cast (fn_of_ev E0Ok hMixed (c := bodyOf Go.Proofs.Try.f81) (r := .b (decide (n_0 ≤ high_2))) (new := [])
      (ans := [.bo true, .bo true, .bo true, .bo true, .keep []])
      (C := [(decide (n_0 ≥ low_1)) = true,
        (decide (n_0 ≥ low_1)) = true,
        (decide (n_0 ≥ low_1)) = true,
        (decide (n_0 ≥ low_1)) = true])
      Go.Proofs.Try.func81 rfl (by kernel_rfl) (by kernel_rfl)
      ⟨h0, h0, h0, h0, trivial⟩) (by simp only [v_spec_l00In, h0, cond_true]) rfl
  | false =>
    exact Fn.cast (fn_of_ev E0Ok hMixed (c := bodyOf Go.Proofs.Try.f81) (r := .b false) (new := [])
      (ans := [.bo false, .bo false, .bo false, .bo false, .keep []])
      (C := [(decide (n_0 ≥ low_1)) = false,
        (decide (n_0 ≥ low_1)) = false,
        (decide (n_0 ≥ low_1)) = false,
        (decide (n_0 ≥ low_1)) = false])
      Go.Proofs.Try.func81 rfl (by kernel_rfl) (by kernel_rfl)
      ⟨h0, h0, h0, h0, trivial⟩) (by simp only [v_spec_l00In, h0, cond_false]) rfl

/-- spec.l01Finite -/
def v_spec_l01Finite (x_0 : Nat) : Bool := (fcmp .eql .f32 (fop .sub .f32 x_0 x_0) 0)

theorem t_spec_l01Finite (x_0 : Nat)   : Fn Go.Proofs.Try.prog 80 [.f .f32 x_0] (.b (v_spec_l01Finite x_0)) [] := by
  exact Fn.cast (fn_of_ev E0Ok hMixed (c := bodyOf Go.Proofs.Try.f80) (r := .b (fcmp .eql .f32 (fop .sub .f32 x_0 x_0) 0)) (new := [])
    (ans := [.keep []])
    (C := [])
    Go.Proofs.Try.func80 rfl (by kernel_rfl) (by kernel_rfl)
    trivial) rfl rfl

/-- spec.l01VFinite -/
def v_spec_l01VFinite (v_0 : GVector) : Bool := (cond (v_spec_l01Finite v_0.X)
  (cond (v_spec_l01Finite v_0.Y)
    (v_spec_l01Finite v_0.Z)
    false)
  false)

theorem t_spec_l01VFinite (v_0 : GVector)   : Fn Go.Proofs.Try.prog 82 [.agg [.f .f32 v_0.X, .f .f32 v_0.Y, .f .f32 v_0.Z]] (.b (v_spec_l01VFinite v_0)) [] := by
  cases h0 : (v_spec_l01Finite v_0.X) with
  | true =>
    cases h1 : (v_spec_l01Finite v_0.Y) with
    | true =>
      exact Fn.cast (fn_of_ev E0Ok hMixed (c := bodyOf Go.Proofs.Try.f82) (r := .b (v_spec_l01Finite v_0.Z)) (new := [])
        (ans := [.call (.b (v_spec_l01Finite v_0.X)) [], .bo true, .bo true, .bo true, .call (.b (v_spec_l01Finite v_0.Y)) [], .bo true, .bo true, .bo true, .bo true, .call (.b (v_spec_l01Finite v_0.Z)) [], .bo true, .keep []])
        (C := [Fn Go.Proofs.Try.prog 80 [.f .f32 v_0.X] (.b (v_spec_l01Finite v_0.X)) [],
          (v_spec_l01Finite v_0.X) = true,
          (v_spec_l01Finite v_0.X) = true,
          (v_spec_l01Finite v_0.X) = true,
          Fn Go.Proofs.Try.prog 80 [.f .f32 v_0.Y] (.b (v_spec_l01Finite v_0.Y)) [],
          (v_spec_l01Finite v_0.X) = true,
          (v_spec_l01Finite v_0.Y) = true,
          (v_spec_l01Finite v_0.Y) = true,
          (v_spec_l01Finite v_0.Y) = true,
          Fn Go.Proofs.Try.prog 80 [.f .f32 v_0.Z] (.b (v_spec_l01Finite v_0.Z)) [],
          (v_spec_l01Finite v_0.Y) = true])
        Go.Proofs.Try.func82 rfl (by kernel_rfl) (by kernel_rfl)
        ⟨(t_spec_l01Finite v_0.X), h0, h0, h0, (t_spec_l01Finite v_0.Y), h0, h1, h1, h1, (t_spec_l01Finite v_0.Z), h1, trivial⟩) (by simp only [v_spec_l01VFinite, h0, h1, cond_true]) rfl
    | false =>
      exact Fn.cast (fn_of_ev E0Ok hMixed (c := bodyOf Go.Proofs.Try.f82) (r := .b false) (new := [])
        (ans := [.call (.b (v_spec_l01Finite v_0.X)) [], .bo true, .bo true, .bo true, .call (.b (v_spec_l01Finite v_0.Y)) [], .bo true, .bo false, .bo false, .bo false, .bo false, .keep []])
        (C := [Fn Go.Proofs.Try.prog 80 [.f .f32 v_0.X] (.b (v_spec_l01Finite v_0.X)) [],
          (v_spec_l01Finite v_0.X) = true,
          (v_spec_l01Finite v_0.X) = true,
          (v_spec_l01Finite v_0.X) = true,
          Fn Go.Proofs.Try.prog 80 [.f .f32 v_0.Y] (.b (v_spec_l01Finite v_0.Y)) [],
          (v_spec_l01Finite v_0.X) = true,
          (v_spec_l01Finite v_0.Y) = false,
          (v_spec_l01Finite v_0.Y) = false,
          (v_spec_l01Finite v_0.Y) = false,
          (v_spec_l01Finite v_0.Y) = false])
        Go.Proofs.Try.func82 rfl (by kernel_rfl) (by kernel_rfl)
        ⟨(t_spec_l01Finite v_0.X), h0, h0, h0, (t_spec_l01Finite v_0.Y), h0, h1, h1, h1, h1, trivial⟩) (by simp only [v_spec_l01VFinite, h0, h1, cond_true, cond_false]) rfl
  | false =>
    exact Fn.cast (fn_of_ev E0Ok hMixed (c := bodyOf Go.Proofs.Try.f82) (r := .b false) (new := [])
      (ans := [.call (.b (v_spec_l01Finite v_0.X)) [], .bo false, .bo false, .bo false, .bo false, .bo false, .bo false, .bo false, .bo false, .keep []])
      (C := [Fn Go.Proofs.Try.prog 80 [.f .f32 v_0.X] (.b (v_spec_l01Finite v_0.X)) [],
        (v_spec_l01Finite v_0.X) = false,
        (v_spec_l01Finite v_0.X) = false,
        (v_spec_l01Finite v_0.X) = false,
        (v_spec_l01Finite v_0.X) = false,
        false = false,
        false = false,
        false = false,
        false = false])
      Go.Proofs.Try.func82 rfl (by kernel_rfl) (by kernel_rfl)
      ⟨(t_spec_l01Finite v_0.X), h0, h0, h0, h0, rfl, rfl, rfl, rfl, trivial⟩) (by simp only [v_spec_l01VFinite, h0, cond_false]) rfl

/-- spec.l01Inner -/
def v_spec_l01Inner (a_0 : GVector) (b_1 : GVector) : Nat := (fop .add .f32 (fop .add .f32 (fop .mul .f32 a_0.X b_1.X) (fop .mul .f32 a_0.Y b_1.Y)) (fop .mul .f32 a_0.Z b_1.Z))

theorem t_spec_l01Inner (a_0 : GVector) (b_1 : GVector)   : Fn Go.Proofs.Try.prog 83 [.agg [.f .f32 a_0.X, .f .f32 a_0.Y, .f .f32 a_0.Z], .agg [.f .f32 b_1.X, .f .f32 b_1.Y, .f .f32 b_1.Z]] (.f .f32 (v_spec_l01Inner a_0 b_1)) [] := by
  exact Fn.cast (fn_of_ev E0Ok hMixed (c := bodyOf Go.Proofs.Try.f83) (r := .f .f32 (fop .add .f32 (fop .add .f32 (fop .mul .f32 a_0.X b_1.X) (fop .mul .f32 a_0.Y b_1.Y)) (fop .mul .f32 a_0.Z b_1.Z))) (new := [])
    (ans := [.keep []])
    (C := [])
    Go.Proofs.Try.func83 rfl (by kernel_rfl) (by kernel_rfl)
    trivial) rfl rfl

/-- spec.l04Is -/
def v_spec_l04Is (h_0 : GHold) : Bool := (cond (decide (h_0.Place < 0))
  false
  (cond (v_spec_l00In h_0.Kind 0 2)
    (cond (v_spec_l01VFinite h_0.At)
      (cond (v_spec_l01VFinite h_0.Way)
        (cond (h_0.Kind == 0)
          true
          (cond (v_spec_l01Finite (v_spec_l01Inner h_0.Way h_0.Way))
            (fcmp .gtr .f32 (v_spec_l01Inner h_0.Way h_0.Way) 0)
            false))
        false)
      false)
    false))

theorem t_spec_l04Is (h_0 : GHold)   : Fn Go.Proofs.Try.prog 52 [.ref [.i .i64 h_0.Place, .i .i64 h_0.Kind, .f .f32 h_0.At.X, .f .f32 h_0.At.Y, .f .f32 h_0.At.Z, .f .f32 h_0.Way.X, .f .f32 h_0.Way.Y, .f .f32 h_0.Way.Z] 0] (.b (v_spec_l04Is h_0)) [] := by
  cases h0 : (decide (h_0.Place < 0)) with
  | true =>
    exact Fn.cast (fn_of_ev E0Ok hMixed (c := bodyOf Go.Proofs.Try.f52) (r := .b false) (new := [])
      (ans := [.bo true, .bo true, .bo true, .bo true, .bo true, .bo true, .bo true, .bo true, .bo true, .bo true, .bo true, .bo true, .bo true, .bo true, .bo true, .bo true, .bo true, .bo true, .bo true, .bo true, .bo true, .bo true, .keep []])
      (C := [(decide (h_0.Place < 0)) = true,
        (decide (h_0.Place < 0)) = true,
        (decide (h_0.Place < 0)) = true,
        (decide (h_0.Place < 0)) = true,
        (decide (h_0.Place < 0)) = true,
        (decide (h_0.Place < 0)) = true,
        (decide (h_0.Place < 0)) = true,
        true = true,
        true = true,
        true = true,
        true = true,
        true = true,
        true = true,
        true = true,
        true = true,
        true = true,
        true = true,
        true = true,
        true = true,
        true = true,
        true = true,
        true = true])
      Go.Proofs.Try.func52 rfl (by kernel_rfl) (by kernel_rfl)
      ⟨h0, h0, h0, h0, h0, h0, h0, rfl, rfl, rfl, rfl, rfl, rfl, rfl, rfl, rfl, rfl, rfl, rfl, rfl, rfl, rfl, trivial⟩) (by simp only [v_spec_l04Is, h0, cond_true]) rfl
  | false =>
    cases h1 : (v_spec_l00In h_0.Kind 0 2) with
    | true =>
      cases h2 : (v_spec_l01VFinite h_0.At) with
      | true =>
        cases h3 : (v_spec_l01VFinite h_0.Way) with
        | true =>
          cases h4 : (h_0.Kind == 0) with
          | true =>
            exact Fn.cast (fn_of_ev E0Ok hMixed (c := bodyOf Go.Proofs.Try.f52) (r := .b true) (new := [])
              (ans := [.bo false, .bo false, .bo false, .bo false, .bo false, .call (.b (v_spec_l00In h_0.Kind 0 2)) [], .bo false, .bo false, .bo false, .bo false, .bo false, .bo false, .bo false, .call (.b (v_spec_l01VFinite h_0.At)) [], .bo false, .bo false, .bo false, .bo false, .bo false, .bo false, .bo false, .call (.b (v_spec_l01VFinite h_0.Way)) [], .bo false, .bo false, .bo false, .keep [8, 8], .call (.f .f32 (v_spec_l01Inner h_0.Way h_0.Way)) [], .bo true, .bo true, .bo true, .bo true, .bo true, .keep []])
              (C := [(decide (h_0.Place < 0)) = false,
                (decide (h_0.Place < 0)) = false,
                (decide (h_0.Place < 0)) = false,
                (decide (h_0.Place < 0)) = false,
                (decide (h_0.Place < 0)) = false,
                Fn Go.Proofs.Try.prog 81 [.i .i64 h_0.Kind, .i .i64 0, .i .i64 2] (.b (v_spec_l00In h_0.Kind 0 2)) [],
                (decide (h_0.Place < 0)) = false,
                (decide (h_0.Place < 0)) = false,
                (!(v_spec_l00In h_0.Kind 0 2)) = false,
                (!(v_spec_l00In h_0.Kind 0 2)) = false,
                (!(v_spec_l00In h_0.Kind 0 2)) = false,
                (!(v_spec_l00In h_0.Kind 0 2)) = false,
                (!(v_spec_l00In h_0.Kind 0 2)) = false,
                Fn Go.Proofs.Try.prog 82 [.agg [.f .f32 h_0.At.X, .f .f32 h_0.At.Y, .f .f32 h_0.At.Z]] (.b (v_spec_l01VFinite h_0.At)) [],
                (!(v_spec_l00In h_0.Kind 0 2)) = false,
                (!(v_spec_l00In h_0.Kind 0 2)) = false,
                (!(v_spec_l01VFinite h_0.At)) = false,
                (!(v_spec_l01VFinite h_0.At)) = false,
                (!(v_spec_l01VFinite h_0.At)) = false,
                (!(v_spec_l01VFinite h_0.At)) = false,
                (!(v_spec_l01VFinite h_0.At)) = false,
                Fn Go.Proofs.Try.prog 82 [.agg [.f .f32 h_0.Way.X, .f .f32 h_0.Way.Y, .f .f32 h_0.Way.Z]] (.b (v_spec_l01VFinite h_0.Way)) [],
                (!(v_spec_l01VFinite h_0.At)) = false,
                (!(v_spec_l01VFinite h_0.At)) = false,
                (!(v_spec_l01VFinite h_0.Way)) = false,
                Fn Go.Proofs.Try.prog 83 [.agg [.f .f32 h_0.Way.X, .f .f32 h_0.Way.Y, .f .f32 h_0.Way.Z], .agg [.f .f32 h_0.Way.X, .f .f32 h_0.Way.Y, .f .f32 h_0.Way.Z]] (.f .f32 (v_spec_l01Inner h_0.Way h_0.Way)) [],
                (h_0.Kind == 0) = true,
                (h_0.Kind == 0) = true,
                (h_0.Kind == 0) = true,
                (h_0.Kind == 0) = true,
                (h_0.Kind == 0) = true])
              Go.Proofs.Try.func52 rfl (by kernel_rfl) (by kernel_rfl)
              ⟨h0, h0, h0, h0, h0, (t_spec_l00In h_0.Kind 0 2), h0, h0, (congrArg not h1), (congrArg not h1), (congrArg not h1), (congrArg not h1), (congrArg not h1), (t_spec_l01VFinite h_0.At), (congrArg not h1), (congrArg not h1), (congrArg not h2), (congrArg not h2), (congrArg not h2), (congrArg not h2), (congrArg not h2), (t_spec_l01VFinite h_0.Way), (congrArg not h2), (congrArg not h2), (congrArg not h3), (t_spec_l01Inner h_0.Way h_0.Way), h4, h4, h4, h4, h4, trivial⟩) (by simp only [v_spec_l04Is, h0, h1, h2, h3, h4, cond_true, cond_false]) rfl
          | false =>
            cases h5 : (v_spec_l01Finite (v_spec_l01Inner h_0.Way h_0.Way)) with
            | true =>
              exact Fn.cast (fn_of_ev E0Ok hMixed (c := bodyOf Go.Proofs.Try.f52) (r := .b (fcmp .gtr .f32 (v_spec_l01Inner h_0.Way h_0.Way) 0)) (new := [])
                (ans := [.bo false, .bo false, .bo false, .bo false, .bo false, .call (.b (v_spec_l00In h_0.Kind 0 2)) [], .bo false, .bo false, .bo false, .bo false, .bo false, .bo false, .bo false, .call (.b (v_spec_l01VFinite h_0.At)) [], .bo false, .bo false, .bo false, .bo false, .bo false, .bo false, .bo false, .call (.b (v_spec_l01VFinite h_0.Way)) [], .bo false, .bo false, .bo false, .keep [8, 8], .call (.f .f32 (v_spec_l01Inner h_0.Way h_0.Way)) [], .bo false, .bo false, .call (.b (v_spec_l01Finite (v_spec_l01Inner h_0.Way h_0.Way))) [], .bo false, .bo true, .bo true, .bo false, .bo true, .bo false, .keep []])
                (C := [(decide (h_0.Place < 0)) = false,
                  (decide (h_0.Place < 0)) = false,
                  (decide (h_0.Place < 0)) = false,
                  (decide (h_0.Place < 0)) = false,
                  (decide (h_0.Place < 0)) = false,
                  Fn Go.Proofs.Try.prog 81 [.i .i64 h_0.Kind, .i .i64 0, .i .i64 2] (.b (v_spec_l00In h_0.Kind 0 2)) [],
                  (decide (h_0.Place < 0)) = false,
                  (decide (h_0.Place < 0)) = false,
                  (!(v_spec_l00In h_0.Kind 0 2)) = false,
                  (!(v_spec_l00In h_0.Kind 0 2)) = false,
                  (!(v_spec_l00In h_0.Kind 0 2)) = false,
                  (!(v_spec_l00In h_0.Kind 0 2)) = false,
                  (!(v_spec_l00In h_0.Kind 0 2)) = false,
                  Fn Go.Proofs.Try.prog 82 [.agg [.f .f32 h_0.At.X, .f .f32 h_0.At.Y, .f .f32 h_0.At.Z]] (.b (v_spec_l01VFinite h_0.At)) [],
                  (!(v_spec_l00In h_0.Kind 0 2)) = false,
                  (!(v_spec_l00In h_0.Kind 0 2)) = false,
                  (!(v_spec_l01VFinite h_0.At)) = false,
                  (!(v_spec_l01VFinite h_0.At)) = false,
                  (!(v_spec_l01VFinite h_0.At)) = false,
                  (!(v_spec_l01VFinite h_0.At)) = false,
                  (!(v_spec_l01VFinite h_0.At)) = false,
                  Fn Go.Proofs.Try.prog 82 [.agg [.f .f32 h_0.Way.X, .f .f32 h_0.Way.Y, .f .f32 h_0.Way.Z]] (.b (v_spec_l01VFinite h_0.Way)) [],
                  (!(v_spec_l01VFinite h_0.At)) = false,
                  (!(v_spec_l01VFinite h_0.At)) = false,
                  (!(v_spec_l01VFinite h_0.Way)) = false,
                  Fn Go.Proofs.Try.prog 83 [.agg [.f .f32 h_0.Way.X, .f .f32 h_0.Way.Y, .f .f32 h_0.Way.Z], .agg [.f .f32 h_0.Way.X, .f .f32 h_0.Way.Y, .f .f32 h_0.Way.Z]] (.f .f32 (v_spec_l01Inner h_0.Way h_0.Way)) [],
                  (h_0.Kind == 0) = false,
                  (h_0.Kind == 0) = false,
                  Fn Go.Proofs.Try.prog 80 [.f .f32 (v_spec_l01Inner h_0.Way h_0.Way)] (.b (v_spec_l01Finite (v_spec_l01Inner h_0.Way h_0.Way))) [],
                  (h_0.Kind == 0) = false,
                  (v_spec_l01Finite (v_spec_l01Inner h_0.Way h_0.Way)) = true,
                  (v_spec_l01Finite (v_spec_l01Inner h_0.Way h_0.Way)) = true,
                  (h_0.Kind == 0) = false,
                  (v_spec_l01Finite (v_spec_l01Inner h_0.Way h_0.Way)) = true,
                  (h_0.Kind == 0) = false])
                Go.Proofs.Try.func52 rfl (by kernel_rfl) (by kernel_rfl)
                ⟨h0, h0, h0, h0, h0, (t_spec_l00In h_0.Kind 0 2), h0, h0, (congrArg not h1), (congrArg not h1), (congrArg not h1), (congrArg not h1), (congrArg not h1), (t_spec_l01VFinite h_0.At), (congrArg not h1), (congrArg not h1), (congrArg not h2), (congrArg not h2), (congrArg not h2), (congrArg not h2), (congrArg not h2), (t_spec_l01VFinite h_0.Way), (congrArg not h2), (congrArg not h2), (congrArg not h3), (t_spec_l01Inner h_0.Way h_0.Way), h4, h4, (t_spec_l01Finite (v_spec_l01Inner h_0.Way h_0.Way)), h4, h5, h5, h4, h5, h4, trivial⟩) (by simp only [v_spec_l04Is, h0, h1, h2, h3, h4, h5, cond_true, cond_false]) rfl
            | false =>
              exact Fn.cast (fn_of_ev E0Ok hMixed (c := bodyOf Go.Proofs.Try.f52) (r := .b false) (new := [])
                (ans := [.bo false, .bo false, .bo false, .bo false, .bo false, .call (.b (v_spec_l00In h_0.Kind 0 2)) [], .bo false, .bo false, .bo false, .bo false, .bo false, .bo false, .bo false, .call (.b (v_spec_l01VFinite h_0.At)) [], .bo false, .bo false, .bo false, .bo false, .bo false, .bo false, .bo false, .call (.b (v_spec_l01VFinite h_0.Way)) [], .bo false, .bo false, .bo false, .keep [8, 8], .call (.f .f32 (v_spec_l01Inner h_0.Way h_0.Way)) [], .bo false, .bo false, .call (.b (v_spec_l01Finite (v_spec_l01Inner h_0.Way h_0.Way))) [], .bo false, .bo false, .bo false, .bo false, .bo false, .bo false, .keep []])
                (C := [(decide (h_0.Place < 0)) = false,
                  (decide (h_0.Place < 0)) = false,
                  (decide (h_0.Place < 0)) = false,
                  (decide (h_0.Place < 0)) = false,
                  (decide (h_0.Place < 0)) = false,
                  Fn Go.Proofs.Try.prog 81 [.i .i64 h_0.Kind, .i .i64 0, .i .i64 2] (.b (v_spec_l00In h_0.Kind 0 2)) [],
                  (decide (h_0.Place < 0)) = false,
                  (decide (h_0.Place < 0)) = false,
                  (!(v_spec_l00In h_0.Kind 0 2)) = false,
                  (!(v_spec_l00In h_0.Kind 0 2)) = false,
                  (!(v_spec_l00In h_0.Kind 0 2)) = false,
                  (!(v_spec_l00In h_0.Kind 0 2)) = false,
                  (!(v_spec_l00In h_0.Kind 0 2)) = false,
                  Fn Go.Proofs.Try.prog 82 [.agg [.f .f32 h_0.At.X, .f .f32 h_0.At.Y, .f .f32 h_0.At.Z]] (.b (v_spec_l01VFinite h_0.At)) [],
                  (!(v_spec_l00In h_0.Kind 0 2)) = false,
                  (!(v_spec_l00In h_0.Kind 0 2)) = false,
                  (!(v_spec_l01VFinite h_0.At)) = false,
                  (!(v_spec_l01VFinite h_0.At)) = false,
                  (!(v_spec_l01VFinite h_0.At)) = false,
                  (!(v_spec_l01VFinite h_0.At)) = false,
                  (!(v_spec_l01VFinite h_0.At)) = false,
                  Fn Go.Proofs.Try.prog 82 [.agg [.f .f32 h_0.Way.X, .f .f32 h_0.Way.Y, .f .f32 h_0.Way.Z]] (.b (v_spec_l01VFinite h_0.Way)) [],
                  (!(v_spec_l01VFinite h_0.At)) = false,
                  (!(v_spec_l01VFinite h_0.At)) = false,
                  (!(v_spec_l01VFinite h_0.Way)) = false,
                  Fn Go.Proofs.Try.prog 83 [.agg [.f .f32 h_0.Way.X, .f .f32 h_0.Way.Y, .f .f32 h_0.Way.Z], .agg [.f .f32 h_0.Way.X, .f .f32 h_0.Way.Y, .f .f32 h_0.Way.Z]] (.f .f32 (v_spec_l01Inner h_0.Way h_0.Way)) [],
                  (h_0.Kind == 0) = false,
                  (h_0.Kind == 0) = false,
                  Fn Go.Proofs.Try.prog 80 [.f .f32 (v_spec_l01Inner h_0.Way h_0.Way)] (.b (v_spec_l01Finite (v_spec_l01Inner h_0.Way h_0.Way))) [],
                  (h_0.Kind == 0) = false,
                  (v_spec_l01Finite (v_spec_l01Inner h_0.Way h_0.Way)) = false,
                  (v_spec_l01Finite (v_spec_l01Inner h_0.Way h_0.Way)) = false,
                  (h_0.Kind == 0) = false,
                  (v_spec_l01Finite (v_spec_l01Inner h_0.Way h_0.Way)) = false,
                  (h_0.Kind == 0) = false])
                Go.Proofs.Try.func52 rfl (by kernel_rfl) (by kernel_rfl)
                ⟨h0, h0, h0, h0, h0, (t_spec_l00In h_0.Kind 0 2), h0, h0, (congrArg not h1), (congrArg not h1), (congrArg not h1), (congrArg not h1), (congrArg not h1), (t_spec_l01VFinite h_0.At), (congrArg not h1), (congrArg not h1), (congrArg not h2), (congrArg not h2), (congrArg not h2), (congrArg not h2), (congrArg not h2), (t_spec_l01VFinite h_0.Way), (congrArg not h2), (congrArg not h2), (congrArg not h3), (t_spec_l01Inner h_0.Way h_0.Way), h4, h4, (t_spec_l01Finite (v_spec_l01Inner h_0.Way h_0.Way)), h4, h5, h5, h4, h5, h4, trivial⟩) (by simp only [v_spec_l04Is, h0, h1, h2, h3, h4, h5, cond_true, cond_false]) rfl
        | false =>
          exact Fn.cast (fn_of_ev E0Ok hMixed (c := bodyOf Go.Proofs.Try.f52) (r := .b false) (new := [])
            (ans := [.bo false, .bo false, .bo false, .bo false, .bo false, .call (.b (v_spec_l00In h_0.Kind 0 2)) [], .bo false, .bo false, .bo false, .bo false, .bo false, .bo false, .bo false, .call (.b (v_spec_l01VFinite h_0.At)) [], .bo false, .bo false, .bo false, .bo false, .bo false, .bo false, .bo false, .call (.b (v_spec_l01VFinite h_0.Way)) [], .bo false, .bo false, .bo true, .keep []])
            (C := [(decide (h_0.Place < 0)) = false,
              (decide (h_0.Place < 0)) = false,
              (decide (h_0.Place < 0)) = false,
              (decide (h_0.Place < 0)) = false,
              (decide (h_0.Place < 0)) = false,
              Fn Go.Proofs.Try.prog 81 [.i .i64 h_0.Kind, .i .i64 0, .i .i64 2] (.b (v_spec_l00In h_0.Kind 0 2)) [],
              (decide (h_0.Place < 0)) = false,
              (decide (h_0.Place < 0)) = false,
              (!(v_spec_l00In h_0.Kind 0 2)) = false,
              (!(v_spec_l00In h_0.Kind 0 2)) = false,
              (!(v_spec_l00In h_0.Kind 0 2)) = false,
              (!(v_spec_l00In h_0.Kind 0 2)) = false,
              (!(v_spec_l00In h_0.Kind 0 2)) = false,
              Fn Go.Proofs.Try.prog 82 [.agg [.f .f32 h_0.At.X, .f .f32 h_0.At.Y, .f .f32 h_0.At.Z]] (.b (v_spec_l01VFinite h_0.At)) [],
              (!(v_spec_l00In h_0.Kind 0 2)) = false,
              (!(v_spec_l00In h_0.Kind 0 2)) = false,
              (!(v_spec_l01VFinite h_0.At)) = false,
              (!(v_spec_l01VFinite h_0.At)) = false,
              (!(v_spec_l01VFinite h_0.At)) = false,
              (!(v_spec_l01VFinite h_0.At)) = false,
              (!(v_spec_l01VFinite h_0.At)) = false,
              Fn Go.Proofs.Try.prog 82 [.agg [.f .f32 h_0.Way.X, .f .f32 h_0.Way.Y, .f .f32 h_0.Way.Z]] (.b (v_spec_l01VFinite h_0.Way)) [],
              (!(v_spec_l01VFinite h_0.At)) = false,
              (!(v_spec_l01VFinite h_0.At)) = false,
              (!(v_spec_l01VFinite h_0.Way)) = true])
            Go.Proofs.Try.func52 rfl (by kernel_rfl) (by kernel_rfl)
            ⟨h0, h0, h0, h0, h0, (t_spec_l00In h_0.Kind 0 2), h0, h0, (congrArg not h1), (congrArg not h1), (congrArg not h1), (congrArg not h1), (congrArg not h1), (t_spec_l01VFinite h_0.At), (congrArg not h1), (congrArg not h1), (congrArg not h2), (congrArg not h2), (congrArg not h2), (congrArg not h2), (congrArg not h2), (t_spec_l01VFinite h_0.Way), (congrArg not h2), (congrArg not h2), (congrArg not h3), trivial⟩) (by simp only [v_spec_l04Is, h0, h1, h2, h3, cond_true, cond_false]) rfl
      | false =>
        exact Fn.cast (fn_of_ev E0Ok hMixed (c := bodyOf Go.Proofs.Try.f52) (r := .b false) (new := [])
          (ans := [.bo false, .bo false, .bo false, .bo false, .bo false, .call (.b (v_spec_l00In h_0.Kind 0 2)) [], .bo false, .bo false, .bo false, .bo false, .bo false, .bo false, .bo false, .call (.b (v_spec_l01VFinite h_0.At)) [], .bo false, .bo false, .bo true, .bo true, .bo true, .bo true, .bo true, .bo true, .bo true, .bo true, .keep []])
          (C := [(decide (h_0.Place < 0)) = false,
            (decide (h_0.Place < 0)) = false,
            (decide (h_0.Place < 0)) = false,
            (decide (h_0.Place < 0)) = false,
            (decide (h_0.Place < 0)) = false,
            Fn Go.Proofs.Try.prog 81 [.i .i64 h_0.Kind, .i .i64 0, .i .i64 2] (.b (v_spec_l00In h_0.Kind 0 2)) [],
            (decide (h_0.Place < 0)) = false,
            (decide (h_0.Place < 0)) = false,
            (!(v_spec_l00In h_0.Kind 0 2)) = false,
            (!(v_spec_l00In h_0.Kind 0 2)) = false,
            (!(v_spec_l00In h_0.Kind 0 2)) = false,
            (!(v_spec_l00In h_0.Kind 0 2)) = false,
            (!(v_spec_l00In h_0.Kind 0 2)) = false,
            Fn Go.Proofs.Try.prog 82 [.agg [.f .f32 h_0.At.X, .f .f32 h_0.At.Y, .f .f32 h_0.At.Z]] (.b (v_spec_l01VFinite h_0.At)) [],
            (!(v_spec_l00In h_0.Kind 0 2)) = false,
            (!(v_spec_l00In h_0.Kind 0 2)) = false,
            (!(v_spec_l01VFinite h_0.At)) = true,
            (!(v_spec_l01VFinite h_0.At)) = true,
            (!(v_spec_l01VFinite h_0.At)) = true,
            (!(v_spec_l01VFinite h_0.At)) = true,
            (!(v_spec_l01VFinite h_0.At)) = true,
            (!(v_spec_l01VFinite h_0.At)) = true,
            (!(v_spec_l01VFinite h_0.At)) = true,
            true = true])
          Go.Proofs.Try.func52 rfl (by kernel_rfl) (by kernel_rfl)
          ⟨h0, h0, h0, h0, h0, (t_spec_l00In h_0.Kind 0 2), h0, h0, (congrArg not h1), (congrArg not h1), (congrArg not h1), (congrArg not h1), (congrArg not h1), (t_spec_l01VFinite h_0.At), (congrArg not h1), (congrArg not h1), (congrArg not h2), (congrArg not h2), (congrArg not h2), (congrArg not h2), (congrArg not h2), (congrArg not h2), (congrArg not h2), rfl, trivial⟩) (by simp only [v_spec_l04Is, h0, h1, h2, cond_true, cond_false]) rfl
    | false =>
      exact Fn.cast (fn_of_ev E0Ok hMixed (c := bodyOf Go.Proofs.Try.f52) (r := .b false) (new := [])
        (ans := [.bo false, .bo false, .bo false, .bo false, .bo false, .call (.b (v_spec_l00In h_0.Kind 0 2)) [], .bo false, .bo false, .bo true, .bo true, .bo true, .bo true, .bo true, .bo true, .bo true, .bo true, .bo true, .bo true, .bo true, .bo true, .bo true, .bo true, .bo true, .keep []])
        (C := [(decide (h_0.Place < 0)) = false,
          (decide (h_0.Place < 0)) = false,
          (decide (h_0.Place < 0)) = false,
          (decide (h_0.Place < 0)) = false,
          (decide (h_0.Place < 0)) = false,
          Fn Go.Proofs.Try.prog 81 [.i .i64 h_0.Kind, .i .i64 0, .i .i64 2] (.b (v_spec_l00In h_0.Kind 0 2)) [],
          (decide (h_0.Place < 0)) = false,
          (decide (h_0.Place < 0)) = false,
          (!(v_spec_l00In h_0.Kind 0 2)) = true,
          (!(v_spec_l00In h_0.Kind 0 2)) = true,
          (!(v_spec_l00In h_0.Kind 0 2)) = true,
          (!(v_spec_l00In h_0.Kind 0 2)) = true,
          (!(v_spec_l00In h_0.Kind 0 2)) = true,
          (!(v_spec_l00In h_0.Kind 0 2)) = true,
          (!(v_spec_l00In h_0.Kind 0 2)) = true,
          true = true,
          true = true,
          true = true,
          true = true,
          true = true,
          true = true,
          true = true,
          true = true])
        Go.Proofs.Try.func52 rfl (by kernel_rfl) (by kernel_rfl)
        ⟨h0, h0, h0, h0, h0, (t_spec_l00In h_0.Kind 0 2), h0, h0, (congrArg not h1), (congrArg not h1), (congrArg not h1), (congrArg not h1), (congrArg not h1), (congrArg not h1), (congrArg not h1), rfl, rfl, rfl, rfl, rfl, rfl, rfl, rfl, trivial⟩) (by simp only [v_spec_l04Is, h0, h1, cond_false]) rfl

/-- spec.l01Less -/
def v_spec_l01Less (a_0 : GVector) (b_1 : GVector) : GVector := (⟨(fop .sub .f32 a_0.X b_1.X), (fop .sub .f32 a_0.Y b_1.Y), (fop .sub .f32 a_0.Z b_1.Z)⟩ : GVector)

theorem t_spec_l01Less (a_0 : GVector) (b_1 : GVector)   : Fn Go.Proofs.Try.prog 86 [.agg [.f .f32 a_0.X, .f .f32 a_0.Y, .f .f32 a_0.Z], .agg [.f .f32 b_1.X, .f .f32 b_1.Y, .f .f32 b_1.Z]] (.agg [.f .f32 ((v_spec_l01Less a_0 b_1).X), .f .f32 ((v_spec_l01Less a_0 b_1).Y), .f .f32 ((v_spec_l01Less a_0 b_1).Z)]) [] := by
  exact Fn.cast (fn_of_ev E0Ok hMixed (c := bodyOf Go.Proofs.Try.f86) (r := .agg [.f .f32 (fop .sub .f32 a_0.X b_1.X), .f .f32 (fop .sub .f32 a_0.Y b_1.Y), .f .f32 (fop .sub .f32 a_0.Z b_1.Z)]) (new := [])
    (ans := [.keep []])
    (C := [])
    Go.Proofs.Try.func86 rfl (by kernel_rfl) (by kernel_rfl)
    trivial) rfl rfl

/-- spec.l01Scale -/
def v_spec_l01Scale (v_0 : GVector) (by_1 : Nat) : GVector := (⟨(fop .mul .f32 v_0.X by_1), (fop .mul .f32 v_0.Y by_1), (fop .mul .f32 v_0.Z by_1)⟩ : GVector)

theorem t_spec_l01Scale (v_0 : GVector) (by_1 : Nat)   : Fn Go.Proofs.Try.prog 98 [.agg [.f .f32 v_0.X, .f .f32 v_0.Y, .f .f32 v_0.Z], .f .f32 by_1] (.agg [.f .f32 ((v_spec_l01Scale v_0 by_1).X), .f .f32 ((v_spec_l01Scale v_0 by_1).Y), .f .f32 ((v_spec_l01Scale v_0 by_1).Z)]) [] := by
  exact Fn.cast (fn_of_ev E0Ok hMixed (c := bodyOf Go.Proofs.Try.f98) (r := .agg [.f .f32 (fop .mul .f32 v_0.X by_1), .f .f32 (fop .mul .f32 v_0.Y by_1), .f .f32 (fop .mul .f32 v_0.Z by_1)]) (new := [])
    (ans := [.keep []])
    (C := [])
    Go.Proofs.Try.func98 rfl (by kernel_rfl) (by kernel_rfl)
    trivial) rfl rfl

/-- spec.l04Along -/
def v_spec_l04Along (h_0 : GHold) (v_1 : GVector) : GVector := (v_spec_l01Scale h_0.Way (fop .quo .f32 (v_spec_l01Inner v_1 h_0.Way) (v_spec_l01Inner h_0.Way h_0.Way)))

theorem t_spec_l04Along (h_0 : GHold) (v_1 : GVector)   : Fn Go.Proofs.Try.prog 85 [.ref [.i .i64 h_0.Place, .i .i64 h_0.Kind, .f .f32 h_0.At.X, .f .f32 h_0.At.Y, .f .f32 h_0.At.Z, .f .f32 h_0.Way.X, .f .f32 h_0.Way.Y, .f .f32 h_0.Way.Z] 0, .agg [.f .f32 v_1.X, .f .f32 v_1.Y, .f .f32 v_1.Z]] (.agg [.f .f32 ((v_spec_l04Along h_0 v_1).X), .f .f32 ((v_spec_l04Along h_0 v_1).Y), .f .f32 ((v_spec_l04Along h_0 v_1).Z)]) [] := by
  exact Fn.cast (fn_of_ev E0Ok hMixed (c := bodyOf Go.Proofs.Try.f85) (r := .agg [.f .f32 ((v_spec_l01Scale h_0.Way (fop .quo .f32 (v_spec_l01Inner v_1 h_0.Way) (v_spec_l01Inner h_0.Way h_0.Way))).X), .f .f32 ((v_spec_l01Scale h_0.Way (fop .quo .f32 (v_spec_l01Inner v_1 h_0.Way) (v_spec_l01Inner h_0.Way h_0.Way))).Y), .f .f32 ((v_spec_l01Scale h_0.Way (fop .quo .f32 (v_spec_l01Inner v_1 h_0.Way) (v_spec_l01Inner h_0.Way h_0.Way))).Z)]) (new := [])
    (ans := [.keep [20, 20], .call (.f .f32 (v_spec_l01Inner v_1 h_0.Way)) [], .call (.f .f32 (v_spec_l01Inner h_0.Way h_0.Way)) [], .call (.agg [.f .f32 ((v_spec_l01Scale h_0.Way (fop .quo .f32 (v_spec_l01Inner v_1 h_0.Way) (v_spec_l01Inner h_0.Way h_0.Way))).X), .f .f32 ((v_spec_l01Scale h_0.Way (fop .quo .f32 (v_spec_l01Inner v_1 h_0.Way) (v_spec_l01Inner h_0.Way h_0.Way))).Y), .f .f32 ((v_spec_l01Scale h_0.Way (fop .quo .f32 (v_spec_l01Inner v_1 h_0.Way) (v_spec_l01Inner h_0.Way h_0.Way))).Z)]) [], .keep []])
    (C := [Fn Go.Proofs.Try.prog 83 [.agg [.f .f32 v_1.X, .f .f32 v_1.Y, .f .f32 v_1.Z], .agg [.f .f32 h_0.Way.X, .f .f32 h_0.Way.Y, .f .f32 h_0.Way.Z]] (.f .f32 (v_spec_l01Inner v_1 h_0.Way)) [],
      Fn Go.Proofs.Try.prog 83 [.agg [.f .f32 h_0.Way.X, .f .f32 h_0.Way.Y, .f .f32 h_0.Way.Z], .agg [.f .f32 h_0.Way.X, .f .f32 h_0.Way.Y, .f .f32 h_0.Way.Z]] (.f .f32 (v_spec_l01Inner h_0.Way h_0.Way)) [],
      Fn Go.Proofs.Try.prog 98 [.agg [.f .f32 h_0.Way.X, .f .f32 h_0.Way.Y, .f .f32 h_0.Way.Z], .f .f32 (fop .quo .f32 (v_spec_l01Inner v_1 h_0.Way) (v_spec_l01Inner h_0.Way h_0.Way))] (.agg [.f .f32 ((v_spec_l01Scale h_0.Way (fop .quo .f32 (v_spec_l01Inner v_1 h_0.Way) (v_spec_l01Inner h_0.Way h_0.Way))).X), .f .f32 ((v_spec_l01Scale h_0.Way (fop .quo .f32 (v_spec_l01Inner v_1 h_0.Way) (v_spec_l01Inner h_0.Way h_0.Way))).Y), .f .f32 ((v_spec_l01Scale h_0.Way (fop .quo .f32 (v_spec_l01Inner v_1 h_0.Way) (v_spec_l01Inner h_0.Way h_0.Way))).Z)]) []])
    Go.Proofs.Try.func85 rfl (by kernel_rfl) (by kernel_rfl)
    ⟨(t_spec_l01Inner v_1 h_0.Way), (t_spec_l01Inner h_0.Way h_0.Way), (t_spec_l01Scale h_0.Way (fop .quo .f32 (v_spec_l01Inner v_1 h_0.Way) (v_spec_l01Inner h_0.Way h_0.Way))), trivial⟩) rfl rfl

/-- spec.l01Add -/
def v_spec_l01Add (a_0 : GVector) (b_1 : GVector) : GVector := (⟨(fop .add .f32 a_0.X b_1.X), (fop .add .f32 a_0.Y b_1.Y), (fop .add .f32 a_0.Z b_1.Z)⟩ : GVector)

theorem t_spec_l01Add (a_0 : GVector) (b_1 : GVector)   : Fn Go.Proofs.Try.prog 56 [.agg [.f .f32 a_0.X, .f .f32 a_0.Y, .f .f32 a_0.Z], .agg [.f .f32 b_1.X, .f .f32 b_1.Y, .f .f32 b_1.Z]] (.agg [.f .f32 ((v_spec_l01Add a_0 b_1).X), .f .f32 ((v_spec_l01Add a_0 b_1).Y), .f .f32 ((v_spec_l01Add a_0 b_1).Z)]) [] := by
  exact Fn.cast (fn_of_ev E0Ok hMixed (c := bodyOf Go.Proofs.Try.f56) (r := .agg [.f .f32 (fop .add .f32 a_0.X b_1.X), .f .f32 (fop .add .f32 a_0.Y b_1.Y), .f .f32 (fop .add .f32 a_0.Z b_1.Z)]) (new := [])
    (ans := [.keep []])
    (C := [])
    Go.Proofs.Try.func56 rfl (by kernel_rfl) (by kernel_rfl)
    trivial) rfl rfl

/-- spec.l04Put -/
def v_spec_l04Put (h_0 : GHold) (p_1 : GVector) : GVector := (cond (h_0.Kind == 1)
  (v_spec_l01Add h_0.At (v_spec_l04Along h_0 (v_spec_l01Less p_1 h_0.At)))
  (cond (h_0.Kind == 2)
    (v_spec_l01Less p_1 (v_spec_l04Along h_0 (v_spec_l01Less p_1 h_0.At)))
    h_0.At))

theorem t_spec_l04Put (h_0 : GHold) (p_1 : GVector)   : Fn Go.Proofs.Try.prog 65 [.ref [.i .i64 h_0.Place, .i .i64 h_0.Kind, .f .f32 h_0.At.X, .f .f32 h_0.At.Y, .f .f32 h_0.At.Z, .f .f32 h_0.Way.X, .f .f32 h_0.Way.Y, .f .f32 h_0.Way.Z] 0, .agg [.f .f32 p_1.X, .f .f32 p_1.Y, .f .f32 p_1.Z]] (.agg [.f .f32 ((v_spec_l04Put h_0 p_1).X), .f .f32 ((v_spec_l04Put h_0 p_1).Y), .f .f32 ((v_spec_l04Put h_0 p_1).Z)]) [] := by
  cases h0 : (h_0.Kind == 1) with
  | true =>
    exact Fn.cast (fn_of_ev E0Ok hMixed (c := bodyOf Go.Proofs.Try.f65) (r := .agg [.f .f32 ((v_spec_l01Add h_0.At (v_spec_l04Along h_0 (v_spec_l01Less p_1 h_0.At))).X), .f .f32 ((v_spec_l01Add h_0.At (v_spec_l04Along h_0 (v_spec_l01Less p_1 h_0.At))).Y), .f .f32 ((v_spec_l01Add h_0.At (v_spec_l04Along h_0 (v_spec_l01Less p_1 h_0.At))).Z)]) (new := [])
      (ans := [.bo true, .keep [12, 12], .call (.agg [.f .f32 ((v_spec_l01Less p_1 h_0.At).X), .f .f32 ((v_spec_l01Less p_1 h_0.At).Y), .f .f32 ((v_spec_l01Less p_1 h_0.At).Z)]) [], .call (.agg [.f .f32 ((v_spec_l04Along h_0 (v_spec_l01Less p_1 h_0.At)).X), .f .f32 ((v_spec_l04Along h_0 (v_spec_l01Less p_1 h_0.At)).Y), .f .f32 ((v_spec_l04Along h_0 (v_spec_l01Less p_1 h_0.At)).Z)]) [], .call (.agg [.f .f32 ((v_spec_l01Add h_0.At (v_spec_l04Along h_0 (v_spec_l01Less p_1 h_0.At))).X), .f .f32 ((v_spec_l01Add h_0.At (v_spec_l04Along h_0 (v_spec_l01Less p_1 h_0.At))).Y), .f .f32 ((v_spec_l01Add h_0.At (v_spec_l04Along h_0 (v_spec_l01Less p_1 h_0.At))).Z)]) [], .keep []])
      (C := [(h_0.Kind == 1) = true,
        Fn Go.Proofs.Try.prog 86 [.agg [.f .f32 p_1.X, .f .f32 p_1.Y, .f .f32 p_1.Z], .agg [.f .f32 h_0.At.X, .f .f32 h_0.At.Y, .f .f32 h_0.At.Z]] (.agg [.f .f32 ((v_spec_l01Less p_1 h_0.At).X), .f .f32 ((v_spec_l01Less p_1 h_0.At).Y), .f .f32 ((v_spec_l01Less p_1 h_0.At).Z)]) [],
        Fn Go.Proofs.Try.prog 85 [.ref [.i .i64 h_0.Place, .i .i64 h_0.Kind, .f .f32 h_0.At.X, .f .f32 h_0.At.Y, .f .f32 h_0.At.Z, .f .f32 h_0.Way.X, .f .f32 h_0.Way.Y, .f .f32 h_0.Way.Z] 0, .agg [.f .f32 ((v_spec_l01Less p_1 h_0.At).X), .f .f32 ((v_spec_l01Less p_1 h_0.At).Y), .f .f32 ((v_spec_l01Less p_1 h_0.At).Z)]] (.agg [.f .f32 ((v_spec_l04Along h_0 (v_spec_l01Less p_1 h_0.At)).X), .f .f32 ((v_spec_l04Along h_0 (v_spec_l01Less p_1 h_0.At)).Y), .f .f32 ((v_spec_l04Along h_0 (v_spec_l01Less p_1 h_0.At)).Z)]) [],
        Fn Go.Proofs.Try.prog 56 [.agg [.f .f32 h_0.At.X, .f .f32 h_0.At.Y, .f .f32 h_0.At.Z], .agg [.f .f32 ((v_spec_l04Along h_0 (v_spec_l01Less p_1 h_0.At)).X), .f .f32 ((v_spec_l04Along h_0 (v_spec_l01Less p_1 h_0.At)).Y), .f .f32 ((v_spec_l04Along h_0 (v_spec_l01Less p_1 h_0.At)).Z)]] (.agg [.f .f32 ((v_spec_l01Add h_0.At (v_spec_l04Along h_0 (v_spec_l01Less p_1 h_0.At))).X), .f .f32 ((v_spec_l01Add h_0.At (v_spec_l04Along h_0 (v_spec_l01Less p_1 h_0.At))).Y), .f .f32 ((v_spec_l01Add h_0.At (v_spec_l04Along h_0 (v_spec_l01Less p_1 h_0.At))).Z)]) []])
      Go.Proofs.Try.func65 rfl (by kernel_rfl) (by kernel_rfl)
      ⟨h0, (t_spec_l01Less p_1 h_0.At), (t_spec_l04Along h_0 (v_spec_l01Less p_1 h_0.At)), (t_spec_l01Add h_0.At (v_spec_l04Along h_0 (v_spec_l01Less p_1 h_0.At))), trivial⟩) (by simp only [v_spec_l04Put, h0, cond_true]) rfl
  | false =>
    cases h1 : (h_0.Kind == 2) with
    | true =>
      exact Fn.cast (fn_of_ev E0Ok hMixed (c := bodyOf Go.Proofs.Try.f65) (r := .agg [.f .f32 ((v_spec_l01Less p_1 (v_spec_l04Along h_0 (v_spec_l01Less p_1 h_0.At))).X), .f .f32 ((v_spec_l01Less p_1 (v_spec_l04Along h_0 (v_spec_l01Less p_1 h_0.At))).Y), .f .f32 ((v_spec_l01Less p_1 (v_spec_l04Along h_0 (v_spec_l01Less p_1 h_0.At))).Z)]) (new := [])
        (ans := [.bo false, .bo true, .keep [9, 9], .call (.agg [.f .f32 ((v_spec_l01Less p_1 h_0.At).X), .f .f32 ((v_spec_l01Less p_1 h_0.At).Y), .f .f32 ((v_spec_l01Less p_1 h_0.At).Z)]) [], .call (.agg [.f .f32 ((v_spec_l04Along h_0 (v_spec_l01Less p_1 h_0.At)).X), .f .f32 ((v_spec_l04Along h_0 (v_spec_l01Less p_1 h_0.At)).Y), .f .f32 ((v_spec_l04Along h_0 (v_spec_l01Less p_1 h_0.At)).Z)]) [], .call (.agg [.f .f32 ((v_spec_l01Less p_1 (v_spec_l04Along h_0 (v_spec_l01Less p_1 h_0.At))).X), .f .f32 ((v_spec_l01Less p_1 (v_spec_l04Along h_0 (v_spec_l01Less p_1 h_0.At))).Y), .f .f32 ((v_spec_l01Less p_1 (v_spec_l04Along h_0 (v_spec_l01Less p_1 h_0.At))).Z)]) [], .keep []])
        (C := [(h_0.Kind == 1) = false,
          (h_0.Kind == 2) = true,
          Fn Go.Proofs.Try.prog 86 [.agg [.f .f32 p_1.X, .f .f32 p_1.Y, .f .f32 p_1.Z], .agg [.f .f32 h_0.At.X, .f .f32 h_0.At.Y, .f .f32 h_0.At.Z]] (.agg [.f .f32 ((v_spec_l01Less p_1 h_0.At).X), .f .f32 ((v_spec_l01Less p_1 h_0.At).Y), .f .f32 ((v_spec_l01Less p_1 h_0.At).Z)]) [],
          Fn Go.Proofs.Try.prog 85 [.ref [.i .i64 h_0.Place, .i .i64 h_0.Kind, .f .f32 h_0.At.X, .f .f32 h_0.At.Y, .f .f32 h_0.At.Z, .f .f32 h_0.Way.X, .f .f32 h_0.Way.Y, .f .f32 h_0.Way.Z] 0, .agg [.f .f32 ((v_spec_l01Less p_1 h_0.At).X), .f .f32 ((v_spec_l01Less p_1 h_0.At).Y), .f .f32 ((v_spec_l01Less p_1 h_0.At).Z)]] (.agg [.f .f32 ((v_spec_l04Along h_0 (v_spec_l01Less p_1 h_0.At)).X), .f .f32 ((v_spec_l04Along h_0 (v_spec_l01Less p_1 h_0.At)).Y), .f .f32 ((v_spec_l04Along h_0 (v_spec_l01Less p_1 h_0.At)).Z)]) [],
          Fn Go.Proofs.Try.prog 86 [.agg [.f .f32 p_1.X, .f .f32 p_1.Y, .f .f32 p_1.Z], .agg [.f .f32 ((v_spec_l04Along h_0 (v_spec_l01Less p_1 h_0.At)).X), .f .f32 ((v_spec_l04Along h_0 (v_spec_l01Less p_1 h_0.At)).Y), .f .f32 ((v_spec_l04Along h_0 (v_spec_l01Less p_1 h_0.At)).Z)]] (.agg [.f .f32 ((v_spec_l01Less p_1 (v_spec_l04Along h_0 (v_spec_l01Less p_1 h_0.At))).X), .f .f32 ((v_spec_l01Less p_1 (v_spec_l04Along h_0 (v_spec_l01Less p_1 h_0.At))).Y), .f .f32 ((v_spec_l01Less p_1 (v_spec_l04Along h_0 (v_spec_l01Less p_1 h_0.At))).Z)]) []])
        Go.Proofs.Try.func65 rfl (by kernel_rfl) (by kernel_rfl)
        ⟨h0, h1, (t_spec_l01Less p_1 h_0.At), (t_spec_l04Along h_0 (v_spec_l01Less p_1 h_0.At)), (t_spec_l01Less p_1 (v_spec_l04Along h_0 (v_spec_l01Less p_1 h_0.At))), trivial⟩) (by simp only [v_spec_l04Put, h0, h1, cond_true, cond_false]) rfl
    | false =>
      exact Fn.cast (fn_of_ev E0Ok hMixed (c := bodyOf Go.Proofs.Try.f65) (r := .agg [.f .f32 h_0.At.X, .f .f32 h_0.At.Y, .f .f32 h_0.At.Z]) (new := [])
        (ans := [.bo false, .bo false, .keep []])
        (C := [(h_0.Kind == 1) = false,
          (h_0.Kind == 2) = false])
        Go.Proofs.Try.func65 rfl (by kernel_rfl) (by kernel_rfl)
        ⟨h0, h1, trivial⟩) (by simp only [v_spec_l04Put, h0, h1, cond_false]) rfl

/-- spec.HoldPlace -/
def v_spec_HoldPlace (h_0 : GHold) (place_1 : GVector) : GVector × Bool := (cond (v_spec_l04Is h_0)
  ((v_spec_l04Put h_0 place_1), true)
  ((⟨0, 0, 0⟩ : GVector), false))

theorem t_spec_HoldPlace (h_0 : GHold) (place_1 : GVector)   : Fn Go.Proofs.Try.prog 36 [.agg [.i .i64 h_0.Place, .i .i64 h_0.Kind, .f .f32 h_0.At.X, .f .f32 h_0.At.Y, .f .f32 h_0.At.Z, .f .f32 h_0.Way.X, .f .f32 h_0.Way.Y, .f .f32 h_0.Way.Z], .agg [.f .f32 place_1.X, .f .f32 place_1.Y, .f .f32 place_1.Z]] (.tup [.agg [.f .f32 ((v_spec_HoldPlace h_0 place_1).1.X), .f .f32 ((v_spec_HoldPlace h_0 place_1).1.Y), .f .f32 ((v_spec_HoldPlace h_0 place_1).1.Z)], .b ((v_spec_HoldPlace h_0 place_1).2)]) [] := by
  cases h0 : (v_spec_l04Is h_0) with
  | true =>
    exact Fn.cast (fn_of_ev E0Ok hMixed (c := bodyOf Go.Proofs.Try.f36) (r := .tup [.agg [.f .f32 ((v_spec_l04Put h_0 place_1).X), .f .f32 ((v_spec_l04Put h_0 place_1).Y), .f .f32 ((v_spec_l04Put h_0 place_1).Z)], .b true]) (new := [])
      (ans := [.call (.b (v_spec_l04Is h_0)) [], .bo false, .call (.agg [.f .f32 ((v_spec_l04Put h_0 place_1).X), .f .f32 ((v_spec_l04Put h_0 place_1).Y), .f .f32 ((v_spec_l04Put h_0 place_1).Z)]) [], .keep []])
      (C := [Fn Go.Proofs.Try.prog 52 [.ref [.i .i64 h_0.Place, .i .i64 h_0.Kind, .f .f32 h_0.At.X, .f .f32 h_0.At.Y, .f .f32 h_0.At.Z, .f .f32 h_0.Way.X, .f .f32 h_0.Way.Y, .f .f32 h_0.Way.Z] 0] (.b (v_spec_l04Is h_0)) [],
        (!(v_spec_l04Is h_0)) = false,
        Fn Go.Proofs.Try.prog 65 [.ref [.i .i64 h_0.Place, .i .i64 h_0.Kind, .f .f32 h_0.At.X, .f .f32 h_0.At.Y, .f .f32 h_0.At.Z, .f .f32 h_0.Way.X, .f .f32 h_0.Way.Y, .f .f32 h_0.Way.Z] 0, .agg [.f .f32 place_1.X, .f .f32 place_1.Y, .f .f32 place_1.Z]] (.agg [.f .f32 ((v_spec_l04Put h_0 place_1).X), .f .f32 ((v_spec_l04Put h_0 place_1).Y), .f .f32 ((v_spec_l04Put h_0 place_1).Z)]) []])
      Go.Proofs.Try.func36 rfl (by kernel_rfl) (by kernel_rfl)
      ⟨(t_spec_l04Is h_0), (congrArg not h0), (t_spec_l04Put h_0 place_1), trivial⟩) (by simp only [v_spec_HoldPlace, h0, cond_true]) rfl
  | false =>
    exact Fn.cast (fn_of_ev E0Ok hMixed (c := bodyOf Go.Proofs.Try.f36) (r := .tup [.agg [.f .f32 0, .f .f32 0, .f .f32 0], .b false]) (new := [])
      (ans := [.call (.b (v_spec_l04Is h_0)) [], .bo true, .keep []])
      (C := [Fn Go.Proofs.Try.prog 52 [.ref [.i .i64 h_0.Place, .i .i64 h_0.Kind, .f .f32 h_0.At.X, .f .f32 h_0.At.Y, .f .f32 h_0.At.Z, .f .f32 h_0.Way.X, .f .f32 h_0.Way.Y, .f .f32 h_0.Way.Z] 0] (.b (v_spec_l04Is h_0)) [],
        (!(v_spec_l04Is h_0)) = true])
      Go.Proofs.Try.func36 rfl (by kernel_rfl) (by kernel_rfl)
      ⟨(t_spec_l04Is h_0), (congrArg not h0), trivial⟩) (by simp only [v_spec_HoldPlace, h0, cond_false]) rfl

/-- impl.within -/
def v_impl_within (n_0 : Int) (low_1 : Int) (high_2 : Int) : Bool := (cond (decide (n_0 ≥ low_1))
  (decide (n_0 ≤ high_2))
  false)

theorem t_impl_within (n_0 : Int) (low_1 : Int) (high_2 : Int)   : Fn Go.Proofs.Try.prog 53 [.i .i64 n_0, .i .i64 low_1, .i .i64 high_2] (.b (v_impl_within n_0 low_1 high_2)) [] := by
  cases h0 : (decide (n_0 ≥ low_1)) with
  | true =>
    exact Fn.cast (fn_of_ev E0Ok hMixed (c := bodyOf Go.Proofs.Try.f53) (r := .b (decide (n_0 ≤ high_2))) (new := [])
      (ans := [.bo true, .bo true, .bo true, .bo true, .keep []])
      (C := [(decide (n_0 ≥ low_1)) = true,
        (decide (n_0 ≥ low_1)) = true,
        (decide (n_0 ≥ low_1)) = true,
        (decide (n_0 ≥ low_1)) = true])
      Go.Proofs.Try.func53 rfl (by kernel_rfl) (by kernel_rfl)
      ⟨h0, h0, h0, h0, trivial⟩) (by simp only [v_impl_within, h0, cond_true]) rfl
  | false =>
    exact Fn.cast (fn_of_ev E0Ok hMixed (c := bodyOf Go.Proofs.Try.f53) (r := .b false) (new := [])
      (ans := [.bo false, .bo false, .bo false, .bo false, .keep []])
      (C := [(decide (n_0 ≥ low_1)) = false,
        (decide (n_0 ≥ low_1)) = false,
        (decide (n_0 ≥ low_1)) = false,
        (decide (n_0 ≥ low_1)) = false])
      Go.Proofs.Try.func53 rfl (by kernel_rfl) (by kernel_rfl)
      ⟨h0, h0, h0, h0, trivial⟩) (by simp only [v_impl_within, h0, cond_false]) rfl

/-- impl.IsFinite -/
def v_impl_IsFinite (x_0 : Nat) : Bool := (fcmp .eql .f32 (fop .sub .f32 x_0 x_0) 0)

theorem t_impl_IsFinite (x_0 : Nat)   : Fn Go.Proofs.Try.prog 50 [.f .f32 x_0] (.b (v_impl_IsFinite x_0)) [] := by
  exact Fn.cast (fn_of_ev E0Ok hMixed (c := bodyOf Go.Proofs.Try.f50) (r := .b (fcmp .eql .f32 (fop .sub .f32 x_0 x_0) 0)) (new := [])
    (ans := [.keep []])
    (C := [])
    Go.Proofs.Try.func50 rfl (by kernel_rfl) (by kernel_rfl)
    trivial) rfl rfl

/-- impl.isFiniteVector -/
def v_impl_isFiniteVector (v_0 : GVector) : Bool := (cond (v_impl_IsFinite v_0.X)
  (cond (v_impl_IsFinite v_0.Y)
    (v_impl_IsFinite v_0.Z)
    false)
  false)

theorem t_impl_isFiniteVector (v_0 : GVector)   : Fn Go.Proofs.Try.prog 54 [.agg [.f .f32 v_0.X, .f .f32 v_0.Y, .f .f32 v_0.Z]] (.b (v_impl_isFiniteVector v_0)) [] := by
  cases h0 : (v_impl_IsFinite v_0.X) with
  | true =>
    cases h1 : (v_impl_IsFinite v_0.Y) with
    | true =>
      exact Fn.cast (fn_of_ev E0Ok hMixed (c := bodyOf Go.Proofs.Try.f54) (r := .b (v_impl_IsFinite v_0.Z)) (new := [])
        (ans := [.call (.b (v_impl_IsFinite v_0.X)) [], .bo true, .bo true, .bo true, .call (.b (v_impl_IsFinite v_0.Y)) [], .bo true, .bo true, .bo true, .bo true, .call (.b (v_impl_IsFinite v_0.Z)) [], .bo true, .keep []])
        (C := [Fn Go.Proofs.Try.prog 50 [.f .f32 v_0.X] (.b (v_impl_IsFinite v_0.X)) [],
          (v_impl_IsFinite v_0.X) = true,
          (v_impl_IsFinite v_0.X) = true,
          (v_impl_IsFinite v_0.X) = true,
          Fn Go.Proofs.Try.prog 50 [.f .f32 v_0.Y] (.b (v_impl_IsFinite v_0.Y)) [],
          (v_impl_IsFinite v_0.X) = true,
          (v_impl_IsFinite v_0.Y) = true,
          (v_impl_IsFinite v_0.Y) = true,
          (v_impl_IsFinite v_0.Y) = true,
          Fn Go.Proofs.Try.prog 50 [.f .f32 v_0.Z] (.b (v_impl_IsFinite v_0.Z)) [],
          (v_impl_IsFinite v_0.Y) = true])
        Go.Proofs.Try.func54 rfl (by kernel_rfl) (by kernel_rfl)
        ⟨(t_impl_IsFinite v_0.X), h0, h0, h0, (t_impl_IsFinite v_0.Y), h0, h1, h1, h1, (t_impl_IsFinite v_0.Z), h1, trivial⟩) (by simp only [v_impl_isFiniteVector, h0, h1, cond_true]) rfl
    | false =>
      exact Fn.cast (fn_of_ev E0Ok hMixed (c := bodyOf Go.Proofs.Try.f54) (r := .b false) (new := [])
        (ans := [.call (.b (v_impl_IsFinite v_0.X)) [], .bo true, .bo true, .bo true, .call (.b (v_impl_IsFinite v_0.Y)) [], .bo true, .bo false, .bo false, .bo false, .bo false, .keep []])
        (C := [Fn Go.Proofs.Try.prog 50 [.f .f32 v_0.X] (.b (v_impl_IsFinite v_0.X)) [],
          (v_impl_IsFinite v_0.X) = true,
          (v_impl_IsFinite v_0.X) = true,
          (v_impl_IsFinite v_0.X) = true,
          Fn Go.Proofs.Try.prog 50 [.f .f32 v_0.Y] (.b (v_impl_IsFinite v_0.Y)) [],
          (v_impl_IsFinite v_0.X) = true,
          (v_impl_IsFinite v_0.Y) = false,
          (v_impl_IsFinite v_0.Y) = false,
          (v_impl_IsFinite v_0.Y) = false,
          (v_impl_IsFinite v_0.Y) = false])
        Go.Proofs.Try.func54 rfl (by kernel_rfl) (by kernel_rfl)
        ⟨(t_impl_IsFinite v_0.X), h0, h0, h0, (t_impl_IsFinite v_0.Y), h0, h1, h1, h1, h1, trivial⟩) (by simp only [v_impl_isFiniteVector, h0, h1, cond_true, cond_false]) rfl
  | false =>
    exact Fn.cast (fn_of_ev E0Ok hMixed (c := bodyOf Go.Proofs.Try.f54) (r := .b false) (new := [])
      (ans := [.call (.b (v_impl_IsFinite v_0.X)) [], .bo false, .bo false, .bo false, .bo false, .bo false, .bo false, .bo false, .bo false, .keep []])
      (C := [Fn Go.Proofs.Try.prog 50 [.f .f32 v_0.X] (.b (v_impl_IsFinite v_0.X)) [],
        (v_impl_IsFinite v_0.X) = false,
        (v_impl_IsFinite v_0.X) = false,
        (v_impl_IsFinite v_0.X) = false,
        (v_impl_IsFinite v_0.X) = false,
        false = false,
        false = false,
        false = false,
        false = false])
      Go.Proofs.Try.func54 rfl (by kernel_rfl) (by kernel_rfl)
      ⟨(t_impl_IsFinite v_0.X), h0, h0, h0, h0, rfl, rfl, rfl, rfl, trivial⟩) (by simp only [v_impl_isFiniteVector, h0, cond_false]) rfl

/-- impl.InnerOf -/
def v_impl_InnerOf (a_0 : GVector) (b_1 : GVector) : Nat := (fop .add .f32 (fop .add .f32 (fop .mul .f32 a_0.X b_1.X) (fop .mul .f32 a_0.Y b_1.Y)) (fop .mul .f32 a_0.Z b_1.Z))

theorem t_impl_InnerOf (a_0 : GVector) (b_1 : GVector)   : Fn Go.Proofs.Try.prog 55 [.agg [.f .f32 a_0.X, .f .f32 a_0.Y, .f .f32 a_0.Z], .agg [.f .f32 b_1.X, .f .f32 b_1.Y, .f .f32 b_1.Z]] (.f .f32 (v_impl_InnerOf a_0 b_1)) [] := by
  exact Fn.cast (fn_of_ev E0Ok hMixed (c := bodyOf Go.Proofs.Try.f55) (r := .f .f32 (fop .add .f32 (fop .add .f32 (fop .mul .f32 a_0.X b_1.X) (fop .mul .f32 a_0.Y b_1.Y)) (fop .mul .f32 a_0.Z b_1.Z))) (new := [])
    (ans := [.keep []])
    (C := [])
    Go.Proofs.Try.func55 rfl (by kernel_rfl) (by kernel_rfl)
    trivial) rfl rfl

/-- impl.isOver -/
def v_impl_isOver (x_0 : Nat) : Bool := (cond (v_impl_IsFinite x_0)
  (fcmp .gtr .f32 x_0 0)
  false)

theorem t_impl_isOver (x_0 : Nat)   : Fn Go.Proofs.Try.prog 51 [.f .f32 x_0] (.b (v_impl_isOver x_0)) [] := by
  cases h0 : (v_impl_IsFinite x_0) with
  | true =>
    exact Fn.cast (fn_of_ev E0Ok hMixed (c := bodyOf Go.Proofs.Try.f51) (r := .b (fcmp .gtr .f32 x_0 0)) (new := [])
      (ans := [.call (.b (v_impl_IsFinite x_0)) [], .bo true, .bo true, .bo true, .keep []])
      (C := [Fn Go.Proofs.Try.prog 50 [.f .f32 x_0] (.b (v_impl_IsFinite x_0)) [],
        (v_impl_IsFinite x_0) = true,
        (v_impl_IsFinite x_0) = true,
        (v_impl_IsFinite x_0) = true])
      Go.Proofs.Try.func51 rfl (by kernel_rfl) (by kernel_rfl)
      ⟨(t_impl_IsFinite x_0), h0, h0, h0, trivial⟩) (by simp only [v_impl_isOver, h0, cond_true]) rfl
  | false =>
    exact Fn.cast (fn_of_ev E0Ok hMixed (c := bodyOf Go.Proofs.Try.f51) (r := .b false) (new := [])
      (ans := [.call (.b (v_impl_IsFinite x_0)) [], .bo false, .bo false, .bo false, .keep []])
      (C := [Fn Go.Proofs.Try.prog 50 [.f .f32 x_0] (.b (v_impl_IsFinite x_0)) [],
        (v_impl_IsFinite x_0) = false,
        (v_impl_IsFinite x_0) = false,
        (v_impl_IsFinite x_0) = false])
      Go.Proofs.Try.func51 rfl (by kernel_rfl) (by kernel_rfl)
      ⟨(t_impl_IsFinite x_0), h0, h0, h0, trivial⟩) (by simp only [v_impl_isOver, h0, cond_false]) rfl

/-- impl.IsHold -/
def v_impl_IsHold (h_0 : GHold) : Bool := (cond (decide (h_0.Place < 0))
  false
  (cond (v_impl_within h_0.Kind 0 2)
    (cond (v_impl_isFiniteVector h_0.At)
      (cond (v_impl_isFiniteVector h_0.Way)
        (cond (h_0.Kind == 0)
          true
          (v_impl_isOver (v_impl_InnerOf h_0.Way h_0.Way)))
        false)
      false)
    false))

theorem t_impl_IsHold (h_0 : GHold)   : Fn Go.Proofs.Try.prog 20 [.agg [.i .i64 h_0.Place, .i .i64 h_0.Kind, .f .f32 h_0.At.X, .f .f32 h_0.At.Y, .f .f32 h_0.At.Z, .f .f32 h_0.Way.X, .f .f32 h_0.Way.Y, .f .f32 h_0.Way.Z]] (.b (v_impl_IsHold h_0)) [] := by
  cases h0 : (decide (h_0.Place < 0)) with
  | true =>
    exact Fn.cast (fn_of_ev E0Ok hMixed (c := bodyOf Go.Proofs.Try.f20) (r := .b false) (new := [])
      (ans := [.bo true, .bo true, .bo true, .bo true, .bo true, .bo true, .bo true, .bo true, .bo true, .bo true, .bo true, .bo true, .bo true, .bo true, .bo true, .bo true, .keep []])
      (C := [(decide (h_0.Place < 0)) = true,
        (decide (h_0.Place < 0)) = true,
        (decide (h_0.Place < 0)) = true,
        (decide (h_0.Place < 0)) = true,
        (decide (h_0.Place < 0)) = true,
        true = true,
        true = true,
        true = true,
        true = true,
        true = true,
        true = true,
        true = true,
        true = true,
        true = true,
        true = true,
        true = true])
      Go.Proofs.Try.func20 rfl (by kernel_rfl) (by kernel_rfl)
      ⟨h0, h0, h0, h0, h0, rfl, rfl, rfl, rfl, rfl, rfl, rfl, rfl, rfl, rfl, rfl, trivial⟩) (by simp only [v_impl_IsHold, h0, cond_true]) rfl
  | false =>
    cases h1 : (v_impl_within h_0.Kind 0 2) with
    | true =>
      cases h2 : (v_impl_isFiniteVector h_0.At) with
      | true =>
        cases h3 : (v_impl_isFiniteVector h_0.Way) with
        | true =>
          cases h4 : (h_0.Kind == 0) with
          | true =>
            exact Fn.cast (fn_of_ev E0Ok hMixed (c := bodyOf Go.Proofs.Try.f20) (r := .b true) (new := [])
              (ans := [.bo false, .bo false, .bo false, .call (.b (v_impl_within h_0.Kind 0 2)) [], .bo false, .bo false, .bo false, .bo false, .bo false, .call (.b (v_impl_isFiniteVector h_0.At)) [], .bo false, .bo false, .bo false, .bo false, .bo false, .call (.b (v_impl_isFiniteVector h_0.Way)) [], .bo false, .bo false, .bo false, .bo true, .bo true, .bo true, .bo true, .bo true, .bo true, .bo true, .keep []])
              (C := [(decide (h_0.Place < 0)) = false,
                (decide (h_0.Place < 0)) = false,
                (decide (h_0.Place < 0)) = false,
                Fn Go.Proofs.Try.prog 53 [.i .i64 h_0.Kind, .i .i64 0, .i .i64 2] (.b (v_impl_within h_0.Kind 0 2)) [],
                (decide (h_0.Place < 0)) = false,
                (decide (h_0.Place < 0)) = false,
                (!(v_impl_within h_0.Kind 0 2)) = false,
                (!(v_impl_within h_0.Kind 0 2)) = false,
                (!(v_impl_within h_0.Kind 0 2)) = false,
                Fn Go.Proofs.Try.prog 54 [.agg [.f .f32 h_0.At.X, .f .f32 h_0.At.Y, .f .f32 h_0.At.Z]] (.b (v_impl_isFiniteVector h_0.At)) [],
                (!(v_impl_within h_0.Kind 0 2)) = false,
                (!(v_impl_within h_0.Kind 0 2)) = false,
                (!(v_impl_isFiniteVector h_0.At)) = false,
                (!(v_impl_isFiniteVector h_0.At)) = false,
                (!(v_impl_isFiniteVector h_0.At)) = false,
                Fn Go.Proofs.Try.prog 54 [.agg [.f .f32 h_0.Way.X, .f .f32 h_0.Way.Y, .f .f32 h_0.Way.Z]] (.b (v_impl_isFiniteVector h_0.Way)) [],
                (!(v_impl_isFiniteVector h_0.At)) = false,
                (!(v_impl_isFiniteVector h_0.At)) = false,
                (!(v_impl_isFiniteVector h_0.Way)) = false,
                (h_0.Kind == 0) = true,
                (h_0.Kind == 0) = true,
                (h_0.Kind == 0) = true,
                (h_0.Kind == 0) = true,
                (h_0.Kind == 0) = true,
                (h_0.Kind == 0) = true,
                (h_0.Kind == 0) = true])
              Go.Proofs.Try.func20 rfl (by kernel_rfl) (by kernel_rfl)
              ⟨h0, h0, h0, (t_impl_within h_0.Kind 0 2), h0, h0, (congrArg not h1), (congrArg not h1), (congrArg not h1), (t_impl_isFiniteVector h_0.At), (congrArg not h1), (congrArg not h1), (congrArg not h2), (congrArg not h2), (congrArg not h2), (t_impl_isFiniteVector h_0.Way), (congrArg not h2), (congrArg not h2), (congrArg not h3), h4, h4, h4, h4, h4, h4, h4, trivial⟩) (by simp only [v_impl_IsHold, h0, h1, h2, h3, h4, cond_true, cond_false]) rfl
          | false =>
            exact Fn.cast (fn_of_ev E0Ok hMixed (c := bodyOf Go.Proofs.Try.f20) (r := .b (v_impl_isOver (v_impl_InnerOf h_0.Way h_0.Way))) (new := [])
              (ans := [.bo false, .bo false, .bo false, .call (.b (v_impl_within h_0.Kind 0 2)) [], .bo false, .bo false, .bo false, .bo false, .bo false, .call (.b (v_impl_isFiniteVector h_0.At)) [], .bo false, .bo false, .bo false, .bo false, .bo false, .call (.b (v_impl_isFiniteVector h_0.Way)) [], .bo false, .bo false, .bo false, .bo false, .bo false, .bo false, .bo false, .bo false, .call (.f .f32 (v_impl_InnerOf h_0.Way h_0.Way)) [], .bo false, .call (.b (v_impl_isOver (v_impl_InnerOf h_0.Way h_0.Way))) [], .bo false, .keep []])
              (C := [(decide (h_0.Place < 0)) = false,
                (decide (h_0.Place < 0)) = false,
                (decide (h_0.Place < 0)) = false,
                Fn Go.Proofs.Try.prog 53 [.i .i64 h_0.Kind, .i .i64 0, .i .i64 2] (.b (v_impl_within h_0.Kind 0 2)) [],
                (decide (h_0.Place < 0)) = false,
                (decide (h_0.Place < 0)) = false,
                (!(v_impl_within h_0.Kind 0 2)) = false,
                (!(v_impl_within h_0.Kind 0 2)) = false,
                (!(v_impl_within h_0.Kind 0 2)) = false,
                Fn Go.Proofs.Try.prog 54 [.agg [.f .f32 h_0.At.X, .f .f32 h_0.At.Y, .f .f32 h_0.At.Z]] (.b (v_impl_isFiniteVector h_0.At)) [],
                (!(v_impl_within h_0.Kind 0 2)) = false,
                (!(v_impl_within h_0.Kind 0 2)) = false,
                (!(v_impl_isFiniteVector h_0.At)) = false,
                (!(v_impl_isFiniteVector h_0.At)) = false,
                (!(v_impl_isFiniteVector h_0.At)) = false,
                Fn Go.Proofs.Try.prog 54 [.agg [.f .f32 h_0.Way.X, .f .f32 h_0.Way.Y, .f .f32 h_0.Way.Z]] (.b (v_impl_isFiniteVector h_0.Way)) [],
                (!(v_impl_isFiniteVector h_0.At)) = false,
                (!(v_impl_isFiniteVector h_0.At)) = false,
                (!(v_impl_isFiniteVector h_0.Way)) = false,
                (h_0.Kind == 0) = false,
                (h_0.Kind == 0) = false,
                (h_0.Kind == 0) = false,
                (h_0.Kind == 0) = false,
                (h_0.Kind == 0) = false,
                Fn Go.Proofs.Try.prog 55 [.agg [.f .f32 h_0.Way.X, .f .f32 h_0.Way.Y, .f .f32 h_0.Way.Z], .agg [.f .f32 h_0.Way.X, .f .f32 h_0.Way.Y, .f .f32 h_0.Way.Z]] (.f .f32 (v_impl_InnerOf h_0.Way h_0.Way)) [],
                (h_0.Kind == 0) = false,
                Fn Go.Proofs.Try.prog 51 [.f .f32 (v_impl_InnerOf h_0.Way h_0.Way)] (.b (v_impl_isOver (v_impl_InnerOf h_0.Way h_0.Way))) [],
                (h_0.Kind == 0) = false])
              Go.Proofs.Try.func20 rfl (by kernel_rfl) (by kernel_rfl)
              ⟨h0, h0, h0, (t_impl_within h_0.Kind 0 2), h0, h0, (congrArg not h1), (congrArg not h1), (congrArg not h1), (t_impl_isFiniteVector h_0.At), (congrArg not h1), (congrArg not h1), (congrArg not h2), (congrArg not h2), (congrArg not h2), (t_impl_isFiniteVector h_0.Way), (congrArg not h2), (congrArg not h2), (congrArg not h3), h4, h4, h4, h4, h4, (t_impl_InnerOf h_0.Way h_0.Way), h4, (t_impl_isOver (v_impl_InnerOf h_0.Way h_0.Way)), h4, trivial⟩) (by simp only [v_impl_IsHold, h0, h1, h2, h3, h4, cond_true, cond_false]) rfl
        | false =>
          exact Fn.cast (fn_of_ev E0Ok hMixed (c := bodyOf Go.Proofs.Try.f20) (r := .b false) (new := [])
            (ans := [.bo false, .bo false, .bo false, .call (.b (v_impl_within h_0.Kind 0 2)) [], .bo false, .bo false, .bo false, .bo false, .bo false, .call (.b (v_impl_isFiniteVector h_0.At)) [], .bo false, .bo false, .bo false, .bo false, .bo false, .call (.b (v_impl_isFiniteVector h_0.Way)) [], .bo false, .bo false, .bo true, .keep []])
            (C := [(decide (h_0.Place < 0)) = false,
              (decide (h_0.Place < 0)) = false,
              (decide (h_0.Place < 0)) = false,
              Fn Go.Proofs.Try.prog 53 [.i .i64 h_0.Kind, .i .i64 0, .i .i64 2] (.b (v_impl_within h_0.Kind 0 2)) [],
              (decide (h_0.Place < 0)) = false,
              (decide (h_0.Place < 0)) = false,
              (!(v_impl_within h_0.Kind 0 2)) = false,
              (!(v_impl_within h_0.Kind 0 2)) = false,
              (!(v_impl_within h_0.Kind 0 2)) = false,
              Fn Go.Proofs.Try.prog 54 [.agg [.f .f32 h_0.At.X, .f .f32 h_0.At.Y, .f .f32 h_0.At.Z]] (.b (v_impl_isFiniteVector h_0.At)) [],
              (!(v_impl_within h_0.Kind 0 2)) = false,
              (!(v_impl_within h_0.Kind 0 2)) = false,
              (!(v_impl_isFiniteVector h_0.At)) = false,
              (!(v_impl_isFiniteVector h_0.At)) = false,
              (!(v_impl_isFiniteVector h_0.At)) = false,
              Fn Go.Proofs.Try.prog 54 [.agg [.f .f32 h_0.Way.X, .f .f32 h_0.Way.Y, .f .f32 h_0.Way.Z]] (.b (v_impl_isFiniteVector h_0.Way)) [],
              (!(v_impl_isFiniteVector h_0.At)) = false,
              (!(v_impl_isFiniteVector h_0.At)) = false,
              (!(v_impl_isFiniteVector h_0.Way)) = true])
            Go.Proofs.Try.func20 rfl (by kernel_rfl) (by kernel_rfl)
            ⟨h0, h0, h0, (t_impl_within h_0.Kind 0 2), h0, h0, (congrArg not h1), (congrArg not h1), (congrArg not h1), (t_impl_isFiniteVector h_0.At), (congrArg not h1), (congrArg not h1), (congrArg not h2), (congrArg not h2), (congrArg not h2), (t_impl_isFiniteVector h_0.Way), (congrArg not h2), (congrArg not h2), (congrArg not h3), trivial⟩) (by simp only [v_impl_IsHold, h0, h1, h2, h3, cond_true, cond_false]) rfl
      | false =>
        exact Fn.cast (fn_of_ev E0Ok hMixed (c := bodyOf Go.Proofs.Try.f20) (r := .b false) (new := [])
          (ans := [.bo false, .bo false, .bo false, .call (.b (v_impl_within h_0.Kind 0 2)) [], .bo false, .bo false, .bo false, .bo false, .bo false, .call (.b (v_impl_isFiniteVector h_0.At)) [], .bo false, .bo false, .bo true, .bo true, .bo true, .bo true, .bo true, .bo true, .keep []])
          (C := [(decide (h_0.Place < 0)) = false,
            (decide (h_0.Place < 0)) = false,
            (decide (h_0.Place < 0)) = false,
            Fn Go.Proofs.Try.prog 53 [.i .i64 h_0.Kind, .i .i64 0, .i .i64 2] (.b (v_impl_within h_0.Kind 0 2)) [],
            (decide (h_0.Place < 0)) = false,
            (decide (h_0.Place < 0)) = false,
            (!(v_impl_within h_0.Kind 0 2)) = false,
            (!(v_impl_within h_0.Kind 0 2)) = false,
            (!(v_impl_within h_0.Kind 0 2)) = false,
            Fn Go.Proofs.Try.prog 54 [.agg [.f .f32 h_0.At.X, .f .f32 h_0.At.Y, .f .f32 h_0.At.Z]] (.b (v_impl_isFiniteVector h_0.At)) [],
            (!(v_impl_within h_0.Kind 0 2)) = false,
            (!(v_impl_within h_0.Kind 0 2)) = false,
            (!(v_impl_isFiniteVector h_0.At)) = true,
            (!(v_impl_isFiniteVector h_0.At)) = true,
            (!(v_impl_isFiniteVector h_0.At)) = true,
            (!(v_impl_isFiniteVector h_0.At)) = true,
            (!(v_impl_isFiniteVector h_0.At)) = true,
            true = true])
          Go.Proofs.Try.func20 rfl (by kernel_rfl) (by kernel_rfl)
          ⟨h0, h0, h0, (t_impl_within h_0.Kind 0 2), h0, h0, (congrArg not h1), (congrArg not h1), (congrArg not h1), (t_impl_isFiniteVector h_0.At), (congrArg not h1), (congrArg not h1), (congrArg not h2), (congrArg not h2), (congrArg not h2), (congrArg not h2), (congrArg not h2), rfl, trivial⟩) (by simp only [v_impl_IsHold, h0, h1, h2, cond_true, cond_false]) rfl
    | false =>
      exact Fn.cast (fn_of_ev E0Ok hMixed (c := bodyOf Go.Proofs.Try.f20) (r := .b false) (new := [])
        (ans := [.bo false, .bo false, .bo false, .call (.b (v_impl_within h_0.Kind 0 2)) [], .bo false, .bo false, .bo true, .bo true, .bo true, .bo true, .bo true, .bo true, .bo true, .bo true, .bo true, .bo true, .bo true, .keep []])
        (C := [(decide (h_0.Place < 0)) = false,
          (decide (h_0.Place < 0)) = false,
          (decide (h_0.Place < 0)) = false,
          Fn Go.Proofs.Try.prog 53 [.i .i64 h_0.Kind, .i .i64 0, .i .i64 2] (.b (v_impl_within h_0.Kind 0 2)) [],
          (decide (h_0.Place < 0)) = false,
          (decide (h_0.Place < 0)) = false,
          (!(v_impl_within h_0.Kind 0 2)) = true,
          (!(v_impl_within h_0.Kind 0 2)) = true,
          (!(v_impl_within h_0.Kind 0 2)) = true,
          (!(v_impl_within h_0.Kind 0 2)) = true,
          (!(v_impl_within h_0.Kind 0 2)) = true,
          true = true,
          true = true,
          true = true,
          true = true,
          true = true,
          true = true])
        Go.Proofs.Try.func20 rfl (by kernel_rfl) (by kernel_rfl)
        ⟨h0, h0, h0, (t_impl_within h_0.Kind 0 2), h0, h0, (congrArg not h1), (congrArg not h1), (congrArg not h1), (congrArg not h1), (congrArg not h1), rfl, rfl, rfl, rfl, rfl, rfl, trivial⟩) (by simp only [v_impl_IsHold, h0, h1, cond_false]) rfl

/-- impl.LessVectors -/
def v_impl_LessVectors (a_0 : GVector) (b_1 : GVector) : GVector := (⟨(fop .sub .f32 a_0.X b_1.X), (fop .sub .f32 a_0.Y b_1.Y), (fop .sub .f32 a_0.Z b_1.Z)⟩ : GVector)

theorem t_impl_LessVectors (a_0 : GVector) (b_1 : GVector)   : Fn Go.Proofs.Try.prog 88 [.agg [.f .f32 a_0.X, .f .f32 a_0.Y, .f .f32 a_0.Z], .agg [.f .f32 b_1.X, .f .f32 b_1.Y, .f .f32 b_1.Z]] (.agg [.f .f32 ((v_impl_LessVectors a_0 b_1).X), .f .f32 ((v_impl_LessVectors a_0 b_1).Y), .f .f32 ((v_impl_LessVectors a_0 b_1).Z)]) [] := by
  exact Fn.cast (fn_of_ev E0Ok hMixed (c := bodyOf Go.Proofs.Try.f88) (r := .agg [.f .f32 (fop .sub .f32 a_0.X b_1.X), .f .f32 (fop .sub .f32 a_0.Y b_1.Y), .f .f32 (fop .sub .f32 a_0.Z b_1.Z)]) (new := [])
    (ans := [.keep []])
    (C := [])
    Go.Proofs.Try.func88 rfl (by kernel_rfl) (by kernel_rfl)
    trivial) rfl rfl

/-- impl.ScaleVector -/
def v_impl_ScaleVector (v_0 : GVector) (by_1 : Nat) : GVector := (⟨(fop .mul .f32 v_0.X by_1), (fop .mul .f32 v_0.Y by_1), (fop .mul .f32 v_0.Z by_1)⟩ : GVector)

theorem t_impl_ScaleVector (v_0 : GVector) (by_1 : Nat)   : Fn Go.Proofs.Try.prog 74 [.agg [.f .f32 v_0.X, .f .f32 v_0.Y, .f .f32 v_0.Z], .f .f32 by_1] (.agg [.f .f32 ((v_impl_ScaleVector v_0 by_1).X), .f .f32 ((v_impl_ScaleVector v_0 by_1).Y), .f .f32 ((v_impl_ScaleVector v_0 by_1).Z)]) [] := by
  exact Fn.cast (fn_of_ev E0Ok hMixed (c := bodyOf Go.Proofs.Try.f74) (r := .agg [.f .f32 (fop .mul .f32 v_0.X by_1), .f .f32 (fop .mul .f32 v_0.Y by_1), .f .f32 (fop .mul .f32 v_0.Z by_1)]) (new := [])
    (ans := [.keep []])
    (C := [])
    Go.Proofs.Try.func74 rfl (by kernel_rfl) (by kernel_rfl)
    trivial) rfl rfl

/-- impl.alongWay -/
def v_impl_alongWay (h_0 : GHold) (v_1 : GVector) : GVector := (v_impl_ScaleVector h_0.Way (fop .quo .f32 (v_impl_InnerOf v_1 h_0.Way) (v_impl_InnerOf h_0.Way h_0.Way)))

theorem t_impl_alongWay (h_0 : GHold) (v_1 : GVector)   : Fn Go.Proofs.Try.prog 87 [.agg [.i .i64 h_0.Place, .i .i64 h_0.Kind, .f .f32 h_0.At.X, .f .f32 h_0.At.Y, .f .f32 h_0.At.Z, .f .f32 h_0.Way.X, .f .f32 h_0.Way.Y, .f .f32 h_0.Way.Z], .agg [.f .f32 v_1.X, .f .f32 v_1.Y, .f .f32 v_1.Z]] (.agg [.f .f32 ((v_impl_alongWay h_0 v_1).X), .f .f32 ((v_impl_alongWay h_0 v_1).Y), .f .f32 ((v_impl_alongWay h_0 v_1).Z)]) [] := by
  exact Fn.cast (fn_of_ev E0Ok hMixed (c := bodyOf Go.Proofs.Try.f87) (r := .agg [.f .f32 ((v_impl_ScaleVector h_0.Way (fop .quo .f32 (v_impl_InnerOf v_1 h_0.Way) (v_impl_InnerOf h_0.Way h_0.Way))).X), .f .f32 ((v_impl_ScaleVector h_0.Way (fop .quo .f32 (v_impl_InnerOf v_1 h_0.Way) (v_impl_InnerOf h_0.Way h_0.Way))).Y), .f .f32 ((v_impl_ScaleVector h_0.Way (fop .quo .f32 (v_impl_InnerOf v_1 h_0.Way) (v_impl_InnerOf h_0.Way h_0.Way))).Z)]) (new := [])
    (ans := [.keep [12, 12], .call (.f .f32 (v_impl_InnerOf v_1 h_0.Way)) [], .call (.f .f32 (v_impl_InnerOf h_0.Way h_0.Way)) [], .call (.agg [.f .f32 ((v_impl_ScaleVector h_0.Way (fop .quo .f32 (v_impl_InnerOf v_1 h_0.Way) (v_impl_InnerOf h_0.Way h_0.Way))).X), .f .f32 ((v_impl_ScaleVector h_0.Way (fop .quo .f32 (v_impl_InnerOf v_1 h_0.Way) (v_impl_InnerOf h_0.Way h_0.Way))).Y), .f .f32 ((v_impl_ScaleVector h_0.Way (fop .quo .f32 (v_impl_InnerOf v_1 h_0.Way) (v_impl_InnerOf h_0.Way h_0.Way))).Z)]) [], .keep []])
    (C := [Fn Go.Proofs.Try.prog 55 [.agg [.f .f32 v_1.X, .f .f32 v_1.Y, .f .f32 v_1.Z], .agg [.f .f32 h_0.Way.X, .f .f32 h_0.Way.Y, .f .f32 h_0.Way.Z]] (.f .f32 (v_impl_InnerOf v_1 h_0.Way)) [],
      Fn Go.Proofs.Try.prog 55 [.agg [.f .f32 h_0.Way.X, .f .f32 h_0.Way.Y, .f .f32 h_0.Way.Z], .agg [.f .f32 h_0.Way.X, .f .f32 h_0.Way.Y, .f .f32 h_0.Way.Z]] (.f .f32 (v_impl_InnerOf h_0.Way h_0.Way)) [],
      Fn Go.Proofs.Try.prog 74 [.agg [.f .f32 h_0.Way.X, .f .f32 h_0.Way.Y, .f .f32 h_0.Way.Z], .f .f32 (fop .quo .f32 (v_impl_InnerOf v_1 h_0.Way) (v_impl_InnerOf h_0.Way h_0.Way))] (.agg [.f .f32 ((v_impl_ScaleVector h_0.Way (fop .quo .f32 (v_impl_InnerOf v_1 h_0.Way) (v_impl_InnerOf h_0.Way h_0.Way))).X), .f .f32 ((v_impl_ScaleVector h_0.Way (fop .quo .f32 (v_impl_InnerOf v_1 h_0.Way) (v_impl_InnerOf h_0.Way h_0.Way))).Y), .f .f32 ((v_impl_ScaleVector h_0.Way (fop .quo .f32 (v_impl_InnerOf v_1 h_0.Way) (v_impl_InnerOf h_0.Way h_0.Way))).Z)]) []])
    Go.Proofs.Try.func87 rfl (by kernel_rfl) (by kernel_rfl)
    ⟨(t_impl_InnerOf v_1 h_0.Way), (t_impl_InnerOf h_0.Way h_0.Way), (t_impl_ScaleVector h_0.Way (fop .quo .f32 (v_impl_InnerOf v_1 h_0.Way) (v_impl_InnerOf h_0.Way h_0.Way))), trivial⟩) rfl rfl

/-- impl.AddVectors -/
def v_impl_AddVectors (a_0 : GVector) (b_1 : GVector) : GVector := (⟨(fop .add .f32 a_0.X b_1.X), (fop .add .f32 a_0.Y b_1.Y), (fop .add .f32 a_0.Z b_1.Z)⟩ : GVector)

theorem t_impl_AddVectors (a_0 : GVector) (b_1 : GVector)   : Fn Go.Proofs.Try.prog 84 [.agg [.f .f32 a_0.X, .f .f32 a_0.Y, .f .f32 a_0.Z], .agg [.f .f32 b_1.X, .f .f32 b_1.Y, .f .f32 b_1.Z]] (.agg [.f .f32 ((v_impl_AddVectors a_0 b_1).X), .f .f32 ((v_impl_AddVectors a_0 b_1).Y), .f .f32 ((v_impl_AddVectors a_0 b_1).Z)]) [] := by
  exact Fn.cast (fn_of_ev E0Ok hMixed (c := bodyOf Go.Proofs.Try.f84) (r := .agg [.f .f32 (fop .add .f32 a_0.X b_1.X), .f .f32 (fop .add .f32 a_0.Y b_1.Y), .f .f32 (fop .add .f32 a_0.Z b_1.Z)]) (new := [])
    (ans := [.keep []])
    (C := [])
    Go.Proofs.Try.func84 rfl (by kernel_rfl) (by kernel_rfl)
    trivial) rfl rfl

/-- impl.holdPlace -/
def v_impl_holdPlace (h_0 : GHold) (place_1 : GVector) : GVector := (cond (h_0.Kind == 0)
  h_0.At
  (cond (h_0.Kind == 1)
    (v_impl_AddVectors h_0.At (v_impl_alongWay h_0 (v_impl_LessVectors place_1 h_0.At)))
    (v_impl_LessVectors place_1 (v_impl_alongWay h_0 (v_impl_LessVectors place_1 h_0.At)))))

theorem t_impl_holdPlace (h_0 : GHold) (place_1 : GVector)   : Fn Go.Proofs.Try.prog 66 [.agg [.i .i64 h_0.Place, .i .i64 h_0.Kind, .f .f32 h_0.At.X, .f .f32 h_0.At.Y, .f .f32 h_0.At.Z, .f .f32 h_0.Way.X, .f .f32 h_0.Way.Y, .f .f32 h_0.Way.Z], .agg [.f .f32 place_1.X, .f .f32 place_1.Y, .f .f32 place_1.Z]] (.agg [.f .f32 ((v_impl_holdPlace h_0 place_1).X), .f .f32 ((v_impl_holdPlace h_0 place_1).Y), .f .f32 ((v_impl_holdPlace h_0 place_1).Z)]) [] := by
  cases h0 : (h_0.Kind == 0) with
  | true =>
    exact Fn.cast (fn_of_ev E0Ok hMixed (c := bodyOf Go.Proofs.Try.f66) (r := .agg [.f .f32 h_0.At.X, .f .f32 h_0.At.Y, .f .f32 h_0.At.Z]) (new := [])
      (ans := [.bo true, .keep []])
      (C := [(h_0.Kind == 0) = true])
      Go.Proofs.Try.func66 rfl (by kernel_rfl) (by kernel_rfl)
      ⟨h0, trivial⟩) (by simp only [v_impl_holdPlace, h0, cond_true]) rfl
  | false =>
    cases h1 : (h_0.Kind == 1) with
    | true =>
      exact Fn.cast (fn_of_ev E0Ok hMixed (c := bodyOf Go.Proofs.Try.f66) (r := .agg [.f .f32 ((v_impl_AddVectors h_0.At (v_impl_alongWay h_0 (v_impl_LessVectors place_1 h_0.At))).X), .f .f32 ((v_impl_AddVectors h_0.At (v_impl_alongWay h_0 (v_impl_LessVectors place_1 h_0.At))).Y), .f .f32 ((v_impl_AddVectors h_0.At (v_impl_alongWay h_0 (v_impl_LessVectors place_1 h_0.At))).Z)]) (new := [])
        (ans := [.bo false, .keep [7, 7], .call (.agg [.f .f32 ((v_impl_LessVectors place_1 h_0.At).X), .f .f32 ((v_impl_LessVectors place_1 h_0.At).Y), .f .f32 ((v_impl_LessVectors place_1 h_0.At).Z)]) [], .call (.agg [.f .f32 ((v_impl_alongWay h_0 (v_impl_LessVectors place_1 h_0.At)).X), .f .f32 ((v_impl_alongWay h_0 (v_impl_LessVectors place_1 h_0.At)).Y), .f .f32 ((v_impl_alongWay h_0 (v_impl_LessVectors place_1 h_0.At)).Z)]) [], .bo true, .call (.agg [.f .f32 ((v_impl_AddVectors h_0.At (v_impl_alongWay h_0 (v_impl_LessVectors place_1 h_0.At))).X), .f .f32 ((v_impl_AddVectors h_0.At (v_impl_alongWay h_0 (v_impl_LessVectors place_1 h_0.At))).Y), .f .f32 ((v_impl_AddVectors h_0.At (v_impl_alongWay h_0 (v_impl_LessVectors place_1 h_0.At))).Z)]) [], .keep []])
        (C := [(h_0.Kind == 0) = false,
          Fn Go.Proofs.Try.prog 88 [.agg [.f .f32 place_1.X, .f .f32 place_1.Y, .f .f32 place_1.Z], .agg [.f .f32 h_0.At.X, .f .f32 h_0.At.Y, .f .f32 h_0.At.Z]] (.agg [.f .f32 ((v_impl_LessVectors place_1 h_0.At).X), .f .f32 ((v_impl_LessVectors place_1 h_0.At).Y), .f .f32 ((v_impl_LessVectors place_1 h_0.At).Z)]) [],
          Fn Go.Proofs.Try.prog 87 [.agg [.i .i64 h_0.Place, .i .i64 h_0.Kind, .f .f32 h_0.At.X, .f .f32 h_0.At.Y, .f .f32 h_0.At.Z, .f .f32 h_0.Way.X, .f .f32 h_0.Way.Y, .f .f32 h_0.Way.Z], .agg [.f .f32 ((v_impl_LessVectors place_1 h_0.At).X), .f .f32 ((v_impl_LessVectors place_1 h_0.At).Y), .f .f32 ((v_impl_LessVectors place_1 h_0.At).Z)]] (.agg [.f .f32 ((v_impl_alongWay h_0 (v_impl_LessVectors place_1 h_0.At)).X), .f .f32 ((v_impl_alongWay h_0 (v_impl_LessVectors place_1 h_0.At)).Y), .f .f32 ((v_impl_alongWay h_0 (v_impl_LessVectors place_1 h_0.At)).Z)]) [],
          (h_0.Kind == 1) = true,
          Fn Go.Proofs.Try.prog 84 [.agg [.f .f32 h_0.At.X, .f .f32 h_0.At.Y, .f .f32 h_0.At.Z], .agg [.f .f32 ((v_impl_alongWay h_0 (v_impl_LessVectors place_1 h_0.At)).X), .f .f32 ((v_impl_alongWay h_0 (v_impl_LessVectors place_1 h_0.At)).Y), .f .f32 ((v_impl_alongWay h_0 (v_impl_LessVectors place_1 h_0.At)).Z)]] (.agg [.f .f32 ((v_impl_AddVectors h_0.At (v_impl_alongWay h_0 (v_impl_LessVectors place_1 h_0.At))).X), .f .f32 ((v_impl_AddVectors h_0.At (v_impl_alongWay h_0 (v_impl_LessVectors place_1 h_0.At))).Y), .f .f32 ((v_impl_AddVectors h_0.At (v_impl_alongWay h_0 (v_impl_LessVectors place_1 h_0.At))).Z)]) []])
        Go.Proofs.Try.func66 rfl (by kernel_rfl) (by kernel_rfl)
        ⟨h0, (t_impl_LessVectors place_1 h_0.At), (t_impl_alongWay h_0 (v_impl_LessVectors place_1 h_0.At)), h1, (t_impl_AddVectors h_0.At (v_impl_alongWay h_0 (v_impl_LessVectors place_1 h_0.At))), trivial⟩) (by simp only [v_impl_holdPlace, h0, h1, cond_true, cond_false]) rfl
    | false =>
      exact Fn.cast (fn_of_ev E0Ok hMixed (c := bodyOf Go.Proofs.Try.f66) (r := .agg [.f .f32 ((v_impl_LessVectors place_1 (v_impl_alongWay h_0 (v_impl_LessVectors place_1 h_0.At))).X), .f .f32 ((v_impl_LessVectors place_1 (v_impl_alongWay h_0 (v_impl_LessVectors place_1 h_0.At))).Y), .f .f32 ((v_impl_LessVectors place_1 (v_impl_alongWay h_0 (v_impl_LessVectors place_1 h_0.At))).Z)]) (new := [])
        (ans := [.bo false, .keep [7, 7], .call (.agg [.f .f32 ((v_impl_LessVectors place_1 h_0.At).X), .f .f32 ((v_impl_LessVectors place_1 h_0.At).Y), .f .f32 ((v_impl_LessVectors place_1 h_0.At).Z)]) [], .call (.agg [.f .f32 ((v_impl_alongWay h_0 (v_impl_LessVectors place_1 h_0.At)).X), .f .f32 ((v_impl_alongWay h_0 (v_impl_LessVectors place_1 h_0.At)).Y), .f .f32 ((v_impl_alongWay h_0 (v_impl_LessVectors place_1 h_0.At)).Z)]) [], .bo false, .call (.agg [.f .f32 ((v_impl_LessVectors place_1 (v_impl_alongWay h_0 (v_impl_LessVectors place_1 h_0.At))).X), .f .f32 ((v_impl_LessVectors place_1 (v_impl_alongWay h_0 (v_impl_LessVectors place_1 h_0.At))).Y), .f .f32 ((v_impl_LessVectors place_1 (v_impl_alongWay h_0 (v_impl_LessVectors place_1 h_0.At))).Z)]) [], .keep []])
        (C := [(h_0.Kind == 0) = false,
          Fn Go.Proofs.Try.prog 88 [.agg [.f .f32 place_1.X, .f .f32 place_1.Y, .f .f32 place_1.Z], .agg [.f .f32 h_0.At.X, .f .f32 h_0.At.Y, .f .f32 h_0.At.Z]] (.agg [.f .f32 ((v_impl_LessVectors place_1 h_0.At).X), .f .f32 ((v_impl_LessVectors place_1 h_0.At).Y), .f .f32 ((v_impl_LessVectors place_1 h_0.At).Z)]) [],
          Fn Go.Proofs.Try.prog 87 [.agg [.i .i64 h_0.Place, .i .i64 h_0.Kind, .f .f32 h_0.At.X, .f .f32 h_0.At.Y, .f .f32 h_0.At.Z, .f .f32 h_0.Way.X, .f .f32 h_0.Way.Y, .f .f32 h_0.Way.Z], .agg [.f .f32 ((v_impl_LessVectors place_1 h_0.At).X), .f .f32 ((v_impl_LessVectors place_1 h_0.At).Y), .f .f32 ((v_impl_LessVectors place_1 h_0.At).Z)]] (.agg [.f .f32 ((v_impl_alongWay h_0 (v_impl_LessVectors place_1 h_0.At)).X), .f .f32 ((v_impl_alongWay h_0 (v_impl_LessVectors place_1 h_0.At)).Y), .f .f32 ((v_impl_alongWay h_0 (v_impl_LessVectors place_1 h_0.At)).Z)]) [],
          (h_0.Kind == 1) = false,
          Fn Go.Proofs.Try.prog 88 [.agg [.f .f32 place_1.X, .f .f32 place_1.Y, .f .f32 place_1.Z], .agg [.f .f32 ((v_impl_alongWay h_0 (v_impl_LessVectors place_1 h_0.At)).X), .f .f32 ((v_impl_alongWay h_0 (v_impl_LessVectors place_1 h_0.At)).Y), .f .f32 ((v_impl_alongWay h_0 (v_impl_LessVectors place_1 h_0.At)).Z)]] (.agg [.f .f32 ((v_impl_LessVectors place_1 (v_impl_alongWay h_0 (v_impl_LessVectors place_1 h_0.At))).X), .f .f32 ((v_impl_LessVectors place_1 (v_impl_alongWay h_0 (v_impl_LessVectors place_1 h_0.At))).Y), .f .f32 ((v_impl_LessVectors place_1 (v_impl_alongWay h_0 (v_impl_LessVectors place_1 h_0.At))).Z)]) []])
        Go.Proofs.Try.func66 rfl (by kernel_rfl) (by kernel_rfl)
        ⟨h0, (t_impl_LessVectors place_1 h_0.At), (t_impl_alongWay h_0 (v_impl_LessVectors place_1 h_0.At)), h1, (t_impl_LessVectors place_1 (v_impl_alongWay h_0 (v_impl_LessVectors place_1 h_0.At))), trivial⟩) (by simp only [v_impl_holdPlace, h0, h1, cond_false]) rfl

/-- impl.HoldPlace -/
def v_impl_HoldPlace (h_0 : GHold) (place_1 : GVector) : GVector × Bool := (cond (v_impl_IsHold h_0)
  ((v_impl_holdPlace h_0 place_1), true)
  ((⟨0, 0, 0⟩ : GVector), false))

theorem t_impl_HoldPlace (h_0 : GHold) (place_1 : GVector)   : Fn Go.Proofs.Try.prog 37 [.agg [.i .i64 h_0.Place, .i .i64 h_0.Kind, .f .f32 h_0.At.X, .f .f32 h_0.At.Y, .f .f32 h_0.At.Z, .f .f32 h_0.Way.X, .f .f32 h_0.Way.Y, .f .f32 h_0.Way.Z], .agg [.f .f32 place_1.X, .f .f32 place_1.Y, .f .f32 place_1.Z]] (.tup [.agg [.f .f32 ((v_impl_HoldPlace h_0 place_1).1.X), .f .f32 ((v_impl_HoldPlace h_0 place_1).1.Y), .f .f32 ((v_impl_HoldPlace h_0 place_1).1.Z)], .b ((v_impl_HoldPlace h_0 place_1).2)]) [] := by
  cases h0 : (v_impl_IsHold h_0) with
  | true =>
    exact Fn.cast (fn_of_ev E0Ok hMixed (c := bodyOf Go.Proofs.Try.f37) (r := .tup [.agg [.f .f32 ((v_impl_holdPlace h_0 place_1).X), .f .f32 ((v_impl_holdPlace h_0 place_1).Y), .f .f32 ((v_impl_holdPlace h_0 place_1).Z)], .b true]) (new := [])
      (ans := [.call (.b (v_impl_IsHold h_0)) [], .bo false, .call (.agg [.f .f32 ((v_impl_holdPlace h_0 place_1).X), .f .f32 ((v_impl_holdPlace h_0 place_1).Y), .f .f32 ((v_impl_holdPlace h_0 place_1).Z)]) [], .keep []])
      (C := [Fn Go.Proofs.Try.prog 20 [.agg [.i .i64 h_0.Place, .i .i64 h_0.Kind, .f .f32 h_0.At.X, .f .f32 h_0.At.Y, .f .f32 h_0.At.Z, .f .f32 h_0.Way.X, .f .f32 h_0.Way.Y, .f .f32 h_0.Way.Z]] (.b (v_impl_IsHold h_0)) [],
        (!(v_impl_IsHold h_0)) = false,
        Fn Go.Proofs.Try.prog 66 [.agg [.i .i64 h_0.Place, .i .i64 h_0.Kind, .f .f32 h_0.At.X, .f .f32 h_0.At.Y, .f .f32 h_0.At.Z, .f .f32 h_0.Way.X, .f .f32 h_0.Way.Y, .f .f32 h_0.Way.Z], .agg [.f .f32 place_1.X, .f .f32 place_1.Y, .f .f32 place_1.Z]] (.agg [.f .f32 ((v_impl_holdPlace h_0 place_1).X), .f .f32 ((v_impl_holdPlace h_0 place_1).Y), .f .f32 ((v_impl_holdPlace h_0 place_1).Z)]) []])
      Go.Proofs.Try.func37 rfl (by kernel_rfl) (by kernel_rfl)
      ⟨(t_impl_IsHold h_0), (congrArg not h0), (t_impl_holdPlace h_0 place_1), trivial⟩) (by simp only [v_impl_HoldPlace, h0, cond_true]) rfl
  | false =>
    exact Fn.cast (fn_of_ev E0Ok hMixed (c := bodyOf Go.Proofs.Try.f37) (r := .tup [.agg [.f .f32 0, .f .f32 0, .f .f32 0], .b false]) (new := [])
      (ans := [.call (.b (v_impl_IsHold h_0)) [], .bo true, .keep []])
      (C := [Fn Go.Proofs.Try.prog 20 [.agg [.i .i64 h_0.Place, .i .i64 h_0.Kind, .f .f32 h_0.At.X, .f .f32 h_0.At.Y, .f .f32 h_0.At.Z, .f .f32 h_0.Way.X, .f .f32 h_0.Way.Y, .f .f32 h_0.Way.Z]] (.b (v_impl_IsHold h_0)) [],
        (!(v_impl_IsHold h_0)) = true])
      Go.Proofs.Try.func37 rfl (by kernel_rfl) (by kernel_rfl)
      ⟨(t_impl_IsHold h_0), (congrArg not h0), trivial⟩) (by simp only [v_impl_HoldPlace, h0, cond_false]) rfl

/-- laws.sameFloat -/
def v_laws_sameFloat (a_0 : Nat) (b_1 : Nat) : Bool := (cond (fcmp .neq .f64 a_0 a_0)
  (fcmp .neq .f64 b_1 b_1)
  (cond (fcmp .neq .f64 b_1 b_1)
    false
    (cond (fcmp .eql .f64 a_0 0)
      (cond (fcmp .eql .f64 b_1 0)
        ((fcmp .gtr .f64 (fop .quo .f64 4607182418800017408 a_0) 0) == (fcmp .gtr .f64 (fop .quo .f64 4607182418800017408 b_1) 0))
        (fcmp .eql .f64 a_0 b_1))
      (fcmp .eql .f64 a_0 b_1))))

theorem t_laws_sameFloat (a_0 : Nat) (b_1 : Nat)   : Fn Go.Proofs.Try.prog 17 [.f .f64 a_0, .f .f64 b_1] (.b (v_laws_sameFloat a_0 b_1)) [] := by
  cases h0 : (fcmp .neq .f64 a_0 a_0) with
  | true =>
    exact Fn.cast (fn_of_ev E0Ok hMixed (c := bodyOf Go.Proofs.Try.f17) (r := .b (fcmp .neq .f64 b_1 b_1)) (new := [])
      (ans := [.bo true, .bo true, .bo true, .bo true, .bo true, .bo true, .bo true, .bo true, .bo true, .keep []])
      (C := [(fcmp .neq .f64 a_0 a_0) = true,
        (fcmp .neq .f64 a_0 a_0) = true,
        (fcmp .neq .f64 a_0 a_0) = true,
        (fcmp .neq .f64 a_0 a_0) = true,
        true = true,
        (fcmp .neq .f64 a_0 a_0) = true,
        (fcmp .neq .f64 a_0 a_0) = true,
        (fcmp .neq .f64 a_0 a_0) = true,
        (fcmp .neq .f64 a_0 a_0) = true])
      Go.Proofs.Try.func17 rfl (by kernel_rfl) (by kernel_rfl)
      ⟨h0, h0, h0, h0, rfl, h0, h0, h0, h0, trivial⟩) (by simp only [v_laws_sameFloat, h0, cond_true]) rfl
  | false =>
    cases h1 : (fcmp .neq .f64 b_1 b_1) with
    | true =>
      exact Fn.cast (fn_of_ev E0Ok hMixed (c := bodyOf Go.Proofs.Try.f17) (r := .b false) (new := [])
        (ans := [.bo false, .bo false, .bo false, .bo false, .bo true, .bo false, .bo false, .bo false, .bo false, .keep []])
        (C := [(fcmp .neq .f64 a_0 a_0) = false,
          (fcmp .neq .f64 a_0 a_0) = false,
          (fcmp .neq .f64 a_0 a_0) = false,
          (fcmp .neq .f64 a_0 a_0) = false,
          (fcmp .neq .f64 b_1 b_1) = true,
          (fcmp .neq .f64 a_0 a_0) = false,
          (fcmp .neq .f64 a_0 a_0) = false,
          (fcmp .neq .f64 a_0 a_0) = false,
          (fcmp .neq .f64 a_0 a_0) = false])
        Go.Proofs.Try.func17 rfl (by kernel_rfl) (by kernel_rfl)
        ⟨h0, h0, h0, h0, h1, h0, h0, h0, h0, trivial⟩) (by simp only [v_laws_sameFloat, h0, h1, cond_true, cond_false]) rfl
    | false =>
      cases h2 : (fcmp .eql .f64 a_0 0) with
      | true =>
        cases h3 : (fcmp .eql .f64 b_1 0) with
        | true =>
          exact Fn.cast (fn_of_ev E0Ok hMixed (c := bodyOf Go.Proofs.Try.f17) (r := .b ((fcmp .gtr .f64 (fop .quo .f64 4607182418800017408 a_0) 0) == (fcmp .gtr .f64 (fop .quo .f64 4607182418800017408 b_1) 0))) (new := [])
            (ans := [.bo false, .bo false, .bo false, .bo false, .bo false, .bo true, .bo true, .bo true, .bo true, .keep []])
            (C := [(fcmp .neq .f64 a_0 a_0) = false,
              (fcmp .neq .f64 a_0 a_0) = false,
              (fcmp .neq .f64 a_0 a_0) = false,
              (fcmp .neq .f64 a_0 a_0) = false,
              (fcmp .neq .f64 b_1 b_1) = false,
              (fcmp .eql .f64 a_0 0) = true,
              (fcmp .eql .f64 a_0 0) = true,
              (fcmp .eql .f64 a_0 0) = true,
              (fcmp .eql .f64 b_1 0) = true])
            Go.Proofs.Try.func17 rfl (by kernel_rfl) (by kernel_rfl)
            ⟨h0, h0, h0, h0, h1, h2, h2, h2, h3, trivial⟩) (by simp only [v_laws_sameFloat, h0, h1, h2, h3, cond_true, cond_false]) rfl
        | false =>
          exact Fn.cast (fn_of_ev E0Ok hMixed (c := bodyOf Go.Proofs.Try.f17) (r := .b (fcmp .eql .f64 a_0 b_1)) (new := [])
            (ans := [.bo false, .bo false, .bo false, .bo false, .bo false, .bo true, .bo true, .bo true, .bo false, .keep []])
            (C := [(fcmp .neq .f64 a_0 a_0) = false,
              (fcmp .neq .f64 a_0 a_0) = false,
              (fcmp .neq .f64 a_0 a_0) = false,
              (fcmp .neq .f64 a_0 a_0) = false,
              (fcmp .neq .f64 b_1 b_1) = false,
              (fcmp .eql .f64 a_0 0) = true,
              (fcmp .eql .f64 a_0 0) = true,
              (fcmp .eql .f64 a_0 0) = true,
              (fcmp .eql .f64 b_1 0) = false])
            Go.Proofs.Try.func17 rfl (by kernel_rfl) (by kernel_rfl)
            ⟨h0, h0, h0, h0, h1, h2, h2, h2, h3, trivial⟩) (by simp only [v_laws_sameFloat, h0, h1, h2, h3, cond_true, cond_false]) rfl
      | false =>
        exact Fn.cast (fn_of_ev E0Ok hMixed (c := bodyOf Go.Proofs.Try.f17) (r := .b (fcmp .eql .f64 a_0 b_1)) (new := [])
          (ans := [.bo false, .bo false, .bo false, .bo false, .bo false, .bo false, .bo false, .bo false, .bo false, .keep []])
          (C := [(fcmp .neq .f64 a_0 a_0) = false,
            (fcmp .neq .f64 a_0 a_0) = false,
            (fcmp .neq .f64 a_0 a_0) = false,
            (fcmp .neq .f64 a_0 a_0) = false,
            (fcmp .neq .f64 b_1 b_1) = false,
            (fcmp .eql .f64 a_0 0) = false,
            (fcmp .eql .f64 a_0 0) = false,
            (fcmp .eql .f64 a_0 0) = false,
            false = false])
          Go.Proofs.Try.func17 rfl (by kernel_rfl) (by kernel_rfl)
          ⟨h0, h0, h0, h0, h1, h2, h2, h2, rfl, trivial⟩) (by simp only [v_laws_sameFloat, h0, h1, h2, cond_false]) rfl

theorem same_self (x : Nat) : v_laws_sameFloat x x = true := by
  unfold v_laws_sameFloat
  cases h : fcmp .neq .f64 x x
  · simp only [cond_false]
    have h2 : fcmp .eql .f64 x x = true := by
      unfold fcmp at h ⊢
      simpa using h
    cases fcmp .eql .f64 x 0 <;> simp [h2]
  · rfl

/-- laws.eqVector -/
def v_laws_eqVector (a_0 : GVector) (b_1 : GVector) : Bool := (cond (v_laws_sameFloat (fcv .f32 .f64 a_0.X) (fcv .f32 .f64 b_1.X))
  (cond (v_laws_sameFloat (fcv .f32 .f64 a_0.Y) (fcv .f32 .f64 b_1.Y))
    (cond (v_laws_sameFloat (fcv .f32 .f64 a_0.Z) (fcv .f32 .f64 b_1.Z))
      true
      false)
    false)
  false)

theorem t_laws_eqVector (a_0 : GVector) (b_1 : GVector)   : Fn Go.Proofs.Try.prog 25 [.agg [.f .f32 a_0.X, .f .f32 a_0.Y, .f .f32 a_0.Z], .agg [.f .f32 b_1.X, .f .f32 b_1.Y, .f .f32 b_1.Z]] (.b (v_laws_eqVector a_0 b_1)) [] := by
  cases h0 : (v_laws_sameFloat (fcv .f32 .f64 a_0.X) (fcv .f32 .f64 b_1.X)) with
  | true =>
    cases h1 : (v_laws_sameFloat (fcv .f32 .f64 a_0.Y) (fcv .f32 .f64 b_1.Y)) with
    | true =>
      cases h2 : (v_laws_sameFloat (fcv .f32 .f64 a_0.Z) (fcv .f32 .f64 b_1.Z)) with
      | true =>
        exact Fn.cast (fn_of_ev E0Ok hMixed (c := bodyOf Go.Proofs.Try.f25) (r := .b true) (new := [])
          (ans := [.call (.b (v_laws_sameFloat (fcv .f32 .f64 a_0.X) (fcv .f32 .f64 b_1.X))) [], .bo false, .call (.b (v_laws_sameFloat (fcv .f32 .f64 a_0.Y) (fcv .f32 .f64 b_1.Y))) [], .bo false, .call (.b (v_laws_sameFloat (fcv .f32 .f64 a_0.Z) (fcv .f32 .f64 b_1.Z))) [], .bo false, .keep []])
          (C := [fcvOk .f32 .f64 a_0.X = true,
            fcvOk .f32 .f64 b_1.X = true,
            Fn Go.Proofs.Try.prog 17 [.f .f64 (fcv .f32 .f64 a_0.X), .f .f64 (fcv .f32 .f64 b_1.X)] (.b (v_laws_sameFloat (fcv .f32 .f64 a_0.X) (fcv .f32 .f64 b_1.X))) [],
            (!(v_laws_sameFloat (fcv .f32 .f64 a_0.X) (fcv .f32 .f64 b_1.X))) = false,
            fcvOk .f32 .f64 a_0.Y = true,
            fcvOk .f32 .f64 b_1.Y = true,
            Fn Go.Proofs.Try.prog 17 [.f .f64 (fcv .f32 .f64 a_0.Y), .f .f64 (fcv .f32 .f64 b_1.Y)] (.b (v_laws_sameFloat (fcv .f32 .f64 a_0.Y) (fcv .f32 .f64 b_1.Y))) [],
            (!(v_laws_sameFloat (fcv .f32 .f64 a_0.Y) (fcv .f32 .f64 b_1.Y))) = false,
            fcvOk .f32 .f64 a_0.Z = true,
            fcvOk .f32 .f64 b_1.Z = true,
            Fn Go.Proofs.Try.prog 17 [.f .f64 (fcv .f32 .f64 a_0.Z), .f .f64 (fcv .f32 .f64 b_1.Z)] (.b (v_laws_sameFloat (fcv .f32 .f64 a_0.Z) (fcv .f32 .f64 b_1.Z))) [],
            (!(v_laws_sameFloat (fcv .f32 .f64 a_0.Z) (fcv .f32 .f64 b_1.Z))) = false])
          Go.Proofs.Try.func25 rfl (by kernel_rfl) (by kernel_rfl)
          ⟨(widenOk _), (widenOk _), (t_laws_sameFloat (fcv .f32 .f64 a_0.X) (fcv .f32 .f64 b_1.X)), (congrArg not h0), (widenOk _), (widenOk _), (t_laws_sameFloat (fcv .f32 .f64 a_0.Y) (fcv .f32 .f64 b_1.Y)), (congrArg not h1), (widenOk _), (widenOk _), (t_laws_sameFloat (fcv .f32 .f64 a_0.Z) (fcv .f32 .f64 b_1.Z)), (congrArg not h2), trivial⟩) (by simp only [v_laws_eqVector, h0, h1, h2, cond_true]) rfl
      | false =>
        exact Fn.cast (fn_of_ev E0Ok hMixed (c := bodyOf Go.Proofs.Try.f25) (r := .b false) (new := [])
          (ans := [.call (.b (v_laws_sameFloat (fcv .f32 .f64 a_0.X) (fcv .f32 .f64 b_1.X))) [], .bo false, .call (.b (v_laws_sameFloat (fcv .f32 .f64 a_0.Y) (fcv .f32 .f64 b_1.Y))) [], .bo false, .call (.b (v_laws_sameFloat (fcv .f32 .f64 a_0.Z) (fcv .f32 .f64 b_1.Z))) [], .bo true, .keep []])
          (C := [fcvOk .f32 .f64 a_0.X = true,
            fcvOk .f32 .f64 b_1.X = true,
            Fn Go.Proofs.Try.prog 17 [.f .f64 (fcv .f32 .f64 a_0.X), .f .f64 (fcv .f32 .f64 b_1.X)] (.b (v_laws_sameFloat (fcv .f32 .f64 a_0.X) (fcv .f32 .f64 b_1.X))) [],
            (!(v_laws_sameFloat (fcv .f32 .f64 a_0.X) (fcv .f32 .f64 b_1.X))) = false,
            fcvOk .f32 .f64 a_0.Y = true,
            fcvOk .f32 .f64 b_1.Y = true,
            Fn Go.Proofs.Try.prog 17 [.f .f64 (fcv .f32 .f64 a_0.Y), .f .f64 (fcv .f32 .f64 b_1.Y)] (.b (v_laws_sameFloat (fcv .f32 .f64 a_0.Y) (fcv .f32 .f64 b_1.Y))) [],
            (!(v_laws_sameFloat (fcv .f32 .f64 a_0.Y) (fcv .f32 .f64 b_1.Y))) = false,
            fcvOk .f32 .f64 a_0.Z = true,
            fcvOk .f32 .f64 b_1.Z = true,
            Fn Go.Proofs.Try.prog 17 [.f .f64 (fcv .f32 .f64 a_0.Z), .f .f64 (fcv .f32 .f64 b_1.Z)] (.b (v_laws_sameFloat (fcv .f32 .f64 a_0.Z) (fcv .f32 .f64 b_1.Z))) [],
            (!(v_laws_sameFloat (fcv .f32 .f64 a_0.Z) (fcv .f32 .f64 b_1.Z))) = true])
          Go.Proofs.Try.func25 rfl (by kernel_rfl) (by kernel_rfl)
          ⟨(widenOk _), (widenOk _), (t_laws_sameFloat (fcv .f32 .f64 a_0.X) (fcv .f32 .f64 b_1.X)), (congrArg not h0), (widenOk _), (widenOk _), (t_laws_sameFloat (fcv .f32 .f64 a_0.Y) (fcv .f32 .f64 b_1.Y)), (congrArg not h1), (widenOk _), (widenOk _), (t_laws_sameFloat (fcv .f32 .f64 a_0.Z) (fcv .f32 .f64 b_1.Z)), (congrArg not h2), trivial⟩) (by simp only [v_laws_eqVector, h0, h1, h2, cond_true, cond_false]) rfl
    | false =>
      exact Fn.cast (fn_of_ev E0Ok hMixed (c := bodyOf Go.Proofs.Try.f25) (r := .b false) (new := [])
        (ans := [.call (.b (v_laws_sameFloat (fcv .f32 .f64 a_0.X) (fcv .f32 .f64 b_1.X))) [], .bo false, .call (.b (v_laws_sameFloat (fcv .f32 .f64 a_0.Y) (fcv .f32 .f64 b_1.Y))) [], .bo true, .keep []])
        (C := [fcvOk .f32 .f64 a_0.X = true,
          fcvOk .f32 .f64 b_1.X = true,
          Fn Go.Proofs.Try.prog 17 [.f .f64 (fcv .f32 .f64 a_0.X), .f .f64 (fcv .f32 .f64 b_1.X)] (.b (v_laws_sameFloat (fcv .f32 .f64 a_0.X) (fcv .f32 .f64 b_1.X))) [],
          (!(v_laws_sameFloat (fcv .f32 .f64 a_0.X) (fcv .f32 .f64 b_1.X))) = false,
          fcvOk .f32 .f64 a_0.Y = true,
          fcvOk .f32 .f64 b_1.Y = true,
          Fn Go.Proofs.Try.prog 17 [.f .f64 (fcv .f32 .f64 a_0.Y), .f .f64 (fcv .f32 .f64 b_1.Y)] (.b (v_laws_sameFloat (fcv .f32 .f64 a_0.Y) (fcv .f32 .f64 b_1.Y))) [],
          (!(v_laws_sameFloat (fcv .f32 .f64 a_0.Y) (fcv .f32 .f64 b_1.Y))) = true])
        Go.Proofs.Try.func25 rfl (by kernel_rfl) (by kernel_rfl)
        ⟨(widenOk _), (widenOk _), (t_laws_sameFloat (fcv .f32 .f64 a_0.X) (fcv .f32 .f64 b_1.X)), (congrArg not h0), (widenOk _), (widenOk _), (t_laws_sameFloat (fcv .f32 .f64 a_0.Y) (fcv .f32 .f64 b_1.Y)), (congrArg not h1), trivial⟩) (by simp only [v_laws_eqVector, h0, h1, cond_true, cond_false]) rfl
  | false =>
    exact Fn.cast (fn_of_ev E0Ok hMixed (c := bodyOf Go.Proofs.Try.f25) (r := .b false) (new := [])
      (ans := [.call (.b (v_laws_sameFloat (fcv .f32 .f64 a_0.X) (fcv .f32 .f64 b_1.X))) [], .bo true, .keep []])
      (C := [fcvOk .f32 .f64 a_0.X = true,
        fcvOk .f32 .f64 b_1.X = true,
        Fn Go.Proofs.Try.prog 17 [.f .f64 (fcv .f32 .f64 a_0.X), .f .f64 (fcv .f32 .f64 b_1.X)] (.b (v_laws_sameFloat (fcv .f32 .f64 a_0.X) (fcv .f32 .f64 b_1.X))) [],
        (!(v_laws_sameFloat (fcv .f32 .f64 a_0.X) (fcv .f32 .f64 b_1.X))) = true])
      Go.Proofs.Try.func25 rfl (by kernel_rfl) (by kernel_rfl)
      ⟨(widenOk _), (widenOk _), (t_laws_sameFloat (fcv .f32 .f64 a_0.X) (fcv .f32 .f64 b_1.X)), (congrArg not h0), trivial⟩) (by simp only [v_laws_eqVector, h0, cond_false]) rfl

theorem eqVector_self (a : GVector) : v_laws_eqVector a a = true := by
  simp [v_laws_eqVector, same_self]

/-- laws.FnExactHoldPlace -/
def v_laws_FnExactHoldPlace (aH_0 : GHold) (aPlace_1 : GVector) : Bool := (cond (v_laws_eqVector ((v_impl_HoldPlace (v_laws_toHold aH_0) (v_laws_toVector aPlace_1)).1) ((v_spec_HoldPlace (v_laws_toHold aH_0) (v_laws_toVector aPlace_1)).1))
  (cond ((v_impl_HoldPlace (v_laws_toHold aH_0) (v_laws_toVector aPlace_1)).2 == (v_spec_HoldPlace (v_laws_toHold aH_0) (v_laws_toVector aPlace_1)).2)
    true
    false)
  false)

theorem t_laws_FnExactHoldPlace (aH_0 : GHold) (aPlace_1 : GVector)   : Fn Go.Proofs.Try.prog 10 [.agg [.i .i64 aH_0.Place, .i .i64 aH_0.Kind, .f .f32 aH_0.At.X, .f .f32 aH_0.At.Y, .f .f32 aH_0.At.Z, .f .f32 aH_0.Way.X, .f .f32 aH_0.Way.Y, .f .f32 aH_0.Way.Z], .agg [.f .f32 aPlace_1.X, .f .f32 aPlace_1.Y, .f .f32 aPlace_1.Z]] (.b (v_laws_FnExactHoldPlace aH_0 aPlace_1)) [] := by
  cases h0 : (v_laws_eqVector ((v_impl_HoldPlace (v_laws_toHold aH_0) (v_laws_toVector aPlace_1)).1) ((v_spec_HoldPlace (v_laws_toHold aH_0) (v_laws_toVector aPlace_1)).1)) with
  | true =>
    cases h1 : ((v_impl_HoldPlace (v_laws_toHold aH_0) (v_laws_toVector aPlace_1)).2 == (v_spec_HoldPlace (v_laws_toHold aH_0) (v_laws_toVector aPlace_1)).2) with
    | true =>
      exact Fn.cast (fn_of_ev E0Ok hMixed (c := bodyOf Go.Proofs.Try.f10) (r := .b true) (new := [])
        (ans := [.keep [9, 10, 7], .call (.agg [.i .i64 ((v_laws_toHold aH_0).Place), .i .i64 ((v_laws_toHold aH_0).Kind), .f .f32 ((v_laws_toHold aH_0).At.X), .f .f32 ((v_laws_toHold aH_0).At.Y), .f .f32 ((v_laws_toHold aH_0).At.Z), .f .f32 ((v_laws_toHold aH_0).Way.X), .f .f32 ((v_laws_toHold aH_0).Way.Y), .f .f32 ((v_laws_toHold aH_0).Way.Z)]) [], .call (.agg [.f .f32 ((v_laws_toVector aPlace_1).X), .f .f32 ((v_laws_toVector aPlace_1).Y), .f .f32 ((v_laws_toVector aPlace_1).Z)]) [], .call (.tup [.agg [.f .f32 ((v_spec_HoldPlace (v_laws_toHold aH_0) (v_laws_toVector aPlace_1)).1.X), .f .f32 ((v_spec_HoldPlace (v_laws_toHold aH_0) (v_laws_toVector aPlace_1)).1.Y), .f .f32 ((v_spec_HoldPlace (v_laws_toHold aH_0) (v_laws_toVector aPlace_1)).1.Z)], .b ((v_spec_HoldPlace (v_laws_toHold aH_0) (v_laws_toVector aPlace_1)).2)]) [], .keep [9, 10, 7], .call (.agg [.i .i64 ((v_laws_toHold aH_0).Place), .i .i64 ((v_laws_toHold aH_0).Kind), .f .f32 ((v_laws_toHold aH_0).At.X), .f .f32 ((v_laws_toHold aH_0).At.Y), .f .f32 ((v_laws_toHold aH_0).At.Z), .f .f32 ((v_laws_toHold aH_0).Way.X), .f .f32 ((v_laws_toHold aH_0).Way.Y), .f .f32 ((v_laws_toHold aH_0).Way.Z)]) [], .call (.agg [.f .f32 ((v_laws_toVector aPlace_1).X), .f .f32 ((v_laws_toVector aPlace_1).Y), .f .f32 ((v_laws_toVector aPlace_1).Z)]) [], .call (.tup [.agg [.f .f32 ((v_impl_HoldPlace (v_laws_toHold aH_0) (v_laws_toVector aPlace_1)).1.X), .f .f32 ((v_impl_HoldPlace (v_laws_toHold aH_0) (v_laws_toVector aPlace_1)).1.Y), .f .f32 ((v_impl_HoldPlace (v_laws_toHold aH_0) (v_laws_toVector aPlace_1)).1.Z)], .b ((v_impl_HoldPlace (v_laws_toHold aH_0) (v_laws_toVector aPlace_1)).2)]) [], .call (.b (v_laws_eqVector ((v_impl_HoldPlace (v_laws_toHold aH_0) (v_laws_toVector aPlace_1)).1) ((v_spec_HoldPlace (v_laws_toHold aH_0) (v_laws_toVector aPlace_1)).1))) [], .bo false, .bo false, .bo false, .bo false, .bo false, .keep []])
        (C := [Fn Go.Proofs.Try.prog 19 [.agg [.i .i64 aH_0.Place, .i .i64 aH_0.Kind, .f .f32 aH_0.At.X, .f .f32 aH_0.At.Y, .f .f32 aH_0.At.Z, .f .f32 aH_0.Way.X, .f .f32 aH_0.Way.Y, .f .f32 aH_0.Way.Z]] (.agg [.i .i64 ((v_laws_toHold aH_0).Place), .i .i64 ((v_laws_toHold aH_0).Kind), .f .f32 ((v_laws_toHold aH_0).At.X), .f .f32 ((v_laws_toHold aH_0).At.Y), .f .f32 ((v_laws_toHold aH_0).At.Z), .f .f32 ((v_laws_toHold aH_0).Way.X), .f .f32 ((v_laws_toHold aH_0).Way.Y), .f .f32 ((v_laws_toHold aH_0).Way.Z)]) [],
          Fn Go.Proofs.Try.prog 32 [.agg [.f .f32 aPlace_1.X, .f .f32 aPlace_1.Y, .f .f32 aPlace_1.Z]] (.agg [.f .f32 ((v_laws_toVector aPlace_1).X), .f .f32 ((v_laws_toVector aPlace_1).Y), .f .f32 ((v_laws_toVector aPlace_1).Z)]) [],
          Fn Go.Proofs.Try.prog 36 [.agg [.i .i64 ((v_laws_toHold aH_0).Place), .i .i64 ((v_laws_toHold aH_0).Kind), .f .f32 ((v_laws_toHold aH_0).At.X), .f .f32 ((v_laws_toHold aH_0).At.Y), .f .f32 ((v_laws_toHold aH_0).At.Z), .f .f32 ((v_laws_toHold aH_0).Way.X), .f .f32 ((v_laws_toHold aH_0).Way.Y), .f .f32 ((v_laws_toHold aH_0).Way.Z)], .agg [.f .f32 ((v_laws_toVector aPlace_1).X), .f .f32 ((v_laws_toVector aPlace_1).Y), .f .f32 ((v_laws_toVector aPlace_1).Z)]] (.tup [.agg [.f .f32 ((v_spec_HoldPlace (v_laws_toHold aH_0) (v_laws_toVector aPlace_1)).1.X), .f .f32 ((v_spec_HoldPlace (v_laws_toHold aH_0) (v_laws_toVector aPlace_1)).1.Y), .f .f32 ((v_spec_HoldPlace (v_laws_toHold aH_0) (v_laws_toVector aPlace_1)).1.Z)], .b ((v_spec_HoldPlace (v_laws_toHold aH_0) (v_laws_toVector aPlace_1)).2)]) [],
          Fn Go.Proofs.Try.prog 19 [.agg [.i .i64 aH_0.Place, .i .i64 aH_0.Kind, .f .f32 aH_0.At.X, .f .f32 aH_0.At.Y, .f .f32 aH_0.At.Z, .f .f32 aH_0.Way.X, .f .f32 aH_0.Way.Y, .f .f32 aH_0.Way.Z]] (.agg [.i .i64 ((v_laws_toHold aH_0).Place), .i .i64 ((v_laws_toHold aH_0).Kind), .f .f32 ((v_laws_toHold aH_0).At.X), .f .f32 ((v_laws_toHold aH_0).At.Y), .f .f32 ((v_laws_toHold aH_0).At.Z), .f .f32 ((v_laws_toHold aH_0).Way.X), .f .f32 ((v_laws_toHold aH_0).Way.Y), .f .f32 ((v_laws_toHold aH_0).Way.Z)]) [],
          Fn Go.Proofs.Try.prog 32 [.agg [.f .f32 aPlace_1.X, .f .f32 aPlace_1.Y, .f .f32 aPlace_1.Z]] (.agg [.f .f32 ((v_laws_toVector aPlace_1).X), .f .f32 ((v_laws_toVector aPlace_1).Y), .f .f32 ((v_laws_toVector aPlace_1).Z)]) [],
          Fn Go.Proofs.Try.prog 37 [.agg [.i .i64 ((v_laws_toHold aH_0).Place), .i .i64 ((v_laws_toHold aH_0).Kind), .f .f32 ((v_laws_toHold aH_0).At.X), .f .f32 ((v_laws_toHold aH_0).At.Y), .f .f32 ((v_laws_toHold aH_0).At.Z), .f .f32 ((v_laws_toHold aH_0).Way.X), .f .f32 ((v_laws_toHold aH_0).Way.Y), .f .f32 ((v_laws_toHold aH_0).Way.Z)], .agg [.f .f32 ((v_laws_toVector aPlace_1).X), .f .f32 ((v_laws_toVector aPlace_1).Y), .f .f32 ((v_laws_toVector aPlace_1).Z)]] (.tup [.agg [.f .f32 ((v_impl_HoldPlace (v_laws_toHold aH_0) (v_laws_toVector aPlace_1)).1.X), .f .f32 ((v_impl_HoldPlace (v_laws_toHold aH_0) (v_laws_toVector aPlace_1)).1.Y), .f .f32 ((v_impl_HoldPlace (v_laws_toHold aH_0) (v_laws_toVector aPlace_1)).1.Z)], .b ((v_impl_HoldPlace (v_laws_toHold aH_0) (v_laws_toVector aPlace_1)).2)]) [],
          Fn Go.Proofs.Try.prog 25 [.agg [.f .f32 ((v_impl_HoldPlace (v_laws_toHold aH_0) (v_laws_toVector aPlace_1)).1.X), .f .f32 ((v_impl_HoldPlace (v_laws_toHold aH_0) (v_laws_toVector aPlace_1)).1.Y), .f .f32 ((v_impl_HoldPlace (v_laws_toHold aH_0) (v_laws_toVector aPlace_1)).1.Z)], .agg [.f .f32 ((v_spec_HoldPlace (v_laws_toHold aH_0) (v_laws_toVector aPlace_1)).1.X), .f .f32 ((v_spec_HoldPlace (v_laws_toHold aH_0) (v_laws_toVector aPlace_1)).1.Y), .f .f32 ((v_spec_HoldPlace (v_laws_toHold aH_0) (v_laws_toVector aPlace_1)).1.Z)]] (.b (v_laws_eqVector ((v_impl_HoldPlace (v_laws_toHold aH_0) (v_laws_toVector aPlace_1)).1) ((v_spec_HoldPlace (v_laws_toHold aH_0) (v_laws_toVector aPlace_1)).1))) [],
          (!(v_laws_eqVector ((v_impl_HoldPlace (v_laws_toHold aH_0) (v_laws_toVector aPlace_1)).1) ((v_spec_HoldPlace (v_laws_toHold aH_0) (v_laws_toVector aPlace_1)).1))) = false,
          (!(v_laws_eqVector ((v_impl_HoldPlace (v_laws_toHold aH_0) (v_laws_toVector aPlace_1)).1) ((v_spec_HoldPlace (v_laws_toHold aH_0) (v_laws_toVector aPlace_1)).1))) = false,
          (!(v_laws_eqVector ((v_impl_HoldPlace (v_laws_toHold aH_0) (v_laws_toVector aPlace_1)).1) ((v_spec_HoldPlace (v_laws_toHold aH_0) (v_laws_toVector aPlace_1)).1))) = false,
          (!(v_laws_eqVector ((v_impl_HoldPlace (v_laws_toHold aH_0) (v_laws_toVector aPlace_1)).1) ((v_spec_HoldPlace (v_laws_toHold aH_0) (v_laws_toVector aPlace_1)).1))) = false,
          (!((v_impl_HoldPlace (v_laws_toHold aH_0) (v_laws_toVector aPlace_1)).2 == (v_spec_HoldPlace (v_laws_toHold aH_0) (v_laws_toVector aPlace_1)).2)) = false])
        Go.Proofs.Try.func10 rfl (by kernel_rfl) (by kernel_rfl)
        ⟨(t_laws_toHold aH_0), (t_laws_toVector aPlace_1), (t_spec_HoldPlace (v_laws_toHold aH_0) (v_laws_toVector aPlace_1)), (t_laws_toHold aH_0), (t_laws_toVector aPlace_1), (t_impl_HoldPlace (v_laws_toHold aH_0) (v_laws_toVector aPlace_1)), (t_laws_eqVector ((v_impl_HoldPlace (v_laws_toHold aH_0) (v_laws_toVector aPlace_1)).1) ((v_spec_HoldPlace (v_laws_toHold aH_0) (v_laws_toVector aPlace_1)).1)), (congrArg not h0), (congrArg not h0), (congrArg not h0), (congrArg not h0), (congrArg not h1), trivial⟩) (by simp only [v_laws_FnExactHoldPlace, h0, h1, cond_true]) rfl
    | false =>
      exact Fn.cast (fn_of_ev E0Ok hMixed (c := bodyOf Go.Proofs.Try.f10) (r := .b false) (new := [])
        (ans := [.keep [9, 10, 7], .call (.agg [.i .i64 ((v_laws_toHold aH_0).Place), .i .i64 ((v_laws_toHold aH_0).Kind), .f .f32 ((v_laws_toHold aH_0).At.X), .f .f32 ((v_laws_toHold aH_0).At.Y), .f .f32 ((v_laws_toHold aH_0).At.Z), .f .f32 ((v_laws_toHold aH_0).Way.X), .f .f32 ((v_laws_toHold aH_0).Way.Y), .f .f32 ((v_laws_toHold aH_0).Way.Z)]) [], .call (.agg [.f .f32 ((v_laws_toVector aPlace_1).X), .f .f32 ((v_laws_toVector aPlace_1).Y), .f .f32 ((v_laws_toVector aPlace_1).Z)]) [], .call (.tup [.agg [.f .f32 ((v_spec_HoldPlace (v_laws_toHold aH_0) (v_laws_toVector aPlace_1)).1.X), .f .f32 ((v_spec_HoldPlace (v_laws_toHold aH_0) (v_laws_toVector aPlace_1)).1.Y), .f .f32 ((v_spec_HoldPlace (v_laws_toHold aH_0) (v_laws_toVector aPlace_1)).1.Z)], .b ((v_spec_HoldPlace (v_laws_toHold aH_0) (v_laws_toVector aPlace_1)).2)]) [], .keep [9, 10, 7], .call (.agg [.i .i64 ((v_laws_toHold aH_0).Place), .i .i64 ((v_laws_toHold aH_0).Kind), .f .f32 ((v_laws_toHold aH_0).At.X), .f .f32 ((v_laws_toHold aH_0).At.Y), .f .f32 ((v_laws_toHold aH_0).At.Z), .f .f32 ((v_laws_toHold aH_0).Way.X), .f .f32 ((v_laws_toHold aH_0).Way.Y), .f .f32 ((v_laws_toHold aH_0).Way.Z)]) [], .call (.agg [.f .f32 ((v_laws_toVector aPlace_1).X), .f .f32 ((v_laws_toVector aPlace_1).Y), .f .f32 ((v_laws_toVector aPlace_1).Z)]) [], .call (.tup [.agg [.f .f32 ((v_impl_HoldPlace (v_laws_toHold aH_0) (v_laws_toVector aPlace_1)).1.X), .f .f32 ((v_impl_HoldPlace (v_laws_toHold aH_0) (v_laws_toVector aPlace_1)).1.Y), .f .f32 ((v_impl_HoldPlace (v_laws_toHold aH_0) (v_laws_toVector aPlace_1)).1.Z)], .b ((v_impl_HoldPlace (v_laws_toHold aH_0) (v_laws_toVector aPlace_1)).2)]) [], .call (.b (v_laws_eqVector ((v_impl_HoldPlace (v_laws_toHold aH_0) (v_laws_toVector aPlace_1)).1) ((v_spec_HoldPlace (v_laws_toHold aH_0) (v_laws_toVector aPlace_1)).1))) [], .bo false, .bo false, .bo false, .bo false, .bo true, .keep []])
        (C := [Fn Go.Proofs.Try.prog 19 [.agg [.i .i64 aH_0.Place, .i .i64 aH_0.Kind, .f .f32 aH_0.At.X, .f .f32 aH_0.At.Y, .f .f32 aH_0.At.Z, .f .f32 aH_0.Way.X, .f .f32 aH_0.Way.Y, .f .f32 aH_0.Way.Z]] (.agg [.i .i64 ((v_laws_toHold aH_0).Place), .i .i64 ((v_laws_toHold aH_0).Kind), .f .f32 ((v_laws_toHold aH_0).At.X), .f .f32 ((v_laws_toHold aH_0).At.Y), .f .f32 ((v_laws_toHold aH_0).At.Z), .f .f32 ((v_laws_toHold aH_0).Way.X), .f .f32 ((v_laws_toHold aH_0).Way.Y), .f .f32 ((v_laws_toHold aH_0).Way.Z)]) [],
          Fn Go.Proofs.Try.prog 32 [.agg [.f .f32 aPlace_1.X, .f .f32 aPlace_1.Y, .f .f32 aPlace_1.Z]] (.agg [.f .f32 ((v_laws_toVector aPlace_1).X), .f .f32 ((v_laws_toVector aPlace_1).Y), .f .f32 ((v_laws_toVector aPlace_1).Z)]) [],
          Fn Go.Proofs.Try.prog 36 [.agg [.i .i64 ((v_laws_toHold aH_0).Place), .i .i64 ((v_laws_toHold aH_0).Kind), .f .f32 ((v_laws_toHold aH_0).At.X), .f .f32 ((v_laws_toHold aH_0).At.Y), .f .f32 ((v_laws_toHold aH_0).At.Z), .f .f32 ((v_laws_toHold aH_0).Way.X), .f .f32 ((v_laws_toHold aH_0).Way.Y), .f .f32 ((v_laws_toHold aH_0).Way.Z)], .agg [.f .f32 ((v_laws_toVector aPlace_1).X), .f .f32 ((v_laws_toVector aPlace_1).Y), .f .f32 ((v_laws_toVector aPlace_1).Z)]] (.tup [.agg [.f .f32 ((v_spec_HoldPlace (v_laws_toHold aH_0) (v_laws_toVector aPlace_1)).1.X), .f .f32 ((v_spec_HoldPlace (v_laws_toHold aH_0) (v_laws_toVector aPlace_1)).1.Y), .f .f32 ((v_spec_HoldPlace (v_laws_toHold aH_0) (v_laws_toVector aPlace_1)).1.Z)], .b ((v_spec_HoldPlace (v_laws_toHold aH_0) (v_laws_toVector aPlace_1)).2)]) [],
          Fn Go.Proofs.Try.prog 19 [.agg [.i .i64 aH_0.Place, .i .i64 aH_0.Kind, .f .f32 aH_0.At.X, .f .f32 aH_0.At.Y, .f .f32 aH_0.At.Z, .f .f32 aH_0.Way.X, .f .f32 aH_0.Way.Y, .f .f32 aH_0.Way.Z]] (.agg [.i .i64 ((v_laws_toHold aH_0).Place), .i .i64 ((v_laws_toHold aH_0).Kind), .f .f32 ((v_laws_toHold aH_0).At.X), .f .f32 ((v_laws_toHold aH_0).At.Y), .f .f32 ((v_laws_toHold aH_0).At.Z), .f .f32 ((v_laws_toHold aH_0).Way.X), .f .f32 ((v_laws_toHold aH_0).Way.Y), .f .f32 ((v_laws_toHold aH_0).Way.Z)]) [],
          Fn Go.Proofs.Try.prog 32 [.agg [.f .f32 aPlace_1.X, .f .f32 aPlace_1.Y, .f .f32 aPlace_1.Z]] (.agg [.f .f32 ((v_laws_toVector aPlace_1).X), .f .f32 ((v_laws_toVector aPlace_1).Y), .f .f32 ((v_laws_toVector aPlace_1).Z)]) [],
          Fn Go.Proofs.Try.prog 37 [.agg [.i .i64 ((v_laws_toHold aH_0).Place), .i .i64 ((v_laws_toHold aH_0).Kind), .f .f32 ((v_laws_toHold aH_0).At.X), .f .f32 ((v_laws_toHold aH_0).At.Y), .f .f32 ((v_laws_toHold aH_0).At.Z), .f .f32 ((v_laws_toHold aH_0).Way.X), .f .f32 ((v_laws_toHold aH_0).Way.Y), .f .f32 ((v_laws_toHold aH_0).Way.Z)], .agg [.f .f32 ((v_laws_toVector aPlace_1).X), .f .f32 ((v_laws_toVector aPlace_1).Y), .f .f32 ((v_laws_toVector aPlace_1).Z)]] (.tup [.agg [.f .f32 ((v_impl_HoldPlace (v_laws_toHold aH_0) (v_laws_toVector aPlace_1)).1.X), .f .f32 ((v_impl_HoldPlace (v_laws_toHold aH_0) (v_laws_toVector aPlace_1)).1.Y), .f .f32 ((v_impl_HoldPlace (v_laws_toHold aH_0) (v_laws_toVector aPlace_1)).1.Z)], .b ((v_impl_HoldPlace (v_laws_toHold aH_0) (v_laws_toVector aPlace_1)).2)]) [],
          Fn Go.Proofs.Try.prog 25 [.agg [.f .f32 ((v_impl_HoldPlace (v_laws_toHold aH_0) (v_laws_toVector aPlace_1)).1.X), .f .f32 ((v_impl_HoldPlace (v_laws_toHold aH_0) (v_laws_toVector aPlace_1)).1.Y), .f .f32 ((v_impl_HoldPlace (v_laws_toHold aH_0) (v_laws_toVector aPlace_1)).1.Z)], .agg [.f .f32 ((v_spec_HoldPlace (v_laws_toHold aH_0) (v_laws_toVector aPlace_1)).1.X), .f .f32 ((v_spec_HoldPlace (v_laws_toHold aH_0) (v_laws_toVector aPlace_1)).1.Y), .f .f32 ((v_spec_HoldPlace (v_laws_toHold aH_0) (v_laws_toVector aPlace_1)).1.Z)]] (.b (v_laws_eqVector ((v_impl_HoldPlace (v_laws_toHold aH_0) (v_laws_toVector aPlace_1)).1) ((v_spec_HoldPlace (v_laws_toHold aH_0) (v_laws_toVector aPlace_1)).1))) [],
          (!(v_laws_eqVector ((v_impl_HoldPlace (v_laws_toHold aH_0) (v_laws_toVector aPlace_1)).1) ((v_spec_HoldPlace (v_laws_toHold aH_0) (v_laws_toVector aPlace_1)).1))) = false,
          (!(v_laws_eqVector ((v_impl_HoldPlace (v_laws_toHold aH_0) (v_laws_toVector aPlace_1)).1) ((v_spec_HoldPlace (v_laws_toHold aH_0) (v_laws_toVector aPlace_1)).1))) = false,
          (!(v_laws_eqVector ((v_impl_HoldPlace (v_laws_toHold aH_0) (v_laws_toVector aPlace_1)).1) ((v_spec_HoldPlace (v_laws_toHold aH_0) (v_laws_toVector aPlace_1)).1))) = false,
          (!(v_laws_eqVector ((v_impl_HoldPlace (v_laws_toHold aH_0) (v_laws_toVector aPlace_1)).1) ((v_spec_HoldPlace (v_laws_toHold aH_0) (v_laws_toVector aPlace_1)).1))) = false,
          (!((v_impl_HoldPlace (v_laws_toHold aH_0) (v_laws_toVector aPlace_1)).2 == (v_spec_HoldPlace (v_laws_toHold aH_0) (v_laws_toVector aPlace_1)).2)) = true])
        Go.Proofs.Try.func10 rfl (by kernel_rfl) (by kernel_rfl)
        ⟨(t_laws_toHold aH_0), (t_laws_toVector aPlace_1), (t_spec_HoldPlace (v_laws_toHold aH_0) (v_laws_toVector aPlace_1)), (t_laws_toHold aH_0), (t_laws_toVector aPlace_1), (t_impl_HoldPlace (v_laws_toHold aH_0) (v_laws_toVector aPlace_1)), (t_laws_eqVector ((v_impl_HoldPlace (v_laws_toHold aH_0) (v_laws_toVector aPlace_1)).1) ((v_spec_HoldPlace (v_laws_toHold aH_0) (v_laws_toVector aPlace_1)).1)), (congrArg not h0), (congrArg not h0), (congrArg not h0), (congrArg not h0), (congrArg not h1), trivial⟩) (by simp only [v_laws_FnExactHoldPlace, h0, h1, cond_true, cond_false]) rfl
  | false =>
    exact Fn.cast (fn_of_ev E0Ok hMixed (c := bodyOf Go.Proofs.Try.f10) (r := .b false) (new := [])
      (ans := [.keep [9, 10, 7], .call (.agg [.i .i64 ((v_laws_toHold aH_0).Place), .i .i64 ((v_laws_toHold aH_0).Kind), .f .f32 ((v_laws_toHold aH_0).At.X), .f .f32 ((v_laws_toHold aH_0).At.Y), .f .f32 ((v_laws_toHold aH_0).At.Z), .f .f32 ((v_laws_toHold aH_0).Way.X), .f .f32 ((v_laws_toHold aH_0).Way.Y), .f .f32 ((v_laws_toHold aH_0).Way.Z)]) [], .call (.agg [.f .f32 ((v_laws_toVector aPlace_1).X), .f .f32 ((v_laws_toVector aPlace_1).Y), .f .f32 ((v_laws_toVector aPlace_1).Z)]) [], .call (.tup [.agg [.f .f32 ((v_spec_HoldPlace (v_laws_toHold aH_0) (v_laws_toVector aPlace_1)).1.X), .f .f32 ((v_spec_HoldPlace (v_laws_toHold aH_0) (v_laws_toVector aPlace_1)).1.Y), .f .f32 ((v_spec_HoldPlace (v_laws_toHold aH_0) (v_laws_toVector aPlace_1)).1.Z)], .b ((v_spec_HoldPlace (v_laws_toHold aH_0) (v_laws_toVector aPlace_1)).2)]) [], .keep [9, 10, 7], .call (.agg [.i .i64 ((v_laws_toHold aH_0).Place), .i .i64 ((v_laws_toHold aH_0).Kind), .f .f32 ((v_laws_toHold aH_0).At.X), .f .f32 ((v_laws_toHold aH_0).At.Y), .f .f32 ((v_laws_toHold aH_0).At.Z), .f .f32 ((v_laws_toHold aH_0).Way.X), .f .f32 ((v_laws_toHold aH_0).Way.Y), .f .f32 ((v_laws_toHold aH_0).Way.Z)]) [], .call (.agg [.f .f32 ((v_laws_toVector aPlace_1).X), .f .f32 ((v_laws_toVector aPlace_1).Y), .f .f32 ((v_laws_toVector aPlace_1).Z)]) [], .call (.tup [.agg [.f .f32 ((v_impl_HoldPlace (v_laws_toHold aH_0) (v_laws_toVector aPlace_1)).1.X), .f .f32 ((v_impl_HoldPlace (v_laws_toHold aH_0) (v_laws_toVector aPlace_1)).1.Y), .f .f32 ((v_impl_HoldPlace (v_laws_toHold aH_0) (v_laws_toVector aPlace_1)).1.Z)], .b ((v_impl_HoldPlace (v_laws_toHold aH_0) (v_laws_toVector aPlace_1)).2)]) [], .call (.b (v_laws_eqVector ((v_impl_HoldPlace (v_laws_toHold aH_0) (v_laws_toVector aPlace_1)).1) ((v_spec_HoldPlace (v_laws_toHold aH_0) (v_laws_toVector aPlace_1)).1))) [], .bo true, .bo true, .bo true, .bo true, .bo true, .keep []])
      (C := [Fn Go.Proofs.Try.prog 19 [.agg [.i .i64 aH_0.Place, .i .i64 aH_0.Kind, .f .f32 aH_0.At.X, .f .f32 aH_0.At.Y, .f .f32 aH_0.At.Z, .f .f32 aH_0.Way.X, .f .f32 aH_0.Way.Y, .f .f32 aH_0.Way.Z]] (.agg [.i .i64 ((v_laws_toHold aH_0).Place), .i .i64 ((v_laws_toHold aH_0).Kind), .f .f32 ((v_laws_toHold aH_0).At.X), .f .f32 ((v_laws_toHold aH_0).At.Y), .f .f32 ((v_laws_toHold aH_0).At.Z), .f .f32 ((v_laws_toHold aH_0).Way.X), .f .f32 ((v_laws_toHold aH_0).Way.Y), .f .f32 ((v_laws_toHold aH_0).Way.Z)]) [],
        Fn Go.Proofs.Try.prog 32 [.agg [.f .f32 aPlace_1.X, .f .f32 aPlace_1.Y, .f .f32 aPlace_1.Z]] (.agg [.f .f32 ((v_laws_toVector aPlace_1).X), .f .f32 ((v_laws_toVector aPlace_1).Y), .f .f32 ((v_laws_toVector aPlace_1).Z)]) [],
        Fn Go.Proofs.Try.prog 36 [.agg [.i .i64 ((v_laws_toHold aH_0).Place), .i .i64 ((v_laws_toHold aH_0).Kind), .f .f32 ((v_laws_toHold aH_0).At.X), .f .f32 ((v_laws_toHold aH_0).At.Y), .f .f32 ((v_laws_toHold aH_0).At.Z), .f .f32 ((v_laws_toHold aH_0).Way.X), .f .f32 ((v_laws_toHold aH_0).Way.Y), .f .f32 ((v_laws_toHold aH_0).Way.Z)], .agg [.f .f32 ((v_laws_toVector aPlace_1).X), .f .f32 ((v_laws_toVector aPlace_1).Y), .f .f32 ((v_laws_toVector aPlace_1).Z)]] (.tup [.agg [.f .f32 ((v_spec_HoldPlace (v_laws_toHold aH_0) (v_laws_toVector aPlace_1)).1.X), .f .f32 ((v_spec_HoldPlace (v_laws_toHold aH_0) (v_laws_toVector aPlace_1)).1.Y), .f .f32 ((v_spec_HoldPlace (v_laws_toHold aH_0) (v_laws_toVector aPlace_1)).1.Z)], .b ((v_spec_HoldPlace (v_laws_toHold aH_0) (v_laws_toVector aPlace_1)).2)]) [],
        Fn Go.Proofs.Try.prog 19 [.agg [.i .i64 aH_0.Place, .i .i64 aH_0.Kind, .f .f32 aH_0.At.X, .f .f32 aH_0.At.Y, .f .f32 aH_0.At.Z, .f .f32 aH_0.Way.X, .f .f32 aH_0.Way.Y, .f .f32 aH_0.Way.Z]] (.agg [.i .i64 ((v_laws_toHold aH_0).Place), .i .i64 ((v_laws_toHold aH_0).Kind), .f .f32 ((v_laws_toHold aH_0).At.X), .f .f32 ((v_laws_toHold aH_0).At.Y), .f .f32 ((v_laws_toHold aH_0).At.Z), .f .f32 ((v_laws_toHold aH_0).Way.X), .f .f32 ((v_laws_toHold aH_0).Way.Y), .f .f32 ((v_laws_toHold aH_0).Way.Z)]) [],
        Fn Go.Proofs.Try.prog 32 [.agg [.f .f32 aPlace_1.X, .f .f32 aPlace_1.Y, .f .f32 aPlace_1.Z]] (.agg [.f .f32 ((v_laws_toVector aPlace_1).X), .f .f32 ((v_laws_toVector aPlace_1).Y), .f .f32 ((v_laws_toVector aPlace_1).Z)]) [],
        Fn Go.Proofs.Try.prog 37 [.agg [.i .i64 ((v_laws_toHold aH_0).Place), .i .i64 ((v_laws_toHold aH_0).Kind), .f .f32 ((v_laws_toHold aH_0).At.X), .f .f32 ((v_laws_toHold aH_0).At.Y), .f .f32 ((v_laws_toHold aH_0).At.Z), .f .f32 ((v_laws_toHold aH_0).Way.X), .f .f32 ((v_laws_toHold aH_0).Way.Y), .f .f32 ((v_laws_toHold aH_0).Way.Z)], .agg [.f .f32 ((v_laws_toVector aPlace_1).X), .f .f32 ((v_laws_toVector aPlace_1).Y), .f .f32 ((v_laws_toVector aPlace_1).Z)]] (.tup [.agg [.f .f32 ((v_impl_HoldPlace (v_laws_toHold aH_0) (v_laws_toVector aPlace_1)).1.X), .f .f32 ((v_impl_HoldPlace (v_laws_toHold aH_0) (v_laws_toVector aPlace_1)).1.Y), .f .f32 ((v_impl_HoldPlace (v_laws_toHold aH_0) (v_laws_toVector aPlace_1)).1.Z)], .b ((v_impl_HoldPlace (v_laws_toHold aH_0) (v_laws_toVector aPlace_1)).2)]) [],
        Fn Go.Proofs.Try.prog 25 [.agg [.f .f32 ((v_impl_HoldPlace (v_laws_toHold aH_0) (v_laws_toVector aPlace_1)).1.X), .f .f32 ((v_impl_HoldPlace (v_laws_toHold aH_0) (v_laws_toVector aPlace_1)).1.Y), .f .f32 ((v_impl_HoldPlace (v_laws_toHold aH_0) (v_laws_toVector aPlace_1)).1.Z)], .agg [.f .f32 ((v_spec_HoldPlace (v_laws_toHold aH_0) (v_laws_toVector aPlace_1)).1.X), .f .f32 ((v_spec_HoldPlace (v_laws_toHold aH_0) (v_laws_toVector aPlace_1)).1.Y), .f .f32 ((v_spec_HoldPlace (v_laws_toHold aH_0) (v_laws_toVector aPlace_1)).1.Z)]] (.b (v_laws_eqVector ((v_impl_HoldPlace (v_laws_toHold aH_0) (v_laws_toVector aPlace_1)).1) ((v_spec_HoldPlace (v_laws_toHold aH_0) (v_laws_toVector aPlace_1)).1))) [],
        (!(v_laws_eqVector ((v_impl_HoldPlace (v_laws_toHold aH_0) (v_laws_toVector aPlace_1)).1) ((v_spec_HoldPlace (v_laws_toHold aH_0) (v_laws_toVector aPlace_1)).1))) = true,
        (!(v_laws_eqVector ((v_impl_HoldPlace (v_laws_toHold aH_0) (v_laws_toVector aPlace_1)).1) ((v_spec_HoldPlace (v_laws_toHold aH_0) (v_laws_toVector aPlace_1)).1))) = true,
        (!(v_laws_eqVector ((v_impl_HoldPlace (v_laws_toHold aH_0) (v_laws_toVector aPlace_1)).1) ((v_spec_HoldPlace (v_laws_toHold aH_0) (v_laws_toVector aPlace_1)).1))) = true,
        (!(v_laws_eqVector ((v_impl_HoldPlace (v_laws_toHold aH_0) (v_laws_toVector aPlace_1)).1) ((v_spec_HoldPlace (v_laws_toHold aH_0) (v_laws_toVector aPlace_1)).1))) = true,
        true = true])
      Go.Proofs.Try.func10 rfl (by kernel_rfl) (by kernel_rfl)
      ⟨(t_laws_toHold aH_0), (t_laws_toVector aPlace_1), (t_spec_HoldPlace (v_laws_toHold aH_0) (v_laws_toVector aPlace_1)), (t_laws_toHold aH_0), (t_laws_toVector aPlace_1), (t_impl_HoldPlace (v_laws_toHold aH_0) (v_laws_toVector aPlace_1)), (t_laws_eqVector ((v_impl_HoldPlace (v_laws_toHold aH_0) (v_laws_toVector aPlace_1)).1) ((v_spec_HoldPlace (v_laws_toHold aH_0) (v_laws_toVector aPlace_1)).1)), (congrArg not h0), (congrArg not h0), (congrArg not h0), (congrArg not h0), rfl, trivial⟩) (by simp only [v_laws_FnExactHoldPlace, h0, cond_false]) rfl

theorem kind_of_is_HoldPlace (h : GHold) (hs : v_spec_l04Is h = true) : h.Kind = 0 ∨ h.Kind = 1 ∨ h.Kind = 2 := by
  cases hk : v_spec_l00In h.Kind 0 2 with
  | false => simp [v_spec_l04Is, hk] at hs
  | true =>
    simp [v_spec_l00In] at hk
    omega
theorem eq_HoldPlace (h : GHold) (f : GVector) : v_impl_HoldPlace h f = v_spec_HoldPlace h f := by
  unfold v_impl_HoldPlace v_spec_HoldPlace
  rw [show v_impl_IsHold h = v_spec_l04Is h from rfl]
  cases hs : v_spec_l04Is h with
  | false => rfl
  | true =>
    simp only [cond_true]
    rcases kind_of_is_HoldPlace h hs with hk | hk | hk <;> simp [v_impl_holdPlace, v_spec_l04Put, hk] <;> rfl
theorem true_laws_FnExactHoldPlace (h : GHold) (f : GVector) : v_laws_FnExactHoldPlace h f = true := by
  simp [v_laws_FnExactHoldPlace, eq_HoldPlace, eqVector_self]

end Go.Ab
