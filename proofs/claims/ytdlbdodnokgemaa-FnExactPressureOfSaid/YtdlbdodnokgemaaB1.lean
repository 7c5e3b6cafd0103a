/- The functions of this seat as plain Lean, and that the program's are these. Printed by a program of the prover's own. -/
import Derived.Test.YtdlbdodnokgemaaB0
set_option linter.unusedVariables false
set_option maxRecDepth 100000
namespace Go.Ab
open Go.RowKit

/-- spec.l01Finite -/
def v_spec_l01Finite (x_0 : Nat) : Bool := (fcmp .eql .f32 (fop .sub .f32 x_0 x_0) 0)

theorem t_spec_l01Finite (x_0 : Nat)   : Fn Go.Proofs.Try.prog 80 [.f .f32 x_0] (.b (v_spec_l01Finite x_0)) [] := by
  exact Fn.cast (fn_of_ev E0Ok hMixed (c := bodyOf Go.Proofs.Try.f80) (r := .b (fcmp .eql .f32 (fop .sub .f32 x_0 x_0) 0)) (new := [])
    (ans := [.keep []])
    (C := [])
    Go.Proofs.Try.func80 rfl (by kernel_rfl) (by kernel_rfl)
    trivial) rfl rfl

/-- spec.l04Amount -/
def v_spec_l04Amount (amount_0 : Nat) (volume_1 : Nat) : Bool := (cond (v_spec_l01Finite amount_0)
  (cond (v_spec_l01Finite volume_1)
    (fcmp .gtr .f32 volume_1 0)
    false)
  false)

theorem t_spec_l04Amount (amount_0 : Nat) (volume_1 : Nat)   : Fn Go.Proofs.Try.prog 49 [.f .f32 amount_0, .f .f32 volume_1] (.b (v_spec_l04Amount amount_0 volume_1)) [] := by
  cases h0 : (v_spec_l01Finite amount_0) with
  | true =>
    cases h1 : (v_spec_l01Finite volume_1) with
    | true =>
      exact Fn.cast (fn_of_ev E0Ok hMixed (c := bodyOf Go.Proofs.Try.f49) (r := .b (fcmp .gtr .f32 volume_1 0)) (new := [])
        (ans := [.call (.b (v_spec_l01Finite amount_0)) [], .bo true, .bo true, .call (.b (v_spec_l01Finite volume_1)) [], .bo true, .bo true, .bo true, .bo true, .keep []])
        (C := [Fn Go.Proofs.Try.prog 80 [.f .f32 amount_0] (.b (v_spec_l01Finite amount_0)) [],
          (v_spec_l01Finite amount_0) = true,
          (v_spec_l01Finite amount_0) = true,
          Fn Go.Proofs.Try.prog 80 [.f .f32 volume_1] (.b (v_spec_l01Finite volume_1)) [],
          (v_spec_l01Finite amount_0) = true,
          (v_spec_l01Finite volume_1) = true,
          (v_spec_l01Finite volume_1) = true,
          (v_spec_l01Finite volume_1) = true])
        Go.Proofs.Try.func49 rfl (by kernel_rfl) (by kernel_rfl)
        ⟨(t_spec_l01Finite amount_0), h0, h0, (t_spec_l01Finite volume_1), h0, h1, h1, h1, trivial⟩) (by simp only [v_spec_l04Amount, h0, h1, cond_true]) rfl
    | false =>
      exact Fn.cast (fn_of_ev E0Ok hMixed (c := bodyOf Go.Proofs.Try.f49) (r := .b false) (new := [])
        (ans := [.call (.b (v_spec_l01Finite amount_0)) [], .bo true, .bo true, .call (.b (v_spec_l01Finite volume_1)) [], .bo true, .bo false, .bo false, .bo false, .keep []])
        (C := [Fn Go.Proofs.Try.prog 80 [.f .f32 amount_0] (.b (v_spec_l01Finite amount_0)) [],
          (v_spec_l01Finite amount_0) = true,
          (v_spec_l01Finite amount_0) = true,
          Fn Go.Proofs.Try.prog 80 [.f .f32 volume_1] (.b (v_spec_l01Finite volume_1)) [],
          (v_spec_l01Finite amount_0) = true,
          (v_spec_l01Finite volume_1) = false,
          (v_spec_l01Finite volume_1) = false,
          (v_spec_l01Finite volume_1) = false])
        Go.Proofs.Try.func49 rfl (by kernel_rfl) (by kernel_rfl)
        ⟨(t_spec_l01Finite amount_0), h0, h0, (t_spec_l01Finite volume_1), h0, h1, h1, h1, trivial⟩) (by simp only [v_spec_l04Amount, h0, h1, cond_true, cond_false]) rfl
  | false =>
    exact Fn.cast (fn_of_ev E0Ok hMixed (c := bodyOf Go.Proofs.Try.f49) (r := .b false) (new := [])
      (ans := [.call (.b (v_spec_l01Finite amount_0)) [], .bo false, .bo false, .bo false, .bo false, .bo false, .bo false, .keep []])
      (C := [Fn Go.Proofs.Try.prog 80 [.f .f32 amount_0] (.b (v_spec_l01Finite amount_0)) [],
        (v_spec_l01Finite amount_0) = false,
        (v_spec_l01Finite amount_0) = false,
        (v_spec_l01Finite amount_0) = false,
        false = false,
        false = false,
        false = false])
      Go.Proofs.Try.func49 rfl (by kernel_rfl) (by kernel_rfl)
      ⟨(t_spec_l01Finite amount_0), h0, h0, h0, rfl, rfl, rfl, trivial⟩) (by simp only [v_spec_l04Amount, h0, cond_false]) rfl

/-- spec.PressureOf -/
def v_spec_PressureOf (amount_0 : Nat) (volume_1 : Nat) : Nat × Bool := (cond (v_spec_l04Amount amount_0 volume_1)
  ((fop .quo .f32 amount_0 volume_1), true)
  (0, false))

theorem t_spec_PressureOf (amount_0 : Nat) (volume_1 : Nat)   : Fn Go.Proofs.Try.prog 15 [.f .f32 amount_0, .f .f32 volume_1] (.tup [.f .f32 ((v_spec_PressureOf amount_0 volume_1).1), .b ((v_spec_PressureOf amount_0 volume_1).2)]) [] := by
  cases h0 : (v_spec_l04Amount amount_0 volume_1) with
  | true =>
    exact Fn.cast (fn_of_ev E0Ok hMixed (c := bodyOf Go.Proofs.Try.f15) (r := .tup [.f .f32 (fop .quo .f32 amount_0 volume_1), .b true]) (new := [])
      (ans := [.call (.b (v_spec_l04Amount amount_0 volume_1)) [], .bo false, .keep []])
      (C := [Fn Go.Proofs.Try.prog 49 [.f .f32 amount_0, .f .f32 volume_1] (.b (v_spec_l04Amount amount_0 volume_1)) [],
        (!(v_spec_l04Amount amount_0 volume_1)) = false])
      Go.Proofs.Try.func15 rfl (by kernel_rfl) (by kernel_rfl)
      ⟨(t_spec_l04Amount amount_0 volume_1), (congrArg not h0), trivial⟩) (by simp only [v_spec_PressureOf, h0, cond_true]) rfl
  | false =>
    exact Fn.cast (fn_of_ev E0Ok hMixed (c := bodyOf Go.Proofs.Try.f15) (r := .tup [.f .f32 0, .b false]) (new := [])
      (ans := [.call (.b (v_spec_l04Amount amount_0 volume_1)) [], .bo true, .keep []])
      (C := [Fn Go.Proofs.Try.prog 49 [.f .f32 amount_0, .f .f32 volume_1] (.b (v_spec_l04Amount amount_0 volume_1)) [],
        (!(v_spec_l04Amount amount_0 volume_1)) = true])
      Go.Proofs.Try.func15 rfl (by kernel_rfl) (by kernel_rfl)
      ⟨(t_spec_l04Amount amount_0 volume_1), (congrArg not h0), trivial⟩) (by simp only [v_spec_PressureOf, h0, cond_false]) rfl

/-- impl.IsFinite -/
def v_impl_IsFinite (x_0 : Nat) : Bool := (fcmp .eql .f32 (fop .sub .f32 x_0 x_0) 0)

theorem t_impl_IsFinite (x_0 : Nat)   : Fn Go.Proofs.Try.prog 50 [.f .f32 x_0] (.b (v_impl_IsFinite x_0)) [] := by
  exact Fn.cast (fn_of_ev E0Ok hMixed (c := bodyOf Go.Proofs.Try.f50) (r := .b (fcmp .eql .f32 (fop .sub .f32 x_0 x_0) 0)) (new := [])
    (ans := [.keep []])
    (C := [])
    Go.Proofs.Try.func50 rfl (by kernel_rfl) (by kernel_rfl)
    trivial) rfl rfl

/-- impl.isOver -/
def v_impl_isOver (x_0 : Nat) : Bool := (cond (v_impl_IsFinite x_0)
  (fcmp .gtr .f32 x_0 0)
  false)

theorem t_impl_isOver (x_0 : Nat)   : Fn Go.Proofs.Try.prog 51 [.f .f32 x_0] (.b (v_impl_isOver x_0)) [] := by
  cases h0 : (v_impl_IsFinite x_0) with
  | true =>
    exact Fn.cast (fn_of_ev E0Ok hMixed (c := bodyOf Go.Proofs.Try.f51) (r := .b (fcmp .gtr .f32 x_0 0)) (new := [])
      (ans := [.call (.b (v_impl_IsFinite x_0)) [], .bo true, .bo true, .bo true, .keep []])
      (C := [Fn Go.Proofs.Try.prog 50 [.f .f32 x_0] (.b (v_impl_IsFinite x_0)) [],
        (v_impl_IsFinite x_0) = true,
        (v_impl_IsFinite x_0) = true,
        (v_impl_IsFinite x_0) = true])
      Go.Proofs.Try.func51 rfl (by kernel_rfl) (by kernel_rfl)
      ⟨(t_impl_IsFinite x_0), h0, h0, h0, trivial⟩) (by simp only [v_impl_isOver, h0, cond_true]) rfl
  | false =>
    exact Fn.cast (fn_of_ev E0Ok hMixed (c := bodyOf Go.Proofs.Try.f51) (r := .b false) (new := [])
      (ans := [.call (.b (v_impl_IsFinite x_0)) [], .bo false, .bo false, .bo false, .keep []])
      (C := [Fn Go.Proofs.Try.prog 50 [.f .f32 x_0] (.b (v_impl_IsFinite x_0)) [],
        (v_impl_IsFinite x_0) = false,
        (v_impl_IsFinite x_0) = false,
        (v_impl_IsFinite x_0) = false])
      Go.Proofs.Try.func51 rfl (by kernel_rfl) (by kernel_rfl)
      ⟨(t_impl_IsFinite x_0), h0, h0, h0, trivial⟩) (by simp only [v_impl_isOver, h0, cond_false]) rfl

/-- impl.PressureOf -/
def v_impl_PressureOf (amount_0 : Nat) (volume_1 : Nat) : Nat × Bool := (cond (v_impl_IsFinite amount_0)
  (cond (v_impl_isOver volume_1)
    ((fop .quo .f32 amount_0 volume_1), true)
    (0, false))
  (0, false))

theorem t_impl_PressureOf (amount_0 : Nat) (volume_1 : Nat)   : Fn Go.Proofs.Try.prog 16 [.f .f32 amount_0, .f .f32 volume_1] (.tup [.f .f32 ((v_impl_PressureOf amount_0 volume_1).1), .b ((v_impl_PressureOf amount_0 volume_1).2)]) [] := by
  cases h0 : (v_impl_IsFinite amount_0) with
  | true =>
    cases h1 : (v_impl_isOver volume_1) with
    | true =>
      exact Fn.cast (fn_of_ev E0Ok hMixed (c := bodyOf Go.Proofs.Try.f16) (r := .tup [.f .f32 (fop .quo .f32 amount_0 volume_1), .b true]) (new := [])
        (ans := [.call (.b (v_impl_IsFinite amount_0)) [], .bo false, .bo false, .call (.b (v_impl_isOver volume_1)) [], .bo false, .bo false, .bo false, .keep []])
        (C := [Fn Go.Proofs.Try.prog 50 [.f .f32 amount_0] (.b (v_impl_IsFinite amount_0)) [],
          (!(v_impl_IsFinite amount_0)) = false,
          (!(v_impl_IsFinite amount_0)) = false,
          Fn Go.Proofs.Try.prog 51 [.f .f32 volume_1] (.b (v_impl_isOver volume_1)) [],
          (!(v_impl_IsFinite amount_0)) = false,
          (!(v_impl_IsFinite amount_0)) = false,
          (!(v_impl_isOver volume_1)) = false])
        Go.Proofs.Try.func16 rfl (by kernel_rfl) (by kernel_rfl)
        ⟨(t_impl_IsFinite amount_0), (congrArg not h0), (congrArg not h0), (t_impl_isOver volume_1), (congrArg not h0), (congrArg not h0), (congrArg not h1), trivial⟩) (by simp only [v_impl_PressureOf, h0, h1, cond_true]) rfl
    | false =>
      exact Fn.cast (fn_of_ev E0Ok hMixed (c := bodyOf Go.Proofs.Try.f16) (r := .tup [.f .f32 0, .b false]) (new := [])
        (ans := [.call (.b (v_impl_IsFinite amount_0)) [], .bo false, .bo false, .call (.b (v_impl_isOver volume_1)) [], .bo false, .bo false, .bo true, .keep []])
        (C := [Fn Go.Proofs.Try.prog 50 [.f .f32 amount_0] (.b (v_impl_IsFinite amount_0)) [],
          (!(v_impl_IsFinite amount_0)) = false,
          (!(v_impl_IsFinite amount_0)) = false,
          Fn Go.Proofs.Try.prog 51 [.f .f32 volume_1] (.b (v_impl_isOver volume_1)) [],
          (!(v_impl_IsFinite amount_0)) = false,
          (!(v_impl_IsFinite amount_0)) = false,
          (!(v_impl_isOver volume_1)) = true])
        Go.Proofs.Try.func16 rfl (by kernel_rfl) (by kernel_rfl)
        ⟨(t_impl_IsFinite amount_0), (congrArg not h0), (congrArg not h0), (t_impl_isOver volume_1), (congrArg not h0), (congrArg not h0), (congrArg not h1), trivial⟩) (by simp only [v_impl_PressureOf, h0, h1, cond_true, cond_false]) rfl
  | false =>
    exact Fn.cast (fn_of_ev E0Ok hMixed (c := bodyOf Go.Proofs.Try.f16) (r := .tup [.f .f32 0, .b false]) (new := [])
      (ans := [.call (.b (v_impl_IsFinite amount_0)) [], .bo true, .bo true, .bo true, .bo true, .bo true, .keep []])
      (C := [Fn Go.Proofs.Try.prog 50 [.f .f32 amount_0] (.b (v_impl_IsFinite amount_0)) [],
        (!(v_impl_IsFinite amount_0)) = true,
        (!(v_impl_IsFinite amount_0)) = true,
        (!(v_impl_IsFinite amount_0)) = true,
        (!(v_impl_IsFinite amount_0)) = true,
        true = true])
      Go.Proofs.Try.func16 rfl (by kernel_rfl) (by kernel_rfl)
      ⟨(t_impl_IsFinite amount_0), (congrArg not h0), (congrArg not h0), (congrArg not h0), (congrArg not h0), rfl, trivial⟩) (by simp only [v_impl_PressureOf, h0, cond_false]) rfl

/-- laws.sameFloat -/
def v_laws_sameFloat (a_0 : Nat) (b_1 : Nat) : Bool := (cond (fcmp .neq .f64 a_0 a_0)
  (fcmp .neq .f64 b_1 b_1)
  (cond (fcmp .neq .f64 b_1 b_1)
    false
    (cond (fcmp .eql .f64 a_0 0)
      (cond (fcmp .eql .f64 b_1 0)
        ((fcmp .gtr .f64 (fop .quo .f64 4607182418800017408 a_0) 0) == (fcmp .gtr .f64 (fop .quo .f64 4607182418800017408 b_1) 0))
        (fcmp .eql .f64 a_0 b_1))
      (fcmp .eql .f64 a_0 b_1))))

theorem t_laws_sameFloat (a_0 : Nat) (b_1 : Nat)   : Fn Go.Proofs.Try.prog 17 [.f .f64 a_0, .f .f64 b_1] (.b (v_laws_sameFloat a_0 b_1)) [] := by
  cases h0 : (fcmp .neq .f64 a_0 a_0) with
  | true =>
    exact Fn.cast (fn_of_ev E0Ok hMixed (c := bodyOf Go.Proofs.Try.f17) (r := .b (fcmp .neq .f64 b_1 b_1)) (new := [])
      (ans := [.bo true, .bo true, .bo true, .bo true, .bo true, .bo true, .bo true, .bo true, .bo true, .keep []])
      (C := [(fcmp .neq .f64 a_0 a_0) = true,
        (fcmp .neq .f64 a_0 a_0) = true,
        (fcmp .neq .f64 a_0 a_0) = true,
        (fcmp .neq .f64 a_0 a_0) = true,
        true = true,
        (fcmp .neq .f64 a_0 a_0) = true,
        (fcmp .neq .f64 a_0 a_0) = true,
        (fcmp .neq .f64 a_0 a_0) = true,
        (fcmp .neq .f64 a_0 a_0) = true])
      Go.Proofs.Try.func17 rfl (by kernel_rfl) (by kernel_rfl)
      ⟨h0, h0, h0, h0, rfl, h0, h0, h0, h0, trivial⟩) (by simp only [v_laws_sameFloat, h0, cond_true]) rfl
  | false =>
    cases h1 : (fcmp .neq .f64 b_1 b_1) with
    | true =>
      exact Fn.cast (fn_of_ev E0Ok hMixed (c := bodyOf Go.Proofs.Try.f17) (r := .b false) (new := [])
        (ans := [.bo false, .bo false, .bo false, .bo false, .bo true, .bo false, .bo false, .bo false, .bo false, .keep []])
        (C := [(fcmp .neq .f64 a_0 a_0) = false,
          (fcmp .neq .f64 a_0 a_0) = false,
          (fcmp .neq .f64 a_0 a_0) = false,
          (fcmp .neq .f64 a_0 a_0) = false,
          (fcmp .neq .f64 b_1 b_1) = true,
          (fcmp .neq .f64 a_0 a_0) = false,
          (fcmp .neq .f64 a_0 a_0) = false,
          (fcmp .neq .f64 a_0 a_0) = false,
          (fcmp .neq .f64 a_0 a_0) = false])
        Go.Proofs.Try.func17 rfl (by kernel_rfl) (by kernel_rfl)
        ⟨h0, h0, h0, h0, h1, h0, h0, h0, h0, trivial⟩) (by simp only [v_laws_sameFloat, h0, h1, cond_true, cond_false]) rfl
    | false =>
      cases h2 : (fcmp .eql .f64 a_0 0) with
      | true =>
        cases h3 : (fcmp .eql .f64 b_1 0) with
        | true =>
          exact Fn.cast (fn_of_ev E0Ok hMixed (c := bodyOf Go.Proofs.Try.f17) (r := .b ((fcmp .gtr .f64 (fop .quo .f64 4607182418800017408 a_0) 0) == (fcmp .gtr .f64 (fop .quo .f64 4607182418800017408 b_1) 0))) (new := [])
            (ans := [.bo false, .bo false, .bo false, .bo false, .bo false, .bo true, .bo true, .bo true, .bo true, .keep []])
            (C := [(fcmp .neq .f64 a_0 a_0) = false,
              (fcmp .neq .f64 a_0 a_0) = false,
              (fcmp .neq .f64 a_0 a_0) = false,
              (fcmp .neq .f64 a_0 a_0) = false,
              (fcmp .neq .f64 b_1 b_1) = false,
              (fcmp .eql .f64 a_0 0) = true,
              (fcmp .eql .f64 a_0 0) = true,
              (fcmp .eql .f64 a_0 0) = true,
              (fcmp .eql .f64 b_1 0) = true])
            Go.Proofs.Try.func17 rfl (by kernel_rfl) (by kernel_rfl)
            ⟨h0, h0, h0, h0, h1, h2, h2, h2, h3, trivial⟩) (by simp only [v_laws_sameFloat, h0, h1, h2, h3, cond_true, cond_false]) rfl
        | false =>
          exact Fn.cast (fn_of_ev E0Ok hMixed (c := bodyOf Go.Proofs.Try.f17) (r := .b (fcmp .eql .f64 a_0 b_1)) (new := [])
            (ans := [.bo false, .bo false, .bo false, .bo false, .bo false, .bo true, .bo true, .bo true, .bo false, .keep []])
            (C := [(fcmp .neq .f64 a_0 a_0) = false,
              (fcmp .neq .f64 a_0 a_0) = false,
              (fcmp .neq .f64 a_0 a_0) = false,
              (fcmp .neq .f64 a_0 a_0) = false,
              (fcmp .neq .f64 b_1 b_1) = false,
              (fcmp .eql .f64 a_0 0) = true,
              (fcmp .eql .f64 a_0 0) = true,
              (fcmp .eql .f64 a_0 0) = true,
              (fcmp .eql .f64 b_1 0) = false])
            Go.Proofs.Try.func17 rfl (by kernel_rfl) (by kernel_rfl)
            ⟨h0, h0, h0, h0, h1, h2, h2, h2, h3, trivial⟩) (by simp only [v_laws_sameFloat, h0, h1, h2, h3, cond_true, cond_false]) rfl
      | false =>
        exact Fn.cast (fn_of_ev E0Ok hMixed (c := bodyOf Go.Proofs.Try.f17) (r := .b (fcmp .eql .f64 a_0 b_1)) (new := [])
          (ans := [.bo false, .bo false, .bo false, .bo false, .bo false, .bo false, .bo false, .bo false, .bo false, .keep []])
          (C := [(fcmp .neq .f64 a_0 a_0) = false,
            (fcmp .neq .f64 a_0 a_0) = false,
            (fcmp .neq .f64 a_0 a_0) = false,
            (fcmp .neq .f64 a_0 a_0) = false,
            (fcmp .neq .f64 b_1 b_1) = false,
            (fcmp .eql .f64 a_0 0) = false,
            (fcmp .eql .f64 a_0 0) = false,
            (fcmp .eql .f64 a_0 0) = false,
            false = false])
          Go.Proofs.Try.func17 rfl (by kernel_rfl) (by kernel_rfl)
          ⟨h0, h0, h0, h0, h1, h2, h2, h2, rfl, trivial⟩) (by simp only [v_laws_sameFloat, h0, h1, h2, cond_false]) rfl

theorem same_self (x : Nat) : v_laws_sameFloat x x = true := by
  unfold v_laws_sameFloat
  cases h : fcmp .neq .f64 x x
  · simp only [cond_false]
    have h2 : fcmp .eql .f64 x x = true := by
      unfold fcmp at h ⊢
      simpa using h
    cases fcmp .eql .f64 x 0 <;> simp [h2]
  · rfl

/-- laws.FnExactPressureOf -/
def v_laws_FnExactPressureOf (aAmount_0 : Nat) (aVolume_1 : Nat) : Bool := (cond (v_laws_sameFloat (fcv .f32 .f64 ((v_impl_PressureOf aAmount_0 aVolume_1).1)) (fcv .f32 .f64 ((v_spec_PressureOf aAmount_0 aVolume_1).1)))
  (cond ((v_impl_PressureOf aAmount_0 aVolume_1).2 == (v_spec_PressureOf aAmount_0 aVolume_1).2)
    true
    false)
  false)

theorem t_laws_FnExactPressureOf (aAmount_0 : Nat) (aVolume_1 : Nat)   : Fn Go.Proofs.Try.prog 3 [.f .f32 aAmount_0, .f .f32 aVolume_1] (.b (v_laws_FnExactPressureOf aAmount_0 aVolume_1)) [] := by
  cases h0 : (v_laws_sameFloat (fcv .f32 .f64 ((v_impl_PressureOf aAmount_0 aVolume_1).1)) (fcv .f32 .f64 ((v_spec_PressureOf aAmount_0 aVolume_1).1))) with
  | true =>
    cases h1 : ((v_impl_PressureOf aAmount_0 aVolume_1).2 == (v_spec_PressureOf aAmount_0 aVolume_1).2) with
    | true =>
      exact Fn.cast (fn_of_ev E0Ok hMixed (c := bodyOf Go.Proofs.Try.f3) (r := .b true) (new := [])
        (ans := [.call (.tup [.f .f32 ((v_spec_PressureOf aAmount_0 aVolume_1).1), .b ((v_spec_PressureOf aAmount_0 aVolume_1).2)]) [], .call (.tup [.f .f32 ((v_impl_PressureOf aAmount_0 aVolume_1).1), .b ((v_impl_PressureOf aAmount_0 aVolume_1).2)]) [], .call (.b (v_laws_sameFloat (fcv .f32 .f64 ((v_impl_PressureOf aAmount_0 aVolume_1).1)) (fcv .f32 .f64 ((v_spec_PressureOf aAmount_0 aVolume_1).1)))) [], .bo false, .bo false, .bo false, .bo false, .bo false, .keep []])
        (C := [Fn Go.Proofs.Try.prog 15 [.f .f32 aAmount_0, .f .f32 aVolume_1] (.tup [.f .f32 ((v_spec_PressureOf aAmount_0 aVolume_1).1), .b ((v_spec_PressureOf aAmount_0 aVolume_1).2)]) [],
          Fn Go.Proofs.Try.prog 16 [.f .f32 aAmount_0, .f .f32 aVolume_1] (.tup [.f .f32 ((v_impl_PressureOf aAmount_0 aVolume_1).1), .b ((v_impl_PressureOf aAmount_0 aVolume_1).2)]) [],
          fcvOk .f32 .f64 ((v_impl_PressureOf aAmount_0 aVolume_1).1) = true,
          fcvOk .f32 .f64 ((v_spec_PressureOf aAmount_0 aVolume_1).1) = true,
          Fn Go.Proofs.Try.prog 17 [.f .f64 (fcv .f32 .f64 ((v_impl_PressureOf aAmount_0 aVolume_1).1)), .f .f64 (fcv .f32 .f64 ((v_spec_PressureOf aAmount_0 aVolume_1).1))] (.b (v_laws_sameFloat (fcv .f32 .f64 ((v_impl_PressureOf aAmount_0 aVolume_1).1)) (fcv .f32 .f64 ((v_spec_PressureOf aAmount_0 aVolume_1).1)))) [],
          (!(v_laws_sameFloat (fcv .f32 .f64 ((v_impl_PressureOf aAmount_0 aVolume_1).1)) (fcv .f32 .f64 ((v_spec_PressureOf aAmount_0 aVolume_1).1)))) = false,
          (!(v_laws_sameFloat (fcv .f32 .f64 ((v_impl_PressureOf aAmount_0 aVolume_1).1)) (fcv .f32 .f64 ((v_spec_PressureOf aAmount_0 aVolume_1).1)))) = false,
          (!(v_laws_sameFloat (fcv .f32 .f64 ((v_impl_PressureOf aAmount_0 aVolume_1).1)) (fcv .f32 .f64 ((v_spec_PressureOf aAmount_0 aVolume_1).1)))) = false,
          (!(v_laws_sameFloat (fcv .f32 .f64 ((v_impl_PressureOf aAmount_0 aVolume_1).1)) (fcv .f32 .f64 ((v_spec_PressureOf aAmount_0 aVolume_1).1)))) = false,
          (!((v_impl_PressureOf aAmount_0 aVolume_1).2 == (v_spec_PressureOf aAmount_0 aVolume_1).2)) = false])
        Go.Proofs.Try.func3 rfl (by kernel_rfl) (by kernel_rfl)
        ⟨(t_spec_PressureOf aAmount_0 aVolume_1), (t_impl_PressureOf aAmount_0 aVolume_1), (widenOk _), (widenOk _), (t_laws_sameFloat (fcv .f32 .f64 ((v_impl_PressureOf aAmount_0 aVolume_1).1)) (fcv .f32 .f64 ((v_spec_PressureOf aAmount_0 aVolume_1).1))), (congrArg not h0), (congrArg not h0), (congrArg not h0), (congrArg not h0), (congrArg not h1), trivial⟩) (by simp only [v_laws_FnExactPressureOf, h0, h1, cond_true]) rfl
    | false =>
      exact Fn.cast (fn_of_ev E0Ok hMixed (c := bodyOf Go.Proofs.Try.f3) (r := .b false) (new := [])
        (ans := [.call (.tup [.f .f32 ((v_spec_PressureOf aAmount_0 aVolume_1).1), .b ((v_spec_PressureOf aAmount_0 aVolume_1).2)]) [], .call (.tup [.f .f32 ((v_impl_PressureOf aAmount_0 aVolume_1).1), .b ((v_impl_PressureOf aAmount_0 aVolume_1).2)]) [], .call (.b (v_laws_sameFloat (fcv .f32 .f64 ((v_impl_PressureOf aAmount_0 aVolume_1).1)) (fcv .f32 .f64 ((v_spec_PressureOf aAmount_0 aVolume_1).1)))) [], .bo false, .bo false, .bo false, .bo false, .bo true, .keep []])
        (C := [Fn Go.Proofs.Try.prog 15 [.f .f32 aAmount_0, .f .f32 aVolume_1] (.tup [.f .f32 ((v_spec_PressureOf aAmount_0 aVolume_1).1), .b ((v_spec_PressureOf aAmount_0 aVolume_1).2)]) [],
          Fn Go.Proofs.Try.prog 16 [.f .f32 aAmount_0, .f .f32 aVolume_1] (.tup [.f .f32 ((v_impl_PressureOf aAmount_0 aVolume_1).1), .b ((v_impl_PressureOf aAmount_0 aVolume_1).2)]) [],
          fcvOk .f32 .f64 ((v_impl_PressureOf aAmount_0 aVolume_1).1) = true,
          fcvOk .f32 .f64 ((v_spec_PressureOf aAmount_0 aVolume_1).1) = true,
          Fn Go.Proofs.Try.prog 17 [.f .f64 (fcv .f32 .f64 ((v_impl_PressureOf aAmount_0 aVolume_1).1)), .f .f64 (fcv .f32 .f64 ((v_spec_PressureOf aAmount_0 aVolume_1).1))] (.b (v_laws_sameFloat (fcv .f32 .f64 ((v_impl_PressureOf aAmount_0 aVolume_1).1)) (fcv .f32 .f64 ((v_spec_PressureOf aAmount_0 aVolume_1).1)))) [],
          (!(v_laws_sameFloat (fcv .f32 .f64 ((v_impl_PressureOf aAmount_0 aVolume_1).1)) (fcv .f32 .f64 ((v_spec_PressureOf aAmount_0 aVolume_1).1)))) = false,
          (!(v_laws_sameFloat (fcv .f32 .f64 ((v_impl_PressureOf aAmount_0 aVolume_1).1)) (fcv .f32 .f64 ((v_spec_PressureOf aAmount_0 aVolume_1).1)))) = false,
          (!(v_laws_sameFloat (fcv .f32 .f64 ((v_impl_PressureOf aAmount_0 aVolume_1).1)) (fcv .f32 .f64 ((v_spec_PressureOf aAmount_0 aVolume_1).1)))) = false,
          (!(v_laws_sameFloat (fcv .f32 .f64 ((v_impl_PressureOf aAmount_0 aVolume_1).1)) (fcv .f32 .f64 ((v_spec_PressureOf aAmount_0 aVolume_1).1)))) = false,
          (!((v_impl_PressureOf aAmount_0 aVolume_1).2 == (v_spec_PressureOf aAmount_0 aVolume_1).2)) = true])
        Go.Proofs.Try.func3 rfl (by kernel_rfl) (by kernel_rfl)
        ⟨(t_spec_PressureOf aAmount_0 aVolume_1), (t_impl_PressureOf aAmount_0 aVolume_1), (widenOk _), (widenOk _), (t_laws_sameFloat (fcv .f32 .f64 ((v_impl_PressureOf aAmount_0 aVolume_1).1)) (fcv .f32 .f64 ((v_spec_PressureOf aAmount_0 aVolume_1).1))), (congrArg not h0), (congrArg not h0), (congrArg not h0), (congrArg not h0), (congrArg not h1), trivial⟩) (by simp only [v_laws_FnExactPressureOf, h0, h1, cond_true, cond_false]) rfl
  | false =>
    exact Fn.cast (fn_of_ev E0Ok hMixed (c := bodyOf Go.Proofs.Try.f3) (r := .b false) (new := [])
      (ans := [.call (.tup [.f .f32 ((v_spec_PressureOf aAmount_0 aVolume_1).1), .b ((v_spec_PressureOf aAmount_0 aVolume_1).2)]) [], .call (.tup [.f .f32 ((v_impl_PressureOf aAmount_0 aVolume_1).1), .b ((v_impl_PressureOf aAmount_0 aVolume_1).2)]) [], .call (.b (v_laws_sameFloat (fcv .f32 .f64 ((v_impl_PressureOf aAmount_0 aVolume_1).1)) (fcv .f32 .f64 ((v_spec_PressureOf aAmount_0 aVolume_1).1)))) [], .bo true, .bo true, .bo true, .bo true, .bo true, .keep []])
      (C := [Fn Go.Proofs.Try.prog 15 [.f .f32 aAmount_0, .f .f32 aVolume_1] (.tup [.f .f32 ((v_spec_PressureOf aAmount_0 aVolume_1).1), .b ((v_spec_PressureOf aAmount_0 aVolume_1).2)]) [],
        Fn Go.Proofs.Try.prog 16 [.f .f32 aAmount_0, .f .f32 aVolume_1] (.tup [.f .f32 ((v_impl_PressureOf aAmount_0 aVolume_1).1), .b ((v_impl_PressureOf aAmount_0 aVolume_1).2)]) [],
        fcvOk .f32 .f64 ((v_impl_PressureOf aAmount_0 aVolume_1).1) = true,
        fcvOk .f32 .f64 ((v_spec_PressureOf aAmount_0 aVolume_1).1) = true,
        Fn Go.Proofs.Try.prog 17 [.f .f64 (fcv .f32 .f64 ((v_impl_PressureOf aAmount_0 aVolume_1).1)), .f .f64 (fcv .f32 .f64 ((v_spec_PressureOf aAmount_0 aVolume_1).1))] (.b (v_laws_sameFloat (fcv .f32 .f64 ((v_impl_PressureOf aAmount_0 aVolume_1).1)) (fcv .f32 .f64 ((v_spec_PressureOf aAmount_0 aVolume_1).1)))) [],
        (!(v_laws_sameFloat (fcv .f32 .f64 ((v_impl_PressureOf aAmount_0 aVolume_1).1)) (fcv .f32 .f64 ((v_spec_PressureOf aAmount_0 aVolume_1).1)))) = true,
        (!(v_laws_sameFloat (fcv .f32 .f64 ((v_impl_PressureOf aAmount_0 aVolume_1).1)) (fcv .f32 .f64 ((v_spec_PressureOf aAmount_0 aVolume_1).1)))) = true,
        (!(v_laws_sameFloat (fcv .f32 .f64 ((v_impl_PressureOf aAmount_0 aVolume_1).1)) (fcv .f32 .f64 ((v_spec_PressureOf aAmount_0 aVolume_1).1)))) = true,
        (!(v_laws_sameFloat (fcv .f32 .f64 ((v_impl_PressureOf aAmount_0 aVolume_1).1)) (fcv .f32 .f64 ((v_spec_PressureOf aAmount_0 aVolume_1).1)))) = true,
        true = true])
      Go.Proofs.Try.func3 rfl (by kernel_rfl) (by kernel_rfl)
      ⟨(t_spec_PressureOf aAmount_0 aVolume_1), (t_impl_PressureOf aAmount_0 aVolume_1), (widenOk _), (widenOk _), (t_laws_sameFloat (fcv .f32 .f64 ((v_impl_PressureOf aAmount_0 aVolume_1).1)) (fcv .f32 .f64 ((v_spec_PressureOf aAmount_0 aVolume_1).1))), (congrArg not h0), (congrArg not h0), (congrArg not h0), (congrArg not h0), rfl, trivial⟩) (by simp only [v_laws_FnExactPressureOf, h0, cond_false]) rfl

theorem eq_PressureOf (a b : Nat) : v_impl_PressureOf a b = v_spec_PressureOf a b := by
  unfold v_impl_PressureOf v_spec_PressureOf v_spec_l04Amount v_impl_isOver
  rw [show v_impl_IsFinite = v_spec_l01Finite from rfl]
  cases v_spec_l01Finite a <;> cases v_spec_l01Finite b <;> rfl
theorem true_laws_FnExactPressureOf (a b : Nat) : v_laws_FnExactPressureOf a b = true := by
  simp [v_laws_FnExactPressureOf, eq_PressureOf, same_self]

end Go.Ab
