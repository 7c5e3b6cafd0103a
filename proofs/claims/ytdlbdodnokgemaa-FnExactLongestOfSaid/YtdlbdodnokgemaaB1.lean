/- The functions of this seat as plain Lean, and that the program's are these. Printed by a program of the prover's own. -/
import Derived.Test.YtdlbdodnokgemaaB0
set_option linter.unusedVariables false
set_option maxRecDepth 100000
namespace Go.Ab
open Go.RowKit

/-- laws.szVectorS -/
def v_laws_szVectorS (a_0 : (List GVector)) (left_1 : Int) : Int := (cond (decide ((IntKind.wrap .i64 (left_1 - (a_0.length : Int))) < 0))
  (-1)
  (IntKind.wrap .i64 (left_1 - (a_0.length : Int))))

theorem t_laws_szVectorS (a_0 : (List GVector)) (left_1 : Int) (hp0 : a_0.length ≤ 9223372036854775807)  : Fn Go.Proofs.Try.prog 21 [.sl (a_0.map GVector.cells), .i .i64 left_1] (.i .i64 (v_laws_szVectorS a_0 left_1)) [] := by
  cases h0 : (decide ((IntKind.wrap .i64 (left_1 - (a_0.length : Int))) < 0)) with
  | true =>
    exact Fn.cast (fn_of_ev E0Ok hMixed (c := bodyOf Go.Proofs.Try.f21) (r := .i .i64 (-1)) (new := [])
      (ans := [.num (a_0.length : Int), .num (IntKind.wrap .i64 (left_1 - (a_0.length : Int))), .bo true, .keep []])
      (C := [(((a_0.map GVector.cells).length : Nat) : Int) = (a_0.length : Int),
        IntKind.wrap .i64 (left_1 - (a_0.length : Int)) = (IntKind.wrap .i64 (left_1 - (a_0.length : Int))),
        (decide ((IntKind.wrap .i64 (left_1 - (a_0.length : Int))) < 0)) = true])
      Go.Proofs.Try.func21 rfl (by kernel_rfl) (by kernel_rfl)
      ⟨len_ok, rfl, h0, trivial⟩) (by simp only [v_laws_szVectorS, h0, cond_true]) rfl
  | false =>
    exact Fn.cast (fn_of_ev E0Ok hMixed (c := bodyOf Go.Proofs.Try.f21) (r := .i .i64 (IntKind.wrap .i64 (left_1 - (a_0.length : Int)))) (new := [])
      (ans := [.num (a_0.length : Int), .num (IntKind.wrap .i64 (left_1 - (a_0.length : Int))), .bo false, .keep []])
      (C := [(((a_0.map GVector.cells).length : Nat) : Int) = (a_0.length : Int),
        IntKind.wrap .i64 (left_1 - (a_0.length : Int)) = (IntKind.wrap .i64 (left_1 - (a_0.length : Int))),
        (decide ((IntKind.wrap .i64 (left_1 - (a_0.length : Int))) < 0)) = false])
      Go.Proofs.Try.func21 rfl (by kernel_rfl) (by kernel_rfl)
      ⟨len_ok, rfl, h0, trivial⟩) (by simp only [v_laws_szVectorS, h0, cond_false]) rfl

theorem ok_laws_szVectorS (a : List GVector) (left : Int) (h0 : a.length ≤ 9223372036854775807) (h1 : -1 ≤ left) (h2 : left ≤ 1048576) : -1 ≤ v_laws_szVectorS a left ∧ v_laws_szVectorS a left ≤ left ∧ (v_laws_szVectorS a left < 0 ∨ (a.length : Int) ≤ left) := by
  unfold v_laws_szVectorS
  rw [wrap_sub (by omega) (by omega)]
  by_cases h : left - (a.length : Int) < 0
  · simp [h]; omega
  · simp [h]; omega

/-- laws.toVector -/
def v_laws_toVector (a_0 : GVector) : GVector := a_0

theorem t_laws_toVector (a_0 : GVector)   : Fn Go.Proofs.Try.prog 32 [.agg [.f .f32 a_0.X, .f .f32 a_0.Y, .f .f32 a_0.Z]] (.agg [.f .f32 ((v_laws_toVector a_0).X), .f .f32 ((v_laws_toVector a_0).Y), .f .f32 ((v_laws_toVector a_0).Z)]) [] := by
  exact Fn.cast (fn_of_ev E0Ok hMixed (c := bodyOf Go.Proofs.Try.f32) (r := .agg [.f .f32 a_0.X, .f .f32 a_0.Y, .f .f32 a_0.Z]) (new := [])
    (ans := [.keep []])
    (C := [])
    Go.Proofs.Try.func32 rfl (by kernel_rfl) (by kernel_rfl)
    trivial) rfl rfl

@[simp] theorem eq_laws_toVector (a : GVector) : v_laws_toVector a = a := rfl

def lo_laws_toVectorS_1 (a_0 : (List GVector)) : Nat → Int → (List GVector) → (List GVector)
  | 0, _, _ => default
  | k + 1, i_l0, r0_l1 => (cond (decide (i_l0 < (a_0.length : Int)))
    (lo_laws_toVectorS_1 a_0 k (i_l0 + 1) (r0_l1.set i_l0.toNat (v_laws_toVector (a_0.getD i_l0.toNat default))))
    r0_l1)

def ls_laws_toVectorS_1 (a_0 : (List GVector)) (r : (List GVector)) : Ex × St := ((.exit 0), ⟨[.sl (a_0.map GVector.cells), .any, .nils, .own 0, .any, .sl (a_0.map GVector.cells), .i .i64 (a_0.length : Int), .own 0, .any, .any, .any, .any, .any, .any, .any, .any, .any, .any, .any, .any, .any, .any, .any], [.vec 33 3 (r.map GVector.cells) true]⟩)

theorem lp_laws_toVectorS_1 (a_0 : (List GVector)) (hp0 : a_0.length ≤ 1073741824) : ∀ (k : Nat) (i_l0 : Int) (r0_l1 : (List GVector)) (hv_laws_toVectorS_1_0 : 0 ≤ i_l0) (hv_laws_toVectorS_1_1 : r0_l1.length = a_0.length) (hk : ((a_0.length : Int) - i_l0).toNat < k), Lp Go.Proofs.Try.prog (sub (bodyOf Go.Proofs.Try.f23) [1, 1, 0, 1, 0, 0]) ⟨[.sl (a_0.map GVector.cells), .any, .nils, .own 0, .i .i64 i_l0, .sl (a_0.map GVector.cells), .i .i64 (a_0.length : Int), .own 0, .any, .any, .any, .any, .any, .any, .any, .any, .any, .any, .any, .any, .any, .any, .any], [.vec 33 3 (r0_l1.map GVector.cells) true]⟩ (ls_laws_toVectorS_1 a_0 (lo_laws_toVectorS_1 a_0 k i_l0 r0_l1)).1 (ls_laws_toVectorS_1 a_0 (lo_laws_toVectorS_1 a_0 k i_l0 r0_l1)).2 := by
  intro k
  induction k with
  | zero => intro i_l0 r0_l1 hv_laws_toVectorS_1_0 hv_laws_toVectorS_1_1 hk; exact absurd hk (Nat.not_lt_zero _)
  | succ k ih =>
    intro i_l0 r0_l1 hv_laws_toVectorS_1_0 hv_laws_toVectorS_1_1 hk
    cases h_0 : (decide (i_l0 < (a_0.length : Int))) with
    | true =>
      have e : lo_laws_toVectorS_1 a_0 (k + 1) i_l0 r0_l1 = (lo_laws_toVectorS_1 a_0 k (i_l0 + 1) (r0_l1.set i_l0.toNat (v_laws_toVector (a_0.getD i_l0.toNat default)))) := by simp only [lo_laws_toVectorS_1, h_0, cond_true]
      rw [e]
      exact step_next E0Ok hMixed (body := (sub (bodyOf Go.Proofs.Try.f23) [1, 1, 0, 1, 0, 0])) (st := ⟨[.sl (a_0.map GVector.cells), .any, .nils, .own 0, .i .i64 i_l0, .sl (a_0.map GVector.cells), .i .i64 (a_0.length : Int), .own 0, .any, .any, .any, .any, .any, .any, .any, .any, .any, .any, .any, .any, .any, .any, .any], [.vec 33 3 (r0_l1.map GVector.cells) true]⟩)
        (st2 := ⟨[.sl (a_0.map GVector.cells), .any, .nils, .own 0, .i .i64 (i_l0 + 1), .sl (a_0.map GVector.cells), .i .i64 (a_0.length : Int), .own 0, .any, .any, .any, .any, .any, .any, .any, .any, .any, .any, .any, .any, .any, .any, .any], [.vec 33 3 ((r0_l1.map GVector.cells).set i_l0.toNat [.f .f32 ((v_laws_toVector (a_0.getD i_l0.toNat default)).X), .f .f32 ((v_laws_toVector (a_0.getD i_l0.toNat default)).Y), .f .f32 ((v_laws_toVector (a_0.getD i_l0.toNat default)).Z)]) true]⟩)
        (ans := [.num (a_0.length : Int), .bo true, .el [.f .f32 ((a_0.getD i_l0.toNat default).X), .f .f32 ((a_0.getD i_l0.toNat default).Y), .f .f32 ((a_0.getD i_l0.toNat default).Z)], .call (.agg [.f .f32 ((v_laws_toVector (a_0.getD i_l0.toNat default)).X), .f .f32 ((v_laws_toVector (a_0.getD i_l0.toNat default)).Y), .f .f32 ((v_laws_toVector (a_0.getD i_l0.toNat default)).Z)]) [], .num (i_l0 + 1)])
        (mask := [true, false, true, true, true, true, true, true, false, false, false, false, false, false, false, false, false, false, false, false, false, false, false]) (n := 1)
        (C := [(((a_0.map GVector.cells).length : Nat) : Int) = (a_0.length : Int),
          (decide (i_l0 < (a_0.length : Int))) = true,
          0 ≤ i_l0 ∧ (a_0.map GVector.cells)[Int.toNat i_l0]? = some [.f .f32 ((a_0.getD i_l0.toNat default).X), .f .f32 ((a_0.getD i_l0.toNat default).Y), .f .f32 ((a_0.getD i_l0.toNat default).Z)],
          Fn Go.Proofs.Try.prog 32 [.agg [.f .f32 ((a_0.getD i_l0.toNat default).X), .f .f32 ((a_0.getD i_l0.toNat default).Y), .f .f32 ((a_0.getD i_l0.toNat default).Z)]] (.agg [.f .f32 ((v_laws_toVector (a_0.getD i_l0.toNat default)).X), .f .f32 ((v_laws_toVector (a_0.getD i_l0.toNat default)).Y), .f .f32 ((v_laws_toVector (a_0.getD i_l0.toNat default)).Z)]) [],
          0 ≤ i_l0 ∧ Int.toNat i_l0 < (r0_l1.map GVector.cells).length,
          i_l0.toNat < (r0_l1.map GVector.cells).length,
          IntKind.wrap .i64 (i_l0 + 1) = (i_l0 + 1)])
        (by kernel_rfl)
        ⟨len_ok, h_0, (get_ok (by first | assumption | omega | (simp at * <;> omega) | (simp_all <;> omega)) (by first | assumption | omega | (simp at * <;> omega) | (simp_all <;> omega))), (t_laws_toVector (a_0.getD i_l0.toNat default)), (idx_ok (by first | assumption | omega | (simp at * <;> omega) | (simp_all <;> omega)) (by first | assumption | omega | (simp at * <;> omega) | (simp_all <;> omega))), (by have q : i_l0.toNat < r0_l1.length := (by first | assumption | omega | (simp at * <;> omega) | (simp_all <;> omega)); simpa using q), (wrap_id (by first | assumption | omega | (simp at * <;> omega) | (simp_all <;> omega)) (by first | assumption | omega | (simp at * <;> omega) | (simp_all <;> omega))), trivial⟩
        (by simp [List.map_set, GVector.cells]) (ih (i_l0 + 1) (r0_l1.set i_l0.toNat (v_laws_toVector (a_0.getD i_l0.toNat default))) (show 0 ≤ (i_l0 + 1) from (by first | assumption | omega | (simp at * <;> omega) | (simp_all <;> omega))) (show (r0_l1.set i_l0.toNat (v_laws_toVector (a_0.getD i_l0.toNat default))).length = a_0.length from (by first | assumption | omega | (simp at * <;> omega) | (simp_all <;> omega))) (by first | assumption | omega | (simp at * <;> omega) | (simp_all <;> omega)))
    | false =>
      have e : lo_laws_toVectorS_1 a_0 (k + 1) i_l0 r0_l1 = r0_l1 := by simp only [lo_laws_toVectorS_1, h_0, cond_false]
      rw [e]
      exact step_out E0Ok hMixed (e := (.exit 0)) (body := (sub (bodyOf Go.Proofs.Try.f23) [1, 1, 0, 1, 0, 0])) (st := ⟨[.sl (a_0.map GVector.cells), .any, .nils, .own 0, .i .i64 i_l0, .sl (a_0.map GVector.cells), .i .i64 (a_0.length : Int), .own 0, .any, .any, .any, .any, .any, .any, .any, .any, .any, .any, .any, .any, .any, .any, .any], [.vec 33 3 (r0_l1.map GVector.cells) true]⟩)
        (st2 := ⟨[.sl (a_0.map GVector.cells), .any, .nils, .own 0, .any, .sl (a_0.map GVector.cells), .i .i64 (a_0.length : Int), .own 0, .any, .any, .any, .any, .any, .any, .any, .any, .any, .any, .any, .any, .any, .any, .any], [.vec 33 3 (r0_l1.map GVector.cells) true]⟩)
        (ans := [.num (a_0.length : Int), .bo false])
        (mask := [true, false, true, true, false, true, true, true, false, false, false, false, false, false, false, false, false, false, false, false, false, false, false]) (n := 1)
        (C := [(((a_0.map GVector.cells).length : Nat) : Int) = (a_0.length : Int),
          (decide (i_l0 < (a_0.length : Int))) = false])
        (by kernel_rfl)
        ⟨len_ok, h_0, trivial⟩
        (by intro h; cases h) rfl

def lr_laws_toVectorS_1_0 (a_0 : (List GVector)) : (List GVector) := (lo_laws_toVectorS_1 a_0 (((a_0.length : Int) - 0).toNat + 1) 0 (List.replicate (a_0.length : Int).toNat (⟨0, 0, 0⟩ : GVector)))

/-- laws.toVectorS -/
def v_laws_toVectorS (a_0 : (List GVector)) : (List GVector) := (lr_laws_toVectorS_1_0 a_0)

theorem t_laws_toVectorS (a_0 : (List GVector)) (hp0 : a_0.length ≤ 1073741824)  : Fn Go.Proofs.Try.prog 23 [.sl (a_0.map GVector.cells)] (.own 0) [.vec 33 3 ((v_laws_toVectorS a_0).map GVector.cells) true] := by
  exact Fn.cast (fn_of_ev E0Ok hMixed (c := bodyOf Go.Proofs.Try.f23) (r := .own 0) (new := [.vec 33 3 ((lr_laws_toVectorS_1_0 a_0).map GVector.cells) true])
    (ans := [.num (a_0.length : Int), .loop [true, false, true, true, true, true, true, true, false, false, false, false, false, false, false, false, false, false, false, false, false, false, false] 1 (.exit 0) ⟨[.sl (a_0.map GVector.cells), .any, .nils, .own 0, .any, .sl (a_0.map GVector.cells), .i .i64 (a_0.length : Int), .own 0, .any, .any, .any, .any, .any, .any, .any, .any, .any, .any, .any, .any, .any, .any, .any], [.vec 33 3 ((lr_laws_toVectorS_1_0 a_0).map GVector.cells) true]⟩, .keep [0]])
    (C := [(((a_0.map GVector.cells).length : Nat) : Int) = (a_0.length : Int),
      (a_0.length : Int) = (a_0.length : Int),
      0 ≤ (a_0.length : Int),
      (a_0.length : Int) ≤ 2147483648,
      Lp Go.Proofs.Try.prog (sub (bodyOf Go.Proofs.Try.f23) [1, 1, 0, 1, 0, 0]) ⟨[.sl (a_0.map GVector.cells), .any, .nils, .own 0, .i .i64 0, .sl (a_0.map GVector.cells), .i .i64 (a_0.length : Int), .own 0, .any, .any, .any, .any, .any, .any, .any, .any, .any, .any, .any, .any, .any, .any, .any], [.vec 33 3 (List.replicate (Int.toNat (a_0.length : Int)) [.f .f32 0, .f .f32 0, .f .f32 0]) true]⟩ (.exit 0) ⟨[.sl (a_0.map GVector.cells), .any, .nils, .own 0, .any, .sl (a_0.map GVector.cells), .i .i64 (a_0.length : Int), .own 0, .any, .any, .any, .any, .any, .any, .any, .any, .any, .any, .any, .any, .any, .any, .any], [.vec 33 3 ((lr_laws_toVectorS_1_0 a_0).map GVector.cells) true]⟩])
    Go.Proofs.Try.func23 rfl (by kernel_rfl) (by kernel_rfl)
    ⟨len_ok, rfl, (by first | assumption | omega | (simp at * <;> omega) | (simp_all <;> omega)), (by first | assumption | omega | (simp at * <;> omega) | (simp_all <;> omega)), (lp_cast (lp_laws_toVectorS_1 a_0 hp0 (((a_0.length : Int) - 0).toNat + 1) 0 (List.replicate (a_0.length : Int).toNat (⟨0, 0, 0⟩ : GVector)) (show 0 ≤ 0 from (by first | assumption | omega | (simp at * <;> omega) | (simp_all <;> omega))) (show (List.replicate (a_0.length : Int).toNat (⟨0, 0, 0⟩ : GVector)).length = a_0.length from (by simp)) (Nat.lt_succ_self _)) (by simp [GVector.cells])), trivial⟩) rfl (by simp [v_laws_toVectorS])

@[simp] theorem eq_laws_toVectorS (a : List GVector) : v_laws_toVectorS a = a := by
  unfold v_laws_toVectorS lr_laws_toVectorS_1_0
  rw [copy_all (f := v_laws_toVector) (a := a) (lo := lo_laws_toVectorS_1 a) (fun k i r => rfl)]
  exact List.map_id a

/-- spec.l01Inner -/
def v_spec_l01Inner (a_0 : GVector) (b_1 : GVector) : Nat := (fop .add .f32 (fop .add .f32 (fop .mul .f32 a_0.X b_1.X) (fop .mul .f32 a_0.Y b_1.Y)) (fop .mul .f32 a_0.Z b_1.Z))

theorem t_spec_l01Inner (a_0 : GVector) (b_1 : GVector)   : Fn Go.Proofs.Try.prog 83 [.agg [.f .f32 a_0.X, .f .f32 a_0.Y, .f .f32 a_0.Z], .agg [.f .f32 b_1.X, .f .f32 b_1.Y, .f .f32 b_1.Z]] (.f .f32 (v_spec_l01Inner a_0 b_1)) [] := by
  exact Fn.cast (fn_of_ev E0Ok hMixed (c := bodyOf Go.Proofs.Try.f83) (r := .f .f32 (fop .add .f32 (fop .add .f32 (fop .mul .f32 a_0.X b_1.X) (fop .mul .f32 a_0.Y b_1.Y)) (fop .mul .f32 a_0.Z b_1.Z))) (new := [])
    (ans := [.keep []])
    (C := [])
    Go.Proofs.Try.func83 rfl (by kernel_rfl) (by kernel_rfl)
    trivial) rfl rfl

/-- math.Sqrt -/
def v_math_Sqrt (x_0 : Nat) : Nat := (fsqrt x_0)

theorem t_math_Sqrt (x_0 : Nat)   : Fn Go.Proofs.Try.prog 104 [.f .f64 x_0] (.f .f64 (v_math_Sqrt x_0)) [] := by
  exact Fn.cast (fn_of_ev E0Ok hMixed (c := bodyOf Go.Proofs.Try.f104) (r := .f .f64 (fsqrt x_0)) (new := [])
    (ans := [.keep []])
    (C := [])
    Go.Proofs.Try.func104 rfl (by kernel_rfl) (by kernel_rfl)
    trivial) rfl rfl

/-- spec.l01Narrow -/
def v_spec_l01Narrow (x_0 : Nat) : Nat := (fcv .f64 .f32 x_0)

theorem t_spec_l01Narrow (x_0 : Nat) (hp0 : fcvOk .f64 .f32 x_0 = true)  : Fn Go.Proofs.Try.prog 89 [.f .f64 x_0] (.f .f32 (v_spec_l01Narrow x_0)) [] := by
  exact Fn.cast (fn_of_ev E0Ok hMixed (c := bodyOf Go.Proofs.Try.f89) (r := .f .f32 (fcv .f64 .f32 x_0)) (new := [])
    (ans := [.keep []])
    (C := [fcvOk .f64 .f32 x_0 = true])
    Go.Proofs.Try.func89 rfl (by kernel_rfl) (by kernel_rfl)
    ⟨hp0, trivial⟩) rfl rfl

/-- spec.l01Sqrt -/
def v_spec_l01Sqrt (x_0 : Nat) : Nat := (v_spec_l01Narrow (v_math_Sqrt (fcv .f32 .f64 x_0)))

theorem t_spec_l01Sqrt (x_0 : Nat)   : Fn Go.Proofs.Try.prog 103 [.f .f32 x_0] (.f .f32 (v_spec_l01Sqrt x_0)) [] := by
  exact Fn.cast (fn_of_ev E0Ok hMixed (c := bodyOf Go.Proofs.Try.f103) (r := .f .f32 (v_spec_l01Narrow (v_math_Sqrt (fcv .f32 .f64 x_0)))) (new := [])
    (ans := [.call (.f .f64 (v_math_Sqrt (fcv .f32 .f64 x_0))) [], .call (.f .f32 (v_spec_l01Narrow (v_math_Sqrt (fcv .f32 .f64 x_0)))) [], .keep []])
    (C := [fcvOk .f32 .f64 x_0 = true,
      Fn Go.Proofs.Try.prog 104 [.f .f64 (fcv .f32 .f64 x_0)] (.f .f64 (v_math_Sqrt (fcv .f32 .f64 x_0))) [],
      Fn Go.Proofs.Try.prog 89 [.f .f64 (v_math_Sqrt (fcv .f32 .f64 x_0))] (.f .f32 (v_spec_l01Narrow (v_math_Sqrt (fcv .f32 .f64 x_0)))) []])
    Go.Proofs.Try.func103 rfl (by kernel_rfl) (by kernel_rfl)
    ⟨(widenOk _), (t_math_Sqrt (fcv .f32 .f64 x_0)), (t_spec_l01Narrow (v_math_Sqrt (fcv .f32 .f64 x_0)) (show fcvOk .f64 .f32 (v_math_Sqrt (fcv .f32 .f64 x_0)) = true from (narrow_sqrt _))), trivial⟩) rfl rfl

/-- spec.l01Long -/
def v_spec_l01Long (v_0 : GVector) : Nat := (v_spec_l01Sqrt (v_spec_l01Inner v_0 v_0))

theorem t_spec_l01Long (v_0 : GVector)   : Fn Go.Proofs.Try.prog 94 [.agg [.f .f32 v_0.X, .f .f32 v_0.Y, .f .f32 v_0.Z]] (.f .f32 (v_spec_l01Long v_0)) [] := by
  exact Fn.cast (fn_of_ev E0Ok hMixed (c := bodyOf Go.Proofs.Try.f94) (r := .f .f32 (v_spec_l01Sqrt (v_spec_l01Inner v_0 v_0))) (new := [])
    (ans := [.call (.f .f32 (v_spec_l01Inner v_0 v_0)) [], .call (.f .f32 (v_spec_l01Sqrt (v_spec_l01Inner v_0 v_0))) [], .keep []])
    (C := [Fn Go.Proofs.Try.prog 83 [.agg [.f .f32 v_0.X, .f .f32 v_0.Y, .f .f32 v_0.Z], .agg [.f .f32 v_0.X, .f .f32 v_0.Y, .f .f32 v_0.Z]] (.f .f32 (v_spec_l01Inner v_0 v_0)) [],
      Fn Go.Proofs.Try.prog 103 [.f .f32 (v_spec_l01Inner v_0 v_0)] (.f .f32 (v_spec_l01Sqrt (v_spec_l01Inner v_0 v_0))) []])
    Go.Proofs.Try.func94 rfl (by kernel_rfl) (by kernel_rfl)
    ⟨(t_spec_l01Inner v_0 v_0), (t_spec_l01Sqrt (v_spec_l01Inner v_0 v_0)), trivial⟩) rfl rfl

def lo_spec_l03Longest_1 (list_0 : (List GVector)) : Nat → Nat → Int → (Nat) ⊕ (Nat)
  | 0, _, _ => .inl default
  | k + 1, out_l0, x_l1 => (cond (decide (x_l1 < (list_0.length : Int)))
    (cond (fcmp .gtr .f32 (v_spec_l01Long (list_0.getD x_l1.toNat default)) out_l0)
      (cond (fcmp .neq .f32 (v_spec_l01Long (list_0.getD x_l1.toNat default)) (v_spec_l01Long (list_0.getD x_l1.toNat default)))
        (.inl (v_spec_l01Long (list_0.getD x_l1.toNat default)))
        (lo_spec_l03Longest_1 list_0 k (v_spec_l01Long (list_0.getD x_l1.toNat default)) (x_l1 + 1)))
      (cond (fcmp .neq .f32 (v_spec_l01Long (list_0.getD x_l1.toNat default)) (v_spec_l01Long (list_0.getD x_l1.toNat default)))
        (.inl (v_spec_l01Long (list_0.getD x_l1.toNat default)))
        (cond (fcmp .neq .f32 out_l0 out_l0)
          (.inl out_l0)
          (lo_spec_l03Longest_1 list_0 k out_l0 (x_l1 + 1)))))
    (.inr out_l0))

def ls_spec_l03Longest_1 (list_0 : (List GVector)) : (Nat) ⊕ (Nat) → Ex × St
  | .inl r => (.ret, ⟨[.any, .any, .f .f32 r, .any, .any, .any, .any, .any, .any, .any, .any, .any, .any, .any, .any, .any, .any, .any, .any, .any, .any, .any, .any, .any, .any, .any, .any, .any, .any, .any, .any], []⟩)
  | .inr r => ((.exit 0), ⟨[.sl (list_0.map GVector.cells), .any, .any, .f .f32 r, .any, .any, .sl (list_0.map GVector.cells), .any, .any, .any, .any, .any, .any, .any, .any, .any, .any, .any, .any, .any, .any, .any, .any, .any, .any, .any, .any, .any, .any, .any, .any], []⟩)

theorem lp_spec_l03Longest_1 (list_0 : (List GVector)) (hp0 : list_0.length ≤ 1073741824) : ∀ (k : Nat) (out_l0 : Nat) (x_l1 : Int) (hv_spec_l03Longest_1_0 : 0 ≤ x_l1) (hk : ((list_0.length : Int) - x_l1).toNat < k), Lp Go.Proofs.Try.prog (sub (bodyOf Go.Proofs.Try.f67) [1, 1, 0, 1, 0, 0]) ⟨[.sl (list_0.map GVector.cells), .any, .any, .f .f32 out_l0, .any, .any, .sl (list_0.map GVector.cells), .i .i64 (list_0.length : Int), .i .i64 x_l1, .any, .any, .any, .any, .any, .any, .any, .any, .any, .any, .any, .any, .any, .any, .any, .any, .any, .any, .any, .any, .any, .any], []⟩ (ls_spec_l03Longest_1 list_0 (lo_spec_l03Longest_1 list_0 k out_l0 x_l1)).1 (ls_spec_l03Longest_1 list_0 (lo_spec_l03Longest_1 list_0 k out_l0 x_l1)).2 := by
  intro k
  induction k with
  | zero => intro out_l0 x_l1 hv_spec_l03Longest_1_0 hk; exact absurd hk (Nat.not_lt_zero _)
  | succ k ih =>
    intro out_l0 x_l1 hv_spec_l03Longest_1_0 hk
    cases h_0 : (decide (x_l1 < (list_0.length : Int))) with
    | true =>
      cases h_1 : (fcmp .gtr .f32 (v_spec_l01Long (list_0.getD x_l1.toNat default)) out_l0) with
      | true =>
        cases h_2 : (fcmp .neq .f32 (v_spec_l01Long (list_0.getD x_l1.toNat default)) (v_spec_l01Long (list_0.getD x_l1.toNat default))) with
        | true =>
          have e : lo_spec_l03Longest_1 list_0 (k + 1) out_l0 x_l1 = (.inl (v_spec_l01Long (list_0.getD x_l1.toNat default))) := by simp only [lo_spec_l03Longest_1, h_0, h_1, h_2, cond_true]
          rw [e]
          exact step_out E0Ok hMixed (e := .ret) (body := (sub (bodyOf Go.Proofs.Try.f67) [1, 1, 0, 1, 0, 0])) (st := ⟨[.sl (list_0.map GVector.cells), .any, .any, .f .f32 out_l0, .any, .any, .sl (list_0.map GVector.cells), .i .i64 (list_0.length : Int), .i .i64 x_l1, .any, .any, .any, .any, .any, .any, .any, .any, .any, .any, .any, .any, .any, .any, .any, .any, .any, .any, .any, .any, .any, .any], []⟩)
            (st2 := ⟨[.any, .any, .f .f32 (v_spec_l01Long (list_0.getD x_l1.toNat default)), .any, .any, .any, .any, .any, .any, .any, .any, .any, .any, .any, .any, .any, .any, .any, .any, .any, .any, .any, .any, .any, .any, .any, .any, .any, .any, .any, .any], []⟩)
            (ans := [.bo true, .el [.f .f32 ((list_0.getD x_l1.toNat default).X), .f .f32 ((list_0.getD x_l1.toNat default).Y), .f .f32 ((list_0.getD x_l1.toNat default).Z)], .call (.f .f32 (v_spec_l01Long (list_0.getD x_l1.toNat default))) [], .bo true, .bo true, .bo true, .bo true, .bo true, .bo true])
            (mask := [false, false, true, false, false, false, false, false, false, false, false, false, false, false, false, false, false, false, false, false, false, false, false, false, false, false, false, false, false, false, false]) (n := 0)
            (C := [(decide (x_l1 < (list_0.length : Int))) = true,
              0 ≤ x_l1 ∧ (list_0.map GVector.cells)[Int.toNat x_l1]? = some [.f .f32 ((list_0.getD x_l1.toNat default).X), .f .f32 ((list_0.getD x_l1.toNat default).Y), .f .f32 ((list_0.getD x_l1.toNat default).Z)],
              Fn Go.Proofs.Try.prog 94 [.agg [.f .f32 ((list_0.getD x_l1.toNat default).X), .f .f32 ((list_0.getD x_l1.toNat default).Y), .f .f32 ((list_0.getD x_l1.toNat default).Z)]] (.f .f32 (v_spec_l01Long (list_0.getD x_l1.toNat default))) [],
              (fcmp .gtr .f32 (v_spec_l01Long (list_0.getD x_l1.toNat default)) out_l0) = true,
              (fcmp .gtr .f32 (v_spec_l01Long (list_0.getD x_l1.toNat default)) out_l0) = true,
              (fcmp .gtr .f32 (v_spec_l01Long (list_0.getD x_l1.toNat default)) out_l0) = true,
              (fcmp .gtr .f32 (v_spec_l01Long (list_0.getD x_l1.toNat default)) out_l0) = true,
              true = true,
              (fcmp .neq .f32 (v_spec_l01Long (list_0.getD x_l1.toNat default)) (v_spec_l01Long (list_0.getD x_l1.toNat default))) = true])
            (by kernel_rfl)
            ⟨h_0, (get_ok (by first | assumption | omega | (simp at * <;> omega) | (simp_all <;> omega)) (by first | assumption | omega | (simp at * <;> omega) | (simp_all <;> omega))), (t_spec_l01Long (list_0.getD x_l1.toNat default)), h_1, h_1, h_1, h_1, rfl, h_2, trivial⟩
            (by intro h; cases h) rfl
        | false =>
          have e : lo_spec_l03Longest_1 list_0 (k + 1) out_l0 x_l1 = (lo_spec_l03Longest_1 list_0 k (v_spec_l01Long (list_0.getD x_l1.toNat default)) (x_l1 + 1)) := by simp only [lo_spec_l03Longest_1, h_0, h_1, h_2, cond_true, cond_false]
          rw [e]
          exact step_next E0Ok hMixed (body := (sub (bodyOf Go.Proofs.Try.f67) [1, 1, 0, 1, 0, 0])) (st := ⟨[.sl (list_0.map GVector.cells), .any, .any, .f .f32 out_l0, .any, .any, .sl (list_0.map GVector.cells), .i .i64 (list_0.length : Int), .i .i64 x_l1, .any, .any, .any, .any, .any, .any, .any, .any, .any, .any, .any, .any, .any, .any, .any, .any, .any, .any, .any, .any, .any, .any], []⟩)
            (st2 := ⟨[.sl (list_0.map GVector.cells), .any, .any, .f .f32 (v_spec_l01Long (list_0.getD x_l1.toNat default)), .any, .any, .sl (list_0.map GVector.cells), .i .i64 (list_0.length : Int), .i .i64 (x_l1 + 1), .any, .any, .any, .any, .any, .any, .any, .any, .any, .any, .any, .any, .any, .any, .any, .any, .any, .any, .any, .any, .any, .any], []⟩)
            (ans := [.bo true, .el [.f .f32 ((list_0.getD x_l1.toNat default).X), .f .f32 ((list_0.getD x_l1.toNat default).Y), .f .f32 ((list_0.getD x_l1.toNat default).Z)], .call (.f .f32 (v_spec_l01Long (list_0.getD x_l1.toNat default))) [], .bo true, .bo true, .bo true, .bo true, .bo true, .bo false, .num (x_l1 + 1)])
            (mask := [true, false, false, true, false, false, true, true, true, false, false, false, false, false, false, false, false, false, false, false, false, false, false, false, false, false, false, false, false, false, false]) (n := 0)
            (C := [(decide (x_l1 < (list_0.length : Int))) = true,
              0 ≤ x_l1 ∧ (list_0.map GVector.cells)[Int.toNat x_l1]? = some [.f .f32 ((list_0.getD x_l1.toNat default).X), .f .f32 ((list_0.getD x_l1.toNat default).Y), .f .f32 ((list_0.getD x_l1.toNat default).Z)],
              Fn Go.Proofs.Try.prog 94 [.agg [.f .f32 ((list_0.getD x_l1.toNat default).X), .f .f32 ((list_0.getD x_l1.toNat default).Y), .f .f32 ((list_0.getD x_l1.toNat default).Z)]] (.f .f32 (v_spec_l01Long (list_0.getD x_l1.toNat default))) [],
              (fcmp .gtr .f32 (v_spec_l01Long (list_0.getD x_l1.toNat default)) out_l0) = true,
              (fcmp .gtr .f32 (v_spec_l01Long (list_0.getD x_l1.toNat default)) out_l0) = true,
              (fcmp .gtr .f32 (v_spec_l01Long (list_0.getD x_l1.toNat default)) out_l0) = true,
              (fcmp .gtr .f32 (v_spec_l01Long (list_0.getD x_l1.toNat default)) out_l0) = true,
              true = true,
              (fcmp .neq .f32 (v_spec_l01Long (list_0.getD x_l1.toNat default)) (v_spec_l01Long (list_0.getD x_l1.toNat default))) = false,
              IntKind.wrap .i64 (x_l1 + 1) = (x_l1 + 1)])
            (by kernel_rfl)
            ⟨h_0, (get_ok (by first | assumption | omega | (simp at * <;> omega) | (simp_all <;> omega)) (by first | assumption | omega | (simp at * <;> omega) | (simp_all <;> omega))), (t_spec_l01Long (list_0.getD x_l1.toNat default)), h_1, h_1, h_1, h_1, rfl, h_2, (wrap_id (by first | assumption | omega | (simp at * <;> omega) | (simp_all <;> omega)) (by first | assumption | omega | (simp at * <;> omega) | (simp_all <;> omega))), trivial⟩
            rfl (ih (v_spec_l01Long (list_0.getD x_l1.toNat default)) (x_l1 + 1) (show 0 ≤ (x_l1 + 1) from (by first | assumption | omega | (simp at * <;> omega) | (simp_all <;> omega))) (by first | assumption | omega | (simp at * <;> omega) | (simp_all <;> omega)))
      | false =>
        cases h_2 : (fcmp .neq .f32 (v_spec_l01Long (list_0.getD x_l1.toNat default)) (v_spec_l01Long (list_0.getD x_l1.toNat default))) with
        | true =>
          have e : lo_spec_l03Longest_1 list_0 (k + 1) out_l0 x_l1 = (.inl (v_spec_l01Long (list_0.getD x_l1.toNat default))) := by simp only [lo_spec_l03Longest_1, h_0, h_1, h_2, cond_true, cond_false]
          rw [e]
          exact step_out E0Ok hMixed (e := .ret) (body := (sub (bodyOf Go.Proofs.Try.f67) [1, 1, 0, 1, 0, 0])) (st := ⟨[.sl (list_0.map GVector.cells), .any, .any, .f .f32 out_l0, .any, .any, .sl (list_0.map GVector.cells), .i .i64 (list_0.length : Int), .i .i64 x_l1, .any, .any, .any, .any, .any, .any, .any, .any, .any, .any, .any, .any, .any, .any, .any, .any, .any, .any, .any, .any, .any, .any], []⟩)
            (st2 := ⟨[.any, .any, .f .f32 (v_spec_l01Long (list_0.getD x_l1.toNat default)), .any, .any, .any, .any, .any, .any, .any, .any, .any, .any, .any, .any, .any, .any, .any, .any, .any, .any, .any, .any, .any, .any, .any, .any, .any, .any, .any, .any], []⟩)
            (ans := [.bo true, .el [.f .f32 ((list_0.getD x_l1.toNat default).X), .f .f32 ((list_0.getD x_l1.toNat default).Y), .f .f32 ((list_0.getD x_l1.toNat default).Z)], .call (.f .f32 (v_spec_l01Long (list_0.getD x_l1.toNat default))) [], .bo false, .bo false, .bo false, .bo false, .bo true, .bo true])
            (mask := [false, false, true, false, false, false, false, false, false, false, false, false, false, false, false, false, false, false, false, false, false, false, false, false, false, false, false, false, false, false, false]) (n := 0)
            (C := [(decide (x_l1 < (list_0.length : Int))) = true,
              0 ≤ x_l1 ∧ (list_0.map GVector.cells)[Int.toNat x_l1]? = some [.f .f32 ((list_0.getD x_l1.toNat default).X), .f .f32 ((list_0.getD x_l1.toNat default).Y), .f .f32 ((list_0.getD x_l1.toNat default).Z)],
              Fn Go.Proofs.Try.prog 94 [.agg [.f .f32 ((list_0.getD x_l1.toNat default).X), .f .f32 ((list_0.getD x_l1.toNat default).Y), .f .f32 ((list_0.getD x_l1.toNat default).Z)]] (.f .f32 (v_spec_l01Long (list_0.getD x_l1.toNat default))) [],
              (fcmp .gtr .f32 (v_spec_l01Long (list_0.getD x_l1.toNat default)) out_l0) = false,
              (fcmp .gtr .f32 (v_spec_l01Long (list_0.getD x_l1.toNat default)) out_l0) = false,
              (fcmp .gtr .f32 (v_spec_l01Long (list_0.getD x_l1.toNat default)) out_l0) = false,
              (fcmp .gtr .f32 (v_spec_l01Long (list_0.getD x_l1.toNat default)) out_l0) = false,
              (fcmp .neq .f32 (v_spec_l01Long (list_0.getD x_l1.toNat default)) (v_spec_l01Long (list_0.getD x_l1.toNat default))) = true,
              (fcmp .neq .f32 (v_spec_l01Long (list_0.getD x_l1.toNat default)) (v_spec_l01Long (list_0.getD x_l1.toNat default))) = true])
            (by kernel_rfl)
            ⟨h_0, (get_ok (by first | assumption | omega | (simp at * <;> omega) | (simp_all <;> omega)) (by first | assumption | omega | (simp at * <;> omega) | (simp_all <;> omega))), (t_spec_l01Long (list_0.getD x_l1.toNat default)), h_1, h_1, h_1, h_1, h_2, h_2, trivial⟩
            (by intro h; cases h) rfl
        | false =>
          cases h_3 : (fcmp .neq .f32 out_l0 out_l0) with
          | true =>
            have e : lo_spec_l03Longest_1 list_0 (k + 1) out_l0 x_l1 = (.inl out_l0) := by simp only [lo_spec_l03Longest_1, h_0, h_1, h_2, h_3, cond_true, cond_false]
            rw [e]
            exact step_out E0Ok hMixed (e := .ret) (body := (sub (bodyOf Go.Proofs.Try.f67) [1, 1, 0, 1, 0, 0])) (st := ⟨[.sl (list_0.map GVector.cells), .any, .any, .f .f32 out_l0, .any, .any, .sl (list_0.map GVector.cells), .i .i64 (list_0.length : Int), .i .i64 x_l1, .any, .any, .any, .any, .any, .any, .any, .any, .any, .any, .any, .any, .any, .any, .any, .any, .any, .any, .any, .any, .any, .any], []⟩)
              (st2 := ⟨[.any, .any, .f .f32 out_l0, .any, .any, .any, .any, .any, .any, .any, .any, .any, .any, .any, .any, .any, .any, .any, .any, .any, .any, .any, .any, .any, .any, .any, .any, .any, .any, .any, .any], []⟩)
              (ans := [.bo true, .el [.f .f32 ((list_0.getD x_l1.toNat default).X), .f .f32 ((list_0.getD x_l1.toNat default).Y), .f .f32 ((list_0.getD x_l1.toNat default).Z)], .call (.f .f32 (v_spec_l01Long (list_0.getD x_l1.toNat default))) [], .bo false, .bo false, .bo false, .bo false, .bo false, .bo true])
              (mask := [false, false, true, false, false, false, false, false, false, false, false, false, false, false, false, false, false, false, false, false, false, false, false, false, false, false, false, false, false, false, false]) (n := 0)
              (C := [(decide (x_l1 < (list_0.length : Int))) = true,
                0 ≤ x_l1 ∧ (list_0.map GVector.cells)[Int.toNat x_l1]? = some [.f .f32 ((list_0.getD x_l1.toNat default).X), .f .f32 ((list_0.getD x_l1.toNat default).Y), .f .f32 ((list_0.getD x_l1.toNat default).Z)],
                Fn Go.Proofs.Try.prog 94 [.agg [.f .f32 ((list_0.getD x_l1.toNat default).X), .f .f32 ((list_0.getD x_l1.toNat default).Y), .f .f32 ((list_0.getD x_l1.toNat default).Z)]] (.f .f32 (v_spec_l01Long (list_0.getD x_l1.toNat default))) [],
                (fcmp .gtr .f32 (v_spec_l01Long (list_0.getD x_l1.toNat default)) out_l0) = false,
                (fcmp .gtr .f32 (v_spec_l01Long (list_0.getD x_l1.toNat default)) out_l0) = false,
                (fcmp .gtr .f32 (v_spec_l01Long (list_0.getD x_l1.toNat default)) out_l0) = false,
                (fcmp .gtr .f32 (v_spec_l01Long (list_0.getD x_l1.toNat default)) out_l0) = false,
                (fcmp .neq .f32 (v_spec_l01Long (list_0.getD x_l1.toNat default)) (v_spec_l01Long (list_0.getD x_l1.toNat default))) = false,
                (fcmp .neq .f32 out_l0 out_l0) = true])
              (by kernel_rfl)
              ⟨h_0, (get_ok (by first | assumption | omega | (simp at * <;> omega) | (simp_all <;> omega)) (by first | assumption | omega | (simp at * <;> omega) | (simp_all <;> omega))), (t_spec_l01Long (list_0.getD x_l1.toNat default)), h_1, h_1, h_1, h_1, h_2, h_3, trivial⟩
              (by intro h; cases h) rfl
          | false =>
            have e : lo_spec_l03Longest_1 list_0 (k + 1) out_l0 x_l1 = (lo_spec_l03Longest_1 list_0 k out_l0 (x_l1 + 1)) := by simp only [lo_spec_l03Longest_1, h_0, h_1, h_2, h_3, cond_true, cond_false]
            rw [e]
            exact step_next E0Ok hMixed (body := (sub (bodyOf Go.Proofs.Try.f67) [1, 1, 0, 1, 0, 0])) (st := ⟨[.sl (list_0.map GVector.cells), .any, .any, .f .f32 out_l0, .any, .any, .sl (list_0.map GVector.cells), .i .i64 (list_0.length : Int), .i .i64 x_l1, .any, .any, .any, .any, .any, .any, .any, .any, .any, .any, .any, .any, .any, .any, .any, .any, .any, .any, .any, .any, .any, .any], []⟩)
              (st2 := ⟨[.sl (list_0.map GVector.cells), .any, .any, .f .f32 out_l0, .any, .any, .sl (list_0.map GVector.cells), .i .i64 (list_0.length : Int), .i .i64 (x_l1 + 1), .any, .any, .any, .any, .any, .any, .any, .any, .any, .any, .any, .any, .any, .any, .any, .any, .any, .any, .any, .any, .any, .any], []⟩)
              (ans := [.bo true, .el [.f .f32 ((list_0.getD x_l1.toNat default).X), .f .f32 ((list_0.getD x_l1.toNat default).Y), .f .f32 ((list_0.getD x_l1.toNat default).Z)], .call (.f .f32 (v_spec_l01Long (list_0.getD x_l1.toNat default))) [], .bo false, .bo false, .bo false, .bo false, .bo false, .bo false, .num (x_l1 + 1)])
              (mask := [true, false, false, true, false, false, true, true, true, false, false, false, false, false, false, false, false, false, false, false, false, false, false, false, false, false, false, false, false, false, false]) (n := 0)
              (C := [(decide (x_l1 < (list_0.length : Int))) = true,
                0 ≤ x_l1 ∧ (list_0.map GVector.cells)[Int.toNat x_l1]? = some [.f .f32 ((list_0.getD x_l1.toNat default).X), .f .f32 ((list_0.getD x_l1.toNat default).Y), .f .f32 ((list_0.getD x_l1.toNat default).Z)],
                Fn Go.Proofs.Try.prog 94 [.agg [.f .f32 ((list_0.getD x_l1.toNat default).X), .f .f32 ((list_0.getD x_l1.toNat default).Y), .f .f32 ((list_0.getD x_l1.toNat default).Z)]] (.f .f32 (v_spec_l01Long (list_0.getD x_l1.toNat default))) [],
                (fcmp .gtr .f32 (v_spec_l01Long (list_0.getD x_l1.toNat default)) out_l0) = false,
                (fcmp .gtr .f32 (v_spec_l01Long (list_0.getD x_l1.toNat default)) out_l0) = false,
                (fcmp .gtr .f32 (v_spec_l01Long (list_0.getD x_l1.toNat default)) out_l0) = false,
                (fcmp .gtr .f32 (v_spec_l01Long (list_0.getD x_l1.toNat default)) out_l0) = false,
                (fcmp .neq .f32 (v_spec_l01Long (list_0.getD x_l1.toNat default)) (v_spec_l01Long (list_0.getD x_l1.toNat default))) = false,
                (fcmp .neq .f32 out_l0 out_l0) = false,
                IntKind.wrap .i64 (x_l1 + 1) = (x_l1 + 1)])
              (by kernel_rfl)
              ⟨h_0, (get_ok (by first | assumption | omega | (simp at * <;> omega) | (simp_all <;> omega)) (by first | assumption | omega | (simp at * <;> omega) | (simp_all <;> omega))), (t_spec_l01Long (list_0.getD x_l1.toNat default)), h_1, h_1, h_1, h_1, h_2, h_3, (wrap_id (by first | assumption | omega | (simp at * <;> omega) | (simp_all <;> omega)) (by first | assumption | omega | (simp at * <;> omega) | (simp_all <;> omega))), trivial⟩
              rfl (ih out_l0 (x_l1 + 1) (show 0 ≤ (x_l1 + 1) from (by first | assumption | omega | (simp at * <;> omega) | (simp_all <;> omega))) (by first | assumption | omega | (simp at * <;> omega) | (simp_all <;> omega)))
    | false =>
      have e : lo_spec_l03Longest_1 list_0 (k + 1) out_l0 x_l1 = (.inr out_l0) := by simp only [lo_spec_l03Longest_1, h_0, cond_false]
      rw [e]
      exact step_out E0Ok hMixed (e := (.exit 0)) (body := (sub (bodyOf Go.Proofs.Try.f67) [1, 1, 0, 1, 0, 0])) (st := ⟨[.sl (list_0.map GVector.cells), .any, .any, .f .f32 out_l0, .any, .any, .sl (list_0.map GVector.cells), .i .i64 (list_0.length : Int), .i .i64 x_l1, .any, .any, .any, .any, .any, .any, .any, .any, .any, .any, .any, .any, .any, .any, .any, .any, .any, .any, .any, .any, .any, .any], []⟩)
        (st2 := ⟨[.sl (list_0.map GVector.cells), .any, .any, .f .f32 out_l0, .any, .any, .sl (list_0.map GVector.cells), .any, .any, .any, .any, .any, .any, .any, .any, .any, .any, .any, .any, .any, .any, .any, .any, .any, .any, .any, .any, .any, .any, .any, .any], []⟩)
        (ans := [.bo false])
        (mask := [true, false, false, true, false, false, true, false, false, false, false, false, false, false, false, false, false, false, false, false, false, false, false, false, false, false, false, false, false, false, false]) (n := 0)
        (C := [(decide (x_l1 < (list_0.length : Int))) = false])
        (by kernel_rfl)
        ⟨h_0, trivial⟩
        (by intro h; cases h) rfl

def lr_spec_l03Longest_1_0 (list_0 : (List GVector)) : (Nat) ⊕ (Nat) := (lo_spec_l03Longest_1 list_0 (((list_0.length : Int) - 0).toNat + 1) 0 0)

/-- spec.l03Longest -/
def v_spec_l03Longest (list_0 : (List GVector)) : Nat := (match (lr_spec_l03Longest_1_0 list_0) with
  | .inl r1 => r1
  | .inr r1 => r1)

theorem t_spec_l03Longest (list_0 : (List GVector)) (hp0 : list_0.length ≤ 1073741824)  : Fn Go.Proofs.Try.prog 67 [.sl (list_0.map GVector.cells)] (.f .f32 (v_spec_l03Longest list_0)) [] := by
  cases h0 : (lr_spec_l03Longest_1_0 list_0) with
  | inl r1 =>
    exact Fn.cast (fn_of_ev E0Ok hMixed (c := bodyOf Go.Proofs.Try.f67) (r := .f .f32 r1) (new := [])
      (ans := [.num (list_0.length : Int), .loop [true, false, false, true, false, false, true, true, true, false, false, false, false, false, false, false, false, false, false, false, false, false, false, false, false, false, false, false, false, false, false] 0 .ret ⟨[.any, .any, .f .f32 r1, .any, .any, .any, .any, .any, .any, .any, .any, .any, .any, .any, .any, .any, .any, .any, .any, .any, .any, .any, .any, .any, .any, .any, .any, .any, .any, .any, .any], []⟩, .keep []])
      (C := [(((list_0.map GVector.cells).length : Nat) : Int) = (list_0.length : Int),
        Lp Go.Proofs.Try.prog (sub (bodyOf Go.Proofs.Try.f67) [1, 1, 0, 1, 0, 0]) ⟨[.sl (list_0.map GVector.cells), .any, .any, .f .f32 0, .any, .any, .sl (list_0.map GVector.cells), .i .i64 (list_0.length : Int), .i .i64 0, .any, .any, .any, .any, .any, .any, .any, .any, .any, .any, .any, .any, .any, .any, .any, .any, .any, .any, .any, .any, .any, .any], []⟩ .ret ⟨[.any, .any, .f .f32 r1, .any, .any, .any, .any, .any, .any, .any, .any, .any, .any, .any, .any, .any, .any, .any, .any, .any, .any, .any, .any, .any, .any, .any, .any, .any, .any, .any, .any], []⟩])
      Go.Proofs.Try.func67 rfl (by kernel_rfl) (by kernel_rfl)
      ⟨len_ok, (by have q := (lp_spec_l03Longest_1 list_0 hp0 (((list_0.length : Int) - 0).toNat + 1) 0 0 (show 0 ≤ 0 from (by first | assumption | omega | (simp at * <;> omega) | (simp_all <;> omega))) (Nat.lt_succ_self _)); rw [show (lo_spec_l03Longest_1 list_0 (((list_0.length : Int) - 0).toNat + 1) 0 0) = _ from rfl] at q; rw [show (lo_spec_l03Longest_1 list_0 (((list_0.length : Int) - 0).toNat + 1) 0 0) = (lr_spec_l03Longest_1_0 list_0) from rfl, h0] at q; exact q), trivial⟩) (by simp only [v_spec_l03Longest, h0]) rfl
  | inr r1 =>
    exact Fn.cast (fn_of_ev E0Ok hMixed (c := bodyOf Go.Proofs.Try.f67) (r := .f .f32 r1) (new := [])
      (ans := [.num (list_0.length : Int), .loop [true, false, false, true, false, false, true, true, true, false, false, false, false, false, false, false, false, false, false, false, false, false, false, false, false, false, false, false, false, false, false] 0 (.exit 0) ⟨[.sl (list_0.map GVector.cells), .any, .any, .f .f32 r1, .any, .any, .sl (list_0.map GVector.cells), .any, .any, .any, .any, .any, .any, .any, .any, .any, .any, .any, .any, .any, .any, .any, .any, .any, .any, .any, .any, .any, .any, .any, .any], []⟩, .keep []])
      (C := [(((list_0.map GVector.cells).length : Nat) : Int) = (list_0.length : Int),
        Lp Go.Proofs.Try.prog (sub (bodyOf Go.Proofs.Try.f67) [1, 1, 0, 1, 0, 0]) ⟨[.sl (list_0.map GVector.cells), .any, .any, .f .f32 0, .any, .any, .sl (list_0.map GVector.cells), .i .i64 (list_0.length : Int), .i .i64 0, .any, .any, .any, .any, .any, .any, .any, .any, .any, .any, .any, .any, .any, .any, .any, .any, .any, .any, .any, .any, .any, .any], []⟩ (.exit 0) ⟨[.sl (list_0.map GVector.cells), .any, .any, .f .f32 r1, .any, .any, .sl (list_0.map GVector.cells), .any, .any, .any, .any, .any, .any, .any, .any, .any, .any, .any, .any, .any, .any, .any, .any, .any, .any, .any, .any, .any, .any, .any, .any], []⟩])
      Go.Proofs.Try.func67 rfl (by kernel_rfl) (by kernel_rfl)
      ⟨len_ok, (by have q := (lp_spec_l03Longest_1 list_0 hp0 (((list_0.length : Int) - 0).toNat + 1) 0 0 (show 0 ≤ 0 from (by first | assumption | omega | (simp at * <;> omega) | (simp_all <;> omega))) (Nat.lt_succ_self _)); rw [show (lo_spec_l03Longest_1 list_0 (((list_0.length : Int) - 0).toNat + 1) 0 0) = _ from rfl] at q; rw [show (lo_spec_l03Longest_1 list_0 (((list_0.length : Int) - 0).toNat + 1) 0 0) = (lr_spec_l03Longest_1_0 list_0) from rfl, h0] at q; exact q), trivial⟩) (by simp only [v_spec_l03Longest, h0]) rfl

/-- spec.LongestOf -/
def v_spec_LongestOf (list_0 : (List GVector)) : Nat × Bool := (cond (decide ((list_0.length : Int) > 256))
  (0, false)
  ((v_spec_l03Longest list_0), true))

theorem t_spec_LongestOf (list_0 : (List GVector)) (hp0 : list_0.length ≤ 1073741824)  : Fn Go.Proofs.Try.prog 38 [.sl (list_0.map GVector.cells)] (.tup [.f .f32 ((v_spec_LongestOf list_0).1), .b ((v_spec_LongestOf list_0).2)]) [] := by
  cases h0 : (decide ((list_0.length : Int) > 256)) with
  | true =>
    exact Fn.cast (fn_of_ev E0Ok hMixed (c := bodyOf Go.Proofs.Try.f38) (r := .tup [.f .f32 0, .b false]) (new := [])
      (ans := [.num (list_0.length : Int), .bo true, .keep []])
      (C := [(((list_0.map GVector.cells).length : Nat) : Int) = (list_0.length : Int),
        (decide ((list_0.length : Int) > 256)) = true])
      Go.Proofs.Try.func38 rfl (by kernel_rfl) (by kernel_rfl)
      ⟨len_ok, h0, trivial⟩) (by simp only [v_spec_LongestOf, h0, cond_true]) rfl
  | false =>
    exact Fn.cast (fn_of_ev E0Ok hMixed (c := bodyOf Go.Proofs.Try.f38) (r := .tup [.f .f32 (v_spec_l03Longest list_0), .b true]) (new := [])
      (ans := [.num (list_0.length : Int), .bo false, .call (.f .f32 (v_spec_l03Longest list_0)) [], .keep []])
      (C := [(((list_0.map GVector.cells).length : Nat) : Int) = (list_0.length : Int),
        (decide ((list_0.length : Int) > 256)) = false,
        Fn Go.Proofs.Try.prog 67 [.sl (list_0.map GVector.cells)] (.f .f32 (v_spec_l03Longest list_0)) []])
      Go.Proofs.Try.func38 rfl (by kernel_rfl) (by kernel_rfl)
      ⟨len_ok, h0, (t_spec_l03Longest list_0 (show list_0.length ≤ 1073741824 from (by first | assumption | omega | (simp at * <;> omega) | (simp_all <;> omega)))), trivial⟩) (by simp only [v_spec_LongestOf, h0, cond_false]) rfl

/-- impl.InnerOf -/
def v_impl_InnerOf (a_0 : GVector) (b_1 : GVector) : Nat := (fop .add .f32 (fop .add .f32 (fop .mul .f32 a_0.X b_1.X) (fop .mul .f32 a_0.Y b_1.Y)) (fop .mul .f32 a_0.Z b_1.Z))

theorem t_impl_InnerOf (a_0 : GVector) (b_1 : GVector)   : Fn Go.Proofs.Try.prog 55 [.agg [.f .f32 a_0.X, .f .f32 a_0.Y, .f .f32 a_0.Z], .agg [.f .f32 b_1.X, .f .f32 b_1.Y, .f .f32 b_1.Z]] (.f .f32 (v_impl_InnerOf a_0 b_1)) [] := by
  exact Fn.cast (fn_of_ev E0Ok hMixed (c := bodyOf Go.Proofs.Try.f55) (r := .f .f32 (fop .add .f32 (fop .add .f32 (fop .mul .f32 a_0.X b_1.X) (fop .mul .f32 a_0.Y b_1.Y)) (fop .mul .f32 a_0.Z b_1.Z))) (new := [])
    (ans := [.keep []])
    (C := [])
    Go.Proofs.Try.func55 rfl (by kernel_rfl) (by kernel_rfl)
    trivial) rfl rfl

/-- impl.RootNumber -/
def v_impl_RootNumber (x_0 : Nat) : Nat := (fcv .f64 .f32 (v_math_Sqrt (fcv .f32 .f64 x_0)))

theorem t_impl_RootNumber (x_0 : Nat)   : Fn Go.Proofs.Try.prog 95 [.f .f32 x_0] (.f .f32 (v_impl_RootNumber x_0)) [] := by
  exact Fn.cast (fn_of_ev E0Ok hMixed (c := bodyOf Go.Proofs.Try.f95) (r := .f .f32 (fcv .f64 .f32 (v_math_Sqrt (fcv .f32 .f64 x_0)))) (new := [])
    (ans := [.call (.f .f64 (v_math_Sqrt (fcv .f32 .f64 x_0))) [], .keep []])
    (C := [fcvOk .f32 .f64 x_0 = true,
      Fn Go.Proofs.Try.prog 104 [.f .f64 (fcv .f32 .f64 x_0)] (.f .f64 (v_math_Sqrt (fcv .f32 .f64 x_0))) [],
      fcvOk .f64 .f32 (v_math_Sqrt (fcv .f32 .f64 x_0)) = true])
    Go.Proofs.Try.func95 rfl (by kernel_rfl) (by kernel_rfl)
    ⟨(widenOk _), (t_math_Sqrt (fcv .f32 .f64 x_0)), (narrow_sqrt _), trivial⟩) rfl rfl

/-- impl.LongOf -/
def v_impl_LongOf (v_0 : GVector) : Nat := (v_impl_RootNumber (v_impl_InnerOf v_0 v_0))

theorem t_impl_LongOf (v_0 : GVector)   : Fn Go.Proofs.Try.prog 68 [.agg [.f .f32 v_0.X, .f .f32 v_0.Y, .f .f32 v_0.Z]] (.f .f32 (v_impl_LongOf v_0)) [] := by
  exact Fn.cast (fn_of_ev E0Ok hMixed (c := bodyOf Go.Proofs.Try.f68) (r := .f .f32 (v_impl_RootNumber (v_impl_InnerOf v_0 v_0))) (new := [])
    (ans := [.call (.f .f32 (v_impl_InnerOf v_0 v_0)) [], .call (.f .f32 (v_impl_RootNumber (v_impl_InnerOf v_0 v_0))) [], .keep []])
    (C := [Fn Go.Proofs.Try.prog 55 [.agg [.f .f32 v_0.X, .f .f32 v_0.Y, .f .f32 v_0.Z], .agg [.f .f32 v_0.X, .f .f32 v_0.Y, .f .f32 v_0.Z]] (.f .f32 (v_impl_InnerOf v_0 v_0)) [],
      Fn Go.Proofs.Try.prog 95 [.f .f32 (v_impl_InnerOf v_0 v_0)] (.f .f32 (v_impl_RootNumber (v_impl_InnerOf v_0 v_0))) []])
    Go.Proofs.Try.func68 rfl (by kernel_rfl) (by kernel_rfl)
    ⟨(t_impl_InnerOf v_0 v_0), (t_impl_RootNumber (v_impl_InnerOf v_0 v_0)), trivial⟩) rfl rfl

def lo_impl_LongestOf_1 (list_0 : (List GVector)) : Nat → Nat → Int → (Nat) ⊕ (Nat)
  | 0, _, _ => .inl default
  | k + 1, most_l0, x_l1 => (cond (decide (x_l1 < (list_0.length : Int)))
    (cond (fcmp .neq .f32 (v_impl_LongOf (list_0.getD x_l1.toNat default)) (v_impl_LongOf (list_0.getD x_l1.toNat default)))
      (.inl (v_impl_LongOf (list_0.getD x_l1.toNat default)))
      (lo_impl_LongestOf_1 list_0 k (fmax .f32 most_l0 (v_impl_LongOf (list_0.getD x_l1.toNat default))) (x_l1 + 1)))
    (.inr most_l0))

def ls_impl_LongestOf_1 (list_0 : (List GVector)) : (Nat) ⊕ (Nat) → Ex × St
  | .inl r => (.ret, ⟨[.any, .any, .f .f32 r, .b true, .any, .any, .any, .any, .any, .any, .any, .any, .any, .any, .any, .any, .any, .any, .any, .any, .any, .any, .any, .any, .any, .any, .any, .any], []⟩)
  | .inr r => ((.exit 0), ⟨[.sl (list_0.map GVector.cells), .any, .any, .any, .f .f32 r, .any, .any, .any, .sl (list_0.map GVector.cells), .i .i64 (list_0.length : Int), .b (decide ((list_0.length : Int) > 256)), .sl (list_0.map GVector.cells), .any, .any, .any, .any, .any, .any, .any, .any, .any, .any, .any, .any, .any, .any, .any, .any], []⟩)

theorem lp_impl_LongestOf_1 (list_0 : (List GVector)) (hp0 : list_0.length ≤ 1073741824) (hf_impl_LongestOf_1_0 : (decide ((list_0.length : Int) > 256)) = false) : ∀ (k : Nat) (most_l0 : Nat) (x_l1 : Int) (hv_impl_LongestOf_1_0 : 0 ≤ x_l1) (hk : ((list_0.length : Int) - x_l1).toNat < k), Lp Go.Proofs.Try.prog (sub (bodyOf Go.Proofs.Try.f39) [1, 1, 1, 0, 1, 0, 0]) ⟨[.sl (list_0.map GVector.cells), .any, .any, .any, .f .f32 most_l0, .any, .any, .any, .sl (list_0.map GVector.cells), .i .i64 (list_0.length : Int), .b (decide ((list_0.length : Int) > 256)), .sl (list_0.map GVector.cells), .i .i64 (list_0.length : Int), .i .i64 x_l1, .any, .any, .any, .any, .any, .any, .any, .any, .any, .any, .any, .any, .any, .any], []⟩ (ls_impl_LongestOf_1 list_0 (lo_impl_LongestOf_1 list_0 k most_l0 x_l1)).1 (ls_impl_LongestOf_1 list_0 (lo_impl_LongestOf_1 list_0 k most_l0 x_l1)).2 := by
  intro k
  induction k with
  | zero => intro most_l0 x_l1 hv_impl_LongestOf_1_0 hk; exact absurd hk (Nat.not_lt_zero _)
  | succ k ih =>
    intro most_l0 x_l1 hv_impl_LongestOf_1_0 hk
    cases h_0 : (decide (x_l1 < (list_0.length : Int))) with
    | true =>
      cases h_1 : (fcmp .neq .f32 (v_impl_LongOf (list_0.getD x_l1.toNat default)) (v_impl_LongOf (list_0.getD x_l1.toNat default))) with
      | true =>
        have e : lo_impl_LongestOf_1 list_0 (k + 1) most_l0 x_l1 = (.inl (v_impl_LongOf (list_0.getD x_l1.toNat default))) := by simp only [lo_impl_LongestOf_1, h_0, h_1, cond_true]
        rw [e]
        exact step_out E0Ok hMixed (e := .ret) (body := (sub (bodyOf Go.Proofs.Try.f39) [1, 1, 1, 0, 1, 0, 0])) (st := ⟨[.sl (list_0.map GVector.cells), .any, .any, .any, .f .f32 most_l0, .any, .any, .any, .sl (list_0.map GVector.cells), .i .i64 (list_0.length : Int), .b (decide ((list_0.length : Int) > 256)), .sl (list_0.map GVector.cells), .i .i64 (list_0.length : Int), .i .i64 x_l1, .any, .any, .any, .any, .any, .any, .any, .any, .any, .any, .any, .any, .any, .any], []⟩)
          (st2 := ⟨[.any, .any, .f .f32 (v_impl_LongOf (list_0.getD x_l1.toNat default)), .b true, .any, .any, .any, .any, .any, .any, .any, .any, .any, .any, .any, .any, .any, .any, .any, .any, .any, .any, .any, .any, .any, .any, .any, .any], []⟩)
          (ans := [.bo true, .el [.f .f32 ((list_0.getD x_l1.toNat default).X), .f .f32 ((list_0.getD x_l1.toNat default).Y), .f .f32 ((list_0.getD x_l1.toNat default).Z)], .call (.f .f32 (v_impl_LongOf (list_0.getD x_l1.toNat default))) [], .bo true])
          (mask := [false, false, true, true, false, false, false, false, false, false, false, false, false, false, false, false, false, false, false, false, false, false, false, false, false, false, false, false]) (n := 0)
          (C := [(decide (x_l1 < (list_0.length : Int))) = true,
            0 ≤ x_l1 ∧ (list_0.map GVector.cells)[Int.toNat x_l1]? = some [.f .f32 ((list_0.getD x_l1.toNat default).X), .f .f32 ((list_0.getD x_l1.toNat default).Y), .f .f32 ((list_0.getD x_l1.toNat default).Z)],
            Fn Go.Proofs.Try.prog 68 [.agg [.f .f32 ((list_0.getD x_l1.toNat default).X), .f .f32 ((list_0.getD x_l1.toNat default).Y), .f .f32 ((list_0.getD x_l1.toNat default).Z)]] (.f .f32 (v_impl_LongOf (list_0.getD x_l1.toNat default))) [],
            (fcmp .neq .f32 (v_impl_LongOf (list_0.getD x_l1.toNat default)) (v_impl_LongOf (list_0.getD x_l1.toNat default))) = true])
          (by kernel_rfl)
          ⟨h_0, (get_ok (by first | assumption | omega | (simp at * <;> omega) | (simp_all <;> omega)) (by first | assumption | omega | (simp at * <;> omega) | (simp_all <;> omega))), (t_impl_LongOf (list_0.getD x_l1.toNat default)), h_1, trivial⟩
          (by intro h; cases h) rfl
      | false =>
        have e : lo_impl_LongestOf_1 list_0 (k + 1) most_l0 x_l1 = (lo_impl_LongestOf_1 list_0 k (fmax .f32 most_l0 (v_impl_LongOf (list_0.getD x_l1.toNat default))) (x_l1 + 1)) := by simp only [lo_impl_LongestOf_1, h_0, h_1, cond_true, cond_false]
        rw [e]
        exact step_next E0Ok hMixed (body := (sub (bodyOf Go.Proofs.Try.f39) [1, 1, 1, 0, 1, 0, 0])) (st := ⟨[.sl (list_0.map GVector.cells), .any, .any, .any, .f .f32 most_l0, .any, .any, .any, .sl (list_0.map GVector.cells), .i .i64 (list_0.length : Int), .b (decide ((list_0.length : Int) > 256)), .sl (list_0.map GVector.cells), .i .i64 (list_0.length : Int), .i .i64 x_l1, .any, .any, .any, .any, .any, .any, .any, .any, .any, .any, .any, .any, .any, .any], []⟩)
          (st2 := ⟨[.sl (list_0.map GVector.cells), .any, .any, .any, .f .f32 (fmax .f32 most_l0 (v_impl_LongOf (list_0.getD x_l1.toNat default))), .any, .any, .any, .sl (list_0.map GVector.cells), .i .i64 (list_0.length : Int), .b (decide ((list_0.length : Int) > 256)), .sl (list_0.map GVector.cells), .i .i64 (list_0.length : Int), .i .i64 (x_l1 + 1), .any, .any, .any, .any, .any, .any, .any, .any, .any, .any, .any, .any, .any, .any], []⟩)
          (ans := [.bo true, .el [.f .f32 ((list_0.getD x_l1.toNat default).X), .f .f32 ((list_0.getD x_l1.toNat default).Y), .f .f32 ((list_0.getD x_l1.toNat default).Z)], .call (.f .f32 (v_impl_LongOf (list_0.getD x_l1.toNat default))) [], .bo false, .num (x_l1 + 1)])
          (mask := [true, false, false, false, true, false, false, false, true, true, true, true, true, true, false, false, false, false, false, false, false, false, false, false, false, false, false, false]) (n := 0)
          (C := [(decide (x_l1 < (list_0.length : Int))) = true,
            0 ≤ x_l1 ∧ (list_0.map GVector.cells)[Int.toNat x_l1]? = some [.f .f32 ((list_0.getD x_l1.toNat default).X), .f .f32 ((list_0.getD x_l1.toNat default).Y), .f .f32 ((list_0.getD x_l1.toNat default).Z)],
            Fn Go.Proofs.Try.prog 68 [.agg [.f .f32 ((list_0.getD x_l1.toNat default).X), .f .f32 ((list_0.getD x_l1.toNat default).Y), .f .f32 ((list_0.getD x_l1.toNat default).Z)]] (.f .f32 (v_impl_LongOf (list_0.getD x_l1.toNat default))) [],
            (fcmp .neq .f32 (v_impl_LongOf (list_0.getD x_l1.toNat default)) (v_impl_LongOf (list_0.getD x_l1.toNat default))) = false,
            IntKind.wrap .i64 (x_l1 + 1) = (x_l1 + 1)])
          (by kernel_rfl)
          ⟨h_0, (get_ok (by first | assumption | omega | (simp at * <;> omega) | (simp_all <;> omega)) (by first | assumption | omega | (simp at * <;> omega) | (simp_all <;> omega))), (t_impl_LongOf (list_0.getD x_l1.toNat default)), h_1, (wrap_id (by first | assumption | omega | (simp at * <;> omega) | (simp_all <;> omega)) (by first | assumption | omega | (simp at * <;> omega) | (simp_all <;> omega))), trivial⟩
          rfl (ih (fmax .f32 most_l0 (v_impl_LongOf (list_0.getD x_l1.toNat default))) (x_l1 + 1) (show 0 ≤ (x_l1 + 1) from (by first | assumption | omega | (simp at * <;> omega) | (simp_all <;> omega))) (by first | assumption | omega | (simp at * <;> omega) | (simp_all <;> omega)))
    | false =>
      have e : lo_impl_LongestOf_1 list_0 (k + 1) most_l0 x_l1 = (.inr most_l0) := by simp only [lo_impl_LongestOf_1, h_0, cond_false]
      rw [e]
      exact step_out E0Ok hMixed (e := (.exit 0)) (body := (sub (bodyOf Go.Proofs.Try.f39) [1, 1, 1, 0, 1, 0, 0])) (st := ⟨[.sl (list_0.map GVector.cells), .any, .any, .any, .f .f32 most_l0, .any, .any, .any, .sl (list_0.map GVector.cells), .i .i64 (list_0.length : Int), .b (decide ((list_0.length : Int) > 256)), .sl (list_0.map GVector.cells), .i .i64 (list_0.length : Int), .i .i64 x_l1, .any, .any, .any, .any, .any, .any, .any, .any, .any, .any, .any, .any, .any, .any], []⟩)
        (st2 := ⟨[.sl (list_0.map GVector.cells), .any, .any, .any, .f .f32 most_l0, .any, .any, .any, .sl (list_0.map GVector.cells), .i .i64 (list_0.length : Int), .b (decide ((list_0.length : Int) > 256)), .sl (list_0.map GVector.cells), .any, .any, .any, .any, .any, .any, .any, .any, .any, .any, .any, .any, .any, .any, .any, .any], []⟩)
        (ans := [.bo false])
        (mask := [true, false, false, false, true, false, false, false, true, true, true, true, false, false, false, false, false, false, false, false, false, false, false, false, false, false, false, false]) (n := 0)
        (C := [(decide (x_l1 < (list_0.length : Int))) = false])
        (by kernel_rfl)
        ⟨h_0, trivial⟩
        (by intro h; cases h) rfl

def lr_impl_LongestOf_1_0 (list_0 : (List GVector)) : (Nat) ⊕ (Nat) := (lo_impl_LongestOf_1 list_0 (((list_0.length : Int) - 0).toNat + 1) 0 0)

/-- impl.LongestOf -/
def v_impl_LongestOf (list_0 : (List GVector)) : Nat × Bool := (cond (decide ((list_0.length : Int) > 256))
  (0, false)
  (match (lr_impl_LongestOf_1_0 list_0) with
    | .inl r2 => (r2, true)
    | .inr r2 => (r2, true)))

theorem t_impl_LongestOf (list_0 : (List GVector)) (hp0 : list_0.length ≤ 1073741824)  : Fn Go.Proofs.Try.prog 39 [.sl (list_0.map GVector.cells)] (.tup [.f .f32 ((v_impl_LongestOf list_0).1), .b ((v_impl_LongestOf list_0).2)]) [] := by
  cases h0 : (decide ((list_0.length : Int) > 256)) with
  | true =>
    exact Fn.cast (fn_of_ev E0Ok hMixed (c := bodyOf Go.Proofs.Try.f39) (r := .tup [.f .f32 0, .b false]) (new := [])
      (ans := [.num (list_0.length : Int), .bo true, .keep []])
      (C := [(((list_0.map GVector.cells).length : Nat) : Int) = (list_0.length : Int),
        (decide ((list_0.length : Int) > 256)) = true])
      Go.Proofs.Try.func39 rfl (by kernel_rfl) (by kernel_rfl)
      ⟨len_ok, h0, trivial⟩) (by simp only [v_impl_LongestOf, h0, cond_true]) rfl
  | false =>
    cases h1 : (lr_impl_LongestOf_1_0 list_0) with
    | inl r2 =>
      exact Fn.cast (fn_of_ev E0Ok hMixed (c := bodyOf Go.Proofs.Try.f39) (r := .tup [.f .f32 r2, .b true]) (new := [])
        (ans := [.num (list_0.length : Int), .bo false, .num (list_0.length : Int), .loop [true, false, false, false, true, false, false, false, true, true, true, true, true, true, false, false, false, false, false, false, false, false, false, false, false, false, false, false] 0 .ret ⟨[.any, .any, .f .f32 r2, .b true, .any, .any, .any, .any, .any, .any, .any, .any, .any, .any, .any, .any, .any, .any, .any, .any, .any, .any, .any, .any, .any, .any, .any, .any], []⟩, .keep []])
        (C := [(((list_0.map GVector.cells).length : Nat) : Int) = (list_0.length : Int),
          (decide ((list_0.length : Int) > 256)) = false,
          (((list_0.map GVector.cells).length : Nat) : Int) = (list_0.length : Int),
          Lp Go.Proofs.Try.prog (sub (bodyOf Go.Proofs.Try.f39) [1, 1, 1, 0, 1, 0, 0]) ⟨[.sl (list_0.map GVector.cells), .any, .any, .any, .f .f32 0, .any, .any, .any, .sl (list_0.map GVector.cells), .i .i64 (list_0.length : Int), .b (decide ((list_0.length : Int) > 256)), .sl (list_0.map GVector.cells), .i .i64 (list_0.length : Int), .i .i64 0, .any, .any, .any, .any, .any, .any, .any, .any, .any, .any, .any, .any, .any, .any], []⟩ .ret ⟨[.any, .any, .f .f32 r2, .b true, .any, .any, .any, .any, .any, .any, .any, .any, .any, .any, .any, .any, .any, .any, .any, .any, .any, .any, .any, .any, .any, .any, .any, .any], []⟩])
        Go.Proofs.Try.func39 rfl (by kernel_rfl) (by kernel_rfl)
        ⟨len_ok, h0, len_ok, (by have q := (lp_impl_LongestOf_1 list_0 hp0 h0 (((list_0.length : Int) - 0).toNat + 1) 0 0 (show 0 ≤ 0 from (by first | assumption | omega | (simp at * <;> omega) | (simp_all <;> omega))) (Nat.lt_succ_self _)); rw [show (lo_impl_LongestOf_1 list_0 (((list_0.length : Int) - 0).toNat + 1) 0 0) = _ from rfl] at q; rw [show (lo_impl_LongestOf_1 list_0 (((list_0.length : Int) - 0).toNat + 1) 0 0) = (lr_impl_LongestOf_1_0 list_0) from rfl, h1] at q; exact q), trivial⟩) (by simp only [v_impl_LongestOf, h0, h1, cond_false]) rfl
    | inr r2 =>
      exact Fn.cast (fn_of_ev E0Ok hMixed (c := bodyOf Go.Proofs.Try.f39) (r := .tup [.f .f32 r2, .b true]) (new := [])
        (ans := [.num (list_0.length : Int), .bo false, .num (list_0.length : Int), .loop [true, false, false, false, true, false, false, false, true, true, true, true, true, true, false, false, false, false, false, false, false, false, false, false, false, false, false, false] 0 (.exit 0) ⟨[.sl (list_0.map GVector.cells), .any, .any, .any, .f .f32 r2, .any, .any, .any, .sl (list_0.map GVector.cells), .i .i64 (list_0.length : Int), .b (decide ((list_0.length : Int) > 256)), .sl (list_0.map GVector.cells), .any, .any, .any, .any, .any, .any, .any, .any, .any, .any, .any, .any, .any, .any, .any, .any], []⟩, .keep []])
        (C := [(((list_0.map GVector.cells).length : Nat) : Int) = (list_0.length : Int),
          (decide ((list_0.length : Int) > 256)) = false,
          (((list_0.map GVector.cells).length : Nat) : Int) = (list_0.length : Int),
          Lp Go.Proofs.Try.prog (sub (bodyOf Go.Proofs.Try.f39) [1, 1, 1, 0, 1, 0, 0]) ⟨[.sl (list_0.map GVector.cells), .any, .any, .any, .f .f32 0, .any, .any, .any, .sl (list_0.map GVector.cells), .i .i64 (list_0.length : Int), .b (decide ((list_0.length : Int) > 256)), .sl (list_0.map GVector.cells), .i .i64 (list_0.length : Int), .i .i64 0, .any, .any, .any, .any, .any, .any, .any, .any, .any, .any, .any, .any, .any, .any], []⟩ (.exit 0) ⟨[.sl (list_0.map GVector.cells), .any, .any, .any, .f .f32 r2, .any, .any, .any, .sl (list_0.map GVector.cells), .i .i64 (list_0.length : Int), .b (decide ((list_0.length : Int) > 256)), .sl (list_0.map GVector.cells), .any, .any, .any, .any, .any, .any, .any, .any, .any, .any, .any, .any, .any, .any, .any, .any], []⟩])
        Go.Proofs.Try.func39 rfl (by kernel_rfl) (by kernel_rfl)
        ⟨len_ok, h0, len_ok, (by have q := (lp_impl_LongestOf_1 list_0 hp0 h0 (((list_0.length : Int) - 0).toNat + 1) 0 0 (show 0 ≤ 0 from (by first | assumption | omega | (simp at * <;> omega) | (simp_all <;> omega))) (Nat.lt_succ_self _)); rw [show (lo_impl_LongestOf_1 list_0 (((list_0.length : Int) - 0).toNat + 1) 0 0) = _ from rfl] at q; rw [show (lo_impl_LongestOf_1 list_0 (((list_0.length : Int) - 0).toNat + 1) 0 0) = (lr_impl_LongestOf_1_0 list_0) from rfl, h1] at q; exact q), trivial⟩) (by simp only [v_impl_LongestOf, h0, h1, cond_false]) rfl

/-- laws.sameFloat -/
def v_laws_sameFloat (a_0 : Nat) (b_1 : Nat) : Bool := (cond (fcmp .neq .f64 a_0 a_0)
  (fcmp .neq .f64 b_1 b_1)
  (cond (fcmp .neq .f64 b_1 b_1)
    false
    (cond (fcmp .eql .f64 a_0 0)
      (cond (fcmp .eql .f64 b_1 0)
        ((fcmp .gtr .f64 (fop .quo .f64 4607182418800017408 a_0) 0) == (fcmp .gtr .f64 (fop .quo .f64 4607182418800017408 b_1) 0))
        (fcmp .eql .f64 a_0 b_1))
      (fcmp .eql .f64 a_0 b_1))))

theorem t_laws_sameFloat (a_0 : Nat) (b_1 : Nat)   : Fn Go.Proofs.Try.prog 17 [.f .f64 a_0, .f .f64 b_1] (.b (v_laws_sameFloat a_0 b_1)) [] := by
  cases h0 : (fcmp .neq .f64 a_0 a_0) with
  | true =>
    exact Fn.cast (fn_of_ev E0Ok hMixed (c := bodyOf Go.Proofs.Try.f17) (r := .b (fcmp .neq .f64 b_1 b_1)) (new := [])
      (ans := [.bo true, .bo true, .bo true, .bo true, .bo true, .bo true, .bo true, .bo true, .bo true, .keep []])
      (C := [(fcmp .neq .f64 a_0 a_0) = true,
        (fcmp .neq .f64 a_0 a_0) = true,
        (fcmp .neq .f64 a_0 a_0) = true,
        (fcmp .neq .f64 a_0 a_0) = true,
        true = true,
        (fcmp .neq .f64 a_0 a_0) = true,
        (fcmp .neq .f64 a_0 a_0) = true,
        (fcmp .neq .f64 a_0 a_0) = true,
        (fcmp .neq .f64 a_0 a_0) = true])
      Go.Proofs.Try.func17 rfl (by kernel_rfl) (by kernel_rfl)
      ⟨h0, h0, h0, h0, rfl, h0, h0, h0, h0, trivial⟩) (by simp only [v_laws_sameFloat, h0, cond_true]) rfl
  | false =>
    cases h1 : (fcmp .neq .f64 b_1 b_1) with
    | true =>
      exact Fn.cast (fn_of_ev E0Ok hMixed (c := bodyOf Go.Proofs.Try.f17) (r := .b false) (new := [])
        (ans := [.bo false, .bo false, .bo false, .bo false, .bo true, .bo false, .bo false, .bo false, .bo false, .keep []])
        (C := [(fcmp .neq .f64 a_0 a_0) = false,
          (fcmp .neq .f64 a_0 a_0) = false,
          (fcmp .neq .f64 a_0 a_0) = false,
          (fcmp .neq .f64 a_0 a_0) = false,
          (fcmp .neq .f64 b_1 b_1) = true,
          (fcmp .neq .f64 a_0 a_0) = false,
          (fcmp .neq .f64 a_0 a_0) = false,
          (fcmp .neq .f64 a_0 a_0) = false,
          (fcmp .neq .f64 a_0 a_0) = false])
        Go.Proofs.Try.func17 rfl (by kernel_rfl) (by kernel_rfl)
        ⟨h0, h0, h0, h0, h1, h0, h0, h0, h0, trivial⟩) (by simp only [v_laws_sameFloat, h0, h1, cond_true, cond_false]) rfl
    | false =>
      cases h2 : (fcmp .eql .f64 a_0 0) with
      | true =>
        cases h3 : (fcmp .eql .f64 b_1 0) with
        | true =>
          exact Fn.cast (fn_of_ev E0Ok hMixed (c := bodyOf Go.Proofs.Try.f17) (r := .b ((fcmp .gtr .f64 (fop .quo .f64 4607182418800017408 a_0) 0) == (fcmp .gtr .f64 (fop .quo .f64 4607182418800017408 b_1) 0))) (new := [])
            (ans := [.bo false, .bo false, .bo false, .bo false, .bo false, .bo true, .bo true, .bo true, .bo true, .keep []])
            (C := [(fcmp .neq .f64 a_0 a_0) = false,
              (fcmp .neq .f64 a_0 a_0) = false,
              (fcmp .neq .f64 a_0 a_0) = false,
              (fcmp .neq .f64 a_0 a_0) = false,
              (fcmp .neq .f64 b_1 b_1) = false,
              (fcmp .eql .f64 a_0 0) = true,
              (fcmp .eql .f64 a_0 0) = true,
              (fcmp .eql .f64 a_0 0) = true,
              (fcmp .eql .f64 b_1 0) = true])
            Go.Proofs.Try.func17 rfl (by kernel_rfl) (by kernel_rfl)
            ⟨h0, h0, h0, h0, h1, h2, h2, h2, h3, trivial⟩) (by simp only [v_laws_sameFloat, h0, h1, h2, h3, cond_true, cond_false]) rfl
        | false =>
          exact Fn.cast (fn_of_ev E0Ok hMixed (c := bodyOf Go.Proofs.Try.f17) (r := .b (fcmp .eql .f64 a_0 b_1)) (new := [])
            (ans := [.bo false, .bo false, .bo false, .bo false, .bo false, .bo true, .bo true, .bo true, .bo false, .keep []])
            (C := [(fcmp .neq .f64 a_0 a_0) = false,
              (fcmp .neq .f64 a_0 a_0) = false,
              (fcmp .neq .f64 a_0 a_0) = false,
              (fcmp .neq .f64 a_0 a_0) = false,
              (fcmp .neq .f64 b_1 b_1) = false,
              (fcmp .eql .f64 a_0 0) = true,
              (fcmp .eql .f64 a_0 0) = true,
              (fcmp .eql .f64 a_0 0) = true,
              (fcmp .eql .f64 b_1 0) = false])
            Go.Proofs.Try.func17 rfl (by kernel_rfl) (by kernel_rfl)
            ⟨h0, h0, h0, h0, h1, h2, h2, h2, h3, trivial⟩) (by simp only [v_laws_sameFloat, h0, h1, h2, h3, cond_true, cond_false]) rfl
      | false =>
        exact Fn.cast (fn_of_ev E0Ok hMixed (c := bodyOf Go.Proofs.Try.f17) (r := .b (fcmp .eql .f64 a_0 b_1)) (new := [])
          (ans := [.bo false, .bo false, .bo false, .bo false, .bo false, .bo false, .bo false, .bo false, .bo false, .keep []])
          (C := [(fcmp .neq .f64 a_0 a_0) = false,
            (fcmp .neq .f64 a_0 a_0) = false,
            (fcmp .neq .f64 a_0 a_0) = false,
            (fcmp .neq .f64 a_0 a_0) = false,
            (fcmp .neq .f64 b_1 b_1) = false,
            (fcmp .eql .f64 a_0 0) = false,
            (fcmp .eql .f64 a_0 0) = false,
            (fcmp .eql .f64 a_0 0) = false,
            false = false])
          Go.Proofs.Try.func17 rfl (by kernel_rfl) (by kernel_rfl)
          ⟨h0, h0, h0, h0, h1, h2, h2, h2, rfl, trivial⟩) (by simp only [v_laws_sameFloat, h0, h1, h2, cond_false]) rfl

theorem same_self (x : Nat) : v_laws_sameFloat x x = true := by
  unfold v_laws_sameFloat
  cases h : fcmp .neq .f64 x x
  · simp only [cond_false]
    have h2 : fcmp .eql .f64 x x = true := by
      unfold fcmp at h ⊢
      simpa using h
    cases fcmp .eql .f64 x 0 <;> simp [h2]
  · rfl

/-- laws.eqVector -/
def v_laws_eqVector (a_0 : GVector) (b_1 : GVector) : Bool := (cond (v_laws_sameFloat (fcv .f32 .f64 a_0.X) (fcv .f32 .f64 b_1.X))
  (cond (v_laws_sameFloat (fcv .f32 .f64 a_0.Y) (fcv .f32 .f64 b_1.Y))
    (cond (v_laws_sameFloat (fcv .f32 .f64 a_0.Z) (fcv .f32 .f64 b_1.Z))
      true
      false)
    false)
  false)

theorem t_laws_eqVector (a_0 : GVector) (b_1 : GVector)   : Fn Go.Proofs.Try.prog 25 [.agg [.f .f32 a_0.X, .f .f32 a_0.Y, .f .f32 a_0.Z], .agg [.f .f32 b_1.X, .f .f32 b_1.Y, .f .f32 b_1.Z]] (.b (v_laws_eqVector a_0 b_1)) [] := by
  cases h0 : (v_laws_sameFloat (fcv .f32 .f64 a_0.X) (fcv .f32 .f64 b_1.X)) with
  | true =>
    cases h1 : (v_laws_sameFloat (fcv .f32 .f64 a_0.Y) (fcv .f32 .f64 b_1.Y)) with
    | true =>
      cases h2 : (v_laws_sameFloat (fcv .f32 .f64 a_0.Z) (fcv .f32 .f64 b_1.Z)) with
      | true =>
        exact Fn.cast (fn_of_ev E0Ok hMixed (c := bodyOf Go.Proofs.Try.f25) (r := .b true) (new := [])
          (ans := [.call (.b (v_laws_sameFloat (fcv .f32 .f64 a_0.X) (fcv .f32 .f64 b_1.X))) [], .bo false, .call (.b (v_laws_sameFloat (fcv .f32 .f64 a_0.Y) (fcv .f32 .f64 b_1.Y))) [], .bo false, .call (.b (v_laws_sameFloat (fcv .f32 .f64 a_0.Z) (fcv .f32 .f64 b_1.Z))) [], .bo false, .keep []])
          (C := [fcvOk .f32 .f64 a_0.X = true,
            fcvOk .f32 .f64 b_1.X = true,
            Fn Go.Proofs.Try.prog 17 [.f .f64 (fcv .f32 .f64 a_0.X), .f .f64 (fcv .f32 .f64 b_1.X)] (.b (v_laws_sameFloat (fcv .f32 .f64 a_0.X) (fcv .f32 .f64 b_1.X))) [],
            (!(v_laws_sameFloat (fcv .f32 .f64 a_0.X) (fcv .f32 .f64 b_1.X))) = false,
            fcvOk .f32 .f64 a_0.Y = true,
            fcvOk .f32 .f64 b_1.Y = true,
            Fn Go.Proofs.Try.prog 17 [.f .f64 (fcv .f32 .f64 a_0.Y), .f .f64 (fcv .f32 .f64 b_1.Y)] (.b (v_laws_sameFloat (fcv .f32 .f64 a_0.Y) (fcv .f32 .f64 b_1.Y))) [],
            (!(v_laws_sameFloat (fcv .f32 .f64 a_0.Y) (fcv .f32 .f64 b_1.Y))) = false,
            fcvOk .f32 .f64 a_0.Z = true,
            fcvOk .f32 .f64 b_1.Z = true,
            Fn Go.Proofs.Try.prog 17 [.f .f64 (fcv .f32 .f64 a_0.Z), .f .f64 (fcv .f32 .f64 b_1.Z)] (.b (v_laws_sameFloat (fcv .f32 .f64 a_0.Z) (fcv .f32 .f64 b_1.Z))) [],
            (!(v_laws_sameFloat (fcv .f32 .f64 a_0.Z) (fcv .f32 .f64 b_1.Z))) = false])
          Go.Proofs.Try.func25 rfl (by kernel_rfl) (by kernel_rfl)
          ⟨(widenOk _), (widenOk _), (t_laws_sameFloat (fcv .f32 .f64 a_0.X) (fcv .f32 .f64 b_1.X)), (congrArg not h0), (widenOk _), (widenOk _), (t_laws_sameFloat (fcv .f32 .f64 a_0.Y) (fcv .f32 .f64 b_1.Y)), (congrArg not h1), (widenOk _), (widenOk _), (t_laws_sameFloat (fcv .f32 .f64 a_0.Z) (fcv .f32 .f64 b_1.Z)), (congrArg not h2), trivial⟩) (by simp only [v_laws_eqVector, h0, h1, h2, cond_true]) rfl
      | false =>
        exact Fn.cast (fn_of_ev E0Ok hMixed (c := bodyOf Go.Proofs.Try.f25) (r := .b false) (new := [])
          (ans := [.call (.b (v_laws_sameFloat (fcv .f32 .f64 a_0.X) (fcv .f32 .f64 b_1.X))) [], .bo false, .call (.b (v_laws_sameFloat (fcv .f32 .f64 a_0.Y) (fcv .f32 .f64 b_1.Y))) [], .bo false, .call (.b (v_laws_sameFloat (fcv .f32 .f64 a_0.Z) (fcv .f32 .f64 b_1.Z))) [], .bo true, .keep []])
          (C := [fcvOk .f32 .f64 a_0.X = true,
            fcvOk .f32 .f64 b_1.X = true,
            Fn Go.Proofs.Try.prog 17 [.f .f64 (fcv .f32 .f64 a_0.X), .f .f64 (fcv .f32 .f64 b_1.X)] (.b (v_laws_sameFloat (fcv .f32 .f64 a_0.X) (fcv .f32 .f64 b_1.X))) [],
            (!(v_laws_sameFloat (fcv .f32 .f64 a_0.X) (fcv .f32 .f64 b_1.X))) = false,
            fcvOk .f32 .f64 a_0.Y = true,
            fcvOk .f32 .f64 b_1.Y = true,
            Fn Go.Proofs.Try.prog 17 [.f .f64 (fcv .f32 .f64 a_0.Y), .f .f64 (fcv .f32 .f64 b_1.Y)] (.b (v_laws_sameFloat (fcv .f32 .f64 a_0.Y) (fcv .f32 .f64 b_1.Y))) [],
            (!(v_laws_sameFloat (fcv .f32 .f64 a_0.Y) (fcv .f32 .f64 b_1.Y))) = false,
            fcvOk .f32 .f64 a_0.Z = true,
            fcvOk .f32 .f64 b_1.Z = true,
            Fn Go.Proofs.Try.prog 17 [.f .f64 (fcv .f32 .f64 a_0.Z), .f .f64 (fcv .f32 .f64 b_1.Z)] (.b (v_laws_sameFloat (fcv .f32 .f64 a_0.Z) (fcv .f32 .f64 b_1.Z))) [],
            (!(v_laws_sameFloat (fcv .f32 .f64 a_0.Z) (fcv .f32 .f64 b_1.Z))) = true])
          Go.Proofs.Try.func25 rfl (by kernel_rfl) (by kernel_rfl)
          ⟨(widenOk _), (widenOk _), (t_laws_sameFloat (fcv .f32 .f64 a_0.X) (fcv .f32 .f64 b_1.X)), (congrArg not h0), (widenOk _), (widenOk _), (t_laws_sameFloat (fcv .f32 .f64 a_0.Y) (fcv .f32 .f64 b_1.Y)), (congrArg not h1), (widenOk _), (widenOk _), (t_laws_sameFloat (fcv .f32 .f64 a_0.Z) (fcv .f32 .f64 b_1.Z)), (congrArg not h2), trivial⟩) (by simp only [v_laws_eqVector, h0, h1, h2, cond_true, cond_false]) rfl
    | false =>
      exact Fn.cast (fn_of_ev E0Ok hMixed (c := bodyOf Go.Proofs.Try.f25) (r := .b false) (new := [])
        (ans := [.call (.b (v_laws_sameFloat (fcv .f32 .f64 a_0.X) (fcv .f32 .f64 b_1.X))) [], .bo false, .call (.b (v_laws_sameFloat (fcv .f32 .f64 a_0.Y) (fcv .f32 .f64 b_1.Y))) [], .bo true, .keep []])
        (C := [fcvOk .f32 .f64 a_0.X = true,
          fcvOk .f32 .f64 b_1.X = true,
          Fn Go.Proofs.Try.prog 17 [.f .f64 (fcv .f32 .f64 a_0.X), .f .f64 (fcv .f32 .f64 b_1.X)] (.b (v_laws_sameFloat (fcv .f32 .f64 a_0.X) (fcv .f32 .f64 b_1.X))) [],
          (!(v_laws_sameFloat (fcv .f32 .f64 a_0.X) (fcv .f32 .f64 b_1.X))) = false,
          fcvOk .f32 .f64 a_0.Y = true,
          fcvOk .f32 .f64 b_1.Y = true,
          Fn Go.Proofs.Try.prog 17 [.f .f64 (fcv .f32 .f64 a_0.Y), .f .f64 (fcv .f32 .f64 b_1.Y)] (.b (v_laws_sameFloat (fcv .f32 .f64 a_0.Y) (fcv .f32 .f64 b_1.Y))) [],
          (!(v_laws_sameFloat (fcv .f32 .f64 a_0.Y) (fcv .f32 .f64 b_1.Y))) = true])
        Go.Proofs.Try.func25 rfl (by kernel_rfl) (by kernel_rfl)
        ⟨(widenOk _), (widenOk _), (t_laws_sameFloat (fcv .f32 .f64 a_0.X) (fcv .f32 .f64 b_1.X)), (congrArg not h0), (widenOk _), (widenOk _), (t_laws_sameFloat (fcv .f32 .f64 a_0.Y) (fcv .f32 .f64 b_1.Y)), (congrArg not h1), trivial⟩) (by simp only [v_laws_eqVector, h0, h1, cond_true, cond_false]) rfl
  | false =>
    exact Fn.cast (fn_of_ev E0Ok hMixed (c := bodyOf Go.Proofs.Try.f25) (r := .b false) (new := [])
      (ans := [.call (.b (v_laws_sameFloat (fcv .f32 .f64 a_0.X) (fcv .f32 .f64 b_1.X))) [], .bo true, .keep []])
      (C := [fcvOk .f32 .f64 a_0.X = true,
        fcvOk .f32 .f64 b_1.X = true,
        Fn Go.Proofs.Try.prog 17 [.f .f64 (fcv .f32 .f64 a_0.X), .f .f64 (fcv .f32 .f64 b_1.X)] (.b (v_laws_sameFloat (fcv .f32 .f64 a_0.X) (fcv .f32 .f64 b_1.X))) [],
        (!(v_laws_sameFloat (fcv .f32 .f64 a_0.X) (fcv .f32 .f64 b_1.X))) = true])
      Go.Proofs.Try.func25 rfl (by kernel_rfl) (by kernel_rfl)
      ⟨(widenOk _), (widenOk _), (t_laws_sameFloat (fcv .f32 .f64 a_0.X) (fcv .f32 .f64 b_1.X)), (congrArg not h0), trivial⟩) (by simp only [v_laws_eqVector, h0, cond_false]) rfl

theorem eqVector_self (a : GVector) : v_laws_eqVector a a = true := by
  simp [v_laws_eqVector, same_self]

def lo_laws_eqVectorS_1 (a_0 : (List GVector)) (b_1 : (List GVector)) : Nat → Int → (Unit) ⊕ (Unit)
  | 0, _ => .inl default
  | k + 1, i_l0 => (cond (decide (i_l0 < (a_0.length : Int)))
    (cond (v_laws_eqVector (a_0.getD i_l0.toNat default) (b_1.getD i_l0.toNat default))
      (lo_laws_eqVectorS_1 a_0 b_1 k (i_l0 + 1))
      (.inl ()))
    (.inr ()))

def ls_laws_eqVectorS_1 (a_0 : (List GVector)) (b_1 : (List GVector)) : (Unit) ⊕ (Unit) → Ex × St
  | .inl r => (.ret, ⟨[.any, .any, .any, .any, .b false, .any, .any, .any, .any, .any, .any, .any, .any, .any, .any, .any, .any, .any, .any, .any, .any, .any, .any, .any, .any, .any, .any], []⟩)
  | .inr r => ((.exit 0), ⟨[.sl (a_0.map GVector.cells), .sl (b_1.map GVector.cells), .any, .any, .any, .any, .sl (a_0.map GVector.cells), .i .i64 (a_0.length : Int), .sl (b_1.map GVector.cells), .i .i64 (b_1.length : Int), .b ((a_0.length : Int) != (b_1.length : Int)), .any, .any, .any, .any, .any, .any, .any, .any, .any, .any, .any, .any, .any, .any, .any, .any], []⟩)

theorem lp_laws_eqVectorS_1 (a_0 : (List GVector)) (b_1 : (List GVector)) (hp0 : a_0.length ≤ 1073741824) (hp1 : b_1.length ≤ 1073741824) (hf_laws_eqVectorS_1_0 : ((a_0.length : Int) != (b_1.length : Int)) = false) : ∀ (k : Nat) (i_l0 : Int) (hv_laws_eqVectorS_1_0 : 0 ≤ i_l0) (hk : ((a_0.length : Int) - i_l0).toNat < k), Lp Go.Proofs.Try.prog (sub (bodyOf Go.Proofs.Try.f26) [1, 1, 0, 1, 0, 0]) ⟨[.sl (a_0.map GVector.cells), .sl (b_1.map GVector.cells), .any, .any, .any, .i .i64 i_l0, .sl (a_0.map GVector.cells), .i .i64 (a_0.length : Int), .sl (b_1.map GVector.cells), .i .i64 (b_1.length : Int), .b ((a_0.length : Int) != (b_1.length : Int)), .any, .any, .any, .any, .any, .any, .any, .any, .any, .any, .any, .any, .any, .any, .any, .any], []⟩ (ls_laws_eqVectorS_1 a_0 b_1 (lo_laws_eqVectorS_1 a_0 b_1 k i_l0)).1 (ls_laws_eqVectorS_1 a_0 b_1 (lo_laws_eqVectorS_1 a_0 b_1 k i_l0)).2 := by
  intro k
  induction k with
  | zero => intro i_l0 hv_laws_eqVectorS_1_0 hk; exact absurd hk (Nat.not_lt_zero _)
  | succ k ih =>
    intro i_l0 hv_laws_eqVectorS_1_0 hk
    cases h_0 : (decide (i_l0 < (a_0.length : Int))) with
    | true =>
      cases h_1 : (v_laws_eqVector (a_0.getD i_l0.toNat default) (b_1.getD i_l0.toNat default)) with
      | true =>
        have e : lo_laws_eqVectorS_1 a_0 b_1 (k + 1) i_l0 = (lo_laws_eqVectorS_1 a_0 b_1 k (i_l0 + 1)) := by simp only [lo_laws_eqVectorS_1, h_0, h_1, cond_true]
        rw [e]
        exact step_next E0Ok hMixed (body := (sub (bodyOf Go.Proofs.Try.f26) [1, 1, 0, 1, 0, 0])) (st := ⟨[.sl (a_0.map GVector.cells), .sl (b_1.map GVector.cells), .any, .any, .any, .i .i64 i_l0, .sl (a_0.map GVector.cells), .i .i64 (a_0.length : Int), .sl (b_1.map GVector.cells), .i .i64 (b_1.length : Int), .b ((a_0.length : Int) != (b_1.length : Int)), .any, .any, .any, .any, .any, .any, .any, .any, .any, .any, .any, .any, .any, .any, .any, .any], []⟩)
          (st2 := ⟨[.sl (a_0.map GVector.cells), .sl (b_1.map GVector.cells), .any, .any, .any, .i .i64 (i_l0 + 1), .sl (a_0.map GVector.cells), .i .i64 (a_0.length : Int), .sl (b_1.map GVector.cells), .i .i64 (b_1.length : Int), .b ((a_0.length : Int) != (b_1.length : Int)), .any, .any, .any, .any, .any, .any, .any, .any, .any, .any, .any, .any, .any, .any, .any, .any], []⟩)
          (ans := [.num (a_0.length : Int), .bo true, .keep [8, 8], .el [.f .f32 ((a_0.getD i_l0.toNat default).X), .f .f32 ((a_0.getD i_l0.toNat default).Y), .f .f32 ((a_0.getD i_l0.toNat default).Z)], .el [.f .f32 ((b_1.getD i_l0.toNat default).X), .f .f32 ((b_1.getD i_l0.toNat default).Y), .f .f32 ((b_1.getD i_l0.toNat default).Z)], .call (.b (v_laws_eqVector (a_0.getD i_l0.toNat default) (b_1.getD i_l0.toNat default))) [], .bo false, .num (i_l0 + 1)])
          (mask := [true, true, false, false, false, true, true, true, true, true, true, false, false, false, false, false, false, false, false, false, false, false, false, false, false, false, false]) (n := 0)
          (C := [(((a_0.map GVector.cells).length : Nat) : Int) = (a_0.length : Int),
            (decide (i_l0 < (a_0.length : Int))) = true,
            0 ≤ i_l0 ∧ (a_0.map GVector.cells)[Int.toNat i_l0]? = some [.f .f32 ((a_0.getD i_l0.toNat default).X), .f .f32 ((a_0.getD i_l0.toNat default).Y), .f .f32 ((a_0.getD i_l0.toNat default).Z)],
            0 ≤ i_l0 ∧ (b_1.map GVector.cells)[Int.toNat i_l0]? = some [.f .f32 ((b_1.getD i_l0.toNat default).X), .f .f32 ((b_1.getD i_l0.toNat default).Y), .f .f32 ((b_1.getD i_l0.toNat default).Z)],
            Fn Go.Proofs.Try.prog 25 [.agg [.f .f32 ((a_0.getD i_l0.toNat default).X), .f .f32 ((a_0.getD i_l0.toNat default).Y), .f .f32 ((a_0.getD i_l0.toNat default).Z)], .agg [.f .f32 ((b_1.getD i_l0.toNat default).X), .f .f32 ((b_1.getD i_l0.toNat default).Y), .f .f32 ((b_1.getD i_l0.toNat default).Z)]] (.b (v_laws_eqVector (a_0.getD i_l0.toNat default) (b_1.getD i_l0.toNat default))) [],
            (!(v_laws_eqVector (a_0.getD i_l0.toNat default) (b_1.getD i_l0.toNat default))) = false,
            IntKind.wrap .i64 (i_l0 + 1) = (i_l0 + 1)])
          (by kernel_rfl)
          ⟨len_ok, h_0, (get_ok (by first | assumption | omega | (simp at * <;> omega) | (simp_all <;> omega)) (by first | assumption | omega | (simp at * <;> omega) | (simp_all <;> omega))), (get_ok (by first | assumption | omega | (simp at * <;> omega) | (simp_all <;> omega)) (by first | assumption | omega | (simp at * <;> omega) | (simp_all <;> omega))), (t_laws_eqVector (a_0.getD i_l0.toNat default) (b_1.getD i_l0.toNat default)), (congrArg not h_1), (wrap_id (by first | assumption | omega | (simp at * <;> omega) | (simp_all <;> omega)) (by first | assumption | omega | (simp at * <;> omega) | (simp_all <;> omega))), trivial⟩
          rfl (ih (i_l0 + 1) (show 0 ≤ (i_l0 + 1) from (by first | assumption | omega | (simp at * <;> omega) | (simp_all <;> omega))) (by first | assumption | omega | (simp at * <;> omega) | (simp_all <;> omega)))
      | false =>
        have e : lo_laws_eqVectorS_1 a_0 b_1 (k + 1) i_l0 = (.inl ()) := by simp only [lo_laws_eqVectorS_1, h_0, h_1, cond_true, cond_false]
        rw [e]
        exact step_out E0Ok hMixed (e := .ret) (body := (sub (bodyOf Go.Proofs.Try.f26) [1, 1, 0, 1, 0, 0])) (st := ⟨[.sl (a_0.map GVector.cells), .sl (b_1.map GVector.cells), .any, .any, .any, .i .i64 i_l0, .sl (a_0.map GVector.cells), .i .i64 (a_0.length : Int), .sl (b_1.map GVector.cells), .i .i64 (b_1.length : Int), .b ((a_0.length : Int) != (b_1.length : Int)), .any, .any, .any, .any, .any, .any, .any, .any, .any, .any, .any, .any, .any, .any, .any, .any], []⟩)
          (st2 := ⟨[.any, .any, .any, .any, .b false, .any, .any, .any, .any, .any, .any, .any, .any, .any, .any, .any, .any, .any, .any, .any, .any, .any, .any, .any, .any, .any, .any], []⟩)
          (ans := [.num (a_0.length : Int), .bo true, .keep [8, 8], .el [.f .f32 ((a_0.getD i_l0.toNat default).X), .f .f32 ((a_0.getD i_l0.toNat default).Y), .f .f32 ((a_0.getD i_l0.toNat default).Z)], .el [.f .f32 ((b_1.getD i_l0.toNat default).X), .f .f32 ((b_1.getD i_l0.toNat default).Y), .f .f32 ((b_1.getD i_l0.toNat default).Z)], .call (.b (v_laws_eqVector (a_0.getD i_l0.toNat default) (b_1.getD i_l0.toNat default))) [], .bo true])
          (mask := [false, false, false, false, true, false, false, false, false, false, false, false, false, false, false, false, false, false, false, false, false, false, false, false, false, false, false]) (n := 0)
          (C := [(((a_0.map GVector.cells).length : Nat) : Int) = (a_0.length : Int),
            (decide (i_l0 < (a_0.length : Int))) = true,
            0 ≤ i_l0 ∧ (a_0.map GVector.cells)[Int.toNat i_l0]? = some [.f .f32 ((a_0.getD i_l0.toNat default).X), .f .f32 ((a_0.getD i_l0.toNat default).Y), .f .f32 ((a_0.getD i_l0.toNat default).Z)],
            0 ≤ i_l0 ∧ (b_1.map GVector.cells)[Int.toNat i_l0]? = some [.f .f32 ((b_1.getD i_l0.toNat default).X), .f .f32 ((b_1.getD i_l0.toNat default).Y), .f .f32 ((b_1.getD i_l0.toNat default).Z)],
            Fn Go.Proofs.Try.prog 25 [.agg [.f .f32 ((a_0.getD i_l0.toNat default).X), .f .f32 ((a_0.getD i_l0.toNat default).Y), .f .f32 ((a_0.getD i_l0.toNat default).Z)], .agg [.f .f32 ((b_1.getD i_l0.toNat default).X), .f .f32 ((b_1.getD i_l0.toNat default).Y), .f .f32 ((b_1.getD i_l0.toNat default).Z)]] (.b (v_laws_eqVector (a_0.getD i_l0.toNat default) (b_1.getD i_l0.toNat default))) [],
            (!(v_laws_eqVector (a_0.getD i_l0.toNat default) (b_1.getD i_l0.toNat default))) = true])
          (by kernel_rfl)
          ⟨len_ok, h_0, (get_ok (by first | assumption | omega | (simp at * <;> omega) | (simp_all <;> omega)) (by first | assumption | omega | (simp at * <;> omega) | (simp_all <;> omega))), (get_ok (by first | assumption | omega | (simp at * <;> omega) | (simp_all <;> omega)) (by first | assumption | omega | (simp at * <;> omega) | (simp_all <;> omega))), (t_laws_eqVector (a_0.getD i_l0.toNat default) (b_1.getD i_l0.toNat default)), (congrArg not h_1), trivial⟩
          (by intro h; cases h) rfl
    | false =>
      have e : lo_laws_eqVectorS_1 a_0 b_1 (k + 1) i_l0 = (.inr ()) := by simp only [lo_laws_eqVectorS_1, h_0, cond_false]
      rw [e]
      exact step_out E0Ok hMixed (e := (.exit 0)) (body := (sub (bodyOf Go.Proofs.Try.f26) [1, 1, 0, 1, 0, 0])) (st := ⟨[.sl (a_0.map GVector.cells), .sl (b_1.map GVector.cells), .any, .any, .any, .i .i64 i_l0, .sl (a_0.map GVector.cells), .i .i64 (a_0.length : Int), .sl (b_1.map GVector.cells), .i .i64 (b_1.length : Int), .b ((a_0.length : Int) != (b_1.length : Int)), .any, .any, .any, .any, .any, .any, .any, .any, .any, .any, .any, .any, .any, .any, .any, .any], []⟩)
        (st2 := ⟨[.sl (a_0.map GVector.cells), .sl (b_1.map GVector.cells), .any, .any, .any, .any, .sl (a_0.map GVector.cells), .i .i64 (a_0.length : Int), .sl (b_1.map GVector.cells), .i .i64 (b_1.length : Int), .b ((a_0.length : Int) != (b_1.length : Int)), .any, .any, .any, .any, .any, .any, .any, .any, .any, .any, .any, .any, .any, .any, .any, .any], []⟩)
        (ans := [.num (a_0.length : Int), .bo false])
        (mask := [true, true, false, false, false, false, true, true, true, true, true, false, false, false, false, false, false, false, false, false, false, false, false, false, false, false, false]) (n := 0)
        (C := [(((a_0.map GVector.cells).length : Nat) : Int) = (a_0.length : Int),
          (decide (i_l0 < (a_0.length : Int))) = false])
        (by kernel_rfl)
        ⟨len_ok, h_0, trivial⟩
        (by intro h; cases h) rfl

def lr_laws_eqVectorS_1_0 (a_0 : (List GVector)) (b_1 : (List GVector)) : (Unit) ⊕ (Unit) := (lo_laws_eqVectorS_1 a_0 b_1 (((a_0.length : Int) - 0).toNat + 1) 0)

/-- laws.eqVectorS -/
def v_laws_eqVectorS (a_0 : (List GVector)) (b_1 : (List GVector)) : Bool := (cond ((a_0.length : Int) != (b_1.length : Int))
  false
  (match (lr_laws_eqVectorS_1_0 a_0 b_1) with
    | .inl r2 => false
    | .inr r2 => true))

theorem t_laws_eqVectorS (a_0 : (List GVector)) (b_1 : (List GVector)) (hp0 : a_0.length ≤ 1073741824) (hp1 : b_1.length ≤ 1073741824)  : Fn Go.Proofs.Try.prog 26 [.sl (a_0.map GVector.cells), .sl (b_1.map GVector.cells)] (.b (v_laws_eqVectorS a_0 b_1)) [] := by
  cases h0 : ((a_0.length : Int) != (b_1.length : Int)) with
  | true =>
    exact Fn.cast (fn_of_ev E0Ok hMixed (c := bodyOf Go.Proofs.Try.f26) (r := .b false) (new := [])
      (ans := [.num (a_0.length : Int), .num (b_1.length : Int), .bo true, .keep []])
      (C := [(((a_0.map GVector.cells).length : Nat) : Int) = (a_0.length : Int),
        (((b_1.map GVector.cells).length : Nat) : Int) = (b_1.length : Int),
        ((a_0.length : Int) != (b_1.length : Int)) = true])
      Go.Proofs.Try.func26 rfl (by kernel_rfl) (by kernel_rfl)
      ⟨len_ok, len_ok, h0, trivial⟩) (by simp only [v_laws_eqVectorS, h0, cond_true]) rfl
  | false =>
    cases h1 : (lr_laws_eqVectorS_1_0 a_0 b_1) with
    | inl r2 =>
      exact Fn.cast (fn_of_ev E0Ok hMixed (c := bodyOf Go.Proofs.Try.f26) (r := .b false) (new := [])
        (ans := [.num (a_0.length : Int), .num (b_1.length : Int), .bo false, .loop [true, true, false, false, false, true, true, true, true, true, true, false, false, false, false, false, false, false, false, false, false, false, false, false, false, false, false] 0 .ret ⟨[.any, .any, .any, .any, .b false, .any, .any, .any, .any, .any, .any, .any, .any, .any, .any, .any, .any, .any, .any, .any, .any, .any, .any, .any, .any, .any, .any], []⟩, .keep []])
        (C := [(((a_0.map GVector.cells).length : Nat) : Int) = (a_0.length : Int),
          (((b_1.map GVector.cells).length : Nat) : Int) = (b_1.length : Int),
          ((a_0.length : Int) != (b_1.length : Int)) = false,
          Lp Go.Proofs.Try.prog (sub (bodyOf Go.Proofs.Try.f26) [1, 1, 0, 1, 0, 0]) ⟨[.sl (a_0.map GVector.cells), .sl (b_1.map GVector.cells), .any, .any, .any, .i .i64 0, .sl (a_0.map GVector.cells), .i .i64 (a_0.length : Int), .sl (b_1.map GVector.cells), .i .i64 (b_1.length : Int), .b ((a_0.length : Int) != (b_1.length : Int)), .any, .any, .any, .any, .any, .any, .any, .any, .any, .any, .any, .any, .any, .any, .any, .any], []⟩ .ret ⟨[.any, .any, .any, .any, .b false, .any, .any, .any, .any, .any, .any, .any, .any, .any, .any, .any, .any, .any, .any, .any, .any, .any, .any, .any, .any, .any, .any], []⟩])
        Go.Proofs.Try.func26 rfl (by kernel_rfl) (by kernel_rfl)
        ⟨len_ok, len_ok, h0, (by have q := (lp_laws_eqVectorS_1 a_0 b_1 hp0 hp1 h0 (((a_0.length : Int) - 0).toNat + 1) 0 (show 0 ≤ 0 from (by first | assumption | omega | (simp at * <;> omega) | (simp_all <;> omega))) (Nat.lt_succ_self _)); rw [show (lo_laws_eqVectorS_1 a_0 b_1 (((a_0.length : Int) - 0).toNat + 1) 0) = _ from rfl] at q; rw [show (lo_laws_eqVectorS_1 a_0 b_1 (((a_0.length : Int) - 0).toNat + 1) 0) = (lr_laws_eqVectorS_1_0 a_0 b_1) from rfl, h1] at q; exact q), trivial⟩) (by simp only [v_laws_eqVectorS, h0, h1, cond_false]) rfl
    | inr r2 =>
      exact Fn.cast (fn_of_ev E0Ok hMixed (c := bodyOf Go.Proofs.Try.f26) (r := .b true) (new := [])
        (ans := [.num (a_0.length : Int), .num (b_1.length : Int), .bo false, .loop [true, true, false, false, false, true, true, true, true, true, true, false, false, false, false, false, false, false, false, false, false, false, false, false, false, false, false] 0 (.exit 0) ⟨[.sl (a_0.map GVector.cells), .sl (b_1.map GVector.cells), .any, .any, .any, .any, .sl (a_0.map GVector.cells), .i .i64 (a_0.length : Int), .sl (b_1.map GVector.cells), .i .i64 (b_1.length : Int), .b ((a_0.length : Int) != (b_1.length : Int)), .any, .any, .any, .any, .any, .any, .any, .any, .any, .any, .any, .any, .any, .any, .any, .any], []⟩, .keep []])
        (C := [(((a_0.map GVector.cells).length : Nat) : Int) = (a_0.length : Int),
          (((b_1.map GVector.cells).length : Nat) : Int) = (b_1.length : Int),
          ((a_0.length : Int) != (b_1.length : Int)) = false,
          Lp Go.Proofs.Try.prog (sub (bodyOf Go.Proofs.Try.f26) [1, 1, 0, 1, 0, 0]) ⟨[.sl (a_0.map GVector.cells), .sl (b_1.map GVector.cells), .any, .any, .any, .i .i64 0, .sl (a_0.map GVector.cells), .i .i64 (a_0.length : Int), .sl (b_1.map GVector.cells), .i .i64 (b_1.length : Int), .b ((a_0.length : Int) != (b_1.length : Int)), .any, .any, .any, .any, .any, .any, .any, .any, .any, .any, .any, .any, .any, .any, .any, .any], []⟩ (.exit 0) ⟨[.sl (a_0.map GVector.cells), .sl (b_1.map GVector.cells), .any, .any, .any, .any, .sl (a_0.map GVector.cells), .i .i64 (a_0.length : Int), .sl (b_1.map GVector.cells), .i .i64 (b_1.length : Int), .b ((a_0.length : Int) != (b_1.length : Int)), .any, .any, .any, .any, .any, .any, .any, .any, .any, .any, .any, .any, .any, .any, .any, .any], []⟩])
        Go.Proofs.Try.func26 rfl (by kernel_rfl) (by kernel_rfl)
        ⟨len_ok, len_ok, h0, (by have q := (lp_laws_eqVectorS_1 a_0 b_1 hp0 hp1 h0 (((a_0.length : Int) - 0).toNat + 1) 0 (show 0 ≤ 0 from (by first | assumption | omega | (simp at * <;> omega) | (simp_all <;> omega))) (Nat.lt_succ_self _)); rw [show (lo_laws_eqVectorS_1 a_0 b_1 (((a_0.length : Int) - 0).toNat + 1) 0) = _ from rfl] at q; rw [show (lo_laws_eqVectorS_1 a_0 b_1 (((a_0.length : Int) - 0).toNat + 1) 0) = (lr_laws_eqVectorS_1_0 a_0 b_1) from rfl, h1] at q; exact q), trivial⟩) (by simp only [v_laws_eqVectorS, h0, h1, cond_false]) rfl

theorem eqVectorS_self (a : List GVector) : v_laws_eqVectorS a a = true := by
  unfold v_laws_eqVectorS lr_laws_eqVectorS_1_0
  rw [all_loop (a := a) (p := fun v => v_laws_eqVector v v) (lo := lo_laws_eqVectorS_1 a a) (x := ()) (y := ()) (fun k i => rfl) (fun v _ => eqVector_self v) _ _ (Int.le_refl 0) (Nat.lt_succ_self _)]
  simp

/-- laws.FnExactLongestOf -/
def v_laws_FnExactLongestOf (aList_0 : (List GVector)) : Bool := (cond (decide ((v_laws_szVectorS aList_0 1048576) < 0))
  true
  (cond (v_laws_sameFloat (fcv .f32 .f64 ((v_impl_LongestOf (v_laws_toVectorS aList_0)).1)) (fcv .f32 .f64 ((v_spec_LongestOf (v_laws_toVectorS aList_0)).1)))
    (cond ((v_impl_LongestOf (v_laws_toVectorS aList_0)).2 == (v_spec_LongestOf (v_laws_toVectorS aList_0)).2)
      (cond (v_laws_eqVectorS (v_laws_toVectorS aList_0) (v_laws_toVectorS aList_0))
        true
        false)
      false)
    false))

theorem t_laws_FnExactLongestOf (aList_0 : (List GVector)) (hp0 : aList_0.length ≤ 9223372036854775807)  : Fn Go.Proofs.Try.prog 11 [.sl (aList_0.map GVector.cells)] (.b (v_laws_FnExactLongestOf aList_0)) [] := by
  have z0 := (ok_laws_szVectorS aList_0 1048576 (by omega) (by omega) (by omega))
  cases h0 : (decide ((v_laws_szVectorS aList_0 1048576) < 0)) with
  | true =>
    exact Fn.cast (fn_of_ev E0Ok hMixed (c := bodyOf Go.Proofs.Try.f11) (r := .b true) (new := [])
      (ans := [.call (.i .i64 (v_laws_szVectorS aList_0 1048576)) [], .bo true, .keep []])
      (C := [Fn Go.Proofs.Try.prog 21 [.sl (aList_0.map GVector.cells), .i .i64 1048576] (.i .i64 (v_laws_szVectorS aList_0 1048576)) [],
        (decide ((v_laws_szVectorS aList_0 1048576) < 0)) = true])
      Go.Proofs.Try.func11 rfl (by kernel_rfl) (by kernel_rfl)
      ⟨(t_laws_szVectorS aList_0 1048576 (show aList_0.length ≤ 9223372036854775807 from (by first | assumption | omega | (simp at * <;> omega) | (simp_all <;> omega)))), h0, trivial⟩) (by simp only [v_laws_FnExactLongestOf, h0, cond_true]) rfl
  | false =>
    cases h1 : (v_laws_sameFloat (fcv .f32 .f64 ((v_impl_LongestOf (v_laws_toVectorS aList_0)).1)) (fcv .f32 .f64 ((v_spec_LongestOf (v_laws_toVectorS aList_0)).1))) with
    | true =>
      cases h2 : ((v_impl_LongestOf (v_laws_toVectorS aList_0)).2 == (v_spec_LongestOf (v_laws_toVectorS aList_0)).2) with
      | true =>
        cases h3 : (v_laws_eqVectorS (v_laws_toVectorS aList_0) (v_laws_toVectorS aList_0)) with
        | true =>
          exact Fn.cast (fn_of_ev E0Ok hMixed (c := bodyOf Go.Proofs.Try.f11) (r := .b true) (new := [])
            (ans := [.call (.i .i64 (v_laws_szVectorS aList_0 1048576)) [], .bo false, .call (.own 0) [.vec 33 3 ((v_laws_toVectorS aList_0).map GVector.cells) true], .call (.tup [.f .f32 ((v_spec_LongestOf (v_laws_toVectorS aList_0)).1), .b ((v_spec_LongestOf (v_laws_toVectorS aList_0)).2)]) [], .call (.own 0) [.vec 33 3 ((v_laws_toVectorS aList_0).map GVector.cells) true], .call (.tup [.f .f32 ((v_impl_LongestOf (v_laws_toVectorS aList_0)).1), .b ((v_impl_LongestOf (v_laws_toVectorS aList_0)).2)]) [], .call (.b (v_laws_sameFloat (fcv .f32 .f64 ((v_impl_LongestOf (v_laws_toVectorS aList_0)).1)) (fcv .f32 .f64 ((v_spec_LongestOf (v_laws_toVectorS aList_0)).1)))) [], .bo false, .bo false, .bo false, .bo false, .bo false, .call (.own 0) [.vec 33 3 ((v_laws_toVectorS aList_0).map GVector.cells) true], .call (.b (v_laws_eqVectorS (v_laws_toVectorS aList_0) (v_laws_toVectorS aList_0))) [], .bo false, .keep []])
            (C := [Fn Go.Proofs.Try.prog 21 [.sl (aList_0.map GVector.cells), .i .i64 1048576] (.i .i64 (v_laws_szVectorS aList_0 1048576)) [],
              (decide ((v_laws_szVectorS aList_0 1048576) < 0)) = false,
              Fn Go.Proofs.Try.prog 23 [.sl (aList_0.map GVector.cells)] (.own 0) [.vec 33 3 ((v_laws_toVectorS aList_0).map GVector.cells) true],
              Fn Go.Proofs.Try.prog 38 [.sl ((v_laws_toVectorS aList_0).map GVector.cells)] (.tup [.f .f32 ((v_spec_LongestOf (v_laws_toVectorS aList_0)).1), .b ((v_spec_LongestOf (v_laws_toVectorS aList_0)).2)]) [],
              Fn Go.Proofs.Try.prog 23 [.sl (aList_0.map GVector.cells)] (.own 0) [.vec 33 3 ((v_laws_toVectorS aList_0).map GVector.cells) true],
              Fn Go.Proofs.Try.prog 39 [.sl ((v_laws_toVectorS aList_0).map GVector.cells)] (.tup [.f .f32 ((v_impl_LongestOf (v_laws_toVectorS aList_0)).1), .b ((v_impl_LongestOf (v_laws_toVectorS aList_0)).2)]) [],
              fcvOk .f32 .f64 ((v_impl_LongestOf (v_laws_toVectorS aList_0)).1) = true,
              fcvOk .f32 .f64 ((v_spec_LongestOf (v_laws_toVectorS aList_0)).1) = true,
              Fn Go.Proofs.Try.prog 17 [.f .f64 (fcv .f32 .f64 ((v_impl_LongestOf (v_laws_toVectorS aList_0)).1)), .f .f64 (fcv .f32 .f64 ((v_spec_LongestOf (v_laws_toVectorS aList_0)).1))] (.b (v_laws_sameFloat (fcv .f32 .f64 ((v_impl_LongestOf (v_laws_toVectorS aList_0)).1)) (fcv .f32 .f64 ((v_spec_LongestOf (v_laws_toVectorS aList_0)).1)))) [],
              (!(v_laws_sameFloat (fcv .f32 .f64 ((v_impl_LongestOf (v_laws_toVectorS aList_0)).1)) (fcv .f32 .f64 ((v_spec_LongestOf (v_laws_toVectorS aList_0)).1)))) = false,
              (!(v_laws_sameFloat (fcv .f32 .f64 ((v_impl_LongestOf (v_laws_toVectorS aList_0)).1)) (fcv .f32 .f64 ((v_spec_LongestOf (v_laws_toVectorS aList_0)).1)))) = false,
              (!(v_laws_sameFloat (fcv .f32 .f64 ((v_impl_LongestOf (v_laws_toVectorS aList_0)).1)) (fcv .f32 .f64 ((v_spec_LongestOf (v_laws_toVectorS aList_0)).1)))) = false,
              (!(v_laws_sameFloat (fcv .f32 .f64 ((v_impl_LongestOf (v_laws_toVectorS aList_0)).1)) (fcv .f32 .f64 ((v_spec_LongestOf (v_laws_toVectorS aList_0)).1)))) = false,
              (!((v_impl_LongestOf (v_laws_toVectorS aList_0)).2 == (v_spec_LongestOf (v_laws_toVectorS aList_0)).2)) = false,
              Fn Go.Proofs.Try.prog 23 [.sl (aList_0.map GVector.cells)] (.own 0) [.vec 33 3 ((v_laws_toVectorS aList_0).map GVector.cells) true],
              Fn Go.Proofs.Try.prog 26 [.sl ((v_laws_toVectorS aList_0).map GVector.cells), .sl ((v_laws_toVectorS aList_0).map GVector.cells)] (.b (v_laws_eqVectorS (v_laws_toVectorS aList_0) (v_laws_toVectorS aList_0))) [],
              (!(v_laws_eqVectorS (v_laws_toVectorS aList_0) (v_laws_toVectorS aList_0))) = false])
            Go.Proofs.Try.func11 rfl (by kernel_rfl) (by kernel_rfl)
            ⟨(t_laws_szVectorS aList_0 1048576 (show aList_0.length ≤ 9223372036854775807 from (by first | assumption | omega | (simp at * <;> omega) | (simp_all <;> omega)))), h0, (t_laws_toVectorS aList_0 (show aList_0.length ≤ 1073741824 from (by first | assumption | omega | (simp at * <;> omega) | (simp_all <;> omega)))), (t_spec_LongestOf (v_laws_toVectorS aList_0) (show (v_laws_toVectorS aList_0).length ≤ 1073741824 from (by first | assumption | omega | (simp at * <;> omega) | (simp_all <;> omega)))), (t_laws_toVectorS aList_0 (show aList_0.length ≤ 1073741824 from (by first | assumption | omega | (simp at * <;> omega) | (simp_all <;> omega)))), (t_impl_LongestOf (v_laws_toVectorS aList_0) (show (v_laws_toVectorS aList_0).length ≤ 1073741824 from (by first | assumption | omega | (simp at * <;> omega) | (simp_all <;> omega)))), (widenOk _), (widenOk _), (t_laws_sameFloat (fcv .f32 .f64 ((v_impl_LongestOf (v_laws_toVectorS aList_0)).1)) (fcv .f32 .f64 ((v_spec_LongestOf (v_laws_toVectorS aList_0)).1))), (congrArg not h1), (congrArg not h1), (congrArg not h1), (congrArg not h1), (congrArg not h2), (t_laws_toVectorS aList_0 (show aList_0.length ≤ 1073741824 from (by first | assumption | omega | (simp at * <;> omega) | (simp_all <;> omega)))), (t_laws_eqVectorS (v_laws_toVectorS aList_0) (v_laws_toVectorS aList_0) (show (v_laws_toVectorS aList_0).length ≤ 1073741824 from (by first | assumption | omega | (simp at * <;> omega) | (simp_all <;> omega))) (show (v_laws_toVectorS aList_0).length ≤ 1073741824 from (by first | assumption | omega | (simp at * <;> omega) | (simp_all <;> omega)))), (congrArg not h3), trivial⟩) (by simp only [v_laws_FnExactLongestOf, h0, h1, h2, h3, cond_true, cond_false]) rfl
        | false =>
          exact Fn.cast (fn_of_ev E0Ok hMixed (c := bodyOf Go.Proofs.Try.f11) (r := .b false) (new := [])
            (ans := [.call (.i .i64 (v_laws_szVectorS aList_0 1048576)) [], .bo false, .call (.own 0) [.vec 33 3 ((v_laws_toVectorS aList_0).map GVector.cells) true], .call (.tup [.f .f32 ((v_spec_LongestOf (v_laws_toVectorS aList_0)).1), .b ((v_spec_LongestOf (v_laws_toVectorS aList_0)).2)]) [], .call (.own 0) [.vec 33 3 ((v_laws_toVectorS aList_0).map GVector.cells) true], .call (.tup [.f .f32 ((v_impl_LongestOf (v_laws_toVectorS aList_0)).1), .b ((v_impl_LongestOf (v_laws_toVectorS aList_0)).2)]) [], .call (.b (v_laws_sameFloat (fcv .f32 .f64 ((v_impl_LongestOf (v_laws_toVectorS aList_0)).1)) (fcv .f32 .f64 ((v_spec_LongestOf (v_laws_toVectorS aList_0)).1)))) [], .bo false, .bo false, .bo false, .bo false, .bo false, .call (.own 0) [.vec 33 3 ((v_laws_toVectorS aList_0).map GVector.cells) true], .call (.b (v_laws_eqVectorS (v_laws_toVectorS aList_0) (v_laws_toVectorS aList_0))) [], .bo true, .keep []])
            (C := [Fn Go.Proofs.Try.prog 21 [.sl (aList_0.map GVector.cells), .i .i64 1048576] (.i .i64 (v_laws_szVectorS aList_0 1048576)) [],
              (decide ((v_laws_szVectorS aList_0 1048576) < 0)) = false,
              Fn Go.Proofs.Try.prog 23 [.sl (aList_0.map GVector.cells)] (.own 0) [.vec 33 3 ((v_laws_toVectorS aList_0).map GVector.cells) true],
              Fn Go.Proofs.Try.prog 38 [.sl ((v_laws_toVectorS aList_0).map GVector.cells)] (.tup [.f .f32 ((v_spec_LongestOf (v_laws_toVectorS aList_0)).1), .b ((v_spec_LongestOf (v_laws_toVectorS aList_0)).2)]) [],
              Fn Go.Proofs.Try.prog 23 [.sl (aList_0.map GVector.cells)] (.own 0) [.vec 33 3 ((v_laws_toVectorS aList_0).map GVector.cells) true],
              Fn Go.Proofs.Try.prog 39 [.sl ((v_laws_toVectorS aList_0).map GVector.cells)] (.tup [.f .f32 ((v_impl_LongestOf (v_laws_toVectorS aList_0)).1), .b ((v_impl_LongestOf (v_laws_toVectorS aList_0)).2)]) [],
              fcvOk .f32 .f64 ((v_impl_LongestOf (v_laws_toVectorS aList_0)).1) = true,
              fcvOk .f32 .f64 ((v_spec_LongestOf (v_laws_toVectorS aList_0)).1) = true,
              Fn Go.Proofs.Try.prog 17 [.f .f64 (fcv .f32 .f64 ((v_impl_LongestOf (v_laws_toVectorS aList_0)).1)), .f .f64 (fcv .f32 .f64 ((v_spec_LongestOf (v_laws_toVectorS aList_0)).1))] (.b (v_laws_sameFloat (fcv .f32 .f64 ((v_impl_LongestOf (v_laws_toVectorS aList_0)).1)) (fcv .f32 .f64 ((v_spec_LongestOf (v_laws_toVectorS aList_0)).1)))) [],
              (!(v_laws_sameFloat (fcv .f32 .f64 ((v_impl_LongestOf (v_laws_toVectorS aList_0)).1)) (fcv .f32 .f64 ((v_spec_LongestOf (v_laws_toVectorS aList_0)).1)))) = false,
              (!(v_laws_sameFloat (fcv .f32 .f64 ((v_impl_LongestOf (v_laws_toVectorS aList_0)).1)) (fcv .f32 .f64 ((v_spec_LongestOf (v_laws_toVectorS aList_0)).1)))) = false,
              (!(v_laws_sameFloat (fcv .f32 .f64 ((v_impl_LongestOf (v_laws_toVectorS aList_0)).1)) (fcv .f32 .f64 ((v_spec_LongestOf (v_laws_toVectorS aList_0)).1)))) = false,
              (!(v_laws_sameFloat (fcv .f32 .f64 ((v_impl_LongestOf (v_laws_toVectorS aList_0)).1)) (fcv .f32 .f64 ((v_spec_LongestOf (v_laws_toVectorS aList_0)).1)))) = false,
              (!((v_impl_LongestOf (v_laws_toVectorS aList_0)).2 == (v_spec_LongestOf (v_laws_toVectorS aList_0)).2)) = false,
              Fn Go.Proofs.Try.prog 23 [.sl (aList_0.map GVector.cells)] (.own 0) [.vec 33 3 ((v_laws_toVectorS aList_0).map GVector.cells) true],
              Fn Go.Proofs.Try.prog 26 [.sl ((v_laws_toVectorS aList_0).map GVector.cells), .sl ((v_laws_toVectorS aList_0).map GVector.cells)] (.b (v_laws_eqVectorS (v_laws_toVectorS aList_0) (v_laws_toVectorS aList_0))) [],
              (!(v_laws_eqVectorS (v_laws_toVectorS aList_0) (v_laws_toVectorS aList_0))) = true])
            Go.Proofs.Try.func11 rfl (by kernel_rfl) (by kernel_rfl)
            ⟨(t_laws_szVectorS aList_0 1048576 (show aList_0.length ≤ 9223372036854775807 from (by first | assumption | omega | (simp at * <;> omega) | (simp_all <;> omega)))), h0, (t_laws_toVectorS aList_0 (show aList_0.length ≤ 1073741824 from (by first | assumption | omega | (simp at * <;> omega) | (simp_all <;> omega)))), (t_spec_LongestOf (v_laws_toVectorS aList_0) (show (v_laws_toVectorS aList_0).length ≤ 1073741824 from (by first | assumption | omega | (simp at * <;> omega) | (simp_all <;> omega)))), (t_laws_toVectorS aList_0 (show aList_0.length ≤ 1073741824 from (by first | assumption | omega | (simp at * <;> omega) | (simp_all <;> omega)))), (t_impl_LongestOf (v_laws_toVectorS aList_0) (show (v_laws_toVectorS aList_0).length ≤ 1073741824 from (by first | assumption | omega | (simp at * <;> omega) | (simp_all <;> omega)))), (widenOk _), (widenOk _), (t_laws_sameFloat (fcv .f32 .f64 ((v_impl_LongestOf (v_laws_toVectorS aList_0)).1)) (fcv .f32 .f64 ((v_spec_LongestOf (v_laws_toVectorS aList_0)).1))), (congrArg not h1), (congrArg not h1), (congrArg not h1), (congrArg not h1), (congrArg not h2), (t_laws_toVectorS aList_0 (show aList_0.length ≤ 1073741824 from (by first | assumption | omega | (simp at * <;> omega) | (simp_all <;> omega)))), (t_laws_eqVectorS (v_laws_toVectorS aList_0) (v_laws_toVectorS aList_0) (show (v_laws_toVectorS aList_0).length ≤ 1073741824 from (by first | assumption | omega | (simp at * <;> omega) | (simp_all <;> omega))) (show (v_laws_toVectorS aList_0).length ≤ 1073741824 from (by first | assumption | omega | (simp at * <;> omega) | (simp_all <;> omega)))), (congrArg not h3), trivial⟩) (by simp only [v_laws_FnExactLongestOf, h0, h1, h2, h3, cond_true, cond_false]) rfl
      | false =>
        exact Fn.cast (fn_of_ev E0Ok hMixed (c := bodyOf Go.Proofs.Try.f11) (r := .b false) (new := [])
          (ans := [.call (.i .i64 (v_laws_szVectorS aList_0 1048576)) [], .bo false, .call (.own 0) [.vec 33 3 ((v_laws_toVectorS aList_0).map GVector.cells) true], .call (.tup [.f .f32 ((v_spec_LongestOf (v_laws_toVectorS aList_0)).1), .b ((v_spec_LongestOf (v_laws_toVectorS aList_0)).2)]) [], .call (.own 0) [.vec 33 3 ((v_laws_toVectorS aList_0).map GVector.cells) true], .call (.tup [.f .f32 ((v_impl_LongestOf (v_laws_toVectorS aList_0)).1), .b ((v_impl_LongestOf (v_laws_toVectorS aList_0)).2)]) [], .call (.b (v_laws_sameFloat (fcv .f32 .f64 ((v_impl_LongestOf (v_laws_toVectorS aList_0)).1)) (fcv .f32 .f64 ((v_spec_LongestOf (v_laws_toVectorS aList_0)).1)))) [], .bo false, .bo false, .bo false, .bo false, .bo true, .keep []])
          (C := [Fn Go.Proofs.Try.prog 21 [.sl (aList_0.map GVector.cells), .i .i64 1048576] (.i .i64 (v_laws_szVectorS aList_0 1048576)) [],
            (decide ((v_laws_szVectorS aList_0 1048576) < 0)) = false,
            Fn Go.Proofs.Try.prog 23 [.sl (aList_0.map GVector.cells)] (.own 0) [.vec 33 3 ((v_laws_toVectorS aList_0).map GVector.cells) true],
            Fn Go.Proofs.Try.prog 38 [.sl ((v_laws_toVectorS aList_0).map GVector.cells)] (.tup [.f .f32 ((v_spec_LongestOf (v_laws_toVectorS aList_0)).1), .b ((v_spec_LongestOf (v_laws_toVectorS aList_0)).2)]) [],
            Fn Go.Proofs.Try.prog 23 [.sl (aList_0.map GVector.cells)] (.own 0) [.vec 33 3 ((v_laws_toVectorS aList_0).map GVector.cells) true],
            Fn Go.Proofs.Try.prog 39 [.sl ((v_laws_toVectorS aList_0).map GVector.cells)] (.tup [.f .f32 ((v_impl_LongestOf (v_laws_toVectorS aList_0)).1), .b ((v_impl_LongestOf (v_laws_toVectorS aList_0)).2)]) [],
            fcvOk .f32 .f64 ((v_impl_LongestOf (v_laws_toVectorS aList_0)).1) = true,
            fcvOk .f32 .f64 ((v_spec_LongestOf (v_laws_toVectorS aList_0)).1) = true,
            Fn Go.Proofs.Try.prog 17 [.f .f64 (fcv .f32 .f64 ((v_impl_LongestOf (v_laws_toVectorS aList_0)).1)), .f .f64 (fcv .f32 .f64 ((v_spec_LongestOf (v_laws_toVectorS aList_0)).1))] (.b (v_laws_sameFloat (fcv .f32 .f64 ((v_impl_LongestOf (v_laws_toVectorS aList_0)).1)) (fcv .f32 .f64 ((v_spec_LongestOf (v_laws_toVectorS aList_0)).1)))) [],
            (!(v_laws_sameFloat (fcv .f32 .f64 ((v_impl_LongestOf (v_laws_toVectorS aList_0)).1)) (fcv .f32 .f64 ((v_spec_LongestOf (v_laws_toVectorS aList_0)).1)))) = false,
            (!(v_laws_sameFloat (fcv .f32 .f64 ((v_impl_LongestOf (v_laws_toVectorS aList_0)).1)) (fcv .f32 .f64 ((v_spec_LongestOf (v_laws_toVectorS aList_0)).1)))) = false,
            (!(v_laws_sameFloat (fcv .f32 .f64 ((v_impl_LongestOf (v_laws_toVectorS aList_0)).1)) (fcv .f32 .f64 ((v_spec_LongestOf (v_laws_toVectorS aList_0)).1)))) = false,
            (!(v_laws_sameFloat (fcv .f32 .f64 ((v_impl_LongestOf (v_laws_toVectorS aList_0)).1)) (fcv .f32 .f64 ((v_spec_LongestOf (v_laws_toVectorS aList_0)).1)))) = false,
            (!((v_impl_LongestOf (v_laws_toVectorS aList_0)).2 == (v_spec_LongestOf (v_laws_toVectorS aList_0)).2)) = true])
          Go.Proofs.Try.func11 rfl (by kernel_rfl) (by kernel_rfl)
          ⟨(t_laws_szVectorS aList_0 1048576 (show aList_0.length ≤ 9223372036854775807 from (by first | assumption | omega | (simp at * <;> omega) | (simp_all <;> omega)))), h0, (t_laws_toVectorS aList_0 (show aList_0.length ≤ 1073741824 from (by first | assumption | omega | (simp at * <;> omega) | (simp_all <;> omega)))), (t_spec_LongestOf (v_laws_toVectorS aList_0) (show (v_laws_toVectorS aList_0).length ≤ 1073741824 from (by first | assumption | omega | (simp at * <;> omega) | (simp_all <;> omega)))), (t_laws_toVectorS aList_0 (show aList_0.length ≤ 1073741824 from (by first | assumption | omega | (simp at * <;> omega) | (simp_all <;> omega)))), (t_impl_LongestOf (v_laws_toVectorS aList_0) (show (v_laws_toVectorS aList_0).length ≤ 1073741824 from (by first | assumption | omega | (simp at * <;> omega) | (simp_all <;> omega)))), (widenOk _), (widenOk _), (t_laws_sameFloat (fcv .f32 .f64 ((v_impl_LongestOf (v_laws_toVectorS aList_0)).1)) (fcv .f32 .f64 ((v_spec_LongestOf (v_laws_toVectorS aList_0)).1))), (congrArg not h1), (congrArg not h1), (congrArg not h1), (congrArg not h1), (congrArg not h2), trivial⟩) (by simp only [v_laws_FnExactLongestOf, h0, h1, h2, cond_true, cond_false]) rfl
    | false =>
      exact Fn.cast (fn_of_ev E0Ok hMixed (c := bodyOf Go.Proofs.Try.f11) (r := .b false) (new := [])
        (ans := [.call (.i .i64 (v_laws_szVectorS aList_0 1048576)) [], .bo false, .call (.own 0) [.vec 33 3 ((v_laws_toVectorS aList_0).map GVector.cells) true], .call (.tup [.f .f32 ((v_spec_LongestOf (v_laws_toVectorS aList_0)).1), .b ((v_spec_LongestOf (v_laws_toVectorS aList_0)).2)]) [], .call (.own 0) [.vec 33 3 ((v_laws_toVectorS aList_0).map GVector.cells) true], .call (.tup [.f .f32 ((v_impl_LongestOf (v_laws_toVectorS aList_0)).1), .b ((v_impl_LongestOf (v_laws_toVectorS aList_0)).2)]) [], .call (.b (v_laws_sameFloat (fcv .f32 .f64 ((v_impl_LongestOf (v_laws_toVectorS aList_0)).1)) (fcv .f32 .f64 ((v_spec_LongestOf (v_laws_toVectorS aList_0)).1)))) [], .bo true, .bo true, .bo true, .bo true, .bo true, .keep []])
        (C := [Fn Go.Proofs.Try.prog 21 [.sl (aList_0.map GVector.cells), .i .i64 1048576] (.i .i64 (v_laws_szVectorS aList_0 1048576)) [],
          (decide ((v_laws_szVectorS aList_0 1048576) < 0)) = false,
          Fn Go.Proofs.Try.prog 23 [.sl (aList_0.map GVector.cells)] (.own 0) [.vec 33 3 ((v_laws_toVectorS aList_0).map GVector.cells) true],
          Fn Go.Proofs.Try.prog 38 [.sl ((v_laws_toVectorS aList_0).map GVector.cells)] (.tup [.f .f32 ((v_spec_LongestOf (v_laws_toVectorS aList_0)).1), .b ((v_spec_LongestOf (v_laws_toVectorS aList_0)).2)]) [],
          Fn Go.Proofs.Try.prog 23 [.sl (aList_0.map GVector.cells)] (.own 0) [.vec 33 3 ((v_laws_toVectorS aList_0).map GVector.cells) true],
          Fn Go.Proofs.Try.prog 39 [.sl ((v_laws_toVectorS aList_0).map GVector.cells)] (.tup [.f .f32 ((v_impl_LongestOf (v_laws_toVectorS aList_0)).1), .b ((v_impl_LongestOf (v_laws_toVectorS aList_0)).2)]) [],
          fcvOk .f32 .f64 ((v_impl_LongestOf (v_laws_toVectorS aList_0)).1) = true,
          fcvOk .f32 .f64 ((v_spec_LongestOf (v_laws_toVectorS aList_0)).1) = true,
          Fn Go.Proofs.Try.prog 17 [.f .f64 (fcv .f32 .f64 ((v_impl_LongestOf (v_laws_toVectorS aList_0)).1)), .f .f64 (fcv .f32 .f64 ((v_spec_LongestOf (v_laws_toVectorS aList_0)).1))] (.b (v_laws_sameFloat (fcv .f32 .f64 ((v_impl_LongestOf (v_laws_toVectorS aList_0)).1)) (fcv .f32 .f64 ((v_spec_LongestOf (v_laws_toVectorS aList_0)).1)))) [],
          (!(v_laws_sameFloat (fcv .f32 .f64 ((v_impl_LongestOf (v_laws_toVectorS aList_0)).1)) (fcv .f32 .f64 ((v_spec_LongestOf (v_laws_toVectorS aList_0)).1)))) = true,
          (!(v_laws_sameFloat (fcv .f32 .f64 ((v_impl_LongestOf (v_laws_toVectorS aList_0)).1)) (fcv .f32 .f64 ((v_spec_LongestOf (v_laws_toVectorS aList_0)).1)))) = true,
          (!(v_laws_sameFloat (fcv .f32 .f64 ((v_impl_LongestOf (v_laws_toVectorS aList_0)).1)) (fcv .f32 .f64 ((v_spec_LongestOf (v_laws_toVectorS aList_0)).1)))) = true,
          (!(v_laws_sameFloat (fcv .f32 .f64 ((v_impl_LongestOf (v_laws_toVectorS aList_0)).1)) (fcv .f32 .f64 ((v_spec_LongestOf (v_laws_toVectorS aList_0)).1)))) = true,
          true = true])
        Go.Proofs.Try.func11 rfl (by kernel_rfl) (by kernel_rfl)
        ⟨(t_laws_szVectorS aList_0 1048576 (show aList_0.length ≤ 9223372036854775807 from (by first | assumption | omega | (simp at * <;> omega) | (simp_all <;> omega)))), h0, (t_laws_toVectorS aList_0 (show aList_0.length ≤ 1073741824 from (by first | assumption | omega | (simp at * <;> omega) | (simp_all <;> omega)))), (t_spec_LongestOf (v_laws_toVectorS aList_0) (show (v_laws_toVectorS aList_0).length ≤ 1073741824 from (by first | assumption | omega | (simp at * <;> omega) | (simp_all <;> omega)))), (t_laws_toVectorS aList_0 (show aList_0.length ≤ 1073741824 from (by first | assumption | omega | (simp at * <;> omega) | (simp_all <;> omega)))), (t_impl_LongestOf (v_laws_toVectorS aList_0) (show (v_laws_toVectorS aList_0).length ≤ 1073741824 from (by first | assumption | omega | (simp at * <;> omega) | (simp_all <;> omega)))), (widenOk _), (widenOk _), (t_laws_sameFloat (fcv .f32 .f64 ((v_impl_LongestOf (v_laws_toVectorS aList_0)).1)) (fcv .f32 .f64 ((v_spec_LongestOf (v_laws_toVectorS aList_0)).1))), (congrArg not h1), (congrArg not h1), (congrArg not h1), (congrArg not h1), rfl, trivial⟩) (by simp only [v_laws_FnExactLongestOf, h0, h1, cond_false]) rfl

theorem lo_LongestOf (l : List GVector) : ∀ (k : Nat) (out : Nat) (i : Int), isNaN .f32 out = false → (FloatKind.f32.decode out).neg = false → lo_spec_l03Longest_1 l k out i = lo_impl_LongestOf_1 l k out i := by
  intro k
  induction k with
  | zero => intros; rfl
  | succ k ih =>
    intro out i h1 h2
    simp only [lo_spec_l03Longest_1, lo_impl_LongestOf_1]
    rw [show v_impl_LongOf = v_spec_l01Long from rfl]
    generalize v_spec_l01Long (l.getD i.toNat default) = x
    simp only [neq_self, h1]
    cases hx : isNaN .f32 x with
    | true =>
      cases fcmp .gtr .f32 x out <;> simp
    | false =>
      obtain ⟨m1, m2, m3⟩ := max_step h1 h2 hx
      cases hg : fcmp .gtr .f32 x out with
      | true =>
        rw [hg] at m1
        simp only [if_true] at m1
        rw [m1] at m2 m3 ⊢
        simp only [cond_true, cond_false]
        rw [ih _ _ m2 m3]
      | false =>
        rw [hg] at m1
        simp only [Bool.false_eq_true, if_false] at m1
        rw [m1]
        simp only [cond_false]
        rw [ih _ _ h1 h2]
theorem eq_LongestOf (l : List GVector) : v_impl_LongestOf l = v_spec_LongestOf l := by
  unfold v_impl_LongestOf v_spec_LongestOf v_spec_l03Longest lr_impl_LongestOf_1_0 lr_spec_l03Longest_1_0
  rw [lo_LongestOf l _ 0 0 (by decide +kernel) (by decide +kernel)]
  generalize lo_impl_LongestOf_1 l _ 0 0 = r
  cases r <;> rfl
theorem true_laws_FnExactLongestOf (a : List GVector) (h : a.length ≤ 9223372036854775807) : v_laws_FnExactLongestOf a = true := by
  simp [v_laws_FnExactLongestOf, eq_LongestOf, same_self, eqVectorS_self]

end Go.Ab
