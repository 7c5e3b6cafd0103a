/- The functions of this seat as plain Lean, and that the program's are these. Printed by a program of the prover's own. -/
import Derived.Test.YtceihfmhaojohaaB1
set_option linter.unusedVariables false
set_option maxRecDepth 100000
namespace Go.Ab
open Go.RowKit

def lo_spec_l02Is_1 (m_0 : GMesh) : Nat → Int → (Unit) ⊕ (Unit)
  | 0, _ => .inl default
  | k + 1, i_l0 => (cond (decide (i_l0 < (m_0.Triangles.length : Int)))
    (cond (v_spec_l02Triangle (m_0.Triangles.getD i_l0.toNat default) (m_0.Places.length : Int))
      (lo_spec_l02Is_1 m_0 k (i_l0 + 1))
      (.inl ()))
    (.inr ()))

def ls_spec_l02Is_1 (m_0 : GMesh) : (Unit) ⊕ (Unit) → Ex × St
  | .inl r => (.ret, ⟨[.any, .any, .b false, .any, .any, .any, .any, .any, .any, .any, .any, .any, .any, .any, .any, .any, .any, .any, .any, .any, .any, .any, .any, .any, .any, .any, .any, .any, .any, .any, .any, .any, .any, .any, .any, .any, .any, .any, .any, .any, .any], []⟩)
  | .inr r => ((.exit 0), ⟨[.ref [.sl (m_0.Places.map GVector.cells), .sl (m_0.Triangles.map (cL (cI .i64)))] 0, .any, .any, .any, .ref [.sl (m_0.Places.map GVector.cells), .sl (m_0.Triangles.map (cL (cI .i64)))] 0, .ref [.sl (m_0.Places.map GVector.cells), .sl (m_0.Triangles.map (cL (cI .i64)))] 0, .ref [.sl (m_0.Places.map GVector.cells), .sl (m_0.Triangles.map (cL (cI .i64)))] 0, .sl (m_0.Places.map GVector.cells), .i .i64 (m_0.Places.length : Int), .b (decide ((m_0.Places.length : Int) > 64)), .b (decide ((m_0.Places.length : Int) > 64)), .ref [.sl (m_0.Places.map GVector.cells), .sl (m_0.Triangles.map (cL (cI .i64)))] 0, .ref [.sl (m_0.Places.map GVector.cells), .sl (m_0.Triangles.map (cL (cI .i64)))] 0, .ref [.sl (m_0.Places.map GVector.cells), .sl (m_0.Triangles.map (cL (cI .i64)))] 1, .sl (m_0.Triangles.map (cL (cI .i64))), .i .i64 (m_0.Triangles.length : Int), .b (decide ((m_0.Triangles.length : Int) > 128)), .b (decide ((m_0.Triangles.length : Int) > 128)), .any, .any, .any, .any, .any, .any, .any, .any, .any, .any, .any, .any, .any, .any, .any, .any, .any, .any, .any, .any, .any, .any, .any], []⟩)

theorem lp_spec_l02Is_1 (m_0 : GMesh) (hp0 : m_0.Places.length ≤ 1073741824) (hp1 : m_0.Triangles.length ≤ 1073741824) (hp2 : ∀ t ∈ m_0.Triangles, t.length ≤ 1073741824) (hf_spec_l02Is_1_0 : (decide ((m_0.Places.length : Int) > 64)) = false) (hf_spec_l02Is_1_1 : (decide ((m_0.Triangles.length : Int) > 128)) = false) : ∀ (k : Nat) (i_l0 : Int) (hv_spec_l02Is_1_0 : 0 ≤ i_l0) (hk : ((m_0.Triangles.length : Int) - i_l0).toNat < k), Lp Go.Proofs.Try.prog 0 (sub (bodyOf Go.Proofs.Try.f85) [1, 1, 0, 1, 0, 0]) ⟨[.ref [.sl (m_0.Places.map GVector.cells), .sl (m_0.Triangles.map (cL (cI .i64)))] 0, .any, .any, .i .i64 i_l0, .ref [.sl (m_0.Places.map GVector.cells), .sl (m_0.Triangles.map (cL (cI .i64)))] 0, .ref [.sl (m_0.Places.map GVector.cells), .sl (m_0.Triangles.map (cL (cI .i64)))] 0, .ref [.sl (m_0.Places.map GVector.cells), .sl (m_0.Triangles.map (cL (cI .i64)))] 0, .sl (m_0.Places.map GVector.cells), .i .i64 (m_0.Places.length : Int), .b (decide ((m_0.Places.length : Int) > 64)), .b (decide ((m_0.Places.length : Int) > 64)), .ref [.sl (m_0.Places.map GVector.cells), .sl (m_0.Triangles.map (cL (cI .i64)))] 0, .ref [.sl (m_0.Places.map GVector.cells), .sl (m_0.Triangles.map (cL (cI .i64)))] 0, .ref [.sl (m_0.Places.map GVector.cells), .sl (m_0.Triangles.map (cL (cI .i64)))] 1, .sl (m_0.Triangles.map (cL (cI .i64))), .i .i64 (m_0.Triangles.length : Int), .b (decide ((m_0.Triangles.length : Int) > 128)), .b (decide ((m_0.Triangles.length : Int) > 128)), .any, .any, .any, .any, .any, .any, .any, .any, .any, .any, .any, .any, .any, .any, .any, .any, .any, .any, .any, .any, .any, .any, .any], []⟩ (ls_spec_l02Is_1 m_0 (lo_spec_l02Is_1 m_0 k i_l0)).1 (ls_spec_l02Is_1 m_0 (lo_spec_l02Is_1 m_0 k i_l0)).2 := by
  intro k
  induction k with
  | zero => intro i_l0 hv_spec_l02Is_1_0 hk; exact absurd hk (Nat.not_lt_zero _)
  | succ k ih =>
    intro i_l0 hv_spec_l02Is_1_0 hk
    cases h_0 : (decide (i_l0 < (m_0.Triangles.length : Int))) with
    | true =>
      cases h_1 : (v_spec_l02Triangle (m_0.Triangles.getD i_l0.toNat default) (m_0.Places.length : Int)) with
      | true =>
        have e : lo_spec_l02Is_1 m_0 (k + 1) i_l0 = (lo_spec_l02Is_1 m_0 k (i_l0 + 1)) := by simp only [lo_spec_l02Is_1, h_0, h_1, cond_true]
        rw [e]
        exact stepK_next (E := E0) E0Ok hMixed (body := (sub (bodyOf Go.Proofs.Try.f85) [1, 1, 0, 1, 0, 0])) (st := ⟨[.ref [.sl (m_0.Places.map GVector.cells), .sl (m_0.Triangles.map (cL (cI .i64)))] 0, .any, .any, .i .i64 i_l0, .ref [.sl (m_0.Places.map GVector.cells), .sl (m_0.Triangles.map (cL (cI .i64)))] 0, .ref [.sl (m_0.Places.map GVector.cells), .sl (m_0.Triangles.map (cL (cI .i64)))] 0, .ref [.sl (m_0.Places.map GVector.cells), .sl (m_0.Triangles.map (cL (cI .i64)))] 0, .sl (m_0.Places.map GVector.cells), .i .i64 (m_0.Places.length : Int), .b (decide ((m_0.Places.length : Int) > 64)), .b (decide ((m_0.Places.length : Int) > 64)), .ref [.sl (m_0.Places.map GVector.cells), .sl (m_0.Triangles.map (cL (cI .i64)))] 0, .ref [.sl (m_0.Places.map GVector.cells), .sl (m_0.Triangles.map (cL (cI .i64)))] 0, .ref [.sl (m_0.Places.map GVector.cells), .sl (m_0.Triangles.map (cL (cI .i64)))] 1, .sl (m_0.Triangles.map (cL (cI .i64))), .i .i64 (m_0.Triangles.length : Int), .b (decide ((m_0.Triangles.length : Int) > 128)), .b (decide ((m_0.Triangles.length : Int) > 128)), .any, .any, .any, .any, .any, .any, .any, .any, .any, .any, .any, .any, .any, .any, .any, .any, .any, .any, .any, .any, .any, .any, .any], []⟩)
          (st2 := ⟨[.ref [.sl (m_0.Places.map GVector.cells), .sl (m_0.Triangles.map (cL (cI .i64)))] 0, .any, .any, .i .i64 (i_l0 + 1), .ref [.sl (m_0.Places.map GVector.cells), .sl (m_0.Triangles.map (cL (cI .i64)))] 0, .ref [.sl (m_0.Places.map GVector.cells), .sl (m_0.Triangles.map (cL (cI .i64)))] 0, .ref [.sl (m_0.Places.map GVector.cells), .sl (m_0.Triangles.map (cL (cI .i64)))] 0, .sl (m_0.Places.map GVector.cells), .i .i64 (m_0.Places.length : Int), .b (decide ((m_0.Places.length : Int) > 64)), .b (decide ((m_0.Places.length : Int) > 64)), .ref [.sl (m_0.Places.map GVector.cells), .sl (m_0.Triangles.map (cL (cI .i64)))] 0, .ref [.sl (m_0.Places.map GVector.cells), .sl (m_0.Triangles.map (cL (cI .i64)))] 0, .ref [.sl (m_0.Places.map GVector.cells), .sl (m_0.Triangles.map (cL (cI .i64)))] 1, .sl (m_0.Triangles.map (cL (cI .i64))), .i .i64 (m_0.Triangles.length : Int), .b (decide ((m_0.Triangles.length : Int) > 128)), .b (decide ((m_0.Triangles.length : Int) > 128)), .any, .any, .any, .any, .any, .any, .any, .any, .any, .any, .any, .any, .any, .any, .any, .any, .any, .any, .any, .any, .any, .any, .any], []⟩)
          (ans := [.num (m_0.Triangles.length : Int), .bo true, .keep [12, 12], .el [.sl ((m_0.Triangles.getD i_l0.toNat default).map (cI .i64))], .num (m_0.Places.length : Int), .call (.b (v_spec_l02Triangle (m_0.Triangles.getD i_l0.toNat default) (m_0.Places.length : Int))) [], .bo false, .num (i_l0 + 1)])
          (ps := []) (mask := [true, false, false, true, true, true, true, true, true, true, true, true, true, true, true, true, true, true, false, false, false, false, false, false, false, false, false, false, false, false, false, false, false, false, false, false, false, false, false, false, false]) (ks := [])
          (C := [(((m_0.Triangles.map (cL (cI .i64))).length : Nat) : Int) = (m_0.Triangles.length : Int),
            (decide (i_l0 < (m_0.Triangles.length : Int))) = true,
            0 ≤ i_l0 ∧ (m_0.Triangles.map (cL (cI .i64)))[Int.toNat i_l0]? = some [.sl ((m_0.Triangles.getD i_l0.toNat default).map (cI .i64))],
            (((m_0.Places.map GVector.cells).length : Nat) : Int) = (m_0.Places.length : Int),
            Fn Go.Proofs.Try.prog 132 [.sl ((m_0.Triangles.getD i_l0.toNat default).map (cI .i64)), .i .i64 (m_0.Places.length : Int)] (.b (v_spec_l02Triangle (m_0.Triangles.getD i_l0.toNat default) (m_0.Places.length : Int))) [],
            (!(v_spec_l02Triangle (m_0.Triangles.getD i_l0.toNat default) (m_0.Places.length : Int))) = false,
            IntKind.wrap .i64 (i_l0 + 1) = (i_l0 + 1)])
          (by kernel_rfl)
          ⟨len_ok, h_0, (get_ok (by first | assumption | omega | (simp at * <;> omega) | (simp_all <;> omega)) (by first | assumption | omega | (simp at * <;> omega) | (simp_all <;> omega))), len_ok, (t_spec_l02Triangle (m_0.Triangles.getD i_l0.toNat default) (m_0.Places.length : Int) (show (m_0.Triangles.getD i_l0.toNat default).length ≤ 1073741824 from (by first | assumption | omega | (simp at * <;> omega) | (simp_all <;> omega)))), (congrArg not h_1), (wrap_id (by first | assumption | omega | (simp at * <;> omega) | (simp_all <;> omega)) (by first | assumption | omega | (simp at * <;> omega) | (simp_all <;> omega))), trivial⟩
          rfl (ih (i_l0 + 1) (show 0 ≤ (i_l0 + 1) from (by first | assumption | omega | (simp at * <;> omega) | (simp_all <;> omega))) (by first | assumption | omega | (simp at * <;> omega) | (simp_all <;> omega)))
      | false =>
        have e : lo_spec_l02Is_1 m_0 (k + 1) i_l0 = (.inl ()) := by simp only [lo_spec_l02Is_1, h_0, h_1, cond_true, cond_false]
        rw [e]
        exact stepK_out (E := E0) E0Ok hMixed (e := .ret) (body := (sub (bodyOf Go.Proofs.Try.f85) [1, 1, 0, 1, 0, 0])) (st := ⟨[.ref [.sl (m_0.Places.map GVector.cells), .sl (m_0.Triangles.map (cL (cI .i64)))] 0, .any, .any, .i .i64 i_l0, .ref [.sl (m_0.Places.map GVector.cells), .sl (m_0.Triangles.map (cL (cI .i64)))] 0, .ref [.sl (m_0.Places.map GVector.cells), .sl (m_0.Triangles.map (cL (cI .i64)))] 0, .ref [.sl (m_0.Places.map GVector.cells), .sl (m_0.Triangles.map (cL (cI .i64)))] 0, .sl (m_0.Places.map GVector.cells), .i .i64 (m_0.Places.length : Int), .b (decide ((m_0.Places.length : Int) > 64)), .b (decide ((m_0.Places.length : Int) > 64)), .ref [.sl (m_0.Places.map GVector.cells), .sl (m_0.Triangles.map (cL (cI .i64)))] 0, .ref [.sl (m_0.Places.map GVector.cells), .sl (m_0.Triangles.map (cL (cI .i64)))] 0, .ref [.sl (m_0.Places.map GVector.cells), .sl (m_0.Triangles.map (cL (cI .i64)))] 1, .sl (m_0.Triangles.map (cL (cI .i64))), .i .i64 (m_0.Triangles.length : Int), .b (decide ((m_0.Triangles.length : Int) > 128)), .b (decide ((m_0.Triangles.length : Int) > 128)), .any, .any, .any, .any, .any, .any, .any, .any, .any, .any, .any, .any, .any, .any, .any, .any, .any, .any, .any, .any, .any, .any, .any], []⟩)
          (st2 := ⟨[.any, .any, .b false, .any, .any, .any, .any, .any, .any, .any, .any, .any, .any, .any, .any, .any, .any, .any, .any, .any, .any, .any, .any, .any, .any, .any, .any, .any, .any, .any, .any, .any, .any, .any, .any, .any, .any, .any, .any, .any, .any], []⟩)
          (ans := [.num (m_0.Triangles.length : Int), .bo true, .keep [12, 12], .el [.sl ((m_0.Triangles.getD i_l0.toNat default).map (cI .i64))], .num (m_0.Places.length : Int), .call (.b (v_spec_l02Triangle (m_0.Triangles.getD i_l0.toNat default) (m_0.Places.length : Int))) [], .bo true])
          (ps := []) (mask := [false, false, true, false, false, false, false, false, false, false, false, false, false, false, false, false, false, false, false, false, false, false, false, false, false, false, false, false, false, false, false, false, false, false, false, false, false, false, false, false, false]) (ks := [])
          (C := [(((m_0.Triangles.map (cL (cI .i64))).length : Nat) : Int) = (m_0.Triangles.length : Int),
            (decide (i_l0 < (m_0.Triangles.length : Int))) = true,
            0 ≤ i_l0 ∧ (m_0.Triangles.map (cL (cI .i64)))[Int.toNat i_l0]? = some [.sl ((m_0.Triangles.getD i_l0.toNat default).map (cI .i64))],
            (((m_0.Places.map GVector.cells).length : Nat) : Int) = (m_0.Places.length : Int),
            Fn Go.Proofs.Try.prog 132 [.sl ((m_0.Triangles.getD i_l0.toNat default).map (cI .i64)), .i .i64 (m_0.Places.length : Int)] (.b (v_spec_l02Triangle (m_0.Triangles.getD i_l0.toNat default) (m_0.Places.length : Int))) [],
            (!(v_spec_l02Triangle (m_0.Triangles.getD i_l0.toNat default) (m_0.Places.length : Int))) = true])
          (by kernel_rfl)
          ⟨len_ok, h_0, (get_ok (by first | assumption | omega | (simp at * <;> omega) | (simp_all <;> omega)) (by first | assumption | omega | (simp at * <;> omega) | (simp_all <;> omega))), len_ok, (t_spec_l02Triangle (m_0.Triangles.getD i_l0.toNat default) (m_0.Places.length : Int) (show (m_0.Triangles.getD i_l0.toNat default).length ≤ 1073741824 from (by first | assumption | omega | (simp at * <;> omega) | (simp_all <;> omega)))), (congrArg not h_1), trivial⟩
          (by intro h; cases h) rfl
    | false =>
      have e : lo_spec_l02Is_1 m_0 (k + 1) i_l0 = (.inr ()) := by simp only [lo_spec_l02Is_1, h_0, cond_false]
      rw [e]
      exact stepK_out (E := E0) E0Ok hMixed (e := (.exit 0)) (body := (sub (bodyOf Go.Proofs.Try.f85) [1, 1, 0, 1, 0, 0])) (st := ⟨[.ref [.sl (m_0.Places.map GVector.cells), .sl (m_0.Triangles.map (cL (cI .i64)))] 0, .any, .any, .i .i64 i_l0, .ref [.sl (m_0.Places.map GVector.cells), .sl (m_0.Triangles.map (cL (cI .i64)))] 0, .ref [.sl (m_0.Places.map GVector.cells), .sl (m_0.Triangles.map (cL (cI .i64)))] 0, .ref [.sl (m_0.Places.map GVector.cells), .sl (m_0.Triangles.map (cL (cI .i64)))] 0, .sl (m_0.Places.map GVector.cells), .i .i64 (m_0.Places.length : Int), .b (decide ((m_0.Places.length : Int) > 64)), .b (decide ((m_0.Places.length : Int) > 64)), .ref [.sl (m_0.Places.map GVector.cells), .sl (m_0.Triangles.map (cL (cI .i64)))] 0, .ref [.sl (m_0.Places.map GVector.cells), .sl (m_0.Triangles.map (cL (cI .i64)))] 0, .ref [.sl (m_0.Places.map GVector.cells), .sl (m_0.Triangles.map (cL (cI .i64)))] 1, .sl (m_0.Triangles.map (cL (cI .i64))), .i .i64 (m_0.Triangles.length : Int), .b (decide ((m_0.Triangles.length : Int) > 128)), .b (decide ((m_0.Triangles.length : Int) > 128)), .any, .any, .any, .any, .any, .any, .any, .any, .any, .any, .any, .any, .any, .any, .any, .any, .any, .any, .any, .any, .any, .any, .any], []⟩)
        (st2 := ⟨[.ref [.sl (m_0.Places.map GVector.cells), .sl (m_0.Triangles.map (cL (cI .i64)))] 0, .any, .any, .any, .ref [.sl (m_0.Places.map GVector.cells), .sl (m_0.Triangles.map (cL (cI .i64)))] 0, .ref [.sl (m_0.Places.map GVector.cells), .sl (m_0.Triangles.map (cL (cI .i64)))] 0, .ref [.sl (m_0.Places.map GVector.cells), .sl (m_0.Triangles.map (cL (cI .i64)))] 0, .sl (m_0.Places.map GVector.cells), .i .i64 (m_0.Places.length : Int), .b (decide ((m_0.Places.length : Int) > 64)), .b (decide ((m_0.Places.length : Int) > 64)), .ref [.sl (m_0.Places.map GVector.cells), .sl (m_0.Triangles.map (cL (cI .i64)))] 0, .ref [.sl (m_0.Places.map GVector.cells), .sl (m_0.Triangles.map (cL (cI .i64)))] 0, .ref [.sl (m_0.Places.map GVector.cells), .sl (m_0.Triangles.map (cL (cI .i64)))] 1, .sl (m_0.Triangles.map (cL (cI .i64))), .i .i64 (m_0.Triangles.length : Int), .b (decide ((m_0.Triangles.length : Int) > 128)), .b (decide ((m_0.Triangles.length : Int) > 128)), .any, .any, .any, .any, .any, .any, .any, .any, .any, .any, .any, .any, .any, .any, .any, .any, .any, .any, .any, .any, .any, .any, .any], []⟩)
        (ans := [.num (m_0.Triangles.length : Int), .bo false])
        (ps := []) (mask := [true, false, false, false, true, true, true, true, true, true, true, true, true, true, true, true, true, true, false, false, false, false, false, false, false, false, false, false, false, false, false, false, false, false, false, false, false, false, false, false, false]) (ks := [])
        (C := [(((m_0.Triangles.map (cL (cI .i64))).length : Nat) : Int) = (m_0.Triangles.length : Int),
          (decide (i_l0 < (m_0.Triangles.length : Int))) = false])
        (by kernel_rfl)
        ⟨len_ok, h_0, trivial⟩
        (by intro h; cases h) rfl

def lr_spec_l02Is_1_0 (m_0 : GMesh) : (Unit) ⊕ (Unit) := (lo_spec_l02Is_1 m_0 (((m_0.Triangles.length : Int) - 0).toNat + 1) 0)

/-- spec.l02Is -/
def v_spec_l02Is (m_0 : GMesh) : Bool := (cond (decide ((m_0.Places.length : Int) > 64))
  false
  (cond (decide ((m_0.Triangles.length : Int) > 128))
    false
    (match (lr_spec_l02Is_1_0 m_0) with
      | .inl r3 => false
      | .inr r3 => true)))

theorem t_spec_l02Is (m_0 : GMesh) (hp0 : m_0.Places.length ≤ 1073741824) (hp1 : m_0.Triangles.length ≤ 1073741824) (hp2 : ∀ t ∈ m_0.Triangles, t.length ≤ 1073741824)  : Fn Go.Proofs.Try.prog 85 [.ref [.sl (m_0.Places.map GVector.cells), .sl (m_0.Triangles.map (cL (cI .i64)))] 0] (.b (v_spec_l02Is m_0)) [] := by
  cases h0 : (decide ((m_0.Places.length : Int) > 64)) with
  | true =>
    exact Fn.cast (CallSt.fn (callSt_of_evK (E := E0) E0Ok hMixed (c := bodyOf Go.Proofs.Try.f85) (rows := []) (r := .b false) (rows' := [])
      (ans := [.num (m_0.Places.length : Int), .bo true, .bo true, .bo true, .bo true, .bo true, .bo true, .bo true, .bo true, .keep []])
      (ps := [])
      (C := [(((m_0.Places.map GVector.cells).length : Nat) : Int) = (m_0.Places.length : Int),
        (decide ((m_0.Places.length : Int) > 64)) = true,
        (decide ((m_0.Places.length : Int) > 64)) = true,
        (decide ((m_0.Places.length : Int) > 64)) = true,
        (decide ((m_0.Places.length : Int) > 64)) = true,
        (decide ((m_0.Places.length : Int) > 64)) = true,
        (decide ((m_0.Places.length : Int) > 64)) = true,
        (decide ((m_0.Places.length : Int) > 64)) = true,
        true = true])
      Go.Proofs.Try.func85 rfl (by kernel_rfl) (by kernel_rfl)
      ⟨len_ok, h0, h0, h0, h0, h0, h0, h0, rfl, trivial⟩) rfl) (by simp only [v_spec_l02Is, h0, cond_true]) rfl
  | false =>
    cases h1 : (decide ((m_0.Triangles.length : Int) > 128)) with
    | true =>
      exact Fn.cast (CallSt.fn (callSt_of_evK (E := E0) E0Ok hMixed (c := bodyOf Go.Proofs.Try.f85) (rows := []) (r := .b false) (rows' := [])
        (ans := [.num (m_0.Places.length : Int), .bo false, .bo false, .bo false, .bo false, .bo false, .num (m_0.Triangles.length : Int), .bo false, .bo false, .bo true, .keep []])
        (ps := [])
        (C := [(((m_0.Places.map GVector.cells).length : Nat) : Int) = (m_0.Places.length : Int),
          (decide ((m_0.Places.length : Int) > 64)) = false,
          (decide ((m_0.Places.length : Int) > 64)) = false,
          (decide ((m_0.Places.length : Int) > 64)) = false,
          (decide ((m_0.Places.length : Int) > 64)) = false,
          (decide ((m_0.Places.length : Int) > 64)) = false,
          (((m_0.Triangles.map (cL (cI .i64))).length : Nat) : Int) = (m_0.Triangles.length : Int),
          (decide ((m_0.Places.length : Int) > 64)) = false,
          (decide ((m_0.Places.length : Int) > 64)) = false,
          (decide ((m_0.Triangles.length : Int) > 128)) = true])
        Go.Proofs.Try.func85 rfl (by kernel_rfl) (by kernel_rfl)
        ⟨len_ok, h0, h0, h0, h0, h0, len_ok, h0, h0, h1, trivial⟩) rfl) (by simp only [v_spec_l02Is, h0, h1, cond_true, cond_false]) rfl
    | false =>
      cases h2 : (lr_spec_l02Is_1_0 m_0) with
      | inl r3 =>
        exact Fn.cast (CallSt.fn (callSt_of_evK (E := E0) E0Ok hMixed (c := bodyOf Go.Proofs.Try.f85) (rows := []) (r := .b false) (rows' := [])
          (ans := [.num (m_0.Places.length : Int), .bo false, .bo false, .bo false, .bo false, .bo false, .num (m_0.Triangles.length : Int), .bo false, .bo false, .bo false, .loop [true, false, false, true, true, true, true, true, true, true, true, true, true, true, true, true, true, true, false, false, false, false, false, false, false, false, false, false, false, false, false, false, false, false, false, false, false, false, false, false, false] 0 .ret ⟨[.any, .any, .b false, .any, .any, .any, .any, .any, .any, .any, .any, .any, .any, .any, .any, .any, .any, .any, .any, .any, .any, .any, .any, .any, .any, .any, .any, .any, .any, .any, .any, .any, .any, .any, .any, .any, .any, .any, .any, .any, .any], []⟩, .keep []])
          (ps := [])
          (C := [(((m_0.Places.map GVector.cells).length : Nat) : Int) = (m_0.Places.length : Int),
            (decide ((m_0.Places.length : Int) > 64)) = false,
            (decide ((m_0.Places.length : Int) > 64)) = false,
            (decide ((m_0.Places.length : Int) > 64)) = false,
            (decide ((m_0.Places.length : Int) > 64)) = false,
            (decide ((m_0.Places.length : Int) > 64)) = false,
            (((m_0.Triangles.map (cL (cI .i64))).length : Nat) : Int) = (m_0.Triangles.length : Int),
            (decide ((m_0.Places.length : Int) > 64)) = false,
            (decide ((m_0.Places.length : Int) > 64)) = false,
            (decide ((m_0.Triangles.length : Int) > 128)) = false,
            Lp Go.Proofs.Try.prog 0 (sub (bodyOf Go.Proofs.Try.f85) [1, 1, 0, 1, 0, 0]) ⟨[.ref [.sl (m_0.Places.map GVector.cells), .sl (m_0.Triangles.map (cL (cI .i64)))] 0, .any, .any, .i .i64 0, .ref [.sl (m_0.Places.map GVector.cells), .sl (m_0.Triangles.map (cL (cI .i64)))] 0, .ref [.sl (m_0.Places.map GVector.cells), .sl (m_0.Triangles.map (cL (cI .i64)))] 0, .ref [.sl (m_0.Places.map GVector.cells), .sl (m_0.Triangles.map (cL (cI .i64)))] 0, .sl (m_0.Places.map GVector.cells), .i .i64 (m_0.Places.length : Int), .b (decide ((m_0.Places.length : Int) > 64)), .b (decide ((m_0.Places.length : Int) > 64)), .ref [.sl (m_0.Places.map GVector.cells), .sl (m_0.Triangles.map (cL (cI .i64)))] 0, .ref [.sl (m_0.Places.map GVector.cells), .sl (m_0.Triangles.map (cL (cI .i64)))] 0, .ref [.sl (m_0.Places.map GVector.cells), .sl (m_0.Triangles.map (cL (cI .i64)))] 1, .sl (m_0.Triangles.map (cL (cI .i64))), .i .i64 (m_0.Triangles.length : Int), .b (decide ((m_0.Triangles.length : Int) > 128)), .b (decide ((m_0.Triangles.length : Int) > 128)), .any, .any, .any, .any, .any, .any, .any, .any, .any, .any, .any, .any, .any, .any, .any, .any, .any, .any, .any, .any, .any, .any, .any], []⟩ .ret ⟨[.any, .any, .b false, .any, .any, .any, .any, .any, .any, .any, .any, .any, .any, .any, .any, .any, .any, .any, .any, .any, .any, .any, .any, .any, .any, .any, .any, .any, .any, .any, .any, .any, .any, .any, .any, .any, .any, .any, .any, .any, .any], []⟩])
          Go.Proofs.Try.func85 rfl (by kernel_rfl) (by kernel_rfl)
          ⟨len_ok, h0, h0, h0, h0, h0, len_ok, h0, h0, h1, (by have q := (lp_spec_l02Is_1 m_0 hp0 hp1 hp2 h0 h1 (((m_0.Triangles.length : Int) - 0).toNat + 1) 0 (show 0 ≤ 0 from (by first | assumption | omega | (simp at * <;> omega) | (simp_all <;> omega))) (Nat.lt_succ_self _)); rw [show (lo_spec_l02Is_1 m_0 (((m_0.Triangles.length : Int) - 0).toNat + 1) 0) = _ from rfl] at q; rw [show (lo_spec_l02Is_1 m_0 (((m_0.Triangles.length : Int) - 0).toNat + 1) 0) = (lr_spec_l02Is_1_0 m_0) from rfl, h2] at q; exact q), trivial⟩) rfl) (by simp only [v_spec_l02Is, h0, h1, h2, cond_false]) rfl
      | inr r3 =>
        exact Fn.cast (CallSt.fn (callSt_of_evK (E := E0) E0Ok hMixed (c := bodyOf Go.Proofs.Try.f85) (rows := []) (r := .b true) (rows' := [])
          (ans := [.num (m_0.Places.length : Int), .bo false, .bo false, .bo false, .bo false, .bo false, .num (m_0.Triangles.length : Int), .bo false, .bo false, .bo false, .loop [true, false, false, true, true, true, true, true, true, true, true, true, true, true, true, true, true, true, false, false, false, false, false, false, false, false, false, false, false, false, false, false, false, false, false, false, false, false, false, false, false] 0 (.exit 0) ⟨[.ref [.sl (m_0.Places.map GVector.cells), .sl (m_0.Triangles.map (cL (cI .i64)))] 0, .any, .any, .any, .ref [.sl (m_0.Places.map GVector.cells), .sl (m_0.Triangles.map (cL (cI .i64)))] 0, .ref [.sl (m_0.Places.map GVector.cells), .sl (m_0.Triangles.map (cL (cI .i64)))] 0, .ref [.sl (m_0.Places.map GVector.cells), .sl (m_0.Triangles.map (cL (cI .i64)))] 0, .sl (m_0.Places.map GVector.cells), .i .i64 (m_0.Places.length : Int), .b (decide ((m_0.Places.length : Int) > 64)), .b (decide ((m_0.Places.length : Int) > 64)), .ref [.sl (m_0.Places.map GVector.cells), .sl (m_0.Triangles.map (cL (cI .i64)))] 0, .ref [.sl (m_0.Places.map GVector.cells), .sl (m_0.Triangles.map (cL (cI .i64)))] 0, .ref [.sl (m_0.Places.map GVector.cells), .sl (m_0.Triangles.map (cL (cI .i64)))] 1, .sl (m_0.Triangles.map (cL (cI .i64))), .i .i64 (m_0.Triangles.length : Int), .b (decide ((m_0.Triangles.length : Int) > 128)), .b (decide ((m_0.Triangles.length : Int) > 128)), .any, .any, .any, .any, .any, .any, .any, .any, .any, .any, .any, .any, .any, .any, .any, .any, .any, .any, .any, .any, .any, .any, .any], []⟩, .keep []])
          (ps := [])
          (C := [(((m_0.Places.map GVector.cells).length : Nat) : Int) = (m_0.Places.length : Int),
            (decide ((m_0.Places.length : Int) > 64)) = false,
            (decide ((m_0.Places.length : Int) > 64)) = false,
            (decide ((m_0.Places.length : Int) > 64)) = false,
            (decide ((m_0.Places.length : Int) > 64)) = false,
            (decide ((m_0.Places.length : Int) > 64)) = false,
            (((m_0.Triangles.map (cL (cI .i64))).length : Nat) : Int) = (m_0.Triangles.length : Int),
            (decide ((m_0.Places.length : Int) > 64)) = false,
            (decide ((m_0.Places.length : Int) > 64)) = false,
            (decide ((m_0.Triangles.length : Int) > 128)) = false,
            Lp Go.Proofs.Try.prog 0 (sub (bodyOf Go.Proofs.Try.f85) [1, 1, 0, 1, 0, 0]) ⟨[.ref [.sl (m_0.Places.map GVector.cells), .sl (m_0.Triangles.map (cL (cI .i64)))] 0, .any, .any, .i .i64 0, .ref [.sl (m_0.Places.map GVector.cells), .sl (m_0.Triangles.map (cL (cI .i64)))] 0, .ref [.sl (m_0.Places.map GVector.cells), .sl (m_0.Triangles.map (cL (cI .i64)))] 0, .ref [.sl (m_0.Places.map GVector.cells), .sl (m_0.Triangles.map (cL (cI .i64)))] 0, .sl (m_0.Places.map GVector.cells), .i .i64 (m_0.Places.length : Int), .b (decide ((m_0.Places.length : Int) > 64)), .b (decide ((m_0.Places.length : Int) > 64)), .ref [.sl (m_0.Places.map GVector.cells), .sl (m_0.Triangles.map (cL (cI .i64)))] 0, .ref [.sl (m_0.Places.map GVector.cells), .sl (m_0.Triangles.map (cL (cI .i64)))] 0, .ref [.sl (m_0.Places.map GVector.cells), .sl (m_0.Triangles.map (cL (cI .i64)))] 1, .sl (m_0.Triangles.map (cL (cI .i64))), .i .i64 (m_0.Triangles.length : Int), .b (decide ((m_0.Triangles.length : Int) > 128)), .b (decide ((m_0.Triangles.length : Int) > 128)), .any, .any, .any, .any, .any, .any, .any, .any, .any, .any, .any, .any, .any, .any, .any, .any, .any, .any, .any, .any, .any, .any, .any], []⟩ (.exit 0) ⟨[.ref [.sl (m_0.Places.map GVector.cells), .sl (m_0.Triangles.map (cL (cI .i64)))] 0, .any, .any, .any, .ref [.sl (m_0.Places.map GVector.cells), .sl (m_0.Triangles.map (cL (cI .i64)))] 0, .ref [.sl (m_0.Places.map GVector.cells), .sl (m_0.Triangles.map (cL (cI .i64)))] 0, .ref [.sl (m_0.Places.map GVector.cells), .sl (m_0.Triangles.map (cL (cI .i64)))] 0, .sl (m_0.Places.map GVector.cells), .i .i64 (m_0.Places.length : Int), .b (decide ((m_0.Places.length : Int) > 64)), .b (decide ((m_0.Places.length : Int) > 64)), .ref [.sl (m_0.Places.map GVector.cells), .sl (m_0.Triangles.map (cL (cI .i64)))] 0, .ref [.sl (m_0.Places.map GVector.cells), .sl (m_0.Triangles.map (cL (cI .i64)))] 0, .ref [.sl (m_0.Places.map GVector.cells), .sl (m_0.Triangles.map (cL (cI .i64)))] 1, .sl (m_0.Triangles.map (cL (cI .i64))), .i .i64 (m_0.Triangles.length : Int), .b (decide ((m_0.Triangles.length : Int) > 128)), .b (decide ((m_0.Triangles.length : Int) > 128)), .any, .any, .any, .any, .any, .any, .any, .any, .any, .any, .any, .any, .any, .any, .any, .any, .any, .any, .any, .any, .any, .any, .any], []⟩])
          Go.Proofs.Try.func85 rfl (by kernel_rfl) (by kernel_rfl)
          ⟨len_ok, h0, h0, h0, h0, h0, len_ok, h0, h0, h1, (by have q := (lp_spec_l02Is_1 m_0 hp0 hp1 hp2 h0 h1 (((m_0.Triangles.length : Int) - 0).toNat + 1) 0 (show 0 ≤ 0 from (by first | assumption | omega | (simp at * <;> omega) | (simp_all <;> omega))) (Nat.lt_succ_self _)); rw [show (lo_spec_l02Is_1 m_0 (((m_0.Triangles.length : Int) - 0).toNat + 1) 0) = _ from rfl] at q; rw [show (lo_spec_l02Is_1 m_0 (((m_0.Triangles.length : Int) - 0).toNat + 1) 0) = (lr_spec_l02Is_1_0 m_0) from rfl, h2] at q; exact q), trivial⟩) rfl) (by simp only [v_spec_l02Is, h0, h1, h2, cond_false]) rfl

theorem l02Is_eq (m : GMesh) : v_spec_l02Is m = cond (decide ((m.Places.length : Int) > 64)) false (cond (decide ((m.Triangles.length : Int) > 128)) false (m.Triangles.all fun t => v_spec_l02Triangle t (m.Places.length : Int))) := by
  unfold v_spec_l02Is lr_spec_l02Is_1_0
  rw [all_from (a := m.Triangles) (p := fun t => v_spec_l02Triangle t (m.Places.length : Int)) (lo := lo_spec_l02Is_1 m) (x := ()) (y := ()) (fun k i => rfl)]
  cases (m.Triangles.all fun t => v_spec_l02Triangle t (m.Places.length : Int)) <;> rfl
theorem tri_ok {t : List Int} {n : Int} (h0 : 0 ≤ n) (h1 : n ≤ 64) (h : v_spec_l02Triangle t n = true) : t.length = 3 ∧ ∀ x ∈ t, 0 ≤ x ∧ x < n := by
  unfold v_spec_l02Triangle at h
  rw [wrap_sub (by omega) (by omega)] at h
  cases hl : ((t.length : Int) != 3) with
  | true => rw [hl] at h; cases h
  | false =>
    rw [hl, cond_false] at h
    have hl3 : t.length = 3 := by simp at hl; omega
    match t, hl3 with
    | [a, b, c], _ =>
      refine ⟨rfl, ?_⟩
      simp only [List.getD_cons_zero, List.getD_cons_succ, v_spec_l00In] at h
      cases e1 : (a == b) <;> rw [e1] at h <;> (try (cases h; done))
      cases e2 : (b == c) <;> rw [e2] at h <;> (try (cases h; done))
      cases e3 : (a == c) <;> rw [e3] at h <;> (try (cases h; done))
      simp only [cond_false] at h
      cases f1 : decide (a ≥ 0) <;> rw [f1] at h <;> (try (cases h; done))
      cases f2 : decide (a ≤ n - 1) <;> rw [f2] at h <;> (try (cases h; done))
      cases f3 : decide (b ≥ 0) <;> rw [f3] at h <;> (try (cases h; done))
      cases f4 : decide (b ≤ n - 1) <;> rw [f4] at h <;> (try (cases h; done))
      cases f5 : decide (c ≥ 0) <;> rw [f5] at h <;> (try (cases h; done))
      simp only [cond_true, decide_eq_true_eq] at h f1 f2 f3 f4 f5
      intro x hx
      simp only [List.mem_cons, List.not_mem_nil, or_false] at hx
      rcases hx with rfl | rfl | rfl <;> omega
theorem okTris_is (m : GMesh) (h : v_spec_l02Is m = true) : OkTris m.Places.length m.Triangles := by
  rw [l02Is_eq] at h
  cases h1 : decide ((m.Places.length : Int) > 64) <;> rw [h1] at h <;> (try (cases h; done))
  cases h2 : decide ((m.Triangles.length : Int) > 128) <;> rw [h2] at h <;> (try (cases h; done))
  simp only [cond_false, List.all_eq_true, decide_eq_false_iff_not] at h h1
  intro t ht
  exact tri_ok (by omega) (by omega) (h t ht)

/-- spec.l01Finite -/
def v_spec_l01Finite (x_0 : Nat) : Bool := (fcmp .eql .f32 (fop .sub .f32 x_0 x_0) 0)

theorem t_spec_l01Finite (x_0 : Nat)   : Fn Go.Proofs.Try.prog 90 [.f .f32 x_0] (.b (v_spec_l01Finite x_0)) [] := by
  exact Fn.cast (CallSt.fn (callSt_of_evK (E := E0) E0Ok hMixed (c := bodyOf Go.Proofs.Try.f90) (rows := []) (r := .b (fcmp .eql .f32 (fop .sub .f32 x_0 x_0) 0)) (rows' := [])
    (ans := [.keep []])
    (ps := [])
    (C := [])
    Go.Proofs.Try.func90 rfl (by kernel_rfl) (by kernel_rfl)
    trivial) rfl) rfl rfl

/-- spec.l01VFinite -/
def v_spec_l01VFinite (v_0 : GVector) : Bool := (cond (v_spec_l01Finite v_0.X)
  (cond (v_spec_l01Finite v_0.Y)
    (v_spec_l01Finite v_0.Z)
    false)
  false)

theorem t_spec_l01VFinite (v_0 : GVector)   : Fn Go.Proofs.Try.prog 147 [.agg [.f .f32 v_0.X, .f .f32 v_0.Y, .f .f32 v_0.Z]] (.b (v_spec_l01VFinite v_0)) [] := by
  cases h0 : (v_spec_l01Finite v_0.X) with
  | true =>
    cases h1 : (v_spec_l01Finite v_0.Y) with
    | true =>
      exact Fn.cast (CallSt.fn (callSt_of_evK (E := E0) E0Ok hMixed (c := bodyOf Go.Proofs.Try.f147) (rows := []) (r := .b (v_spec_l01Finite v_0.Z)) (rows' := [])
        (ans := [.call (.b (v_spec_l01Finite v_0.X)) [], .bo true, .bo true, .bo true, .call (.b (v_spec_l01Finite v_0.Y)) [], .bo true, .bo true, .bo true, .bo true, .call (.b (v_spec_l01Finite v_0.Z)) [], .bo true, .keep []])
        (ps := [])
        (C := [Fn Go.Proofs.Try.prog 90 [.f .f32 v_0.X] (.b (v_spec_l01Finite v_0.X)) [],
          (v_spec_l01Finite v_0.X) = true,
          (v_spec_l01Finite v_0.X) = true,
          (v_spec_l01Finite v_0.X) = true,
          Fn Go.Proofs.Try.prog 90 [.f .f32 v_0.Y] (.b (v_spec_l01Finite v_0.Y)) [],
          (v_spec_l01Finite v_0.X) = true,
          (v_spec_l01Finite v_0.Y) = true,
          (v_spec_l01Finite v_0.Y) = true,
          (v_spec_l01Finite v_0.Y) = true,
          Fn Go.Proofs.Try.prog 90 [.f .f32 v_0.Z] (.b (v_spec_l01Finite v_0.Z)) [],
          (v_spec_l01Finite v_0.Y) = true])
        Go.Proofs.Try.func147 rfl (by kernel_rfl) (by kernel_rfl)
        ⟨(t_spec_l01Finite v_0.X), h0, h0, h0, (t_spec_l01Finite v_0.Y), h0, h1, h1, h1, (t_spec_l01Finite v_0.Z), h1, trivial⟩) rfl) (by simp only [v_spec_l01VFinite, h0, h1, cond_true]) rfl
    | false =>
      exact Fn.cast (CallSt.fn (callSt_of_evK (E := E0) E0Ok hMixed (c := bodyOf Go.Proofs.Try.f147) (rows := []) (r := .b false) (rows' := [])
        (ans := [.call (.b (v_spec_l01Finite v_0.X)) [], .bo true, .bo true, .bo true, .call (.b (v_spec_l01Finite v_0.Y)) [], .bo true, .bo false, .bo false, .bo false, .bo false, .keep []])
        (ps := [])
        (C := [Fn Go.Proofs.Try.prog 90 [.f .f32 v_0.X] (.b (v_spec_l01Finite v_0.X)) [],
          (v_spec_l01Finite v_0.X) = true,
          (v_spec_l01Finite v_0.X) = true,
          (v_spec_l01Finite v_0.X) = true,
          Fn Go.Proofs.Try.prog 90 [.f .f32 v_0.Y] (.b (v_spec_l01Finite v_0.Y)) [],
          (v_spec_l01Finite v_0.X) = true,
          (v_spec_l01Finite v_0.Y) = false,
          (v_spec_l01Finite v_0.Y) = false,
          (v_spec_l01Finite v_0.Y) = false,
          (v_spec_l01Finite v_0.Y) = false])
        Go.Proofs.Try.func147 rfl (by kernel_rfl) (by kernel_rfl)
        ⟨(t_spec_l01Finite v_0.X), h0, h0, h0, (t_spec_l01Finite v_0.Y), h0, h1, h1, h1, h1, trivial⟩) rfl) (by simp only [v_spec_l01VFinite, h0, h1, cond_true, cond_false]) rfl
  | false =>
    exact Fn.cast (CallSt.fn (callSt_of_evK (E := E0) E0Ok hMixed (c := bodyOf Go.Proofs.Try.f147) (rows := []) (r := .b false) (rows' := [])
      (ans := [.call (.b (v_spec_l01Finite v_0.X)) [], .bo false, .bo false, .bo false, .bo false, .bo false, .bo false, .bo false, .bo false, .keep []])
      (ps := [])
      (C := [Fn Go.Proofs.Try.prog 90 [.f .f32 v_0.X] (.b (v_spec_l01Finite v_0.X)) [],
        (v_spec_l01Finite v_0.X) = false,
        (v_spec_l01Finite v_0.X) = false,
        (v_spec_l01Finite v_0.X) = false,
        (v_spec_l01Finite v_0.X) = false,
        false = false,
        false = false,
        false = false,
        false = false])
      Go.Proofs.Try.func147 rfl (by kernel_rfl) (by kernel_rfl)
      ⟨(t_spec_l01Finite v_0.X), h0, h0, h0, h0, rfl, rfl, rfl, rfl, trivial⟩) rfl) (by simp only [v_spec_l01VFinite, h0, cond_false]) rfl

/-- spec.l01Inner -/
def v_spec_l01Inner (a_0 : GVector) (b_1 : GVector) : Nat := (fop .add .f32 (fop .add .f32 (fop .mul .f32 a_0.X b_1.X) (fop .mul .f32 a_0.Y b_1.Y)) (fop .mul .f32 a_0.Z b_1.Z))

theorem t_spec_l01Inner (a_0 : GVector) (b_1 : GVector)   : Fn Go.Proofs.Try.prog 116 [.agg [.f .f32 a_0.X, .f .f32 a_0.Y, .f .f32 a_0.Z], .agg [.f .f32 b_1.X, .f .f32 b_1.Y, .f .f32 b_1.Z]] (.f .f32 (v_spec_l01Inner a_0 b_1)) [] := by
  exact Fn.cast (CallSt.fn (callSt_of_evK (E := E0) E0Ok hMixed (c := bodyOf Go.Proofs.Try.f116) (rows := []) (r := .f .f32 (fop .add .f32 (fop .add .f32 (fop .mul .f32 a_0.X b_1.X) (fop .mul .f32 a_0.Y b_1.Y)) (fop .mul .f32 a_0.Z b_1.Z))) (rows' := [])
    (ans := [.keep []])
    (ps := [])
    (C := [])
    Go.Proofs.Try.func116 rfl (by kernel_rfl) (by kernel_rfl)
    trivial) rfl) rfl rfl

/-- spec.l04Is -/
def v_spec_l04Is (h_0 : GHold) : Bool := (cond (decide (h_0.Place < 0))
  false
  (cond (v_spec_l00In h_0.Kind 0 2)
    (cond (v_spec_l01VFinite h_0.At)
      (cond (v_spec_l01VFinite h_0.Way)
        (cond (h_0.Kind == 0)
          true
          (cond (v_spec_l01Finite (v_spec_l01Inner h_0.Way h_0.Way))
            (fcmp .gtr .f32 (v_spec_l01Inner h_0.Way h_0.Way) 0)
            false))
        false)
      false)
    false))

theorem t_spec_l04Is (h_0 : GHold)   : Fn Go.Proofs.Try.prog 113 [.ref [.i .i64 h_0.Place, .i .i64 h_0.Kind, .f .f32 h_0.At.X, .f .f32 h_0.At.Y, .f .f32 h_0.At.Z, .f .f32 h_0.Way.X, .f .f32 h_0.Way.Y, .f .f32 h_0.Way.Z] 0] (.b (v_spec_l04Is h_0)) [] := by
  cases h0 : (decide (h_0.Place < 0)) with
  | true =>
    exact Fn.cast (CallSt.fn (callSt_of_evK (E := E0) E0Ok hMixed (c := bodyOf Go.Proofs.Try.f113) (rows := []) (r := .b false) (rows' := [])
      (ans := [.bo true, .bo true, .bo true, .bo true, .bo true, .bo true, .bo true, .bo true, .bo true, .bo true, .bo true, .bo true, .bo true, .bo true, .bo true, .bo true, .bo true, .bo true, .bo true, .bo true, .bo true, .bo true, .keep []])
      (ps := [])
      (C := [(decide (h_0.Place < 0)) = true,
        (decide (h_0.Place < 0)) = true,
        (decide (h_0.Place < 0)) = true,
        (decide (h_0.Place < 0)) = true,
        (decide (h_0.Place < 0)) = true,
        (decide (h_0.Place < 0)) = true,
        (decide (h_0.Place < 0)) = true,
        true = true,
        true = true,
        true = true,
        true = true,
        true = true,
        true = true,
        true = true,
        true = true,
        true = true,
        true = true,
        true = true,
        true = true,
        true = true,
        true = true,
        true = true])
      Go.Proofs.Try.func113 rfl (by kernel_rfl) (by kernel_rfl)
      ⟨h0, h0, h0, h0, h0, h0, h0, rfl, rfl, rfl, rfl, rfl, rfl, rfl, rfl, rfl, rfl, rfl, rfl, rfl, rfl, rfl, trivial⟩) rfl) (by simp only [v_spec_l04Is, h0, cond_true]) rfl
  | false =>
    cases h1 : (v_spec_l00In h_0.Kind 0 2) with
    | true =>
      cases h2 : (v_spec_l01VFinite h_0.At) with
      | true =>
        cases h3 : (v_spec_l01VFinite h_0.Way) with
        | true =>
          cases h4 : (h_0.Kind == 0) with
          | true =>
            exact Fn.cast (CallSt.fn (callSt_of_evK (E := E0) E0Ok hMixed (c := bodyOf Go.Proofs.Try.f113) (rows := []) (r := .b true) (rows' := [])
              (ans := [.bo false, .bo false, .bo false, .bo false, .bo false, .call (.b (v_spec_l00In h_0.Kind 0 2)) [], .bo false, .bo false, .bo false, .bo false, .bo false, .bo false, .bo false, .call (.b (v_spec_l01VFinite h_0.At)) [], .bo false, .bo false, .bo false, .bo false, .bo false, .bo false, .bo false, .call (.b (v_spec_l01VFinite h_0.Way)) [], .bo false, .bo false, .bo false, .keep [8, 8], .call (.f .f32 (v_spec_l01Inner h_0.Way h_0.Way)) [], .bo true, .bo true, .bo true, .bo true, .bo true, .keep []])
              (ps := [])
              (C := [(decide (h_0.Place < 0)) = false,
                (decide (h_0.Place < 0)) = false,
                (decide (h_0.Place < 0)) = false,
                (decide (h_0.Place < 0)) = false,
                (decide (h_0.Place < 0)) = false,
                Fn Go.Proofs.Try.prog 74 [.i .i64 h_0.Kind, .i .i64 0, .i .i64 2] (.b (v_spec_l00In h_0.Kind 0 2)) [],
                (decide (h_0.Place < 0)) = false,
                (decide (h_0.Place < 0)) = false,
                (!(v_spec_l00In h_0.Kind 0 2)) = false,
                (!(v_spec_l00In h_0.Kind 0 2)) = false,
                (!(v_spec_l00In h_0.Kind 0 2)) = false,
                (!(v_spec_l00In h_0.Kind 0 2)) = false,
                (!(v_spec_l00In h_0.Kind 0 2)) = false,
                Fn Go.Proofs.Try.prog 147 [.agg [.f .f32 h_0.At.X, .f .f32 h_0.At.Y, .f .f32 h_0.At.Z]] (.b (v_spec_l01VFinite h_0.At)) [],
                (!(v_spec_l00In h_0.Kind 0 2)) = false,
                (!(v_spec_l00In h_0.Kind 0 2)) = false,
                (!(v_spec_l01VFinite h_0.At)) = false,
                (!(v_spec_l01VFinite h_0.At)) = false,
                (!(v_spec_l01VFinite h_0.At)) = false,
                (!(v_spec_l01VFinite h_0.At)) = false,
                (!(v_spec_l01VFinite h_0.At)) = false,
                Fn Go.Proofs.Try.prog 147 [.agg [.f .f32 h_0.Way.X, .f .f32 h_0.Way.Y, .f .f32 h_0.Way.Z]] (.b (v_spec_l01VFinite h_0.Way)) [],
                (!(v_spec_l01VFinite h_0.At)) = false,
                (!(v_spec_l01VFinite h_0.At)) = false,
                (!(v_spec_l01VFinite h_0.Way)) = false,
                Fn Go.Proofs.Try.prog 116 [.agg [.f .f32 h_0.Way.X, .f .f32 h_0.Way.Y, .f .f32 h_0.Way.Z], .agg [.f .f32 h_0.Way.X, .f .f32 h_0.Way.Y, .f .f32 h_0.Way.Z]] (.f .f32 (v_spec_l01Inner h_0.Way h_0.Way)) [],
                (h_0.Kind == 0) = true,
                (h_0.Kind == 0) = true,
                (h_0.Kind == 0) = true,
                (h_0.Kind == 0) = true,
                (h_0.Kind == 0) = true])
              Go.Proofs.Try.func113 rfl (by kernel_rfl) (by kernel_rfl)
              ⟨h0, h0, h0, h0, h0, (t_spec_l00In h_0.Kind 0 2), h0, h0, (congrArg not h1), (congrArg not h1), (congrArg not h1), (congrArg not h1), (congrArg not h1), (t_spec_l01VFinite h_0.At), (congrArg not h1), (congrArg not h1), (congrArg not h2), (congrArg not h2), (congrArg not h2), (congrArg not h2), (congrArg not h2), (t_spec_l01VFinite h_0.Way), (congrArg not h2), (congrArg not h2), (congrArg not h3), (t_spec_l01Inner h_0.Way h_0.Way), h4, h4, h4, h4, h4, trivial⟩) rfl) (by simp only [v_spec_l04Is, h0, h1, h2, h3, h4, cond_true, cond_false]) rfl
          | false =>
            cases h5 : (v_spec_l01Finite (v_spec_l01Inner h_0.Way h_0.Way)) with
            | true =>
              exact Fn.cast (CallSt.fn (callSt_of_evK (E := E0) E0Ok hMixed (c := bodyOf Go.Proofs.Try.f113) (rows := []) (r := .b (fcmp .gtr .f32 (v_spec_l01Inner h_0.Way h_0.Way) 0)) (rows' := [])
                (ans := [.bo false, .bo false, .bo false, .bo false, .bo false, .call (.b (v_spec_l00In h_0.Kind 0 2)) [], .bo false, .bo false, .bo false, .bo false, .bo false, .bo false, .bo false, .call (.b (v_spec_l01VFinite h_0.At)) [], .bo false, .bo false, .bo false, .bo false, .bo false, .bo false, .bo false, .call (.b (v_spec_l01VFinite h_0.Way)) [], .bo false, .bo false, .bo false, .keep [8, 8], .call (.f .f32 (v_spec_l01Inner h_0.Way h_0.Way)) [], .bo false, .bo false, .call (.b (v_spec_l01Finite (v_spec_l01Inner h_0.Way h_0.Way))) [], .bo false, .bo true, .bo true, .bo false, .bo true, .bo false, .keep []])
                (ps := [])
                (C := [(decide (h_0.Place < 0)) = false,
                  (decide (h_0.Place < 0)) = false,
                  (decide (h_0.Place < 0)) = false,
                  (decide (h_0.Place < 0)) = false,
                  (decide (h_0.Place < 0)) = false,
                  Fn Go.Proofs.Try.prog 74 [.i .i64 h_0.Kind, .i .i64 0, .i .i64 2] (.b (v_spec_l00In h_0.Kind 0 2)) [],
                  (decide (h_0.Place < 0)) = false,
                  (decide (h_0.Place < 0)) = false,
                  (!(v_spec_l00In h_0.Kind 0 2)) = false,
                  (!(v_spec_l00In h_0.Kind 0 2)) = false,
                  (!(v_spec_l00In h_0.Kind 0 2)) = false,
                  (!(v_spec_l00In h_0.Kind 0 2)) = false,
                  (!(v_spec_l00In h_0.Kind 0 2)) = false,
                  Fn Go.Proofs.Try.prog 147 [.agg [.f .f32 h_0.At.X, .f .f32 h_0.At.Y, .f .f32 h_0.At.Z]] (.b (v_spec_l01VFinite h_0.At)) [],
                  (!(v_spec_l00In h_0.Kind 0 2)) = false,
                  (!(v_spec_l00In h_0.Kind 0 2)) = false,
                  (!(v_spec_l01VFinite h_0.At)) = false,
                  (!(v_spec_l01VFinite h_0.At)) = false,
                  (!(v_spec_l01VFinite h_0.At)) = false,
                  (!(v_spec_l01VFinite h_0.At)) = false,
                  (!(v_spec_l01VFinite h_0.At)) = false,
                  Fn Go.Proofs.Try.prog 147 [.agg [.f .f32 h_0.Way.X, .f .f32 h_0.Way.Y, .f .f32 h_0.Way.Z]] (.b (v_spec_l01VFinite h_0.Way)) [],
                  (!(v_spec_l01VFinite h_0.At)) = false,
                  (!(v_spec_l01VFinite h_0.At)) = false,
                  (!(v_spec_l01VFinite h_0.Way)) = false,
                  Fn Go.Proofs.Try.prog 116 [.agg [.f .f32 h_0.Way.X, .f .f32 h_0.Way.Y, .f .f32 h_0.Way.Z], .agg [.f .f32 h_0.Way.X, .f .f32 h_0.Way.Y, .f .f32 h_0.Way.Z]] (.f .f32 (v_spec_l01Inner h_0.Way h_0.Way)) [],
                  (h_0.Kind == 0) = false,
                  (h_0.Kind == 0) = false,
                  Fn Go.Proofs.Try.prog 90 [.f .f32 (v_spec_l01Inner h_0.Way h_0.Way)] (.b (v_spec_l01Finite (v_spec_l01Inner h_0.Way h_0.Way))) [],
                  (h_0.Kind == 0) = false,
                  (v_spec_l01Finite (v_spec_l01Inner h_0.Way h_0.Way)) = true,
                  (v_spec_l01Finite (v_spec_l01Inner h_0.Way h_0.Way)) = true,
                  (h_0.Kind == 0) = false,
                  (v_spec_l01Finite (v_spec_l01Inner h_0.Way h_0.Way)) = true,
                  (h_0.Kind == 0) = false])
                Go.Proofs.Try.func113 rfl (by kernel_rfl) (by kernel_rfl)
                ⟨h0, h0, h0, h0, h0, (t_spec_l00In h_0.Kind 0 2), h0, h0, (congrArg not h1), (congrArg not h1), (congrArg not h1), (congrArg not h1), (congrArg not h1), (t_spec_l01VFinite h_0.At), (congrArg not h1), (congrArg not h1), (congrArg not h2), (congrArg not h2), (congrArg not h2), (congrArg not h2), (congrArg not h2), (t_spec_l01VFinite h_0.Way), (congrArg not h2), (congrArg not h2), (congrArg not h3), (t_spec_l01Inner h_0.Way h_0.Way), h4, h4, (t_spec_l01Finite (v_spec_l01Inner h_0.Way h_0.Way)), h4, h5, h5, h4, h5, h4, trivial⟩) rfl) (by simp only [v_spec_l04Is, h0, h1, h2, h3, h4, h5, cond_true, cond_false]) rfl
            | false =>
              exact Fn.cast (CallSt.fn (callSt_of_evK (E := E0) E0Ok hMixed (c := bodyOf Go.Proofs.Try.f113) (rows := []) (r := .b false) (rows' := [])
                (ans := [.bo false, .bo false, .bo false, .bo false, .bo false, .call (.b (v_spec_l00In h_0.Kind 0 2)) [], .bo false, .bo false, .bo false, .bo false, .bo false, .bo false, .bo false, .call (.b (v_spec_l01VFinite h_0.At)) [], .bo false, .bo false, .bo false, .bo false, .bo false, .bo false, .bo false, .call (.b (v_spec_l01VFinite h_0.Way)) [], .bo false, .bo false, .bo false, .keep [8, 8], .call (.f .f32 (v_spec_l01Inner h_0.Way h_0.Way)) [], .bo false, .bo false, .call (.b (v_spec_l01Finite (v_spec_l01Inner h_0.Way h_0.Way))) [], .bo false, .bo false, .bo false, .bo false, .bo false, .bo false, .keep []])
                (ps := [])
                (C := [(decide (h_0.Place < 0)) = false,
                  (decide (h_0.Place < 0)) = false,
                  (decide (h_0.Place < 0)) = false,
                  (decide (h_0.Place < 0)) = false,
                  (decide (h_0.Place < 0)) = false,
                  Fn Go.Proofs.Try.prog 74 [.i .i64 h_0.Kind, .i .i64 0, .i .i64 2] (.b (v_spec_l00In h_0.Kind 0 2)) [],
                  (decide (h_0.Place < 0)) = false,
                  (decide (h_0.Place < 0)) = false,
                  (!(v_spec_l00In h_0.Kind 0 2)) = false,
                  (!(v_spec_l00In h_0.Kind 0 2)) = false,
                  (!(v_spec_l00In h_0.Kind 0 2)) = false,
                  (!(v_spec_l00In h_0.Kind 0 2)) = false,
                  (!(v_spec_l00In h_0.Kind 0 2)) = false,
                  Fn Go.Proofs.Try.prog 147 [.agg [.f .f32 h_0.At.X, .f .f32 h_0.At.Y, .f .f32 h_0.At.Z]] (.b (v_spec_l01VFinite h_0.At)) [],
                  (!(v_spec_l00In h_0.Kind 0 2)) = false,
                  (!(v_spec_l00In h_0.Kind 0 2)) = false,
                  (!(v_spec_l01VFinite h_0.At)) = false,
                  (!(v_spec_l01VFinite h_0.At)) = false,
                  (!(v_spec_l01VFinite h_0.At)) = false,
                  (!(v_spec_l01VFinite h_0.At)) = false,
                  (!(v_spec_l01VFinite h_0.At)) = false,
                  Fn Go.Proofs.Try.prog 147 [.agg [.f .f32 h_0.Way.X, .f .f32 h_0.Way.Y, .f .f32 h_0.Way.Z]] (.b (v_spec_l01VFinite h_0.Way)) [],
                  (!(v_spec_l01VFinite h_0.At)) = false,
                  (!(v_spec_l01VFinite h_0.At)) = false,
                  (!(v_spec_l01VFinite h_0.Way)) = false,
                  Fn Go.Proofs.Try.prog 116 [.agg [.f .f32 h_0.Way.X, .f .f32 h_0.Way.Y, .f .f32 h_0.Way.Z], .agg [.f .f32 h_0.Way.X, .f .f32 h_0.Way.Y, .f .f32 h_0.Way.Z]] (.f .f32 (v_spec_l01Inner h_0.Way h_0.Way)) [],
                  (h_0.Kind == 0) = false,
                  (h_0.Kind == 0) = false,
                  Fn Go.Proofs.Try.prog 90 [.f .f32 (v_spec_l01Inner h_0.Way h_0.Way)] (.b (v_spec_l01Finite (v_spec_l01Inner h_0.Way h_0.Way))) [],
                  (h_0.Kind == 0) = false,
                  (v_spec_l01Finite (v_spec_l01Inner h_0.Way h_0.Way)) = false,
                  (v_spec_l01Finite (v_spec_l01Inner h_0.Way h_0.Way)) = false,
                  (h_0.Kind == 0) = false,
                  (v_spec_l01Finite (v_spec_l01Inner h_0.Way h_0.Way)) = false,
                  (h_0.Kind == 0) = false])
                Go.Proofs.Try.func113 rfl (by kernel_rfl) (by kernel_rfl)
                ⟨h0, h0, h0, h0, h0, (t_spec_l00In h_0.Kind 0 2), h0, h0, (congrArg not h1), (congrArg not h1), (congrArg not h1), (congrArg not h1), (congrArg not h1), (t_spec_l01VFinite h_0.At), (congrArg not h1), (congrArg not h1), (congrArg not h2), (congrArg not h2), (congrArg not h2), (congrArg not h2), (congrArg not h2), (t_spec_l01VFinite h_0.Way), (congrArg not h2), (congrArg not h2), (congrArg not h3), (t_spec_l01Inner h_0.Way h_0.Way), h4, h4, (t_spec_l01Finite (v_spec_l01Inner h_0.Way h_0.Way)), h4, h5, h5, h4, h5, h4, trivial⟩) rfl) (by simp only [v_spec_l04Is, h0, h1, h2, h3, h4, h5, cond_true, cond_false]) rfl
        | false =>
          exact Fn.cast (CallSt.fn (callSt_of_evK (E := E0) E0Ok hMixed (c := bodyOf Go.Proofs.Try.f113) (rows := []) (r := .b false) (rows' := [])
            (ans := [.bo false, .bo false, .bo false, .bo false, .bo false, .call (.b (v_spec_l00In h_0.Kind 0 2)) [], .bo false, .bo false, .bo false, .bo false, .bo false, .bo false, .bo false, .call (.b (v_spec_l01VFinite h_0.At)) [], .bo false, .bo false, .bo false, .bo false, .bo false, .bo false, .bo false, .call (.b (v_spec_l01VFinite h_0.Way)) [], .bo false, .bo false, .bo true, .keep []])
            (ps := [])
            (C := [(decide (h_0.Place < 0)) = false,
              (decide (h_0.Place < 0)) = false,
              (decide (h_0.Place < 0)) = false,
              (decide (h_0.Place < 0)) = false,
              (decide (h_0.Place < 0)) = false,
              Fn Go.Proofs.Try.prog 74 [.i .i64 h_0.Kind, .i .i64 0, .i .i64 2] (.b (v_spec_l00In h_0.Kind 0 2)) [],
              (decide (h_0.Place < 0)) = false,
              (decide (h_0.Place < 0)) = false,
              (!(v_spec_l00In h_0.Kind 0 2)) = false,
              (!(v_spec_l00In h_0.Kind 0 2)) = false,
              (!(v_spec_l00In h_0.Kind 0 2)) = false,
              (!(v_spec_l00In h_0.Kind 0 2)) = false,
              (!(v_spec_l00In h_0.Kind 0 2)) = false,
              Fn Go.Proofs.Try.prog 147 [.agg [.f .f32 h_0.At.X, .f .f32 h_0.At.Y, .f .f32 h_0.At.Z]] (.b (v_spec_l01VFinite h_0.At)) [],
              (!(v_spec_l00In h_0.Kind 0 2)) = false,
              (!(v_spec_l00In h_0.Kind 0 2)) = false,
              (!(v_spec_l01VFinite h_0.At)) = false,
              (!(v_spec_l01VFinite h_0.At)) = false,
              (!(v_spec_l01VFinite h_0.At)) = false,
              (!(v_spec_l01VFinite h_0.At)) = false,
              (!(v_spec_l01VFinite h_0.At)) = false,
              Fn Go.Proofs.Try.prog 147 [.agg [.f .f32 h_0.Way.X, .f .f32 h_0.Way.Y, .f .f32 h_0.Way.Z]] (.b (v_spec_l01VFinite h_0.Way)) [],
              (!(v_spec_l01VFinite h_0.At)) = false,
              (!(v_spec_l01VFinite h_0.At)) = false,
              (!(v_spec_l01VFinite h_0.Way)) = true])
            Go.Proofs.Try.func113 rfl (by kernel_rfl) (by kernel_rfl)
            ⟨h0, h0, h0, h0, h0, (t_spec_l00In h_0.Kind 0 2), h0, h0, (congrArg not h1), (congrArg not h1), (congrArg not h1), (congrArg not h1), (congrArg not h1), (t_spec_l01VFinite h_0.At), (congrArg not h1), (congrArg not h1), (congrArg not h2), (congrArg not h2), (congrArg not h2), (congrArg not h2), (congrArg not h2), (t_spec_l01VFinite h_0.Way), (congrArg not h2), (congrArg not h2), (congrArg not h3), trivial⟩) rfl) (by simp only [v_spec_l04Is, h0, h1, h2, h3, cond_true, cond_false]) rfl
      | false =>
        exact Fn.cast (CallSt.fn (callSt_of_evK (E := E0) E0Ok hMixed (c := bodyOf Go.Proofs.Try.f113) (rows := []) (r := .b false) (rows' := [])
          (ans := [.bo false, .bo false, .bo false, .bo false, .bo false, .call (.b (v_spec_l00In h_0.Kind 0 2)) [], .bo false, .bo false, .bo false, .bo false, .bo false, .bo false, .bo false, .call (.b (v_spec_l01VFinite h_0.At)) [], .bo false, .bo false, .bo true, .bo true, .bo true, .bo true, .bo true, .bo true, .bo true, .bo true, .keep []])
          (ps := [])
          (C := [(decide (h_0.Place < 0)) = false,
            (decide (h_0.Place < 0)) = false,
            (decide (h_0.Place < 0)) = false,
            (decide (h_0.Place < 0)) = false,
            (decide (h_0.Place < 0)) = false,
            Fn Go.Proofs.Try.prog 74 [.i .i64 h_0.Kind, .i .i64 0, .i .i64 2] (.b (v_spec_l00In h_0.Kind 0 2)) [],
            (decide (h_0.Place < 0)) = false,
            (decide (h_0.Place < 0)) = false,
            (!(v_spec_l00In h_0.Kind 0 2)) = false,
            (!(v_spec_l00In h_0.Kind 0 2)) = false,
            (!(v_spec_l00In h_0.Kind 0 2)) = false,
            (!(v_spec_l00In h_0.Kind 0 2)) = false,
            (!(v_spec_l00In h_0.Kind 0 2)) = false,
            Fn Go.Proofs.Try.prog 147 [.agg [.f .f32 h_0.At.X, .f .f32 h_0.At.Y, .f .f32 h_0.At.Z]] (.b (v_spec_l01VFinite h_0.At)) [],
            (!(v_spec_l00In h_0.Kind 0 2)) = false,
            (!(v_spec_l00In h_0.Kind 0 2)) = false,
            (!(v_spec_l01VFinite h_0.At)) = true,
            (!(v_spec_l01VFinite h_0.At)) = true,
            (!(v_spec_l01VFinite h_0.At)) = true,
            (!(v_spec_l01VFinite h_0.At)) = true,
            (!(v_spec_l01VFinite h_0.At)) = true,
            (!(v_spec_l01VFinite h_0.At)) = true,
            (!(v_spec_l01VFinite h_0.At)) = true,
            true = true])
          Go.Proofs.Try.func113 rfl (by kernel_rfl) (by kernel_rfl)
          ⟨h0, h0, h0, h0, h0, (t_spec_l00In h_0.Kind 0 2), h0, h0, (congrArg not h1), (congrArg not h1), (congrArg not h1), (congrArg not h1), (congrArg not h1), (t_spec_l01VFinite h_0.At), (congrArg not h1), (congrArg not h1), (congrArg not h2), (congrArg not h2), (congrArg not h2), (congrArg not h2), (congrArg not h2), (congrArg not h2), (congrArg not h2), rfl, trivial⟩) rfl) (by simp only [v_spec_l04Is, h0, h1, h2, cond_true, cond_false]) rfl
    | false =>
      exact Fn.cast (CallSt.fn (callSt_of_evK (E := E0) E0Ok hMixed (c := bodyOf Go.Proofs.Try.f113) (rows := []) (r := .b false) (rows' := [])
        (ans := [.bo false, .bo false, .bo false, .bo false, .bo false, .call (.b (v_spec_l00In h_0.Kind 0 2)) [], .bo false, .bo false, .bo true, .bo true, .bo true, .bo true, .bo true, .bo true, .bo true, .bo true, .bo true, .bo true, .bo true, .bo true, .bo true, .bo true, .bo true, .keep []])
        (ps := [])
        (C := [(decide (h_0.Place < 0)) = false,
          (decide (h_0.Place < 0)) = false,
          (decide (h_0.Place < 0)) = false,
          (decide (h_0.Place < 0)) = false,
          (decide (h_0.Place < 0)) = false,
          Fn Go.Proofs.Try.prog 74 [.i .i64 h_0.Kind, .i .i64 0, .i .i64 2] (.b (v_spec_l00In h_0.Kind 0 2)) [],
          (decide (h_0.Place < 0)) = false,
          (decide (h_0.Place < 0)) = false,
          (!(v_spec_l00In h_0.Kind 0 2)) = true,
          (!(v_spec_l00In h_0.Kind 0 2)) = true,
          (!(v_spec_l00In h_0.Kind 0 2)) = true,
          (!(v_spec_l00In h_0.Kind 0 2)) = true,
          (!(v_spec_l00In h_0.Kind 0 2)) = true,
          (!(v_spec_l00In h_0.Kind 0 2)) = true,
          (!(v_spec_l00In h_0.Kind 0 2)) = true,
          true = true,
          true = true,
          true = true,
          true = true,
          true = true,
          true = true,
          true = true,
          true = true])
        Go.Proofs.Try.func113 rfl (by kernel_rfl) (by kernel_rfl)
        ⟨h0, h0, h0, h0, h0, (t_spec_l00In h_0.Kind 0 2), h0, h0, (congrArg not h1), (congrArg not h1), (congrArg not h1), (congrArg not h1), (congrArg not h1), (congrArg not h1), (congrArg not h1), rfl, rfl, rfl, rfl, rfl, rfl, rfl, rfl, trivial⟩) rfl) (by simp only [v_spec_l04Is, h0, h1, cond_false]) rfl

/-- spec.l02Place -/
def v_spec_l02Place (m_0 : GMesh) (place_1 : Int) : Bool := (v_spec_l00In place_1 0 (IntKind.wrap .i64 ((m_0.Places.length : Int) - 1)))

theorem t_spec_l02Place (m_0 : GMesh) (place_1 : Int) (hp0 : m_0.Places.length ≤ 1073741824) (hp1 : m_0.Triangles.length ≤ 1073741824) (hp2 : ∀ t ∈ m_0.Triangles, t.length ≤ 1073741824)  : Fn Go.Proofs.Try.prog 114 [.ref [.sl (m_0.Places.map GVector.cells), .sl (m_0.Triangles.map (cL (cI .i64)))] 0, .i .i64 place_1] (.b (v_spec_l02Place m_0 place_1)) [] := by
  exact Fn.cast (CallSt.fn (callSt_of_evK (E := E0) E0Ok hMixed (c := bodyOf Go.Proofs.Try.f114) (rows := []) (r := .b (v_spec_l00In place_1 0 (IntKind.wrap .i64 ((m_0.Places.length : Int) - 1)))) (rows' := [])
    (ans := [.num (m_0.Places.length : Int), .num (IntKind.wrap .i64 ((m_0.Places.length : Int) - 1)), .call (.b (v_spec_l00In place_1 0 (IntKind.wrap .i64 ((m_0.Places.length : Int) - 1)))) [], .keep []])
    (ps := [])
    (C := [(((m_0.Places.map GVector.cells).length : Nat) : Int) = (m_0.Places.length : Int),
      IntKind.wrap .i64 ((m_0.Places.length : Int) - 1) = (IntKind.wrap .i64 ((m_0.Places.length : Int) - 1)),
      Fn Go.Proofs.Try.prog 74 [.i .i64 place_1, .i .i64 0, .i .i64 (IntKind.wrap .i64 ((m_0.Places.length : Int) - 1))] (.b (v_spec_l00In place_1 0 (IntKind.wrap .i64 ((m_0.Places.length : Int) - 1)))) []])
    Go.Proofs.Try.func114 rfl (by kernel_rfl) (by kernel_rfl)
    ⟨len_ok, rfl, (t_spec_l00In place_1 0 (IntKind.wrap .i64 ((m_0.Places.length : Int) - 1))), trivial⟩) rfl) rfl rfl

def lo_spec_l04Are_1 (m_0 : GMesh) (holds_1 : (List GHold)) : Nat → Int → (Unit) ⊕ (Unit)
  | 0, _ => .inl default
  | k + 1, i_l0 => (cond (decide (i_l0 < (holds_1.length : Int)))
    (cond (v_spec_l04Is (holds_1.getD i_l0.toNat default))
      (cond (v_spec_l02Place m_0 ((holds_1.getD i_l0.toNat default).Place))
        (cond (decide (i_l0 > 0))
          (cond (decide ((holds_1.getD (i_l0 - 1).toNat default).Place ≥ (holds_1.getD i_l0.toNat default).Place))
            (.inl ())
            (lo_spec_l04Are_1 m_0 holds_1 k (i_l0 + 1)))
          (lo_spec_l04Are_1 m_0 holds_1 k (i_l0 + 1)))
        (.inl ()))
      (.inl ()))
    (.inr ()))

def ls_spec_l04Are_1 (m_0 : GMesh) (holds_1 : (List GHold)) : (Unit) ⊕ (Unit) → Ex × St
  | .inl r => (.ret, ⟨[.any, .any, .any, .any, .b false, .any, .any, .any, .any, .any, .any, .any, .any, .any, .any, .any, .any, .any, .any, .any, .any, .any, .any, .any, .any, .any, .any, .any, .any, .any, .any, .any, .any, .any, .any, .any, .any, .any, .any, .any, .any, .any, .any, .any, .any, .any, .any, .any], []⟩)
  | .inr r => ((.exit 0), ⟨[.ref [.sl (m_0.Places.map GVector.cells), .sl (m_0.Triangles.map (cL (cI .i64)))] 0, .any, .any, .any, .any, .any, .ref [.sl (m_0.Places.map GVector.cells), .sl (m_0.Triangles.map (cL (cI .i64)))] 0, .b (v_spec_l02Is m_0), .b (!(v_spec_l02Is m_0)), .any, .any, .any, .any, .any, .any, .any, .any, .any, .any, .any, .any, .any, .any, .any, .any, .any, .any, .any, .any, .any, .any, .any, .any, .any, .any, .any, .any, .any, .any, .any, .any, .any, .any, .any, .any, .any, .any, .any], []⟩)

theorem lp_spec_l04Are_1 (m_0 : GMesh) (holds_1 : (List GHold)) (hp0 : m_0.Places.length ≤ 1073741824) (hp1 : m_0.Triangles.length ≤ 1073741824) (hp2 : ∀ t ∈ m_0.Triangles, t.length ≤ 1073741824) (hp3 : holds_1.length ≤ 1073741824) (hf_spec_l04Are_1_0 : (v_spec_l02Is m_0) = true) : ∀ (k : Nat) (i_l0 : Int) (hv_spec_l04Are_1_0 : 0 ≤ i_l0) (hk : ((holds_1.length : Int) - i_l0).toNat < k), Lp Go.Proofs.Try.prog 0 (sub (bodyOf Go.Proofs.Try.f54) [1, 1, 0, 1, 0, 0]) ⟨[.ref [.sl (m_0.Places.map GVector.cells), .sl (m_0.Triangles.map (cL (cI .i64)))] 0, .sl (holds_1.map GHold.cells), .any, .any, .any, .i .i64 i_l0, .ref [.sl (m_0.Places.map GVector.cells), .sl (m_0.Triangles.map (cL (cI .i64)))] 0, .b (v_spec_l02Is m_0), .b (!(v_spec_l02Is m_0)), .any, .any, .any, .any, .any, .any, .any, .any, .any, .any, .any, .any, .any, .any, .any, .any, .any, .any, .any, .any, .any, .any, .any, .any, .any, .any, .any, .any, .any, .any, .any, .any, .any, .any, .any, .any, .any, .any, .any], []⟩ (ls_spec_l04Are_1 m_0 holds_1 (lo_spec_l04Are_1 m_0 holds_1 k i_l0)).1 (ls_spec_l04Are_1 m_0 holds_1 (lo_spec_l04Are_1 m_0 holds_1 k i_l0)).2 := by
  intro k
  induction k with
  | zero => intro i_l0 hv_spec_l04Are_1_0 hk; exact absurd hk (Nat.not_lt_zero _)
  | succ k ih =>
    intro i_l0 hv_spec_l04Are_1_0 hk
    cases h_0 : (decide (i_l0 < (holds_1.length : Int))) with
    | true =>
      cases h_1 : (v_spec_l04Is (holds_1.getD i_l0.toNat default)) with
      | true =>
        cases h_2 : (v_spec_l02Place m_0 ((holds_1.getD i_l0.toNat default).Place)) with
        | true =>
          cases h_3 : (decide (i_l0 > 0)) with
          | true =>
            cases h_4 : (decide ((holds_1.getD (i_l0 - 1).toNat default).Place ≥ (holds_1.getD i_l0.toNat default).Place)) with
            | true =>
              have e : lo_spec_l04Are_1 m_0 holds_1 (k + 1) i_l0 = (.inl ()) := by simp only [lo_spec_l04Are_1, h_0, h_1, h_2, h_3, h_4, cond_true]
              rw [e]
              exact stepK_out (E := E0) E0Ok hMixed (e := .ret) (body := (sub (bodyOf Go.Proofs.Try.f54) [1, 1, 0, 1, 0, 0])) (st := ⟨[.ref [.sl (m_0.Places.map GVector.cells), .sl (m_0.Triangles.map (cL (cI .i64)))] 0, .sl (holds_1.map GHold.cells), .any, .any, .any, .i .i64 i_l0, .ref [.sl (m_0.Places.map GVector.cells), .sl (m_0.Triangles.map (cL (cI .i64)))] 0, .b (v_spec_l02Is m_0), .b (!(v_spec_l02Is m_0)), .any, .any, .any, .any, .any, .any, .any, .any, .any, .any, .any, .any, .any, .any, .any, .any, .any, .any, .any, .any, .any, .any, .any, .any, .any, .any, .any, .any, .any, .any, .any, .any, .any, .any, .any, .any, .any, .any, .any], []⟩)
                (st2 := ⟨[.any, .any, .any, .any, .b false, .any, .any, .any, .any, .any, .any, .any, .any, .any, .any, .any, .any, .any, .any, .any, .any, .any, .any, .any, .any, .any, .any, .any, .any, .any, .any, .any, .any, .any, .any, .any, .any, .any, .any, .any, .any, .any, .any, .any, .any, .any, .any, .any], []⟩)
                (ans := [.num (holds_1.length : Int), .bo true, .keep [30, 30], .el [.i .i64 ((holds_1.getD i_l0.toNat default).Place), .i .i64 ((holds_1.getD i_l0.toNat default).Kind), .f .f32 ((holds_1.getD i_l0.toNat default).At.X), .f .f32 ((holds_1.getD i_l0.toNat default).At.Y), .f .f32 ((holds_1.getD i_l0.toNat default).At.Z), .f .f32 ((holds_1.getD i_l0.toNat default).Way.X), .f .f32 ((holds_1.getD i_l0.toNat default).Way.Y), .f .f32 ((holds_1.getD i_l0.toNat default).Way.Z)], .call (.b (v_spec_l04Is (holds_1.getD i_l0.toNat default))) [], .bo false, .bo false, .bo false, .bo false, .el [.i .i64 ((holds_1.getD i_l0.toNat default).Place), .i .i64 ((holds_1.getD i_l0.toNat default).Kind), .f .f32 ((holds_1.getD i_l0.toNat default).At.X), .f .f32 ((holds_1.getD i_l0.toNat default).At.Y), .f .f32 ((holds_1.getD i_l0.toNat default).At.Z), .f .f32 ((holds_1.getD i_l0.toNat default).Way.X), .f .f32 ((holds_1.getD i_l0.toNat default).Way.Y), .f .f32 ((holds_1.getD i_l0.toNat default).Way.Z)], .bo false, .bo false, .bo false, .call (.b (v_spec_l02Place m_0 ((holds_1.getD i_l0.toNat default).Place))) [], .bo false, .bo false, .bo false, .bo false, .bo false, .bo true, .bo true, .bo true, .num (i_l0 - 1), .bo true, .el [.i .i64 ((holds_1.getD (i_l0 - 1).toNat default).Place), .i .i64 ((holds_1.getD (i_l0 - 1).toNat default).Kind), .f .f32 ((holds_1.getD (i_l0 - 1).toNat default).At.X), .f .f32 ((holds_1.getD (i_l0 - 1).toNat default).At.Y), .f .f32 ((holds_1.getD (i_l0 - 1).toNat default).At.Z), .f .f32 ((holds_1.getD (i_l0 - 1).toNat default).Way.X), .f .f32 ((holds_1.getD (i_l0 - 1).toNat default).Way.Y), .f .f32 ((holds_1.getD (i_l0 - 1).toNat default).Way.Z)], .bo true, .bo true, .bo true, .bo true, .bo true, .el [.i .i64 ((holds_1.getD i_l0.toNat default).Place), .i .i64 ((holds_1.getD i_l0.toNat default).Kind), .f .f32 ((holds_1.getD i_l0.toNat default).At.X), .f .f32 ((holds_1.getD i_l0.toNat default).At.Y), .f .f32 ((holds_1.getD i_l0.toNat default).At.Z), .f .f32 ((holds_1.getD i_l0.toNat default).Way.X), .f .f32 ((holds_1.getD i_l0.toNat default).Way.Y), .f .f32 ((holds_1.getD i_l0.toNat default).Way.Z)], .bo true, .bo true, .bo true, .bo false, .bo true, .bo false, .bo true])
                (ps := []) (mask := [false, false, false, false, true, false, false, false, false, false, false, false, false, false, false, false, false, false, false, false, false, false, false, false, false, false, false, false, false, false, false, false, false, false, false, false, false, false, false, false, false, false, false, false, false, false, false, false]) (ks := [])
                (C := [(((holds_1.map GHold.cells).length : Nat) : Int) = (holds_1.length : Int),
                  (decide (i_l0 < (holds_1.length : Int))) = true,
                  0 ≤ i_l0 ∧ (holds_1.map GHold.cells)[Int.toNat i_l0]? = some [.i .i64 ((holds_1.getD i_l0.toNat default).Place), .i .i64 ((holds_1.getD i_l0.toNat default).Kind), .f .f32 ((holds_1.getD i_l0.toNat default).At.X), .f .f32 ((holds_1.getD i_l0.toNat default).At.Y), .f .f32 ((holds_1.getD i_l0.toNat default).At.Z), .f .f32 ((holds_1.getD i_l0.toNat default).Way.X), .f .f32 ((holds_1.getD i_l0.toNat default).Way.Y), .f .f32 ((holds_1.getD i_l0.toNat default).Way.Z)],
                  Fn Go.Proofs.Try.prog 113 [.ref [.i .i64 ((holds_1.getD i_l0.toNat default).Place), .i .i64 ((holds_1.getD i_l0.toNat default).Kind), .f .f32 ((holds_1.getD i_l0.toNat default).At.X), .f .f32 ((holds_1.getD i_l0.toNat default).At.Y), .f .f32 ((holds_1.getD i_l0.toNat default).At.Z), .f .f32 ((holds_1.getD i_l0.toNat default).Way.X), .f .f32 ((holds_1.getD i_l0.toNat default).Way.Y), .f .f32 ((holds_1.getD i_l0.toNat default).Way.Z)] 0] (.b (v_spec_l04Is (holds_1.getD i_l0.toNat default))) [],
                  (!(v_spec_l04Is (holds_1.getD i_l0.toNat default))) = false,
                  (!(v_spec_l04Is (holds_1.getD i_l0.toNat default))) = false,
                  (!(v_spec_l04Is (holds_1.getD i_l0.toNat default))) = false,
                  (!(v_spec_l04Is (holds_1.getD i_l0.toNat default))) = false,
                  0 ≤ i_l0 ∧ (holds_1.map GHold.cells)[Int.toNat i_l0]? = some [.i .i64 ((holds_1.getD i_l0.toNat default).Place), .i .i64 ((holds_1.getD i_l0.toNat default).Kind), .f .f32 ((holds_1.getD i_l0.toNat default).At.X), .f .f32 ((holds_1.getD i_l0.toNat default).At.Y), .f .f32 ((holds_1.getD i_l0.toNat default).At.Z), .f .f32 ((holds_1.getD i_l0.toNat default).Way.X), .f .f32 ((holds_1.getD i_l0.toNat default).Way.Y), .f .f32 ((holds_1.getD i_l0.toNat default).Way.Z)],
                  (!(v_spec_l04Is (holds_1.getD i_l0.toNat default))) = false,
                  (!(v_spec_l04Is (holds_1.getD i_l0.toNat default))) = false,
                  (!(v_spec_l04Is (holds_1.getD i_l0.toNat default))) = false,
                  Fn Go.Proofs.Try.prog 114 [.ref [.sl (m_0.Places.map GVector.cells), .sl (m_0.Triangles.map (cL (cI .i64)))] 0, .i .i64 ((holds_1.getD i_l0.toNat default).Place)] (.b (v_spec_l02Place m_0 ((holds_1.getD i_l0.toNat default).Place))) [],
                  (!(v_spec_l04Is (holds_1.getD i_l0.toNat default))) = false,
                  (!(v_spec_l04Is (holds_1.getD i_l0.toNat default))) = false,
                  (!(v_spec_l02Place m_0 ((holds_1.getD i_l0.toNat default).Place))) = false,
                  (!(v_spec_l02Place m_0 ((holds_1.getD i_l0.toNat default).Place))) = false,
                  (!(v_spec_l02Place m_0 ((holds_1.getD i_l0.toNat default).Place))) = false,
                  (decide (i_l0 > 0)) = true,
                  (decide (i_l0 > 0)) = true,
                  (decide (i_l0 > 0)) = true,
                  IntKind.wrap .i64 (i_l0 - 1) = (i_l0 - 1),
                  (decide (i_l0 > 0)) = true,
                  0 ≤ (i_l0 - 1) ∧ (holds_1.map GHold.cells)[Int.toNat (i_l0 - 1)]? = some [.i .i64 ((holds_1.getD (i_l0 - 1).toNat default).Place), .i .i64 ((holds_1.getD (i_l0 - 1).toNat default).Kind), .f .f32 ((holds_1.getD (i_l0 - 1).toNat default).At.X), .f .f32 ((holds_1.getD (i_l0 - 1).toNat default).At.Y), .f .f32 ((holds_1.getD (i_l0 - 1).toNat default).At.Z), .f .f32 ((holds_1.getD (i_l0 - 1).toNat default).Way.X), .f .f32 ((holds_1.getD (i_l0 - 1).toNat default).Way.Y), .f .f32 ((holds_1.getD (i_l0 - 1).toNat default).Way.Z)],
                  (decide (i_l0 > 0)) = true,
                  (decide (i_l0 > 0)) = true,
                  (decide (i_l0 > 0)) = true,
                  (decide (i_l0 > 0)) = true,
                  (decide (i_l0 > 0)) = true,
                  0 ≤ i_l0 ∧ (holds_1.map GHold.cells)[Int.toNat i_l0]? = some [.i .i64 ((holds_1.getD i_l0.toNat default).Place), .i .i64 ((holds_1.getD i_l0.toNat default).Kind), .f .f32 ((holds_1.getD i_l0.toNat default).At.X), .f .f32 ((holds_1.getD i_l0.toNat default).At.Y), .f .f32 ((holds_1.getD i_l0.toNat default).At.Z), .f .f32 ((holds_1.getD i_l0.toNat default).Way.X), .f .f32 ((holds_1.getD i_l0.toNat default).Way.Y), .f .f32 ((holds_1.getD i_l0.toNat default).Way.Z)],
                  (decide (i_l0 > 0)) = true,
                  (decide (i_l0 > 0)) = true,
                  (decide (i_l0 > 0)) = true,
                  (!(v_spec_l02Place m_0 ((holds_1.getD i_l0.toNat default).Place))) = false,
                  (decide (i_l0 > 0)) = true,
                  (!(v_spec_l02Place m_0 ((holds_1.getD i_l0.toNat default).Place))) = false,
                  (decide ((holds_1.getD (i_l0 - 1).toNat default).Place ≥ (holds_1.getD i_l0.toNat default).Place)) = true])
                (by kernel_rfl)
                ⟨len_ok, h_0, (get_ok (by first | assumption | omega | (simp at * <;> omega) | (simp_all <;> omega)) (by first | assumption | omega | (simp at * <;> omega) | (simp_all <;> omega))), (t_spec_l04Is (holds_1.getD i_l0.toNat default)), (congrArg not h_1), (congrArg not h_1), (congrArg not h_1), (congrArg not h_1), (get_ok (by first | assumption | omega | (simp at * <;> omega) | (simp_all <;> omega)) (by first | assumption | omega | (simp at * <;> omega) | (simp_all <;> omega))), (congrArg not h_1), (congrArg not h_1), (congrArg not h_1), (t_spec_l02Place m_0 ((holds_1.getD i_l0.toNat default).Place) (show m_0.Places.length ≤ 1073741824 from (by first | assumption | omega | (simp at * <;> omega) | (simp_all <;> omega))) (show m_0.Triangles.length ≤ 1073741824 from (by first | assumption | omega | (simp at * <;> omega) | (simp_all <;> omega))) (show ∀ t ∈ m_0.Triangles, t.length ≤ 1073741824 from (by first | assumption | omega | (simp at * <;> omega) | (simp_all <;> omega)))), (congrArg not h_1), (congrArg not h_1), (congrArg not h_2), (congrArg not h_2), (congrArg not h_2), h_3, h_3, h_3, (wrap_id (by first | assumption | omega | (simp at * <;> omega) | (simp_all <;> omega)) (by first | assumption | omega | (simp at * <;> omega) | (simp_all <;> omega))), h_3, (get_ok (by first | assumption | omega | (simp at * <;> omega) | (simp_all <;> omega)) (by first | assumption | omega | (simp at * <;> omega) | (simp_all <;> omega))), h_3, h_3, h_3, h_3, h_3, (get_ok (by first | assumption | omega | (simp at * <;> omega) | (simp_all <;> omega)) (by first | assumption | omega | (simp at * <;> omega) | (simp_all <;> omega))), h_3, h_3, h_3, (congrArg not h_2), h_3, (congrArg not h_2), h_4, trivial⟩
                (by intro h; cases h) rfl
            | false =>
              have e : lo_spec_l04Are_1 m_0 holds_1 (k + 1) i_l0 = (lo_spec_l04Are_1 m_0 holds_1 k (i_l0 + 1)) := by simp only [lo_spec_l04Are_1, h_0, h_1, h_2, h_3, h_4, cond_true, cond_false]
              rw [e]
              exact stepK_next (E := E0) E0Ok hMixed (body := (sub (bodyOf Go.Proofs.Try.f54) [1, 1, 0, 1, 0, 0])) (st := ⟨[.ref [.sl (m_0.Places.map GVector.cells), .sl (m_0.Triangles.map (cL (cI .i64)))] 0, .sl (holds_1.map GHold.cells), .any, .any, .any, .i .i64 i_l0, .ref [.sl (m_0.Places.map GVector.cells), .sl (m_0.Triangles.map (cL (cI .i64)))] 0, .b (v_spec_l02Is m_0), .b (!(v_spec_l02Is m_0)), .any, .any, .any, .any, .any, .any, .any, .any, .any, .any, .any, .any, .any, .any, .any, .any, .any, .any, .any, .any, .any, .any, .any, .any, .any, .any, .any, .any, .any, .any, .any, .any, .any, .any, .any, .any, .any, .any, .any], []⟩)
                (st2 := ⟨[.ref [.sl (m_0.Places.map GVector.cells), .sl (m_0.Triangles.map (cL (cI .i64)))] 0, .sl (holds_1.map GHold.cells), .any, .any, .any, .i .i64 (i_l0 + 1), .ref [.sl (m_0.Places.map GVector.cells), .sl (m_0.Triangles.map (cL (cI .i64)))] 0, .b (v_spec_l02Is m_0), .b (!(v_spec_l02Is m_0)), .any, .any, .any, .any, .any, .any, .any, .any, .any, .any, .any, .any, .any, .any, .any, .any, .any, .any, .any, .any, .any, .any, .any, .any, .any, .any, .any, .any, .any, .any, .any, .any, .any, .any, .any, .any, .any, .any, .any], []⟩)
                (ans := [.num (holds_1.length : Int), .bo true, .keep [30, 30], .el [.i .i64 ((holds_1.getD i_l0.toNat default).Place), .i .i64 ((holds_1.getD i_l0.toNat default).Kind), .f .f32 ((holds_1.getD i_l0.toNat default).At.X), .f .f32 ((holds_1.getD i_l0.toNat default).At.Y), .f .f32 ((holds_1.getD i_l0.toNat default).At.Z), .f .f32 ((holds_1.getD i_l0.toNat default).Way.X), .f .f32 ((holds_1.getD i_l0.toNat default).Way.Y), .f .f32 ((holds_1.getD i_l0.toNat default).Way.Z)], .call (.b (v_spec_l04Is (holds_1.getD i_l0.toNat default))) [], .bo false, .bo false, .bo false, .bo false, .el [.i .i64 ((holds_1.getD i_l0.toNat default).Place), .i .i64 ((holds_1.getD i_l0.toNat default).Kind), .f .f32 ((holds_1.getD i_l0.toNat default).At.X), .f .f32 ((holds_1.getD i_l0.toNat default).At.Y), .f .f32 ((holds_1.getD i_l0.toNat default).At.Z), .f .f32 ((holds_1.getD i_l0.toNat default).Way.X), .f .f32 ((holds_1.getD i_l0.toNat default).Way.Y), .f .f32 ((holds_1.getD i_l0.toNat default).Way.Z)], .bo false, .bo false, .bo false, .call (.b (v_spec_l02Place m_0 ((holds_1.getD i_l0.toNat default).Place))) [], .bo false, .bo false, .bo false, .bo false, .bo false, .bo true, .bo true, .bo true, .num (i_l0 - 1), .bo true, .el [.i .i64 ((holds_1.getD (i_l0 - 1).toNat default).Place), .i .i64 ((holds_1.getD (i_l0 - 1).toNat default).Kind), .f .f32 ((holds_1.getD (i_l0 - 1).toNat default).At.X), .f .f32 ((holds_1.getD (i_l0 - 1).toNat default).At.Y), .f .f32 ((holds_1.getD (i_l0 - 1).toNat default).At.Z), .f .f32 ((holds_1.getD (i_l0 - 1).toNat default).Way.X), .f .f32 ((holds_1.getD (i_l0 - 1).toNat default).Way.Y), .f .f32 ((holds_1.getD (i_l0 - 1).toNat default).Way.Z)], .bo true, .bo true, .bo true, .bo true, .bo true, .el [.i .i64 ((holds_1.getD i_l0.toNat default).Place), .i .i64 ((holds_1.getD i_l0.toNat default).Kind), .f .f32 ((holds_1.getD i_l0.toNat default).At.X), .f .f32 ((holds_1.getD i_l0.toNat default).At.Y), .f .f32 ((holds_1.getD i_l0.toNat default).At.Z), .f .f32 ((holds_1.getD i_l0.toNat default).Way.X), .f .f32 ((holds_1.getD i_l0.toNat default).Way.Y), .f .f32 ((holds_1.getD i_l0.toNat default).Way.Z)], .bo true, .bo true, .bo true, .bo false, .bo true, .bo false, .bo false, .num (i_l0 + 1)])
                (ps := []) (mask := [true, true, false, false, false, true, true, true, true, false, false, false, false, false, false, false, false, false, false, false, false, false, false, false, false, false, false, false, false, false, false, false, false, false, false, false, false, false, false, false, false, false, false, false, false, false, false, false]) (ks := [])
                (C := [(((holds_1.map GHold.cells).length : Nat) : Int) = (holds_1.length : Int),
                  (decide (i_l0 < (holds_1.length : Int))) = true,
                  0 ≤ i_l0 ∧ (holds_1.map GHold.cells)[Int.toNat i_l0]? = some [.i .i64 ((holds_1.getD i_l0.toNat default).Place), .i .i64 ((holds_1.getD i_l0.toNat default).Kind), .f .f32 ((holds_1.getD i_l0.toNat default).At.X), .f .f32 ((holds_1.getD i_l0.toNat default).At.Y), .f .f32 ((holds_1.getD i_l0.toNat default).At.Z), .f .f32 ((holds_1.getD i_l0.toNat default).Way.X), .f .f32 ((holds_1.getD i_l0.toNat default).Way.Y), .f .f32 ((holds_1.getD i_l0.toNat default).Way.Z)],
                  Fn Go.Proofs.Try.prog 113 [.ref [.i .i64 ((holds_1.getD i_l0.toNat default).Place), .i .i64 ((holds_1.getD i_l0.toNat default).Kind), .f .f32 ((holds_1.getD i_l0.toNat default).At.X), .f .f32 ((holds_1.getD i_l0.toNat default).At.Y), .f .f32 ((holds_1.getD i_l0.toNat default).At.Z), .f .f32 ((holds_1.getD i_l0.toNat default).Way.X), .f .f32 ((holds_1.getD i_l0.toNat default).Way.Y), .f .f32 ((holds_1.getD i_l0.toNat default).Way.Z)] 0] (.b (v_spec_l04Is (holds_1.getD i_l0.toNat default))) [],
                  (!(v_spec_l04Is (holds_1.getD i_l0.toNat default))) = false,
                  (!(v_spec_l04Is (holds_1.getD i_l0.toNat default))) = false,
                  (!(v_spec_l04Is (holds_1.getD i_l0.toNat default))) = false,
                  (!(v_spec_l04Is (holds_1.getD i_l0.toNat default))) = false,
                  0 ≤ i_l0 ∧ (holds_1.map GHold.cells)[Int.toNat i_l0]? = some [.i .i64 ((holds_1.getD i_l0.toNat default).Place), .i .i64 ((holds_1.getD i_l0.toNat default).Kind), .f .f32 ((holds_1.getD i_l0.toNat default).At.X), .f .f32 ((holds_1.getD i_l0.toNat default).At.Y), .f .f32 ((holds_1.getD i_l0.toNat default).At.Z), .f .f32 ((holds_1.getD i_l0.toNat default).Way.X), .f .f32 ((holds_1.getD i_l0.toNat default).Way.Y), .f .f32 ((holds_1.getD i_l0.toNat default).Way.Z)],
                  (!(v_spec_l04Is (holds_1.getD i_l0.toNat default))) = false,
                  (!(v_spec_l04Is (holds_1.getD i_l0.toNat default))) = false,
                  (!(v_spec_l04Is (holds_1.getD i_l0.toNat default))) = false,
                  Fn Go.Proofs.Try.prog 114 [.ref [.sl (m_0.Places.map GVector.cells), .sl (m_0.Triangles.map (cL (cI .i64)))] 0, .i .i64 ((holds_1.getD i_l0.toNat default).Place)] (.b (v_spec_l02Place m_0 ((holds_1.getD i_l0.toNat default).Place))) [],
                  (!(v_spec_l04Is (holds_1.getD i_l0.toNat default))) = false,
                  (!(v_spec_l04Is (holds_1.getD i_l0.toNat default))) = false,
                  (!(v_spec_l02Place m_0 ((holds_1.getD i_l0.toNat default).Place))) = false,
                  (!(v_spec_l02Place m_0 ((holds_1.getD i_l0.toNat default).Place))) = false,
                  (!(v_spec_l02Place m_0 ((holds_1.getD i_l0.toNat default).Place))) = false,
                  (decide (i_l0 > 0)) = true,
                  (decide (i_l0 > 0)) = true,
                  (decide (i_l0 > 0)) = true,
                  IntKind.wrap .i64 (i_l0 - 1) = (i_l0 - 1),
                  (decide (i_l0 > 0)) = true,
                  0 ≤ (i_l0 - 1) ∧ (holds_1.map GHold.cells)[Int.toNat (i_l0 - 1)]? = some [.i .i64 ((holds_1.getD (i_l0 - 1).toNat default).Place), .i .i64 ((holds_1.getD (i_l0 - 1).toNat default).Kind), .f .f32 ((holds_1.getD (i_l0 - 1).toNat default).At.X), .f .f32 ((holds_1.getD (i_l0 - 1).toNat default).At.Y), .f .f32 ((holds_1.getD (i_l0 - 1).toNat default).At.Z), .f .f32 ((holds_1.getD (i_l0 - 1).toNat default).Way.X), .f .f32 ((holds_1.getD (i_l0 - 1).toNat default).Way.Y), .f .f32 ((holds_1.getD (i_l0 - 1).toNat default).Way.Z)],
                  (decide (i_l0 > 0)) = true,
                  (decide (i_l0 > 0)) = true,
                  (decide (i_l0 > 0)) = true,
                  (decide (i_l0 > 0)) = true,
                  (decide (i_l0 > 0)) = true,
                  0 ≤ i_l0 ∧ (holds_1.map GHold.cells)[Int.toNat i_l0]? = some [.i .i64 ((holds_1.getD i_l0.toNat default).Place), .i .i64 ((holds_1.getD i_l0.toNat default).Kind), .f .f32 ((holds_1.getD i_l0.toNat default).At.X), .f .f32 ((holds_1.getD i_l0.toNat default).At.Y), .f .f32 ((holds_1.getD i_l0.toNat default).At.Z), .f .f32 ((holds_1.getD i_l0.toNat default).Way.X), .f .f32 ((holds_1.getD i_l0.toNat default).Way.Y), .f .f32 ((holds_1.getD i_l0.toNat default).Way.Z)],
                  (decide (i_l0 > 0)) = true,
                  (decide (i_l0 > 0)) = true,
                  (decide (i_l0 > 0)) = true,
                  (!(v_spec_l02Place m_0 ((holds_1.getD i_l0.toNat default).Place))) = false,
                  (decide (i_l0 > 0)) = true,
                  (!(v_spec_l02Place m_0 ((holds_1.getD i_l0.toNat default).Place))) = false,
                  (decide ((holds_1.getD (i_l0 - 1).toNat default).Place ≥ (holds_1.getD i_l0.toNat default).Place)) = false,
                  IntKind.wrap .i64 (i_l0 + 1) = (i_l0 + 1)])
                (by kernel_rfl)
                ⟨len_ok, h_0, (get_ok (by first | assumption | omega | (simp at * <;> omega) | (simp_all <;> omega)) (by first | assumption | omega | (simp at * <;> omega) | (simp_all <;> omega))), (t_spec_l04Is (holds_1.getD i_l0.toNat default)), (congrArg not h_1), (congrArg not h_1), (congrArg not h_1), (congrArg not h_1), (get_ok (by first | assumption | omega | (simp at * <;> omega) | (simp_all <;> omega)) (by first | assumption | omega | (simp at * <;> omega) | (simp_all <;> omega))), (congrArg not h_1), (congrArg not h_1), (congrArg not h_1), (t_spec_l02Place m_0 ((holds_1.getD i_l0.toNat default).Place) (show m_0.Places.length ≤ 1073741824 from (by first | assumption | omega | (simp at * <;> omega) | (simp_all <;> omega))) (show m_0.Triangles.length ≤ 1073741824 from (by first | assumption | omega | (simp at * <;> omega) | (simp_all <;> omega))) (show ∀ t ∈ m_0.Triangles, t.length ≤ 1073741824 from (by first | assumption | omega | (simp at * <;> omega) | (simp_all <;> omega)))), (congrArg not h_1), (congrArg not h_1), (congrArg not h_2), (congrArg not h_2), (congrArg not h_2), h_3, h_3, h_3, (wrap_id (by first | assumption | omega | (simp at * <;> omega) | (simp_all <;> omega)) (by first | assumption | omega | (simp at * <;> omega) | (simp_all <;> omega))), h_3, (get_ok (by first | assumption | omega | (simp at * <;> omega) | (simp_all <;> omega)) (by first | assumption | omega | (simp at * <;> omega) | (simp_all <;> omega))), h_3, h_3, h_3, h_3, h_3, (get_ok (by first | assumption | omega | (simp at * <;> omega) | (simp_all <;> omega)) (by first | assumption | omega | (simp at * <;> omega) | (simp_all <;> omega))), h_3, h_3, h_3, (congrArg not h_2), h_3, (congrArg not h_2), h_4, (wrap_id (by first | assumption | omega | (simp at * <;> omega) | (simp_all <;> omega)) (by first | assumption | omega | (simp at * <;> omega) | (simp_all <;> omega))), trivial⟩
                rfl (ih (i_l0 + 1) (show 0 ≤ (i_l0 + 1) from (by first | assumption | omega | (simp at * <;> omega) | (simp_all <;> omega))) (by first | assumption | omega | (simp at * <;> omega) | (simp_all <;> omega)))
          | false =>
            have e : lo_spec_l04Are_1 m_0 holds_1 (k + 1) i_l0 = (lo_spec_l04Are_1 m_0 holds_1 k (i_l0 + 1)) := by simp only [lo_spec_l04Are_1, h_0, h_1, h_2, h_3, cond_true, cond_false]
            rw [e]
            exact stepK_next (E := E0) E0Ok hMixed (body := (sub (bodyOf Go.Proofs.Try.f54) [1, 1, 0, 1, 0, 0])) (st := ⟨[.ref [.sl (m_0.Places.map GVector.cells), .sl (m_0.Triangles.map (cL (cI .i64)))] 0, .sl (holds_1.map GHold.cells), .any, .any, .any, .i .i64 i_l0, .ref [.sl (m_0.Places.map GVector.cells), .sl (m_0.Triangles.map (cL (cI .i64)))] 0, .b (v_spec_l02Is m_0), .b (!(v_spec_l02Is m_0)), .any, .any, .any, .any, .any, .any, .any, .any, .any, .any, .any, .any, .any, .any, .any, .any, .any, .any, .any, .any, .any, .any, .any, .any, .any, .any, .any, .any, .any, .any, .any, .any, .any, .any, .any, .any, .any, .any, .any], []⟩)
              (st2 := ⟨[.ref [.sl (m_0.Places.map GVector.cells), .sl (m_0.Triangles.map (cL (cI .i64)))] 0, .sl (holds_1.map GHold.cells), .any, .any, .any, .i .i64 (i_l0 + 1), .ref [.sl (m_0.Places.map GVector.cells), .sl (m_0.Triangles.map (cL (cI .i64)))] 0, .b (v_spec_l02Is m_0), .b (!(v_spec_l02Is m_0)), .any, .any, .any, .any, .any, .any, .any, .any, .any, .any, .any, .any, .any, .any, .any, .any, .any, .any, .any, .any, .any, .any, .any, .any, .any, .any, .any, .any, .any, .any, .any, .any, .any, .any, .any, .any, .any, .any, .any], []⟩)
              (ans := [.num (holds_1.length : Int), .bo true, .keep [30, 30], .el [.i .i64 ((holds_1.getD i_l0.toNat default).Place), .i .i64 ((holds_1.getD i_l0.toNat default).Kind), .f .f32 ((holds_1.getD i_l0.toNat default).At.X), .f .f32 ((holds_1.getD i_l0.toNat default).At.Y), .f .f32 ((holds_1.getD i_l0.toNat default).At.Z), .f .f32 ((holds_1.getD i_l0.toNat default).Way.X), .f .f32 ((holds_1.getD i_l0.toNat default).Way.Y), .f .f32 ((holds_1.getD i_l0.toNat default).Way.Z)], .call (.b (v_spec_l04Is (holds_1.getD i_l0.toNat default))) [], .bo false, .bo false, .bo false, .bo false, .el [.i .i64 ((holds_1.getD i_l0.toNat default).Place), .i .i64 ((holds_1.getD i_l0.toNat default).Kind), .f .f32 ((holds_1.getD i_l0.toNat default).At.X), .f .f32 ((holds_1.getD i_l0.toNat default).At.Y), .f .f32 ((holds_1.getD i_l0.toNat default).At.Z), .f .f32 ((holds_1.getD i_l0.toNat default).Way.X), .f .f32 ((holds_1.getD i_l0.toNat default).Way.Y), .f .f32 ((holds_1.getD i_l0.toNat default).Way.Z)], .bo false, .bo false, .bo false, .call (.b (v_spec_l02Place m_0 ((holds_1.getD i_l0.toNat default).Place))) [], .bo false, .bo false, .bo false, .bo false, .bo false, .bo false, .bo false, .bo false, .bo false, .bo false, .bo false, .bo false, .bo false, .bo false, .bo false, .bo false, .bo false, .bo false, .bo false, .bo false, .bo false, .num (i_l0 + 1)])
              (ps := []) (mask := [true, true, false, false, false, true, true, true, true, false, false, false, false, false, false, false, false, false, false, false, false, false, false, false, false, false, false, false, false, false, false, false, false, false, false, false, false, false, false, false, false, false, false, false, false, false, false, false]) (ks := [])
              (C := [(((holds_1.map GHold.cells).length : Nat) : Int) = (holds_1.length : Int),
                (decide (i_l0 < (holds_1.length : Int))) = true,
                0 ≤ i_l0 ∧ (holds_1.map GHold.cells)[Int.toNat i_l0]? = some [.i .i64 ((holds_1.getD i_l0.toNat default).Place), .i .i64 ((holds_1.getD i_l0.toNat default).Kind), .f .f32 ((holds_1.getD i_l0.toNat default).At.X), .f .f32 ((holds_1.getD i_l0.toNat default).At.Y), .f .f32 ((holds_1.getD i_l0.toNat default).At.Z), .f .f32 ((holds_1.getD i_l0.toNat default).Way.X), .f .f32 ((holds_1.getD i_l0.toNat default).Way.Y), .f .f32 ((holds_1.getD i_l0.toNat default).Way.Z)],
                Fn Go.Proofs.Try.prog 113 [.ref [.i .i64 ((holds_1.getD i_l0.toNat default).Place), .i .i64 ((holds_1.getD i_l0.toNat default).Kind), .f .f32 ((holds_1.getD i_l0.toNat default).At.X), .f .f32 ((holds_1.getD i_l0.toNat default).At.Y), .f .f32 ((holds_1.getD i_l0.toNat default).At.Z), .f .f32 ((holds_1.getD i_l0.toNat default).Way.X), .f .f32 ((holds_1.getD i_l0.toNat default).Way.Y), .f .f32 ((holds_1.getD i_l0.toNat default).Way.Z)] 0] (.b (v_spec_l04Is (holds_1.getD i_l0.toNat default))) [],
                (!(v_spec_l04Is (holds_1.getD i_l0.toNat default))) = false,
                (!(v_spec_l04Is (holds_1.getD i_l0.toNat default))) = false,
                (!(v_spec_l04Is (holds_1.getD i_l0.toNat default))) = false,
                (!(v_spec_l04Is (holds_1.getD i_l0.toNat default))) = false,
                0 ≤ i_l0 ∧ (holds_1.map GHold.cells)[Int.toNat i_l0]? = some [.i .i64 ((holds_1.getD i_l0.toNat default).Place), .i .i64 ((holds_1.getD i_l0.toNat default).Kind), .f .f32 ((holds_1.getD i_l0.toNat default).At.X), .f .f32 ((holds_1.getD i_l0.toNat default).At.Y), .f .f32 ((holds_1.getD i_l0.toNat default).At.Z), .f .f32 ((holds_1.getD i_l0.toNat default).Way.X), .f .f32 ((holds_1.getD i_l0.toNat default).Way.Y), .f .f32 ((holds_1.getD i_l0.toNat default).Way.Z)],
                (!(v_spec_l04Is (holds_1.getD i_l0.toNat default))) = false,
                (!(v_spec_l04Is (holds_1.getD i_l0.toNat default))) = false,
                (!(v_spec_l04Is (holds_1.getD i_l0.toNat default))) = false,
                Fn Go.Proofs.Try.prog 114 [.ref [.sl (m_0.Places.map GVector.cells), .sl (m_0.Triangles.map (cL (cI .i64)))] 0, .i .i64 ((holds_1.getD i_l0.toNat default).Place)] (.b (v_spec_l02Place m_0 ((holds_1.getD i_l0.toNat default).Place))) [],
                (!(v_spec_l04Is (holds_1.getD i_l0.toNat default))) = false,
                (!(v_spec_l04Is (holds_1.getD i_l0.toNat default))) = false,
                (!(v_spec_l02Place m_0 ((holds_1.getD i_l0.toNat default).Place))) = false,
                (!(v_spec_l02Place m_0 ((holds_1.getD i_l0.toNat default).Place))) = false,
                (!(v_spec_l02Place m_0 ((holds_1.getD i_l0.toNat default).Place))) = false,
                (decide (i_l0 > 0)) = false,
                (decide (i_l0 > 0)) = false,
                (decide (i_l0 > 0)) = false,
                (decide (i_l0 > 0)) = false,
                (decide (i_l0 > 0)) = false,
                (decide (i_l0 > 0)) = false,
                (decide (i_l0 > 0)) = false,
                (decide (i_l0 > 0)) = false,
                (decide (i_l0 > 0)) = false,
                (decide (i_l0 > 0)) = false,
                (decide (i_l0 > 0)) = false,
                (decide (i_l0 > 0)) = false,
                (!(v_spec_l02Place m_0 ((holds_1.getD i_l0.toNat default).Place))) = false,
                (decide (i_l0 > 0)) = false,
                (!(v_spec_l02Place m_0 ((holds_1.getD i_l0.toNat default).Place))) = false,
                false = false,
                IntKind.wrap .i64 (i_l0 + 1) = (i_l0 + 1)])
              (by kernel_rfl)
              ⟨len_ok, h_0, (get_ok (by first | assumption | omega | (simp at * <;> omega) | (simp_all <;> omega)) (by first | assumption | omega | (simp at * <;> omega) | (simp_all <;> omega))), (t_spec_l04Is (holds_1.getD i_l0.toNat default)), (congrArg not h_1), (congrArg not h_1), (congrArg not h_1), (congrArg not h_1), (get_ok (by first | assumption | omega | (simp at * <;> omega) | (simp_all <;> omega)) (by first | assumption | omega | (simp at * <;> omega) | (simp_all <;> omega))), (congrArg not h_1), (congrArg not h_1), (congrArg not h_1), (t_spec_l02Place m_0 ((holds_1.getD i_l0.toNat default).Place) (show m_0.Places.length ≤ 1073741824 from (by first | assumption | omega | (simp at * <;> omega) | (simp_all <;> omega))) (show m_0.Triangles.length ≤ 1073741824 from (by first | assumption | omega | (simp at * <;> omega) | (simp_all <;> omega))) (show ∀ t ∈ m_0.Triangles, t.length ≤ 1073741824 from (by first | assumption | omega | (simp at * <;> omega) | (simp_all <;> omega)))), (congrArg not h_1), (congrArg not h_1), (congrArg not h_2), (congrArg not h_2), (congrArg not h_2), h_3, h_3, h_3, h_3, h_3, h_3, h_3, h_3, h_3, h_3, h_3, h_3, (congrArg not h_2), h_3, (congrArg not h_2), rfl, (wrap_id (by first | assumption | omega | (simp at * <;> omega) | (simp_all <;> omega)) (by first | assumption | omega | (simp at * <;> omega) | (simp_all <;> omega))), trivial⟩
              rfl (ih (i_l0 + 1) (show 0 ≤ (i_l0 + 1) from (by first | assumption | omega | (simp at * <;> omega) | (simp_all <;> omega))) (by first | assumption | omega | (simp at * <;> omega) | (simp_all <;> omega)))
        | false =>
          have e : lo_spec_l04Are_1 m_0 holds_1 (k + 1) i_l0 = (.inl ()) := by simp only [lo_spec_l04Are_1, h_0, h_1, h_2, cond_true, cond_false]
          rw [e]
          exact stepK_out (E := E0) E0Ok hMixed (e := .ret) (body := (sub (bodyOf Go.Proofs.Try.f54) [1, 1, 0, 1, 0, 0])) (st := ⟨[.ref [.sl (m_0.Places.map GVector.cells), .sl (m_0.Triangles.map (cL (cI .i64)))] 0, .sl (holds_1.map GHold.cells), .any, .any, .any, .i .i64 i_l0, .ref [.sl (m_0.Places.map GVector.cells), .sl (m_0.Triangles.map (cL (cI .i64)))] 0, .b (v_spec_l02Is m_0), .b (!(v_spec_l02Is m_0)), .any, .any, .any, .any, .any, .any, .any, .any, .any, .any, .any, .any, .any, .any, .any, .any, .any, .any, .any, .any, .any, .any, .any, .any, .any, .any, .any, .any, .any, .any, .any, .any, .any, .any, .any, .any, .any, .any, .any], []⟩)
            (st2 := ⟨[.any, .any, .any, .any, .b false, .any, .any, .any, .any, .any, .any, .any, .any, .any, .any, .any, .any, .any, .any, .any, .any, .any, .any, .any, .any, .any, .any, .any, .any, .any, .any, .any, .any, .any, .any, .any, .any, .any, .any, .any, .any, .any, .any, .any, .any, .any, .any, .any], []⟩)
            (ans := [.num (holds_1.length : Int), .bo true, .keep [30, 30], .el [.i .i64 ((holds_1.getD i_l0.toNat default).Place), .i .i64 ((holds_1.getD i_l0.toNat default).Kind), .f .f32 ((holds_1.getD i_l0.toNat default).At.X), .f .f32 ((holds_1.getD i_l0.toNat default).At.Y), .f .f32 ((holds_1.getD i_l0.toNat default).At.Z), .f .f32 ((holds_1.getD i_l0.toNat default).Way.X), .f .f32 ((holds_1.getD i_l0.toNat default).Way.Y), .f .f32 ((holds_1.getD i_l0.toNat default).Way.Z)], .call (.b (v_spec_l04Is (holds_1.getD i_l0.toNat default))) [], .bo false, .bo false, .bo false, .bo false, .el [.i .i64 ((holds_1.getD i_l0.toNat default).Place), .i .i64 ((holds_1.getD i_l0.toNat default).Kind), .f .f32 ((holds_1.getD i_l0.toNat default).At.X), .f .f32 ((holds_1.getD i_l0.toNat default).At.Y), .f .f32 ((holds_1.getD i_l0.toNat default).At.Z), .f .f32 ((holds_1.getD i_l0.toNat default).Way.X), .f .f32 ((holds_1.getD i_l0.toNat default).Way.Y), .f .f32 ((holds_1.getD i_l0.toNat default).Way.Z)], .bo false, .bo false, .bo false, .call (.b (v_spec_l02Place m_0 ((holds_1.getD i_l0.toNat default).Place))) [], .bo false, .bo false, .bo true, .bo true, .bo true, .bo true, .bo true, .bo true])
            (ps := []) (mask := [false, false, false, false, true, false, false, false, false, false, false, false, false, false, false, false, false, false, false, false, false, false, false, false, false, false, false, false, false, false, false, false, false, false, false, false, false, false, false, false, false, false, false, false, false, false, false, false]) (ks := [])
            (C := [(((holds_1.map GHold.cells).length : Nat) : Int) = (holds_1.length : Int),
              (decide (i_l0 < (holds_1.length : Int))) = true,
              0 ≤ i_l0 ∧ (holds_1.map GHold.cells)[Int.toNat i_l0]? = some [.i .i64 ((holds_1.getD i_l0.toNat default).Place), .i .i64 ((holds_1.getD i_l0.toNat default).Kind), .f .f32 ((holds_1.getD i_l0.toNat default).At.X), .f .f32 ((holds_1.getD i_l0.toNat default).At.Y), .f .f32 ((holds_1.getD i_l0.toNat default).At.Z), .f .f32 ((holds_1.getD i_l0.toNat default).Way.X), .f .f32 ((holds_1.getD i_l0.toNat default).Way.Y), .f .f32 ((holds_1.getD i_l0.toNat default).Way.Z)],
              Fn Go.Proofs.Try.prog 113 [.ref [.i .i64 ((holds_1.getD i_l0.toNat default).Place), .i .i64 ((holds_1.getD i_l0.toNat default).Kind), .f .f32 ((holds_1.getD i_l0.toNat default).At.X), .f .f32 ((holds_1.getD i_l0.toNat default).At.Y), .f .f32 ((holds_1.getD i_l0.toNat default).At.Z), .f .f32 ((holds_1.getD i_l0.toNat default).Way.X), .f .f32 ((holds_1.getD i_l0.toNat default).Way.Y), .f .f32 ((holds_1.getD i_l0.toNat default).Way.Z)] 0] (.b (v_spec_l04Is (holds_1.getD i_l0.toNat default))) [],
              (!(v_spec_l04Is (holds_1.getD i_l0.toNat default))) = false,
              (!(v_spec_l04Is (holds_1.getD i_l0.toNat default))) = false,
              (!(v_spec_l04Is (holds_1.getD i_l0.toNat default))) = false,
              (!(v_spec_l04Is (holds_1.getD i_l0.toNat default))) = false,
              0 ≤ i_l0 ∧ (holds_1.map GHold.cells)[Int.toNat i_l0]? = some [.i .i64 ((holds_1.getD i_l0.toNat default).Place), .i .i64 ((holds_1.getD i_l0.toNat default).Kind), .f .f32 ((holds_1.getD i_l0.toNat default).At.X), .f .f32 ((holds_1.getD i_l0.toNat default).At.Y), .f .f32 ((holds_1.getD i_l0.toNat default).At.Z), .f .f32 ((holds_1.getD i_l0.toNat default).Way.X), .f .f32 ((holds_1.getD i_l0.toNat default).Way.Y), .f .f32 ((holds_1.getD i_l0.toNat default).Way.Z)],
              (!(v_spec_l04Is (holds_1.getD i_l0.toNat default))) = false,
              (!(v_spec_l04Is (holds_1.getD i_l0.toNat default))) = false,
              (!(v_spec_l04Is (holds_1.getD i_l0.toNat default))) = false,
              Fn Go.Proofs.Try.prog 114 [.ref [.sl (m_0.Places.map GVector.cells), .sl (m_0.Triangles.map (cL (cI .i64)))] 0, .i .i64 ((holds_1.getD i_l0.toNat default).Place)] (.b (v_spec_l02Place m_0 ((holds_1.getD i_l0.toNat default).Place))) [],
              (!(v_spec_l04Is (holds_1.getD i_l0.toNat default))) = false,
              (!(v_spec_l04Is (holds_1.getD i_l0.toNat default))) = false,
              (!(v_spec_l02Place m_0 ((holds_1.getD i_l0.toNat default).Place))) = true,
              (!(v_spec_l02Place m_0 ((holds_1.getD i_l0.toNat default).Place))) = true,
              (!(v_spec_l02Place m_0 ((holds_1.getD i_l0.toNat default).Place))) = true,
              (!(v_spec_l02Place m_0 ((holds_1.getD i_l0.toNat default).Place))) = true,
              (!(v_spec_l02Place m_0 ((holds_1.getD i_l0.toNat default).Place))) = true,
              true = true])
            (by kernel_rfl)
            ⟨len_ok, h_0, (get_ok (by first | assumption | omega | (simp at * <;> omega) | (simp_all <;> omega)) (by first | assumption | omega | (simp at * <;> omega) | (simp_all <;> omega))), (t_spec_l04Is (holds_1.getD i_l0.toNat default)), (congrArg not h_1), (congrArg not h_1), (congrArg not h_1), (congrArg not h_1), (get_ok (by first | assumption | omega | (simp at * <;> omega) | (simp_all <;> omega)) (by first | assumption | omega | (simp at * <;> omega) | (simp_all <;> omega))), (congrArg not h_1), (congrArg not h_1), (congrArg not h_1), (t_spec_l02Place m_0 ((holds_1.getD i_l0.toNat default).Place) (show m_0.Places.length ≤ 1073741824 from (by first | assumption | omega | (simp at * <;> omega) | (simp_all <;> omega))) (show m_0.Triangles.length ≤ 1073741824 from (by first | assumption | omega | (simp at * <;> omega) | (simp_all <;> omega))) (show ∀ t ∈ m_0.Triangles, t.length ≤ 1073741824 from (by first | assumption | omega | (simp at * <;> omega) | (simp_all <;> omega)))), (congrArg not h_1), (congrArg not h_1), (congrArg not h_2), (congrArg not h_2), (congrArg not h_2), (congrArg not h_2), (congrArg not h_2), rfl, trivial⟩
            (by intro h; cases h) rfl
      | false =>
        have e : lo_spec_l04Are_1 m_0 holds_1 (k + 1) i_l0 = (.inl ()) := by simp only [lo_spec_l04Are_1, h_0, h_1, cond_true, cond_false]
        rw [e]
        exact stepK_out (E := E0) E0Ok hMixed (e := .ret) (body := (sub (bodyOf Go.Proofs.Try.f54) [1, 1, 0, 1, 0, 0])) (st := ⟨[.ref [.sl (m_0.Places.map GVector.cells), .sl (m_0.Triangles.map (cL (cI .i64)))] 0, .sl (holds_1.map GHold.cells), .any, .any, .any, .i .i64 i_l0, .ref [.sl (m_0.Places.map GVector.cells), .sl (m_0.Triangles.map (cL (cI .i64)))] 0, .b (v_spec_l02Is m_0), .b (!(v_spec_l02Is m_0)), .any, .any, .any, .any, .any, .any, .any, .any, .any, .any, .any, .any, .any, .any, .any, .any, .any, .any, .any, .any, .any, .any, .any, .any, .any, .any, .any, .any, .any, .any, .any, .any, .any, .any, .any, .any, .any, .any, .any], []⟩)
          (st2 := ⟨[.any, .any, .any, .any, .b false, .any, .any, .any, .any, .any, .any, .any, .any, .any, .any, .any, .any, .any, .any, .any, .any, .any, .any, .any, .any, .any, .any, .any, .any, .any, .any, .any, .any, .any, .any, .any, .any, .any, .any, .any, .any, .any, .any, .any, .any, .any, .any, .any], []⟩)
          (ans := [.num (holds_1.length : Int), .bo true, .keep [30, 30], .el [.i .i64 ((holds_1.getD i_l0.toNat default).Place), .i .i64 ((holds_1.getD i_l0.toNat default).Kind), .f .f32 ((holds_1.getD i_l0.toNat default).At.X), .f .f32 ((holds_1.getD i_l0.toNat default).At.Y), .f .f32 ((holds_1.getD i_l0.toNat default).At.Z), .f .f32 ((holds_1.getD i_l0.toNat default).Way.X), .f .f32 ((holds_1.getD i_l0.toNat default).Way.Y), .f .f32 ((holds_1.getD i_l0.toNat default).Way.Z)], .call (.b (v_spec_l04Is (holds_1.getD i_l0.toNat default))) [], .bo true, .bo true, .bo true, .bo true, .bo true, .bo true, .bo true, .bo true, .bo true, .bo true, .bo true, .bo true, .bo true, .bo true, .bo true])
          (ps := []) (mask := [false, false, false, false, true, false, false, false, false, false, false, false, false, false, false, false, false, false, false, false, false, false, false, false, false, false, false, false, false, false, false, false, false, false, false, false, false, false, false, false, false, false, false, false, false, false, false, false]) (ks := [])
          (C := [(((holds_1.map GHold.cells).length : Nat) : Int) = (holds_1.length : Int),
            (decide (i_l0 < (holds_1.length : Int))) = true,
            0 ≤ i_l0 ∧ (holds_1.map GHold.cells)[Int.toNat i_l0]? = some [.i .i64 ((holds_1.getD i_l0.toNat default).Place), .i .i64 ((holds_1.getD i_l0.toNat default).Kind), .f .f32 ((holds_1.getD i_l0.toNat default).At.X), .f .f32 ((holds_1.getD i_l0.toNat default).At.Y), .f .f32 ((holds_1.getD i_l0.toNat default).At.Z), .f .f32 ((holds_1.getD i_l0.toNat default).Way.X), .f .f32 ((holds_1.getD i_l0.toNat default).Way.Y), .f .f32 ((holds_1.getD i_l0.toNat default).Way.Z)],
            Fn Go.Proofs.Try.prog 113 [.ref [.i .i64 ((holds_1.getD i_l0.toNat default).Place), .i .i64 ((holds_1.getD i_l0.toNat default).Kind), .f .f32 ((holds_1.getD i_l0.toNat default).At.X), .f .f32 ((holds_1.getD i_l0.toNat default).At.Y), .f .f32 ((holds_1.getD i_l0.toNat default).At.Z), .f .f32 ((holds_1.getD i_l0.toNat default).Way.X), .f .f32 ((holds_1.getD i_l0.toNat default).Way.Y), .f .f32 ((holds_1.getD i_l0.toNat default).Way.Z)] 0] (.b (v_spec_l04Is (holds_1.getD i_l0.toNat default))) [],
            (!(v_spec_l04Is (holds_1.getD i_l0.toNat default))) = true,
            (!(v_spec_l04Is (holds_1.getD i_l0.toNat default))) = true,
            (!(v_spec_l04Is (holds_1.getD i_l0.toNat default))) = true,
            (!(v_spec_l04Is (holds_1.getD i_l0.toNat default))) = true,
            (!(v_spec_l04Is (holds_1.getD i_l0.toNat default))) = true,
            (!(v_spec_l04Is (holds_1.getD i_l0.toNat default))) = true,
            (!(v_spec_l04Is (holds_1.getD i_l0.toNat default))) = true,
            (!(v_spec_l04Is (holds_1.getD i_l0.toNat default))) = true,
            (!(v_spec_l04Is (holds_1.getD i_l0.toNat default))) = true,
            true = true,
            true = true,
            true = true,
            true = true,
            true = true,
            true = true])
          (by kernel_rfl)
          ⟨len_ok, h_0, (get_ok (by first | assumption | omega | (simp at * <;> omega) | (simp_all <;> omega)) (by first | assumption | omega | (simp at * <;> omega) | (simp_all <;> omega))), (t_spec_l04Is (holds_1.getD i_l0.toNat default)), (congrArg not h_1), (congrArg not h_1), (congrArg not h_1), (congrArg not h_1), (congrArg not h_1), (congrArg not h_1), (congrArg not h_1), (congrArg not h_1), (congrArg not h_1), rfl, rfl, rfl, rfl, rfl, rfl, trivial⟩
          (by intro h; cases h) rfl
    | false =>
      have e : lo_spec_l04Are_1 m_0 holds_1 (k + 1) i_l0 = (.inr ()) := by simp only [lo_spec_l04Are_1, h_0, cond_false]
      rw [e]
      exact stepK_out (E := E0) E0Ok hMixed (e := (.exit 0)) (body := (sub (bodyOf Go.Proofs.Try.f54) [1, 1, 0, 1, 0, 0])) (st := ⟨[.ref [.sl (m_0.Places.map GVector.cells), .sl (m_0.Triangles.map (cL (cI .i64)))] 0, .sl (holds_1.map GHold.cells), .any, .any, .any, .i .i64 i_l0, .ref [.sl (m_0.Places.map GVector.cells), .sl (m_0.Triangles.map (cL (cI .i64)))] 0, .b (v_spec_l02Is m_0), .b (!(v_spec_l02Is m_0)), .any, .any, .any, .any, .any, .any, .any, .any, .any, .any, .any, .any, .any, .any, .any, .any, .any, .any, .any, .any, .any, .any, .any, .any, .any, .any, .any, .any, .any, .any, .any, .any, .any, .any, .any, .any, .any, .any, .any], []⟩)
        (st2 := ⟨[.ref [.sl (m_0.Places.map GVector.cells), .sl (m_0.Triangles.map (cL (cI .i64)))] 0, .any, .any, .any, .any, .any, .ref [.sl (m_0.Places.map GVector.cells), .sl (m_0.Triangles.map (cL (cI .i64)))] 0, .b (v_spec_l02Is m_0), .b (!(v_spec_l02Is m_0)), .any, .any, .any, .any, .any, .any, .any, .any, .any, .any, .any, .any, .any, .any, .any, .any, .any, .any, .any, .any, .any, .any, .any, .any, .any, .any, .any, .any, .any, .any, .any, .any, .any, .any, .any, .any, .any, .any, .any], []⟩)
        (ans := [.num (holds_1.length : Int), .bo false])
        (ps := []) (mask := [true, false, false, false, false, false, true, true, true, false, false, false, false, false, false, false, false, false, false, false, false, false, false, false, false, false, false, false, false, false, false, false, false, false, false, false, false, false, false, false, false, false, false, false, false, false, false, false]) (ks := [])
        (C := [(((holds_1.map GHold.cells).length : Nat) : Int) = (holds_1.length : Int),
          (decide (i_l0 < (holds_1.length : Int))) = false])
        (by kernel_rfl)
        ⟨len_ok, h_0, trivial⟩
        (by intro h; cases h) rfl

def lr_spec_l04Are_1_0 (m_0 : GMesh) (holds_1 : (List GHold)) : (Unit) ⊕ (Unit) := (lo_spec_l04Are_1 m_0 holds_1 (((holds_1.length : Int) - 0).toNat + 1) 0)

/-- spec.l04Are -/
def v_spec_l04Are (m_0 : GMesh) (holds_1 : (List GHold)) : Bool := (cond (v_spec_l02Is m_0)
  (match (lr_spec_l04Are_1_0 m_0 holds_1) with
    | .inl r2 => false
    | .inr r2 => true)
  false)

theorem t_spec_l04Are (m_0 : GMesh) (holds_1 : (List GHold)) (hp0 : m_0.Places.length ≤ 1073741824) (hp1 : m_0.Triangles.length ≤ 1073741824) (hp2 : ∀ t ∈ m_0.Triangles, t.length ≤ 1073741824) (hp3 : holds_1.length ≤ 1073741824)  : Fn Go.Proofs.Try.prog 54 [.ref [.sl (m_0.Places.map GVector.cells), .sl (m_0.Triangles.map (cL (cI .i64)))] 0, .sl (holds_1.map GHold.cells)] (.b (v_spec_l04Are m_0 holds_1)) [] := by
  cases h0 : (v_spec_l02Is m_0) with
  | true =>
    cases h1 : (lr_spec_l04Are_1_0 m_0 holds_1) with
    | inl r2 =>
      exact Fn.cast (CallSt.fn (callSt_of_evK (E := E0) E0Ok hMixed (c := bodyOf Go.Proofs.Try.f54) (rows := []) (r := .b false) (rows' := [])
        (ans := [.call (.b (v_spec_l02Is m_0)) [], .bo false, .loop [true, true, false, false, false, true, true, true, true, false, false, false, false, false, false, false, false, false, false, false, false, false, false, false, false, false, false, false, false, false, false, false, false, false, false, false, false, false, false, false, false, false, false, false, false, false, false, false] 0 .ret ⟨[.any, .any, .any, .any, .b false, .any, .any, .any, .any, .any, .any, .any, .any, .any, .any, .any, .any, .any, .any, .any, .any, .any, .any, .any, .any, .any, .any, .any, .any, .any, .any, .any, .any, .any, .any, .any, .any, .any, .any, .any, .any, .any, .any, .any, .any, .any, .any, .any], []⟩, .keep []])
        (ps := [])
        (C := [Fn Go.Proofs.Try.prog 85 [.ref [.sl (m_0.Places.map GVector.cells), .sl (m_0.Triangles.map (cL (cI .i64)))] 0] (.b (v_spec_l02Is m_0)) [],
          (!(v_spec_l02Is m_0)) = false,
          Lp Go.Proofs.Try.prog 0 (sub (bodyOf Go.Proofs.Try.f54) [1, 1, 0, 1, 0, 0]) ⟨[.ref [.sl (m_0.Places.map GVector.cells), .sl (m_0.Triangles.map (cL (cI .i64)))] 0, .sl (holds_1.map GHold.cells), .any, .any, .any, .i .i64 0, .ref [.sl (m_0.Places.map GVector.cells), .sl (m_0.Triangles.map (cL (cI .i64)))] 0, .b (v_spec_l02Is m_0), .b (!(v_spec_l02Is m_0)), .any, .any, .any, .any, .any, .any, .any, .any, .any, .any, .any, .any, .any, .any, .any, .any, .any, .any, .any, .any, .any, .any, .any, .any, .any, .any, .any, .any, .any, .any, .any, .any, .any, .any, .any, .any, .any, .any, .any], []⟩ .ret ⟨[.any, .any, .any, .any, .b false, .any, .any, .any, .any, .any, .any, .any, .any, .any, .any, .any, .any, .any, .any, .any, .any, .any, .any, .any, .any, .any, .any, .any, .any, .any, .any, .any, .any, .any, .any, .any, .any, .any, .any, .any, .any, .any, .any, .any, .any, .any, .any, .any], []⟩])
        Go.Proofs.Try.func54 rfl (by kernel_rfl) (by kernel_rfl)
        ⟨(t_spec_l02Is m_0 (show m_0.Places.length ≤ 1073741824 from (by first | assumption | omega | (simp at * <;> omega) | (simp_all <;> omega))) (show m_0.Triangles.length ≤ 1073741824 from (by first | assumption | omega | (simp at * <;> omega) | (simp_all <;> omega))) (show ∀ t ∈ m_0.Triangles, t.length ≤ 1073741824 from (by first | assumption | omega | (simp at * <;> omega) | (simp_all <;> omega)))), (congrArg not h0), (by have q := (lp_spec_l04Are_1 m_0 holds_1 hp0 hp1 hp2 hp3 h0 (((holds_1.length : Int) - 0).toNat + 1) 0 (show 0 ≤ 0 from (by first | assumption | omega | (simp at * <;> omega) | (simp_all <;> omega))) (Nat.lt_succ_self _)); rw [show (lo_spec_l04Are_1 m_0 holds_1 (((holds_1.length : Int) - 0).toNat + 1) 0) = _ from rfl] at q; rw [show (lo_spec_l04Are_1 m_0 holds_1 (((holds_1.length : Int) - 0).toNat + 1) 0) = (lr_spec_l04Are_1_0 m_0 holds_1) from rfl, h1] at q; exact q), trivial⟩) rfl) (by simp only [v_spec_l04Are, h0, h1, cond_true]) rfl
    | inr r2 =>
      exact Fn.cast (CallSt.fn (callSt_of_evK (E := E0) E0Ok hMixed (c := bodyOf Go.Proofs.Try.f54) (rows := []) (r := .b true) (rows' := [])
        (ans := [.call (.b (v_spec_l02Is m_0)) [], .bo false, .loop [true, true, false, false, false, true, true, true, true, false, false, false, false, false, false, false, false, false, false, false, false, false, false, false, false, false, false, false, false, false, false, false, false, false, false, false, false, false, false, false, false, false, false, false, false, false, false, false] 0 (.exit 0) ⟨[.ref [.sl (m_0.Places.map GVector.cells), .sl (m_0.Triangles.map (cL (cI .i64)))] 0, .any, .any, .any, .any, .any, .ref [.sl (m_0.Places.map GVector.cells), .sl (m_0.Triangles.map (cL (cI .i64)))] 0, .b (v_spec_l02Is m_0), .b (!(v_spec_l02Is m_0)), .any, .any, .any, .any, .any, .any, .any, .any, .any, .any, .any, .any, .any, .any, .any, .any, .any, .any, .any, .any, .any, .any, .any, .any, .any, .any, .any, .any, .any, .any, .any, .any, .any, .any, .any, .any, .any, .any, .any], []⟩, .keep []])
        (ps := [])
        (C := [Fn Go.Proofs.Try.prog 85 [.ref [.sl (m_0.Places.map GVector.cells), .sl (m_0.Triangles.map (cL (cI .i64)))] 0] (.b (v_spec_l02Is m_0)) [],
          (!(v_spec_l02Is m_0)) = false,
          Lp Go.Proofs.Try.prog 0 (sub (bodyOf Go.Proofs.Try.f54) [1, 1, 0, 1, 0, 0]) ⟨[.ref [.sl (m_0.Places.map GVector.cells), .sl (m_0.Triangles.map (cL (cI .i64)))] 0, .sl (holds_1.map GHold.cells), .any, .any, .any, .i .i64 0, .ref [.sl (m_0.Places.map GVector.cells), .sl (m_0.Triangles.map (cL (cI .i64)))] 0, .b (v_spec_l02Is m_0), .b (!(v_spec_l02Is m_0)), .any, .any, .any, .any, .any, .any, .any, .any, .any, .any, .any, .any, .any, .any, .any, .any, .any, .any, .any, .any, .any, .any, .any, .any, .any, .any, .any, .any, .any, .any, .any, .any, .any, .any, .any, .any, .any, .any, .any], []⟩ (.exit 0) ⟨[.ref [.sl (m_0.Places.map GVector.cells), .sl (m_0.Triangles.map (cL (cI .i64)))] 0, .any, .any, .any, .any, .any, .ref [.sl (m_0.Places.map GVector.cells), .sl (m_0.Triangles.map (cL (cI .i64)))] 0, .b (v_spec_l02Is m_0), .b (!(v_spec_l02Is m_0)), .any, .any, .any, .any, .any, .any, .any, .any, .any, .any, .any, .any, .any, .any, .any, .any, .any, .any, .any, .any, .any, .any, .any, .any, .any, .any, .any, .any, .any, .any, .any, .any, .any, .any, .any, .any, .any, .any, .any], []⟩])
        Go.Proofs.Try.func54 rfl (by kernel_rfl) (by kernel_rfl)
        ⟨(t_spec_l02Is m_0 (show m_0.Places.length ≤ 1073741824 from (by first | assumption | omega | (simp at * <;> omega) | (simp_all <;> omega))) (show m_0.Triangles.length ≤ 1073741824 from (by first | assumption | omega | (simp at * <;> omega) | (simp_all <;> omega))) (show ∀ t ∈ m_0.Triangles, t.length ≤ 1073741824 from (by first | assumption | omega | (simp at * <;> omega) | (simp_all <;> omega)))), (congrArg not h0), (by have q := (lp_spec_l04Are_1 m_0 holds_1 hp0 hp1 hp2 hp3 h0 (((holds_1.length : Int) - 0).toNat + 1) 0 (show 0 ≤ 0 from (by first | assumption | omega | (simp at * <;> omega) | (simp_all <;> omega))) (Nat.lt_succ_self _)); rw [show (lo_spec_l04Are_1 m_0 holds_1 (((holds_1.length : Int) - 0).toNat + 1) 0) = _ from rfl] at q; rw [show (lo_spec_l04Are_1 m_0 holds_1 (((holds_1.length : Int) - 0).toNat + 1) 0) = (lr_spec_l04Are_1_0 m_0 holds_1) from rfl, h1] at q; exact q), trivial⟩) rfl) (by simp only [v_spec_l04Are, h0, h1, cond_true]) rfl
  | false =>
    exact Fn.cast (CallSt.fn (callSt_of_evK (E := E0) E0Ok hMixed (c := bodyOf Go.Proofs.Try.f54) (rows := []) (r := .b false) (rows' := [])
      (ans := [.call (.b (v_spec_l02Is m_0)) [], .bo true, .keep []])
      (ps := [])
      (C := [Fn Go.Proofs.Try.prog 85 [.ref [.sl (m_0.Places.map GVector.cells), .sl (m_0.Triangles.map (cL (cI .i64)))] 0] (.b (v_spec_l02Is m_0)) [],
        (!(v_spec_l02Is m_0)) = true])
      Go.Proofs.Try.func54 rfl (by kernel_rfl) (by kernel_rfl)
      ⟨(t_spec_l02Is m_0 (show m_0.Places.length ≤ 1073741824 from (by first | assumption | omega | (simp at * <;> omega) | (simp_all <;> omega))) (show m_0.Triangles.length ≤ 1073741824 from (by first | assumption | omega | (simp at * <;> omega) | (simp_all <;> omega))) (show ∀ t ∈ m_0.Triangles, t.length ≤ 1073741824 from (by first | assumption | omega | (simp at * <;> omega) | (simp_all <;> omega)))), (congrArg not h0), trivial⟩) rfl) (by simp only [v_spec_l04Are, h0, cond_false]) rfl

theorem lo_okHolds (m : GMesh) (hs : List GHold) : ∀ (k : Nat) (i : Int), 0 ≤ i → lo_spec_l04Are_1 m hs k i = .inr () → ∀ j : Nat, i.toNat ≤ j → j < hs.length → v_spec_l04Is (hs.getD j default) = true ∧ v_spec_l02Place m (hs.getD j default).Place = true := by
  intro k
  induction k with
  | zero => intro i _ h; cases h
  | succ k ih =>
    intro i h0 h j hj hl
    rw [lo_spec_l04Are_1] at h
    by_cases hi : i < (hs.length : Int)
    · rw [decide_eq_true hi, cond_true] at h
      cases h1 : v_spec_l04Is (hs.getD i.toNat default) <;> rw [h1] at h <;> (try (cases h; done))
      cases h2 : v_spec_l02Place m ((hs.getD i.toNat default).Place) <;> rw [h2] at h <;> (try (cases h; done))
      have h3 : lo_spec_l04Are_1 m hs k (i + 1) = .inr () := by
        simp only [cond_true] at h
        cases h4 : decide (i > 0) <;> rw [h4] at h
        · exact h
        · cases h5 : decide ((hs.getD (i - 1).toNat default).Place ≥ (hs.getD i.toNat default).Place) <;> rw [h5] at h
          · exact h
          · cases h
      by_cases hj2 : i.toNat = j
      · subst hj2; exact ⟨h1, h2⟩
      · exact ih (i + 1) (by omega) h3 j (by omega) hl
    · omega
theorem okH_is (m : GMesh) (hs : List GHold) (h : v_spec_l04Are m hs = true) : v_spec_l02Is m = true ∧ OkIx m.Places.length GHold.Place hs ∧ ∀ x ∈ hs, v_spec_l04Is x = true := by
  unfold v_spec_l04Are lr_spec_l04Are_1_0 at h
  cases h1 : v_spec_l02Is m <;> rw [h1] at h <;> (try (cases h; done))
  have hn : m.Places.length ≤ 64 := by
    rw [l02Is_eq] at h1
    cases h2 : decide ((m.Places.length : Int) > 64) <;> rw [h2] at h1 <;> (try (cases h1; done))
    simp only [decide_eq_false_iff_not] at h2
    omega
  have key : ∀ j : Nat, j < hs.length → v_spec_l04Is (hs.getD j default) = true ∧ v_spec_l02Place m (hs.getD j default).Place = true := by
    intro j hj
    refine lo_okHolds m hs (((hs.length : Int) - 0).toNat + 1) 0 (Int.le_refl 0) ?_ j (by simp) hj
    rw [cond_true] at h
    generalize lo_spec_l04Are_1 m hs (((hs.length : Int) - 0).toNat + 1) 0 = r at h
    cases r with
    | inl u => cases h
    | inr u => rfl
  have mem : ∀ x ∈ hs, v_spec_l04Is x = true ∧ v_spec_l02Place m x.Place = true := fun x hx => by
    obtain ⟨j, hj, rfl⟩ := List.getElem_of_mem hx
    have q := key j hj
    rwa [List.getD_eq_getElem?_getD, List.getElem?_eq_getElem hj, Option.getD_some] at q
  exact ⟨rfl, fun x hx => in_ok (by omega) (mem x hx).2, fun x hx => (mem x hx).1⟩

/-- spec.l01Less -/
def v_spec_l01Less (a_0 : GVector) (b_1 : GVector) : GVector := (⟨(fop .sub .f32 a_0.X b_1.X), (fop .sub .f32 a_0.Y b_1.Y), (fop .sub .f32 a_0.Z b_1.Z)⟩ : GVector)

theorem t_spec_l01Less (a_0 : GVector) (b_1 : GVector)   : Fn Go.Proofs.Try.prog 56 [.agg [.f .f32 a_0.X, .f .f32 a_0.Y, .f .f32 a_0.Z], .agg [.f .f32 b_1.X, .f .f32 b_1.Y, .f .f32 b_1.Z]] (.agg [.f .f32 ((v_spec_l01Less a_0 b_1).X), .f .f32 ((v_spec_l01Less a_0 b_1).Y), .f .f32 ((v_spec_l01Less a_0 b_1).Z)]) [] := by
  exact Fn.cast (CallSt.fn (callSt_of_evK (E := E0) E0Ok hMixed (c := bodyOf Go.Proofs.Try.f56) (rows := []) (r := .agg [.f .f32 (fop .sub .f32 a_0.X b_1.X), .f .f32 (fop .sub .f32 a_0.Y b_1.Y), .f .f32 (fop .sub .f32 a_0.Z b_1.Z)]) (rows' := [])
    (ans := [.keep []])
    (ps := [])
    (C := [])
    Go.Proofs.Try.func56 rfl (by kernel_rfl) (by kernel_rfl)
    trivial) rfl) rfl rfl

/-- spec.l01Scale -/
def v_spec_l01Scale (v_0 : GVector) (by_1 : Nat) : GVector := (⟨(fop .mul .f32 v_0.X by_1), (fop .mul .f32 v_0.Y by_1), (fop .mul .f32 v_0.Z by_1)⟩ : GVector)

theorem t_spec_l01Scale (v_0 : GVector) (by_1 : Nat)   : Fn Go.Proofs.Try.prog 76 [.agg [.f .f32 v_0.X, .f .f32 v_0.Y, .f .f32 v_0.Z], .f .f32 by_1] (.agg [.f .f32 ((v_spec_l01Scale v_0 by_1).X), .f .f32 ((v_spec_l01Scale v_0 by_1).Y), .f .f32 ((v_spec_l01Scale v_0 by_1).Z)]) [] := by
  exact Fn.cast (CallSt.fn (callSt_of_evK (E := E0) E0Ok hMixed (c := bodyOf Go.Proofs.Try.f76) (rows := []) (r := .agg [.f .f32 (fop .mul .f32 v_0.X by_1), .f .f32 (fop .mul .f32 v_0.Y by_1), .f .f32 (fop .mul .f32 v_0.Z by_1)]) (rows' := [])
    (ans := [.keep []])
    (ps := [])
    (C := [])
    Go.Proofs.Try.func76 rfl (by kernel_rfl) (by kernel_rfl)
    trivial) rfl) rfl rfl

/-- spec.l04Along -/
def v_spec_l04Along (h_0 : GHold) (v_1 : GVector) : GVector := (v_spec_l01Scale h_0.Way (fop .quo .f32 (v_spec_l01Inner v_1 h_0.Way) (v_spec_l01Inner h_0.Way h_0.Way)))

theorem t_spec_l04Along (h_0 : GHold) (v_1 : GVector)   : Fn Go.Proofs.Try.prog 117 [.ref [.i .i64 h_0.Place, .i .i64 h_0.Kind, .f .f32 h_0.At.X, .f .f32 h_0.At.Y, .f .f32 h_0.At.Z, .f .f32 h_0.Way.X, .f .f32 h_0.Way.Y, .f .f32 h_0.Way.Z] 0, .agg [.f .f32 v_1.X, .f .f32 v_1.Y, .f .f32 v_1.Z]] (.agg [.f .f32 ((v_spec_l04Along h_0 v_1).X), .f .f32 ((v_spec_l04Along h_0 v_1).Y), .f .f32 ((v_spec_l04Along h_0 v_1).Z)]) [] := by
  exact Fn.cast (CallSt.fn (callSt_of_evK (E := E0) E0Ok hMixed (c := bodyOf Go.Proofs.Try.f117) (rows := []) (r := .agg [.f .f32 ((v_spec_l01Scale h_0.Way (fop .quo .f32 (v_spec_l01Inner v_1 h_0.Way) (v_spec_l01Inner h_0.Way h_0.Way))).X), .f .f32 ((v_spec_l01Scale h_0.Way (fop .quo .f32 (v_spec_l01Inner v_1 h_0.Way) (v_spec_l01Inner h_0.Way h_0.Way))).Y), .f .f32 ((v_spec_l01Scale h_0.Way (fop .quo .f32 (v_spec_l01Inner v_1 h_0.Way) (v_spec_l01Inner h_0.Way h_0.Way))).Z)]) (rows' := [])
    (ans := [.keep [20, 20], .call (.f .f32 (v_spec_l01Inner v_1 h_0.Way)) [], .call (.f .f32 (v_spec_l01Inner h_0.Way h_0.Way)) [], .call (.agg [.f .f32 ((v_spec_l01Scale h_0.Way (fop .quo .f32 (v_spec_l01Inner v_1 h_0.Way) (v_spec_l01Inner h_0.Way h_0.Way))).X), .f .f32 ((v_spec_l01Scale h_0.Way (fop .quo .f32 (v_spec_l01Inner v_1 h_0.Way) (v_spec_l01Inner h_0.Way h_0.Way))).Y), .f .f32 ((v_spec_l01Scale h_0.Way (fop .quo .f32 (v_spec_l01Inner v_1 h_0.Way) (v_spec_l01Inner h_0.Way h_0.Way))).Z)]) [], .keep []])
    (ps := [])
    (C := [Fn Go.Proofs.Try.prog 116 [.agg [.f .f32 v_1.X, .f .f32 v_1.Y, .f .f32 v_1.Z], .agg [.f .f32 h_0.Way.X, .f .f32 h_0.Way.Y, .f .f32 h_0.Way.Z]] (.f .f32 (v_spec_l01Inner v_1 h_0.Way)) [],
      Fn Go.Proofs.Try.prog 116 [.agg [.f .f32 h_0.Way.X, .f .f32 h_0.Way.Y, .f .f32 h_0.Way.Z], .agg [.f .f32 h_0.Way.X, .f .f32 h_0.Way.Y, .f .f32 h_0.Way.Z]] (.f .f32 (v_spec_l01Inner h_0.Way h_0.Way)) [],
      Fn Go.Proofs.Try.prog 76 [.agg [.f .f32 h_0.Way.X, .f .f32 h_0.Way.Y, .f .f32 h_0.Way.Z], .f .f32 (fop .quo .f32 (v_spec_l01Inner v_1 h_0.Way) (v_spec_l01Inner h_0.Way h_0.Way))] (.agg [.f .f32 ((v_spec_l01Scale h_0.Way (fop .quo .f32 (v_spec_l01Inner v_1 h_0.Way) (v_spec_l01Inner h_0.Way h_0.Way))).X), .f .f32 ((v_spec_l01Scale h_0.Way (fop .quo .f32 (v_spec_l01Inner v_1 h_0.Way) (v_spec_l01Inner h_0.Way h_0.Way))).Y), .f .f32 ((v_spec_l01Scale h_0.Way (fop .quo .f32 (v_spec_l01Inner v_1 h_0.Way) (v_spec_l01Inner h_0.Way h_0.Way))).Z)]) []])
    Go.Proofs.Try.func117 rfl (by kernel_rfl) (by kernel_rfl)
    ⟨(t_spec_l01Inner v_1 h_0.Way), (t_spec_l01Inner h_0.Way h_0.Way), (t_spec_l01Scale h_0.Way (fop .quo .f32 (v_spec_l01Inner v_1 h_0.Way) (v_spec_l01Inner h_0.Way h_0.Way))), trivial⟩) rfl) rfl rfl

/-- spec.l01Add -/
def v_spec_l01Add (a_0 : GVector) (b_1 : GVector) : GVector := (⟨(fop .add .f32 a_0.X b_1.X), (fop .add .f32 a_0.Y b_1.Y), (fop .add .f32 a_0.Z b_1.Z)⟩ : GVector)

end Go.Ab
