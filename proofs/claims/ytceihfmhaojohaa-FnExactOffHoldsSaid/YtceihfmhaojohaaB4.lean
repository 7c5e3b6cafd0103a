/- The functions of this seat as plain Lean, and that the program's are these. Printed by a program of the prover's own. -/
import Derived.Test.YtceihfmhaojohaaB3
set_option linter.unusedVariables false
set_option maxRecDepth 100000
namespace Go.Ab
open Go.RowKit

def lr_impl_ValidMesh_1_1 (m_0 : GMesh) : (Unit) ⊕ (Unit) := (lo_impl_ValidMesh_1 m_0 (((m_0.Triangles.length : Int) - 0).toNat + 1) 0)

/-- impl.ValidMesh -/
def v_impl_ValidMesh (m_0 : GMesh) : Bool := (cond (decide ((m_0.Places.length : Int) > 64))
  false
  (cond (decide ((m_0.Triangles.length : Int) > 128))
    false
    (match (lr_impl_ValidMesh_1_1 m_0) with
      | .inl r3 => false
      | .inr r3 => true)))

theorem t_impl_ValidMesh (m_0 : GMesh) (hp0 : m_0.Places.length ≤ 1073741824) (hp1 : m_0.Triangles.length ≤ 1073741824) (hp2 : ∀ t ∈ m_0.Triangles, t.length ≤ 1073741824)  : Fn Go.Proofs.Try.prog 119 [.agg [.sl (m_0.Places.map GVector.cells), .sl (m_0.Triangles.map (cL (cI .i64)))]] (.b (v_impl_ValidMesh m_0)) [] := by
  cases h0 : (decide ((m_0.Places.length : Int) > 64)) with
  | true =>
    exact Fn.cast (CallSt.fn (callSt_of_evK (E := E0) E0Ok hMixed (c := bodyOf Go.Proofs.Try.f119) (rows := []) (r := .b false) (rows' := [])
      (ans := [.num (m_0.Places.length : Int), .bo true, .bo true, .bo true, .bo true, .bo true, .bo true, .keep []])
      (ps := [])
      (C := [(((m_0.Places.map GVector.cells).length : Nat) : Int) = (m_0.Places.length : Int),
        (decide ((m_0.Places.length : Int) > 64)) = true,
        (decide ((m_0.Places.length : Int) > 64)) = true,
        (decide ((m_0.Places.length : Int) > 64)) = true,
        (decide ((m_0.Places.length : Int) > 64)) = true,
        (decide ((m_0.Places.length : Int) > 64)) = true,
        true = true])
      Go.Proofs.Try.func119 rfl (by kernel_rfl) (by kernel_rfl)
      ⟨len_ok, h0, h0, h0, h0, h0, rfl, trivial⟩) rfl) (by simp only [v_impl_ValidMesh, h0, cond_true]) rfl
  | false =>
    cases h1 : (decide ((m_0.Triangles.length : Int) > 128)) with
    | true =>
      exact Fn.cast (CallSt.fn (callSt_of_evK (E := E0) E0Ok hMixed (c := bodyOf Go.Proofs.Try.f119) (rows := []) (r := .b false) (rows' := [])
        (ans := [.num (m_0.Places.length : Int), .bo false, .bo false, .bo false, .num (m_0.Triangles.length : Int), .bo false, .bo false, .bo true, .keep []])
        (ps := [])
        (C := [(((m_0.Places.map GVector.cells).length : Nat) : Int) = (m_0.Places.length : Int),
          (decide ((m_0.Places.length : Int) > 64)) = false,
          (decide ((m_0.Places.length : Int) > 64)) = false,
          (decide ((m_0.Places.length : Int) > 64)) = false,
          (((m_0.Triangles.map (cL (cI .i64))).length : Nat) : Int) = (m_0.Triangles.length : Int),
          (decide ((m_0.Places.length : Int) > 64)) = false,
          (decide ((m_0.Places.length : Int) > 64)) = false,
          (decide ((m_0.Triangles.length : Int) > 128)) = true])
        Go.Proofs.Try.func119 rfl (by kernel_rfl) (by kernel_rfl)
        ⟨len_ok, h0, h0, h0, len_ok, h0, h0, h1, trivial⟩) rfl) (by simp only [v_impl_ValidMesh, h0, h1, cond_true, cond_false]) rfl
    | false =>
      cases h2 : (lr_impl_ValidMesh_1_1 m_0) with
      | inl r3 =>
        exact Fn.cast (CallSt.fn (callSt_of_evK (E := E0) E0Ok hMixed (c := bodyOf Go.Proofs.Try.f119) (rows := []) (r := .b false) (rows' := [])
          (ans := [.num (m_0.Places.length : Int), .bo false, .bo false, .bo false, .num (m_0.Triangles.length : Int), .bo false, .bo false, .bo false, .num (m_0.Triangles.length : Int), .loop [true, true, false, true, false, false, false, false, true, true, true, true, true, true, true, true, true, true, true, true, true, true, true, false, false, false, false, false, false, false, false, false, false, false, false, false, false, false, false, false, false, false, false, false, false, false, false, false, false, false, false, false, false, false, false, false, false, false, false, false, false, false, false, false, false, false, false, false, false] 1 .ret ⟨[.any, .any, .b false, .any, .any, .any, .any, .any, .any, .any, .any, .any, .any, .any, .any, .any, .any, .any, .any, .any, .any, .any, .any, .any, .any, .any, .any, .any, .any, .any, .any, .any, .any, .any, .any, .any, .any, .any, .any, .any, .any, .any, .any, .any, .any, .any, .any, .any, .any, .any, .any, .any, .any, .any, .any, .any, .any, .any, .any, .any, .any, .any, .any, .any, .any, .any, .any, .any, .any], []⟩, .keep []])
          (ps := [])
          (C := [(((m_0.Places.map GVector.cells).length : Nat) : Int) = (m_0.Places.length : Int),
            (decide ((m_0.Places.length : Int) > 64)) = false,
            (decide ((m_0.Places.length : Int) > 64)) = false,
            (decide ((m_0.Places.length : Int) > 64)) = false,
            (((m_0.Triangles.map (cL (cI .i64))).length : Nat) : Int) = (m_0.Triangles.length : Int),
            (decide ((m_0.Places.length : Int) > 64)) = false,
            (decide ((m_0.Places.length : Int) > 64)) = false,
            (decide ((m_0.Triangles.length : Int) > 128)) = false,
            (((m_0.Triangles.map (cL (cI .i64))).length : Nat) : Int) = (m_0.Triangles.length : Int),
            Lp Go.Proofs.Try.prog 0 (sub (bodyOf Go.Proofs.Try.f119) [1, 1, 1, 0, 1, 0, 0]) ⟨[.agg [.sl (m_0.Places.map GVector.cells), .sl (m_0.Triangles.map (cL (cI .i64)))], .ptr 0 0 0, .any, .i .i64 (m_0.Places.length : Int), .any, .any, .any, .any, .ptr 0 0 0, .sl (m_0.Places.map GVector.cells), .i .i64 (m_0.Places.length : Int), .i .i64 (m_0.Places.length : Int), .b (decide ((m_0.Places.length : Int) > 64)), .b (decide ((m_0.Places.length : Int) > 64)), .ptr 0 0 1, .sl (m_0.Triangles.map (cL (cI .i64))), .i .i64 (m_0.Triangles.length : Int), .b (decide ((m_0.Triangles.length : Int) > 128)), .b (decide ((m_0.Triangles.length : Int) > 128)), .ptr 0 0 1, .sl (m_0.Triangles.map (cL (cI .i64))), .i .i64 (m_0.Triangles.length : Int), .i .i64 0, .any, .any, .any, .any, .any, .any, .any, .any, .any, .any, .any, .any, .any, .any, .any, .any, .any, .any, .any, .any, .any, .any, .any, .any, .any, .any, .any, .any, .any, .any, .any, .any, .any, .any, .any, .any, .any, .any, .any, .any, .any, .any, .any, .any, .any, .any], [.box 34 [.sl (m_0.Places.map GVector.cells), .sl (m_0.Triangles.map (cL (cI .i64)))]]⟩ .ret ⟨[.any, .any, .b false, .any, .any, .any, .any, .any, .any, .any, .any, .any, .any, .any, .any, .any, .any, .any, .any, .any, .any, .any, .any, .any, .any, .any, .any, .any, .any, .any, .any, .any, .any, .any, .any, .any, .any, .any, .any, .any, .any, .any, .any, .any, .any, .any, .any, .any, .any, .any, .any, .any, .any, .any, .any, .any, .any, .any, .any, .any, .any, .any, .any, .any, .any, .any, .any, .any, .any], []⟩])
          Go.Proofs.Try.func119 rfl (by kernel_rfl) (by kernel_rfl)
          ⟨len_ok, h0, h0, h0, len_ok, h0, h0, h1, len_ok, (by have q := (lp_impl_ValidMesh_1 m_0 hp0 hp1 hp2 h0 h1 (((m_0.Triangles.length : Int) - 0).toNat + 1) 0 (show 0 ≤ 0 from (by first | assumption | omega | (simp at * <;> omega) | (simp_all <;> omega))) (Nat.lt_succ_self _)); rw [show (lo_impl_ValidMesh_1 m_0 (((m_0.Triangles.length : Int) - 0).toNat + 1) 0) = _ from rfl] at q; rw [show (lo_impl_ValidMesh_1 m_0 (((m_0.Triangles.length : Int) - 0).toNat + 1) 0) = (lr_impl_ValidMesh_1_1 m_0) from rfl, h2] at q; exact q), trivial⟩) rfl) (by simp only [v_impl_ValidMesh, h0, h1, h2, cond_false]) rfl
      | inr r3 =>
        exact Fn.cast (CallSt.fn (callSt_of_evK (E := E0) E0Ok hMixed (c := bodyOf Go.Proofs.Try.f119) (rows := []) (r := .b true) (rows' := [])
          (ans := [.num (m_0.Places.length : Int), .bo false, .bo false, .bo false, .num (m_0.Triangles.length : Int), .bo false, .bo false, .bo false, .num (m_0.Triangles.length : Int), .loop [true, true, false, true, false, false, false, false, true, true, true, true, true, true, true, true, true, true, true, true, true, true, true, false, false, false, false, false, false, false, false, false, false, false, false, false, false, false, false, false, false, false, false, false, false, false, false, false, false, false, false, false, false, false, false, false, false, false, false, false, false, false, false, false, false, false, false, false, false] 1 (.exit 0) ⟨[.agg [.sl (m_0.Places.map GVector.cells), .sl (m_0.Triangles.map (cL (cI .i64)))], .ptr 0 0 0, .any, .i .i64 (m_0.Places.length : Int), .any, .any, .any, .any, .ptr 0 0 0, .sl (m_0.Places.map GVector.cells), .i .i64 (m_0.Places.length : Int), .i .i64 (m_0.Places.length : Int), .b (decide ((m_0.Places.length : Int) > 64)), .b (decide ((m_0.Places.length : Int) > 64)), .ptr 0 0 1, .sl (m_0.Triangles.map (cL (cI .i64))), .i .i64 (m_0.Triangles.length : Int), .b (decide ((m_0.Triangles.length : Int) > 128)), .b (decide ((m_0.Triangles.length : Int) > 128)), .ptr 0 0 1, .sl (m_0.Triangles.map (cL (cI .i64))), .any, .any, .any, .any, .any, .any, .any, .any, .any, .any, .any, .any, .any, .any, .any, .any, .any, .any, .any, .any, .any, .any, .any, .any, .any, .any, .any, .any, .any, .any, .any, .any, .any, .any, .any, .any, .any, .any, .any, .any, .any, .any, .any, .any, .any, .any, .any, .any], [.box 34 [.sl (m_0.Places.map GVector.cells), .sl (m_0.Triangles.map (cL (cI .i64)))]]⟩, .keep []])
          (ps := [])
          (C := [(((m_0.Places.map GVector.cells).length : Nat) : Int) = (m_0.Places.length : Int),
            (decide ((m_0.Places.length : Int) > 64)) = false,
            (decide ((m_0.Places.length : Int) > 64)) = false,
            (decide ((m_0.Places.length : Int) > 64)) = false,
            (((m_0.Triangles.map (cL (cI .i64))).length : Nat) : Int) = (m_0.Triangles.length : Int),
            (decide ((m_0.Places.length : Int) > 64)) = false,
            (decide ((m_0.Places.length : Int) > 64)) = false,
            (decide ((m_0.Triangles.length : Int) > 128)) = false,
            (((m_0.Triangles.map (cL (cI .i64))).length : Nat) : Int) = (m_0.Triangles.length : Int),
            Lp Go.Proofs.Try.prog 0 (sub (bodyOf Go.Proofs.Try.f119) [1, 1, 1, 0, 1, 0, 0]) ⟨[.agg [.sl (m_0.Places.map GVector.cells), .sl (m_0.Triangles.map (cL (cI .i64)))], .ptr 0 0 0, .any, .i .i64 (m_0.Places.length : Int), .any, .any, .any, .any, .ptr 0 0 0, .sl (m_0.Places.map GVector.cells), .i .i64 (m_0.Places.length : Int), .i .i64 (m_0.Places.length : Int), .b (decide ((m_0.Places.length : Int) > 64)), .b (decide ((m_0.Places.length : Int) > 64)), .ptr 0 0 1, .sl (m_0.Triangles.map (cL (cI .i64))), .i .i64 (m_0.Triangles.length : Int), .b (decide ((m_0.Triangles.length : Int) > 128)), .b (decide ((m_0.Triangles.length : Int) > 128)), .ptr 0 0 1, .sl (m_0.Triangles.map (cL (cI .i64))), .i .i64 (m_0.Triangles.length : Int), .i .i64 0, .any, .any, .any, .any, .any, .any, .any, .any, .any, .any, .any, .any, .any, .any, .any, .any, .any, .any, .any, .any, .any, .any, .any, .any, .any, .any, .any, .any, .any, .any, .any, .any, .any, .any, .any, .any, .any, .any, .any, .any, .any, .any, .any, .any, .any, .any], [.box 34 [.sl (m_0.Places.map GVector.cells), .sl (m_0.Triangles.map (cL (cI .i64)))]]⟩ (.exit 0) ⟨[.agg [.sl (m_0.Places.map GVector.cells), .sl (m_0.Triangles.map (cL (cI .i64)))], .ptr 0 0 0, .any, .i .i64 (m_0.Places.length : Int), .any, .any, .any, .any, .ptr 0 0 0, .sl (m_0.Places.map GVector.cells), .i .i64 (m_0.Places.length : Int), .i .i64 (m_0.Places.length : Int), .b (decide ((m_0.Places.length : Int) > 64)), .b (decide ((m_0.Places.length : Int) > 64)), .ptr 0 0 1, .sl (m_0.Triangles.map (cL (cI .i64))), .i .i64 (m_0.Triangles.length : Int), .b (decide ((m_0.Triangles.length : Int) > 128)), .b (decide ((m_0.Triangles.length : Int) > 128)), .ptr 0 0 1, .sl (m_0.Triangles.map (cL (cI .i64))), .any, .any, .any, .any, .any, .any, .any, .any, .any, .any, .any, .any, .any, .any, .any, .any, .any, .any, .any, .any, .any, .any, .any, .any, .any, .any, .any, .any, .any, .any, .any, .any, .any, .any, .any, .any, .any, .any, .any, .any, .any, .any, .any, .any, .any, .any, .any, .any], [.box 34 [.sl (m_0.Places.map GVector.cells), .sl (m_0.Triangles.map (cL (cI .i64)))]]⟩])
          Go.Proofs.Try.func119 rfl (by kernel_rfl) (by kernel_rfl)
          ⟨len_ok, h0, h0, h0, len_ok, h0, h0, h1, len_ok, (by have q := (lp_impl_ValidMesh_1 m_0 hp0 hp1 hp2 h0 h1 (((m_0.Triangles.length : Int) - 0).toNat + 1) 0 (show 0 ≤ 0 from (by first | assumption | omega | (simp at * <;> omega) | (simp_all <;> omega))) (Nat.lt_succ_self _)); rw [show (lo_impl_ValidMesh_1 m_0 (((m_0.Triangles.length : Int) - 0).toNat + 1) 0) = _ from rfl] at q; rw [show (lo_impl_ValidMesh_1 m_0 (((m_0.Triangles.length : Int) - 0).toNat + 1) 0) = (lr_impl_ValidMesh_1_1 m_0) from rfl, h2] at q; exact q), trivial⟩) rfl) (by simp only [v_impl_ValidMesh, h0, h1, h2, cond_false]) rfl

theorem triB (t : List Int) (n : Int) : (!((t.length : Int) != 3) && (!(t.getD 0 default == t.getD 1 default) && (!(t.getD 1 default == t.getD 2 default) && (!(t.getD 0 default == t.getD 2 default) && t.all fun x => v_impl_within x 0 (IntKind.wrap .i64 (n - 1)))))) = v_spec_l02Triangle t n := by
  unfold v_spec_l02Triangle
  cases hl : ((t.length : Int) != 3) with
  | true => rfl
  | false =>
    have hl3 : t.length = 3 := by simp at hl; omega
    match t, hl3 with
    | [a, b, c], _ =>
      simp only [List.getD_cons_zero, List.getD_cons_succ, List.all_cons, List.all_nil, Bool.and_true]
      rw [show v_impl_within = v_spec_l00In from rfl]
      cases (a == b) <;> cases (b == c) <;> cases (a == c) <;> cases v_spec_l00In a 0 (IntKind.wrap .i64 (n - 1)) <;> cases v_spec_l00In b 0 (IntKind.wrap .i64 (n - 1)) <;> cases v_spec_l00In c 0 (IntKind.wrap .i64 (n - 1)) <;> rfl
theorem lo_ValidMesh (m : GMesh) (k : Nat) (i : Int) : lo_impl_ValidMesh_1 m (k + 1) i = cond (decide (i < (m.Triangles.length : Int))) (cond (v_spec_l02Triangle (m.Triangles.getD i.toNat default) (m.Places.length : Int)) (lo_impl_ValidMesh_1 m k (i + 1)) (.inl ())) (.inr ()) := by
  rw [lo_impl_ValidMesh_1, ← triB]
  have hin : lr_impl_ValidMesh_2_0 m i = cond ((m.Triangles.getD i.toNat default).all fun x => v_impl_within x 0 (IntKind.wrap .i64 ((m.Places.length : Int) - 1))) (.inr ()) (.inl ()) := by
    unfold lr_impl_ValidMesh_2_0
    exact all_from (a := m.Triangles.getD i.toNat default) (p := fun x => v_impl_within x 0 (IntKind.wrap .i64 ((m.Places.length : Int) - 1))) (lo := lo_impl_ValidMesh_2 m i) (x := ()) (y := ()) (fun k i => rfl)
  rw [hin]
  generalize m.Triangles.getD i.toNat default = t
  generalize (t.all fun x => v_impl_within x 0 (IntKind.wrap .i64 ((m.Places.length : Int) - 1))) = q
  cases ((t.length : Int) != 3) <;> cases (t.getD 0 default == t.getD 1 default) <;> cases (t.getD 1 default == t.getD 2 default) <;> cases (t.getD 0 default == t.getD 2 default) <;> cases q <;> rfl
theorem eq_ValidMesh (m : GMesh) : v_impl_ValidMesh m = v_spec_l02Is m := by
  rw [l02Is_eq]
  unfold v_impl_ValidMesh lr_impl_ValidMesh_1_1
  rw [all_from (a := m.Triangles) (p := fun t => v_spec_l02Triangle t (m.Places.length : Int)) (lo := lo_impl_ValidMesh_1 m) (x := ()) (y := ()) (lo_ValidMesh m)]
  cases (m.Triangles.all fun t => v_spec_l02Triangle t (m.Places.length : Int)) <;> rfl

/-- impl.IsFinite -/
def v_impl_IsFinite (x_0 : Nat) : Bool := (fcmp .eql .f32 (fop .sub .f32 x_0 x_0) 0)

theorem t_impl_IsFinite (x_0 : Nat)   : Fn Go.Proofs.Try.prog 99 [.f .f32 x_0] (.b (v_impl_IsFinite x_0)) [] := by
  exact Fn.cast (CallSt.fn (callSt_of_evK (E := E0) E0Ok hMixed (c := bodyOf Go.Proofs.Try.f99) (rows := []) (r := .b (fcmp .eql .f32 (fop .sub .f32 x_0 x_0) 0)) (rows' := [])
    (ans := [.keep []])
    (ps := [])
    (C := [])
    Go.Proofs.Try.func99 rfl (by kernel_rfl) (by kernel_rfl)
    trivial) rfl) rfl rfl

/-- impl.isFiniteVector -/
def v_impl_isFiniteVector (v_0 : GVector) : Bool := (cond (v_impl_IsFinite v_0.X)
  (cond (v_impl_IsFinite v_0.Y)
    (v_impl_IsFinite v_0.Z)
    false)
  false)

theorem t_impl_isFiniteVector (v_0 : GVector)   : Fn Go.Proofs.Try.prog 149 [.agg [.f .f32 v_0.X, .f .f32 v_0.Y, .f .f32 v_0.Z]] (.b (v_impl_isFiniteVector v_0)) [] := by
  cases h0 : (v_impl_IsFinite v_0.X) with
  | true =>
    cases h1 : (v_impl_IsFinite v_0.Y) with
    | true =>
      exact Fn.cast (CallSt.fn (callSt_of_evK (E := E0) E0Ok hMixed (c := bodyOf Go.Proofs.Try.f149) (rows := []) (r := .b (v_impl_IsFinite v_0.Z)) (rows' := [])
        (ans := [.call (.b (v_impl_IsFinite v_0.X)) [], .bo true, .bo true, .bo true, .call (.b (v_impl_IsFinite v_0.Y)) [], .bo true, .bo true, .bo true, .bo true, .call (.b (v_impl_IsFinite v_0.Z)) [], .bo true, .keep []])
        (ps := [])
        (C := [Fn Go.Proofs.Try.prog 99 [.f .f32 v_0.X] (.b (v_impl_IsFinite v_0.X)) [],
          (v_impl_IsFinite v_0.X) = true,
          (v_impl_IsFinite v_0.X) = true,
          (v_impl_IsFinite v_0.X) = true,
          Fn Go.Proofs.Try.prog 99 [.f .f32 v_0.Y] (.b (v_impl_IsFinite v_0.Y)) [],
          (v_impl_IsFinite v_0.X) = true,
          (v_impl_IsFinite v_0.Y) = true,
          (v_impl_IsFinite v_0.Y) = true,
          (v_impl_IsFinite v_0.Y) = true,
          Fn Go.Proofs.Try.prog 99 [.f .f32 v_0.Z] (.b (v_impl_IsFinite v_0.Z)) [],
          (v_impl_IsFinite v_0.Y) = true])
        Go.Proofs.Try.func149 rfl (by kernel_rfl) (by kernel_rfl)
        ⟨(t_impl_IsFinite v_0.X), h0, h0, h0, (t_impl_IsFinite v_0.Y), h0, h1, h1, h1, (t_impl_IsFinite v_0.Z), h1, trivial⟩) rfl) (by simp only [v_impl_isFiniteVector, h0, h1, cond_true]) rfl
    | false =>
      exact Fn.cast (CallSt.fn (callSt_of_evK (E := E0) E0Ok hMixed (c := bodyOf Go.Proofs.Try.f149) (rows := []) (r := .b false) (rows' := [])
        (ans := [.call (.b (v_impl_IsFinite v_0.X)) [], .bo true, .bo true, .bo true, .call (.b (v_impl_IsFinite v_0.Y)) [], .bo true, .bo false, .bo false, .bo false, .bo false, .keep []])
        (ps := [])
        (C := [Fn Go.Proofs.Try.prog 99 [.f .f32 v_0.X] (.b (v_impl_IsFinite v_0.X)) [],
          (v_impl_IsFinite v_0.X) = true,
          (v_impl_IsFinite v_0.X) = true,
          (v_impl_IsFinite v_0.X) = true,
          Fn Go.Proofs.Try.prog 99 [.f .f32 v_0.Y] (.b (v_impl_IsFinite v_0.Y)) [],
          (v_impl_IsFinite v_0.X) = true,
          (v_impl_IsFinite v_0.Y) = false,
          (v_impl_IsFinite v_0.Y) = false,
          (v_impl_IsFinite v_0.Y) = false,
          (v_impl_IsFinite v_0.Y) = false])
        Go.Proofs.Try.func149 rfl (by kernel_rfl) (by kernel_rfl)
        ⟨(t_impl_IsFinite v_0.X), h0, h0, h0, (t_impl_IsFinite v_0.Y), h0, h1, h1, h1, h1, trivial⟩) rfl) (by simp only [v_impl_isFiniteVector, h0, h1, cond_true, cond_false]) rfl
  | false =>
    exact Fn.cast (CallSt.fn (callSt_of_evK (E := E0) E0Ok hMixed (c := bodyOf Go.Proofs.Try.f149) (rows := []) (r := .b false) (rows' := [])
      (ans := [.call (.b (v_impl_IsFinite v_0.X)) [], .bo false, .bo false, .bo false, .bo false, .bo false, .bo false, .bo false, .bo false, .keep []])
      (ps := [])
      (C := [Fn Go.Proofs.Try.prog 99 [.f .f32 v_0.X] (.b (v_impl_IsFinite v_0.X)) [],
        (v_impl_IsFinite v_0.X) = false,
        (v_impl_IsFinite v_0.X) = false,
        (v_impl_IsFinite v_0.X) = false,
        (v_impl_IsFinite v_0.X) = false,
        false = false,
        false = false,
        false = false,
        false = false])
      Go.Proofs.Try.func149 rfl (by kernel_rfl) (by kernel_rfl)
      ⟨(t_impl_IsFinite v_0.X), h0, h0, h0, h0, rfl, rfl, rfl, rfl, trivial⟩) rfl) (by simp only [v_impl_isFiniteVector, h0, cond_false]) rfl

/-- impl.InnerOf -/
def v_impl_InnerOf (a_0 : GVector) (b_1 : GVector) : Nat := (fop .add .f32 (fop .add .f32 (fop .mul .f32 a_0.X b_1.X) (fop .mul .f32 a_0.Y b_1.Y)) (fop .mul .f32 a_0.Z b_1.Z))

theorem t_impl_InnerOf (a_0 : GVector) (b_1 : GVector)   : Fn Go.Proofs.Try.prog 123 [.agg [.f .f32 a_0.X, .f .f32 a_0.Y, .f .f32 a_0.Z], .agg [.f .f32 b_1.X, .f .f32 b_1.Y, .f .f32 b_1.Z]] (.f .f32 (v_impl_InnerOf a_0 b_1)) [] := by
  exact Fn.cast (CallSt.fn (callSt_of_evK (E := E0) E0Ok hMixed (c := bodyOf Go.Proofs.Try.f123) (rows := []) (r := .f .f32 (fop .add .f32 (fop .add .f32 (fop .mul .f32 a_0.X b_1.X) (fop .mul .f32 a_0.Y b_1.Y)) (fop .mul .f32 a_0.Z b_1.Z))) (rows' := [])
    (ans := [.keep []])
    (ps := [])
    (C := [])
    Go.Proofs.Try.func123 rfl (by kernel_rfl) (by kernel_rfl)
    trivial) rfl) rfl rfl

/-- impl.isOver -/
def v_impl_isOver (x_0 : Nat) : Bool := (cond (v_impl_IsFinite x_0)
  (fcmp .gtr .f32 x_0 0)
  false)

theorem t_impl_isOver (x_0 : Nat)   : Fn Go.Proofs.Try.prog 95 [.f .f32 x_0] (.b (v_impl_isOver x_0)) [] := by
  cases h0 : (v_impl_IsFinite x_0) with
  | true =>
    exact Fn.cast (CallSt.fn (callSt_of_evK (E := E0) E0Ok hMixed (c := bodyOf Go.Proofs.Try.f95) (rows := []) (r := .b (fcmp .gtr .f32 x_0 0)) (rows' := [])
      (ans := [.call (.b (v_impl_IsFinite x_0)) [], .bo true, .bo true, .bo true, .keep []])
      (ps := [])
      (C := [Fn Go.Proofs.Try.prog 99 [.f .f32 x_0] (.b (v_impl_IsFinite x_0)) [],
        (v_impl_IsFinite x_0) = true,
        (v_impl_IsFinite x_0) = true,
        (v_impl_IsFinite x_0) = true])
      Go.Proofs.Try.func95 rfl (by kernel_rfl) (by kernel_rfl)
      ⟨(t_impl_IsFinite x_0), h0, h0, h0, trivial⟩) rfl) (by simp only [v_impl_isOver, h0, cond_true]) rfl
  | false =>
    exact Fn.cast (CallSt.fn (callSt_of_evK (E := E0) E0Ok hMixed (c := bodyOf Go.Proofs.Try.f95) (rows := []) (r := .b false) (rows' := [])
      (ans := [.call (.b (v_impl_IsFinite x_0)) [], .bo false, .bo false, .bo false, .keep []])
      (ps := [])
      (C := [Fn Go.Proofs.Try.prog 99 [.f .f32 x_0] (.b (v_impl_IsFinite x_0)) [],
        (v_impl_IsFinite x_0) = false,
        (v_impl_IsFinite x_0) = false,
        (v_impl_IsFinite x_0) = false])
      Go.Proofs.Try.func95 rfl (by kernel_rfl) (by kernel_rfl)
      ⟨(t_impl_IsFinite x_0), h0, h0, h0, trivial⟩) rfl) (by simp only [v_impl_isOver, h0, cond_false]) rfl

/-- impl.IsHold -/
def v_impl_IsHold (h_0 : GHold) : Bool := (cond (decide (h_0.Place < 0))
  false
  (cond (v_impl_within h_0.Kind 0 2)
    (cond (v_impl_isFiniteVector h_0.At)
      (cond (v_impl_isFiniteVector h_0.Way)
        (cond (h_0.Kind == 0)
          true
          (v_impl_isOver (v_impl_InnerOf h_0.Way h_0.Way)))
        false)
      false)
    false))

theorem t_impl_IsHold (h_0 : GHold)   : Fn Go.Proofs.Try.prog 120 [.agg [.i .i64 h_0.Place, .i .i64 h_0.Kind, .f .f32 h_0.At.X, .f .f32 h_0.At.Y, .f .f32 h_0.At.Z, .f .f32 h_0.Way.X, .f .f32 h_0.Way.Y, .f .f32 h_0.Way.Z]] (.b (v_impl_IsHold h_0)) [] := by
  cases h0 : (decide (h_0.Place < 0)) with
  | true =>
    exact Fn.cast (CallSt.fn (callSt_of_evK (E := E0) E0Ok hMixed (c := bodyOf Go.Proofs.Try.f120) (rows := []) (r := .b false) (rows' := [])
      (ans := [.bo true, .bo true, .bo true, .bo true, .bo true, .bo true, .bo true, .bo true, .bo true, .bo true, .bo true, .bo true, .bo true, .bo true, .bo true, .bo true, .keep []])
      (ps := [])
      (C := [(decide (h_0.Place < 0)) = true,
        (decide (h_0.Place < 0)) = true,
        (decide (h_0.Place < 0)) = true,
        (decide (h_0.Place < 0)) = true,
        (decide (h_0.Place < 0)) = true,
        true = true,
        true = true,
        true = true,
        true = true,
        true = true,
        true = true,
        true = true,
        true = true,
        true = true,
        true = true,
        true = true])
      Go.Proofs.Try.func120 rfl (by kernel_rfl) (by kernel_rfl)
      ⟨h0, h0, h0, h0, h0, rfl, rfl, rfl, rfl, rfl, rfl, rfl, rfl, rfl, rfl, rfl, trivial⟩) rfl) (by simp only [v_impl_IsHold, h0, cond_true]) rfl
  | false =>
    cases h1 : (v_impl_within h_0.Kind 0 2) with
    | true =>
      cases h2 : (v_impl_isFiniteVector h_0.At) with
      | true =>
        cases h3 : (v_impl_isFiniteVector h_0.Way) with
        | true =>
          cases h4 : (h_0.Kind == 0) with
          | true =>
            exact Fn.cast (CallSt.fn (callSt_of_evK (E := E0) E0Ok hMixed (c := bodyOf Go.Proofs.Try.f120) (rows := []) (r := .b true) (rows' := [])
              (ans := [.bo false, .bo false, .bo false, .call (.b (v_impl_within h_0.Kind 0 2)) [], .bo false, .bo false, .bo false, .bo false, .bo false, .call (.b (v_impl_isFiniteVector h_0.At)) [], .bo false, .bo false, .bo false, .bo false, .bo false, .call (.b (v_impl_isFiniteVector h_0.Way)) [], .bo false, .bo false, .bo false, .bo true, .bo true, .bo true, .bo true, .bo true, .bo true, .bo true, .keep []])
              (ps := [])
              (C := [(decide (h_0.Place < 0)) = false,
                (decide (h_0.Place < 0)) = false,
                (decide (h_0.Place < 0)) = false,
                Fn Go.Proofs.Try.prog 121 [.i .i64 h_0.Kind, .i .i64 0, .i .i64 2] (.b (v_impl_within h_0.Kind 0 2)) [],
                (decide (h_0.Place < 0)) = false,
                (decide (h_0.Place < 0)) = false,
                (!(v_impl_within h_0.Kind 0 2)) = false,
                (!(v_impl_within h_0.Kind 0 2)) = false,
                (!(v_impl_within h_0.Kind 0 2)) = false,
                Fn Go.Proofs.Try.prog 149 [.agg [.f .f32 h_0.At.X, .f .f32 h_0.At.Y, .f .f32 h_0.At.Z]] (.b (v_impl_isFiniteVector h_0.At)) [],
                (!(v_impl_within h_0.Kind 0 2)) = false,
                (!(v_impl_within h_0.Kind 0 2)) = false,
                (!(v_impl_isFiniteVector h_0.At)) = false,
                (!(v_impl_isFiniteVector h_0.At)) = false,
                (!(v_impl_isFiniteVector h_0.At)) = false,
                Fn Go.Proofs.Try.prog 149 [.agg [.f .f32 h_0.Way.X, .f .f32 h_0.Way.Y, .f .f32 h_0.Way.Z]] (.b (v_impl_isFiniteVector h_0.Way)) [],
                (!(v_impl_isFiniteVector h_0.At)) = false,
                (!(v_impl_isFiniteVector h_0.At)) = false,
                (!(v_impl_isFiniteVector h_0.Way)) = false,
                (h_0.Kind == 0) = true,
                (h_0.Kind == 0) = true,
                (h_0.Kind == 0) = true,
                (h_0.Kind == 0) = true,
                (h_0.Kind == 0) = true,
                (h_0.Kind == 0) = true,
                (h_0.Kind == 0) = true])
              Go.Proofs.Try.func120 rfl (by kernel_rfl) (by kernel_rfl)
              ⟨h0, h0, h0, (t_impl_within h_0.Kind 0 2), h0, h0, (congrArg not h1), (congrArg not h1), (congrArg not h1), (t_impl_isFiniteVector h_0.At), (congrArg not h1), (congrArg not h1), (congrArg not h2), (congrArg not h2), (congrArg not h2), (t_impl_isFiniteVector h_0.Way), (congrArg not h2), (congrArg not h2), (congrArg not h3), h4, h4, h4, h4, h4, h4, h4, trivial⟩) rfl) (by simp only [v_impl_IsHold, h0, h1, h2, h3, h4, cond_true, cond_false]) rfl
          | false =>
            exact Fn.cast (CallSt.fn (callSt_of_evK (E := E0) E0Ok hMixed (c := bodyOf Go.Proofs.Try.f120) (rows := []) (r := .b (v_impl_isOver (v_impl_InnerOf h_0.Way h_0.Way))) (rows' := [])
              (ans := [.bo false, .bo false, .bo false, .call (.b (v_impl_within h_0.Kind 0 2)) [], .bo false, .bo false, .bo false, .bo false, .bo false, .call (.b (v_impl_isFiniteVector h_0.At)) [], .bo false, .bo false, .bo false, .bo false, .bo false, .call (.b (v_impl_isFiniteVector h_0.Way)) [], .bo false, .bo false, .bo false, .bo false, .bo false, .bo false, .bo false, .bo false, .call (.f .f32 (v_impl_InnerOf h_0.Way h_0.Way)) [], .bo false, .call (.b (v_impl_isOver (v_impl_InnerOf h_0.Way h_0.Way))) [], .bo false, .keep []])
              (ps := [])
              (C := [(decide (h_0.Place < 0)) = false,
                (decide (h_0.Place < 0)) = false,
                (decide (h_0.Place < 0)) = false,
                Fn Go.Proofs.Try.prog 121 [.i .i64 h_0.Kind, .i .i64 0, .i .i64 2] (.b (v_impl_within h_0.Kind 0 2)) [],
                (decide (h_0.Place < 0)) = false,
                (decide (h_0.Place < 0)) = false,
                (!(v_impl_within h_0.Kind 0 2)) = false,
                (!(v_impl_within h_0.Kind 0 2)) = false,
                (!(v_impl_within h_0.Kind 0 2)) = false,
                Fn Go.Proofs.Try.prog 149 [.agg [.f .f32 h_0.At.X, .f .f32 h_0.At.Y, .f .f32 h_0.At.Z]] (.b (v_impl_isFiniteVector h_0.At)) [],
                (!(v_impl_within h_0.Kind 0 2)) = false,
                (!(v_impl_within h_0.Kind 0 2)) = false,
                (!(v_impl_isFiniteVector h_0.At)) = false,
                (!(v_impl_isFiniteVector h_0.At)) = false,
                (!(v_impl_isFiniteVector h_0.At)) = false,
                Fn Go.Proofs.Try.prog 149 [.agg [.f .f32 h_0.Way.X, .f .f32 h_0.Way.Y, .f .f32 h_0.Way.Z]] (.b (v_impl_isFiniteVector h_0.Way)) [],
                (!(v_impl_isFiniteVector h_0.At)) = false,
                (!(v_impl_isFiniteVector h_0.At)) = false,
                (!(v_impl_isFiniteVector h_0.Way)) = false,
                (h_0.Kind == 0) = false,
                (h_0.Kind == 0) = false,
                (h_0.Kind == 0) = false,
                (h_0.Kind == 0) = false,
                (h_0.Kind == 0) = false,
                Fn Go.Proofs.Try.prog 123 [.agg [.f .f32 h_0.Way.X, .f .f32 h_0.Way.Y, .f .f32 h_0.Way.Z], .agg [.f .f32 h_0.Way.X, .f .f32 h_0.Way.Y, .f .f32 h_0.Way.Z]] (.f .f32 (v_impl_InnerOf h_0.Way h_0.Way)) [],
                (h_0.Kind == 0) = false,
                Fn Go.Proofs.Try.prog 95 [.f .f32 (v_impl_InnerOf h_0.Way h_0.Way)] (.b (v_impl_isOver (v_impl_InnerOf h_0.Way h_0.Way))) [],
                (h_0.Kind == 0) = false])
              Go.Proofs.Try.func120 rfl (by kernel_rfl) (by kernel_rfl)
              ⟨h0, h0, h0, (t_impl_within h_0.Kind 0 2), h0, h0, (congrArg not h1), (congrArg not h1), (congrArg not h1), (t_impl_isFiniteVector h_0.At), (congrArg not h1), (congrArg not h1), (congrArg not h2), (congrArg not h2), (congrArg not h2), (t_impl_isFiniteVector h_0.Way), (congrArg not h2), (congrArg not h2), (congrArg not h3), h4, h4, h4, h4, h4, (t_impl_InnerOf h_0.Way h_0.Way), h4, (t_impl_isOver (v_impl_InnerOf h_0.Way h_0.Way)), h4, trivial⟩) rfl) (by simp only [v_impl_IsHold, h0, h1, h2, h3, h4, cond_true, cond_false]) rfl
        | false =>
          exact Fn.cast (CallSt.fn (callSt_of_evK (E := E0) E0Ok hMixed (c := bodyOf Go.Proofs.Try.f120) (rows := []) (r := .b false) (rows' := [])
            (ans := [.bo false, .bo false, .bo false, .call (.b (v_impl_within h_0.Kind 0 2)) [], .bo false, .bo false, .bo false, .bo false, .bo false, .call (.b (v_impl_isFiniteVector h_0.At)) [], .bo false, .bo false, .bo false, .bo false, .bo false, .call (.b (v_impl_isFiniteVector h_0.Way)) [], .bo false, .bo false, .bo true, .keep []])
            (ps := [])
            (C := [(decide (h_0.Place < 0)) = false,
              (decide (h_0.Place < 0)) = false,
              (decide (h_0.Place < 0)) = false,
              Fn Go.Proofs.Try.prog 121 [.i .i64 h_0.Kind, .i .i64 0, .i .i64 2] (.b (v_impl_within h_0.Kind 0 2)) [],
              (decide (h_0.Place < 0)) = false,
              (decide (h_0.Place < 0)) = false,
              (!(v_impl_within h_0.Kind 0 2)) = false,
              (!(v_impl_within h_0.Kind 0 2)) = false,
              (!(v_impl_within h_0.Kind 0 2)) = false,
              Fn Go.Proofs.Try.prog 149 [.agg [.f .f32 h_0.At.X, .f .f32 h_0.At.Y, .f .f32 h_0.At.Z]] (.b (v_impl_isFiniteVector h_0.At)) [],
              (!(v_impl_within h_0.Kind 0 2)) = false,
              (!(v_impl_within h_0.Kind 0 2)) = false,
              (!(v_impl_isFiniteVector h_0.At)) = false,
              (!(v_impl_isFiniteVector h_0.At)) = false,
              (!(v_impl_isFiniteVector h_0.At)) = false,
              Fn Go.Proofs.Try.prog 149 [.agg [.f .f32 h_0.Way.X, .f .f32 h_0.Way.Y, .f .f32 h_0.Way.Z]] (.b (v_impl_isFiniteVector h_0.Way)) [],
              (!(v_impl_isFiniteVector h_0.At)) = false,
              (!(v_impl_isFiniteVector h_0.At)) = false,
              (!(v_impl_isFiniteVector h_0.Way)) = true])
            Go.Proofs.Try.func120 rfl (by kernel_rfl) (by kernel_rfl)
            ⟨h0, h0, h0, (t_impl_within h_0.Kind 0 2), h0, h0, (congrArg not h1), (congrArg not h1), (congrArg not h1), (t_impl_isFiniteVector h_0.At), (congrArg not h1), (congrArg not h1), (congrArg not h2), (congrArg not h2), (congrArg not h2), (t_impl_isFiniteVector h_0.Way), (congrArg not h2), (congrArg not h2), (congrArg not h3), trivial⟩) rfl) (by simp only [v_impl_IsHold, h0, h1, h2, h3, cond_true, cond_false]) rfl
      | false =>
        exact Fn.cast (CallSt.fn (callSt_of_evK (E := E0) E0Ok hMixed (c := bodyOf Go.Proofs.Try.f120) (rows := []) (r := .b false) (rows' := [])
          (ans := [.bo false, .bo false, .bo false, .call (.b (v_impl_within h_0.Kind 0 2)) [], .bo false, .bo false, .bo false, .bo false, .bo false, .call (.b (v_impl_isFiniteVector h_0.At)) [], .bo false, .bo false, .bo true, .bo true, .bo true, .bo true, .bo true, .bo true, .keep []])
          (ps := [])
          (C := [(decide (h_0.Place < 0)) = false,
            (decide (h_0.Place < 0)) = false,
            (decide (h_0.Place < 0)) = false,
            Fn Go.Proofs.Try.prog 121 [.i .i64 h_0.Kind, .i .i64 0, .i .i64 2] (.b (v_impl_within h_0.Kind 0 2)) [],
            (decide (h_0.Place < 0)) = false,
            (decide (h_0.Place < 0)) = false,
            (!(v_impl_within h_0.Kind 0 2)) = false,
            (!(v_impl_within h_0.Kind 0 2)) = false,
            (!(v_impl_within h_0.Kind 0 2)) = false,
            Fn Go.Proofs.Try.prog 149 [.agg [.f .f32 h_0.At.X, .f .f32 h_0.At.Y, .f .f32 h_0.At.Z]] (.b (v_impl_isFiniteVector h_0.At)) [],
            (!(v_impl_within h_0.Kind 0 2)) = false,
            (!(v_impl_within h_0.Kind 0 2)) = false,
            (!(v_impl_isFiniteVector h_0.At)) = true,
            (!(v_impl_isFiniteVector h_0.At)) = true,
            (!(v_impl_isFiniteVector h_0.At)) = true,
            (!(v_impl_isFiniteVector h_0.At)) = true,
            (!(v_impl_isFiniteVector h_0.At)) = true,
            true = true])
          Go.Proofs.Try.func120 rfl (by kernel_rfl) (by kernel_rfl)
          ⟨h0, h0, h0, (t_impl_within h_0.Kind 0 2), h0, h0, (congrArg not h1), (congrArg not h1), (congrArg not h1), (t_impl_isFiniteVector h_0.At), (congrArg not h1), (congrArg not h1), (congrArg not h2), (congrArg not h2), (congrArg not h2), (congrArg not h2), (congrArg not h2), rfl, trivial⟩) rfl) (by simp only [v_impl_IsHold, h0, h1, h2, cond_true, cond_false]) rfl
    | false =>
      exact Fn.cast (CallSt.fn (callSt_of_evK (E := E0) E0Ok hMixed (c := bodyOf Go.Proofs.Try.f120) (rows := []) (r := .b false) (rows' := [])
        (ans := [.bo false, .bo false, .bo false, .call (.b (v_impl_within h_0.Kind 0 2)) [], .bo false, .bo false, .bo true, .bo true, .bo true, .bo true, .bo true, .bo true, .bo true, .bo true, .bo true, .bo true, .bo true, .keep []])
        (ps := [])
        (C := [(decide (h_0.Place < 0)) = false,
          (decide (h_0.Place < 0)) = false,
          (decide (h_0.Place < 0)) = false,
          Fn Go.Proofs.Try.prog 121 [.i .i64 h_0.Kind, .i .i64 0, .i .i64 2] (.b (v_impl_within h_0.Kind 0 2)) [],
          (decide (h_0.Place < 0)) = false,
          (decide (h_0.Place < 0)) = false,
          (!(v_impl_within h_0.Kind 0 2)) = true,
          (!(v_impl_within h_0.Kind 0 2)) = true,
          (!(v_impl_within h_0.Kind 0 2)) = true,
          (!(v_impl_within h_0.Kind 0 2)) = true,
          (!(v_impl_within h_0.Kind 0 2)) = true,
          true = true,
          true = true,
          true = true,
          true = true,
          true = true,
          true = true])
        Go.Proofs.Try.func120 rfl (by kernel_rfl) (by kernel_rfl)
        ⟨h0, h0, h0, (t_impl_within h_0.Kind 0 2), h0, h0, (congrArg not h1), (congrArg not h1), (congrArg not h1), (congrArg not h1), (congrArg not h1), rfl, rfl, rfl, rfl, rfl, rfl, trivial⟩) rfl) (by simp only [v_impl_IsHold, h0, h1, cond_false]) rfl

def lo_impl_AreHolds_1 (m_0 : GMesh) (holds_1 : (List GHold)) : Nat → Int → Int → (Unit) ⊕ (Unit)
  | 0, _, _ => .inl default
  | k + 1, last_l0, x_l1 => (cond (decide (x_l1 < (holds_1.length : Int)))
    (cond (v_impl_IsHold (holds_1.getD x_l1.toNat default))
      (cond (v_impl_within ((holds_1.getD x_l1.toNat default).Place) (IntKind.wrap .i64 (last_l0 + 1)) (IntKind.wrap .i64 ((m_0.Places.length : Int) - 1)))
        (lo_impl_AreHolds_1 m_0 holds_1 k ((holds_1.getD x_l1.toNat default).Place) (x_l1 + 1))
        (.inl ()))
      (.inl ()))
    (.inr ()))

def ls_impl_AreHolds_1 (m_0 : GMesh) (holds_1 : (List GHold)) : (Unit) ⊕ (Unit) → Ex × St
  | .inl r => (.ret, ⟨[.any, .any, .any, .any, .b false, .any, .any, .any, .any, .any, .any, .any, .any, .any, .any, .any, .any, .any, .any, .any, .any, .any, .any, .any, .any, .any, .any, .any, .any, .any, .any, .any, .any, .any, .any], []⟩)
  | .inr r => ((.exit 0), ⟨[.agg [.sl (m_0.Places.map GVector.cells), .sl (m_0.Triangles.map (cL (cI .i64)))], .sl (holds_1.map GHold.cells), .ptr 0 0 0, .any, .any, .any, .any, .any, .agg [.sl (m_0.Places.map GVector.cells), .sl (m_0.Triangles.map (cL (cI .i64)))], .b (v_impl_ValidMesh m_0), .b (!(v_impl_ValidMesh m_0)), .sl (holds_1.map GHold.cells), .any, .any, .any, .any, .any, .any, .any, .any, .any, .any, .any, .any, .any, .any, .any, .any, .any, .any, .any, .any, .any, .any, .any], [.box 34 [.sl (m_0.Places.map GVector.cells), .sl (m_0.Triangles.map (cL (cI .i64)))]]⟩)

theorem lp_impl_AreHolds_1 (m_0 : GMesh) (holds_1 : (List GHold)) (hp0 : m_0.Places.length ≤ 1073741824) (hp1 : m_0.Triangles.length ≤ 1073741824) (hp2 : ∀ t ∈ m_0.Triangles, t.length ≤ 1073741824) (hp3 : holds_1.length ≤ 1073741824) (hf_impl_AreHolds_1_0 : (v_impl_ValidMesh m_0) = true) : ∀ (k : Nat) (last_l0 : Int) (x_l1 : Int) (hv_impl_AreHolds_1_0 : 0 ≤ x_l1) (hk : ((holds_1.length : Int) - x_l1).toNat < k), Lp Go.Proofs.Try.prog 0 (sub (bodyOf Go.Proofs.Try.f60) [1, 1, 1, 0, 1, 0, 0]) ⟨[.agg [.sl (m_0.Places.map GVector.cells), .sl (m_0.Triangles.map (cL (cI .i64)))], .sl (holds_1.map GHold.cells), .ptr 0 0 0, .any, .any, .i .i64 last_l0, .any, .any, .agg [.sl (m_0.Places.map GVector.cells), .sl (m_0.Triangles.map (cL (cI .i64)))], .b (v_impl_ValidMesh m_0), .b (!(v_impl_ValidMesh m_0)), .sl (holds_1.map GHold.cells), .i .i64 (holds_1.length : Int), .i .i64 x_l1, .any, .any, .any, .any, .any, .any, .any, .any, .any, .any, .any, .any, .any, .any, .any, .any, .any, .any, .any, .any, .any], [.box 34 [.sl (m_0.Places.map GVector.cells), .sl (m_0.Triangles.map (cL (cI .i64)))]]⟩ (ls_impl_AreHolds_1 m_0 holds_1 (lo_impl_AreHolds_1 m_0 holds_1 k last_l0 x_l1)).1 (ls_impl_AreHolds_1 m_0 holds_1 (lo_impl_AreHolds_1 m_0 holds_1 k last_l0 x_l1)).2 := by
  intro k
  induction k with
  | zero => intro last_l0 x_l1 hv_impl_AreHolds_1_0 hk; exact absurd hk (Nat.not_lt_zero _)
  | succ k ih =>
    intro last_l0 x_l1 hv_impl_AreHolds_1_0 hk
    cases h_0 : (decide (x_l1 < (holds_1.length : Int))) with
    | true =>
      cases h_1 : (v_impl_IsHold (holds_1.getD x_l1.toNat default)) with
      | true =>
        cases h_2 : (v_impl_within ((holds_1.getD x_l1.toNat default).Place) (IntKind.wrap .i64 (last_l0 + 1)) (IntKind.wrap .i64 ((m_0.Places.length : Int) - 1))) with
        | true =>
          have e : lo_impl_AreHolds_1 m_0 holds_1 (k + 1) last_l0 x_l1 = (lo_impl_AreHolds_1 m_0 holds_1 k ((holds_1.getD x_l1.toNat default).Place) (x_l1 + 1)) := by simp only [lo_impl_AreHolds_1, h_0, h_1, h_2, cond_true]
          rw [e]
          exact stepK_next (E := E0) E0Ok hMixed (body := (sub (bodyOf Go.Proofs.Try.f60) [1, 1, 1, 0, 1, 0, 0])) (st := ⟨[.agg [.sl (m_0.Places.map GVector.cells), .sl (m_0.Triangles.map (cL (cI .i64)))], .sl (holds_1.map GHold.cells), .ptr 0 0 0, .any, .any, .i .i64 last_l0, .any, .any, .agg [.sl (m_0.Places.map GVector.cells), .sl (m_0.Triangles.map (cL (cI .i64)))], .b (v_impl_ValidMesh m_0), .b (!(v_impl_ValidMesh m_0)), .sl (holds_1.map GHold.cells), .i .i64 (holds_1.length : Int), .i .i64 x_l1, .any, .any, .any, .any, .any, .any, .any, .any, .any, .any, .any, .any, .any, .any, .any, .any, .any, .any, .any, .any, .any], [.box 34 [.sl (m_0.Places.map GVector.cells), .sl (m_0.Triangles.map (cL (cI .i64)))]]⟩)
            (st2 := ⟨[.agg [.sl (m_0.Places.map GVector.cells), .sl (m_0.Triangles.map (cL (cI .i64)))], .sl (holds_1.map GHold.cells), .ptr 0 0 0, .any, .any, .i .i64 ((holds_1.getD x_l1.toNat default).Place), .any, .any, .agg [.sl (m_0.Places.map GVector.cells), .sl (m_0.Triangles.map (cL (cI .i64)))], .b (v_impl_ValidMesh m_0), .b (!(v_impl_ValidMesh m_0)), .sl (holds_1.map GHold.cells), .i .i64 (holds_1.length : Int), .i .i64 (x_l1 + 1), .any, .any, .any, .any, .any, .any, .any, .any, .any, .any, .any, .any, .any, .any, .any, .any, .any, .any, .any, .any, .any], [.box 34 [.sl (m_0.Places.map GVector.cells), .sl (m_0.Triangles.map (cL (cI .i64)))]]⟩)
            (ans := [.bo true, .el [.i .i64 ((holds_1.getD x_l1.toNat default).Place), .i .i64 ((holds_1.getD x_l1.toNat default).Kind), .f .f32 ((holds_1.getD x_l1.toNat default).At.X), .f .f32 ((holds_1.getD x_l1.toNat default).At.Y), .f .f32 ((holds_1.getD x_l1.toNat default).At.Z), .f .f32 ((holds_1.getD x_l1.toNat default).Way.X), .f .f32 ((holds_1.getD x_l1.toNat default).Way.Y), .f .f32 ((holds_1.getD x_l1.toNat default).Way.Z)], .call (.b (v_impl_IsHold (holds_1.getD x_l1.toNat default))) [], .bo false, .bo false, .bo false, .bo false, .num (IntKind.wrap .i64 (last_l0 + 1)), .bo false, .bo false, .bo false, .num (m_0.Places.length : Int), .bo false, .num (IntKind.wrap .i64 ((m_0.Places.length : Int) - 1)), .bo false, .call (.b (v_impl_within ((holds_1.getD x_l1.toNat default).Place) (IntKind.wrap .i64 (last_l0 + 1)) (IntKind.wrap .i64 ((m_0.Places.length : Int) - 1)))) [], .bo false, .bo false, .bo false, .num (x_l1 + 1)])
            (ps := []) (mask := [true, true, true, false, false, true, false, false, true, true, true, true, true, true, false, false, false, false, false, false, false, false, false, false, false, false, false, false, false, false, false, false, false, false, false]) (ks := [0])
            (C := [(decide (x_l1 < (holds_1.length : Int))) = true,
              0 ≤ x_l1 ∧ (holds_1.map GHold.cells)[Int.toNat x_l1]? = some [.i .i64 ((holds_1.getD x_l1.toNat default).Place), .i .i64 ((holds_1.getD x_l1.toNat default).Kind), .f .f32 ((holds_1.getD x_l1.toNat default).At.X), .f .f32 ((holds_1.getD x_l1.toNat default).At.Y), .f .f32 ((holds_1.getD x_l1.toNat default).At.Z), .f .f32 ((holds_1.getD x_l1.toNat default).Way.X), .f .f32 ((holds_1.getD x_l1.toNat default).Way.Y), .f .f32 ((holds_1.getD x_l1.toNat default).Way.Z)],
              Fn Go.Proofs.Try.prog 120 [.agg [.i .i64 ((holds_1.getD x_l1.toNat default).Place), .i .i64 ((holds_1.getD x_l1.toNat default).Kind), .f .f32 ((holds_1.getD x_l1.toNat default).At.X), .f .f32 ((holds_1.getD x_l1.toNat default).At.Y), .f .f32 ((holds_1.getD x_l1.toNat default).At.Z), .f .f32 ((holds_1.getD x_l1.toNat default).Way.X), .f .f32 ((holds_1.getD x_l1.toNat default).Way.Y), .f .f32 ((holds_1.getD x_l1.toNat default).Way.Z)]] (.b (v_impl_IsHold (holds_1.getD x_l1.toNat default))) [],
              (!(v_impl_IsHold (holds_1.getD x_l1.toNat default))) = false,
              (!(v_impl_IsHold (holds_1.getD x_l1.toNat default))) = false,
              (!(v_impl_IsHold (holds_1.getD x_l1.toNat default))) = false,
              (!(v_impl_IsHold (holds_1.getD x_l1.toNat default))) = false,
              IntKind.wrap .i64 (last_l0 + 1) = (IntKind.wrap .i64 (last_l0 + 1)),
              (!(v_impl_IsHold (holds_1.getD x_l1.toNat default))) = false,
              (!(v_impl_IsHold (holds_1.getD x_l1.toNat default))) = false,
              (!(v_impl_IsHold (holds_1.getD x_l1.toNat default))) = false,
              (((m_0.Places.map GVector.cells).length : Nat) : Int) = (m_0.Places.length : Int),
              (!(v_impl_IsHold (holds_1.getD x_l1.toNat default))) = false,
              IntKind.wrap .i64 ((m_0.Places.length : Int) - 1) = (IntKind.wrap .i64 ((m_0.Places.length : Int) - 1)),
              (!(v_impl_IsHold (holds_1.getD x_l1.toNat default))) = false,
              Fn Go.Proofs.Try.prog 121 [.i .i64 ((holds_1.getD x_l1.toNat default).Place), .i .i64 (IntKind.wrap .i64 (last_l0 + 1)), .i .i64 (IntKind.wrap .i64 ((m_0.Places.length : Int) - 1))] (.b (v_impl_within ((holds_1.getD x_l1.toNat default).Place) (IntKind.wrap .i64 (last_l0 + 1)) (IntKind.wrap .i64 ((m_0.Places.length : Int) - 1)))) [],
              (!(v_impl_IsHold (holds_1.getD x_l1.toNat default))) = false,
              (!(v_impl_IsHold (holds_1.getD x_l1.toNat default))) = false,
              (!(v_impl_within ((holds_1.getD x_l1.toNat default).Place) (IntKind.wrap .i64 (last_l0 + 1)) (IntKind.wrap .i64 ((m_0.Places.length : Int) - 1)))) = false,
              IntKind.wrap .i64 (x_l1 + 1) = (x_l1 + 1)])
            (by kernel_rfl)
            ⟨h_0, (get_ok (by first | assumption | omega | (simp at * <;> omega) | (simp_all <;> omega)) (by first | assumption | omega | (simp at * <;> omega) | (simp_all <;> omega))), (t_impl_IsHold (holds_1.getD x_l1.toNat default)), (congrArg not h_1), (congrArg not h_1), (congrArg not h_1), (congrArg not h_1), rfl, (congrArg not h_1), (congrArg not h_1), (congrArg not h_1), len_ok, (congrArg not h_1), rfl, (congrArg not h_1), (t_impl_within ((holds_1.getD x_l1.toNat default).Place) (IntKind.wrap .i64 (last_l0 + 1)) (IntKind.wrap .i64 ((m_0.Places.length : Int) - 1))), (congrArg not h_1), (congrArg not h_1), (congrArg not h_2), (wrap_id (by first | assumption | omega | (simp at * <;> omega) | (simp_all <;> omega)) (by first | assumption | omega | (simp at * <;> omega) | (simp_all <;> omega))), trivial⟩
            rfl (ih ((holds_1.getD x_l1.toNat default).Place) (x_l1 + 1) (show 0 ≤ (x_l1 + 1) from (by first | assumption | omega | (simp at * <;> omega) | (simp_all <;> omega))) (by first | assumption | omega | (simp at * <;> omega) | (simp_all <;> omega)))
        | false =>
          have e : lo_impl_AreHolds_1 m_0 holds_1 (k + 1) last_l0 x_l1 = (.inl ()) := by simp only [lo_impl_AreHolds_1, h_0, h_1, h_2, cond_true, cond_false]
          rw [e]
          exact stepK_out (E := E0) E0Ok hMixed (e := .ret) (body := (sub (bodyOf Go.Proofs.Try.f60) [1, 1, 1, 0, 1, 0, 0])) (st := ⟨[.agg [.sl (m_0.Places.map GVector.cells), .sl (m_0.Triangles.map (cL (cI .i64)))], .sl (holds_1.map GHold.cells), .ptr 0 0 0, .any, .any, .i .i64 last_l0, .any, .any, .agg [.sl (m_0.Places.map GVector.cells), .sl (m_0.Triangles.map (cL (cI .i64)))], .b (v_impl_ValidMesh m_0), .b (!(v_impl_ValidMesh m_0)), .sl (holds_1.map GHold.cells), .i .i64 (holds_1.length : Int), .i .i64 x_l1, .any, .any, .any, .any, .any, .any, .any, .any, .any, .any, .any, .any, .any, .any, .any, .any, .any, .any, .any, .any, .any], [.box 34 [.sl (m_0.Places.map GVector.cells), .sl (m_0.Triangles.map (cL (cI .i64)))]]⟩)
            (st2 := ⟨[.any, .any, .any, .any, .b false, .any, .any, .any, .any, .any, .any, .any, .any, .any, .any, .any, .any, .any, .any, .any, .any, .any, .any, .any, .any, .any, .any, .any, .any, .any, .any, .any, .any, .any, .any], []⟩)
            (ans := [.bo true, .el [.i .i64 ((holds_1.getD x_l1.toNat default).Place), .i .i64 ((holds_1.getD x_l1.toNat default).Kind), .f .f32 ((holds_1.getD x_l1.toNat default).At.X), .f .f32 ((holds_1.getD x_l1.toNat default).At.Y), .f .f32 ((holds_1.getD x_l1.toNat default).At.Z), .f .f32 ((holds_1.getD x_l1.toNat default).Way.X), .f .f32 ((holds_1.getD x_l1.toNat default).Way.Y), .f .f32 ((holds_1.getD x_l1.toNat default).Way.Z)], .call (.b (v_impl_IsHold (holds_1.getD x_l1.toNat default))) [], .bo false, .bo false, .bo false, .bo false, .num (IntKind.wrap .i64 (last_l0 + 1)), .bo false, .bo false, .bo false, .num (m_0.Places.length : Int), .bo false, .num (IntKind.wrap .i64 ((m_0.Places.length : Int) - 1)), .bo false, .call (.b (v_impl_within ((holds_1.getD x_l1.toNat default).Place) (IntKind.wrap .i64 (last_l0 + 1)) (IntKind.wrap .i64 ((m_0.Places.length : Int) - 1)))) [], .bo false, .bo false, .bo true])
            (ps := []) (mask := [false, false, false, false, true, false, false, false, false, false, false, false, false, false, false, false, false, false, false, false, false, false, false, false, false, false, false, false, false, false, false, false, false, false, false]) (ks := [])
            (C := [(decide (x_l1 < (holds_1.length : Int))) = true,
              0 ≤ x_l1 ∧ (holds_1.map GHold.cells)[Int.toNat x_l1]? = some [.i .i64 ((holds_1.getD x_l1.toNat default).Place), .i .i64 ((holds_1.getD x_l1.toNat default).Kind), .f .f32 ((holds_1.getD x_l1.toNat default).At.X), .f .f32 ((holds_1.getD x_l1.toNat default).At.Y), .f .f32 ((holds_1.getD x_l1.toNat default).At.Z), .f .f32 ((holds_1.getD x_l1.toNat default).Way.X), .f .f32 ((holds_1.getD x_l1.toNat default).Way.Y), .f .f32 ((holds_1.getD x_l1.toNat default).Way.Z)],
              Fn Go.Proofs.Try.prog 120 [.agg [.i .i64 ((holds_1.getD x_l1.toNat default).Place), .i .i64 ((holds_1.getD x_l1.toNat default).Kind), .f .f32 ((holds_1.getD x_l1.toNat default).At.X), .f .f32 ((holds_1.getD x_l1.toNat default).At.Y), .f .f32 ((holds_1.getD x_l1.toNat default).At.Z), .f .f32 ((holds_1.getD x_l1.toNat default).Way.X), .f .f32 ((holds_1.getD x_l1.toNat default).Way.Y), .f .f32 ((holds_1.getD x_l1.toNat default).Way.Z)]] (.b (v_impl_IsHold (holds_1.getD x_l1.toNat default))) [],
              (!(v_impl_IsHold (holds_1.getD x_l1.toNat default))) = false,
              (!(v_impl_IsHold (holds_1.getD x_l1.toNat default))) = false,
              (!(v_impl_IsHold (holds_1.getD x_l1.toNat default))) = false,
              (!(v_impl_IsHold (holds_1.getD x_l1.toNat default))) = false,
              IntKind.wrap .i64 (last_l0 + 1) = (IntKind.wrap .i64 (last_l0 + 1)),
              (!(v_impl_IsHold (holds_1.getD x_l1.toNat default))) = false,
              (!(v_impl_IsHold (holds_1.getD x_l1.toNat default))) = false,
              (!(v_impl_IsHold (holds_1.getD x_l1.toNat default))) = false,
              (((m_0.Places.map GVector.cells).length : Nat) : Int) = (m_0.Places.length : Int),
              (!(v_impl_IsHold (holds_1.getD x_l1.toNat default))) = false,
              IntKind.wrap .i64 ((m_0.Places.length : Int) - 1) = (IntKind.wrap .i64 ((m_0.Places.length : Int) - 1)),
              (!(v_impl_IsHold (holds_1.getD x_l1.toNat default))) = false,
              Fn Go.Proofs.Try.prog 121 [.i .i64 ((holds_1.getD x_l1.toNat default).Place), .i .i64 (IntKind.wrap .i64 (last_l0 + 1)), .i .i64 (IntKind.wrap .i64 ((m_0.Places.length : Int) - 1))] (.b (v_impl_within ((holds_1.getD x_l1.toNat default).Place) (IntKind.wrap .i64 (last_l0 + 1)) (IntKind.wrap .i64 ((m_0.Places.length : Int) - 1)))) [],
              (!(v_impl_IsHold (holds_1.getD x_l1.toNat default))) = false,
              (!(v_impl_IsHold (holds_1.getD x_l1.toNat default))) = false,
              (!(v_impl_within ((holds_1.getD x_l1.toNat default).Place) (IntKind.wrap .i64 (last_l0 + 1)) (IntKind.wrap .i64 ((m_0.Places.length : Int) - 1)))) = true])
            (by kernel_rfl)
            ⟨h_0, (get_ok (by first | assumption | omega | (simp at * <;> omega) | (simp_all <;> omega)) (by first | assumption | omega | (simp at * <;> omega) | (simp_all <;> omega))), (t_impl_IsHold (holds_1.getD x_l1.toNat default)), (congrArg not h_1), (congrArg not h_1), (congrArg not h_1), (congrArg not h_1), rfl, (congrArg not h_1), (congrArg not h_1), (congrArg not h_1), len_ok, (congrArg not h_1), rfl, (congrArg not h_1), (t_impl_within ((holds_1.getD x_l1.toNat default).Place) (IntKind.wrap .i64 (last_l0 + 1)) (IntKind.wrap .i64 ((m_0.Places.length : Int) - 1))), (congrArg not h_1), (congrArg not h_1), (congrArg not h_2), trivial⟩
            (by intro h; cases h) rfl
      | false =>
        have e : lo_impl_AreHolds_1 m_0 holds_1 (k + 1) last_l0 x_l1 = (.inl ()) := by simp only [lo_impl_AreHolds_1, h_0, h_1, cond_true, cond_false]
        rw [e]
        exact stepK_out (E := E0) E0Ok hMixed (e := .ret) (body := (sub (bodyOf Go.Proofs.Try.f60) [1, 1, 1, 0, 1, 0, 0])) (st := ⟨[.agg [.sl (m_0.Places.map GVector.cells), .sl (m_0.Triangles.map (cL (cI .i64)))], .sl (holds_1.map GHold.cells), .ptr 0 0 0, .any, .any, .i .i64 last_l0, .any, .any, .agg [.sl (m_0.Places.map GVector.cells), .sl (m_0.Triangles.map (cL (cI .i64)))], .b (v_impl_ValidMesh m_0), .b (!(v_impl_ValidMesh m_0)), .sl (holds_1.map GHold.cells), .i .i64 (holds_1.length : Int), .i .i64 x_l1, .any, .any, .any, .any, .any, .any, .any, .any, .any, .any, .any, .any, .any, .any, .any, .any, .any, .any, .any, .any, .any], [.box 34 [.sl (m_0.Places.map GVector.cells), .sl (m_0.Triangles.map (cL (cI .i64)))]]⟩)
          (st2 := ⟨[.any, .any, .any, .any, .b false, .any, .any, .any, .any, .any, .any, .any, .any, .any, .any, .any, .any, .any, .any, .any, .any, .any, .any, .any, .any, .any, .any, .any, .any, .any, .any, .any, .any, .any, .any], []⟩)
          (ans := [.bo true, .el [.i .i64 ((holds_1.getD x_l1.toNat default).Place), .i .i64 ((holds_1.getD x_l1.toNat default).Kind), .f .f32 ((holds_1.getD x_l1.toNat default).At.X), .f .f32 ((holds_1.getD x_l1.toNat default).At.Y), .f .f32 ((holds_1.getD x_l1.toNat default).At.Z), .f .f32 ((holds_1.getD x_l1.toNat default).Way.X), .f .f32 ((holds_1.getD x_l1.toNat default).Way.Y), .f .f32 ((holds_1.getD x_l1.toNat default).Way.Z)], .call (.b (v_impl_IsHold (holds_1.getD x_l1.toNat default))) [], .bo true, .bo true, .bo true, .bo true, .bo true, .bo true, .bo true, .bo true, .bo true, .bo true, .bo true, .bo true])
          (ps := []) (mask := [false, false, false, false, true, false, false, false, false, false, false, false, false, false, false, false, false, false, false, false, false, false, false, false, false, false, false, false, false, false, false, false, false, false, false]) (ks := [])
          (C := [(decide (x_l1 < (holds_1.length : Int))) = true,
            0 ≤ x_l1 ∧ (holds_1.map GHold.cells)[Int.toNat x_l1]? = some [.i .i64 ((holds_1.getD x_l1.toNat default).Place), .i .i64 ((holds_1.getD x_l1.toNat default).Kind), .f .f32 ((holds_1.getD x_l1.toNat default).At.X), .f .f32 ((holds_1.getD x_l1.toNat default).At.Y), .f .f32 ((holds_1.getD x_l1.toNat default).At.Z), .f .f32 ((holds_1.getD x_l1.toNat default).Way.X), .f .f32 ((holds_1.getD x_l1.toNat default).Way.Y), .f .f32 ((holds_1.getD x_l1.toNat default).Way.Z)],
            Fn Go.Proofs.Try.prog 120 [.agg [.i .i64 ((holds_1.getD x_l1.toNat default).Place), .i .i64 ((holds_1.getD x_l1.toNat default).Kind), .f .f32 ((holds_1.getD x_l1.toNat default).At.X), .f .f32 ((holds_1.getD x_l1.toNat default).At.Y), .f .f32 ((holds_1.getD x_l1.toNat default).At.Z), .f .f32 ((holds_1.getD x_l1.toNat default).Way.X), .f .f32 ((holds_1.getD x_l1.toNat default).Way.Y), .f .f32 ((holds_1.getD x_l1.toNat default).Way.Z)]] (.b (v_impl_IsHold (holds_1.getD x_l1.toNat default))) [],
            (!(v_impl_IsHold (holds_1.getD x_l1.toNat default))) = true,
            (!(v_impl_IsHold (holds_1.getD x_l1.toNat default))) = true,
            (!(v_impl_IsHold (holds_1.getD x_l1.toNat default))) = true,
            (!(v_impl_IsHold (holds_1.getD x_l1.toNat default))) = true,
            (!(v_impl_IsHold (holds_1.getD x_l1.toNat default))) = true,
            (!(v_impl_IsHold (holds_1.getD x_l1.toNat default))) = true,
            (!(v_impl_IsHold (holds_1.getD x_l1.toNat default))) = true,
            (!(v_impl_IsHold (holds_1.getD x_l1.toNat default))) = true,
            (!(v_impl_IsHold (holds_1.getD x_l1.toNat default))) = true,
            (!(v_impl_IsHold (holds_1.getD x_l1.toNat default))) = true,
            (!(v_impl_IsHold (holds_1.getD x_l1.toNat default))) = true,
            true = true])
          (by kernel_rfl)
          ⟨h_0, (get_ok (by first | assumption | omega | (simp at * <;> omega) | (simp_all <;> omega)) (by first | assumption | omega | (simp at * <;> omega) | (simp_all <;> omega))), (t_impl_IsHold (holds_1.getD x_l1.toNat default)), (congrArg not h_1), (congrArg not h_1), (congrArg not h_1), (congrArg not h_1), (congrArg not h_1), (congrArg not h_1), (congrArg not h_1), (congrArg not h_1), (congrArg not h_1), (congrArg not h_1), (congrArg not h_1), rfl, trivial⟩
          (by intro h; cases h) rfl
    | false =>
      have e : lo_impl_AreHolds_1 m_0 holds_1 (k + 1) last_l0 x_l1 = (.inr ()) := by simp only [lo_impl_AreHolds_1, h_0, cond_false]
      rw [e]
      exact stepK_out (E := E0) E0Ok hMixed (e := (.exit 0)) (body := (sub (bodyOf Go.Proofs.Try.f60) [1, 1, 1, 0, 1, 0, 0])) (st := ⟨[.agg [.sl (m_0.Places.map GVector.cells), .sl (m_0.Triangles.map (cL (cI .i64)))], .sl (holds_1.map GHold.cells), .ptr 0 0 0, .any, .any, .i .i64 last_l0, .any, .any, .agg [.sl (m_0.Places.map GVector.cells), .sl (m_0.Triangles.map (cL (cI .i64)))], .b (v_impl_ValidMesh m_0), .b (!(v_impl_ValidMesh m_0)), .sl (holds_1.map GHold.cells), .i .i64 (holds_1.length : Int), .i .i64 x_l1, .any, .any, .any, .any, .any, .any, .any, .any, .any, .any, .any, .any, .any, .any, .any, .any, .any, .any, .any, .any, .any], [.box 34 [.sl (m_0.Places.map GVector.cells), .sl (m_0.Triangles.map (cL (cI .i64)))]]⟩)
        (st2 := ⟨[.agg [.sl (m_0.Places.map GVector.cells), .sl (m_0.Triangles.map (cL (cI .i64)))], .sl (holds_1.map GHold.cells), .ptr 0 0 0, .any, .any, .any, .any, .any, .agg [.sl (m_0.Places.map GVector.cells), .sl (m_0.Triangles.map (cL (cI .i64)))], .b (v_impl_ValidMesh m_0), .b (!(v_impl_ValidMesh m_0)), .sl (holds_1.map GHold.cells), .any, .any, .any, .any, .any, .any, .any, .any, .any, .any, .any, .any, .any, .any, .any, .any, .any, .any, .any, .any, .any, .any, .any], [.box 34 [.sl (m_0.Places.map GVector.cells), .sl (m_0.Triangles.map (cL (cI .i64)))]]⟩)
        (ans := [.bo false])
        (ps := []) (mask := [true, true, true, false, false, false, false, false, true, true, true, true, false, false, false, false, false, false, false, false, false, false, false, false, false, false, false, false, false, false, false, false, false, false, false]) (ks := [0])
        (C := [(decide (x_l1 < (holds_1.length : Int))) = false])
        (by kernel_rfl)
        ⟨h_0, trivial⟩
        (by intro h; cases h) rfl

def lr_impl_AreHolds_1_0 (m_0 : GMesh) (holds_1 : (List GHold)) : (Unit) ⊕ (Unit) := (lo_impl_AreHolds_1 m_0 holds_1 (((holds_1.length : Int) - 0).toNat + 1) (-1) 0)

/-- impl.AreHolds -/
def v_impl_AreHolds (m_0 : GMesh) (holds_1 : (List GHold)) : Bool := (cond (v_impl_ValidMesh m_0)
  (match (lr_impl_AreHolds_1_0 m_0 holds_1) with
    | .inl r2 => false
    | .inr r2 => true)
  false)

theorem t_impl_AreHolds (m_0 : GMesh) (holds_1 : (List GHold)) (hp0 : m_0.Places.length ≤ 1073741824) (hp1 : m_0.Triangles.length ≤ 1073741824) (hp2 : ∀ t ∈ m_0.Triangles, t.length ≤ 1073741824) (hp3 : holds_1.length ≤ 1073741824)  : Fn Go.Proofs.Try.prog 60 [.agg [.sl (m_0.Places.map GVector.cells), .sl (m_0.Triangles.map (cL (cI .i64)))], .sl (holds_1.map GHold.cells)] (.b (v_impl_AreHolds m_0 holds_1)) [] := by
  cases h0 : (v_impl_ValidMesh m_0) with
  | true =>
    cases h1 : (lr_impl_AreHolds_1_0 m_0 holds_1) with
    | inl r2 =>
      exact Fn.cast (CallSt.fn (callSt_of_evK (E := E0) E0Ok hMixed (c := bodyOf Go.Proofs.Try.f60) (rows := []) (r := .b false) (rows' := [])
        (ans := [.call (.b (v_impl_ValidMesh m_0)) [], .bo false, .num (holds_1.length : Int), .loop [true, true, true, false, false, true, false, false, true, true, true, true, true, true, false, false, false, false, false, false, false, false, false, false, false, false, false, false, false, false, false, false, false, false, false] 1 .ret ⟨[.any, .any, .any, .any, .b false, .any, .any, .any, .any, .any, .any, .any, .any, .any, .any, .any, .any, .any, .any, .any, .any, .any, .any, .any, .any, .any, .any, .any, .any, .any, .any, .any, .any, .any, .any], []⟩, .keep []])
        (ps := [])
        (C := [Fn Go.Proofs.Try.prog 119 [.agg [.sl (m_0.Places.map GVector.cells), .sl (m_0.Triangles.map (cL (cI .i64)))]] (.b (v_impl_ValidMesh m_0)) [],
          (!(v_impl_ValidMesh m_0)) = false,
          (((holds_1.map GHold.cells).length : Nat) : Int) = (holds_1.length : Int),
          Lp Go.Proofs.Try.prog 0 (sub (bodyOf Go.Proofs.Try.f60) [1, 1, 1, 0, 1, 0, 0]) ⟨[.agg [.sl (m_0.Places.map GVector.cells), .sl (m_0.Triangles.map (cL (cI .i64)))], .sl (holds_1.map GHold.cells), .ptr 0 0 0, .any, .any, .i .i64 (-1), .any, .any, .agg [.sl (m_0.Places.map GVector.cells), .sl (m_0.Triangles.map (cL (cI .i64)))], .b (v_impl_ValidMesh m_0), .b (!(v_impl_ValidMesh m_0)), .sl (holds_1.map GHold.cells), .i .i64 (holds_1.length : Int), .i .i64 0, .any, .any, .any, .any, .any, .any, .any, .any, .any, .any, .any, .any, .any, .any, .any, .any, .any, .any, .any, .any, .any], [.box 34 [.sl (m_0.Places.map GVector.cells), .sl (m_0.Triangles.map (cL (cI .i64)))]]⟩ .ret ⟨[.any, .any, .any, .any, .b false, .any, .any, .any, .any, .any, .any, .any, .any, .any, .any, .any, .any, .any, .any, .any, .any, .any, .any, .any, .any, .any, .any, .any, .any, .any, .any, .any, .any, .any, .any], []⟩])
        Go.Proofs.Try.func60 rfl (by kernel_rfl) (by kernel_rfl)
        ⟨(t_impl_ValidMesh m_0 (show m_0.Places.length ≤ 1073741824 from (by first | assumption | omega | (simp at * <;> omega) | (simp_all <;> omega))) (show m_0.Triangles.length ≤ 1073741824 from (by first | assumption | omega | (simp at * <;> omega) | (simp_all <;> omega))) (show ∀ t ∈ m_0.Triangles, t.length ≤ 1073741824 from (by first | assumption | omega | (simp at * <;> omega) | (simp_all <;> omega)))), (congrArg not h0), len_ok, (by have q := (lp_impl_AreHolds_1 m_0 holds_1 hp0 hp1 hp2 hp3 h0 (((holds_1.length : Int) - 0).toNat + 1) (-1) 0 (show 0 ≤ 0 from (by first | assumption | omega | (simp at * <;> omega) | (simp_all <;> omega))) (Nat.lt_succ_self _)); rw [show (lo_impl_AreHolds_1 m_0 holds_1 (((holds_1.length : Int) - 0).toNat + 1) (-1) 0) = _ from rfl] at q; rw [show (lo_impl_AreHolds_1 m_0 holds_1 (((holds_1.length : Int) - 0).toNat + 1) (-1) 0) = (lr_impl_AreHolds_1_0 m_0 holds_1) from rfl, h1] at q; exact q), trivial⟩) rfl) (by simp only [v_impl_AreHolds, h0, h1, cond_true]) rfl
    | inr r2 =>
      exact Fn.cast (CallSt.fn (callSt_of_evK (E := E0) E0Ok hMixed (c := bodyOf Go.Proofs.Try.f60) (rows := []) (r := .b true) (rows' := [])
        (ans := [.call (.b (v_impl_ValidMesh m_0)) [], .bo false, .num (holds_1.length : Int), .loop [true, true, true, false, false, true, false, false, true, true, true, true, true, true, false, false, false, false, false, false, false, false, false, false, false, false, false, false, false, false, false, false, false, false, false] 1 (.exit 0) ⟨[.agg [.sl (m_0.Places.map GVector.cells), .sl (m_0.Triangles.map (cL (cI .i64)))], .sl (holds_1.map GHold.cells), .ptr 0 0 0, .any, .any, .any, .any, .any, .agg [.sl (m_0.Places.map GVector.cells), .sl (m_0.Triangles.map (cL (cI .i64)))], .b (v_impl_ValidMesh m_0), .b (!(v_impl_ValidMesh m_0)), .sl (holds_1.map GHold.cells), .any, .any, .any, .any, .any, .any, .any, .any, .any, .any, .any, .any, .any, .any, .any, .any, .any, .any, .any, .any, .any, .any, .any], [.box 34 [.sl (m_0.Places.map GVector.cells), .sl (m_0.Triangles.map (cL (cI .i64)))]]⟩, .keep []])
        (ps := [])
        (C := [Fn Go.Proofs.Try.prog 119 [.agg [.sl (m_0.Places.map GVector.cells), .sl (m_0.Triangles.map (cL (cI .i64)))]] (.b (v_impl_ValidMesh m_0)) [],
          (!(v_impl_ValidMesh m_0)) = false,
          (((holds_1.map GHold.cells).length : Nat) : Int) = (holds_1.length : Int),
          Lp Go.Proofs.Try.prog 0 (sub (bodyOf Go.Proofs.Try.f60) [1, 1, 1, 0, 1, 0, 0]) ⟨[.agg [.sl (m_0.Places.map GVector.cells), .sl (m_0.Triangles.map (cL (cI .i64)))], .sl (holds_1.map GHold.cells), .ptr 0 0 0, .any, .any, .i .i64 (-1), .any, .any, .agg [.sl (m_0.Places.map GVector.cells), .sl (m_0.Triangles.map (cL (cI .i64)))], .b (v_impl_ValidMesh m_0), .b (!(v_impl_ValidMesh m_0)), .sl (holds_1.map GHold.cells), .i .i64 (holds_1.length : Int), .i .i64 0, .any, .any, .any, .any, .any, .any, .any, .any, .any, .any, .any, .any, .any, .any, .any, .any, .any, .any, .any, .any, .any], [.box 34 [.sl (m_0.Places.map GVector.cells), .sl (m_0.Triangles.map (cL (cI .i64)))]]⟩ (.exit 0) ⟨[.agg [.sl (m_0.Places.map GVector.cells), .sl (m_0.Triangles.map (cL (cI .i64)))], .sl (holds_1.map GHold.cells), .ptr 0 0 0, .any, .any, .any, .any, .any, .agg [.sl (m_0.Places.map GVector.cells), .sl (m_0.Triangles.map (cL (cI .i64)))], .b (v_impl_ValidMesh m_0), .b (!(v_impl_ValidMesh m_0)), .sl (holds_1.map GHold.cells), .any, .any, .any, .any, .any, .any, .any, .any, .any, .any, .any, .any, .any, .any, .any, .any, .any, .any, .any, .any, .any, .any, .any], [.box 34 [.sl (m_0.Places.map GVector.cells), .sl (m_0.Triangles.map (cL (cI .i64)))]]⟩])
        Go.Proofs.Try.func60 rfl (by kernel_rfl) (by kernel_rfl)
        ⟨(t_impl_ValidMesh m_0 (show m_0.Places.length ≤ 1073741824 from (by first | assumption | omega | (simp at * <;> omega) | (simp_all <;> omega))) (show m_0.Triangles.length ≤ 1073741824 from (by first | assumption | omega | (simp at * <;> omega) | (simp_all <;> omega))) (show ∀ t ∈ m_0.Triangles, t.length ≤ 1073741824 from (by first | assumption | omega | (simp at * <;> omega) | (simp_all <;> omega)))), (congrArg not h0), len_ok, (by have q := (lp_impl_AreHolds_1 m_0 holds_1 hp0 hp1 hp2 hp3 h0 (((holds_1.length : Int) - 0).toNat + 1) (-1) 0 (show 0 ≤ 0 from (by first | assumption | omega | (simp at * <;> omega) | (simp_all <;> omega))) (Nat.lt_succ_self _)); rw [show (lo_impl_AreHolds_1 m_0 holds_1 (((holds_1.length : Int) - 0).toNat + 1) (-1) 0) = _ from rfl] at q; rw [show (lo_impl_AreHolds_1 m_0 holds_1 (((holds_1.length : Int) - 0).toNat + 1) (-1) 0) = (lr_impl_AreHolds_1_0 m_0 holds_1) from rfl, h1] at q; exact q), trivial⟩) rfl) (by simp only [v_impl_AreHolds, h0, h1, cond_true]) rfl
  | false =>
    exact Fn.cast (CallSt.fn (callSt_of_evK (E := E0) E0Ok hMixed (c := bodyOf Go.Proofs.Try.f60) (rows := []) (r := .b false) (rows' := [])
      (ans := [.call (.b (v_impl_ValidMesh m_0)) [], .bo true, .keep []])
      (ps := [])
      (C := [Fn Go.Proofs.Try.prog 119 [.agg [.sl (m_0.Places.map GVector.cells), .sl (m_0.Triangles.map (cL (cI .i64)))]] (.b (v_impl_ValidMesh m_0)) [],
        (!(v_impl_ValidMesh m_0)) = true])
      Go.Proofs.Try.func60 rfl (by kernel_rfl) (by kernel_rfl)
      ⟨(t_impl_ValidMesh m_0 (show m_0.Places.length ≤ 1073741824 from (by first | assumption | omega | (simp at * <;> omega) | (simp_all <;> omega))) (show m_0.Triangles.length ≤ 1073741824 from (by first | assumption | omega | (simp at * <;> omega) | (simp_all <;> omega))) (show ∀ t ∈ m_0.Triangles, t.length ≤ 1073741824 from (by first | assumption | omega | (simp at * <;> omega) | (simp_all <;> omega)))), (congrArg not h0), trivial⟩) rfl) (by simp only [v_impl_AreHolds, h0, cond_false]) rfl

theorem within_rise (p last n : Int) (h0 : -1 ≤ last) (hn : 0 ≤ n) (hn' : n ≤ 64) (hl : last < n ∨ last = -1) : v_impl_within p (IntKind.wrap .i64 (last + 1)) (IntKind.wrap .i64 (n - 1)) = (v_spec_l00In p 0 (IntKind.wrap .i64 (n - 1)) && !(decide (last ≥ p))) := by
  rw [show v_impl_within = v_spec_l00In from rfl]
  unfold v_spec_l00In
  rw [wrap_id (n := last + 1) (by omega) (by omega), wrap_id (n := n - 1) (by omega) (by omega)]
  by_cases h1 : p ≥ last + 1 <;> by_cases h2 : p ≤ n - 1 <;> by_cases h3 : p ≥ 0 <;> by_cases h4 : last ≥ p <;> simp [h1, h2, h3, h4] <;> omega
theorem lo_AreHolds (m : GMesh) (hs : List GHold) (hn : m.Places.length ≤ 64) : ∀ (k : Nat) (last i : Int), 0 ≤ i → (i = 0 ∧ last = -1 ∨ 0 < i ∧ last = (hs.getD (i - 1).toNat default).Place ∧ 0 ≤ last ∧ last < (m.Places.length : Int)) → lo_impl_AreHolds_1 m hs k last i = lo_spec_l04Are_1 m hs k i := by
  intro k
  induction k with
  | zero => intros; rfl
  | succ k ih =>
    intro last i h0 hl
    rw [lo_impl_AreHolds_1, lo_spec_l04Are_1]
    cases decide (i < (hs.length : Int)) with
    | false => rfl
    | true =>
      rw [cond_true, cond_true, show v_impl_IsHold (hs.getD i.toNat default) = v_spec_l04Is (hs.getD i.toNat default) from rfl]
      cases v_spec_l04Is (hs.getD i.toNat default) with
      | false => rfl
      | true =>
        rw [cond_true, cond_true, within_rise _ last (m.Places.length : Int) (by omega) (by omega) (by omega) (by omega)]
        unfold v_spec_l02Place
        cases hP : v_spec_l00In ((hs.getD i.toNat default).Place) 0 (IntKind.wrap .i64 ((m.Places.length : Int) - 1)) with
        | false => rfl
        | true =>
          rw [Bool.true_and, cond_true]
          have hb : 0 ≤ (hs.getD i.toNat default).Place ∧ (hs.getD i.toNat default).Place < (m.Places.length : Int) := by
            unfold v_spec_l00In at hP
            rw [wrap_id (n := (m.Places.length : Int) - 1) (by omega) (by omega)] at hP
            generalize (hs.getD i.toNat default).Place = P at hP ⊢
            by_cases h1 : P ≥ 0 <;> simp [h1] at hP
            omega
          have hi := ih (hs.getD i.toNat default).Place (i + 1) (by omega) (.inr ⟨by omega, by rw [show i + 1 - 1 = i from by omega], hb.1, hb.2⟩)
          rw [hi]
          rcases hl with ⟨hi0, hl⟩ | ⟨hi0, hl, _⟩
          · rw [decide_eq_false (show ¬ last ≥ (hs.getD i.toNat default).Place from by omega), decide_eq_false (show ¬ i > 0 from by omega)]; rfl
          · rw [decide_eq_true (show i > 0 from hi0), cond_true, ← hl]
            cases decide (last ≥ (hs.getD i.toNat default).Place) <;> rfl
theorem eq_AreHolds (m : GMesh) (hs : List GHold) : v_impl_AreHolds m hs = v_spec_l04Are m hs := by
  unfold v_impl_AreHolds v_spec_l04Are
  rw [eq_ValidMesh]
  cases h : v_spec_l02Is m with
  | false => rfl
  | true =>
    unfold lr_impl_AreHolds_1_0 lr_spec_l04Are_1_0
    have hn : m.Places.length ≤ 64 := by
      rw [l02Is_eq] at h
      cases h1 : decide ((m.Places.length : Int) > 64) <;> rw [h1] at h <;> (try (cases h; done))
      simp only [decide_eq_false_iff_not] at h1
      omega
    rw [lo_AreHolds m hs hn _ _ _ (Int.le_refl 0) (.inl ⟨rfl, rfl⟩)]
    rfl

/-- impl.LessVectors -/
def v_impl_LessVectors (a_0 : GVector) (b_1 : GVector) : GVector := (⟨(fop .sub .f32 a_0.X b_1.X), (fop .sub .f32 a_0.Y b_1.Y), (fop .sub .f32 a_0.Z b_1.Z)⟩ : GVector)

theorem t_impl_LessVectors (a_0 : GVector) (b_1 : GVector)   : Fn Go.Proofs.Try.prog 62 [.agg [.f .f32 a_0.X, .f .f32 a_0.Y, .f .f32 a_0.Z], .agg [.f .f32 b_1.X, .f .f32 b_1.Y, .f .f32 b_1.Z]] (.agg [.f .f32 ((v_impl_LessVectors a_0 b_1).X), .f .f32 ((v_impl_LessVectors a_0 b_1).Y), .f .f32 ((v_impl_LessVectors a_0 b_1).Z)]) [] := by
  exact Fn.cast (CallSt.fn (callSt_of_evK (E := E0) E0Ok hMixed (c := bodyOf Go.Proofs.Try.f62) (rows := []) (r := .agg [.f .f32 (fop .sub .f32 a_0.X b_1.X), .f .f32 (fop .sub .f32 a_0.Y b_1.Y), .f .f32 (fop .sub .f32 a_0.Z b_1.Z)]) (rows' := [])
    (ans := [.keep []])
    (ps := [])
    (C := [])
    Go.Proofs.Try.func62 rfl (by kernel_rfl) (by kernel_rfl)
    trivial) rfl) rfl rfl

/-- impl.ScaleVector -/
def v_impl_ScaleVector (v_0 : GVector) (by_1 : Nat) : GVector := (⟨(fop .mul .f32 v_0.X by_1), (fop .mul .f32 v_0.Y by_1), (fop .mul .f32 v_0.Z by_1)⟩ : GVector)

theorem t_impl_ScaleVector (v_0 : GVector) (by_1 : Nat)   : Fn Go.Proofs.Try.prog 82 [.agg [.f .f32 v_0.X, .f .f32 v_0.Y, .f .f32 v_0.Z], .f .f32 by_1] (.agg [.f .f32 ((v_impl_ScaleVector v_0 by_1).X), .f .f32 ((v_impl_ScaleVector v_0 by_1).Y), .f .f32 ((v_impl_ScaleVector v_0 by_1).Z)]) [] := by
  exact Fn.cast (CallSt.fn (callSt_of_evK (E := E0) E0Ok hMixed (c := bodyOf Go.Proofs.Try.f82) (rows := []) (r := .agg [.f .f32 (fop .mul .f32 v_0.X by_1), .f .f32 (fop .mul .f32 v_0.Y by_1), .f .f32 (fop .mul .f32 v_0.Z by_1)]) (rows' := [])
    (ans := [.keep []])
    (ps := [])
    (C := [])
    Go.Proofs.Try.func82 rfl (by kernel_rfl) (by kernel_rfl)
    trivial) rfl) rfl rfl

/-- impl.alongWay -/
def v_impl_alongWay (h_0 : GHold) (v_1 : GVector) : GVector := (v_impl_ScaleVector h_0.Way (fop .quo .f32 (v_impl_InnerOf v_1 h_0.Way) (v_impl_InnerOf h_0.Way h_0.Way)))

theorem t_impl_alongWay (h_0 : GHold) (v_1 : GVector)   : Fn Go.Proofs.Try.prog 124 [.agg [.i .i64 h_0.Place, .i .i64 h_0.Kind, .f .f32 h_0.At.X, .f .f32 h_0.At.Y, .f .f32 h_0.At.Z, .f .f32 h_0.Way.X, .f .f32 h_0.Way.Y, .f .f32 h_0.Way.Z], .agg [.f .f32 v_1.X, .f .f32 v_1.Y, .f .f32 v_1.Z]] (.agg [.f .f32 ((v_impl_alongWay h_0 v_1).X), .f .f32 ((v_impl_alongWay h_0 v_1).Y), .f .f32 ((v_impl_alongWay h_0 v_1).Z)]) [] := by
  exact Fn.cast (CallSt.fn (callSt_of_evK (E := E0) E0Ok hMixed (c := bodyOf Go.Proofs.Try.f124) (rows := []) (r := .agg [.f .f32 ((v_impl_ScaleVector h_0.Way (fop .quo .f32 (v_impl_InnerOf v_1 h_0.Way) (v_impl_InnerOf h_0.Way h_0.Way))).X), .f .f32 ((v_impl_ScaleVector h_0.Way (fop .quo .f32 (v_impl_InnerOf v_1 h_0.Way) (v_impl_InnerOf h_0.Way h_0.Way))).Y), .f .f32 ((v_impl_ScaleVector h_0.Way (fop .quo .f32 (v_impl_InnerOf v_1 h_0.Way) (v_impl_InnerOf h_0.Way h_0.Way))).Z)]) (rows' := [])
    (ans := [.keep [12, 12], .call (.f .f32 (v_impl_InnerOf v_1 h_0.Way)) [], .call (.f .f32 (v_impl_InnerOf h_0.Way h_0.Way)) [], .call (.agg [.f .f32 ((v_impl_ScaleVector h_0.Way (fop .quo .f32 (v_impl_InnerOf v_1 h_0.Way) (v_impl_InnerOf h_0.Way h_0.Way))).X), .f .f32 ((v_impl_ScaleVector h_0.Way (fop .quo .f32 (v_impl_InnerOf v_1 h_0.Way) (v_impl_InnerOf h_0.Way h_0.Way))).Y), .f .f32 ((v_impl_ScaleVector h_0.Way (fop .quo .f32 (v_impl_InnerOf v_1 h_0.Way) (v_impl_InnerOf h_0.Way h_0.Way))).Z)]) [], .keep []])
    (ps := [])
    (C := [Fn Go.Proofs.Try.prog 123 [.agg [.f .f32 v_1.X, .f .f32 v_1.Y, .f .f32 v_1.Z], .agg [.f .f32 h_0.Way.X, .f .f32 h_0.Way.Y, .f .f32 h_0.Way.Z]] (.f .f32 (v_impl_InnerOf v_1 h_0.Way)) [],
      Fn Go.Proofs.Try.prog 123 [.agg [.f .f32 h_0.Way.X, .f .f32 h_0.Way.Y, .f .f32 h_0.Way.Z], .agg [.f .f32 h_0.Way.X, .f .f32 h_0.Way.Y, .f .f32 h_0.Way.Z]] (.f .f32 (v_impl_InnerOf h_0.Way h_0.Way)) [],
      Fn Go.Proofs.Try.prog 82 [.agg [.f .f32 h_0.Way.X, .f .f32 h_0.Way.Y, .f .f32 h_0.Way.Z], .f .f32 (fop .quo .f32 (v_impl_InnerOf v_1 h_0.Way) (v_impl_InnerOf h_0.Way h_0.Way))] (.agg [.f .f32 ((v_impl_ScaleVector h_0.Way (fop .quo .f32 (v_impl_InnerOf v_1 h_0.Way) (v_impl_InnerOf h_0.Way h_0.Way))).X), .f .f32 ((v_impl_ScaleVector h_0.Way (fop .quo .f32 (v_impl_InnerOf v_1 h_0.Way) (v_impl_InnerOf h_0.Way h_0.Way))).Y), .f .f32 ((v_impl_ScaleVector h_0.Way (fop .quo .f32 (v_impl_InnerOf v_1 h_0.Way) (v_impl_InnerOf h_0.Way h_0.Way))).Z)]) []])
    Go.Proofs.Try.func124 rfl (by kernel_rfl) (by kernel_rfl)
    ⟨(t_impl_InnerOf v_1 h_0.Way), (t_impl_InnerOf h_0.Way h_0.Way), (t_impl_ScaleVector h_0.Way (fop .quo .f32 (v_impl_InnerOf v_1 h_0.Way) (v_impl_InnerOf h_0.Way h_0.Way))), trivial⟩) rfl) rfl rfl

/-- impl.AddVectors -/
def v_impl_AddVectors (a_0 : GVector) (b_1 : GVector) : GVector := (⟨(fop .add .f32 a_0.X b_1.X), (fop .add .f32 a_0.Y b_1.Y), (fop .add .f32 a_0.Z b_1.Z)⟩ : GVector)

theorem t_impl_AddVectors (a_0 : GVector) (b_1 : GVector)   : Fn Go.Proofs.Try.prog 102 [.agg [.f .f32 a_0.X, .f .f32 a_0.Y, .f .f32 a_0.Z], .agg [.f .f32 b_1.X, .f .f32 b_1.Y, .f .f32 b_1.Z]] (.agg [.f .f32 ((v_impl_AddVectors a_0 b_1).X), .f .f32 ((v_impl_AddVectors a_0 b_1).Y), .f .f32 ((v_impl_AddVectors a_0 b_1).Z)]) [] := by
  exact Fn.cast (CallSt.fn (callSt_of_evK (E := E0) E0Ok hMixed (c := bodyOf Go.Proofs.Try.f102) (rows := []) (r := .agg [.f .f32 (fop .add .f32 a_0.X b_1.X), .f .f32 (fop .add .f32 a_0.Y b_1.Y), .f .f32 (fop .add .f32 a_0.Z b_1.Z)]) (rows' := [])
    (ans := [.keep []])
    (ps := [])
    (C := [])
    Go.Proofs.Try.func102 rfl (by kernel_rfl) (by kernel_rfl)
    trivial) rfl) rfl rfl

/-- impl.holdPlace -/
def v_impl_holdPlace (h_0 : GHold) (place_1 : GVector) : GVector := (cond (h_0.Kind == 0)
  h_0.At
  (cond (h_0.Kind == 1)
    (v_impl_AddVectors h_0.At (v_impl_alongWay h_0 (v_impl_LessVectors place_1 h_0.At)))
    (v_impl_LessVectors place_1 (v_impl_alongWay h_0 (v_impl_LessVectors place_1 h_0.At)))))

theorem t_impl_holdPlace (h_0 : GHold) (place_1 : GVector)   : Fn Go.Proofs.Try.prog 63 [.agg [.i .i64 h_0.Place, .i .i64 h_0.Kind, .f .f32 h_0.At.X, .f .f32 h_0.At.Y, .f .f32 h_0.At.Z, .f .f32 h_0.Way.X, .f .f32 h_0.Way.Y, .f .f32 h_0.Way.Z], .agg [.f .f32 place_1.X, .f .f32 place_1.Y, .f .f32 place_1.Z]] (.agg [.f .f32 ((v_impl_holdPlace h_0 place_1).X), .f .f32 ((v_impl_holdPlace h_0 place_1).Y), .f .f32 ((v_impl_holdPlace h_0 place_1).Z)]) [] := by
  cases h0 : (h_0.Kind == 0) with
  | true =>
    exact Fn.cast (CallSt.fn (callSt_of_evK (E := E0) E0Ok hMixed (c := bodyOf Go.Proofs.Try.f63) (rows := []) (r := .agg [.f .f32 h_0.At.X, .f .f32 h_0.At.Y, .f .f32 h_0.At.Z]) (rows' := [])
      (ans := [.bo true, .keep []])
      (ps := [])
      (C := [(h_0.Kind == 0) = true])
      Go.Proofs.Try.func63 rfl (by kernel_rfl) (by kernel_rfl)
      ⟨h0, trivial⟩) rfl) (by simp only [v_impl_holdPlace, h0, cond_true]) rfl
  | false =>
    cases h1 : (h_0.Kind == 1) with
    | true =>
      exact Fn.cast (CallSt.fn (callSt_of_evK (E := E0) E0Ok hMixed (c := bodyOf Go.Proofs.Try.f63) (rows := []) (r := .agg [.f .f32 ((v_impl_AddVectors h_0.At (v_impl_alongWay h_0 (v_impl_LessVectors place_1 h_0.At))).X), .f .f32 ((v_impl_AddVectors h_0.At (v_impl_alongWay h_0 (v_impl_LessVectors place_1 h_0.At))).Y), .f .f32 ((v_impl_AddVectors h_0.At (v_impl_alongWay h_0 (v_impl_LessVectors place_1 h_0.At))).Z)]) (rows' := [])
        (ans := [.bo false, .keep [7, 7], .call (.agg [.f .f32 ((v_impl_LessVectors place_1 h_0.At).X), .f .f32 ((v_impl_LessVectors place_1 h_0.At).Y), .f .f32 ((v_impl_LessVectors place_1 h_0.At).Z)]) [], .call (.agg [.f .f32 ((v_impl_alongWay h_0 (v_impl_LessVectors place_1 h_0.At)).X), .f .f32 ((v_impl_alongWay h_0 (v_impl_LessVectors place_1 h_0.At)).Y), .f .f32 ((v_impl_alongWay h_0 (v_impl_LessVectors place_1 h_0.At)).Z)]) [], .bo true, .call (.agg [.f .f32 ((v_impl_AddVectors h_0.At (v_impl_alongWay h_0 (v_impl_LessVectors place_1 h_0.At))).X), .f .f32 ((v_impl_AddVectors h_0.At (v_impl_alongWay h_0 (v_impl_LessVectors place_1 h_0.At))).Y), .f .f32 ((v_impl_AddVectors h_0.At (v_impl_alongWay h_0 (v_impl_LessVectors place_1 h_0.At))).Z)]) [], .keep []])
        (ps := [])
        (C := [(h_0.Kind == 0) = false,
          Fn Go.Proofs.Try.prog 62 [.agg [.f .f32 place_1.X, .f .f32 place_1.Y, .f .f32 place_1.Z], .agg [.f .f32 h_0.At.X, .f .f32 h_0.At.Y, .f .f32 h_0.At.Z]] (.agg [.f .f32 ((v_impl_LessVectors place_1 h_0.At).X), .f .f32 ((v_impl_LessVectors place_1 h_0.At).Y), .f .f32 ((v_impl_LessVectors place_1 h_0.At).Z)]) [],
          Fn Go.Proofs.Try.prog 124 [.agg [.i .i64 h_0.Place, .i .i64 h_0.Kind, .f .f32 h_0.At.X, .f .f32 h_0.At.Y, .f .f32 h_0.At.Z, .f .f32 h_0.Way.X, .f .f32 h_0.Way.Y, .f .f32 h_0.Way.Z], .agg [.f .f32 ((v_impl_LessVectors place_1 h_0.At).X), .f .f32 ((v_impl_LessVectors place_1 h_0.At).Y), .f .f32 ((v_impl_LessVectors place_1 h_0.At).Z)]] (.agg [.f .f32 ((v_impl_alongWay h_0 (v_impl_LessVectors place_1 h_0.At)).X), .f .f32 ((v_impl_alongWay h_0 (v_impl_LessVectors place_1 h_0.At)).Y), .f .f32 ((v_impl_alongWay h_0 (v_impl_LessVectors place_1 h_0.At)).Z)]) [],
          (h_0.Kind == 1) = true,
          Fn Go.Proofs.Try.prog 102 [.agg [.f .f32 h_0.At.X, .f .f32 h_0.At.Y, .f .f32 h_0.At.Z], .agg [.f .f32 ((v_impl_alongWay h_0 (v_impl_LessVectors place_1 h_0.At)).X), .f .f32 ((v_impl_alongWay h_0 (v_impl_LessVectors place_1 h_0.At)).Y), .f .f32 ((v_impl_alongWay h_0 (v_impl_LessVectors place_1 h_0.At)).Z)]] (.agg [.f .f32 ((v_impl_AddVectors h_0.At (v_impl_alongWay h_0 (v_impl_LessVectors place_1 h_0.At))).X), .f .f32 ((v_impl_AddVectors h_0.At (v_impl_alongWay h_0 (v_impl_LessVectors place_1 h_0.At))).Y), .f .f32 ((v_impl_AddVectors h_0.At (v_impl_alongWay h_0 (v_impl_LessVectors place_1 h_0.At))).Z)]) []])
        Go.Proofs.Try.func63 rfl (by kernel_rfl) (by kernel_rfl)
        ⟨h0, (t_impl_LessVectors place_1 h_0.At), (t_impl_alongWay h_0 (v_impl_LessVectors place_1 h_0.At)), h1, (t_impl_AddVectors h_0.At (v_impl_alongWay h_0 (v_impl_LessVectors place_1 h_0.At))), trivial⟩) rfl) (by simp only [v_impl_holdPlace, h0, h1, cond_true, cond_false]) rfl
    | false =>
      exact Fn.cast (CallSt.fn (callSt_of_evK (E := E0) E0Ok hMixed (c := bodyOf Go.Proofs.Try.f63) (rows := []) (r := .agg [.f .f32 ((v_impl_LessVectors place_1 (v_impl_alongWay h_0 (v_impl_LessVectors place_1 h_0.At))).X), .f .f32 ((v_impl_LessVectors place_1 (v_impl_alongWay h_0 (v_impl_LessVectors place_1 h_0.At))).Y), .f .f32 ((v_impl_LessVectors place_1 (v_impl_alongWay h_0 (v_impl_LessVectors place_1 h_0.At))).Z)]) (rows' := [])
        (ans := [.bo false, .keep [7, 7], .call (.agg [.f .f32 ((v_impl_LessVectors place_1 h_0.At).X), .f .f32 ((v_impl_LessVectors place_1 h_0.At).Y), .f .f32 ((v_impl_LessVectors place_1 h_0.At).Z)]) [], .call (.agg [.f .f32 ((v_impl_alongWay h_0 (v_impl_LessVectors place_1 h_0.At)).X), .f .f32 ((v_impl_alongWay h_0 (v_impl_LessVectors place_1 h_0.At)).Y), .f .f32 ((v_impl_alongWay h_0 (v_impl_LessVectors place_1 h_0.At)).Z)]) [], .bo false, .call (.agg [.f .f32 ((v_impl_LessVectors place_1 (v_impl_alongWay h_0 (v_impl_LessVectors place_1 h_0.At))).X), .f .f32 ((v_impl_LessVectors place_1 (v_impl_alongWay h_0 (v_impl_LessVectors place_1 h_0.At))).Y), .f .f32 ((v_impl_LessVectors place_1 (v_impl_alongWay h_0 (v_impl_LessVectors place_1 h_0.At))).Z)]) [], .keep []])
        (ps := [])
        (C := [(h_0.Kind == 0) = false,
          Fn Go.Proofs.Try.prog 62 [.agg [.f .f32 place_1.X, .f .f32 place_1.Y, .f .f32 place_1.Z], .agg [.f .f32 h_0.At.X, .f .f32 h_0.At.Y, .f .f32 h_0.At.Z]] (.agg [.f .f32 ((v_impl_LessVectors place_1 h_0.At).X), .f .f32 ((v_impl_LessVectors place_1 h_0.At).Y), .f .f32 ((v_impl_LessVectors place_1 h_0.At).Z)]) [],
          Fn Go.Proofs.Try.prog 124 [.agg [.i .i64 h_0.Place, .i .i64 h_0.Kind, .f .f32 h_0.At.X, .f .f32 h_0.At.Y, .f .f32 h_0.At.Z, .f .f32 h_0.Way.X, .f .f32 h_0.Way.Y, .f .f32 h_0.Way.Z], .agg [.f .f32 ((v_impl_LessVectors place_1 h_0.At).X), .f .f32 ((v_impl_LessVectors place_1 h_0.At).Y), .f .f32 ((v_impl_LessVectors place_1 h_0.At).Z)]] (.agg [.f .f32 ((v_impl_alongWay h_0 (v_impl_LessVectors place_1 h_0.At)).X), .f .f32 ((v_impl_alongWay h_0 (v_impl_LessVectors place_1 h_0.At)).Y), .f .f32 ((v_impl_alongWay h_0 (v_impl_LessVectors place_1 h_0.At)).Z)]) [],
          (h_0.Kind == 1) = false,
          Fn Go.Proofs.Try.prog 62 [.agg [.f .f32 place_1.X, .f .f32 place_1.Y, .f .f32 place_1.Z], .agg [.f .f32 ((v_impl_alongWay h_0 (v_impl_LessVectors place_1 h_0.At)).X), .f .f32 ((v_impl_alongWay h_0 (v_impl_LessVectors place_1 h_0.At)).Y), .f .f32 ((v_impl_alongWay h_0 (v_impl_LessVectors place_1 h_0.At)).Z)]] (.agg [.f .f32 ((v_impl_LessVectors place_1 (v_impl_alongWay h_0 (v_impl_LessVectors place_1 h_0.At))).X), .f .f32 ((v_impl_LessVectors place_1 (v_impl_alongWay h_0 (v_impl_LessVectors place_1 h_0.At))).Y), .f .f32 ((v_impl_LessVectors place_1 (v_impl_alongWay h_0 (v_impl_LessVectors place_1 h_0.At))).Z)]) []])
        Go.Proofs.Try.func63 rfl (by kernel_rfl) (by kernel_rfl)
        ⟨h0, (t_impl_LessVectors place_1 h_0.At), (t_impl_alongWay h_0 (v_impl_LessVectors place_1 h_0.At)), h1, (t_impl_LessVectors place_1 (v_impl_alongWay h_0 (v_impl_LessVectors place_1 h_0.At))), trivial⟩) rfl) (by simp only [v_impl_holdPlace, h0, h1, cond_false]) rfl

/-- impl.RootNumber -/
def v_impl_RootNumber (x_0 : Nat) : Nat := (fcv .f64 .f32 (v_math_Sqrt (fcv .f32 .f64 x_0)))

theorem t_impl_RootNumber (x_0 : Nat)   : Fn Go.Proofs.Try.prog 122 [.f .f32 x_0] (.f .f32 (v_impl_RootNumber x_0)) [] := by
  exact Fn.cast (CallSt.fn (callSt_of_evK (E := E0) E0Ok hMixed (c := bodyOf Go.Proofs.Try.f122) (rows := []) (r := .f .f32 (fcv .f64 .f32 (v_math_Sqrt (fcv .f32 .f64 x_0)))) (rows' := [])
    (ans := [.call (.f .f64 (v_math_Sqrt (fcv .f32 .f64 x_0))) [], .keep []])
    (ps := [])
    (C := [fcvOk .f32 .f64 x_0 = true,
      Fn Go.Proofs.Try.prog 148 [.f .f64 (fcv .f32 .f64 x_0)] (.f .f64 (v_math_Sqrt (fcv .f32 .f64 x_0))) [],
      fcvOk .f64 .f32 (v_math_Sqrt (fcv .f32 .f64 x_0)) = true])
    Go.Proofs.Try.func122 rfl (by kernel_rfl) (by kernel_rfl)
    ⟨(widenOk _), (t_math_Sqrt (fcv .f32 .f64 x_0)), (narrow_sqrt _), trivial⟩) rfl) rfl rfl

/-- impl.LongOf -/
def v_impl_LongOf (v_0 : GVector) : Nat := (v_impl_RootNumber (v_impl_InnerOf v_0 v_0))

theorem t_impl_LongOf (v_0 : GVector)   : Fn Go.Proofs.Try.prog 61 [.agg [.f .f32 v_0.X, .f .f32 v_0.Y, .f .f32 v_0.Z]] (.f .f32 (v_impl_LongOf v_0)) [] := by
  exact Fn.cast (CallSt.fn (callSt_of_evK (E := E0) E0Ok hMixed (c := bodyOf Go.Proofs.Try.f61) (rows := []) (r := .f .f32 (v_impl_RootNumber (v_impl_InnerOf v_0 v_0))) (rows' := [])
    (ans := [.call (.f .f32 (v_impl_InnerOf v_0 v_0)) [], .call (.f .f32 (v_impl_RootNumber (v_impl_InnerOf v_0 v_0))) [], .keep []])
    (ps := [])
    (C := [Fn Go.Proofs.Try.prog 123 [.agg [.f .f32 v_0.X, .f .f32 v_0.Y, .f .f32 v_0.Z], .agg [.f .f32 v_0.X, .f .f32 v_0.Y, .f .f32 v_0.Z]] (.f .f32 (v_impl_InnerOf v_0 v_0)) [],
      Fn Go.Proofs.Try.prog 122 [.f .f32 (v_impl_InnerOf v_0 v_0)] (.f .f32 (v_impl_RootNumber (v_impl_InnerOf v_0 v_0))) []])
    Go.Proofs.Try.func61 rfl (by kernel_rfl) (by kernel_rfl)
    ⟨(t_impl_InnerOf v_0 v_0), (t_impl_RootNumber (v_impl_InnerOf v_0 v_0)), trivial⟩) rfl) rfl rfl

def nd_impl_OffHolds_0 (m_0 : GMesh) (holds_1 : (List GHold)) (x_l1 : Int) : GVector := (v_impl_LessVectors (m_0.Places.getD ((holds_1.getD x_l1.toNat default).Place).toNat default) (v_impl_holdPlace (holds_1.getD x_l1.toNat default) (m_0.Places.getD ((holds_1.getD x_l1.toNat default).Place).toNat default)))

def lo_impl_OffHolds_1 (m_0 : GMesh) (holds_1 : (List GHold)) : Nat → Nat → Int → Nat
  | 0, _, _ => default
  | k + 1, most_l0, x_l1 => (cond (decide (x_l1 < (holds_1.length : Int)))
    (cond (fcmp .gtr .f32 (v_impl_LongOf (nd_impl_OffHolds_0 m_0 holds_1 x_l1)) most_l0)
      (lo_impl_OffHolds_1 m_0 holds_1 k (v_impl_LongOf (nd_impl_OffHolds_0 m_0 holds_1 x_l1)) (x_l1 + 1))
      (lo_impl_OffHolds_1 m_0 holds_1 k most_l0 (x_l1 + 1)))
    most_l0)

def ls_impl_OffHolds_1 (m_0 : GMesh) (holds_1 : (List GHold)) (r : Nat) : Ex × St := ((.exit 0), ⟨[.agg [.sl (m_0.Places.map GVector.cells), .sl (m_0.Triangles.map (cL (cI .i64)))], .sl (holds_1.map GHold.cells), .ptr 0 0 0, .any, .f .f32 0, .b false, .f .f32 r, .any, .any, .any, .any, .agg [.sl (m_0.Places.map GVector.cells), .sl (m_0.Triangles.map (cL (cI .i64)))], .sl (holds_1.map GHold.cells), .b (v_impl_AreHolds m_0 holds_1), .b (!(v_impl_AreHolds m_0 holds_1)), .sl (holds_1.map GHold.cells), .any, .any, .any, .any, .any, .any, .any, .any, .any, .any, .any, .any, .any, .any, .any, .any, .any, .any, .any, .any, .any, .any, .any], [.box 34 [.sl (m_0.Places.map GVector.cells), .sl (m_0.Triangles.map (cL (cI .i64)))]]⟩)

theorem lp_impl_OffHolds_1 (m_0 : GMesh) (holds_1 : (List GHold)) (hp0 : m_0.Places.length ≤ 1073741824) (hp1 : m_0.Triangles.length ≤ 1073741824) (hp2 : ∀ t ∈ m_0.Triangles, t.length ≤ 1073741824) (hp3 : holds_1.length ≤ 1073741824) (hf_impl_OffHolds_1_0 : (v_impl_AreHolds m_0 holds_1) = true) : ∀ (k : Nat) (most_l0 : Nat) (x_l1 : Int) (hv_impl_OffHolds_1_0 : 0 ≤ x_l1) (hk : ((holds_1.length : Int) - x_l1).toNat < k), Lp Go.Proofs.Try.prog 0 (sub (bodyOf Go.Proofs.Try.f16) [1, 1, 1, 0, 1, 0, 0]) ⟨[.agg [.sl (m_0.Places.map GVector.cells), .sl (m_0.Triangles.map (cL (cI .i64)))], .sl (holds_1.map GHold.cells), .ptr 0 0 0, .any, .f .f32 0, .b false, .f .f32 most_l0, .any, .any, .any, .any, .agg [.sl (m_0.Places.map GVector.cells), .sl (m_0.Triangles.map (cL (cI .i64)))], .sl (holds_1.map GHold.cells), .b (v_impl_AreHolds m_0 holds_1), .b (!(v_impl_AreHolds m_0 holds_1)), .sl (holds_1.map GHold.cells), .i .i64 (holds_1.length : Int), .i .i64 x_l1, .any, .any, .any, .any, .any, .any, .any, .any, .any, .any, .any, .any, .any, .any, .any, .any, .any, .any, .any, .any, .any], [.box 34 [.sl (m_0.Places.map GVector.cells), .sl (m_0.Triangles.map (cL (cI .i64)))]]⟩ (ls_impl_OffHolds_1 m_0 holds_1 (lo_impl_OffHolds_1 m_0 holds_1 k most_l0 x_l1)).1 (ls_impl_OffHolds_1 m_0 holds_1 (lo_impl_OffHolds_1 m_0 holds_1 k most_l0 x_l1)).2 := by
  intro k
  induction k with
  | zero => intro most_l0 x_l1 hv_impl_OffHolds_1_0 hk; exact absurd hk (Nat.not_lt_zero _)
  | succ k ih =>
    intro most_l0 x_l1 hv_impl_OffHolds_1_0 hk
    cases h_0 : (decide (x_l1 < (holds_1.length : Int))) with
    | true =>
      cases h_1 : (fcmp .gtr .f32 (v_impl_LongOf (nd_impl_OffHolds_0 m_0 holds_1 x_l1)) most_l0) with
      | true =>
        have e : lo_impl_OffHolds_1 m_0 holds_1 (k + 1) most_l0 x_l1 = (lo_impl_OffHolds_1 m_0 holds_1 k (v_impl_LongOf (nd_impl_OffHolds_0 m_0 holds_1 x_l1)) (x_l1 + 1)) := by simp only [lo_impl_OffHolds_1, h_0, h_1, cond_true]
        rw [e]
        exact stepK_next (E := E0) E0Ok hMixed (body := (sub (bodyOf Go.Proofs.Try.f16) [1, 1, 1, 0, 1, 0, 0])) (st := ⟨[.agg [.sl (m_0.Places.map GVector.cells), .sl (m_0.Triangles.map (cL (cI .i64)))], .sl (holds_1.map GHold.cells), .ptr 0 0 0, .any, .f .f32 0, .b false, .f .f32 most_l0, .any, .any, .any, .any, .agg [.sl (m_0.Places.map GVector.cells), .sl (m_0.Triangles.map (cL (cI .i64)))], .sl (holds_1.map GHold.cells), .b (v_impl_AreHolds m_0 holds_1), .b (!(v_impl_AreHolds m_0 holds_1)), .sl (holds_1.map GHold.cells), .i .i64 (holds_1.length : Int), .i .i64 x_l1, .any, .any, .any, .any, .any, .any, .any, .any, .any, .any, .any, .any, .any, .any, .any, .any, .any, .any, .any, .any, .any], [.box 34 [.sl (m_0.Places.map GVector.cells), .sl (m_0.Triangles.map (cL (cI .i64)))]]⟩)
          (st2 := ⟨[.agg [.sl (m_0.Places.map GVector.cells), .sl (m_0.Triangles.map (cL (cI .i64)))], .sl (holds_1.map GHold.cells), .ptr 0 0 0, .any, .f .f32 0, .b false, .f .f32 (v_impl_LongOf (nd_impl_OffHolds_0 m_0 holds_1 x_l1)), .any, .any, .any, .any, .agg [.sl (m_0.Places.map GVector.cells), .sl (m_0.Triangles.map (cL (cI .i64)))], .sl (holds_1.map GHold.cells), .b (v_impl_AreHolds m_0 holds_1), .b (!(v_impl_AreHolds m_0 holds_1)), .sl (holds_1.map GHold.cells), .i .i64 (holds_1.length : Int), .i .i64 (x_l1 + 1), .any, .any, .any, .any, .any, .any, .any, .any, .any, .any, .any, .any, .any, .any, .any, .any, .any, .any, .any, .any, .any], [.box 34 [.sl (m_0.Places.map GVector.cells), .sl (m_0.Triangles.map (cL (cI .i64)))]]⟩)
          (ans := [.bo true, .el [.i .i64 ((holds_1.getD x_l1.toNat default).Place), .i .i64 ((holds_1.getD x_l1.toNat default).Kind), .f .f32 ((holds_1.getD x_l1.toNat default).At.X), .f .f32 ((holds_1.getD x_l1.toNat default).At.Y), .f .f32 ((holds_1.getD x_l1.toNat default).At.Z), .f .f32 ((holds_1.getD x_l1.toNat default).Way.X), .f .f32 ((holds_1.getD x_l1.toNat default).Way.Y), .f .f32 ((holds_1.getD x_l1.toNat default).Way.Z)], .el [.f .f32 ((m_0.Places.getD ((holds_1.getD x_l1.toNat default).Place).toNat default).X), .f .f32 ((m_0.Places.getD ((holds_1.getD x_l1.toNat default).Place).toNat default).Y), .f .f32 ((m_0.Places.getD ((holds_1.getD x_l1.toNat default).Place).toNat default).Z)], .keep [4, 4], .call (.agg [.f .f32 ((v_impl_holdPlace (holds_1.getD x_l1.toNat default) (m_0.Places.getD ((holds_1.getD x_l1.toNat default).Place).toNat default)).X), .f .f32 ((v_impl_holdPlace (holds_1.getD x_l1.toNat default) (m_0.Places.getD ((holds_1.getD x_l1.toNat default).Place).toNat default)).Y), .f .f32 ((v_impl_holdPlace (holds_1.getD x_l1.toNat default) (m_0.Places.getD ((holds_1.getD x_l1.toNat default).Place).toNat default)).Z)]) [], .call (.agg [.f .f32 ((nd_impl_OffHolds_0 m_0 holds_1 x_l1).X), .f .f32 ((nd_impl_OffHolds_0 m_0 holds_1 x_l1).Y), .f .f32 ((nd_impl_OffHolds_0 m_0 holds_1 x_l1).Z)]) [], .call (.f .f32 (v_impl_LongOf (nd_impl_OffHolds_0 m_0 holds_1 x_l1))) [], .bo true, .num (x_l1 + 1)])
          (ps := []) (mask := [true, true, true, false, true, true, true, false, false, false, false, true, true, true, true, true, true, true, false, false, false, false, false, false, false, false, false, false, false, false, false, false, false, false, false, false, false, false, false]) (ks := [0])
          (C := [(decide (x_l1 < (holds_1.length : Int))) = true,
            0 ≤ x_l1 ∧ (holds_1.map GHold.cells)[Int.toNat x_l1]? = some [.i .i64 ((holds_1.getD x_l1.toNat default).Place), .i .i64 ((holds_1.getD x_l1.toNat default).Kind), .f .f32 ((holds_1.getD x_l1.toNat default).At.X), .f .f32 ((holds_1.getD x_l1.toNat default).At.Y), .f .f32 ((holds_1.getD x_l1.toNat default).At.Z), .f .f32 ((holds_1.getD x_l1.toNat default).Way.X), .f .f32 ((holds_1.getD x_l1.toNat default).Way.Y), .f .f32 ((holds_1.getD x_l1.toNat default).Way.Z)],
            0 ≤ ((holds_1.getD x_l1.toNat default).Place) ∧ (m_0.Places.map GVector.cells)[Int.toNat ((holds_1.getD x_l1.toNat default).Place)]? = some [.f .f32 ((m_0.Places.getD ((holds_1.getD x_l1.toNat default).Place).toNat default).X), .f .f32 ((m_0.Places.getD ((holds_1.getD x_l1.toNat default).Place).toNat default).Y), .f .f32 ((m_0.Places.getD ((holds_1.getD x_l1.toNat default).Place).toNat default).Z)],
            Fn Go.Proofs.Try.prog 63 [.agg [.i .i64 ((holds_1.getD x_l1.toNat default).Place), .i .i64 ((holds_1.getD x_l1.toNat default).Kind), .f .f32 ((holds_1.getD x_l1.toNat default).At.X), .f .f32 ((holds_1.getD x_l1.toNat default).At.Y), .f .f32 ((holds_1.getD x_l1.toNat default).At.Z), .f .f32 ((holds_1.getD x_l1.toNat default).Way.X), .f .f32 ((holds_1.getD x_l1.toNat default).Way.Y), .f .f32 ((holds_1.getD x_l1.toNat default).Way.Z)], .agg [.f .f32 ((m_0.Places.getD ((holds_1.getD x_l1.toNat default).Place).toNat default).X), .f .f32 ((m_0.Places.getD ((holds_1.getD x_l1.toNat default).Place).toNat default).Y), .f .f32 ((m_0.Places.getD ((holds_1.getD x_l1.toNat default).Place).toNat default).Z)]] (.agg [.f .f32 ((v_impl_holdPlace (holds_1.getD x_l1.toNat default) (m_0.Places.getD ((holds_1.getD x_l1.toNat default).Place).toNat default)).X), .f .f32 ((v_impl_holdPlace (holds_1.getD x_l1.toNat default) (m_0.Places.getD ((holds_1.getD x_l1.toNat default).Place).toNat default)).Y), .f .f32 ((v_impl_holdPlace (holds_1.getD x_l1.toNat default) (m_0.Places.getD ((holds_1.getD x_l1.toNat default).Place).toNat default)).Z)]) [],
            Fn Go.Proofs.Try.prog 62 [.agg [.f .f32 ((m_0.Places.getD ((holds_1.getD x_l1.toNat default).Place).toNat default).X), .f .f32 ((m_0.Places.getD ((holds_1.getD x_l1.toNat default).Place).toNat default).Y), .f .f32 ((m_0.Places.getD ((holds_1.getD x_l1.toNat default).Place).toNat default).Z)], .agg [.f .f32 ((v_impl_holdPlace (holds_1.getD x_l1.toNat default) (m_0.Places.getD ((holds_1.getD x_l1.toNat default).Place).toNat default)).X), .f .f32 ((v_impl_holdPlace (holds_1.getD x_l1.toNat default) (m_0.Places.getD ((holds_1.getD x_l1.toNat default).Place).toNat default)).Y), .f .f32 ((v_impl_holdPlace (holds_1.getD x_l1.toNat default) (m_0.Places.getD ((holds_1.getD x_l1.toNat default).Place).toNat default)).Z)]] (.agg [.f .f32 ((nd_impl_OffHolds_0 m_0 holds_1 x_l1).X), .f .f32 ((nd_impl_OffHolds_0 m_0 holds_1 x_l1).Y), .f .f32 ((nd_impl_OffHolds_0 m_0 holds_1 x_l1).Z)]) [],
            Fn Go.Proofs.Try.prog 61 [.agg [.f .f32 ((nd_impl_OffHolds_0 m_0 holds_1 x_l1).X), .f .f32 ((nd_impl_OffHolds_0 m_0 holds_1 x_l1).Y), .f .f32 ((nd_impl_OffHolds_0 m_0 holds_1 x_l1).Z)]] (.f .f32 (v_impl_LongOf (nd_impl_OffHolds_0 m_0 holds_1 x_l1))) [],
            (fcmp .gtr .f32 (v_impl_LongOf (nd_impl_OffHolds_0 m_0 holds_1 x_l1)) most_l0) = true,
            IntKind.wrap .i64 (x_l1 + 1) = (x_l1 + 1)])
          (by kernel_rfl)
          ⟨h_0, (get_ok (by first | assumption | omega | (first | (have hi : x_l1 < (holds_1.length : Int) := of_decide_eq_true (by assumption); have h0 : 0 ≤ x_l1 := (by assumption); have q := OkIx.at (okH_is m_0 holds_1 (by rw [← eq_AreHolds]; assumption)).2.1 h0 hi; omega)) | (simp at * <;> omega) | (simp_all <;> omega)) (by first | assumption | omega | (first | (have hi : x_l1 < (holds_1.length : Int) := of_decide_eq_true (by assumption); have h0 : 0 ≤ x_l1 := (by assumption); have q := OkIx.at (okH_is m_0 holds_1 (by rw [← eq_AreHolds]; assumption)).2.1 h0 hi; omega)) | (simp at * <;> omega) | (simp_all <;> omega))), (get_ok (by first | assumption | omega | (first | (have hi : x_l1 < (holds_1.length : Int) := of_decide_eq_true (by assumption); have h0 : 0 ≤ x_l1 := (by assumption); have q := OkIx.at (okH_is m_0 holds_1 (by rw [← eq_AreHolds]; assumption)).2.1 h0 hi; omega)) | (simp at * <;> omega) | (simp_all <;> omega)) (by first | assumption | omega | (first | (have hi : x_l1 < (holds_1.length : Int) := of_decide_eq_true (by assumption); have h0 : 0 ≤ x_l1 := (by assumption); have q := OkIx.at (okH_is m_0 holds_1 (by rw [← eq_AreHolds]; assumption)).2.1 h0 hi; omega)) | (simp at * <;> omega) | (simp_all <;> omega))), (t_impl_holdPlace (holds_1.getD x_l1.toNat default) (m_0.Places.getD ((holds_1.getD x_l1.toNat default).Place).toNat default)), (t_impl_LessVectors (m_0.Places.getD ((holds_1.getD x_l1.toNat default).Place).toNat default) (v_impl_holdPlace (holds_1.getD x_l1.toNat default) (m_0.Places.getD ((holds_1.getD x_l1.toNat default).Place).toNat default))), (t_impl_LongOf (nd_impl_OffHolds_0 m_0 holds_1 x_l1)), h_1, (wrap_id (by first | assumption | omega | (first | (have hi : x_l1 < (holds_1.length : Int) := of_decide_eq_true (by assumption); have h0 : 0 ≤ x_l1 := (by assumption); have q := OkIx.at (okH_is m_0 holds_1 (by rw [← eq_AreHolds]; assumption)).2.1 h0 hi; omega)) | (simp at * <;> omega) | (simp_all <;> omega)) (by first | assumption | omega | (first | (have hi : x_l1 < (holds_1.length : Int) := of_decide_eq_true (by assumption); have h0 : 0 ≤ x_l1 := (by assumption); have q := OkIx.at (okH_is m_0 holds_1 (by rw [← eq_AreHolds]; assumption)).2.1 h0 hi; omega)) | (simp at * <;> omega) | (simp_all <;> omega))), trivial⟩
          rfl (ih (v_impl_LongOf (nd_impl_OffHolds_0 m_0 holds_1 x_l1)) (x_l1 + 1) (show 0 ≤ (x_l1 + 1) from (by first | assumption | omega | (first | (have hi : x_l1 < (holds_1.length : Int) := of_decide_eq_true (by assumption); have h0 : 0 ≤ x_l1 := (by assumption); have q := OkIx.at (okH_is m_0 holds_1 (by rw [← eq_AreHolds]; assumption)).2.1 h0 hi; omega)) | (simp at * <;> omega) | (simp_all <;> omega))) (by first | assumption | omega | (first | (have hi : x_l1 < (holds_1.length : Int) := of_decide_eq_true (by assumption); have h0 : 0 ≤ x_l1 := (by assumption); have q := OkIx.at (okH_is m_0 holds_1 (by rw [← eq_AreHolds]; assumption)).2.1 h0 hi; omega)) | (simp at * <;> omega) | (simp_all <;> omega)))
      | false =>
        have e : lo_impl_OffHolds_1 m_0 holds_1 (k + 1) most_l0 x_l1 = (lo_impl_OffHolds_1 m_0 holds_1 k most_l0 (x_l1 + 1)) := by simp only [lo_impl_OffHolds_1, h_0, h_1, cond_true, cond_false]
        rw [e]
        exact stepK_next (E := E0) E0Ok hMixed (body := (sub (bodyOf Go.Proofs.Try.f16) [1, 1, 1, 0, 1, 0, 0])) (st := ⟨[.agg [.sl (m_0.Places.map GVector.cells), .sl (m_0.Triangles.map (cL (cI .i64)))], .sl (holds_1.map GHold.cells), .ptr 0 0 0, .any, .f .f32 0, .b false, .f .f32 most_l0, .any, .any, .any, .any, .agg [.sl (m_0.Places.map GVector.cells), .sl (m_0.Triangles.map (cL (cI .i64)))], .sl (holds_1.map GHold.cells), .b (v_impl_AreHolds m_0 holds_1), .b (!(v_impl_AreHolds m_0 holds_1)), .sl (holds_1.map GHold.cells), .i .i64 (holds_1.length : Int), .i .i64 x_l1, .any, .any, .any, .any, .any, .any, .any, .any, .any, .any, .any, .any, .any, .any, .any, .any, .any, .any, .any, .any, .any], [.box 34 [.sl (m_0.Places.map GVector.cells), .sl (m_0.Triangles.map (cL (cI .i64)))]]⟩)
          (st2 := ⟨[.agg [.sl (m_0.Places.map GVector.cells), .sl (m_0.Triangles.map (cL (cI .i64)))], .sl (holds_1.map GHold.cells), .ptr 0 0 0, .any, .f .f32 0, .b false, .f .f32 most_l0, .any, .any, .any, .any, .agg [.sl (m_0.Places.map GVector.cells), .sl (m_0.Triangles.map (cL (cI .i64)))], .sl (holds_1.map GHold.cells), .b (v_impl_AreHolds m_0 holds_1), .b (!(v_impl_AreHolds m_0 holds_1)), .sl (holds_1.map GHold.cells), .i .i64 (holds_1.length : Int), .i .i64 (x_l1 + 1), .any, .any, .any, .any, .any, .any, .any, .any, .any, .any, .any, .any, .any, .any, .any, .any, .any, .any, .any, .any, .any], [.box 34 [.sl (m_0.Places.map GVector.cells), .sl (m_0.Triangles.map (cL (cI .i64)))]]⟩)
          (ans := [.bo true, .el [.i .i64 ((holds_1.getD x_l1.toNat default).Place), .i .i64 ((holds_1.getD x_l1.toNat default).Kind), .f .f32 ((holds_1.getD x_l1.toNat default).At.X), .f .f32 ((holds_1.getD x_l1.toNat default).At.Y), .f .f32 ((holds_1.getD x_l1.toNat default).At.Z), .f .f32 ((holds_1.getD x_l1.toNat default).Way.X), .f .f32 ((holds_1.getD x_l1.toNat default).Way.Y), .f .f32 ((holds_1.getD x_l1.toNat default).Way.Z)], .el [.f .f32 ((m_0.Places.getD ((holds_1.getD x_l1.toNat default).Place).toNat default).X), .f .f32 ((m_0.Places.getD ((holds_1.getD x_l1.toNat default).Place).toNat default).Y), .f .f32 ((m_0.Places.getD ((holds_1.getD x_l1.toNat default).Place).toNat default).Z)], .keep [4, 4], .call (.agg [.f .f32 ((v_impl_holdPlace (holds_1.getD x_l1.toNat default) (m_0.Places.getD ((holds_1.getD x_l1.toNat default).Place).toNat default)).X), .f .f32 ((v_impl_holdPlace (holds_1.getD x_l1.toNat default) (m_0.Places.getD ((holds_1.getD x_l1.toNat default).Place).toNat default)).Y), .f .f32 ((v_impl_holdPlace (holds_1.getD x_l1.toNat default) (m_0.Places.getD ((holds_1.getD x_l1.toNat default).Place).toNat default)).Z)]) [], .call (.agg [.f .f32 ((nd_impl_OffHolds_0 m_0 holds_1 x_l1).X), .f .f32 ((nd_impl_OffHolds_0 m_0 holds_1 x_l1).Y), .f .f32 ((nd_impl_OffHolds_0 m_0 holds_1 x_l1).Z)]) [], .call (.f .f32 (v_impl_LongOf (nd_impl_OffHolds_0 m_0 holds_1 x_l1))) [], .bo false, .num (x_l1 + 1)])
          (ps := []) (mask := [true, true, true, false, true, true, true, false, false, false, false, true, true, true, true, true, true, true, false, false, false, false, false, false, false, false, false, false, false, false, false, false, false, false, false, false, false, false, false]) (ks := [0])
          (C := [(decide (x_l1 < (holds_1.length : Int))) = true,
            0 ≤ x_l1 ∧ (holds_1.map GHold.cells)[Int.toNat x_l1]? = some [.i .i64 ((holds_1.getD x_l1.toNat default).Place), .i .i64 ((holds_1.getD x_l1.toNat default).Kind), .f .f32 ((holds_1.getD x_l1.toNat default).At.X), .f .f32 ((holds_1.getD x_l1.toNat default).At.Y), .f .f32 ((holds_1.getD x_l1.toNat default).At.Z), .f .f32 ((holds_1.getD x_l1.toNat default).Way.X), .f .f32 ((holds_1.getD x_l1.toNat default).Way.Y), .f .f32 ((holds_1.getD x_l1.toNat default).Way.Z)],
            0 ≤ ((holds_1.getD x_l1.toNat default).Place) ∧ (m_0.Places.map GVector.cells)[Int.toNat ((holds_1.getD x_l1.toNat default).Place)]? = some [.f .f32 ((m_0.Places.getD ((holds_1.getD x_l1.toNat default).Place).toNat default).X), .f .f32 ((m_0.Places.getD ((holds_1.getD x_l1.toNat default).Place).toNat default).Y), .f .f32 ((m_0.Places.getD ((holds_1.getD x_l1.toNat default).Place).toNat default).Z)],
            Fn Go.Proofs.Try.prog 63 [.agg [.i .i64 ((holds_1.getD x_l1.toNat default).Place), .i .i64 ((holds_1.getD x_l1.toNat default).Kind), .f .f32 ((holds_1.getD x_l1.toNat default).At.X), .f .f32 ((holds_1.getD x_l1.toNat default).At.Y), .f .f32 ((holds_1.getD x_l1.toNat default).At.Z), .f .f32 ((holds_1.getD x_l1.toNat default).Way.X), .f .f32 ((holds_1.getD x_l1.toNat default).Way.Y), .f .f32 ((holds_1.getD x_l1.toNat default).Way.Z)], .agg [.f .f32 ((m_0.Places.getD ((holds_1.getD x_l1.toNat default).Place).toNat default).X), .f .f32 ((m_0.Places.getD ((holds_1.getD x_l1.toNat default).Place).toNat default).Y), .f .f32 ((m_0.Places.getD ((holds_1.getD x_l1.toNat default).Place).toNat default).Z)]] (.agg [.f .f32 ((v_impl_holdPlace (holds_1.getD x_l1.toNat default) (m_0.Places.getD ((holds_1.getD x_l1.toNat default).Place).toNat default)).X), .f .f32 ((v_impl_holdPlace (holds_1.getD x_l1.toNat default) (m_0.Places.getD ((holds_1.getD x_l1.toNat default).Place).toNat default)).Y), .f .f32 ((v_impl_holdPlace (holds_1.getD x_l1.toNat default) (m_0.Places.getD ((holds_1.getD x_l1.toNat default).Place).toNat default)).Z)]) [],
            Fn Go.Proofs.Try.prog 62 [.agg [.f .f32 ((m_0.Places.getD ((holds_1.getD x_l1.toNat default).Place).toNat default).X), .f .f32 ((m_0.Places.getD ((holds_1.getD x_l1.toNat default).Place).toNat default).Y), .f .f32 ((m_0.Places.getD ((holds_1.getD x_l1.toNat default).Place).toNat default).Z)], .agg [.f .f32 ((v_impl_holdPlace (holds_1.getD x_l1.toNat default) (m_0.Places.getD ((holds_1.getD x_l1.toNat default).Place).toNat default)).X), .f .f32 ((v_impl_holdPlace (holds_1.getD x_l1.toNat default) (m_0.Places.getD ((holds_1.getD x_l1.toNat default).Place).toNat default)).Y), .f .f32 ((v_impl_holdPlace (holds_1.getD x_l1.toNat default) (m_0.Places.getD ((holds_1.getD x_l1.toNat default).Place).toNat default)).Z)]] (.agg [.f .f32 ((nd_impl_OffHolds_0 m_0 holds_1 x_l1).X), .f .f32 ((nd_impl_OffHolds_0 m_0 holds_1 x_l1).Y), .f .f32 ((nd_impl_OffHolds_0 m_0 holds_1 x_l1).Z)]) [],
            Fn Go.Proofs.Try.prog 61 [.agg [.f .f32 ((nd_impl_OffHolds_0 m_0 holds_1 x_l1).X), .f .f32 ((nd_impl_OffHolds_0 m_0 holds_1 x_l1).Y), .f .f32 ((nd_impl_OffHolds_0 m_0 holds_1 x_l1).Z)]] (.f .f32 (v_impl_LongOf (nd_impl_OffHolds_0 m_0 holds_1 x_l1))) [],
            (fcmp .gtr .f32 (v_impl_LongOf (nd_impl_OffHolds_0 m_0 holds_1 x_l1)) most_l0) = false,
            IntKind.wrap .i64 (x_l1 + 1) = (x_l1 + 1)])
          (by kernel_rfl)
          ⟨h_0, (get_ok (by first | assumption | omega | (first | (have hi : x_l1 < (holds_1.length : Int) := of_decide_eq_true (by assumption); have h0 : 0 ≤ x_l1 := (by assumption); have q := OkIx.at (okH_is m_0 holds_1 (by rw [← eq_AreHolds]; assumption)).2.1 h0 hi; omega)) | (simp at * <;> omega) | (simp_all <;> omega)) (by first | assumption | omega | (first | (have hi : x_l1 < (holds_1.length : Int) := of_decide_eq_true (by assumption); have h0 : 0 ≤ x_l1 := (by assumption); have q := OkIx.at (okH_is m_0 holds_1 (by rw [← eq_AreHolds]; assumption)).2.1 h0 hi; omega)) | (simp at * <;> omega) | (simp_all <;> omega))), (get_ok (by first | assumption | omega | (first | (have hi : x_l1 < (holds_1.length : Int) := of_decide_eq_true (by assumption); have h0 : 0 ≤ x_l1 := (by assumption); have q := OkIx.at (okH_is m_0 holds_1 (by rw [← eq_AreHolds]; assumption)).2.1 h0 hi; omega)) | (simp at * <;> omega) | (simp_all <;> omega)) (by first | assumption | omega | (first | (have hi : x_l1 < (holds_1.length : Int) := of_decide_eq_true (by assumption); have h0 : 0 ≤ x_l1 := (by assumption); have q := OkIx.at (okH_is m_0 holds_1 (by rw [← eq_AreHolds]; assumption)).2.1 h0 hi; omega)) | (simp at * <;> omega) | (simp_all <;> omega))), (t_impl_holdPlace (holds_1.getD x_l1.toNat default) (m_0.Places.getD ((holds_1.getD x_l1.toNat default).Place).toNat default)), (t_impl_LessVectors (m_0.Places.getD ((holds_1.getD x_l1.toNat default).Place).toNat default) (v_impl_holdPlace (holds_1.getD x_l1.toNat default) (m_0.Places.getD ((holds_1.getD x_l1.toNat default).Place).toNat default))), (t_impl_LongOf (nd_impl_OffHolds_0 m_0 holds_1 x_l1)), h_1, (wrap_id (by first | assumption | omega | (first | (have hi : x_l1 < (holds_1.length : Int) := of_decide_eq_true (by assumption); have h0 : 0 ≤ x_l1 := (by assumption); have q := OkIx.at (okH_is m_0 holds_1 (by rw [← eq_AreHolds]; assumption)).2.1 h0 hi; omega)) | (simp at * <;> omega) | (simp_all <;> omega)) (by first | assumption | omega | (first | (have hi : x_l1 < (holds_1.length : Int) := of_decide_eq_true (by assumption); have h0 : 0 ≤ x_l1 := (by assumption); have q := OkIx.at (okH_is m_0 holds_1 (by rw [← eq_AreHolds]; assumption)).2.1 h0 hi; omega)) | (simp at * <;> omega) | (simp_all <;> omega))), trivial⟩
          rfl (ih most_l0 (x_l1 + 1) (show 0 ≤ (x_l1 + 1) from (by first | assumption | omega | (first | (have hi : x_l1 < (holds_1.length : Int) := of_decide_eq_true (by assumption); have h0 : 0 ≤ x_l1 := (by assumption); have q := OkIx.at (okH_is m_0 holds_1 (by rw [← eq_AreHolds]; assumption)).2.1 h0 hi; omega)) | (simp at * <;> omega) | (simp_all <;> omega))) (by first | assumption | omega | (first | (have hi : x_l1 < (holds_1.length : Int) := of_decide_eq_true (by assumption); have h0 : 0 ≤ x_l1 := (by assumption); have q := OkIx.at (okH_is m_0 holds_1 (by rw [← eq_AreHolds]; assumption)).2.1 h0 hi; omega)) | (simp at * <;> omega) | (simp_all <;> omega)))
    | false =>
      have e : lo_impl_OffHolds_1 m_0 holds_1 (k + 1) most_l0 x_l1 = most_l0 := by simp only [lo_impl_OffHolds_1, h_0, cond_false]
      rw [e]
      exact stepK_out (E := E0) E0Ok hMixed (e := (.exit 0)) (body := (sub (bodyOf Go.Proofs.Try.f16) [1, 1, 1, 0, 1, 0, 0])) (st := ⟨[.agg [.sl (m_0.Places.map GVector.cells), .sl (m_0.Triangles.map (cL (cI .i64)))], .sl (holds_1.map GHold.cells), .ptr 0 0 0, .any, .f .f32 0, .b false, .f .f32 most_l0, .any, .any, .any, .any, .agg [.sl (m_0.Places.map GVector.cells), .sl (m_0.Triangles.map (cL (cI .i64)))], .sl (holds_1.map GHold.cells), .b (v_impl_AreHolds m_0 holds_1), .b (!(v_impl_AreHolds m_0 holds_1)), .sl (holds_1.map GHold.cells), .i .i64 (holds_1.length : Int), .i .i64 x_l1, .any, .any, .any, .any, .any, .any, .any, .any, .any, .any, .any, .any, .any, .any, .any, .any, .any, .any, .any, .any, .any], [.box 34 [.sl (m_0.Places.map GVector.cells), .sl (m_0.Triangles.map (cL (cI .i64)))]]⟩)
        (st2 := ⟨[.agg [.sl (m_0.Places.map GVector.cells), .sl (m_0.Triangles.map (cL (cI .i64)))], .sl (holds_1.map GHold.cells), .ptr 0 0 0, .any, .f .f32 0, .b false, .f .f32 most_l0, .any, .any, .any, .any, .agg [.sl (m_0.Places.map GVector.cells), .sl (m_0.Triangles.map (cL (cI .i64)))], .sl (holds_1.map GHold.cells), .b (v_impl_AreHolds m_0 holds_1), .b (!(v_impl_AreHolds m_0 holds_1)), .sl (holds_1.map GHold.cells), .any, .any, .any, .any, .any, .any, .any, .any, .any, .any, .any, .any, .any, .any, .any, .any, .any, .any, .any, .any, .any, .any, .any], [.box 34 [.sl (m_0.Places.map GVector.cells), .sl (m_0.Triangles.map (cL (cI .i64)))]]⟩)
        (ans := [.bo false])
        (ps := []) (mask := [true, true, true, false, true, true, true, false, false, false, false, true, true, true, true, true, false, false, false, false, false, false, false, false, false, false, false, false, false, false, false, false, false, false, false, false, false, false, false]) (ks := [0])
        (C := [(decide (x_l1 < (holds_1.length : Int))) = false])
        (by kernel_rfl)
        ⟨h_0, trivial⟩
        (by intro h; cases h) rfl

def lr_impl_OffHolds_1_0 (m_0 : GMesh) (holds_1 : (List GHold)) : Nat := (lo_impl_OffHolds_1 m_0 holds_1 (((holds_1.length : Int) - 0).toNat + 1) 0 0)

/-- impl.OffHolds -/
def v_impl_OffHolds (m_0 : GMesh) (holds_1 : (List GHold)) : Nat × Bool := (cond (v_impl_AreHolds m_0 holds_1)
  ((lr_impl_OffHolds_1_0 m_0 holds_1), true)
  (0, false))

theorem t_impl_OffHolds (m_0 : GMesh) (holds_1 : (List GHold)) (hp0 : m_0.Places.length ≤ 1073741824) (hp1 : m_0.Triangles.length ≤ 1073741824) (hp2 : ∀ t ∈ m_0.Triangles, t.length ≤ 1073741824) (hp3 : holds_1.length ≤ 1073741824)  : Fn Go.Proofs.Try.prog 16 [.agg [.sl (m_0.Places.map GVector.cells), .sl (m_0.Triangles.map (cL (cI .i64)))], .sl (holds_1.map GHold.cells)] (.tup [.f .f32 ((v_impl_OffHolds m_0 holds_1).1), .b ((v_impl_OffHolds m_0 holds_1).2)]) [] := by
  cases h0 : (v_impl_AreHolds m_0 holds_1) with
  | true =>
    exact Fn.cast (CallSt.fn (callSt_of_evK (E := E0) E0Ok hMixed (c := bodyOf Go.Proofs.Try.f16) (rows := []) (r := .tup [.f .f32 (lr_impl_OffHolds_1_0 m_0 holds_1), .b true]) (rows' := [])
      (ans := [.call (.b (v_impl_AreHolds m_0 holds_1)) [], .bo false, .num (holds_1.length : Int), .loop [true, true, true, false, true, true, true, false, false, false, false, true, true, true, true, true, true, true, false, false, false, false, false, false, false, false, false, false, false, false, false, false, false, false, false, false, false, false, false] 1 (.exit 0) ⟨[.agg [.sl (m_0.Places.map GVector.cells), .sl (m_0.Triangles.map (cL (cI .i64)))], .sl (holds_1.map GHold.cells), .ptr 0 0 0, .any, .f .f32 0, .b false, .f .f32 (lr_impl_OffHolds_1_0 m_0 holds_1), .any, .any, .any, .any, .agg [.sl (m_0.Places.map GVector.cells), .sl (m_0.Triangles.map (cL (cI .i64)))], .sl (holds_1.map GHold.cells), .b (v_impl_AreHolds m_0 holds_1), .b (!(v_impl_AreHolds m_0 holds_1)), .sl (holds_1.map GHold.cells), .any, .any, .any, .any, .any, .any, .any, .any, .any, .any, .any, .any, .any, .any, .any, .any, .any, .any, .any, .any, .any, .any, .any], [.box 34 [.sl (m_0.Places.map GVector.cells), .sl (m_0.Triangles.map (cL (cI .i64)))]]⟩, .keep []])
      (ps := [])
      (C := [Fn Go.Proofs.Try.prog 60 [.agg [.sl (m_0.Places.map GVector.cells), .sl (m_0.Triangles.map (cL (cI .i64)))], .sl (holds_1.map GHold.cells)] (.b (v_impl_AreHolds m_0 holds_1)) [],
        (!(v_impl_AreHolds m_0 holds_1)) = false,
        (((holds_1.map GHold.cells).length : Nat) : Int) = (holds_1.length : Int),
        Lp Go.Proofs.Try.prog 0 (sub (bodyOf Go.Proofs.Try.f16) [1, 1, 1, 0, 1, 0, 0]) ⟨[.agg [.sl (m_0.Places.map GVector.cells), .sl (m_0.Triangles.map (cL (cI .i64)))], .sl (holds_1.map GHold.cells), .ptr 0 0 0, .any, .f .f32 0, .b false, .f .f32 0, .any, .any, .any, .any, .agg [.sl (m_0.Places.map GVector.cells), .sl (m_0.Triangles.map (cL (cI .i64)))], .sl (holds_1.map GHold.cells), .b (v_impl_AreHolds m_0 holds_1), .b (!(v_impl_AreHolds m_0 holds_1)), .sl (holds_1.map GHold.cells), .i .i64 (holds_1.length : Int), .i .i64 0, .any, .any, .any, .any, .any, .any, .any, .any, .any, .any, .any, .any, .any, .any, .any, .any, .any, .any, .any, .any, .any], [.box 34 [.sl (m_0.Places.map GVector.cells), .sl (m_0.Triangles.map (cL (cI .i64)))]]⟩ (.exit 0) ⟨[.agg [.sl (m_0.Places.map GVector.cells), .sl (m_0.Triangles.map (cL (cI .i64)))], .sl (holds_1.map GHold.cells), .ptr 0 0 0, .any, .f .f32 0, .b false, .f .f32 (lr_impl_OffHolds_1_0 m_0 holds_1), .any, .any, .any, .any, .agg [.sl (m_0.Places.map GVector.cells), .sl (m_0.Triangles.map (cL (cI .i64)))], .sl (holds_1.map GHold.cells), .b (v_impl_AreHolds m_0 holds_1), .b (!(v_impl_AreHolds m_0 holds_1)), .sl (holds_1.map GHold.cells), .any, .any, .any, .any, .any, .any, .any, .any, .any, .any, .any, .any, .any, .any, .any, .any, .any, .any, .any, .any, .any, .any, .any], [.box 34 [.sl (m_0.Places.map GVector.cells), .sl (m_0.Triangles.map (cL (cI .i64)))]]⟩])
      Go.Proofs.Try.func16 rfl (by kernel_rfl) (by kernel_rfl)
      ⟨(t_impl_AreHolds m_0 holds_1 (show m_0.Places.length ≤ 1073741824 from (by first | assumption | omega | (first | (have hi : x_l1 < (holds_1.length : Int) := of_decide_eq_true (by assumption); have h0 : 0 ≤ x_l1 := (by assumption); have q := OkIx.at (okH_is m_0 holds_1 (by rw [← eq_AreHolds]; assumption)).2.1 h0 hi; omega)) | (simp at * <;> omega) | (simp_all <;> omega))) (show m_0.Triangles.length ≤ 1073741824 from (by first | assumption | omega | (first | (have hi : x_l1 < (holds_1.length : Int) := of_decide_eq_true (by assumption); have h0 : 0 ≤ x_l1 := (by assumption); have q := OkIx.at (okH_is m_0 holds_1 (by rw [← eq_AreHolds]; assumption)).2.1 h0 hi; omega)) | (simp at * <;> omega) | (simp_all <;> omega))) (show ∀ t ∈ m_0.Triangles, t.length ≤ 1073741824 from (by first | assumption | omega | (first | (have hi : x_l1 < (holds_1.length : Int) := of_decide_eq_true (by assumption); have h0 : 0 ≤ x_l1 := (by assumption); have q := OkIx.at (okH_is m_0 holds_1 (by rw [← eq_AreHolds]; assumption)).2.1 h0 hi; omega)) | (simp at * <;> omega) | (simp_all <;> omega))) (show holds_1.length ≤ 1073741824 from (by first | assumption | omega | (first | (have hi : x_l1 < (holds_1.length : Int) := of_decide_eq_true (by assumption); have h0 : 0 ≤ x_l1 := (by assumption); have q := OkIx.at (okH_is m_0 holds_1 (by rw [← eq_AreHolds]; assumption)).2.1 h0 hi; omega)) | (simp at * <;> omega) | (simp_all <;> omega)))), (congrArg not h0), len_ok, (lp_impl_OffHolds_1 m_0 holds_1 hp0 hp1 hp2 hp3 h0 (((holds_1.length : Int) - 0).toNat + 1) 0 0 (show 0 ≤ 0 from (by first | assumption | omega | (first | (have hi : x_l1 < (holds_1.length : Int) := of_decide_eq_true (by assumption); have h0 : 0 ≤ x_l1 := (by assumption); have q := OkIx.at (okH_is m_0 holds_1 (by rw [← eq_AreHolds]; assumption)).2.1 h0 hi; omega)) | (simp at * <;> omega) | (simp_all <;> omega))) (Nat.lt_succ_self _)), trivial⟩) rfl) (by simp only [v_impl_OffHolds, h0, cond_true]) rfl
  | false =>
    exact Fn.cast (CallSt.fn (callSt_of_evK (E := E0) E0Ok hMixed (c := bodyOf Go.Proofs.Try.f16) (rows := []) (r := .tup [.f .f32 0, .b false]) (rows' := [])
      (ans := [.call (.b (v_impl_AreHolds m_0 holds_1)) [], .bo true, .keep []])
      (ps := [])
      (C := [Fn Go.Proofs.Try.prog 60 [.agg [.sl (m_0.Places.map GVector.cells), .sl (m_0.Triangles.map (cL (cI .i64)))], .sl (holds_1.map GHold.cells)] (.b (v_impl_AreHolds m_0 holds_1)) [],
        (!(v_impl_AreHolds m_0 holds_1)) = true])
      Go.Proofs.Try.func16 rfl (by kernel_rfl) (by kernel_rfl)
      ⟨(t_impl_AreHolds m_0 holds_1 (show m_0.Places.length ≤ 1073741824 from (by first | assumption | omega | (first | (have hi : x_l1 < (holds_1.length : Int) := of_decide_eq_true (by assumption); have h0 : 0 ≤ x_l1 := (by assumption); have q := OkIx.at (okH_is m_0 holds_1 (by rw [← eq_AreHolds]; assumption)).2.1 h0 hi; omega)) | (simp at * <;> omega) | (simp_all <;> omega))) (show m_0.Triangles.length ≤ 1073741824 from (by first | assumption | omega | (first | (have hi : x_l1 < (holds_1.length : Int) := of_decide_eq_true (by assumption); have h0 : 0 ≤ x_l1 := (by assumption); have q := OkIx.at (okH_is m_0 holds_1 (by rw [← eq_AreHolds]; assumption)).2.1 h0 hi; omega)) | (simp at * <;> omega) | (simp_all <;> omega))) (show ∀ t ∈ m_0.Triangles, t.length ≤ 1073741824 from (by first | assumption | omega | (first | (have hi : x_l1 < (holds_1.length : Int) := of_decide_eq_true (by assumption); have h0 : 0 ≤ x_l1 := (by assumption); have q := OkIx.at (okH_is m_0 holds_1 (by rw [← eq_AreHolds]; assumption)).2.1 h0 hi; omega)) | (simp at * <;> omega) | (simp_all <;> omega))) (show holds_1.length ≤ 1073741824 from (by first | assumption | omega | (first | (have hi : x_l1 < (holds_1.length : Int) := of_decide_eq_true (by assumption); have h0 : 0 ≤ x_l1 := (by assumption); have q := OkIx.at (okH_is m_0 holds_1 (by rw [← eq_AreHolds]; assumption)).2.1 h0 hi; omega)) | (simp at * <;> omega) | (simp_all <;> omega)))), (congrArg not h0), trivial⟩) rfl) (by simp only [v_impl_OffHolds, h0, cond_false]) rfl

/-- laws.sameFloat -/
def v_laws_sameFloat (a_0 : Nat) (b_1 : Nat) : Bool := (cond (fcmp .neq .f64 a_0 a_0)
  (fcmp .neq .f64 b_1 b_1)
  (cond (fcmp .neq .f64 b_1 b_1)
    false
    (cond (fcmp .eql .f64 a_0 0)
      (cond (fcmp .eql .f64 b_1 0)
        ((fcmp .gtr .f64 (fop .quo .f64 4607182418800017408 a_0) 0) == (fcmp .gtr .f64 (fop .quo .f64 4607182418800017408 b_1) 0))
        (fcmp .eql .f64 a_0 b_1))
      (fcmp .eql .f64 a_0 b_1))))

theorem t_laws_sameFloat (a_0 : Nat) (b_1 : Nat)   : Fn Go.Proofs.Try.prog 17 [.f .f64 a_0, .f .f64 b_1] (.b (v_laws_sameFloat a_0 b_1)) [] := by
  cases h0 : (fcmp .neq .f64 a_0 a_0) with
  | true =>
    exact Fn.cast (CallSt.fn (callSt_of_evK (E := E0) E0Ok hMixed (c := bodyOf Go.Proofs.Try.f17) (rows := []) (r := .b (fcmp .neq .f64 b_1 b_1)) (rows' := [])
      (ans := [.bo true, .bo true, .bo true, .bo true, .bo true, .bo true, .bo true, .bo true, .bo true, .keep []])
      (ps := [])
      (C := [(fcmp .neq .f64 a_0 a_0) = true,
        (fcmp .neq .f64 a_0 a_0) = true,
        (fcmp .neq .f64 a_0 a_0) = true,
        (fcmp .neq .f64 a_0 a_0) = true,
        true = true,
        (fcmp .neq .f64 a_0 a_0) = true,
        (fcmp .neq .f64 a_0 a_0) = true,
        (fcmp .neq .f64 a_0 a_0) = true,
        (fcmp .neq .f64 a_0 a_0) = true])
      Go.Proofs.Try.func17 rfl (by kernel_rfl) (by kernel_rfl)
      ⟨h0, h0, h0, h0, rfl, h0, h0, h0, h0, trivial⟩) rfl) (by simp only [v_laws_sameFloat, h0, cond_true]) rfl
  | false =>
    cases h1 : (fcmp .neq .f64 b_1 b_1) with
    | true =>
      exact Fn.cast (CallSt.fn (callSt_of_evK (E := E0) E0Ok hMixed (c := bodyOf Go.Proofs.Try.f17) (rows := []) (r := .b false) (rows' := [])
        (ans := [.bo false, .bo false, .bo false, .bo false, .bo true, .bo false, .bo false, .bo false, .bo false, .keep []])
        (ps := [])
        (C := [(fcmp .neq .f64 a_0 a_0) = false,
          (fcmp .neq .f64 a_0 a_0) = false,
          (fcmp .neq .f64 a_0 a_0) = false,
          (fcmp .neq .f64 a_0 a_0) = false,
          (fcmp .neq .f64 b_1 b_1) = true,
          (fcmp .neq .f64 a_0 a_0) = false,
          (fcmp .neq .f64 a_0 a_0) = false,
          (fcmp .neq .f64 a_0 a_0) = false,
          (fcmp .neq .f64 a_0 a_0) = false])
        Go.Proofs.Try.func17 rfl (by kernel_rfl) (by kernel_rfl)
        ⟨h0, h0, h0, h0, h1, h0, h0, h0, h0, trivial⟩) rfl) (by simp only [v_laws_sameFloat, h0, h1, cond_true, cond_false]) rfl
    | false =>
      cases h2 : (fcmp .eql .f64 a_0 0) with
      | true =>
        cases h3 : (fcmp .eql .f64 b_1 0) with
        | true =>
          exact Fn.cast (CallSt.fn (callSt_of_evK (E := E0) E0Ok hMixed (c := bodyOf Go.Proofs.Try.f17) (rows := []) (r := .b ((fcmp .gtr .f64 (fop .quo .f64 4607182418800017408 a_0) 0) == (fcmp .gtr .f64 (fop .quo .f64 4607182418800017408 b_1) 0))) (rows' := [])
            (ans := [.bo false, .bo false, .bo false, .bo false, .bo false, .bo true, .bo true, .bo true, .bo true, .keep []])
            (ps := [])
            (C := [(fcmp .neq .f64 a_0 a_0) = false,
              (fcmp .neq .f64 a_0 a_0) = false,
              (fcmp .neq .f64 a_0 a_0) = false,
              (fcmp .neq .f64 a_0 a_0) = false,
              (fcmp .neq .f64 b_1 b_1) = false,
              (fcmp .eql .f64 a_0 0) = true,
              (fcmp .eql .f64 a_0 0) = true,
              (fcmp .eql .f64 a_0 0) = true,
              (fcmp .eql .f64 b_1 0) = true])
            Go.Proofs.Try.func17 rfl (by kernel_rfl) (by kernel_rfl)
            ⟨h0, h0, h0, h0, h1, h2, h2, h2, h3, trivial⟩) rfl) (by simp only [v_laws_sameFloat, h0, h1, h2, h3, cond_true, cond_false]) rfl
        | false =>
          exact Fn.cast (CallSt.fn (callSt_of_evK (E := E0) E0Ok hMixed (c := bodyOf Go.Proofs.Try.f17) (rows := []) (r := .b (fcmp .eql .f64 a_0 b_1)) (rows' := [])
            (ans := [.bo false, .bo false, .bo false, .bo false, .bo false, .bo true, .bo true, .bo true, .bo false, .keep []])
            (ps := [])
            (C := [(fcmp .neq .f64 a_0 a_0) = false,
              (fcmp .neq .f64 a_0 a_0) = false,
              (fcmp .neq .f64 a_0 a_0) = false,
              (fcmp .neq .f64 a_0 a_0) = false,
              (fcmp .neq .f64 b_1 b_1) = false,
              (fcmp .eql .f64 a_0 0) = true,
              (fcmp .eql .f64 a_0 0) = true,
              (fcmp .eql .f64 a_0 0) = true,
              (fcmp .eql .f64 b_1 0) = false])
            Go.Proofs.Try.func17 rfl (by kernel_rfl) (by kernel_rfl)
            ⟨h0, h0, h0, h0, h1, h2, h2, h2, h3, trivial⟩) rfl) (by simp only [v_laws_sameFloat, h0, h1, h2, h3, cond_true, cond_false]) rfl
      | false =>
        exact Fn.cast (CallSt.fn (callSt_of_evK (E := E0) E0Ok hMixed (c := bodyOf Go.Proofs.Try.f17) (rows := []) (r := .b (fcmp .eql .f64 a_0 b_1)) (rows' := [])
          (ans := [.bo false, .bo false, .bo false, .bo false, .bo false, .bo false, .bo false, .bo false, .bo false, .keep []])
          (ps := [])
          (C := [(fcmp .neq .f64 a_0 a_0) = false,
            (fcmp .neq .f64 a_0 a_0) = false,
            (fcmp .neq .f64 a_0 a_0) = false,
            (fcmp .neq .f64 a_0 a_0) = false,
            (fcmp .neq .f64 b_1 b_1) = false,
            (fcmp .eql .f64 a_0 0) = false,
            (fcmp .eql .f64 a_0 0) = false,
            (fcmp .eql .f64 a_0 0) = false,
            false = false])
          Go.Proofs.Try.func17 rfl (by kernel_rfl) (by kernel_rfl)
          ⟨h0, h0, h0, h0, h1, h2, h2, h2, rfl, trivial⟩) rfl) (by simp only [v_laws_sameFloat, h0, h1, h2, cond_false]) rfl

end Go.Ab
