/- The functions of this seat as plain Lean, and that the program's are these. Printed by a program of the prover's own. -/
import Derived.Test.YtconncpnjlgelaaB2
set_option linter.unusedVariables false
set_option maxRecDepth 100000
namespace Go.Ab
open Go.RowKit

def lr_impl_ValidMesh_1_1 (m_0 : GMesh) : (Unit) ⊕ (Unit) := (lo_impl_ValidMesh_1 m_0 (((m_0.Triangles.length : Int) - 0).toNat + 1) 0)

/-- impl.ValidMesh -/
def v_impl_ValidMesh (m_0 : GMesh) : Bool := (cond (decide ((m_0.Places.length : Int) > 64))
  false
  (cond (decide ((m_0.Triangles.length : Int) > 128))
    false
    (match (lr_impl_ValidMesh_1_1 m_0) with
      | .inl r3 => false
      | .inr r3 => true)))

theorem t_impl_ValidMesh (m_0 : GMesh) (hp0 : m_0.Places.length ≤ 1073741824) (hp1 : m_0.Triangles.length ≤ 1073741824) (hp2 : ∀ t ∈ m_0.Triangles, t.length ≤ 1073741824)  : Fn Go.Proofs.Try.prog 74 [.agg [.sl (m_0.Places.map GVector.cells), .sl (m_0.Triangles.map (cL (cI .i64)))]] (.b (v_impl_ValidMesh m_0)) [] := by
  cases h0 : (decide ((m_0.Places.length : Int) > 64)) with
  | true =>
    exact Fn.cast (CallSt.fn (callSt_of_evK (E := E0) E0Ok hMixed (c := bodyOf Go.Proofs.Try.f74) (rows := []) (r := .b false) (rows' := [])
      (ans := [.num (m_0.Places.length : Int), .bo true, .bo true, .bo true, .bo true, .bo true, .bo true, .keep []])
      (ps := [])
      (C := [(((m_0.Places.map GVector.cells).length : Nat) : Int) = (m_0.Places.length : Int),
        (decide ((m_0.Places.length : Int) > 64)) = true,
        (decide ((m_0.Places.length : Int) > 64)) = true,
        (decide ((m_0.Places.length : Int) > 64)) = true,
        (decide ((m_0.Places.length : Int) > 64)) = true,
        (decide ((m_0.Places.length : Int) > 64)) = true,
        true = true])
      Go.Proofs.Try.func74 rfl (by kernel_rfl) (by kernel_rfl)
      ⟨len_ok, h0, h0, h0, h0, h0, rfl, trivial⟩) rfl) (by simp only [v_impl_ValidMesh, h0, cond_true]) rfl
  | false =>
    cases h1 : (decide ((m_0.Triangles.length : Int) > 128)) with
    | true =>
      exact Fn.cast (CallSt.fn (callSt_of_evK (E := E0) E0Ok hMixed (c := bodyOf Go.Proofs.Try.f74) (rows := []) (r := .b false) (rows' := [])
        (ans := [.num (m_0.Places.length : Int), .bo false, .bo false, .bo false, .num (m_0.Triangles.length : Int), .bo false, .bo false, .bo true, .keep []])
        (ps := [])
        (C := [(((m_0.Places.map GVector.cells).length : Nat) : Int) = (m_0.Places.length : Int),
          (decide ((m_0.Places.length : Int) > 64)) = false,
          (decide ((m_0.Places.length : Int) > 64)) = false,
          (decide ((m_0.Places.length : Int) > 64)) = false,
          (((m_0.Triangles.map (cL (cI .i64))).length : Nat) : Int) = (m_0.Triangles.length : Int),
          (decide ((m_0.Places.length : Int) > 64)) = false,
          (decide ((m_0.Places.length : Int) > 64)) = false,
          (decide ((m_0.Triangles.length : Int) > 128)) = true])
        Go.Proofs.Try.func74 rfl (by kernel_rfl) (by kernel_rfl)
        ⟨len_ok, h0, h0, h0, len_ok, h0, h0, h1, trivial⟩) rfl) (by simp only [v_impl_ValidMesh, h0, h1, cond_true, cond_false]) rfl
    | false =>
      cases h2 : (lr_impl_ValidMesh_1_1 m_0) with
      | inl r3 =>
        exact Fn.cast (CallSt.fn (callSt_of_evK (E := E0) E0Ok hMixed (c := bodyOf Go.Proofs.Try.f74) (rows := []) (r := .b false) (rows' := [])
          (ans := [.num (m_0.Places.length : Int), .bo false, .bo false, .bo false, .num (m_0.Triangles.length : Int), .bo false, .bo false, .bo false, .num (m_0.Triangles.length : Int), .loop [true, true, false, true, false, false, false, false, true, true, true, true, true, true, true, true, true, true, true, true, true, true, true, false, false, false, false, false, false, false, false, false, false, false, false, false, false, false, false, false, false, false, false, false, false, false, false, false, false, false, false, false, false, false, false, false, false, false, false, false, false, false, false, false, false, false, false, false, false] 1 .ret ⟨[.any, .any, .b false, .any, .any, .any, .any, .any, .any, .any, .any, .any, .any, .any, .any, .any, .any, .any, .any, .any, .any, .any, .any, .any, .any, .any, .any, .any, .any, .any, .any, .any, .any, .any, .any, .any, .any, .any, .any, .any, .any, .any, .any, .any, .any, .any, .any, .any, .any, .any, .any, .any, .any, .any, .any, .any, .any, .any, .any, .any, .any, .any, .any, .any, .any, .any, .any, .any, .any], []⟩, .keep []])
          (ps := [])
          (C := [(((m_0.Places.map GVector.cells).length : Nat) : Int) = (m_0.Places.length : Int),
            (decide ((m_0.Places.length : Int) > 64)) = false,
            (decide ((m_0.Places.length : Int) > 64)) = false,
            (decide ((m_0.Places.length : Int) > 64)) = false,
            (((m_0.Triangles.map (cL (cI .i64))).length : Nat) : Int) = (m_0.Triangles.length : Int),
            (decide ((m_0.Places.length : Int) > 64)) = false,
            (decide ((m_0.Places.length : Int) > 64)) = false,
            (decide ((m_0.Triangles.length : Int) > 128)) = false,
            (((m_0.Triangles.map (cL (cI .i64))).length : Nat) : Int) = (m_0.Triangles.length : Int),
            Lp Go.Proofs.Try.prog 0 (sub (bodyOf Go.Proofs.Try.f74) [1, 1, 1, 0, 1, 0, 0]) ⟨[.agg [.sl (m_0.Places.map GVector.cells), .sl (m_0.Triangles.map (cL (cI .i64)))], .ptr 0 0 0, .any, .i .i64 (m_0.Places.length : Int), .any, .any, .any, .any, .ptr 0 0 0, .sl (m_0.Places.map GVector.cells), .i .i64 (m_0.Places.length : Int), .i .i64 (m_0.Places.length : Int), .b (decide ((m_0.Places.length : Int) > 64)), .b (decide ((m_0.Places.length : Int) > 64)), .ptr 0 0 1, .sl (m_0.Triangles.map (cL (cI .i64))), .i .i64 (m_0.Triangles.length : Int), .b (decide ((m_0.Triangles.length : Int) > 128)), .b (decide ((m_0.Triangles.length : Int) > 128)), .ptr 0 0 1, .sl (m_0.Triangles.map (cL (cI .i64))), .i .i64 (m_0.Triangles.length : Int), .i .i64 0, .any, .any, .any, .any, .any, .any, .any, .any, .any, .any, .any, .any, .any, .any, .any, .any, .any, .any, .any, .any, .any, .any, .any, .any, .any, .any, .any, .any, .any, .any, .any, .any, .any, .any, .any, .any, .any, .any, .any, .any, .any, .any, .any, .any, .any, .any], [.box 36 [.sl (m_0.Places.map GVector.cells), .sl (m_0.Triangles.map (cL (cI .i64)))]]⟩ .ret ⟨[.any, .any, .b false, .any, .any, .any, .any, .any, .any, .any, .any, .any, .any, .any, .any, .any, .any, .any, .any, .any, .any, .any, .any, .any, .any, .any, .any, .any, .any, .any, .any, .any, .any, .any, .any, .any, .any, .any, .any, .any, .any, .any, .any, .any, .any, .any, .any, .any, .any, .any, .any, .any, .any, .any, .any, .any, .any, .any, .any, .any, .any, .any, .any, .any, .any, .any, .any, .any, .any], []⟩])
          Go.Proofs.Try.func74 rfl (by kernel_rfl) (by kernel_rfl)
          ⟨len_ok, h0, h0, h0, len_ok, h0, h0, h1, len_ok, (by have q := (lp_impl_ValidMesh_1 m_0 hp0 hp1 hp2 h0 h1 (((m_0.Triangles.length : Int) - 0).toNat + 1) 0 (show 0 ≤ 0 from (by first | assumption | omega | (simp at * <;> omega) | (simp_all <;> omega))) (Nat.lt_succ_self _)); rw [show (lo_impl_ValidMesh_1 m_0 (((m_0.Triangles.length : Int) - 0).toNat + 1) 0) = _ from rfl] at q; rw [show (lo_impl_ValidMesh_1 m_0 (((m_0.Triangles.length : Int) - 0).toNat + 1) 0) = (lr_impl_ValidMesh_1_1 m_0) from rfl, h2] at q; exact q), trivial⟩) rfl) (by simp only [v_impl_ValidMesh, h0, h1, h2, cond_false]) rfl
      | inr r3 =>
        exact Fn.cast (CallSt.fn (callSt_of_evK (E := E0) E0Ok hMixed (c := bodyOf Go.Proofs.Try.f74) (rows := []) (r := .b true) (rows' := [])
          (ans := [.num (m_0.Places.length : Int), .bo false, .bo false, .bo false, .num (m_0.Triangles.length : Int), .bo false, .bo false, .bo false, .num (m_0.Triangles.length : Int), .loop [true, true, false, true, false, false, false, false, true, true, true, true, true, true, true, true, true, true, true, true, true, true, true, false, false, false, false, false, false, false, false, false, false, false, false, false, false, false, false, false, false, false, false, false, false, false, false, false, false, false, false, false, false, false, false, false, false, false, false, false, false, false, false, false, false, false, false, false, false] 1 (.exit 0) ⟨[.agg [.sl (m_0.Places.map GVector.cells), .sl (m_0.Triangles.map (cL (cI .i64)))], .ptr 0 0 0, .any, .i .i64 (m_0.Places.length : Int), .any, .any, .any, .any, .ptr 0 0 0, .sl (m_0.Places.map GVector.cells), .i .i64 (m_0.Places.length : Int), .i .i64 (m_0.Places.length : Int), .b (decide ((m_0.Places.length : Int) > 64)), .b (decide ((m_0.Places.length : Int) > 64)), .ptr 0 0 1, .sl (m_0.Triangles.map (cL (cI .i64))), .i .i64 (m_0.Triangles.length : Int), .b (decide ((m_0.Triangles.length : Int) > 128)), .b (decide ((m_0.Triangles.length : Int) > 128)), .ptr 0 0 1, .sl (m_0.Triangles.map (cL (cI .i64))), .any, .any, .any, .any, .any, .any, .any, .any, .any, .any, .any, .any, .any, .any, .any, .any, .any, .any, .any, .any, .any, .any, .any, .any, .any, .any, .any, .any, .any, .any, .any, .any, .any, .any, .any, .any, .any, .any, .any, .any, .any, .any, .any, .any, .any, .any, .any, .any], [.box 36 [.sl (m_0.Places.map GVector.cells), .sl (m_0.Triangles.map (cL (cI .i64)))]]⟩, .keep []])
          (ps := [])
          (C := [(((m_0.Places.map GVector.cells).length : Nat) : Int) = (m_0.Places.length : Int),
            (decide ((m_0.Places.length : Int) > 64)) = false,
            (decide ((m_0.Places.length : Int) > 64)) = false,
            (decide ((m_0.Places.length : Int) > 64)) = false,
            (((m_0.Triangles.map (cL (cI .i64))).length : Nat) : Int) = (m_0.Triangles.length : Int),
            (decide ((m_0.Places.length : Int) > 64)) = false,
            (decide ((m_0.Places.length : Int) > 64)) = false,
            (decide ((m_0.Triangles.length : Int) > 128)) = false,
            (((m_0.Triangles.map (cL (cI .i64))).length : Nat) : Int) = (m_0.Triangles.length : Int),
            Lp Go.Proofs.Try.prog 0 (sub (bodyOf Go.Proofs.Try.f74) [1, 1, 1, 0, 1, 0, 0]) ⟨[.agg [.sl (m_0.Places.map GVector.cells), .sl (m_0.Triangles.map (cL (cI .i64)))], .ptr 0 0 0, .any, .i .i64 (m_0.Places.length : Int), .any, .any, .any, .any, .ptr 0 0 0, .sl (m_0.Places.map GVector.cells), .i .i64 (m_0.Places.length : Int), .i .i64 (m_0.Places.length : Int), .b (decide ((m_0.Places.length : Int) > 64)), .b (decide ((m_0.Places.length : Int) > 64)), .ptr 0 0 1, .sl (m_0.Triangles.map (cL (cI .i64))), .i .i64 (m_0.Triangles.length : Int), .b (decide ((m_0.Triangles.length : Int) > 128)), .b (decide ((m_0.Triangles.length : Int) > 128)), .ptr 0 0 1, .sl (m_0.Triangles.map (cL (cI .i64))), .i .i64 (m_0.Triangles.length : Int), .i .i64 0, .any, .any, .any, .any, .any, .any, .any, .any, .any, .any, .any, .any, .any, .any, .any, .any, .any, .any, .any, .any, .any, .any, .any, .any, .any, .any, .any, .any, .any, .any, .any, .any, .any, .any, .any, .any, .any, .any, .any, .any, .any, .any, .any, .any, .any, .any], [.box 36 [.sl (m_0.Places.map GVector.cells), .sl (m_0.Triangles.map (cL (cI .i64)))]]⟩ (.exit 0) ⟨[.agg [.sl (m_0.Places.map GVector.cells), .sl (m_0.Triangles.map (cL (cI .i64)))], .ptr 0 0 0, .any, .i .i64 (m_0.Places.length : Int), .any, .any, .any, .any, .ptr 0 0 0, .sl (m_0.Places.map GVector.cells), .i .i64 (m_0.Places.length : Int), .i .i64 (m_0.Places.length : Int), .b (decide ((m_0.Places.length : Int) > 64)), .b (decide ((m_0.Places.length : Int) > 64)), .ptr 0 0 1, .sl (m_0.Triangles.map (cL (cI .i64))), .i .i64 (m_0.Triangles.length : Int), .b (decide ((m_0.Triangles.length : Int) > 128)), .b (decide ((m_0.Triangles.length : Int) > 128)), .ptr 0 0 1, .sl (m_0.Triangles.map (cL (cI .i64))), .any, .any, .any, .any, .any, .any, .any, .any, .any, .any, .any, .any, .any, .any, .any, .any, .any, .any, .any, .any, .any, .any, .any, .any, .any, .any, .any, .any, .any, .any, .any, .any, .any, .any, .any, .any, .any, .any, .any, .any, .any, .any, .any, .any, .any, .any, .any, .any], [.box 36 [.sl (m_0.Places.map GVector.cells), .sl (m_0.Triangles.map (cL (cI .i64)))]]⟩])
          Go.Proofs.Try.func74 rfl (by kernel_rfl) (by kernel_rfl)
          ⟨len_ok, h0, h0, h0, len_ok, h0, h0, h1, len_ok, (by have q := (lp_impl_ValidMesh_1 m_0 hp0 hp1 hp2 h0 h1 (((m_0.Triangles.length : Int) - 0).toNat + 1) 0 (show 0 ≤ 0 from (by first | assumption | omega | (simp at * <;> omega) | (simp_all <;> omega))) (Nat.lt_succ_self _)); rw [show (lo_impl_ValidMesh_1 m_0 (((m_0.Triangles.length : Int) - 0).toNat + 1) 0) = _ from rfl] at q; rw [show (lo_impl_ValidMesh_1 m_0 (((m_0.Triangles.length : Int) - 0).toNat + 1) 0) = (lr_impl_ValidMesh_1_1 m_0) from rfl, h2] at q; exact q), trivial⟩) rfl) (by simp only [v_impl_ValidMesh, h0, h1, h2, cond_false]) rfl

theorem triB (t : List Int) (n : Int) : (!((t.length : Int) != 3) && (!(t.getD 0 default == t.getD 1 default) && (!(t.getD 1 default == t.getD 2 default) && (!(t.getD 0 default == t.getD 2 default) && t.all fun x => v_impl_within x 0 (IntKind.wrap .i64 (n - 1)))))) = v_spec_l02Triangle t n := by
  unfold v_spec_l02Triangle
  cases hl : ((t.length : Int) != 3) with
  | true => rfl
  | false =>
    have hl3 : t.length = 3 := by simp at hl; omega
    match t, hl3 with
    | [a, b, c], _ =>
      simp only [List.getD_cons_zero, List.getD_cons_succ, List.all_cons, List.all_nil, Bool.and_true]
      rw [show v_impl_within = v_spec_l00In from rfl]
      cases (a == b) <;> cases (b == c) <;> cases (a == c) <;> cases v_spec_l00In a 0 (IntKind.wrap .i64 (n - 1)) <;> cases v_spec_l00In b 0 (IntKind.wrap .i64 (n - 1)) <;> cases v_spec_l00In c 0 (IntKind.wrap .i64 (n - 1)) <;> rfl
theorem lo_ValidMesh (m : GMesh) (k : Nat) (i : Int) : lo_impl_ValidMesh_1 m (k + 1) i = cond (decide (i < (m.Triangles.length : Int))) (cond (v_spec_l02Triangle (m.Triangles.getD i.toNat default) (m.Places.length : Int)) (lo_impl_ValidMesh_1 m k (i + 1)) (.inl ())) (.inr ()) := by
  rw [lo_impl_ValidMesh_1, ← triB]
  have hin : lr_impl_ValidMesh_2_0 m i = cond ((m.Triangles.getD i.toNat default).all fun x => v_impl_within x 0 (IntKind.wrap .i64 ((m.Places.length : Int) - 1))) (.inr ()) (.inl ()) := by
    unfold lr_impl_ValidMesh_2_0
    exact all_from (a := m.Triangles.getD i.toNat default) (p := fun x => v_impl_within x 0 (IntKind.wrap .i64 ((m.Places.length : Int) - 1))) (lo := lo_impl_ValidMesh_2 m i) (x := ()) (y := ()) (fun k i => rfl)
  rw [hin]
  generalize m.Triangles.getD i.toNat default = t
  generalize (t.all fun x => v_impl_within x 0 (IntKind.wrap .i64 ((m.Places.length : Int) - 1))) = q
  cases ((t.length : Int) != 3) <;> cases (t.getD 0 default == t.getD 1 default) <;> cases (t.getD 1 default == t.getD 2 default) <;> cases (t.getD 0 default == t.getD 2 default) <;> cases q <;> rfl
theorem eq_ValidMesh (m : GMesh) : v_impl_ValidMesh m = v_spec_l02Is m := by
  rw [l02Is_eq]
  unfold v_impl_ValidMesh lr_impl_ValidMesh_1_1
  rw [all_from (a := m.Triangles) (p := fun t => v_spec_l02Triangle t (m.Places.length : Int)) (lo := lo_impl_ValidMesh_1 m) (x := ()) (y := ()) (lo_ValidMesh m)]
  cases (m.Triangles.all fun t => v_spec_l02Triangle t (m.Places.length : Int)) <;> rfl

/-- impl.LessVectors -/
def v_impl_LessVectors (a_0 : GVector) (b_1 : GVector) : GVector := (⟨(fop .sub .f32 a_0.X b_1.X), (fop .sub .f32 a_0.Y b_1.Y), (fop .sub .f32 a_0.Z b_1.Z)⟩ : GVector)

theorem t_impl_LessVectors (a_0 : GVector) (b_1 : GVector)   : Fn Go.Proofs.Try.prog 137 [.agg [.f .f32 a_0.X, .f .f32 a_0.Y, .f .f32 a_0.Z], .agg [.f .f32 b_1.X, .f .f32 b_1.Y, .f .f32 b_1.Z]] (.agg [.f .f32 ((v_impl_LessVectors a_0 b_1).X), .f .f32 ((v_impl_LessVectors a_0 b_1).Y), .f .f32 ((v_impl_LessVectors a_0 b_1).Z)]) [] := by
  exact Fn.cast (CallSt.fn (callSt_of_evK (E := E0) E0Ok hMixed (c := bodyOf Go.Proofs.Try.f137) (rows := []) (r := .agg [.f .f32 (fop .sub .f32 a_0.X b_1.X), .f .f32 (fop .sub .f32 a_0.Y b_1.Y), .f .f32 (fop .sub .f32 a_0.Z b_1.Z)]) (rows' := [])
    (ans := [.keep []])
    (ps := [])
    (C := [])
    Go.Proofs.Try.func137 rfl (by kernel_rfl) (by kernel_rfl)
    trivial) rfl) rfl rfl

/-- impl.CrossOf -/
def v_impl_CrossOf (a_0 : GVector) (b_1 : GVector) : GVector := (⟨(fop .sub .f32 (fop .mul .f32 a_0.Y b_1.Z) (fop .mul .f32 a_0.Z b_1.Y)), (fop .sub .f32 (fop .mul .f32 a_0.Z b_1.X) (fop .mul .f32 a_0.X b_1.Z)), (fop .sub .f32 (fop .mul .f32 a_0.X b_1.Y) (fop .mul .f32 a_0.Y b_1.X))⟩ : GVector)

theorem t_impl_CrossOf (a_0 : GVector) (b_1 : GVector)   : Fn Go.Proofs.Try.prog 136 [.agg [.f .f32 a_0.X, .f .f32 a_0.Y, .f .f32 a_0.Z], .agg [.f .f32 b_1.X, .f .f32 b_1.Y, .f .f32 b_1.Z]] (.agg [.f .f32 ((v_impl_CrossOf a_0 b_1).X), .f .f32 ((v_impl_CrossOf a_0 b_1).Y), .f .f32 ((v_impl_CrossOf a_0 b_1).Z)]) [] := by
  exact Fn.cast (CallSt.fn (callSt_of_evK (E := E0) E0Ok hMixed (c := bodyOf Go.Proofs.Try.f136) (rows := []) (r := .agg [.f .f32 (fop .sub .f32 (fop .mul .f32 a_0.Y b_1.Z) (fop .mul .f32 a_0.Z b_1.Y)), .f .f32 (fop .sub .f32 (fop .mul .f32 a_0.Z b_1.X) (fop .mul .f32 a_0.X b_1.Z)), .f .f32 (fop .sub .f32 (fop .mul .f32 a_0.X b_1.Y) (fop .mul .f32 a_0.Y b_1.X))]) (rows' := [])
    (ans := [.keep []])
    (ps := [])
    (C := [])
    Go.Proofs.Try.func136 rfl (by kernel_rfl) (by kernel_rfl)
    trivial) rfl) rfl rfl

def nd_impl_normalOf_0 (m_0 : GMesh) (t_1 : (List Int)) : GVector := (v_impl_CrossOf (v_impl_LessVectors (m_0.Places.getD (t_1.getD 1 default).toNat default) (m_0.Places.getD (t_1.getD 0 default).toNat default)) (v_impl_LessVectors (m_0.Places.getD (t_1.getD 2 default).toNat default) (m_0.Places.getD (t_1.getD 0 default).toNat default)))

/-- impl.normalOf -/
def v_impl_normalOf (m_0 : GMesh) (t_1 : (List Int)) : GVector := (nd_impl_normalOf_0 m_0 t_1)

theorem t_impl_normalOf (m_0 : GMesh) (t_1 : (List Int)) (hp0 : m_0.Places.length ≤ 1073741824) (hp1 : m_0.Triangles.length ≤ 1073741824) (hp2 : ∀ t ∈ m_0.Triangles, t.length ≤ 1073741824) (hp3 : t_1.length ≤ 1073741824) (hp4 : t_1.length = 3 ∧ ∀ x ∈ t_1, 0 ≤ x ∧ x < (m_0.Places.length : Int))  : Fn Go.Proofs.Try.prog 84 [.agg [.sl (m_0.Places.map GVector.cells), .sl (m_0.Triangles.map (cL (cI .i64)))], .sl (t_1.map (cI .i64))] (.agg [.f .f32 ((v_impl_normalOf m_0 t_1).X), .f .f32 ((v_impl_normalOf m_0 t_1).Y), .f .f32 ((v_impl_normalOf m_0 t_1).Z)]) [] := by
  exact Fn.cast (CallSt.fn (callSt_of_evK (E := E0) E0Ok hMixed (c := bodyOf Go.Proofs.Try.f84) (rows := []) (r := .agg [.f .f32 ((nd_impl_normalOf_0 m_0 t_1).X), .f .f32 ((nd_impl_normalOf_0 m_0 t_1).Y), .f .f32 ((nd_impl_normalOf_0 m_0 t_1).Z)]) (rows' := [])
    (ans := [.keep [8, 8], .el [.i .i64 (t_1.getD 0 default)], .el [.f .f32 ((m_0.Places.getD (t_1.getD 0 default).toNat default).X), .f .f32 ((m_0.Places.getD (t_1.getD 0 default).toNat default).Y), .f .f32 ((m_0.Places.getD (t_1.getD 0 default).toNat default).Z)], .keep [17, 17], .el [.i .i64 (t_1.getD 1 default)], .el [.f .f32 ((m_0.Places.getD (t_1.getD 1 default).toNat default).X), .f .f32 ((m_0.Places.getD (t_1.getD 1 default).toNat default).Y), .f .f32 ((m_0.Places.getD (t_1.getD 1 default).toNat default).Z)], .call (.agg [.f .f32 ((v_impl_LessVectors (m_0.Places.getD (t_1.getD 1 default).toNat default) (m_0.Places.getD (t_1.getD 0 default).toNat default)).X), .f .f32 ((v_impl_LessVectors (m_0.Places.getD (t_1.getD 1 default).toNat default) (m_0.Places.getD (t_1.getD 0 default).toNat default)).Y), .f .f32 ((v_impl_LessVectors (m_0.Places.getD (t_1.getD 1 default).toNat default) (m_0.Places.getD (t_1.getD 0 default).toNat default)).Z)]) [], .el [.i .i64 (t_1.getD 2 default)], .el [.f .f32 ((m_0.Places.getD (t_1.getD 2 default).toNat default).X), .f .f32 ((m_0.Places.getD (t_1.getD 2 default).toNat default).Y), .f .f32 ((m_0.Places.getD (t_1.getD 2 default).toNat default).Z)], .call (.agg [.f .f32 ((v_impl_LessVectors (m_0.Places.getD (t_1.getD 2 default).toNat default) (m_0.Places.getD (t_1.getD 0 default).toNat default)).X), .f .f32 ((v_impl_LessVectors (m_0.Places.getD (t_1.getD 2 default).toNat default) (m_0.Places.getD (t_1.getD 0 default).toNat default)).Y), .f .f32 ((v_impl_LessVectors (m_0.Places.getD (t_1.getD 2 default).toNat default) (m_0.Places.getD (t_1.getD 0 default).toNat default)).Z)]) [], .call (.agg [.f .f32 ((nd_impl_normalOf_0 m_0 t_1).X), .f .f32 ((nd_impl_normalOf_0 m_0 t_1).Y), .f .f32 ((nd_impl_normalOf_0 m_0 t_1).Z)]) [], .keep []])
    (ps := [])
    (C := [0 ≤ 0 ∧ (t_1.map (cI .i64))[Int.toNat 0]? = some [.i .i64 (t_1.getD 0 default)],
      0 ≤ (t_1.getD 0 default) ∧ (m_0.Places.map GVector.cells)[Int.toNat (t_1.getD 0 default)]? = some [.f .f32 ((m_0.Places.getD (t_1.getD 0 default).toNat default).X), .f .f32 ((m_0.Places.getD (t_1.getD 0 default).toNat default).Y), .f .f32 ((m_0.Places.getD (t_1.getD 0 default).toNat default).Z)],
      0 ≤ 1 ∧ (t_1.map (cI .i64))[Int.toNat 1]? = some [.i .i64 (t_1.getD 1 default)],
      0 ≤ (t_1.getD 1 default) ∧ (m_0.Places.map GVector.cells)[Int.toNat (t_1.getD 1 default)]? = some [.f .f32 ((m_0.Places.getD (t_1.getD 1 default).toNat default).X), .f .f32 ((m_0.Places.getD (t_1.getD 1 default).toNat default).Y), .f .f32 ((m_0.Places.getD (t_1.getD 1 default).toNat default).Z)],
      Fn Go.Proofs.Try.prog 137 [.agg [.f .f32 ((m_0.Places.getD (t_1.getD 1 default).toNat default).X), .f .f32 ((m_0.Places.getD (t_1.getD 1 default).toNat default).Y), .f .f32 ((m_0.Places.getD (t_1.getD 1 default).toNat default).Z)], .agg [.f .f32 ((m_0.Places.getD (t_1.getD 0 default).toNat default).X), .f .f32 ((m_0.Places.getD (t_1.getD 0 default).toNat default).Y), .f .f32 ((m_0.Places.getD (t_1.getD 0 default).toNat default).Z)]] (.agg [.f .f32 ((v_impl_LessVectors (m_0.Places.getD (t_1.getD 1 default).toNat default) (m_0.Places.getD (t_1.getD 0 default).toNat default)).X), .f .f32 ((v_impl_LessVectors (m_0.Places.getD (t_1.getD 1 default).toNat default) (m_0.Places.getD (t_1.getD 0 default).toNat default)).Y), .f .f32 ((v_impl_LessVectors (m_0.Places.getD (t_1.getD 1 default).toNat default) (m_0.Places.getD (t_1.getD 0 default).toNat default)).Z)]) [],
      0 ≤ 2 ∧ (t_1.map (cI .i64))[Int.toNat 2]? = some [.i .i64 (t_1.getD 2 default)],
      0 ≤ (t_1.getD 2 default) ∧ (m_0.Places.map GVector.cells)[Int.toNat (t_1.getD 2 default)]? = some [.f .f32 ((m_0.Places.getD (t_1.getD 2 default).toNat default).X), .f .f32 ((m_0.Places.getD (t_1.getD 2 default).toNat default).Y), .f .f32 ((m_0.Places.getD (t_1.getD 2 default).toNat default).Z)],
      Fn Go.Proofs.Try.prog 137 [.agg [.f .f32 ((m_0.Places.getD (t_1.getD 2 default).toNat default).X), .f .f32 ((m_0.Places.getD (t_1.getD 2 default).toNat default).Y), .f .f32 ((m_0.Places.getD (t_1.getD 2 default).toNat default).Z)], .agg [.f .f32 ((m_0.Places.getD (t_1.getD 0 default).toNat default).X), .f .f32 ((m_0.Places.getD (t_1.getD 0 default).toNat default).Y), .f .f32 ((m_0.Places.getD (t_1.getD 0 default).toNat default).Z)]] (.agg [.f .f32 ((v_impl_LessVectors (m_0.Places.getD (t_1.getD 2 default).toNat default) (m_0.Places.getD (t_1.getD 0 default).toNat default)).X), .f .f32 ((v_impl_LessVectors (m_0.Places.getD (t_1.getD 2 default).toNat default) (m_0.Places.getD (t_1.getD 0 default).toNat default)).Y), .f .f32 ((v_impl_LessVectors (m_0.Places.getD (t_1.getD 2 default).toNat default) (m_0.Places.getD (t_1.getD 0 default).toNat default)).Z)]) [],
      Fn Go.Proofs.Try.prog 136 [.agg [.f .f32 ((v_impl_LessVectors (m_0.Places.getD (t_1.getD 1 default).toNat default) (m_0.Places.getD (t_1.getD 0 default).toNat default)).X), .f .f32 ((v_impl_LessVectors (m_0.Places.getD (t_1.getD 1 default).toNat default) (m_0.Places.getD (t_1.getD 0 default).toNat default)).Y), .f .f32 ((v_impl_LessVectors (m_0.Places.getD (t_1.getD 1 default).toNat default) (m_0.Places.getD (t_1.getD 0 default).toNat default)).Z)], .agg [.f .f32 ((v_impl_LessVectors (m_0.Places.getD (t_1.getD 2 default).toNat default) (m_0.Places.getD (t_1.getD 0 default).toNat default)).X), .f .f32 ((v_impl_LessVectors (m_0.Places.getD (t_1.getD 2 default).toNat default) (m_0.Places.getD (t_1.getD 0 default).toNat default)).Y), .f .f32 ((v_impl_LessVectors (m_0.Places.getD (t_1.getD 2 default).toNat default) (m_0.Places.getD (t_1.getD 0 default).toNat default)).Z)]] (.agg [.f .f32 ((nd_impl_normalOf_0 m_0 t_1).X), .f .f32 ((nd_impl_normalOf_0 m_0 t_1).Y), .f .f32 ((nd_impl_normalOf_0 m_0 t_1).Z)]) []])
    Go.Proofs.Try.func84 rfl (by kernel_rfl) (by kernel_rfl)
    ⟨(get_ok (by first | assumption | omega | (first | (have q := Okt.at hp4; omega)) | (simp at * <;> omega) | (simp_all <;> omega)) (by first | assumption | omega | (first | (have q := Okt.at hp4; omega)) | (simp at * <;> omega) | (simp_all <;> omega))), (get_ok (by first | assumption | omega | (first | (have q := Okt.at hp4; omega)) | (simp at * <;> omega) | (simp_all <;> omega)) (by first | assumption | omega | (first | (have q := Okt.at hp4; omega)) | (simp at * <;> omega) | (simp_all <;> omega))), (get_ok (by first | assumption | omega | (first | (have q := Okt.at hp4; omega)) | (simp at * <;> omega) | (simp_all <;> omega)) (by first | assumption | omega | (first | (have q := Okt.at hp4; omega)) | (simp at * <;> omega) | (simp_all <;> omega))), (get_ok (by first | assumption | omega | (first | (have q := Okt.at hp4; omega)) | (simp at * <;> omega) | (simp_all <;> omega)) (by first | assumption | omega | (first | (have q := Okt.at hp4; omega)) | (simp at * <;> omega) | (simp_all <;> omega))), (t_impl_LessVectors (m_0.Places.getD (t_1.getD 1 default).toNat default) (m_0.Places.getD (t_1.getD 0 default).toNat default)), (get_ok (by first | assumption | omega | (first | (have q := Okt.at hp4; omega)) | (simp at * <;> omega) | (simp_all <;> omega)) (by first | assumption | omega | (first | (have q := Okt.at hp4; omega)) | (simp at * <;> omega) | (simp_all <;> omega))), (get_ok (by first | assumption | omega | (first | (have q := Okt.at hp4; omega)) | (simp at * <;> omega) | (simp_all <;> omega)) (by first | assumption | omega | (first | (have q := Okt.at hp4; omega)) | (simp at * <;> omega) | (simp_all <;> omega))), (t_impl_LessVectors (m_0.Places.getD (t_1.getD 2 default).toNat default) (m_0.Places.getD (t_1.getD 0 default).toNat default)), (t_impl_CrossOf (v_impl_LessVectors (m_0.Places.getD (t_1.getD 1 default).toNat default) (m_0.Places.getD (t_1.getD 0 default).toNat default)) (v_impl_LessVectors (m_0.Places.getD (t_1.getD 2 default).toNat default) (m_0.Places.getD (t_1.getD 0 default).toNat default))), trivial⟩) rfl) rfl rfl

/-- impl.ScaleVector -/
def v_impl_ScaleVector (v_0 : GVector) (by_1 : Nat) : GVector := (⟨(fop .mul .f32 v_0.X by_1), (fop .mul .f32 v_0.Y by_1), (fop .mul .f32 v_0.Z by_1)⟩ : GVector)

theorem t_impl_ScaleVector (v_0 : GVector) (by_1 : Nat)   : Fn Go.Proofs.Try.prog 83 [.agg [.f .f32 v_0.X, .f .f32 v_0.Y, .f .f32 v_0.Z], .f .f32 by_1] (.agg [.f .f32 ((v_impl_ScaleVector v_0 by_1).X), .f .f32 ((v_impl_ScaleVector v_0 by_1).Y), .f .f32 ((v_impl_ScaleVector v_0 by_1).Z)]) [] := by
  exact Fn.cast (CallSt.fn (callSt_of_evK (E := E0) E0Ok hMixed (c := bodyOf Go.Proofs.Try.f83) (rows := []) (r := .agg [.f .f32 (fop .mul .f32 v_0.X by_1), .f .f32 (fop .mul .f32 v_0.Y by_1), .f .f32 (fop .mul .f32 v_0.Z by_1)]) (rows' := [])
    (ans := [.keep []])
    (ps := [])
    (C := [])
    Go.Proofs.Try.func83 rfl (by kernel_rfl) (by kernel_rfl)
    trivial) rfl) rfl rfl

/-- impl.AddVectors -/
def v_impl_AddVectors (a_0 : GVector) (b_1 : GVector) : GVector := (⟨(fop .add .f32 a_0.X b_1.X), (fop .add .f32 a_0.Y b_1.Y), (fop .add .f32 a_0.Z b_1.Z)⟩ : GVector)

theorem t_impl_AddVectors (a_0 : GVector) (b_1 : GVector)   : Fn Go.Proofs.Try.prog 85 [.agg [.f .f32 a_0.X, .f .f32 a_0.Y, .f .f32 a_0.Z], .agg [.f .f32 b_1.X, .f .f32 b_1.Y, .f .f32 b_1.Z]] (.agg [.f .f32 ((v_impl_AddVectors a_0 b_1).X), .f .f32 ((v_impl_AddVectors a_0 b_1).Y), .f .f32 ((v_impl_AddVectors a_0 b_1).Z)]) [] := by
  exact Fn.cast (CallSt.fn (callSt_of_evK (E := E0) E0Ok hMixed (c := bodyOf Go.Proofs.Try.f85) (rows := []) (r := .agg [.f .f32 (fop .add .f32 a_0.X b_1.X), .f .f32 (fop .add .f32 a_0.Y b_1.Y), .f .f32 (fop .add .f32 a_0.Z b_1.Z)]) (rows' := [])
    (ans := [.keep []])
    (ps := [])
    (C := [])
    Go.Proofs.Try.func85 rfl (by kernel_rfl) (by kernel_rfl)
    trivial) rfl) rfl rfl

def nd_impl_GasForces_0 (m_0 : GMesh) (pressure_1 : Nat) (x_l0 : Int) (x_l0_1 : Int) (r1_l1_1 : (List GVector)) : GVector := (v_impl_AddVectors (r1_l1_1.getD (((m_0.Triangles.getD x_l0.toNat default).getD x_l0_1.toNat default).toNat) default) (v_impl_ScaleVector (v_impl_normalOf m_0 (m_0.Triangles.getD x_l0.toNat default)) (fop .quo .f32 pressure_1 1086324736)))

def lo_impl_GasForces_2 (m_0 : GMesh) (pressure_1 : Nat) (x_l0 : Int) (r1_l1 : (List GVector)) : Nat → Int → (List GVector) → (List GVector)
  | 0, _, _ => default
  | k + 1, x_l0_1, r1_l1_1 => (cond (decide (x_l0_1 < ((m_0.Triangles.getD x_l0.toNat default).length : Int)))
    (lo_impl_GasForces_2 m_0 pressure_1 x_l0 r1_l1 k (x_l0_1 + 1) (r1_l1_1.set (((m_0.Triangles.getD x_l0.toNat default).getD x_l0_1.toNat default).toNat) (nd_impl_GasForces_0 m_0 pressure_1 x_l0 x_l0_1 r1_l1_1)))
    r1_l1_1)

def ls_impl_GasForces_2 (m_0 : GMesh) (pressure_1 : Nat) (x_l0 : Int) (r1_l1 : (List GVector)) (r : (List GVector)) : Ex × St := ((.exit 2), ⟨[.agg [.sl (m_0.Places.map GVector.cells), .sl (m_0.Triangles.map (cL (cI .i64)))], .f .f32 pressure_1, .ptr 0 0 0, .any, .nils, .b false, .own 1, .any, .sl ((m_0.Triangles.getD x_l0.toNat default).map (cI .i64)), .ptr 2 0 0, .any, .any, .agg [.sl (m_0.Places.map GVector.cells), .sl (m_0.Triangles.map (cL (cI .i64)))], .b (v_impl_ValidMesh m_0), .b (!(v_impl_ValidMesh m_0)), .ptr 0 0 0, .sl (m_0.Places.map GVector.cells), .i .i64 (m_0.Places.length : Int), .own 1, .ptr 0 0 1, .sl (m_0.Triangles.map (cL (cI .i64))), .i .i64 (m_0.Triangles.length : Int), .i .i64 x_l0, .b (decide (x_l0 < (m_0.Triangles.length : Int))), .ref [.sl ((m_0.Triangles.getD x_l0.toNat default).map (cI .i64))] 0, .sl ((m_0.Triangles.getD x_l0.toNat default).map (cI .i64)), .agg [.sl (m_0.Places.map GVector.cells), .sl (m_0.Triangles.map (cL (cI .i64)))], .sl ((m_0.Triangles.getD x_l0.toNat default).map (cI .i64)), .agg [.f .f32 ((v_impl_normalOf m_0 (m_0.Triangles.getD x_l0.toNat default)).X), .f .f32 ((v_impl_normalOf m_0 (m_0.Triangles.getD x_l0.toNat default)).Y), .f .f32 ((v_impl_normalOf m_0 (m_0.Triangles.getD x_l0.toNat default)).Z)], .f .f32 pressure_1, .f .f32 (fop .quo .f32 pressure_1 1086324736), .agg [.f .f32 ((v_impl_ScaleVector (v_impl_normalOf m_0 (m_0.Triangles.getD x_l0.toNat default)) (fop .quo .f32 pressure_1 1086324736)).X), .f .f32 ((v_impl_ScaleVector (v_impl_normalOf m_0 (m_0.Triangles.getD x_l0.toNat default)) (fop .quo .f32 pressure_1 1086324736)).Y), .f .f32 ((v_impl_ScaleVector (v_impl_normalOf m_0 (m_0.Triangles.getD x_l0.toNat default)) (fop .quo .f32 pressure_1 1086324736)).Z)], .sl ((m_0.Triangles.getD x_l0.toNat default).map (cI .i64)), .any, .any, .any, .any, .any, .any, .any, .any, .any, .any, .any, .any, .any, .any, .any, .any, .any], [.box 36 [.sl (m_0.Places.map GVector.cells), .sl (m_0.Triangles.map (cL (cI .i64)))], .vec 61 3 (r.map GVector.cells) false, .box 61 [.f .f32 ((v_impl_ScaleVector (v_impl_normalOf m_0 (m_0.Triangles.getD x_l0.toNat default)) (fop .quo .f32 pressure_1 1086324736)).X), .f .f32 ((v_impl_ScaleVector (v_impl_normalOf m_0 (m_0.Triangles.getD x_l0.toNat default)) (fop .quo .f32 pressure_1 1086324736)).Y), .f .f32 ((v_impl_ScaleVector (v_impl_normalOf m_0 (m_0.Triangles.getD x_l0.toNat default)) (fop .quo .f32 pressure_1 1086324736)).Z)]]⟩)

theorem lp_impl_GasForces_2 (m_0 : GMesh) (pressure_1 : Nat) (x_l0 : Int) (r1_l1 : (List GVector)) (hp0 : m_0.Places.length ≤ 1073741824) (hp1 : m_0.Triangles.length ≤ 1073741824) (hp2 : ∀ t ∈ m_0.Triangles, t.length ≤ 1073741824) (hf_impl_GasForces_1_0 : (v_impl_ValidMesh m_0) = true) (hv_impl_GasForces_1_0 : 0 ≤ x_l0) (hv_impl_GasForces_1_1 : r1_l1.length = m_0.Places.length) (hf_impl_GasForces_2_0 : (decide (x_l0 < (m_0.Triangles.length : Int))) = true) (hf_impl_GasForces_2_1 : (v_impl_ValidMesh m_0) = true) : ∀ (k : Nat) (x_l0_1 : Int) (r1_l1_1 : (List GVector)) (hv_impl_GasForces_2_0 : 0 ≤ x_l0_1) (hv_impl_GasForces_2_1 : r1_l1_1.length = r1_l1.length) (hk : (((m_0.Triangles.getD x_l0.toNat default).length : Int) - x_l0_1).toNat < k), Lp Go.Proofs.Try.prog 0 (sub (bodyOf Go.Proofs.Try.f29) [1, 1, 1, 0, 1, 0, 0, 1, 1, 0, 0, 1, 1, 1, 0, 0]) ⟨[.agg [.sl (m_0.Places.map GVector.cells), .sl (m_0.Triangles.map (cL (cI .i64)))], .f .f32 pressure_1, .ptr 0 0 0, .any, .nils, .b false, .own 1, .any, .sl ((m_0.Triangles.getD x_l0.toNat default).map (cI .i64)), .ptr 2 0 0, .any, .any, .agg [.sl (m_0.Places.map GVector.cells), .sl (m_0.Triangles.map (cL (cI .i64)))], .b (v_impl_ValidMesh m_0), .b (!(v_impl_ValidMesh m_0)), .ptr 0 0 0, .sl (m_0.Places.map GVector.cells), .i .i64 (m_0.Places.length : Int), .own 1, .ptr 0 0 1, .sl (m_0.Triangles.map (cL (cI .i64))), .i .i64 (m_0.Triangles.length : Int), .i .i64 x_l0, .b (decide (x_l0 < (m_0.Triangles.length : Int))), .ref [.sl ((m_0.Triangles.getD x_l0.toNat default).map (cI .i64))] 0, .sl ((m_0.Triangles.getD x_l0.toNat default).map (cI .i64)), .agg [.sl (m_0.Places.map GVector.cells), .sl (m_0.Triangles.map (cL (cI .i64)))], .sl ((m_0.Triangles.getD x_l0.toNat default).map (cI .i64)), .agg [.f .f32 ((v_impl_normalOf m_0 (m_0.Triangles.getD x_l0.toNat default)).X), .f .f32 ((v_impl_normalOf m_0 (m_0.Triangles.getD x_l0.toNat default)).Y), .f .f32 ((v_impl_normalOf m_0 (m_0.Triangles.getD x_l0.toNat default)).Z)], .f .f32 pressure_1, .f .f32 (fop .quo .f32 pressure_1 1086324736), .agg [.f .f32 ((v_impl_ScaleVector (v_impl_normalOf m_0 (m_0.Triangles.getD x_l0.toNat default)) (fop .quo .f32 pressure_1 1086324736)).X), .f .f32 ((v_impl_ScaleVector (v_impl_normalOf m_0 (m_0.Triangles.getD x_l0.toNat default)) (fop .quo .f32 pressure_1 1086324736)).Y), .f .f32 ((v_impl_ScaleVector (v_impl_normalOf m_0 (m_0.Triangles.getD x_l0.toNat default)) (fop .quo .f32 pressure_1 1086324736)).Z)], .sl ((m_0.Triangles.getD x_l0.toNat default).map (cI .i64)), .i .i64 ((m_0.Triangles.getD x_l0.toNat default).length : Int), .i .i64 x_l0_1, .any, .any, .any, .any, .any, .any, .any, .any, .any, .any, .any, .any, .any, .any, .any], [.box 36 [.sl (m_0.Places.map GVector.cells), .sl (m_0.Triangles.map (cL (cI .i64)))], .vec 61 3 (r1_l1_1.map GVector.cells) false, .box 61 [.f .f32 ((v_impl_ScaleVector (v_impl_normalOf m_0 (m_0.Triangles.getD x_l0.toNat default)) (fop .quo .f32 pressure_1 1086324736)).X), .f .f32 ((v_impl_ScaleVector (v_impl_normalOf m_0 (m_0.Triangles.getD x_l0.toNat default)) (fop .quo .f32 pressure_1 1086324736)).Y), .f .f32 ((v_impl_ScaleVector (v_impl_normalOf m_0 (m_0.Triangles.getD x_l0.toNat default)) (fop .quo .f32 pressure_1 1086324736)).Z)]]⟩ (ls_impl_GasForces_2 m_0 pressure_1 x_l0 r1_l1 (lo_impl_GasForces_2 m_0 pressure_1 x_l0 r1_l1 k x_l0_1 r1_l1_1)).1 (ls_impl_GasForces_2 m_0 pressure_1 x_l0 r1_l1 (lo_impl_GasForces_2 m_0 pressure_1 x_l0 r1_l1 k x_l0_1 r1_l1_1)).2 := by
  intro k
  induction k with
  | zero => intro x_l0_1 r1_l1_1 hv_impl_GasForces_2_0 hv_impl_GasForces_2_1 hk; exact absurd hk (Nat.not_lt_zero _)
  | succ k ih =>
    intro x_l0_1 r1_l1_1 hv_impl_GasForces_2_0 hv_impl_GasForces_2_1 hk
    cases h__0 : (decide (x_l0_1 < ((m_0.Triangles.getD x_l0.toNat default).length : Int))) with
    | true =>
      have e : lo_impl_GasForces_2 m_0 pressure_1 x_l0 r1_l1 (k + 1) x_l0_1 r1_l1_1 = (lo_impl_GasForces_2 m_0 pressure_1 x_l0 r1_l1 k (x_l0_1 + 1) (r1_l1_1.set (((m_0.Triangles.getD x_l0.toNat default).getD x_l0_1.toNat default).toNat) (nd_impl_GasForces_0 m_0 pressure_1 x_l0 x_l0_1 r1_l1_1))) := by simp only [lo_impl_GasForces_2, h__0, cond_true]
      rw [e]
      exact stepK_next (E := E0) E0Ok hMixed (body := (sub (bodyOf Go.Proofs.Try.f29) [1, 1, 1, 0, 1, 0, 0, 1, 1, 0, 0, 1, 1, 1, 0, 0])) (st := ⟨[.agg [.sl (m_0.Places.map GVector.cells), .sl (m_0.Triangles.map (cL (cI .i64)))], .f .f32 pressure_1, .ptr 0 0 0, .any, .nils, .b false, .own 1, .any, .sl ((m_0.Triangles.getD x_l0.toNat default).map (cI .i64)), .ptr 2 0 0, .any, .any, .agg [.sl (m_0.Places.map GVector.cells), .sl (m_0.Triangles.map (cL (cI .i64)))], .b (v_impl_ValidMesh m_0), .b (!(v_impl_ValidMesh m_0)), .ptr 0 0 0, .sl (m_0.Places.map GVector.cells), .i .i64 (m_0.Places.length : Int), .own 1, .ptr 0 0 1, .sl (m_0.Triangles.map (cL (cI .i64))), .i .i64 (m_0.Triangles.length : Int), .i .i64 x_l0, .b (decide (x_l0 < (m_0.Triangles.length : Int))), .ref [.sl ((m_0.Triangles.getD x_l0.toNat default).map (cI .i64))] 0, .sl ((m_0.Triangles.getD x_l0.toNat default).map (cI .i64)), .agg [.sl (m_0.Places.map GVector.cells), .sl (m_0.Triangles.map (cL (cI .i64)))], .sl ((m_0.Triangles.getD x_l0.toNat default).map (cI .i64)), .agg [.f .f32 ((v_impl_normalOf m_0 (m_0.Triangles.getD x_l0.toNat default)).X), .f .f32 ((v_impl_normalOf m_0 (m_0.Triangles.getD x_l0.toNat default)).Y), .f .f32 ((v_impl_normalOf m_0 (m_0.Triangles.getD x_l0.toNat default)).Z)], .f .f32 pressure_1, .f .f32 (fop .quo .f32 pressure_1 1086324736), .agg [.f .f32 ((v_impl_ScaleVector (v_impl_normalOf m_0 (m_0.Triangles.getD x_l0.toNat default)) (fop .quo .f32 pressure_1 1086324736)).X), .f .f32 ((v_impl_ScaleVector (v_impl_normalOf m_0 (m_0.Triangles.getD x_l0.toNat default)) (fop .quo .f32 pressure_1 1086324736)).Y), .f .f32 ((v_impl_ScaleVector (v_impl_normalOf m_0 (m_0.Triangles.getD x_l0.toNat default)) (fop .quo .f32 pressure_1 1086324736)).Z)], .sl ((m_0.Triangles.getD x_l0.toNat default).map (cI .i64)), .i .i64 ((m_0.Triangles.getD x_l0.toNat default).length : Int), .i .i64 x_l0_1, .any, .any, .any, .any, .any, .any, .any, .any, .any, .any, .any, .any, .any, .any, .any], [.box 36 [.sl (m_0.Places.map GVector.cells), .sl (m_0.Triangles.map (cL (cI .i64)))], .vec 61 3 (r1_l1_1.map GVector.cells) false, .box 61 [.f .f32 ((v_impl_ScaleVector (v_impl_normalOf m_0 (m_0.Triangles.getD x_l0.toNat default)) (fop .quo .f32 pressure_1 1086324736)).X), .f .f32 ((v_impl_ScaleVector (v_impl_normalOf m_0 (m_0.Triangles.getD x_l0.toNat default)) (fop .quo .f32 pressure_1 1086324736)).Y), .f .f32 ((v_impl_ScaleVector (v_impl_normalOf m_0 (m_0.Triangles.getD x_l0.toNat default)) (fop .quo .f32 pressure_1 1086324736)).Z)]]⟩)
        (st2 := ⟨[.agg [.sl (m_0.Places.map GVector.cells), .sl (m_0.Triangles.map (cL (cI .i64)))], .f .f32 pressure_1, .ptr 0 0 0, .any, .nils, .b false, .own 1, .any, .sl ((m_0.Triangles.getD x_l0.toNat default).map (cI .i64)), .ptr 2 0 0, .any, .any, .agg [.sl (m_0.Places.map GVector.cells), .sl (m_0.Triangles.map (cL (cI .i64)))], .b (v_impl_ValidMesh m_0), .b (!(v_impl_ValidMesh m_0)), .ptr 0 0 0, .sl (m_0.Places.map GVector.cells), .i .i64 (m_0.Places.length : Int), .own 1, .ptr 0 0 1, .sl (m_0.Triangles.map (cL (cI .i64))), .i .i64 (m_0.Triangles.length : Int), .i .i64 x_l0, .b (decide (x_l0 < (m_0.Triangles.length : Int))), .ref [.sl ((m_0.Triangles.getD x_l0.toNat default).map (cI .i64))] 0, .sl ((m_0.Triangles.getD x_l0.toNat default).map (cI .i64)), .agg [.sl (m_0.Places.map GVector.cells), .sl (m_0.Triangles.map (cL (cI .i64)))], .sl ((m_0.Triangles.getD x_l0.toNat default).map (cI .i64)), .agg [.f .f32 ((v_impl_normalOf m_0 (m_0.Triangles.getD x_l0.toNat default)).X), .f .f32 ((v_impl_normalOf m_0 (m_0.Triangles.getD x_l0.toNat default)).Y), .f .f32 ((v_impl_normalOf m_0 (m_0.Triangles.getD x_l0.toNat default)).Z)], .f .f32 pressure_1, .f .f32 (fop .quo .f32 pressure_1 1086324736), .agg [.f .f32 ((v_impl_ScaleVector (v_impl_normalOf m_0 (m_0.Triangles.getD x_l0.toNat default)) (fop .quo .f32 pressure_1 1086324736)).X), .f .f32 ((v_impl_ScaleVector (v_impl_normalOf m_0 (m_0.Triangles.getD x_l0.toNat default)) (fop .quo .f32 pressure_1 1086324736)).Y), .f .f32 ((v_impl_ScaleVector (v_impl_normalOf m_0 (m_0.Triangles.getD x_l0.toNat default)) (fop .quo .f32 pressure_1 1086324736)).Z)], .sl ((m_0.Triangles.getD x_l0.toNat default).map (cI .i64)), .i .i64 ((m_0.Triangles.getD x_l0.toNat default).length : Int), .i .i64 (x_l0_1 + 1), .any, .any, .any, .any, .any, .any, .any, .any, .any, .any, .any, .any, .any, .any, .any], [.box 36 [.sl (m_0.Places.map GVector.cells), .sl (m_0.Triangles.map (cL (cI .i64)))], .vec 61 3 ((r1_l1_1.map GVector.cells).set (((m_0.Triangles.getD x_l0.toNat default).getD x_l0_1.toNat default).toNat) [.f .f32 ((nd_impl_GasForces_0 m_0 pressure_1 x_l0 x_l0_1 r1_l1_1).X), .f .f32 ((nd_impl_GasForces_0 m_0 pressure_1 x_l0 x_l0_1 r1_l1_1).Y), .f .f32 ((nd_impl_GasForces_0 m_0 pressure_1 x_l0 x_l0_1 r1_l1_1).Z)]) false, .box 61 [.f .f32 ((v_impl_ScaleVector (v_impl_normalOf m_0 (m_0.Triangles.getD x_l0.toNat default)) (fop .quo .f32 pressure_1 1086324736)).X), .f .f32 ((v_impl_ScaleVector (v_impl_normalOf m_0 (m_0.Triangles.getD x_l0.toNat default)) (fop .quo .f32 pressure_1 1086324736)).Y), .f .f32 ((v_impl_ScaleVector (v_impl_normalOf m_0 (m_0.Triangles.getD x_l0.toNat default)) (fop .quo .f32 pressure_1 1086324736)).Z)]]⟩)
        (ans := [.bo true, .el [.i .i64 ((m_0.Triangles.getD x_l0.toNat default).getD x_l0_1.toNat default)], .keep [8, 8], .el [.f .f32 ((r1_l1_1.getD (((m_0.Triangles.getD x_l0.toNat default).getD x_l0_1.toNat default).toNat) default).X), .f .f32 ((r1_l1_1.getD (((m_0.Triangles.getD x_l0.toNat default).getD x_l0_1.toNat default).toNat) default).Y), .f .f32 ((r1_l1_1.getD (((m_0.Triangles.getD x_l0.toNat default).getD x_l0_1.toNat default).toNat) default).Z)], .call (.agg [.f .f32 ((nd_impl_GasForces_0 m_0 pressure_1 x_l0 x_l0_1 r1_l1_1).X), .f .f32 ((nd_impl_GasForces_0 m_0 pressure_1 x_l0 x_l0_1 r1_l1_1).Y), .f .f32 ((nd_impl_GasForces_0 m_0 pressure_1 x_l0 x_l0_1 r1_l1_1).Z)]) [], .num (x_l0_1 + 1)])
        (ps := []) (mask := [true, true, true, false, true, true, true, false, true, true, false, false, true, true, true, true, true, true, true, true, true, true, true, true, true, true, true, true, true, true, true, true, true, true, true, false, false, false, false, false, false, false, false, false, false, false, false, false, false, false]) (ks := [0, 1, 2])
        (C := [(decide (x_l0_1 < ((m_0.Triangles.getD x_l0.toNat default).length : Int))) = true,
          0 ≤ x_l0_1 ∧ ((m_0.Triangles.getD x_l0.toNat default).map (cI .i64))[Int.toNat x_l0_1]? = some [.i .i64 ((m_0.Triangles.getD x_l0.toNat default).getD x_l0_1.toNat default)],
          0 ≤ ((m_0.Triangles.getD x_l0.toNat default).getD x_l0_1.toNat default) ∧ Int.toNat ((m_0.Triangles.getD x_l0.toNat default).getD x_l0_1.toNat default) < (r1_l1_1.map GVector.cells).length,
          (r1_l1_1.map GVector.cells)[((m_0.Triangles.getD x_l0.toNat default).getD x_l0_1.toNat default).toNat]? = some [.f .f32 ((r1_l1_1.getD (((m_0.Triangles.getD x_l0.toNat default).getD x_l0_1.toNat default).toNat) default).X), .f .f32 ((r1_l1_1.getD (((m_0.Triangles.getD x_l0.toNat default).getD x_l0_1.toNat default).toNat) default).Y), .f .f32 ((r1_l1_1.getD (((m_0.Triangles.getD x_l0.toNat default).getD x_l0_1.toNat default).toNat) default).Z)],
          Fn Go.Proofs.Try.prog 85 [.agg [.f .f32 ((r1_l1_1.getD (((m_0.Triangles.getD x_l0.toNat default).getD x_l0_1.toNat default).toNat) default).X), .f .f32 ((r1_l1_1.getD (((m_0.Triangles.getD x_l0.toNat default).getD x_l0_1.toNat default).toNat) default).Y), .f .f32 ((r1_l1_1.getD (((m_0.Triangles.getD x_l0.toNat default).getD x_l0_1.toNat default).toNat) default).Z)], .agg [.f .f32 ((v_impl_ScaleVector (v_impl_normalOf m_0 (m_0.Triangles.getD x_l0.toNat default)) (fop .quo .f32 pressure_1 1086324736)).X), .f .f32 ((v_impl_ScaleVector (v_impl_normalOf m_0 (m_0.Triangles.getD x_l0.toNat default)) (fop .quo .f32 pressure_1 1086324736)).Y), .f .f32 ((v_impl_ScaleVector (v_impl_normalOf m_0 (m_0.Triangles.getD x_l0.toNat default)) (fop .quo .f32 pressure_1 1086324736)).Z)]] (.agg [.f .f32 ((nd_impl_GasForces_0 m_0 pressure_1 x_l0 x_l0_1 r1_l1_1).X), .f .f32 ((nd_impl_GasForces_0 m_0 pressure_1 x_l0 x_l0_1 r1_l1_1).Y), .f .f32 ((nd_impl_GasForces_0 m_0 pressure_1 x_l0 x_l0_1 r1_l1_1).Z)]) [],
          0 ≤ ((m_0.Triangles.getD x_l0.toNat default).getD x_l0_1.toNat default) ∧ Int.toNat ((m_0.Triangles.getD x_l0.toNat default).getD x_l0_1.toNat default) < (r1_l1_1.map GVector.cells).length,
          ((m_0.Triangles.getD x_l0.toNat default).getD x_l0_1.toNat default).toNat < (r1_l1_1.map GVector.cells).length,
          IntKind.wrap .i64 (x_l0_1 + 1) = (x_l0_1 + 1)])
        (by kernel_rfl)
        ⟨h__0, (get_ok (by first | assumption | omega | (first | (have hT := okTris_is m_0 (by rw [← eq_ValidMesh]; assumption); have q := OkTris.at2 hT hv_impl_GasForces_1_0 (of_decide_eq_true (by assumption)) hv_impl_GasForces_2_0 (.inr (of_decide_eq_true (by assumption))); simp only [decide_eq_true_eq] at *; omega)) | (simp at * <;> omega) | (simp_all <;> omega)) (by first | assumption | omega | (first | (have hT := okTris_is m_0 (by rw [← eq_ValidMesh]; assumption); have q := OkTris.at2 hT hv_impl_GasForces_1_0 (of_decide_eq_true (by assumption)) hv_impl_GasForces_2_0 (.inr (of_decide_eq_true (by assumption))); simp only [decide_eq_true_eq] at *; omega)) | (simp at * <;> omega) | (simp_all <;> omega))), (idx_ok (by first | assumption | omega | (first | (have hT := okTris_is m_0 (by rw [← eq_ValidMesh]; assumption); have q := OkTris.at2 hT hv_impl_GasForces_1_0 (of_decide_eq_true (by assumption)) hv_impl_GasForces_2_0 (.inr (of_decide_eq_true (by assumption))); simp only [decide_eq_true_eq] at *; omega)) | (simp at * <;> omega) | (simp_all <;> omega)) (by first | assumption | omega | (first | (have hT := okTris_is m_0 (by rw [← eq_ValidMesh]; assumption); have q := OkTris.at2 hT hv_impl_GasForces_1_0 (of_decide_eq_true (by assumption)) hv_impl_GasForces_2_0 (.inr (of_decide_eq_true (by assumption))); simp only [decide_eq_true_eq] at *; omega)) | (simp at * <;> omega) | (simp_all <;> omega))), (vget_ok (by first | assumption | omega | (first | (have hT := okTris_is m_0 (by rw [← eq_ValidMesh]; assumption); have q := OkTris.at2 hT hv_impl_GasForces_1_0 (of_decide_eq_true (by assumption)) hv_impl_GasForces_2_0 (.inr (of_decide_eq_true (by assumption))); simp only [decide_eq_true_eq] at *; omega)) | (simp at * <;> omega) | (simp_all <;> omega))), (t_impl_AddVectors (r1_l1_1.getD (((m_0.Triangles.getD x_l0.toNat default).getD x_l0_1.toNat default).toNat) default) (v_impl_ScaleVector (v_impl_normalOf m_0 (m_0.Triangles.getD x_l0.toNat default)) (fop .quo .f32 pressure_1 1086324736))), (idx_ok (by first | assumption | omega | (first | (have hT := okTris_is m_0 (by rw [← eq_ValidMesh]; assumption); have q := OkTris.at2 hT hv_impl_GasForces_1_0 (of_decide_eq_true (by assumption)) hv_impl_GasForces_2_0 (.inr (of_decide_eq_true (by assumption))); simp only [decide_eq_true_eq] at *; omega)) | (simp at * <;> omega) | (simp_all <;> omega)) (by first | assumption | omega | (first | (have hT := okTris_is m_0 (by rw [← eq_ValidMesh]; assumption); have q := OkTris.at2 hT hv_impl_GasForces_1_0 (of_decide_eq_true (by assumption)) hv_impl_GasForces_2_0 (.inr (of_decide_eq_true (by assumption))); simp only [decide_eq_true_eq] at *; omega)) | (simp at * <;> omega) | (simp_all <;> omega))), (by have q : ((m_0.Triangles.getD x_l0.toNat default).getD x_l0_1.toNat default).toNat < r1_l1_1.length := (by first | assumption | omega | (first | (have hT := okTris_is m_0 (by rw [← eq_ValidMesh]; assumption); have q := OkTris.at2 hT hv_impl_GasForces_1_0 (of_decide_eq_true (by assumption)) hv_impl_GasForces_2_0 (.inr (of_decide_eq_true (by assumption))); simp only [decide_eq_true_eq] at *; omega)) | (simp at * <;> omega) | (simp_all <;> omega)); simpa using q), (wrap_id (by first | assumption | omega | (first | (have hT := okTris_is m_0 (by rw [← eq_ValidMesh]; assumption); have q := OkTris.at2 hT hv_impl_GasForces_1_0 (of_decide_eq_true (by assumption)) hv_impl_GasForces_2_0 (.inr (of_decide_eq_true (by assumption))); simp only [decide_eq_true_eq] at *; omega)) | (simp at * <;> omega) | (simp_all <;> omega)) (by first | assumption | omega | (first | (have hT := okTris_is m_0 (by rw [← eq_ValidMesh]; assumption); have q := OkTris.at2 hT hv_impl_GasForces_1_0 (of_decide_eq_true (by assumption)) hv_impl_GasForces_2_0 (.inr (of_decide_eq_true (by assumption))); simp only [decide_eq_true_eq] at *; omega)) | (simp at * <;> omega) | (simp_all <;> omega))), trivial⟩
        (by simp [List.map_set, GVector.cells]) (ih (x_l0_1 + 1) (r1_l1_1.set (((m_0.Triangles.getD x_l0.toNat default).getD x_l0_1.toNat default).toNat) (nd_impl_GasForces_0 m_0 pressure_1 x_l0 x_l0_1 r1_l1_1)) (show 0 ≤ (x_l0_1 + 1) from (by first | assumption | omega | (first | (have hT := okTris_is m_0 (by rw [← eq_ValidMesh]; assumption); have q := OkTris.at2 hT hv_impl_GasForces_1_0 (of_decide_eq_true (by assumption)) hv_impl_GasForces_2_0 (.inr (of_decide_eq_true (by assumption))); simp only [decide_eq_true_eq] at *; omega)) | (simp at * <;> omega) | (simp_all <;> omega))) (show (r1_l1_1.set (((m_0.Triangles.getD x_l0.toNat default).getD x_l0_1.toNat default).toNat) (nd_impl_GasForces_0 m_0 pressure_1 x_l0 x_l0_1 r1_l1_1)).length = r1_l1.length from (by first | assumption | omega | (first | (have hT := okTris_is m_0 (by rw [← eq_ValidMesh]; assumption); have q := OkTris.at2 hT hv_impl_GasForces_1_0 (of_decide_eq_true (by assumption)) hv_impl_GasForces_2_0 (.inr (of_decide_eq_true (by assumption))); simp only [decide_eq_true_eq] at *; omega)) | (simp at * <;> omega) | (simp_all <;> omega))) (by first | assumption | omega | (first | (have hT := okTris_is m_0 (by rw [← eq_ValidMesh]; assumption); have q := OkTris.at2 hT hv_impl_GasForces_1_0 (of_decide_eq_true (by assumption)) hv_impl_GasForces_2_0 (.inr (of_decide_eq_true (by assumption))); simp only [decide_eq_true_eq] at *; omega)) | (simp at * <;> omega) | (simp_all <;> omega)))
    | false =>
      have e : lo_impl_GasForces_2 m_0 pressure_1 x_l0 r1_l1 (k + 1) x_l0_1 r1_l1_1 = r1_l1_1 := by simp only [lo_impl_GasForces_2, h__0, cond_false]
      rw [e]
      exact stepK_out (E := E0) E0Ok hMixed (e := (.exit 2)) (body := (sub (bodyOf Go.Proofs.Try.f29) [1, 1, 1, 0, 1, 0, 0, 1, 1, 0, 0, 1, 1, 1, 0, 0])) (st := ⟨[.agg [.sl (m_0.Places.map GVector.cells), .sl (m_0.Triangles.map (cL (cI .i64)))], .f .f32 pressure_1, .ptr 0 0 0, .any, .nils, .b false, .own 1, .any, .sl ((m_0.Triangles.getD x_l0.toNat default).map (cI .i64)), .ptr 2 0 0, .any, .any, .agg [.sl (m_0.Places.map GVector.cells), .sl (m_0.Triangles.map (cL (cI .i64)))], .b (v_impl_ValidMesh m_0), .b (!(v_impl_ValidMesh m_0)), .ptr 0 0 0, .sl (m_0.Places.map GVector.cells), .i .i64 (m_0.Places.length : Int), .own 1, .ptr 0 0 1, .sl (m_0.Triangles.map (cL (cI .i64))), .i .i64 (m_0.Triangles.length : Int), .i .i64 x_l0, .b (decide (x_l0 < (m_0.Triangles.length : Int))), .ref [.sl ((m_0.Triangles.getD x_l0.toNat default).map (cI .i64))] 0, .sl ((m_0.Triangles.getD x_l0.toNat default).map (cI .i64)), .agg [.sl (m_0.Places.map GVector.cells), .sl (m_0.Triangles.map (cL (cI .i64)))], .sl ((m_0.Triangles.getD x_l0.toNat default).map (cI .i64)), .agg [.f .f32 ((v_impl_normalOf m_0 (m_0.Triangles.getD x_l0.toNat default)).X), .f .f32 ((v_impl_normalOf m_0 (m_0.Triangles.getD x_l0.toNat default)).Y), .f .f32 ((v_impl_normalOf m_0 (m_0.Triangles.getD x_l0.toNat default)).Z)], .f .f32 pressure_1, .f .f32 (fop .quo .f32 pressure_1 1086324736), .agg [.f .f32 ((v_impl_ScaleVector (v_impl_normalOf m_0 (m_0.Triangles.getD x_l0.toNat default)) (fop .quo .f32 pressure_1 1086324736)).X), .f .f32 ((v_impl_ScaleVector (v_impl_normalOf m_0 (m_0.Triangles.getD x_l0.toNat default)) (fop .quo .f32 pressure_1 1086324736)).Y), .f .f32 ((v_impl_ScaleVector (v_impl_normalOf m_0 (m_0.Triangles.getD x_l0.toNat default)) (fop .quo .f32 pressure_1 1086324736)).Z)], .sl ((m_0.Triangles.getD x_l0.toNat default).map (cI .i64)), .i .i64 ((m_0.Triangles.getD x_l0.toNat default).length : Int), .i .i64 x_l0_1, .any, .any, .any, .any, .any, .any, .any, .any, .any, .any, .any, .any, .any, .any, .any], [.box 36 [.sl (m_0.Places.map GVector.cells), .sl (m_0.Triangles.map (cL (cI .i64)))], .vec 61 3 (r1_l1_1.map GVector.cells) false, .box 61 [.f .f32 ((v_impl_ScaleVector (v_impl_normalOf m_0 (m_0.Triangles.getD x_l0.toNat default)) (fop .quo .f32 pressure_1 1086324736)).X), .f .f32 ((v_impl_ScaleVector (v_impl_normalOf m_0 (m_0.Triangles.getD x_l0.toNat default)) (fop .quo .f32 pressure_1 1086324736)).Y), .f .f32 ((v_impl_ScaleVector (v_impl_normalOf m_0 (m_0.Triangles.getD x_l0.toNat default)) (fop .quo .f32 pressure_1 1086324736)).Z)]]⟩)
        (st2 := ⟨[.agg [.sl (m_0.Places.map GVector.cells), .sl (m_0.Triangles.map (cL (cI .i64)))], .f .f32 pressure_1, .ptr 0 0 0, .any, .nils, .b false, .own 1, .any, .sl ((m_0.Triangles.getD x_l0.toNat default).map (cI .i64)), .ptr 2 0 0, .any, .any, .agg [.sl (m_0.Places.map GVector.cells), .sl (m_0.Triangles.map (cL (cI .i64)))], .b (v_impl_ValidMesh m_0), .b (!(v_impl_ValidMesh m_0)), .ptr 0 0 0, .sl (m_0.Places.map GVector.cells), .i .i64 (m_0.Places.length : Int), .own 1, .ptr 0 0 1, .sl (m_0.Triangles.map (cL (cI .i64))), .i .i64 (m_0.Triangles.length : Int), .i .i64 x_l0, .b (decide (x_l0 < (m_0.Triangles.length : Int))), .ref [.sl ((m_0.Triangles.getD x_l0.toNat default).map (cI .i64))] 0, .sl ((m_0.Triangles.getD x_l0.toNat default).map (cI .i64)), .agg [.sl (m_0.Places.map GVector.cells), .sl (m_0.Triangles.map (cL (cI .i64)))], .sl ((m_0.Triangles.getD x_l0.toNat default).map (cI .i64)), .agg [.f .f32 ((v_impl_normalOf m_0 (m_0.Triangles.getD x_l0.toNat default)).X), .f .f32 ((v_impl_normalOf m_0 (m_0.Triangles.getD x_l0.toNat default)).Y), .f .f32 ((v_impl_normalOf m_0 (m_0.Triangles.getD x_l0.toNat default)).Z)], .f .f32 pressure_1, .f .f32 (fop .quo .f32 pressure_1 1086324736), .agg [.f .f32 ((v_impl_ScaleVector (v_impl_normalOf m_0 (m_0.Triangles.getD x_l0.toNat default)) (fop .quo .f32 pressure_1 1086324736)).X), .f .f32 ((v_impl_ScaleVector (v_impl_normalOf m_0 (m_0.Triangles.getD x_l0.toNat default)) (fop .quo .f32 pressure_1 1086324736)).Y), .f .f32 ((v_impl_ScaleVector (v_impl_normalOf m_0 (m_0.Triangles.getD x_l0.toNat default)) (fop .quo .f32 pressure_1 1086324736)).Z)], .sl ((m_0.Triangles.getD x_l0.toNat default).map (cI .i64)), .any, .any, .any, .any, .any, .any, .any, .any, .any, .any, .any, .any, .any, .any, .any, .any, .any], [.box 36 [.sl (m_0.Places.map GVector.cells), .sl (m_0.Triangles.map (cL (cI .i64)))], .vec 61 3 (r1_l1_1.map GVector.cells) false, .box 61 [.f .f32 ((v_impl_ScaleVector (v_impl_normalOf m_0 (m_0.Triangles.getD x_l0.toNat default)) (fop .quo .f32 pressure_1 1086324736)).X), .f .f32 ((v_impl_ScaleVector (v_impl_normalOf m_0 (m_0.Triangles.getD x_l0.toNat default)) (fop .quo .f32 pressure_1 1086324736)).Y), .f .f32 ((v_impl_ScaleVector (v_impl_normalOf m_0 (m_0.Triangles.getD x_l0.toNat default)) (fop .quo .f32 pressure_1 1086324736)).Z)]]⟩)
        (ans := [.bo false])
        (ps := []) (mask := [true, true, true, false, true, true, true, false, true, true, false, false, true, true, true, true, true, true, true, true, true, true, true, true, true, true, true, true, true, true, true, true, true, false, false, false, false, false, false, false, false, false, false, false, false, false, false, false, false, false]) (ks := [0, 1, 2])
        (C := [(decide (x_l0_1 < ((m_0.Triangles.getD x_l0.toNat default).length : Int))) = false])
        (by kernel_rfl)
        ⟨h__0, trivial⟩
        (by intro h; cases h) rfl

theorem ln_impl_GasForces_2_0 (m_0 : GMesh) (pressure_1 : Nat) (x_l0 : Int) (r1_l1 : (List GVector)) : ∀ (k : Nat) (x_l0_1 : Int) (r1_l1_1 : (List GVector)) (hk : (((m_0.Triangles.getD x_l0.toNat default).length : Int) - x_l0_1).toNat < k), (lo_impl_GasForces_2 m_0 pressure_1 x_l0 r1_l1 k x_l0_1 r1_l1_1).length = r1_l1_1.length := by
  intro k
  induction k with
  | zero => intro x_l0_1 r1_l1_1 hk; exact absurd hk (Nat.not_lt_zero _)
  | succ k ih =>
    intro x_l0_1 r1_l1_1 hk
    cases h__0 : (decide (x_l0_1 < ((m_0.Triangles.getD x_l0.toNat default).length : Int))) with
    | true =>
      have e : lo_impl_GasForces_2 m_0 pressure_1 x_l0 r1_l1 (k + 1) x_l0_1 r1_l1_1 = (lo_impl_GasForces_2 m_0 pressure_1 x_l0 r1_l1 k (x_l0_1 + 1) (r1_l1_1.set (((m_0.Triangles.getD x_l0.toNat default).getD x_l0_1.toNat default).toNat) (nd_impl_GasForces_0 m_0 pressure_1 x_l0 x_l0_1 r1_l1_1))) := by simp only [lo_impl_GasForces_2, h__0, cond_true]
      rw [e, ih (x_l0_1 + 1) (r1_l1_1.set (((m_0.Triangles.getD x_l0.toNat default).getD x_l0_1.toNat default).toNat) (nd_impl_GasForces_0 m_0 pressure_1 x_l0 x_l0_1 r1_l1_1)) (by first | assumption | omega | (first | (have hT := okTris_is m_0 (by rw [← eq_ValidMesh]; assumption); have q := OkTris.at2 hT hv_impl_GasForces_1_0 (of_decide_eq_true (by assumption)) hv_impl_GasForces_2_0 (.inr (of_decide_eq_true (by assumption))); simp only [decide_eq_true_eq] at *; omega)) | (simp at * <;> omega) | (simp_all <;> omega))]; simp
    | false =>
      have e : lo_impl_GasForces_2 m_0 pressure_1 x_l0 r1_l1 (k + 1) x_l0_1 r1_l1_1 = r1_l1_1 := by simp only [lo_impl_GasForces_2, h__0, cond_false]
      first | (rw [e]; done) | (rw [e]; rfl)

def lr_impl_GasForces_2_0 (m_0 : GMesh) (pressure_1 : Nat) (x_l0 : Int) (r1_l1 : (List GVector)) : (List GVector) := (lo_impl_GasForces_2 m_0 pressure_1 x_l0 r1_l1 ((((m_0.Triangles.getD x_l0.toNat default).length : Int) - 0).toNat + 1) 0 r1_l1)

@[simp] theorem len_lr_impl_GasForces_2_0_0 (m_0 : GMesh) (pressure_1 : Nat) (x_l0 : Int) (r1_l1 : (List GVector)) : (lr_impl_GasForces_2_0 m_0 pressure_1 x_l0 r1_l1).length = (r1_l1 : (List GVector)).length := ln_impl_GasForces_2_0 m_0 pressure_1 x_l0 r1_l1 ((((m_0.Triangles.getD x_l0.toNat default).length : Int) - 0).toNat + 1) 0 r1_l1 (by first | exact Nat.lt_succ_self _ | simp)

def lo_impl_GasForces_1 (m_0 : GMesh) (pressure_1 : Nat) : Nat → Int → (List GVector) → (List GVector)
  | 0, _, _ => default
  | k + 1, x_l0, r1_l1 => (cond (decide (x_l0 < (m_0.Triangles.length : Int)))
    (lo_impl_GasForces_1 m_0 pressure_1 k (x_l0 + 1) (lr_impl_GasForces_2_0 m_0 pressure_1 x_l0 r1_l1))
    r1_l1)

def ls_impl_GasForces_1 (m_0 : GMesh) (pressure_1 : Nat) (r : (List GVector)) : Ex × St := ((.exit 0), ⟨[.agg [.sl (m_0.Places.map GVector.cells), .sl (m_0.Triangles.map (cL (cI .i64)))], .any, .ptr 0 0 0, .any, .nils, .b false, .own 1, .any, .any, .any, .any, .any, .agg [.sl (m_0.Places.map GVector.cells), .sl (m_0.Triangles.map (cL (cI .i64)))], .b (v_impl_ValidMesh m_0), .b (!(v_impl_ValidMesh m_0)), .ptr 0 0 0, .sl (m_0.Places.map GVector.cells), .i .i64 (m_0.Places.length : Int), .own 1, .ptr 0 0 1, .sl (m_0.Triangles.map (cL (cI .i64))), .any, .any, .any, .any, .any, .any, .any, .any, .any, .any, .any, .any, .any, .any, .any, .any, .any, .any, .any, .any, .any, .any, .any, .any, .any, .any, .any, .any, .any], [.box 36 [.sl (m_0.Places.map GVector.cells), .sl (m_0.Triangles.map (cL (cI .i64)))], .vec 61 3 (r.map GVector.cells) false]⟩)

theorem lp_impl_GasForces_1 (m_0 : GMesh) (pressure_1 : Nat) (hp0 : m_0.Places.length ≤ 1073741824) (hp1 : m_0.Triangles.length ≤ 1073741824) (hp2 : ∀ t ∈ m_0.Triangles, t.length ≤ 1073741824) (hf_impl_GasForces_1_0 : (v_impl_ValidMesh m_0) = true) : ∀ (k : Nat) (x_l0 : Int) (r1_l1 : (List GVector)) (hv_impl_GasForces_1_0 : 0 ≤ x_l0) (hv_impl_GasForces_1_1 : r1_l1.length = m_0.Places.length) (hk : ((m_0.Triangles.length : Int) - x_l0).toNat < k), Lp Go.Proofs.Try.prog 0 (sub (bodyOf Go.Proofs.Try.f29) [1, 1, 1, 0, 1, 0, 0]) ⟨[.agg [.sl (m_0.Places.map GVector.cells), .sl (m_0.Triangles.map (cL (cI .i64)))], .f .f32 pressure_1, .ptr 0 0 0, .any, .nils, .b false, .own 1, .any, .any, .any, .any, .any, .agg [.sl (m_0.Places.map GVector.cells), .sl (m_0.Triangles.map (cL (cI .i64)))], .b (v_impl_ValidMesh m_0), .b (!(v_impl_ValidMesh m_0)), .ptr 0 0 0, .sl (m_0.Places.map GVector.cells), .i .i64 (m_0.Places.length : Int), .own 1, .ptr 0 0 1, .sl (m_0.Triangles.map (cL (cI .i64))), .i .i64 (m_0.Triangles.length : Int), .i .i64 x_l0, .any, .any, .any, .any, .any, .any, .any, .any, .any, .any, .any, .any, .any, .any, .any, .any, .any, .any, .any, .any, .any, .any, .any, .any, .any, .any, .any], [.box 36 [.sl (m_0.Places.map GVector.cells), .sl (m_0.Triangles.map (cL (cI .i64)))], .vec 61 3 (r1_l1.map GVector.cells) false]⟩ (ls_impl_GasForces_1 m_0 pressure_1 (lo_impl_GasForces_1 m_0 pressure_1 k x_l0 r1_l1)).1 (ls_impl_GasForces_1 m_0 pressure_1 (lo_impl_GasForces_1 m_0 pressure_1 k x_l0 r1_l1)).2 := by
  intro k
  induction k with
  | zero => intro x_l0 r1_l1 hv_impl_GasForces_1_0 hv_impl_GasForces_1_1 hk; exact absurd hk (Nat.not_lt_zero _)
  | succ k ih =>
    intro x_l0 r1_l1 hv_impl_GasForces_1_0 hv_impl_GasForces_1_1 hk
    cases h_0 : (decide (x_l0 < (m_0.Triangles.length : Int))) with
    | true =>
      have e : lo_impl_GasForces_1 m_0 pressure_1 (k + 1) x_l0 r1_l1 = (lo_impl_GasForces_1 m_0 pressure_1 k (x_l0 + 1) (lr_impl_GasForces_2_0 m_0 pressure_1 x_l0 r1_l1)) := by simp only [lo_impl_GasForces_1, h_0, cond_true]
      rw [e]
      exact stepK_next (E := E0) E0Ok hMixed (body := (sub (bodyOf Go.Proofs.Try.f29) [1, 1, 1, 0, 1, 0, 0])) (st := ⟨[.agg [.sl (m_0.Places.map GVector.cells), .sl (m_0.Triangles.map (cL (cI .i64)))], .f .f32 pressure_1, .ptr 0 0 0, .any, .nils, .b false, .own 1, .any, .any, .any, .any, .any, .agg [.sl (m_0.Places.map GVector.cells), .sl (m_0.Triangles.map (cL (cI .i64)))], .b (v_impl_ValidMesh m_0), .b (!(v_impl_ValidMesh m_0)), .ptr 0 0 0, .sl (m_0.Places.map GVector.cells), .i .i64 (m_0.Places.length : Int), .own 1, .ptr 0 0 1, .sl (m_0.Triangles.map (cL (cI .i64))), .i .i64 (m_0.Triangles.length : Int), .i .i64 x_l0, .any, .any, .any, .any, .any, .any, .any, .any, .any, .any, .any, .any, .any, .any, .any, .any, .any, .any, .any, .any, .any, .any, .any, .any, .any, .any, .any], [.box 36 [.sl (m_0.Places.map GVector.cells), .sl (m_0.Triangles.map (cL (cI .i64)))], .vec 61 3 (r1_l1.map GVector.cells) false]⟩)
        (st2 := ⟨[.agg [.sl (m_0.Places.map GVector.cells), .sl (m_0.Triangles.map (cL (cI .i64)))], .f .f32 pressure_1, .ptr 0 0 0, .any, .nils, .b false, .own 1, .any, .any, .any, .any, .any, .agg [.sl (m_0.Places.map GVector.cells), .sl (m_0.Triangles.map (cL (cI .i64)))], .b (v_impl_ValidMesh m_0), .b (!(v_impl_ValidMesh m_0)), .ptr 0 0 0, .sl (m_0.Places.map GVector.cells), .i .i64 (m_0.Places.length : Int), .own 1, .ptr 0 0 1, .sl (m_0.Triangles.map (cL (cI .i64))), .i .i64 (m_0.Triangles.length : Int), .i .i64 (x_l0 + 1), .any, .any, .any, .any, .any, .any, .any, .any, .any, .any, .any, .any, .any, .any, .any, .any, .any, .any, .any, .any, .any, .any, .any, .any, .any, .any, .any], [.box 36 [.sl (m_0.Places.map GVector.cells), .sl (m_0.Triangles.map (cL (cI .i64)))], .vec 61 3 ((lr_impl_GasForces_2_0 m_0 pressure_1 x_l0 r1_l1).map GVector.cells) false]⟩)
        (ans := [.bo true, .el [.sl ((m_0.Triangles.getD x_l0.toNat default).map (cI .i64))], .call (.agg [.f .f32 ((v_impl_normalOf m_0 (m_0.Triangles.getD x_l0.toNat default)).X), .f .f32 ((v_impl_normalOf m_0 (m_0.Triangles.getD x_l0.toNat default)).Y), .f .f32 ((v_impl_normalOf m_0 (m_0.Triangles.getD x_l0.toNat default)).Z)]) [], .call (.agg [.f .f32 ((v_impl_ScaleVector (v_impl_normalOf m_0 (m_0.Triangles.getD x_l0.toNat default)) (fop .quo .f32 pressure_1 1086324736)).X), .f .f32 ((v_impl_ScaleVector (v_impl_normalOf m_0 (m_0.Triangles.getD x_l0.toNat default)) (fop .quo .f32 pressure_1 1086324736)).Y), .f .f32 ((v_impl_ScaleVector (v_impl_normalOf m_0 (m_0.Triangles.getD x_l0.toNat default)) (fop .quo .f32 pressure_1 1086324736)).Z)]) [], .num ((m_0.Triangles.getD x_l0.toNat default).length : Int), .loop [true, true, true, false, true, true, true, false, true, true, false, false, true, true, true, true, true, true, true, true, true, true, true, true, true, true, true, true, true, true, true, true, true, true, true, false, false, false, false, false, false, false, false, false, false, false, false, false, false, false] 3 (.exit 2) ⟨[.agg [.sl (m_0.Places.map GVector.cells), .sl (m_0.Triangles.map (cL (cI .i64)))], .f .f32 pressure_1, .ptr 0 0 0, .any, .nils, .b false, .own 1, .any, .sl ((m_0.Triangles.getD x_l0.toNat default).map (cI .i64)), .ptr 2 0 0, .any, .any, .agg [.sl (m_0.Places.map GVector.cells), .sl (m_0.Triangles.map (cL (cI .i64)))], .b (v_impl_ValidMesh m_0), .b (!(v_impl_ValidMesh m_0)), .ptr 0 0 0, .sl (m_0.Places.map GVector.cells), .i .i64 (m_0.Places.length : Int), .own 1, .ptr 0 0 1, .sl (m_0.Triangles.map (cL (cI .i64))), .i .i64 (m_0.Triangles.length : Int), .i .i64 x_l0, .b (decide (x_l0 < (m_0.Triangles.length : Int))), .ref [.sl ((m_0.Triangles.getD x_l0.toNat default).map (cI .i64))] 0, .sl ((m_0.Triangles.getD x_l0.toNat default).map (cI .i64)), .agg [.sl (m_0.Places.map GVector.cells), .sl (m_0.Triangles.map (cL (cI .i64)))], .sl ((m_0.Triangles.getD x_l0.toNat default).map (cI .i64)), .agg [.f .f32 ((v_impl_normalOf m_0 (m_0.Triangles.getD x_l0.toNat default)).X), .f .f32 ((v_impl_normalOf m_0 (m_0.Triangles.getD x_l0.toNat default)).Y), .f .f32 ((v_impl_normalOf m_0 (m_0.Triangles.getD x_l0.toNat default)).Z)], .f .f32 pressure_1, .f .f32 (fop .quo .f32 pressure_1 1086324736), .agg [.f .f32 ((v_impl_ScaleVector (v_impl_normalOf m_0 (m_0.Triangles.getD x_l0.toNat default)) (fop .quo .f32 pressure_1 1086324736)).X), .f .f32 ((v_impl_ScaleVector (v_impl_normalOf m_0 (m_0.Triangles.getD x_l0.toNat default)) (fop .quo .f32 pressure_1 1086324736)).Y), .f .f32 ((v_impl_ScaleVector (v_impl_normalOf m_0 (m_0.Triangles.getD x_l0.toNat default)) (fop .quo .f32 pressure_1 1086324736)).Z)], .sl ((m_0.Triangles.getD x_l0.toNat default).map (cI .i64)), .any, .any, .any, .any, .any, .any, .any, .any, .any, .any, .any, .any, .any, .any, .any, .any, .any], [.box 36 [.sl (m_0.Places.map GVector.cells), .sl (m_0.Triangles.map (cL (cI .i64)))], .vec 61 3 ((lr_impl_GasForces_2_0 m_0 pressure_1 x_l0 r1_l1).map GVector.cells) false, .box 61 [.f .f32 ((v_impl_ScaleVector (v_impl_normalOf m_0 (m_0.Triangles.getD x_l0.toNat default)) (fop .quo .f32 pressure_1 1086324736)).X), .f .f32 ((v_impl_ScaleVector (v_impl_normalOf m_0 (m_0.Triangles.getD x_l0.toNat default)) (fop .quo .f32 pressure_1 1086324736)).Y), .f .f32 ((v_impl_ScaleVector (v_impl_normalOf m_0 (m_0.Triangles.getD x_l0.toNat default)) (fop .quo .f32 pressure_1 1086324736)).Z)]]⟩, .num (x_l0 + 1)])
        (ps := []) (mask := [true, true, true, false, true, true, true, false, false, false, false, false, true, true, true, true, true, true, true, true, true, true, true, false, false, false, false, false, false, false, false, false, false, false, false, false, false, false, false, false, false, false, false, false, false, false, false, false, false, false]) (ks := [0, 1])
        (C := [(decide (x_l0 < (m_0.Triangles.length : Int))) = true,
          0 ≤ x_l0 ∧ (m_0.Triangles.map (cL (cI .i64)))[Int.toNat x_l0]? = some [.sl ((m_0.Triangles.getD x_l0.toNat default).map (cI .i64))],
          Fn Go.Proofs.Try.prog 84 [.agg [.sl (m_0.Places.map GVector.cells), .sl (m_0.Triangles.map (cL (cI .i64)))], .sl ((m_0.Triangles.getD x_l0.toNat default).map (cI .i64))] (.agg [.f .f32 ((v_impl_normalOf m_0 (m_0.Triangles.getD x_l0.toNat default)).X), .f .f32 ((v_impl_normalOf m_0 (m_0.Triangles.getD x_l0.toNat default)).Y), .f .f32 ((v_impl_normalOf m_0 (m_0.Triangles.getD x_l0.toNat default)).Z)]) [],
          Fn Go.Proofs.Try.prog 83 [.agg [.f .f32 ((v_impl_normalOf m_0 (m_0.Triangles.getD x_l0.toNat default)).X), .f .f32 ((v_impl_normalOf m_0 (m_0.Triangles.getD x_l0.toNat default)).Y), .f .f32 ((v_impl_normalOf m_0 (m_0.Triangles.getD x_l0.toNat default)).Z)], .f .f32 (fop .quo .f32 pressure_1 1086324736)] (.agg [.f .f32 ((v_impl_ScaleVector (v_impl_normalOf m_0 (m_0.Triangles.getD x_l0.toNat default)) (fop .quo .f32 pressure_1 1086324736)).X), .f .f32 ((v_impl_ScaleVector (v_impl_normalOf m_0 (m_0.Triangles.getD x_l0.toNat default)) (fop .quo .f32 pressure_1 1086324736)).Y), .f .f32 ((v_impl_ScaleVector (v_impl_normalOf m_0 (m_0.Triangles.getD x_l0.toNat default)) (fop .quo .f32 pressure_1 1086324736)).Z)]) [],
          ((((m_0.Triangles.getD x_l0.toNat default).map (cI .i64)).length : Nat) : Int) = ((m_0.Triangles.getD x_l0.toNat default).length : Int),
          Lp Go.Proofs.Try.prog 0 (sub (bodyOf Go.Proofs.Try.f29) [1, 1, 1, 0, 1, 0, 0, 1, 1, 0, 0, 1, 1, 1, 0, 0]) ⟨[.agg [.sl (m_0.Places.map GVector.cells), .sl (m_0.Triangles.map (cL (cI .i64)))], .f .f32 pressure_1, .ptr 0 0 0, .any, .nils, .b false, .own 1, .any, .sl ((m_0.Triangles.getD x_l0.toNat default).map (cI .i64)), .ptr 2 0 0, .any, .any, .agg [.sl (m_0.Places.map GVector.cells), .sl (m_0.Triangles.map (cL (cI .i64)))], .b (v_impl_ValidMesh m_0), .b (!(v_impl_ValidMesh m_0)), .ptr 0 0 0, .sl (m_0.Places.map GVector.cells), .i .i64 (m_0.Places.length : Int), .own 1, .ptr 0 0 1, .sl (m_0.Triangles.map (cL (cI .i64))), .i .i64 (m_0.Triangles.length : Int), .i .i64 x_l0, .b (decide (x_l0 < (m_0.Triangles.length : Int))), .ref [.sl ((m_0.Triangles.getD x_l0.toNat default).map (cI .i64))] 0, .sl ((m_0.Triangles.getD x_l0.toNat default).map (cI .i64)), .agg [.sl (m_0.Places.map GVector.cells), .sl (m_0.Triangles.map (cL (cI .i64)))], .sl ((m_0.Triangles.getD x_l0.toNat default).map (cI .i64)), .agg [.f .f32 ((v_impl_normalOf m_0 (m_0.Triangles.getD x_l0.toNat default)).X), .f .f32 ((v_impl_normalOf m_0 (m_0.Triangles.getD x_l0.toNat default)).Y), .f .f32 ((v_impl_normalOf m_0 (m_0.Triangles.getD x_l0.toNat default)).Z)], .f .f32 pressure_1, .f .f32 (fop .quo .f32 pressure_1 1086324736), .agg [.f .f32 ((v_impl_ScaleVector (v_impl_normalOf m_0 (m_0.Triangles.getD x_l0.toNat default)) (fop .quo .f32 pressure_1 1086324736)).X), .f .f32 ((v_impl_ScaleVector (v_impl_normalOf m_0 (m_0.Triangles.getD x_l0.toNat default)) (fop .quo .f32 pressure_1 1086324736)).Y), .f .f32 ((v_impl_ScaleVector (v_impl_normalOf m_0 (m_0.Triangles.getD x_l0.toNat default)) (fop .quo .f32 pressure_1 1086324736)).Z)], .sl ((m_0.Triangles.getD x_l0.toNat default).map (cI .i64)), .i .i64 ((m_0.Triangles.getD x_l0.toNat default).length : Int), .i .i64 0, .any, .any, .any, .any, .any, .any, .any, .any, .any, .any, .any, .any, .any, .any, .any], [.box 36 [.sl (m_0.Places.map GVector.cells), .sl (m_0.Triangles.map (cL (cI .i64)))], .vec 61 3 (r1_l1.map GVector.cells) false, .box 61 [.f .f32 ((v_impl_ScaleVector (v_impl_normalOf m_0 (m_0.Triangles.getD x_l0.toNat default)) (fop .quo .f32 pressure_1 1086324736)).X), .f .f32 ((v_impl_ScaleVector (v_impl_normalOf m_0 (m_0.Triangles.getD x_l0.toNat default)) (fop .quo .f32 pressure_1 1086324736)).Y), .f .f32 ((v_impl_ScaleVector (v_impl_normalOf m_0 (m_0.Triangles.getD x_l0.toNat default)) (fop .quo .f32 pressure_1 1086324736)).Z)]]⟩ (.exit 2) ⟨[.agg [.sl (m_0.Places.map GVector.cells), .sl (m_0.Triangles.map (cL (cI .i64)))], .f .f32 pressure_1, .ptr 0 0 0, .any, .nils, .b false, .own 1, .any, .sl ((m_0.Triangles.getD x_l0.toNat default).map (cI .i64)), .ptr 2 0 0, .any, .any, .agg [.sl (m_0.Places.map GVector.cells), .sl (m_0.Triangles.map (cL (cI .i64)))], .b (v_impl_ValidMesh m_0), .b (!(v_impl_ValidMesh m_0)), .ptr 0 0 0, .sl (m_0.Places.map GVector.cells), .i .i64 (m_0.Places.length : Int), .own 1, .ptr 0 0 1, .sl (m_0.Triangles.map (cL (cI .i64))), .i .i64 (m_0.Triangles.length : Int), .i .i64 x_l0, .b (decide (x_l0 < (m_0.Triangles.length : Int))), .ref [.sl ((m_0.Triangles.getD x_l0.toNat default).map (cI .i64))] 0, .sl ((m_0.Triangles.getD x_l0.toNat default).map (cI .i64)), .agg [.sl (m_0.Places.map GVector.cells), .sl (m_0.Triangles.map (cL (cI .i64)))], .sl ((m_0.Triangles.getD x_l0.toNat default).map (cI .i64)), .agg [.f .f32 ((v_impl_normalOf m_0 (m_0.Triangles.getD x_l0.toNat default)).X), .f .f32 ((v_impl_normalOf m_0 (m_0.Triangles.getD x_l0.toNat default)).Y), .f .f32 ((v_impl_normalOf m_0 (m_0.Triangles.getD x_l0.toNat default)).Z)], .f .f32 pressure_1, .f .f32 (fop .quo .f32 pressure_1 1086324736), .agg [.f .f32 ((v_impl_ScaleVector (v_impl_normalOf m_0 (m_0.Triangles.getD x_l0.toNat default)) (fop .quo .f32 pressure_1 1086324736)).X), .f .f32 ((v_impl_ScaleVector (v_impl_normalOf m_0 (m_0.Triangles.getD x_l0.toNat default)) (fop .quo .f32 pressure_1 1086324736)).Y), .f .f32 ((v_impl_ScaleVector (v_impl_normalOf m_0 (m_0.Triangles.getD x_l0.toNat default)) (fop .quo .f32 pressure_1 1086324736)).Z)], .sl ((m_0.Triangles.getD x_l0.toNat default).map (cI .i64)), .any, .any, .any, .any, .any, .any, .any, .any, .any, .any, .any, .any, .any, .any, .any, .any, .any], [.box 36 [.sl (m_0.Places.map GVector.cells), .sl (m_0.Triangles.map (cL (cI .i64)))], .vec 61 3 ((lr_impl_GasForces_2_0 m_0 pressure_1 x_l0 r1_l1).map GVector.cells) false, .box 61 [.f .f32 ((v_impl_ScaleVector (v_impl_normalOf m_0 (m_0.Triangles.getD x_l0.toNat default)) (fop .quo .f32 pressure_1 1086324736)).X), .f .f32 ((v_impl_ScaleVector (v_impl_normalOf m_0 (m_0.Triangles.getD x_l0.toNat default)) (fop .quo .f32 pressure_1 1086324736)).Y), .f .f32 ((v_impl_ScaleVector (v_impl_normalOf m_0 (m_0.Triangles.getD x_l0.toNat default)) (fop .quo .f32 pressure_1 1086324736)).Z)]]⟩,
          IntKind.wrap .i64 (x_l0 + 1) = (x_l0 + 1)])
        (by kernel_rfl)
        ⟨h_0, (get_ok (by first | assumption | omega | (first | (have hT := okTris_is m_0 (by rw [← eq_ValidMesh]; assumption); have q := OkTris.at2 hT hv_impl_GasForces_1_0 (of_decide_eq_true (by assumption)) hv_impl_GasForces_2_0 (.inr (of_decide_eq_true (by assumption))); simp only [decide_eq_true_eq] at *; omega)) | (simp at * <;> omega) | (simp_all <;> omega)) (by first | assumption | omega | (first | (have hT := okTris_is m_0 (by rw [← eq_ValidMesh]; assumption); have q := OkTris.at2 hT hv_impl_GasForces_1_0 (of_decide_eq_true (by assumption)) hv_impl_GasForces_2_0 (.inr (of_decide_eq_true (by assumption))); simp only [decide_eq_true_eq] at *; omega)) | (simp at * <;> omega) | (simp_all <;> omega))), (t_impl_normalOf m_0 (m_0.Triangles.getD x_l0.toNat default) (show m_0.Places.length ≤ 1073741824 from (by first | assumption | exact OkTris.get (okTris_is _ (by rw [← eq_ValidMesh]; assumption)) (by assumption) (of_decide_eq_true (by assumption)) | (have q := (OkTris.get (okTris_is _ (by rw [← eq_ValidMesh]; assumption)) (by assumption) (of_decide_eq_true (by assumption))).1; omega) | omega)) (show m_0.Triangles.length ≤ 1073741824 from (by first | assumption | exact OkTris.get (okTris_is _ (by rw [← eq_ValidMesh]; assumption)) (by assumption) (of_decide_eq_true (by assumption)) | (have q := (OkTris.get (okTris_is _ (by rw [← eq_ValidMesh]; assumption)) (by assumption) (of_decide_eq_true (by assumption))).1; omega) | omega)) (show ∀ t ∈ m_0.Triangles, t.length ≤ 1073741824 from (by first | assumption | exact OkTris.get (okTris_is _ (by rw [← eq_ValidMesh]; assumption)) (by assumption) (of_decide_eq_true (by assumption)) | (have q := (OkTris.get (okTris_is _ (by rw [← eq_ValidMesh]; assumption)) (by assumption) (of_decide_eq_true (by assumption))).1; omega) | omega)) (show (m_0.Triangles.getD x_l0.toNat default).length ≤ 1073741824 from (by first | assumption | exact OkTris.get (okTris_is _ (by rw [← eq_ValidMesh]; assumption)) (by assumption) (of_decide_eq_true (by assumption)) | (have q := (OkTris.get (okTris_is _ (by rw [← eq_ValidMesh]; assumption)) (by assumption) (of_decide_eq_true (by assumption))).1; omega) | omega)) (show (m_0.Triangles.getD x_l0.toNat default).length = 3 ∧ ∀ x ∈ (m_0.Triangles.getD x_l0.toNat default), 0 ≤ x ∧ x < (m_0.Places.length : Int) from (by first | assumption | exact OkTris.get (okTris_is _ (by rw [← eq_ValidMesh]; assumption)) (by assumption) (of_decide_eq_true (by assumption)) | (have q := (OkTris.get (okTris_is _ (by rw [← eq_ValidMesh]; assumption)) (by assumption) (of_decide_eq_true (by assumption))).1; omega) | omega))), (t_impl_ScaleVector (v_impl_normalOf m_0 (m_0.Triangles.getD x_l0.toNat default)) (fop .quo .f32 pressure_1 1086324736)), len_ok, (lp_impl_GasForces_2 m_0 pressure_1 x_l0 r1_l1 hp0 hp1 hp2 hf_impl_GasForces_1_0 hv_impl_GasForces_1_0 hv_impl_GasForces_1_1 h_0 hf_impl_GasForces_1_0 ((((m_0.Triangles.getD x_l0.toNat default).length : Int) - 0).toNat + 1) 0 r1_l1 (show 0 ≤ 0 from (by first | assumption | omega | (first | (have hT := okTris_is m_0 (by rw [← eq_ValidMesh]; assumption); have q := OkTris.at2 hT hv_impl_GasForces_1_0 (of_decide_eq_true (by assumption)) hv_impl_GasForces_2_0 (.inr (of_decide_eq_true (by assumption))); simp only [decide_eq_true_eq] at *; omega)) | (simp at * <;> omega) | (simp_all <;> omega))) (show r1_l1.length = r1_l1.length from (by simp)) (Nat.lt_succ_self _)), (wrap_id (by first | assumption | omega | (first | (have hT := okTris_is m_0 (by rw [← eq_ValidMesh]; assumption); have q := OkTris.at2 hT hv_impl_GasForces_1_0 (of_decide_eq_true (by assumption)) hv_impl_GasForces_2_0 (.inr (of_decide_eq_true (by assumption))); simp only [decide_eq_true_eq] at *; omega)) | (simp at * <;> omega) | (simp_all <;> omega)) (by first | assumption | omega | (first | (have hT := okTris_is m_0 (by rw [← eq_ValidMesh]; assumption); have q := OkTris.at2 hT hv_impl_GasForces_1_0 (of_decide_eq_true (by assumption)) hv_impl_GasForces_2_0 (.inr (of_decide_eq_true (by assumption))); simp only [decide_eq_true_eq] at *; omega)) | (simp at * <;> omega) | (simp_all <;> omega))), trivial⟩
        rfl (ih (x_l0 + 1) (lr_impl_GasForces_2_0 m_0 pressure_1 x_l0 r1_l1) (show 0 ≤ (x_l0 + 1) from (by first | assumption | omega | (first | (have hT := okTris_is m_0 (by rw [← eq_ValidMesh]; assumption); have q := OkTris.at2 hT hv_impl_GasForces_1_0 (of_decide_eq_true (by assumption)) hv_impl_GasForces_2_0 (.inr (of_decide_eq_true (by assumption))); simp only [decide_eq_true_eq] at *; omega)) | (simp at * <;> omega) | (simp_all <;> omega))) (show (lr_impl_GasForces_2_0 m_0 pressure_1 x_l0 r1_l1).length = m_0.Places.length from (by first | assumption | omega | (first | (have hT := okTris_is m_0 (by rw [← eq_ValidMesh]; assumption); have q := OkTris.at2 hT hv_impl_GasForces_1_0 (of_decide_eq_true (by assumption)) hv_impl_GasForces_2_0 (.inr (of_decide_eq_true (by assumption))); simp only [decide_eq_true_eq] at *; omega)) | (simp at * <;> omega) | (simp_all <;> omega))) (by first | assumption | omega | (first | (have hT := okTris_is m_0 (by rw [← eq_ValidMesh]; assumption); have q := OkTris.at2 hT hv_impl_GasForces_1_0 (of_decide_eq_true (by assumption)) hv_impl_GasForces_2_0 (.inr (of_decide_eq_true (by assumption))); simp only [decide_eq_true_eq] at *; omega)) | (simp at * <;> omega) | (simp_all <;> omega)))
    | false =>
      have e : lo_impl_GasForces_1 m_0 pressure_1 (k + 1) x_l0 r1_l1 = r1_l1 := by simp only [lo_impl_GasForces_1, h_0, cond_false]
      rw [e]
      exact stepK_out (E := E0) E0Ok hMixed (e := (.exit 0)) (body := (sub (bodyOf Go.Proofs.Try.f29) [1, 1, 1, 0, 1, 0, 0])) (st := ⟨[.agg [.sl (m_0.Places.map GVector.cells), .sl (m_0.Triangles.map (cL (cI .i64)))], .f .f32 pressure_1, .ptr 0 0 0, .any, .nils, .b false, .own 1, .any, .any, .any, .any, .any, .agg [.sl (m_0.Places.map GVector.cells), .sl (m_0.Triangles.map (cL (cI .i64)))], .b (v_impl_ValidMesh m_0), .b (!(v_impl_ValidMesh m_0)), .ptr 0 0 0, .sl (m_0.Places.map GVector.cells), .i .i64 (m_0.Places.length : Int), .own 1, .ptr 0 0 1, .sl (m_0.Triangles.map (cL (cI .i64))), .i .i64 (m_0.Triangles.length : Int), .i .i64 x_l0, .any, .any, .any, .any, .any, .any, .any, .any, .any, .any, .any, .any, .any, .any, .any, .any, .any, .any, .any, .any, .any, .any, .any, .any, .any, .any, .any], [.box 36 [.sl (m_0.Places.map GVector.cells), .sl (m_0.Triangles.map (cL (cI .i64)))], .vec 61 3 (r1_l1.map GVector.cells) false]⟩)
        (st2 := ⟨[.agg [.sl (m_0.Places.map GVector.cells), .sl (m_0.Triangles.map (cL (cI .i64)))], .any, .ptr 0 0 0, .any, .nils, .b false, .own 1, .any, .any, .any, .any, .any, .agg [.sl (m_0.Places.map GVector.cells), .sl (m_0.Triangles.map (cL (cI .i64)))], .b (v_impl_ValidMesh m_0), .b (!(v_impl_ValidMesh m_0)), .ptr 0 0 0, .sl (m_0.Places.map GVector.cells), .i .i64 (m_0.Places.length : Int), .own 1, .ptr 0 0 1, .sl (m_0.Triangles.map (cL (cI .i64))), .any, .any, .any, .any, .any, .any, .any, .any, .any, .any, .any, .any, .any, .any, .any, .any, .any, .any, .any, .any, .any, .any, .any, .any, .any, .any, .any, .any, .any], [.box 36 [.sl (m_0.Places.map GVector.cells), .sl (m_0.Triangles.map (cL (cI .i64)))], .vec 61 3 (r1_l1.map GVector.cells) false]⟩)
        (ans := [.bo false])
        (ps := []) (mask := [true, false, true, false, true, true, true, false, false, false, false, false, true, true, true, true, true, true, true, true, true, false, false, false, false, false, false, false, false, false, false, false, false, false, false, false, false, false, false, false, false, false, false, false, false, false, false, false, false, false]) (ks := [0, 1])
        (C := [(decide (x_l0 < (m_0.Triangles.length : Int))) = false])
        (by kernel_rfl)
        ⟨h_0, trivial⟩
        (by intro h; cases h) rfl

theorem ln_impl_GasForces_1_0 (m_0 : GMesh) (pressure_1 : Nat) : ∀ (k : Nat) (x_l0 : Int) (r1_l1 : (List GVector)) (hk : ((m_0.Triangles.length : Int) - x_l0).toNat < k), (lo_impl_GasForces_1 m_0 pressure_1 k x_l0 r1_l1).length = r1_l1.length := by
  intro k
  induction k with
  | zero => intro x_l0 r1_l1 hk; exact absurd hk (Nat.not_lt_zero _)
  | succ k ih =>
    intro x_l0 r1_l1 hk
    cases h_0 : (decide (x_l0 < (m_0.Triangles.length : Int))) with
    | true =>
      have e : lo_impl_GasForces_1 m_0 pressure_1 (k + 1) x_l0 r1_l1 = (lo_impl_GasForces_1 m_0 pressure_1 k (x_l0 + 1) (lr_impl_GasForces_2_0 m_0 pressure_1 x_l0 r1_l1)) := by simp only [lo_impl_GasForces_1, h_0, cond_true]
      rw [e, ih (x_l0 + 1) (lr_impl_GasForces_2_0 m_0 pressure_1 x_l0 r1_l1) (by first | assumption | omega | (first | (have hT := okTris_is m_0 (by rw [← eq_ValidMesh]; assumption); have q := OkTris.at2 hT hv_impl_GasForces_1_0 (of_decide_eq_true (by assumption)) hv_impl_GasForces_2_0 (.inr (of_decide_eq_true (by assumption))); simp only [decide_eq_true_eq] at *; omega)) | (simp at * <;> omega) | (simp_all <;> omega))]; simp
    | false =>
      have e : lo_impl_GasForces_1 m_0 pressure_1 (k + 1) x_l0 r1_l1 = r1_l1 := by simp only [lo_impl_GasForces_1, h_0, cond_false]
      first | (rw [e]; done) | (rw [e]; rfl)

def lr_impl_GasForces_1_1 (m_0 : GMesh) (pressure_1 : Nat) : (List GVector) := (lo_impl_GasForces_1 m_0 pressure_1 (((m_0.Triangles.length : Int) - 0).toNat + 1) 0 (List.replicate (m_0.Places.length : Int).toNat (⟨0, 0, 0⟩ : GVector)))

@[simp] theorem len_lr_impl_GasForces_1_1_0 (m_0 : GMesh) (pressure_1 : Nat) : (lr_impl_GasForces_1_1 m_0 pressure_1).length = ((List.replicate (m_0.Places.length : Int).toNat (⟨0, 0, 0⟩ : GVector)) : (List GVector)).length := ln_impl_GasForces_1_0 m_0 pressure_1 (((m_0.Triangles.length : Int) - 0).toNat + 1) 0 (List.replicate (m_0.Places.length : Int).toNat (⟨0, 0, 0⟩ : GVector)) (by first | exact Nat.lt_succ_self _ | simp)

/-- impl.GasForces -/
def v_impl_GasForces (m_0 : GMesh) (pressure_1 : Nat) : (List GVector) × Bool := (cond (v_impl_ValidMesh m_0)
  ((lr_impl_GasForces_1_1 m_0 pressure_1), true)
  (([] : List GVector), false))

theorem le_v_impl_GasForces_0 (m_0 : GMesh) (pressure_1 : Nat) : (v_impl_GasForces m_0 pressure_1).1.length ≤ m_0.Places.length := by
  cases h0 : (v_impl_ValidMesh m_0) with
  | true =>
    first | (simp [v_impl_GasForces, h0]; done)
  | false =>
    first | (simp [v_impl_GasForces, h0]; done)

theorem t_impl_GasForces (m_0 : GMesh) (pressure_1 : Nat) (hp0 : m_0.Places.length ≤ 1073741824) (hp1 : m_0.Triangles.length ≤ 1073741824) (hp2 : ∀ t ∈ m_0.Triangles, t.length ≤ 1073741824)  : Fn Go.Proofs.Try.prog 29 [.agg [.sl (m_0.Places.map GVector.cells), .sl (m_0.Triangles.map (cL (cI .i64)))], .f .f32 pressure_1] (.tup [.own 0, .b ((v_impl_GasForces m_0 pressure_1).2)]) [.vec 61 3 (((v_impl_GasForces m_0 pressure_1).1).map GVector.cells) false] := by
  cases h0 : (v_impl_ValidMesh m_0) with
  | true =>
    exact Fn.cast (CallSt.fn (callSt_of_evK (E := E0) E0Ok hMixed (c := bodyOf Go.Proofs.Try.f29) (rows := []) (r := .tup [.own 0, .b true]) (rows' := [.vec 61 3 ((lr_impl_GasForces_1_1 m_0 pressure_1).map GVector.cells) false])
      (ans := [.call (.b (v_impl_ValidMesh m_0)) [], .bo false, .num (m_0.Places.length : Int), .num (m_0.Triangles.length : Int), .loop [true, true, true, false, true, true, true, false, false, false, false, false, true, true, true, true, true, true, true, true, true, true, true, false, false, false, false, false, false, false, false, false, false, false, false, false, false, false, false, false, false, false, false, false, false, false, false, false, false, false] 2 (.exit 0) ⟨[.agg [.sl (m_0.Places.map GVector.cells), .sl (m_0.Triangles.map (cL (cI .i64)))], .any, .ptr 0 0 0, .any, .nils, .b false, .own 1, .any, .any, .any, .any, .any, .agg [.sl (m_0.Places.map GVector.cells), .sl (m_0.Triangles.map (cL (cI .i64)))], .b (v_impl_ValidMesh m_0), .b (!(v_impl_ValidMesh m_0)), .ptr 0 0 0, .sl (m_0.Places.map GVector.cells), .i .i64 (m_0.Places.length : Int), .own 1, .ptr 0 0 1, .sl (m_0.Triangles.map (cL (cI .i64))), .any, .any, .any, .any, .any, .any, .any, .any, .any, .any, .any, .any, .any, .any, .any, .any, .any, .any, .any, .any, .any, .any, .any, .any, .any, .any, .any, .any, .any], [.box 36 [.sl (m_0.Places.map GVector.cells), .sl (m_0.Triangles.map (cL (cI .i64)))], .vec 61 3 ((lr_impl_GasForces_1_1 m_0 pressure_1).map GVector.cells) false]⟩, .keep [1]])
      (ps := [])
      (C := [Fn Go.Proofs.Try.prog 74 [.agg [.sl (m_0.Places.map GVector.cells), .sl (m_0.Triangles.map (cL (cI .i64)))]] (.b (v_impl_ValidMesh m_0)) [],
        (!(v_impl_ValidMesh m_0)) = false,
        (((m_0.Places.map GVector.cells).length : Nat) : Int) = (m_0.Places.length : Int),
        (m_0.Places.length : Int) = (m_0.Places.length : Int),
        0 ≤ (m_0.Places.length : Int),
        (m_0.Places.length : Int) ≤ 2147483648,
        (((m_0.Triangles.map (cL (cI .i64))).length : Nat) : Int) = (m_0.Triangles.length : Int),
        Lp Go.Proofs.Try.prog 0 (sub (bodyOf Go.Proofs.Try.f29) [1, 1, 1, 0, 1, 0, 0]) ⟨[.agg [.sl (m_0.Places.map GVector.cells), .sl (m_0.Triangles.map (cL (cI .i64)))], .f .f32 pressure_1, .ptr 0 0 0, .any, .nils, .b false, .own 1, .any, .any, .any, .any, .any, .agg [.sl (m_0.Places.map GVector.cells), .sl (m_0.Triangles.map (cL (cI .i64)))], .b (v_impl_ValidMesh m_0), .b (!(v_impl_ValidMesh m_0)), .ptr 0 0 0, .sl (m_0.Places.map GVector.cells), .i .i64 (m_0.Places.length : Int), .own 1, .ptr 0 0 1, .sl (m_0.Triangles.map (cL (cI .i64))), .i .i64 (m_0.Triangles.length : Int), .i .i64 0, .any, .any, .any, .any, .any, .any, .any, .any, .any, .any, .any, .any, .any, .any, .any, .any, .any, .any, .any, .any, .any, .any, .any, .any, .any, .any, .any], [.box 36 [.sl (m_0.Places.map GVector.cells), .sl (m_0.Triangles.map (cL (cI .i64)))], .vec 61 3 (List.replicate (Int.toNat (m_0.Places.length : Int)) [.f .f32 0, .f .f32 0, .f .f32 0]) false]⟩ (.exit 0) ⟨[.agg [.sl (m_0.Places.map GVector.cells), .sl (m_0.Triangles.map (cL (cI .i64)))], .any, .ptr 0 0 0, .any, .nils, .b false, .own 1, .any, .any, .any, .any, .any, .agg [.sl (m_0.Places.map GVector.cells), .sl (m_0.Triangles.map (cL (cI .i64)))], .b (v_impl_ValidMesh m_0), .b (!(v_impl_ValidMesh m_0)), .ptr 0 0 0, .sl (m_0.Places.map GVector.cells), .i .i64 (m_0.Places.length : Int), .own 1, .ptr 0 0 1, .sl (m_0.Triangles.map (cL (cI .i64))), .any, .any, .any, .any, .any, .any, .any, .any, .any, .any, .any, .any, .any, .any, .any, .any, .any, .any, .any, .any, .any, .any, .any, .any, .any, .any, .any, .any, .any], [.box 36 [.sl (m_0.Places.map GVector.cells), .sl (m_0.Triangles.map (cL (cI .i64)))], .vec 61 3 ((lr_impl_GasForces_1_1 m_0 pressure_1).map GVector.cells) false]⟩])
      Go.Proofs.Try.func29 rfl (by kernel_rfl) (by kernel_rfl)
      ⟨(t_impl_ValidMesh m_0 (show m_0.Places.length ≤ 1073741824 from (by first | assumption | exact OkTris.get (okTris_is _ (by rw [← eq_ValidMesh]; assumption)) (by assumption) (of_decide_eq_true (by assumption)) | (have q := (OkTris.get (okTris_is _ (by rw [← eq_ValidMesh]; assumption)) (by assumption) (of_decide_eq_true (by assumption))).1; omega) | omega)) (show m_0.Triangles.length ≤ 1073741824 from (by first | assumption | exact OkTris.get (okTris_is _ (by rw [← eq_ValidMesh]; assumption)) (by assumption) (of_decide_eq_true (by assumption)) | (have q := (OkTris.get (okTris_is _ (by rw [← eq_ValidMesh]; assumption)) (by assumption) (of_decide_eq_true (by assumption))).1; omega) | omega)) (show ∀ t ∈ m_0.Triangles, t.length ≤ 1073741824 from (by first | assumption | exact OkTris.get (okTris_is _ (by rw [← eq_ValidMesh]; assumption)) (by assumption) (of_decide_eq_true (by assumption)) | (have q := (OkTris.get (okTris_is _ (by rw [← eq_ValidMesh]; assumption)) (by assumption) (of_decide_eq_true (by assumption))).1; omega) | omega))), (congrArg not h0), len_ok, rfl, (by first | assumption | omega | (first | (have hT := okTris_is m_0 (by rw [← eq_ValidMesh]; assumption); have q := OkTris.at2 hT hv_impl_GasForces_1_0 (of_decide_eq_true (by assumption)) hv_impl_GasForces_2_0 (.inr (of_decide_eq_true (by assumption))); simp only [decide_eq_true_eq] at *; omega)) | (simp at * <;> omega) | (simp_all <;> omega)), (by first | assumption | omega | (first | (have hT := okTris_is m_0 (by rw [← eq_ValidMesh]; assumption); have q := OkTris.at2 hT hv_impl_GasForces_1_0 (of_decide_eq_true (by assumption)) hv_impl_GasForces_2_0 (.inr (of_decide_eq_true (by assumption))); simp only [decide_eq_true_eq] at *; omega)) | (simp at * <;> omega) | (simp_all <;> omega)), len_ok, (lp_cast (lp_impl_GasForces_1 m_0 pressure_1 hp0 hp1 hp2 h0 (((m_0.Triangles.length : Int) - 0).toNat + 1) 0 (List.replicate (m_0.Places.length : Int).toNat (⟨0, 0, 0⟩ : GVector)) (show 0 ≤ 0 from (by first | assumption | omega | (first | (have hT := okTris_is m_0 (by rw [← eq_ValidMesh]; assumption); have q := OkTris.at2 hT hv_impl_GasForces_1_0 (of_decide_eq_true (by assumption)) hv_impl_GasForces_2_0 (.inr (of_decide_eq_true (by assumption))); simp only [decide_eq_true_eq] at *; omega)) | (simp at * <;> omega) | (simp_all <;> omega))) (show (List.replicate (m_0.Places.length : Int).toNat (⟨0, 0, 0⟩ : GVector)).length = m_0.Places.length from (by simp)) (Nat.lt_succ_self _)) (by simp [GVector.cells])), trivial⟩) rfl) (by simp only [v_impl_GasForces, h0, cond_true]) (by simp [v_impl_GasForces, h0])
  | false =>
    exact Fn.cast (CallSt.fn (callSt_of_evK (E := E0) E0Ok hMixed (c := bodyOf Go.Proofs.Try.f29) (rows := []) (r := .tup [.own 0, .b false]) (rows' := [.vec 61 3 [] false])
      (ans := [.call (.b (v_impl_ValidMesh m_0)) [], .bo true, .keep [1]])
      (ps := [(.tm 4, .vec 61 3 [] false)])
      (C := [Fn Go.Proofs.Try.prog 74 [.agg [.sl (m_0.Places.map GVector.cells), .sl (m_0.Triangles.map (cL (cI .i64)))]] (.b (v_impl_ValidMesh m_0)) [],
        (!(v_impl_ValidMesh m_0)) = true])
      Go.Proofs.Try.func29 rfl (by kernel_rfl) (by kernel_rfl)
      ⟨(t_impl_ValidMesh m_0 (show m_0.Places.length ≤ 1073741824 from (by first | assumption | exact OkTris.get (okTris_is _ (by rw [← eq_ValidMesh]; assumption)) (by assumption) (of_decide_eq_true (by assumption)) | (have q := (OkTris.get (okTris_is _ (by rw [← eq_ValidMesh]; assumption)) (by assumption) (of_decide_eq_true (by assumption))).1; omega) | omega)) (show m_0.Triangles.length ≤ 1073741824 from (by first | assumption | exact OkTris.get (okTris_is _ (by rw [← eq_ValidMesh]; assumption)) (by assumption) (of_decide_eq_true (by assumption)) | (have q := (OkTris.get (okTris_is _ (by rw [← eq_ValidMesh]; assumption)) (by assumption) (of_decide_eq_true (by assumption))).1; omega) | omega)) (show ∀ t ∈ m_0.Triangles, t.length ≤ 1073741824 from (by first | assumption | exact OkTris.get (okTris_is _ (by rw [← eq_ValidMesh]; assumption)) (by assumption) (of_decide_eq_true (by assumption)) | (have q := (OkTris.get (okTris_is _ (by rw [← eq_ValidMesh]; assumption)) (by assumption) (of_decide_eq_true (by assumption))).1; omega) | omega))), (congrArg not h0), trivial⟩) rfl) (by simp only [v_impl_GasForces, h0, cond_false]) (by simp [v_impl_GasForces, h0, GVector.cells])

/-- laws.sameFloat -/
def v_laws_sameFloat (a_0 : Nat) (b_1 : Nat) : Bool := (cond (fcmp .neq .f64 a_0 a_0)
  (fcmp .neq .f64 b_1 b_1)
  (cond (fcmp .neq .f64 b_1 b_1)
    false
    (cond (fcmp .eql .f64 a_0 0)
      (cond (fcmp .eql .f64 b_1 0)
        ((fcmp .gtr .f64 (fop .quo .f64 4607182418800017408 a_0) 0) == (fcmp .gtr .f64 (fop .quo .f64 4607182418800017408 b_1) 0))
        (fcmp .eql .f64 a_0 b_1))
      (fcmp .eql .f64 a_0 b_1))))

theorem t_laws_sameFloat (a_0 : Nat) (b_1 : Nat)   : Fn Go.Proofs.Try.prog 17 [.f .f64 a_0, .f .f64 b_1] (.b (v_laws_sameFloat a_0 b_1)) [] := by
  cases h0 : (fcmp .neq .f64 a_0 a_0) with
  | true =>
    exact Fn.cast (CallSt.fn (callSt_of_evK (E := E0) E0Ok hMixed (c := bodyOf Go.Proofs.Try.f17) (rows := []) (r := .b (fcmp .neq .f64 b_1 b_1)) (rows' := [])
      (ans := [.bo true, .bo true, .bo true, .bo true, .bo true, .bo true, .bo true, .bo true, .bo true, .keep []])
      (ps := [])
      (C := [(fcmp .neq .f64 a_0 a_0) = true,
        (fcmp .neq .f64 a_0 a_0) = true,
        (fcmp .neq .f64 a_0 a_0) = true,
        (fcmp .neq .f64 a_0 a_0) = true,
        true = true,
        (fcmp .neq .f64 a_0 a_0) = true,
        (fcmp .neq .f64 a_0 a_0) = true,
        (fcmp .neq .f64 a_0 a_0) = true,
        (fcmp .neq .f64 a_0 a_0) = true])
      Go.Proofs.Try.func17 rfl (by kernel_rfl) (by kernel_rfl)
      ⟨h0, h0, h0, h0, rfl, h0, h0, h0, h0, trivial⟩) rfl) (by simp only [v_laws_sameFloat, h0, cond_true]) rfl
  | false =>
    cases h1 : (fcmp .neq .f64 b_1 b_1) with
    | true =>
      exact Fn.cast (CallSt.fn (callSt_of_evK (E := E0) E0Ok hMixed (c := bodyOf Go.Proofs.Try.f17) (rows := []) (r := .b false) (rows' := [])
        (ans := [.bo false, .bo false, .bo false, .bo false, .bo true, .bo false, .bo false, .bo false, .bo false, .keep []])
        (ps := [])
        (C := [(fcmp .neq .f64 a_0 a_0) = false,
          (fcmp .neq .f64 a_0 a_0) = false,
          (fcmp .neq .f64 a_0 a_0) = false,
          (fcmp .neq .f64 a_0 a_0) = false,
          (fcmp .neq .f64 b_1 b_1) = true,
          (fcmp .neq .f64 a_0 a_0) = false,
          (fcmp .neq .f64 a_0 a_0) = false,
          (fcmp .neq .f64 a_0 a_0) = false,
          (fcmp .neq .f64 a_0 a_0) = false])
        Go.Proofs.Try.func17 rfl (by kernel_rfl) (by kernel_rfl)
        ⟨h0, h0, h0, h0, h1, h0, h0, h0, h0, trivial⟩) rfl) (by simp only [v_laws_sameFloat, h0, h1, cond_true, cond_false]) rfl
    | false =>
      cases h2 : (fcmp .eql .f64 a_0 0) with
      | true =>
        cases h3 : (fcmp .eql .f64 b_1 0) with
        | true =>
          exact Fn.cast (CallSt.fn (callSt_of_evK (E := E0) E0Ok hMixed (c := bodyOf Go.Proofs.Try.f17) (rows := []) (r := .b ((fcmp .gtr .f64 (fop .quo .f64 4607182418800017408 a_0) 0) == (fcmp .gtr .f64 (fop .quo .f64 4607182418800017408 b_1) 0))) (rows' := [])
            (ans := [.bo false, .bo false, .bo false, .bo false, .bo false, .bo true, .bo true, .bo true, .bo true, .keep []])
            (ps := [])
            (C := [(fcmp .neq .f64 a_0 a_0) = false,
              (fcmp .neq .f64 a_0 a_0) = false,
              (fcmp .neq .f64 a_0 a_0) = false,
              (fcmp .neq .f64 a_0 a_0) = false,
              (fcmp .neq .f64 b_1 b_1) = false,
              (fcmp .eql .f64 a_0 0) = true,
              (fcmp .eql .f64 a_0 0) = true,
              (fcmp .eql .f64 a_0 0) = true,
              (fcmp .eql .f64 b_1 0) = true])
            Go.Proofs.Try.func17 rfl (by kernel_rfl) (by kernel_rfl)
            ⟨h0, h0, h0, h0, h1, h2, h2, h2, h3, trivial⟩) rfl) (by simp only [v_laws_sameFloat, h0, h1, h2, h3, cond_true, cond_false]) rfl
        | false =>
          exact Fn.cast (CallSt.fn (callSt_of_evK (E := E0) E0Ok hMixed (c := bodyOf Go.Proofs.Try.f17) (rows := []) (r := .b (fcmp .eql .f64 a_0 b_1)) (rows' := [])
            (ans := [.bo false, .bo false, .bo false, .bo false, .bo false, .bo true, .bo true, .bo true, .bo false, .keep []])
            (ps := [])
            (C := [(fcmp .neq .f64 a_0 a_0) = false,
              (fcmp .neq .f64 a_0 a_0) = false,
              (fcmp .neq .f64 a_0 a_0) = false,
              (fcmp .neq .f64 a_0 a_0) = false,
              (fcmp .neq .f64 b_1 b_1) = false,
              (fcmp .eql .f64 a_0 0) = true,
              (fcmp .eql .f64 a_0 0) = true,
              (fcmp .eql .f64 a_0 0) = true,
              (fcmp .eql .f64 b_1 0) = false])
            Go.Proofs.Try.func17 rfl (by kernel_rfl) (by kernel_rfl)
            ⟨h0, h0, h0, h0, h1, h2, h2, h2, h3, trivial⟩) rfl) (by simp only [v_laws_sameFloat, h0, h1, h2, h3, cond_true, cond_false]) rfl
      | false =>
        exact Fn.cast (CallSt.fn (callSt_of_evK (E := E0) E0Ok hMixed (c := bodyOf Go.Proofs.Try.f17) (rows := []) (r := .b (fcmp .eql .f64 a_0 b_1)) (rows' := [])
          (ans := [.bo false, .bo false, .bo false, .bo false, .bo false, .bo false, .bo false, .bo false, .bo false, .keep []])
          (ps := [])
          (C := [(fcmp .neq .f64 a_0 a_0) = false,
            (fcmp .neq .f64 a_0 a_0) = false,
            (fcmp .neq .f64 a_0 a_0) = false,
            (fcmp .neq .f64 a_0 a_0) = false,
            (fcmp .neq .f64 b_1 b_1) = false,
            (fcmp .eql .f64 a_0 0) = false,
            (fcmp .eql .f64 a_0 0) = false,
            (fcmp .eql .f64 a_0 0) = false,
            false = false])
          Go.Proofs.Try.func17 rfl (by kernel_rfl) (by kernel_rfl)
          ⟨h0, h0, h0, h0, h1, h2, h2, h2, rfl, trivial⟩) rfl) (by simp only [v_laws_sameFloat, h0, h1, h2, cond_false]) rfl

theorem same_self (x : Nat) : v_laws_sameFloat x x = true := by
  unfold v_laws_sameFloat
  cases h : fcmp .neq .f64 x x
  · simp only [cond_false]
    have h2 : fcmp .eql .f64 x x = true := by
      unfold fcmp at h ⊢
      simpa using h
    cases fcmp .eql .f64 x 0 <;> simp [h2]
  · rfl

/-- laws.eqVector -/
def v_laws_eqVector (a_0 : GVector) (b_1 : GVector) : Bool := (cond (v_laws_sameFloat (fcv .f32 .f64 a_0.X) (fcv .f32 .f64 b_1.X))
  (cond (v_laws_sameFloat (fcv .f32 .f64 a_0.Y) (fcv .f32 .f64 b_1.Y))
    (cond (v_laws_sameFloat (fcv .f32 .f64 a_0.Z) (fcv .f32 .f64 b_1.Z))
      true
      false)
    false)
  false)

theorem t_laws_eqVector (a_0 : GVector) (b_1 : GVector)   : Fn Go.Proofs.Try.prog 86 [.agg [.f .f32 a_0.X, .f .f32 a_0.Y, .f .f32 a_0.Z], .agg [.f .f32 b_1.X, .f .f32 b_1.Y, .f .f32 b_1.Z]] (.b (v_laws_eqVector a_0 b_1)) [] := by
  cases h0 : (v_laws_sameFloat (fcv .f32 .f64 a_0.X) (fcv .f32 .f64 b_1.X)) with
  | true =>
    cases h1 : (v_laws_sameFloat (fcv .f32 .f64 a_0.Y) (fcv .f32 .f64 b_1.Y)) with
    | true =>
      cases h2 : (v_laws_sameFloat (fcv .f32 .f64 a_0.Z) (fcv .f32 .f64 b_1.Z)) with
      | true =>
        exact Fn.cast (CallSt.fn (callSt_of_evK (E := E0) E0Ok hMixed (c := bodyOf Go.Proofs.Try.f86) (rows := []) (r := .b true) (rows' := [])
          (ans := [.call (.b (v_laws_sameFloat (fcv .f32 .f64 a_0.X) (fcv .f32 .f64 b_1.X))) [], .bo false, .call (.b (v_laws_sameFloat (fcv .f32 .f64 a_0.Y) (fcv .f32 .f64 b_1.Y))) [], .bo false, .call (.b (v_laws_sameFloat (fcv .f32 .f64 a_0.Z) (fcv .f32 .f64 b_1.Z))) [], .bo false, .keep []])
          (ps := [])
          (C := [fcvOk .f32 .f64 a_0.X = true,
            fcvOk .f32 .f64 b_1.X = true,
            Fn Go.Proofs.Try.prog 17 [.f .f64 (fcv .f32 .f64 a_0.X), .f .f64 (fcv .f32 .f64 b_1.X)] (.b (v_laws_sameFloat (fcv .f32 .f64 a_0.X) (fcv .f32 .f64 b_1.X))) [],
            (!(v_laws_sameFloat (fcv .f32 .f64 a_0.X) (fcv .f32 .f64 b_1.X))) = false,
            fcvOk .f32 .f64 a_0.Y = true,
            fcvOk .f32 .f64 b_1.Y = true,
            Fn Go.Proofs.Try.prog 17 [.f .f64 (fcv .f32 .f64 a_0.Y), .f .f64 (fcv .f32 .f64 b_1.Y)] (.b (v_laws_sameFloat (fcv .f32 .f64 a_0.Y) (fcv .f32 .f64 b_1.Y))) [],
            (!(v_laws_sameFloat (fcv .f32 .f64 a_0.Y) (fcv .f32 .f64 b_1.Y))) = false,
            fcvOk .f32 .f64 a_0.Z = true,
            fcvOk .f32 .f64 b_1.Z = true,
            Fn Go.Proofs.Try.prog 17 [.f .f64 (fcv .f32 .f64 a_0.Z), .f .f64 (fcv .f32 .f64 b_1.Z)] (.b (v_laws_sameFloat (fcv .f32 .f64 a_0.Z) (fcv .f32 .f64 b_1.Z))) [],
            (!(v_laws_sameFloat (fcv .f32 .f64 a_0.Z) (fcv .f32 .f64 b_1.Z))) = false])
          Go.Proofs.Try.func86 rfl (by kernel_rfl) (by kernel_rfl)
          ⟨(widenOk _), (widenOk _), (t_laws_sameFloat (fcv .f32 .f64 a_0.X) (fcv .f32 .f64 b_1.X)), (congrArg not h0), (widenOk _), (widenOk _), (t_laws_sameFloat (fcv .f32 .f64 a_0.Y) (fcv .f32 .f64 b_1.Y)), (congrArg not h1), (widenOk _), (widenOk _), (t_laws_sameFloat (fcv .f32 .f64 a_0.Z) (fcv .f32 .f64 b_1.Z)), (congrArg not h2), trivial⟩) rfl) (by simp only [v_laws_eqVector, h0, h1, h2, cond_true]) rfl
      | false =>
        exact Fn.cast (CallSt.fn (callSt_of_evK (E := E0) E0Ok hMixed (c := bodyOf Go.Proofs.Try.f86) (rows := []) (r := .b false) (rows' := [])
          (ans := [.call (.b (v_laws_sameFloat (fcv .f32 .f64 a_0.X) (fcv .f32 .f64 b_1.X))) [], .bo false, .call (.b (v_laws_sameFloat (fcv .f32 .f64 a_0.Y) (fcv .f32 .f64 b_1.Y))) [], .bo false, .call (.b (v_laws_sameFloat (fcv .f32 .f64 a_0.Z) (fcv .f32 .f64 b_1.Z))) [], .bo true, .keep []])
          (ps := [])
          (C := [fcvOk .f32 .f64 a_0.X = true,
            fcvOk .f32 .f64 b_1.X = true,
            Fn Go.Proofs.Try.prog 17 [.f .f64 (fcv .f32 .f64 a_0.X), .f .f64 (fcv .f32 .f64 b_1.X)] (.b (v_laws_sameFloat (fcv .f32 .f64 a_0.X) (fcv .f32 .f64 b_1.X))) [],
            (!(v_laws_sameFloat (fcv .f32 .f64 a_0.X) (fcv .f32 .f64 b_1.X))) = false,
            fcvOk .f32 .f64 a_0.Y = true,
            fcvOk .f32 .f64 b_1.Y = true,
            Fn Go.Proofs.Try.prog 17 [.f .f64 (fcv .f32 .f64 a_0.Y), .f .f64 (fcv .f32 .f64 b_1.Y)] (.b (v_laws_sameFloat (fcv .f32 .f64 a_0.Y) (fcv .f32 .f64 b_1.Y))) [],
            (!(v_laws_sameFloat (fcv .f32 .f64 a_0.Y) (fcv .f32 .f64 b_1.Y))) = false,
            fcvOk .f32 .f64 a_0.Z = true,
            fcvOk .f32 .f64 b_1.Z = true,
            Fn Go.Proofs.Try.prog 17 [.f .f64 (fcv .f32 .f64 a_0.Z), .f .f64 (fcv .f32 .f64 b_1.Z)] (.b (v_laws_sameFloat (fcv .f32 .f64 a_0.Z) (fcv .f32 .f64 b_1.Z))) [],
            (!(v_laws_sameFloat (fcv .f32 .f64 a_0.Z) (fcv .f32 .f64 b_1.Z))) = true])
          Go.Proofs.Try.func86 rfl (by kernel_rfl) (by kernel_rfl)
          ⟨(widenOk _), (widenOk _), (t_laws_sameFloat (fcv .f32 .f64 a_0.X) (fcv .f32 .f64 b_1.X)), (congrArg not h0), (widenOk _), (widenOk _), (t_laws_sameFloat (fcv .f32 .f64 a_0.Y) (fcv .f32 .f64 b_1.Y)), (congrArg not h1), (widenOk _), (widenOk _), (t_laws_sameFloat (fcv .f32 .f64 a_0.Z) (fcv .f32 .f64 b_1.Z)), (congrArg not h2), trivial⟩) rfl) (by simp only [v_laws_eqVector, h0, h1, h2, cond_true, cond_false]) rfl
    | false =>
      exact Fn.cast (CallSt.fn (callSt_of_evK (E := E0) E0Ok hMixed (c := bodyOf Go.Proofs.Try.f86) (rows := []) (r := .b false) (rows' := [])
        (ans := [.call (.b (v_laws_sameFloat (fcv .f32 .f64 a_0.X) (fcv .f32 .f64 b_1.X))) [], .bo false, .call (.b (v_laws_sameFloat (fcv .f32 .f64 a_0.Y) (fcv .f32 .f64 b_1.Y))) [], .bo true, .keep []])
        (ps := [])
        (C := [fcvOk .f32 .f64 a_0.X = true,
          fcvOk .f32 .f64 b_1.X = true,
          Fn Go.Proofs.Try.prog 17 [.f .f64 (fcv .f32 .f64 a_0.X), .f .f64 (fcv .f32 .f64 b_1.X)] (.b (v_laws_sameFloat (fcv .f32 .f64 a_0.X) (fcv .f32 .f64 b_1.X))) [],
          (!(v_laws_sameFloat (fcv .f32 .f64 a_0.X) (fcv .f32 .f64 b_1.X))) = false,
          fcvOk .f32 .f64 a_0.Y = true,
          fcvOk .f32 .f64 b_1.Y = true,
          Fn Go.Proofs.Try.prog 17 [.f .f64 (fcv .f32 .f64 a_0.Y), .f .f64 (fcv .f32 .f64 b_1.Y)] (.b (v_laws_sameFloat (fcv .f32 .f64 a_0.Y) (fcv .f32 .f64 b_1.Y))) [],
          (!(v_laws_sameFloat (fcv .f32 .f64 a_0.Y) (fcv .f32 .f64 b_1.Y))) = true])
        Go.Proofs.Try.func86 rfl (by kernel_rfl) (by kernel_rfl)
        ⟨(widenOk _), (widenOk _), (t_laws_sameFloat (fcv .f32 .f64 a_0.X) (fcv .f32 .f64 b_1.X)), (congrArg not h0), (widenOk _), (widenOk _), (t_laws_sameFloat (fcv .f32 .f64 a_0.Y) (fcv .f32 .f64 b_1.Y)), (congrArg not h1), trivial⟩) rfl) (by simp only [v_laws_eqVector, h0, h1, cond_true, cond_false]) rfl
  | false =>
    exact Fn.cast (CallSt.fn (callSt_of_evK (E := E0) E0Ok hMixed (c := bodyOf Go.Proofs.Try.f86) (rows := []) (r := .b false) (rows' := [])
      (ans := [.call (.b (v_laws_sameFloat (fcv .f32 .f64 a_0.X) (fcv .f32 .f64 b_1.X))) [], .bo true, .keep []])
      (ps := [])
      (C := [fcvOk .f32 .f64 a_0.X = true,
        fcvOk .f32 .f64 b_1.X = true,
        Fn Go.Proofs.Try.prog 17 [.f .f64 (fcv .f32 .f64 a_0.X), .f .f64 (fcv .f32 .f64 b_1.X)] (.b (v_laws_sameFloat (fcv .f32 .f64 a_0.X) (fcv .f32 .f64 b_1.X))) [],
        (!(v_laws_sameFloat (fcv .f32 .f64 a_0.X) (fcv .f32 .f64 b_1.X))) = true])
      Go.Proofs.Try.func86 rfl (by kernel_rfl) (by kernel_rfl)
      ⟨(widenOk _), (widenOk _), (t_laws_sameFloat (fcv .f32 .f64 a_0.X) (fcv .f32 .f64 b_1.X)), (congrArg not h0), trivial⟩) rfl) (by simp only [v_laws_eqVector, h0, cond_false]) rfl

theorem eqVector_self (a : GVector) : v_laws_eqVector a a = true := by
  simp [v_laws_eqVector, same_self]

def lo_laws_eqVectorS_1 (a_0 : (List GVector)) (b_1 : (List GVector)) : Nat → Int → (Unit) ⊕ (Unit)
  | 0, _ => .inl default
  | k + 1, i_l0 => (cond (decide (i_l0 < (a_0.length : Int)))
    (cond (v_laws_eqVector (a_0.getD i_l0.toNat default) (b_1.getD i_l0.toNat default))
      (lo_laws_eqVectorS_1 a_0 b_1 k (i_l0 + 1))
      (.inl ()))
    (.inr ()))

def ls_laws_eqVectorS_1 (a_0 : (List GVector)) (b_1 : (List GVector)) : (Unit) ⊕ (Unit) → Ex × St
  | .inl r => (.ret, ⟨[.any, .any, .any, .any, .b false, .any, .any, .any, .any, .any, .any, .any, .any, .any, .any, .any, .any, .any, .any, .any, .any, .any, .any, .any, .any, .any, .any], []⟩)
  | .inr r => ((.exit 0), ⟨[.sl (a_0.map GVector.cells), .sl (b_1.map GVector.cells), .any, .any, .any, .any, .sl (a_0.map GVector.cells), .i .i64 (a_0.length : Int), .sl (b_1.map GVector.cells), .i .i64 (b_1.length : Int), .b ((a_0.length : Int) != (b_1.length : Int)), .any, .any, .any, .any, .any, .any, .any, .any, .any, .any, .any, .any, .any, .any, .any, .any], []⟩)

theorem lp_laws_eqVectorS_1 (a_0 : (List GVector)) (b_1 : (List GVector)) (hp0 : a_0.length ≤ 1073741824) (hp1 : b_1.length ≤ 1073741824) (hf_laws_eqVectorS_1_0 : ((a_0.length : Int) != (b_1.length : Int)) = false) : ∀ (k : Nat) (i_l0 : Int) (hv_laws_eqVectorS_1_0 : 0 ≤ i_l0) (hk : ((a_0.length : Int) - i_l0).toNat < k), Lp Go.Proofs.Try.prog 0 (sub (bodyOf Go.Proofs.Try.f30) [1, 1, 0, 1, 0, 0]) ⟨[.sl (a_0.map GVector.cells), .sl (b_1.map GVector.cells), .any, .any, .any, .i .i64 i_l0, .sl (a_0.map GVector.cells), .i .i64 (a_0.length : Int), .sl (b_1.map GVector.cells), .i .i64 (b_1.length : Int), .b ((a_0.length : Int) != (b_1.length : Int)), .any, .any, .any, .any, .any, .any, .any, .any, .any, .any, .any, .any, .any, .any, .any, .any], []⟩ (ls_laws_eqVectorS_1 a_0 b_1 (lo_laws_eqVectorS_1 a_0 b_1 k i_l0)).1 (ls_laws_eqVectorS_1 a_0 b_1 (lo_laws_eqVectorS_1 a_0 b_1 k i_l0)).2 := by
  intro k
  induction k with
  | zero => intro i_l0 hv_laws_eqVectorS_1_0 hk; exact absurd hk (Nat.not_lt_zero _)
  | succ k ih =>
    intro i_l0 hv_laws_eqVectorS_1_0 hk
    cases h_0 : (decide (i_l0 < (a_0.length : Int))) with
    | true =>
      cases h_1 : (v_laws_eqVector (a_0.getD i_l0.toNat default) (b_1.getD i_l0.toNat default)) with
      | true =>
        have e : lo_laws_eqVectorS_1 a_0 b_1 (k + 1) i_l0 = (lo_laws_eqVectorS_1 a_0 b_1 k (i_l0 + 1)) := by simp only [lo_laws_eqVectorS_1, h_0, h_1, cond_true]
        rw [e]
        exact stepK_next (E := E0) E0Ok hMixed (body := (sub (bodyOf Go.Proofs.Try.f30) [1, 1, 0, 1, 0, 0])) (st := ⟨[.sl (a_0.map GVector.cells), .sl (b_1.map GVector.cells), .any, .any, .any, .i .i64 i_l0, .sl (a_0.map GVector.cells), .i .i64 (a_0.length : Int), .sl (b_1.map GVector.cells), .i .i64 (b_1.length : Int), .b ((a_0.length : Int) != (b_1.length : Int)), .any, .any, .any, .any, .any, .any, .any, .any, .any, .any, .any, .any, .any, .any, .any, .any], []⟩)
          (st2 := ⟨[.sl (a_0.map GVector.cells), .sl (b_1.map GVector.cells), .any, .any, .any, .i .i64 (i_l0 + 1), .sl (a_0.map GVector.cells), .i .i64 (a_0.length : Int), .sl (b_1.map GVector.cells), .i .i64 (b_1.length : Int), .b ((a_0.length : Int) != (b_1.length : Int)), .any, .any, .any, .any, .any, .any, .any, .any, .any, .any, .any, .any, .any, .any, .any, .any], []⟩)
          (ans := [.num (a_0.length : Int), .bo true, .keep [8, 8], .el [.f .f32 ((a_0.getD i_l0.toNat default).X), .f .f32 ((a_0.getD i_l0.toNat default).Y), .f .f32 ((a_0.getD i_l0.toNat default).Z)], .el [.f .f32 ((b_1.getD i_l0.toNat default).X), .f .f32 ((b_1.getD i_l0.toNat default).Y), .f .f32 ((b_1.getD i_l0.toNat default).Z)], .call (.b (v_laws_eqVector (a_0.getD i_l0.toNat default) (b_1.getD i_l0.toNat default))) [], .bo false, .num (i_l0 + 1)])
          (ps := []) (mask := [true, true, false, false, false, true, true, true, true, true, true, false, false, false, false, false, false, false, false, false, false, false, false, false, false, false, false]) (ks := [])
          (C := [(((a_0.map GVector.cells).length : Nat) : Int) = (a_0.length : Int),
            (decide (i_l0 < (a_0.length : Int))) = true,
            0 ≤ i_l0 ∧ (a_0.map GVector.cells)[Int.toNat i_l0]? = some [.f .f32 ((a_0.getD i_l0.toNat default).X), .f .f32 ((a_0.getD i_l0.toNat default).Y), .f .f32 ((a_0.getD i_l0.toNat default).Z)],
            0 ≤ i_l0 ∧ (b_1.map GVector.cells)[Int.toNat i_l0]? = some [.f .f32 ((b_1.getD i_l0.toNat default).X), .f .f32 ((b_1.getD i_l0.toNat default).Y), .f .f32 ((b_1.getD i_l0.toNat default).Z)],
            Fn Go.Proofs.Try.prog 86 [.agg [.f .f32 ((a_0.getD i_l0.toNat default).X), .f .f32 ((a_0.getD i_l0.toNat default).Y), .f .f32 ((a_0.getD i_l0.toNat default).Z)], .agg [.f .f32 ((b_1.getD i_l0.toNat default).X), .f .f32 ((b_1.getD i_l0.toNat default).Y), .f .f32 ((b_1.getD i_l0.toNat default).Z)]] (.b (v_laws_eqVector (a_0.getD i_l0.toNat default) (b_1.getD i_l0.toNat default))) [],
            (!(v_laws_eqVector (a_0.getD i_l0.toNat default) (b_1.getD i_l0.toNat default))) = false,
            IntKind.wrap .i64 (i_l0 + 1) = (i_l0 + 1)])
          (by kernel_rfl)
          ⟨len_ok, h_0, (get_ok (by first | assumption | omega | (simp at * <;> omega) | (simp_all <;> omega)) (by first | assumption | omega | (simp at * <;> omega) | (simp_all <;> omega))), (get_ok (by first | assumption | omega | (simp at * <;> omega) | (simp_all <;> omega)) (by first | assumption | omega | (simp at * <;> omega) | (simp_all <;> omega))), (t_laws_eqVector (a_0.getD i_l0.toNat default) (b_1.getD i_l0.toNat default)), (congrArg not h_1), (wrap_id (by first | assumption | omega | (simp at * <;> omega) | (simp_all <;> omega)) (by first | assumption | omega | (simp at * <;> omega) | (simp_all <;> omega))), trivial⟩
          rfl (ih (i_l0 + 1) (show 0 ≤ (i_l0 + 1) from (by first | assumption | omega | (simp at * <;> omega) | (simp_all <;> omega))) (by first | assumption | omega | (simp at * <;> omega) | (simp_all <;> omega)))
      | false =>
        have e : lo_laws_eqVectorS_1 a_0 b_1 (k + 1) i_l0 = (.inl ()) := by simp only [lo_laws_eqVectorS_1, h_0, h_1, cond_true, cond_false]
        rw [e]
        exact stepK_out (E := E0) E0Ok hMixed (e := .ret) (body := (sub (bodyOf Go.Proofs.Try.f30) [1, 1, 0, 1, 0, 0])) (st := ⟨[.sl (a_0.map GVector.cells), .sl (b_1.map GVector.cells), .any, .any, .any, .i .i64 i_l0, .sl (a_0.map GVector.cells), .i .i64 (a_0.length : Int), .sl (b_1.map GVector.cells), .i .i64 (b_1.length : Int), .b ((a_0.length : Int) != (b_1.length : Int)), .any, .any, .any, .any, .any, .any, .any, .any, .any, .any, .any, .any, .any, .any, .any, .any], []⟩)
          (st2 := ⟨[.any, .any, .any, .any, .b false, .any, .any, .any, .any, .any, .any, .any, .any, .any, .any, .any, .any, .any, .any, .any, .any, .any, .any, .any, .any, .any, .any], []⟩)
          (ans := [.num (a_0.length : Int), .bo true, .keep [8, 8], .el [.f .f32 ((a_0.getD i_l0.toNat default).X), .f .f32 ((a_0.getD i_l0.toNat default).Y), .f .f32 ((a_0.getD i_l0.toNat default).Z)], .el [.f .f32 ((b_1.getD i_l0.toNat default).X), .f .f32 ((b_1.getD i_l0.toNat default).Y), .f .f32 ((b_1.getD i_l0.toNat default).Z)], .call (.b (v_laws_eqVector (a_0.getD i_l0.toNat default) (b_1.getD i_l0.toNat default))) [], .bo true])
          (ps := []) (mask := [false, false, false, false, true, false, false, false, false, false, false, false, false, false, false, false, false, false, false, false, false, false, false, false, false, false, false]) (ks := [])
          (C := [(((a_0.map GVector.cells).length : Nat) : Int) = (a_0.length : Int),
            (decide (i_l0 < (a_0.length : Int))) = true,
            0 ≤ i_l0 ∧ (a_0.map GVector.cells)[Int.toNat i_l0]? = some [.f .f32 ((a_0.getD i_l0.toNat default).X), .f .f32 ((a_0.getD i_l0.toNat default).Y), .f .f32 ((a_0.getD i_l0.toNat default).Z)],
            0 ≤ i_l0 ∧ (b_1.map GVector.cells)[Int.toNat i_l0]? = some [.f .f32 ((b_1.getD i_l0.toNat default).X), .f .f32 ((b_1.getD i_l0.toNat default).Y), .f .f32 ((b_1.getD i_l0.toNat default).Z)],
            Fn Go.Proofs.Try.prog 86 [.agg [.f .f32 ((a_0.getD i_l0.toNat default).X), .f .f32 ((a_0.getD i_l0.toNat default).Y), .f .f32 ((a_0.getD i_l0.toNat default).Z)], .agg [.f .f32 ((b_1.getD i_l0.toNat default).X), .f .f32 ((b_1.getD i_l0.toNat default).Y), .f .f32 ((b_1.getD i_l0.toNat default).Z)]] (.b (v_laws_eqVector (a_0.getD i_l0.toNat default) (b_1.getD i_l0.toNat default))) [],
            (!(v_laws_eqVector (a_0.getD i_l0.toNat default) (b_1.getD i_l0.toNat default))) = true])
          (by kernel_rfl)
          ⟨len_ok, h_0, (get_ok (by first | assumption | omega | (simp at * <;> omega) | (simp_all <;> omega)) (by first | assumption | omega | (simp at * <;> omega) | (simp_all <;> omega))), (get_ok (by first | assumption | omega | (simp at * <;> omega) | (simp_all <;> omega)) (by first | assumption | omega | (simp at * <;> omega) | (simp_all <;> omega))), (t_laws_eqVector (a_0.getD i_l0.toNat default) (b_1.getD i_l0.toNat default)), (congrArg not h_1), trivial⟩
          (by intro h; cases h) rfl
    | false =>
      have e : lo_laws_eqVectorS_1 a_0 b_1 (k + 1) i_l0 = (.inr ()) := by simp only [lo_laws_eqVectorS_1, h_0, cond_false]
      rw [e]
      exact stepK_out (E := E0) E0Ok hMixed (e := (.exit 0)) (body := (sub (bodyOf Go.Proofs.Try.f30) [1, 1, 0, 1, 0, 0])) (st := ⟨[.sl (a_0.map GVector.cells), .sl (b_1.map GVector.cells), .any, .any, .any, .i .i64 i_l0, .sl (a_0.map GVector.cells), .i .i64 (a_0.length : Int), .sl (b_1.map GVector.cells), .i .i64 (b_1.length : Int), .b ((a_0.length : Int) != (b_1.length : Int)), .any, .any, .any, .any, .any, .any, .any, .any, .any, .any, .any, .any, .any, .any, .any, .any], []⟩)
        (st2 := ⟨[.sl (a_0.map GVector.cells), .sl (b_1.map GVector.cells), .any, .any, .any, .any, .sl (a_0.map GVector.cells), .i .i64 (a_0.length : Int), .sl (b_1.map GVector.cells), .i .i64 (b_1.length : Int), .b ((a_0.length : Int) != (b_1.length : Int)), .any, .any, .any, .any, .any, .any, .any, .any, .any, .any, .any, .any, .any, .any, .any, .any], []⟩)
        (ans := [.num (a_0.length : Int), .bo false])
        (ps := []) (mask := [true, true, false, false, false, false, true, true, true, true, true, false, false, false, false, false, false, false, false, false, false, false, false, false, false, false, false]) (ks := [])
        (C := [(((a_0.map GVector.cells).length : Nat) : Int) = (a_0.length : Int),
          (decide (i_l0 < (a_0.length : Int))) = false])
        (by kernel_rfl)
        ⟨len_ok, h_0, trivial⟩
        (by intro h; cases h) rfl

def lr_laws_eqVectorS_1_0 (a_0 : (List GVector)) (b_1 : (List GVector)) : (Unit) ⊕ (Unit) := (lo_laws_eqVectorS_1 a_0 b_1 (((a_0.length : Int) - 0).toNat + 1) 0)

/-- laws.eqVectorS -/
def v_laws_eqVectorS (a_0 : (List GVector)) (b_1 : (List GVector)) : Bool := (cond ((a_0.length : Int) != (b_1.length : Int))
  false
  (match (lr_laws_eqVectorS_1_0 a_0 b_1) with
    | .inl r2 => false
    | .inr r2 => true))

theorem t_laws_eqVectorS (a_0 : (List GVector)) (b_1 : (List GVector)) (hp0 : a_0.length ≤ 1073741824) (hp1 : b_1.length ≤ 1073741824)  : Fn Go.Proofs.Try.prog 30 [.sl (a_0.map GVector.cells), .sl (b_1.map GVector.cells)] (.b (v_laws_eqVectorS a_0 b_1)) [] := by
  cases h0 : ((a_0.length : Int) != (b_1.length : Int)) with
  | true =>
    exact Fn.cast (CallSt.fn (callSt_of_evK (E := E0) E0Ok hMixed (c := bodyOf Go.Proofs.Try.f30) (rows := []) (r := .b false) (rows' := [])
      (ans := [.num (a_0.length : Int), .num (b_1.length : Int), .bo true, .keep []])
      (ps := [])
      (C := [(((a_0.map GVector.cells).length : Nat) : Int) = (a_0.length : Int),
        (((b_1.map GVector.cells).length : Nat) : Int) = (b_1.length : Int),
        ((a_0.length : Int) != (b_1.length : Int)) = true])
      Go.Proofs.Try.func30 rfl (by kernel_rfl) (by kernel_rfl)
      ⟨len_ok, len_ok, h0, trivial⟩) rfl) (by simp only [v_laws_eqVectorS, h0, cond_true]) rfl
  | false =>
    cases h1 : (lr_laws_eqVectorS_1_0 a_0 b_1) with
    | inl r2 =>
      exact Fn.cast (CallSt.fn (callSt_of_evK (E := E0) E0Ok hMixed (c := bodyOf Go.Proofs.Try.f30) (rows := []) (r := .b false) (rows' := [])
        (ans := [.num (a_0.length : Int), .num (b_1.length : Int), .bo false, .loop [true, true, false, false, false, true, true, true, true, true, true, false, false, false, false, false, false, false, false, false, false, false, false, false, false, false, false] 0 .ret ⟨[.any, .any, .any, .any, .b false, .any, .any, .any, .any, .any, .any, .any, .any, .any, .any, .any, .any, .any, .any, .any, .any, .any, .any, .any, .any, .any, .any], []⟩, .keep []])
        (ps := [])
        (C := [(((a_0.map GVector.cells).length : Nat) : Int) = (a_0.length : Int),
          (((b_1.map GVector.cells).length : Nat) : Int) = (b_1.length : Int),
          ((a_0.length : Int) != (b_1.length : Int)) = false,
          Lp Go.Proofs.Try.prog 0 (sub (bodyOf Go.Proofs.Try.f30) [1, 1, 0, 1, 0, 0]) ⟨[.sl (a_0.map GVector.cells), .sl (b_1.map GVector.cells), .any, .any, .any, .i .i64 0, .sl (a_0.map GVector.cells), .i .i64 (a_0.length : Int), .sl (b_1.map GVector.cells), .i .i64 (b_1.length : Int), .b ((a_0.length : Int) != (b_1.length : Int)), .any, .any, .any, .any, .any, .any, .any, .any, .any, .any, .any, .any, .any, .any, .any, .any], []⟩ .ret ⟨[.any, .any, .any, .any, .b false, .any, .any, .any, .any, .any, .any, .any, .any, .any, .any, .any, .any, .any, .any, .any, .any, .any, .any, .any, .any, .any, .any], []⟩])
        Go.Proofs.Try.func30 rfl (by kernel_rfl) (by kernel_rfl)
        ⟨len_ok, len_ok, h0, (by have q := (lp_laws_eqVectorS_1 a_0 b_1 hp0 hp1 h0 (((a_0.length : Int) - 0).toNat + 1) 0 (show 0 ≤ 0 from (by first | assumption | omega | (simp at * <;> omega) | (simp_all <;> omega))) (Nat.lt_succ_self _)); rw [show (lo_laws_eqVectorS_1 a_0 b_1 (((a_0.length : Int) - 0).toNat + 1) 0) = _ from rfl] at q; rw [show (lo_laws_eqVectorS_1 a_0 b_1 (((a_0.length : Int) - 0).toNat + 1) 0) = (lr_laws_eqVectorS_1_0 a_0 b_1) from rfl, h1] at q; exact q), trivial⟩) rfl) (by simp only [v_laws_eqVectorS, h0, h1, cond_false]) rfl
    | inr r2 =>
      exact Fn.cast (CallSt.fn (callSt_of_evK (E := E0) E0Ok hMixed (c := bodyOf Go.Proofs.Try.f30) (rows := []) (r := .b true) (rows' := [])
        (ans := [.num (a_0.length : Int), .num (b_1.length : Int), .bo false, .loop [true, true, false, false, false, true, true, true, true, true, true, false, false, false, false, false, false, false, false, false, false, false, false, false, false, false, false] 0 (.exit 0) ⟨[.sl (a_0.map GVector.cells), .sl (b_1.map GVector.cells), .any, .any, .any, .any, .sl (a_0.map GVector.cells), .i .i64 (a_0.length : Int), .sl (b_1.map GVector.cells), .i .i64 (b_1.length : Int), .b ((a_0.length : Int) != (b_1.length : Int)), .any, .any, .any, .any, .any, .any, .any, .any, .any, .any, .any, .any, .any, .any, .any, .any], []⟩, .keep []])
        (ps := [])
        (C := [(((a_0.map GVector.cells).length : Nat) : Int) = (a_0.length : Int),
          (((b_1.map GVector.cells).length : Nat) : Int) = (b_1.length : Int),
          ((a_0.length : Int) != (b_1.length : Int)) = false,
          Lp Go.Proofs.Try.prog 0 (sub (bodyOf Go.Proofs.Try.f30) [1, 1, 0, 1, 0, 0]) ⟨[.sl (a_0.map GVector.cells), .sl (b_1.map GVector.cells), .any, .any, .any, .i .i64 0, .sl (a_0.map GVector.cells), .i .i64 (a_0.length : Int), .sl (b_1.map GVector.cells), .i .i64 (b_1.length : Int), .b ((a_0.length : Int) != (b_1.length : Int)), .any, .any, .any, .any, .any, .any, .any, .any, .any, .any, .any, .any, .any, .any, .any, .any], []⟩ (.exit 0) ⟨[.sl (a_0.map GVector.cells), .sl (b_1.map GVector.cells), .any, .any, .any, .any, .sl (a_0.map GVector.cells), .i .i64 (a_0.length : Int), .sl (b_1.map GVector.cells), .i .i64 (b_1.length : Int), .b ((a_0.length : Int) != (b_1.length : Int)), .any, .any, .any, .any, .any, .any, .any, .any, .any, .any, .any, .any, .any, .any, .any, .any], []⟩])
        Go.Proofs.Try.func30 rfl (by kernel_rfl) (by kernel_rfl)
        ⟨len_ok, len_ok, h0, (by have q := (lp_laws_eqVectorS_1 a_0 b_1 hp0 hp1 h0 (((a_0.length : Int) - 0).toNat + 1) 0 (show 0 ≤ 0 from (by first | assumption | omega | (simp at * <;> omega) | (simp_all <;> omega))) (Nat.lt_succ_self _)); rw [show (lo_laws_eqVectorS_1 a_0 b_1 (((a_0.length : Int) - 0).toNat + 1) 0) = _ from rfl] at q; rw [show (lo_laws_eqVectorS_1 a_0 b_1 (((a_0.length : Int) - 0).toNat + 1) 0) = (lr_laws_eqVectorS_1_0 a_0 b_1) from rfl, h1] at q; exact q), trivial⟩) rfl) (by simp only [v_laws_eqVectorS, h0, h1, cond_false]) rfl

end Go.Ab
