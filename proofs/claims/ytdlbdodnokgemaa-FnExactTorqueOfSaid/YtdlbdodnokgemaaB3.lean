/- The functions of this seat as plain Lean, and that the program's are these. Printed by a program of the prover's own. -/
import Derived.Test.YtdlbdodnokgemaaB2
set_option linter.unusedVariables false
set_option maxRecDepth 100000
namespace Go.Ab
open Go.RowKit

def lr_impl_ValidMesh_1_1 (m_0 : GMesh) : (Unit) ⊕ (Unit) := (lo_impl_ValidMesh_1 m_0 (((m_0.Triangles.length : Int) - 0).toNat + 1) 0)

/-- impl.ValidMesh -/
def v_impl_ValidMesh (m_0 : GMesh) : Bool := (cond (decide ((m_0.Places.length : Int) > 64))
  false
  (cond (decide ((m_0.Triangles.length : Int) > 128))
    false
    (match (lr_impl_ValidMesh_1_1 m_0) with
      | .inl r3 => false
      | .inr r3 => true)))

theorem t_impl_ValidMesh (m_0 : GMesh) (hp0 : m_0.Places.length ≤ 1073741824) (hp1 : m_0.Triangles.length ≤ 1073741824) (hp2 : ∀ t ∈ m_0.Triangles, t.length ≤ 1073741824)  : Fn Go.Proofs.Try.prog 73 [.agg [.sl (m_0.Places.map GVector.cells), .sl (m_0.Triangles.map (cL (cI .i64)))]] (.b (v_impl_ValidMesh m_0)) [] := by
  cases h0 : (decide ((m_0.Places.length : Int) > 64)) with
  | true =>
    exact Fn.cast (fn_of_ev E0Ok hMixed (c := bodyOf Go.Proofs.Try.f73) (r := .b false) (new := [])
      (ans := [.num (m_0.Places.length : Int), .bo true, .bo true, .bo true, .bo true, .bo true, .bo true, .keep []])
      (C := [(((m_0.Places.map GVector.cells).length : Nat) : Int) = (m_0.Places.length : Int),
        (decide ((m_0.Places.length : Int) > 64)) = true,
        (decide ((m_0.Places.length : Int) > 64)) = true,
        (decide ((m_0.Places.length : Int) > 64)) = true,
        (decide ((m_0.Places.length : Int) > 64)) = true,
        (decide ((m_0.Places.length : Int) > 64)) = true,
        true = true])
      Go.Proofs.Try.func73 rfl (by kernel_rfl) (by kernel_rfl)
      ⟨len_ok, h0, h0, h0, h0, h0, rfl, trivial⟩) (by simp only [v_impl_ValidMesh, h0, cond_true]) rfl
  | false =>
    cases h1 : (decide ((m_0.Triangles.length : Int) > 128)) with
    | true =>
      exact Fn.cast (fn_of_ev E0Ok hMixed (c := bodyOf Go.Proofs.Try.f73) (r := .b false) (new := [])
        (ans := [.num (m_0.Places.length : Int), .bo false, .bo false, .bo false, .num (m_0.Triangles.length : Int), .bo false, .bo false, .bo true, .keep []])
        (C := [(((m_0.Places.map GVector.cells).length : Nat) : Int) = (m_0.Places.length : Int),
          (decide ((m_0.Places.length : Int) > 64)) = false,
          (decide ((m_0.Places.length : Int) > 64)) = false,
          (decide ((m_0.Places.length : Int) > 64)) = false,
          (((m_0.Triangles.map (cL (cI .i64))).length : Nat) : Int) = (m_0.Triangles.length : Int),
          (decide ((m_0.Places.length : Int) > 64)) = false,
          (decide ((m_0.Places.length : Int) > 64)) = false,
          (decide ((m_0.Triangles.length : Int) > 128)) = true])
        Go.Proofs.Try.func73 rfl (by kernel_rfl) (by kernel_rfl)
        ⟨len_ok, h0, h0, h0, len_ok, h0, h0, h1, trivial⟩) (by simp only [v_impl_ValidMesh, h0, h1, cond_true, cond_false]) rfl
    | false =>
      cases h2 : (lr_impl_ValidMesh_1_1 m_0) with
      | inl r3 =>
        exact Fn.cast (fn_of_ev E0Ok hMixed (c := bodyOf Go.Proofs.Try.f73) (r := .b false) (new := [])
          (ans := [.num (m_0.Places.length : Int), .bo false, .bo false, .bo false, .num (m_0.Triangles.length : Int), .bo false, .bo false, .bo false, .num (m_0.Triangles.length : Int), .loop [true, true, false, true, false, false, false, false, true, true, true, true, true, true, true, true, true, true, true, true, true, true, true, false, false, false, false, false, false, false, false, false, false, false, false, false, false, false, false, false, false, false, false, false, false, false, false, false, false, false, false, false, false, false, false, false, false, false, false, false, false, false, false, false, false, false, false, false, false] 1 .ret ⟨[.any, .any, .b false, .any, .any, .any, .any, .any, .any, .any, .any, .any, .any, .any, .any, .any, .any, .any, .any, .any, .any, .any, .any, .any, .any, .any, .any, .any, .any, .any, .any, .any, .any, .any, .any, .any, .any, .any, .any, .any, .any, .any, .any, .any, .any, .any, .any, .any, .any, .any, .any, .any, .any, .any, .any, .any, .any, .any, .any, .any, .any, .any, .any, .any, .any, .any, .any, .any, .any], [.box 59 [.sl (m_0.Places.map GVector.cells), .sl (m_0.Triangles.map (cL (cI .i64)))]]⟩, .keep []])
          (C := [(((m_0.Places.map GVector.cells).length : Nat) : Int) = (m_0.Places.length : Int),
            (decide ((m_0.Places.length : Int) > 64)) = false,
            (decide ((m_0.Places.length : Int) > 64)) = false,
            (decide ((m_0.Places.length : Int) > 64)) = false,
            (((m_0.Triangles.map (cL (cI .i64))).length : Nat) : Int) = (m_0.Triangles.length : Int),
            (decide ((m_0.Places.length : Int) > 64)) = false,
            (decide ((m_0.Places.length : Int) > 64)) = false,
            (decide ((m_0.Triangles.length : Int) > 128)) = false,
            (((m_0.Triangles.map (cL (cI .i64))).length : Nat) : Int) = (m_0.Triangles.length : Int),
            Lp Go.Proofs.Try.prog (sub (bodyOf Go.Proofs.Try.f73) [1, 1, 1, 0, 1, 0, 0]) ⟨[.agg [.sl (m_0.Places.map GVector.cells), .sl (m_0.Triangles.map (cL (cI .i64)))], .ptr 0 0 0, .any, .i .i64 (m_0.Places.length : Int), .any, .any, .any, .any, .ptr 0 0 0, .sl (m_0.Places.map GVector.cells), .i .i64 (m_0.Places.length : Int), .i .i64 (m_0.Places.length : Int), .b (decide ((m_0.Places.length : Int) > 64)), .b (decide ((m_0.Places.length : Int) > 64)), .ptr 0 0 1, .sl (m_0.Triangles.map (cL (cI .i64))), .i .i64 (m_0.Triangles.length : Int), .b (decide ((m_0.Triangles.length : Int) > 128)), .b (decide ((m_0.Triangles.length : Int) > 128)), .ptr 0 0 1, .sl (m_0.Triangles.map (cL (cI .i64))), .i .i64 (m_0.Triangles.length : Int), .i .i64 0, .any, .any, .any, .any, .any, .any, .any, .any, .any, .any, .any, .any, .any, .any, .any, .any, .any, .any, .any, .any, .any, .any, .any, .any, .any, .any, .any, .any, .any, .any, .any, .any, .any, .any, .any, .any, .any, .any, .any, .any, .any, .any, .any, .any, .any, .any], [.box 59 [.sl (m_0.Places.map GVector.cells), .sl (m_0.Triangles.map (cL (cI .i64)))]]⟩ .ret ⟨[.any, .any, .b false, .any, .any, .any, .any, .any, .any, .any, .any, .any, .any, .any, .any, .any, .any, .any, .any, .any, .any, .any, .any, .any, .any, .any, .any, .any, .any, .any, .any, .any, .any, .any, .any, .any, .any, .any, .any, .any, .any, .any, .any, .any, .any, .any, .any, .any, .any, .any, .any, .any, .any, .any, .any, .any, .any, .any, .any, .any, .any, .any, .any, .any, .any, .any, .any, .any, .any], [.box 59 [.sl (m_0.Places.map GVector.cells), .sl (m_0.Triangles.map (cL (cI .i64)))]]⟩])
          Go.Proofs.Try.func73 rfl (by kernel_rfl) (by kernel_rfl)
          ⟨len_ok, h0, h0, h0, len_ok, h0, h0, h1, len_ok, (by have q := (lp_impl_ValidMesh_1 m_0 hp0 hp1 hp2 h0 h1 (((m_0.Triangles.length : Int) - 0).toNat + 1) 0 (show 0 ≤ 0 from (by first | assumption | omega | (simp at * <;> omega) | (simp_all <;> omega))) (Nat.lt_succ_self _)); rw [show (lo_impl_ValidMesh_1 m_0 (((m_0.Triangles.length : Int) - 0).toNat + 1) 0) = _ from rfl] at q; rw [show (lo_impl_ValidMesh_1 m_0 (((m_0.Triangles.length : Int) - 0).toNat + 1) 0) = (lr_impl_ValidMesh_1_1 m_0) from rfl, h2] at q; exact q), trivial⟩) (by simp only [v_impl_ValidMesh, h0, h1, h2, cond_false]) rfl
      | inr r3 =>
        exact Fn.cast (fn_of_ev E0Ok hMixed (c := bodyOf Go.Proofs.Try.f73) (r := .b true) (new := [])
          (ans := [.num (m_0.Places.length : Int), .bo false, .bo false, .bo false, .num (m_0.Triangles.length : Int), .bo false, .bo false, .bo false, .num (m_0.Triangles.length : Int), .loop [true, true, false, true, false, false, false, false, true, true, true, true, true, true, true, true, true, true, true, true, true, true, true, false, false, false, false, false, false, false, false, false, false, false, false, false, false, false, false, false, false, false, false, false, false, false, false, false, false, false, false, false, false, false, false, false, false, false, false, false, false, false, false, false, false, false, false, false, false] 1 (.exit 0) ⟨[.agg [.sl (m_0.Places.map GVector.cells), .sl (m_0.Triangles.map (cL (cI .i64)))], .ptr 0 0 0, .any, .i .i64 (m_0.Places.length : Int), .any, .any, .any, .any, .ptr 0 0 0, .sl (m_0.Places.map GVector.cells), .i .i64 (m_0.Places.length : Int), .i .i64 (m_0.Places.length : Int), .b (decide ((m_0.Places.length : Int) > 64)), .b (decide ((m_0.Places.length : Int) > 64)), .ptr 0 0 1, .sl (m_0.Triangles.map (cL (cI .i64))), .i .i64 (m_0.Triangles.length : Int), .b (decide ((m_0.Triangles.length : Int) > 128)), .b (decide ((m_0.Triangles.length : Int) > 128)), .ptr 0 0 1, .sl (m_0.Triangles.map (cL (cI .i64))), .any, .any, .any, .any, .any, .any, .any, .any, .any, .any, .any, .any, .any, .any, .any, .any, .any, .any, .any, .any, .any, .any, .any, .any, .any, .any, .any, .any, .any, .any, .any, .any, .any, .any, .any, .any, .any, .any, .any, .any, .any, .any, .any, .any, .any, .any, .any, .any], [.box 59 [.sl (m_0.Places.map GVector.cells), .sl (m_0.Triangles.map (cL (cI .i64)))]]⟩, .keep []])
          (C := [(((m_0.Places.map GVector.cells).length : Nat) : Int) = (m_0.Places.length : Int),
            (decide ((m_0.Places.length : Int) > 64)) = false,
            (decide ((m_0.Places.length : Int) > 64)) = false,
            (decide ((m_0.Places.length : Int) > 64)) = false,
            (((m_0.Triangles.map (cL (cI .i64))).length : Nat) : Int) = (m_0.Triangles.length : Int),
            (decide ((m_0.Places.length : Int) > 64)) = false,
            (decide ((m_0.Places.length : Int) > 64)) = false,
            (decide ((m_0.Triangles.length : Int) > 128)) = false,
            (((m_0.Triangles.map (cL (cI .i64))).length : Nat) : Int) = (m_0.Triangles.length : Int),
            Lp Go.Proofs.Try.prog (sub (bodyOf Go.Proofs.Try.f73) [1, 1, 1, 0, 1, 0, 0]) ⟨[.agg [.sl (m_0.Places.map GVector.cells), .sl (m_0.Triangles.map (cL (cI .i64)))], .ptr 0 0 0, .any, .i .i64 (m_0.Places.length : Int), .any, .any, .any, .any, .ptr 0 0 0, .sl (m_0.Places.map GVector.cells), .i .i64 (m_0.Places.length : Int), .i .i64 (m_0.Places.length : Int), .b (decide ((m_0.Places.length : Int) > 64)), .b (decide ((m_0.Places.length : Int) > 64)), .ptr 0 0 1, .sl (m_0.Triangles.map (cL (cI .i64))), .i .i64 (m_0.Triangles.length : Int), .b (decide ((m_0.Triangles.length : Int) > 128)), .b (decide ((m_0.Triangles.length : Int) > 128)), .ptr 0 0 1, .sl (m_0.Triangles.map (cL (cI .i64))), .i .i64 (m_0.Triangles.length : Int), .i .i64 0, .any, .any, .any, .any, .any, .any, .any, .any, .any, .any, .any, .any, .any, .any, .any, .any, .any, .any, .any, .any, .any, .any, .any, .any, .any, .any, .any, .any, .any, .any, .any, .any, .any, .any, .any, .any, .any, .any, .any, .any, .any, .any, .any, .any, .any, .any], [.box 59 [.sl (m_0.Places.map GVector.cells), .sl (m_0.Triangles.map (cL (cI .i64)))]]⟩ (.exit 0) ⟨[.agg [.sl (m_0.Places.map GVector.cells), .sl (m_0.Triangles.map (cL (cI .i64)))], .ptr 0 0 0, .any, .i .i64 (m_0.Places.length : Int), .any, .any, .any, .any, .ptr 0 0 0, .sl (m_0.Places.map GVector.cells), .i .i64 (m_0.Places.length : Int), .i .i64 (m_0.Places.length : Int), .b (decide ((m_0.Places.length : Int) > 64)), .b (decide ((m_0.Places.length : Int) > 64)), .ptr 0 0 1, .sl (m_0.Triangles.map (cL (cI .i64))), .i .i64 (m_0.Triangles.length : Int), .b (decide ((m_0.Triangles.length : Int) > 128)), .b (decide ((m_0.Triangles.length : Int) > 128)), .ptr 0 0 1, .sl (m_0.Triangles.map (cL (cI .i64))), .any, .any, .any, .any, .any, .any, .any, .any, .any, .any, .any, .any, .any, .any, .any, .any, .any, .any, .any, .any, .any, .any, .any, .any, .any, .any, .any, .any, .any, .any, .any, .any, .any, .any, .any, .any, .any, .any, .any, .any, .any, .any, .any, .any, .any, .any, .any, .any], [.box 59 [.sl (m_0.Places.map GVector.cells), .sl (m_0.Triangles.map (cL (cI .i64)))]]⟩])
          Go.Proofs.Try.func73 rfl (by kernel_rfl) (by kernel_rfl)
          ⟨len_ok, h0, h0, h0, len_ok, h0, h0, h1, len_ok, (by have q := (lp_impl_ValidMesh_1 m_0 hp0 hp1 hp2 h0 h1 (((m_0.Triangles.length : Int) - 0).toNat + 1) 0 (show 0 ≤ 0 from (by first | assumption | omega | (simp at * <;> omega) | (simp_all <;> omega))) (Nat.lt_succ_self _)); rw [show (lo_impl_ValidMesh_1 m_0 (((m_0.Triangles.length : Int) - 0).toNat + 1) 0) = _ from rfl] at q; rw [show (lo_impl_ValidMesh_1 m_0 (((m_0.Triangles.length : Int) - 0).toNat + 1) 0) = (lr_impl_ValidMesh_1_1 m_0) from rfl, h2] at q; exact q), trivial⟩) (by simp only [v_impl_ValidMesh, h0, h1, h2, cond_false]) rfl

theorem triB (t : List Int) (n : Int) : (!((t.length : Int) != 3) && (!(t.getD 0 default == t.getD 1 default) && (!(t.getD 1 default == t.getD 2 default) && (!(t.getD 0 default == t.getD 2 default) && t.all fun x => v_impl_within x 0 (IntKind.wrap .i64 (n - 1)))))) = v_spec_l02Triangle t n := by
  unfold v_spec_l02Triangle
  cases hl : ((t.length : Int) != 3) with
  | true => rfl
  | false =>
    have hl3 : t.length = 3 := by simp at hl; omega
    match t, hl3 with
    | [a, b, c], _ =>
      simp only [List.getD_cons_zero, List.getD_cons_succ, List.all_cons, List.all_nil, Bool.and_true]
      rw [show v_impl_within = v_spec_l00In from rfl]
      cases (a == b) <;> cases (b == c) <;> cases (a == c) <;> cases v_spec_l00In a 0 (IntKind.wrap .i64 (n - 1)) <;> cases v_spec_l00In b 0 (IntKind.wrap .i64 (n - 1)) <;> cases v_spec_l00In c 0 (IntKind.wrap .i64 (n - 1)) <;> rfl
theorem lo_ValidMesh (m : GMesh) (k : Nat) (i : Int) : lo_impl_ValidMesh_1 m (k + 1) i = cond (decide (i < (m.Triangles.length : Int))) (cond (v_spec_l02Triangle (m.Triangles.getD i.toNat default) (m.Places.length : Int)) (lo_impl_ValidMesh_1 m k (i + 1)) (.inl ())) (.inr ()) := by
  rw [lo_impl_ValidMesh_1, ← triB]
  have hin : lr_impl_ValidMesh_2_0 m i = cond ((m.Triangles.getD i.toNat default).all fun x => v_impl_within x 0 (IntKind.wrap .i64 ((m.Places.length : Int) - 1))) (.inr ()) (.inl ()) := by
    unfold lr_impl_ValidMesh_2_0
    exact all_from (a := m.Triangles.getD i.toNat default) (p := fun x => v_impl_within x 0 (IntKind.wrap .i64 ((m.Places.length : Int) - 1))) (lo := lo_impl_ValidMesh_2 m i) (x := ()) (y := ()) (fun k i => rfl)
  rw [hin]
  generalize m.Triangles.getD i.toNat default = t
  generalize (t.all fun x => v_impl_within x 0 (IntKind.wrap .i64 ((m.Places.length : Int) - 1))) = q
  cases ((t.length : Int) != 3) <;> cases (t.getD 0 default == t.getD 1 default) <;> cases (t.getD 1 default == t.getD 2 default) <;> cases (t.getD 0 default == t.getD 2 default) <;> cases q <;> rfl
theorem eq_ValidMesh (m : GMesh) : v_impl_ValidMesh m = v_spec_l02Is m := by
  rw [l02Is_eq]
  unfold v_impl_ValidMesh lr_impl_ValidMesh_1_1
  rw [all_from (a := m.Triangles) (p := fun t => v_spec_l02Triangle t (m.Places.length : Int)) (lo := lo_impl_ValidMesh_1 m) (x := ()) (y := ()) (lo_ValidMesh m)]
  cases (m.Triangles.all fun t => v_spec_l02Triangle t (m.Places.length : Int)) <;> rfl

/-- impl.CrossOf -/
def v_impl_CrossOf (a_0 : GVector) (b_1 : GVector) : GVector := (⟨(fop .sub .f32 (fop .mul .f32 a_0.Y b_1.Z) (fop .mul .f32 a_0.Z b_1.Y)), (fop .sub .f32 (fop .mul .f32 a_0.Z b_1.X) (fop .mul .f32 a_0.X b_1.Z)), (fop .sub .f32 (fop .mul .f32 a_0.X b_1.Y) (fop .mul .f32 a_0.Y b_1.X))⟩ : GVector)

theorem t_impl_CrossOf (a_0 : GVector) (b_1 : GVector)   : Fn Go.Proofs.Try.prog 77 [.agg [.f .f32 a_0.X, .f .f32 a_0.Y, .f .f32 a_0.Z], .agg [.f .f32 b_1.X, .f .f32 b_1.Y, .f .f32 b_1.Z]] (.agg [.f .f32 ((v_impl_CrossOf a_0 b_1).X), .f .f32 ((v_impl_CrossOf a_0 b_1).Y), .f .f32 ((v_impl_CrossOf a_0 b_1).Z)]) [] := by
  exact Fn.cast (fn_of_ev E0Ok hMixed (c := bodyOf Go.Proofs.Try.f77) (r := .agg [.f .f32 (fop .sub .f32 (fop .mul .f32 a_0.Y b_1.Z) (fop .mul .f32 a_0.Z b_1.Y)), .f .f32 (fop .sub .f32 (fop .mul .f32 a_0.Z b_1.X) (fop .mul .f32 a_0.X b_1.Z)), .f .f32 (fop .sub .f32 (fop .mul .f32 a_0.X b_1.Y) (fop .mul .f32 a_0.Y b_1.X))]) (new := [])
    (ans := [.keep []])
    (C := [])
    Go.Proofs.Try.func77 rfl (by kernel_rfl) (by kernel_rfl)
    trivial) rfl rfl

/-- impl.AddVectors -/
def v_impl_AddVectors (a_0 : GVector) (b_1 : GVector) : GVector := (⟨(fop .add .f32 a_0.X b_1.X), (fop .add .f32 a_0.Y b_1.Y), (fop .add .f32 a_0.Z b_1.Z)⟩ : GVector)

theorem t_impl_AddVectors (a_0 : GVector) (b_1 : GVector)   : Fn Go.Proofs.Try.prog 84 [.agg [.f .f32 a_0.X, .f .f32 a_0.Y, .f .f32 a_0.Z], .agg [.f .f32 b_1.X, .f .f32 b_1.Y, .f .f32 b_1.Z]] (.agg [.f .f32 ((v_impl_AddVectors a_0 b_1).X), .f .f32 ((v_impl_AddVectors a_0 b_1).Y), .f .f32 ((v_impl_AddVectors a_0 b_1).Z)]) [] := by
  exact Fn.cast (fn_of_ev E0Ok hMixed (c := bodyOf Go.Proofs.Try.f84) (r := .agg [.f .f32 (fop .add .f32 a_0.X b_1.X), .f .f32 (fop .add .f32 a_0.Y b_1.Y), .f .f32 (fop .add .f32 a_0.Z b_1.Z)]) (new := [])
    (ans := [.keep []])
    (C := [])
    Go.Proofs.Try.func84 rfl (by kernel_rfl) (by kernel_rfl)
    trivial) rfl rfl

def lo_impl_sumOf_1 (list_0 : (List GVector)) : Nat → Int → Nat → Nat → Nat → Nat × Nat × Nat
  | 0, _, _, _, _ => default
  | k + 1, x_l0, r1_l1, r1_l2, r1_l3 => (cond (decide (x_l0 < (list_0.length : Int)))
    (lo_impl_sumOf_1 list_0 k (x_l0 + 1) ((v_impl_AddVectors (⟨r1_l1, r1_l2, r1_l3⟩ : GVector) (list_0.getD x_l0.toNat default)).X) ((v_impl_AddVectors (⟨r1_l1, r1_l2, r1_l3⟩ : GVector) (list_0.getD x_l0.toNat default)).Y) ((v_impl_AddVectors (⟨r1_l1, r1_l2, r1_l3⟩ : GVector) (list_0.getD x_l0.toNat default)).Z))
    (r1_l1, r1_l2, r1_l3))

def ls_impl_sumOf_1 (list_0 : (List GVector)) (r : Nat × Nat × Nat) : Ex × St := ((.exit 0), ⟨[.sl (list_0.map GVector.cells), .any, .ptr 0 0 0, .ptr 1 0 0, .any, .any, .agg [.f .f32 0, .f .f32 0, .f .f32 0], .sl (list_0.map GVector.cells), .any, .any, .any, .any, .any, .any, .any, .any, .any, .any], [.box 33 [.f .f32 0, .f .f32 0, .f .f32 0], .box 33 [.f .f32 r.1, .f .f32 r.2.1, .f .f32 r.2.2]]⟩)

theorem lp_impl_sumOf_1 (list_0 : (List GVector)) (hp0 : list_0.length ≤ 1073741824) : ∀ (k : Nat) (x_l0 : Int) (r1_l1 : Nat) (r1_l2 : Nat) (r1_l3 : Nat) (hv_impl_sumOf_1_0 : 0 ≤ x_l0) (hk : ((list_0.length : Int) - x_l0).toNat < k), Lp Go.Proofs.Try.prog (sub (bodyOf Go.Proofs.Try.f57) [1, 1, 0, 1, 0, 0]) ⟨[.sl (list_0.map GVector.cells), .any, .ptr 0 0 0, .ptr 1 0 0, .any, .any, .agg [.f .f32 0, .f .f32 0, .f .f32 0], .sl (list_0.map GVector.cells), .i .i64 (list_0.length : Int), .i .i64 x_l0, .any, .any, .any, .any, .any, .any, .any, .any], [.box 33 [.f .f32 0, .f .f32 0, .f .f32 0], .box 33 [.f .f32 r1_l1, .f .f32 r1_l2, .f .f32 r1_l3]]⟩ (ls_impl_sumOf_1 list_0 (lo_impl_sumOf_1 list_0 k x_l0 r1_l1 r1_l2 r1_l3)).1 (ls_impl_sumOf_1 list_0 (lo_impl_sumOf_1 list_0 k x_l0 r1_l1 r1_l2 r1_l3)).2 := by
  intro k
  induction k with
  | zero => intro x_l0 r1_l1 r1_l2 r1_l3 hv_impl_sumOf_1_0 hk; exact absurd hk (Nat.not_lt_zero _)
  | succ k ih =>
    intro x_l0 r1_l1 r1_l2 r1_l3 hv_impl_sumOf_1_0 hk
    cases h_0 : (decide (x_l0 < (list_0.length : Int))) with
    | true =>
      have e : lo_impl_sumOf_1 list_0 (k + 1) x_l0 r1_l1 r1_l2 r1_l3 = (lo_impl_sumOf_1 list_0 k (x_l0 + 1) ((v_impl_AddVectors (⟨r1_l1, r1_l2, r1_l3⟩ : GVector) (list_0.getD x_l0.toNat default)).X) ((v_impl_AddVectors (⟨r1_l1, r1_l2, r1_l3⟩ : GVector) (list_0.getD x_l0.toNat default)).Y) ((v_impl_AddVectors (⟨r1_l1, r1_l2, r1_l3⟩ : GVector) (list_0.getD x_l0.toNat default)).Z)) := by simp only [lo_impl_sumOf_1, h_0, cond_true]
      rw [e]
      exact step_next E0Ok hMixed (body := (sub (bodyOf Go.Proofs.Try.f57) [1, 1, 0, 1, 0, 0])) (st := ⟨[.sl (list_0.map GVector.cells), .any, .ptr 0 0 0, .ptr 1 0 0, .any, .any, .agg [.f .f32 0, .f .f32 0, .f .f32 0], .sl (list_0.map GVector.cells), .i .i64 (list_0.length : Int), .i .i64 x_l0, .any, .any, .any, .any, .any, .any, .any, .any], [.box 33 [.f .f32 0, .f .f32 0, .f .f32 0], .box 33 [.f .f32 r1_l1, .f .f32 r1_l2, .f .f32 r1_l3]]⟩)
        (st2 := ⟨[.sl (list_0.map GVector.cells), .any, .ptr 0 0 0, .ptr 1 0 0, .any, .any, .agg [.f .f32 0, .f .f32 0, .f .f32 0], .sl (list_0.map GVector.cells), .i .i64 (list_0.length : Int), .i .i64 (x_l0 + 1), .any, .any, .any, .any, .any, .any, .any, .any], [.box 33 [.f .f32 0, .f .f32 0, .f .f32 0], .box 33 [.f .f32 ((v_impl_AddVectors (⟨r1_l1, r1_l2, r1_l3⟩ : GVector) (list_0.getD x_l0.toNat default)).X), .f .f32 ((v_impl_AddVectors (⟨r1_l1, r1_l2, r1_l3⟩ : GVector) (list_0.getD x_l0.toNat default)).Y), .f .f32 ((v_impl_AddVectors (⟨r1_l1, r1_l2, r1_l3⟩ : GVector) (list_0.getD x_l0.toNat default)).Z)]]⟩)
        (ans := [.bo true, .el [.f .f32 ((list_0.getD x_l0.toNat default).X), .f .f32 ((list_0.getD x_l0.toNat default).Y), .f .f32 ((list_0.getD x_l0.toNat default).Z)], .call (.agg [.f .f32 ((v_impl_AddVectors (⟨r1_l1, r1_l2, r1_l3⟩ : GVector) (list_0.getD x_l0.toNat default)).X), .f .f32 ((v_impl_AddVectors (⟨r1_l1, r1_l2, r1_l3⟩ : GVector) (list_0.getD x_l0.toNat default)).Y), .f .f32 ((v_impl_AddVectors (⟨r1_l1, r1_l2, r1_l3⟩ : GVector) (list_0.getD x_l0.toNat default)).Z)]) [], .num (x_l0 + 1)])
        (mask := [true, false, true, true, false, false, true, true, true, true, false, false, false, false, false, false, false, false]) (n := 2)
        (C := [(decide (x_l0 < (list_0.length : Int))) = true,
          0 ≤ x_l0 ∧ (list_0.map GVector.cells)[Int.toNat x_l0]? = some [.f .f32 ((list_0.getD x_l0.toNat default).X), .f .f32 ((list_0.getD x_l0.toNat default).Y), .f .f32 ((list_0.getD x_l0.toNat default).Z)],
          Fn Go.Proofs.Try.prog 84 [.agg [.f .f32 r1_l1, .f .f32 r1_l2, .f .f32 r1_l3], .agg [.f .f32 ((list_0.getD x_l0.toNat default).X), .f .f32 ((list_0.getD x_l0.toNat default).Y), .f .f32 ((list_0.getD x_l0.toNat default).Z)]] (.agg [.f .f32 ((v_impl_AddVectors (⟨r1_l1, r1_l2, r1_l3⟩ : GVector) (list_0.getD x_l0.toNat default)).X), .f .f32 ((v_impl_AddVectors (⟨r1_l1, r1_l2, r1_l3⟩ : GVector) (list_0.getD x_l0.toNat default)).Y), .f .f32 ((v_impl_AddVectors (⟨r1_l1, r1_l2, r1_l3⟩ : GVector) (list_0.getD x_l0.toNat default)).Z)]) [],
          IntKind.wrap .i64 (x_l0 + 1) = (x_l0 + 1)])
        (by kernel_rfl)
        ⟨h_0, (get_ok (by first | assumption | omega | (simp at * <;> omega) | (simp_all <;> omega)) (by first | assumption | omega | (simp at * <;> omega) | (simp_all <;> omega))), (t_impl_AddVectors (⟨r1_l1, r1_l2, r1_l3⟩ : GVector) (list_0.getD x_l0.toNat default)), (wrap_id (by first | assumption | omega | (simp at * <;> omega) | (simp_all <;> omega)) (by first | assumption | omega | (simp at * <;> omega) | (simp_all <;> omega))), trivial⟩
        rfl (ih (x_l0 + 1) ((v_impl_AddVectors (⟨r1_l1, r1_l2, r1_l3⟩ : GVector) (list_0.getD x_l0.toNat default)).X) ((v_impl_AddVectors (⟨r1_l1, r1_l2, r1_l3⟩ : GVector) (list_0.getD x_l0.toNat default)).Y) ((v_impl_AddVectors (⟨r1_l1, r1_l2, r1_l3⟩ : GVector) (list_0.getD x_l0.toNat default)).Z) (show 0 ≤ (x_l0 + 1) from (by first | assumption | omega | (simp at * <;> omega) | (simp_all <;> omega))) (by first | assumption | omega | (simp at * <;> omega) | (simp_all <;> omega)))
    | false =>
      have e : lo_impl_sumOf_1 list_0 (k + 1) x_l0 r1_l1 r1_l2 r1_l3 = (r1_l1, r1_l2, r1_l3) := by simp only [lo_impl_sumOf_1, h_0, cond_false]
      rw [e]
      exact step_out E0Ok hMixed (e := (.exit 0)) (body := (sub (bodyOf Go.Proofs.Try.f57) [1, 1, 0, 1, 0, 0])) (st := ⟨[.sl (list_0.map GVector.cells), .any, .ptr 0 0 0, .ptr 1 0 0, .any, .any, .agg [.f .f32 0, .f .f32 0, .f .f32 0], .sl (list_0.map GVector.cells), .i .i64 (list_0.length : Int), .i .i64 x_l0, .any, .any, .any, .any, .any, .any, .any, .any], [.box 33 [.f .f32 0, .f .f32 0, .f .f32 0], .box 33 [.f .f32 r1_l1, .f .f32 r1_l2, .f .f32 r1_l3]]⟩)
        (st2 := ⟨[.sl (list_0.map GVector.cells), .any, .ptr 0 0 0, .ptr 1 0 0, .any, .any, .agg [.f .f32 0, .f .f32 0, .f .f32 0], .sl (list_0.map GVector.cells), .any, .any, .any, .any, .any, .any, .any, .any, .any, .any], [.box 33 [.f .f32 0, .f .f32 0, .f .f32 0], .box 33 [.f .f32 r1_l1, .f .f32 r1_l2, .f .f32 r1_l3]]⟩)
        (ans := [.bo false])
        (mask := [true, false, true, true, false, false, true, true, false, false, false, false, false, false, false, false, false, false]) (n := 2)
        (C := [(decide (x_l0 < (list_0.length : Int))) = false])
        (by kernel_rfl)
        ⟨h_0, trivial⟩
        (by intro h; cases h) rfl

def lr_impl_sumOf_1_0 (list_0 : (List GVector)) : Nat × Nat × Nat := (lo_impl_sumOf_1 list_0 (((list_0.length : Int) - 0).toNat + 1) 0 0 0 0)

/-- impl.sumOf -/
def v_impl_sumOf (list_0 : (List GVector)) : GVector := (⟨(lr_impl_sumOf_1_0 list_0).1, (lr_impl_sumOf_1_0 list_0).2.1, (lr_impl_sumOf_1_0 list_0).2.2⟩ : GVector)

theorem t_impl_sumOf (list_0 : (List GVector)) (hp0 : list_0.length ≤ 1073741824)  : Fn Go.Proofs.Try.prog 57 [.sl (list_0.map GVector.cells)] (.agg [.f .f32 ((v_impl_sumOf list_0).X), .f .f32 ((v_impl_sumOf list_0).Y), .f .f32 ((v_impl_sumOf list_0).Z)]) [] := by
  exact Fn.cast (fn_of_ev E0Ok hMixed (c := bodyOf Go.Proofs.Try.f57) (r := .agg [.f .f32 ((lr_impl_sumOf_1_0 list_0).1), .f .f32 ((lr_impl_sumOf_1_0 list_0).2.1), .f .f32 ((lr_impl_sumOf_1_0 list_0).2.2)]) (new := [])
    (ans := [.num (list_0.length : Int), .loop [true, false, true, true, false, false, true, true, true, true, false, false, false, false, false, false, false, false] 2 (.exit 0) ⟨[.sl (list_0.map GVector.cells), .any, .ptr 0 0 0, .ptr 1 0 0, .any, .any, .agg [.f .f32 0, .f .f32 0, .f .f32 0], .sl (list_0.map GVector.cells), .any, .any, .any, .any, .any, .any, .any, .any, .any, .any], [.box 33 [.f .f32 0, .f .f32 0, .f .f32 0], .box 33 [.f .f32 ((lr_impl_sumOf_1_0 list_0).1), .f .f32 ((lr_impl_sumOf_1_0 list_0).2.1), .f .f32 ((lr_impl_sumOf_1_0 list_0).2.2)]]⟩, .keep []])
    (C := [(((list_0.map GVector.cells).length : Nat) : Int) = (list_0.length : Int),
      Lp Go.Proofs.Try.prog (sub (bodyOf Go.Proofs.Try.f57) [1, 1, 0, 1, 0, 0]) ⟨[.sl (list_0.map GVector.cells), .any, .ptr 0 0 0, .ptr 1 0 0, .any, .any, .agg [.f .f32 0, .f .f32 0, .f .f32 0], .sl (list_0.map GVector.cells), .i .i64 (list_0.length : Int), .i .i64 0, .any, .any, .any, .any, .any, .any, .any, .any], [.box 33 [.f .f32 0, .f .f32 0, .f .f32 0], .box 33 [.f .f32 0, .f .f32 0, .f .f32 0]]⟩ (.exit 0) ⟨[.sl (list_0.map GVector.cells), .any, .ptr 0 0 0, .ptr 1 0 0, .any, .any, .agg [.f .f32 0, .f .f32 0, .f .f32 0], .sl (list_0.map GVector.cells), .any, .any, .any, .any, .any, .any, .any, .any, .any, .any], [.box 33 [.f .f32 0, .f .f32 0, .f .f32 0], .box 33 [.f .f32 ((lr_impl_sumOf_1_0 list_0).1), .f .f32 ((lr_impl_sumOf_1_0 list_0).2.1), .f .f32 ((lr_impl_sumOf_1_0 list_0).2.2)]]⟩])
    Go.Proofs.Try.func57 rfl (by kernel_rfl) (by kernel_rfl)
    ⟨len_ok, (lp_impl_sumOf_1 list_0 hp0 (((list_0.length : Int) - 0).toNat + 1) 0 0 0 0 (show 0 ≤ 0 from (by first | assumption | omega | (simp at * <;> omega) | (simp_all <;> omega))) (Nat.lt_succ_self _)), trivial⟩) rfl rfl

def lo_impl_TorqueOf_1 (m_0 : GMesh) (forces_1 : (List GVector)) : Nat → Int → (List GVector) → (List GVector)
  | 0, _, _ => default
  | k + 1, x_l0, r2_l1 => (cond (decide (x_l0 < (m_0.Places.length : Int)))
    (lo_impl_TorqueOf_1 m_0 forces_1 k (x_l0 + 1) (r2_l1 ++ [(v_impl_CrossOf (m_0.Places.getD x_l0.toNat default) (forces_1.getD x_l0.toNat default))]))
    r2_l1)

def ls_impl_TorqueOf_1 (m_0 : GMesh) (forces_1 : (List GVector)) (r : (List GVector)) : Ex × St := ((.exit 0), ⟨[.agg [.sl (m_0.Places.map GVector.cells), .sl (m_0.Triangles.map (cL (cI .i64)))], .sl (forces_1.map GVector.cells), .ptr 0 0 0, .any, .ptr 1 0 0, .b false, .own 2, .any, .any, .agg [.sl (m_0.Places.map GVector.cells), .sl (m_0.Triangles.map (cL (cI .i64)))], .b (v_impl_ValidMesh m_0), .b (!(v_impl_ValidMesh m_0)), .b (!(v_impl_ValidMesh m_0)), .sl (forces_1.map GVector.cells), .i .i64 (forces_1.length : Int), .ptr 0 0 0, .sl (m_0.Places.map GVector.cells), .i .i64 (m_0.Places.length : Int), .b ((forces_1.length : Int) != (m_0.Places.length : Int)), .b ((forces_1.length : Int) != (m_0.Places.length : Int)), .any, .any, .ptr 0 0 0, .sl (m_0.Places.map GVector.cells), .any, .any, .any, .any, .any, .any, .any, .any, .any, .any, .any, .any, .any, .any, .any, .any, .any, .any], [.box 59 [.sl (m_0.Places.map GVector.cells), .sl (m_0.Triangles.map (cL (cI .i64)))], .box 33 [.f .f32 0, .f .f32 0, .f .f32 0], .vec 33 3 (r.map GVector.cells) false]⟩)

theorem lp_impl_TorqueOf_1 (m_0 : GMesh) (forces_1 : (List GVector)) (hp0 : m_0.Places.length ≤ 1073741824) (hp1 : m_0.Triangles.length ≤ 1073741824) (hp2 : ∀ t ∈ m_0.Triangles, t.length ≤ 1073741824) (hp3 : forces_1.length ≤ 1073741824) (hf_impl_TorqueOf_1_0 : ((forces_1.length : Int) != (m_0.Places.length : Int)) = false) : ∀ (k : Nat) (x_l0 : Int) (r2_l1 : (List GVector)) (hv_impl_TorqueOf_1_0 : 0 ≤ x_l0) (hv_impl_TorqueOf_1_1 : (r2_l1.length : Int) = x_l0) (hk : ((m_0.Places.length : Int) - x_l0).toNat < k), Lp Go.Proofs.Try.prog (sub (bodyOf Go.Proofs.Try.f46) [1, 1, 1, 0, 1, 0, 0]) ⟨[.agg [.sl (m_0.Places.map GVector.cells), .sl (m_0.Triangles.map (cL (cI .i64)))], .sl (forces_1.map GVector.cells), .ptr 0 0 0, .any, .ptr 1 0 0, .b false, .own 2, .any, .any, .agg [.sl (m_0.Places.map GVector.cells), .sl (m_0.Triangles.map (cL (cI .i64)))], .b (v_impl_ValidMesh m_0), .b (!(v_impl_ValidMesh m_0)), .b (!(v_impl_ValidMesh m_0)), .sl (forces_1.map GVector.cells), .i .i64 (forces_1.length : Int), .ptr 0 0 0, .sl (m_0.Places.map GVector.cells), .i .i64 (m_0.Places.length : Int), .b ((forces_1.length : Int) != (m_0.Places.length : Int)), .b ((forces_1.length : Int) != (m_0.Places.length : Int)), .any, .any, .ptr 0 0 0, .sl (m_0.Places.map GVector.cells), .i .i64 (m_0.Places.length : Int), .i .i64 x_l0, .any, .any, .any, .any, .any, .any, .any, .any, .any, .any, .any, .any, .any, .any, .any, .any], [.box 59 [.sl (m_0.Places.map GVector.cells), .sl (m_0.Triangles.map (cL (cI .i64)))], .box 33 [.f .f32 0, .f .f32 0, .f .f32 0], .vec 33 3 (r2_l1.map GVector.cells) false]⟩ (ls_impl_TorqueOf_1 m_0 forces_1 (lo_impl_TorqueOf_1 m_0 forces_1 k x_l0 r2_l1)).1 (ls_impl_TorqueOf_1 m_0 forces_1 (lo_impl_TorqueOf_1 m_0 forces_1 k x_l0 r2_l1)).2 := by
  intro k
  induction k with
  | zero => intro x_l0 r2_l1 hv_impl_TorqueOf_1_0 hv_impl_TorqueOf_1_1 hk; exact absurd hk (Nat.not_lt_zero _)
  | succ k ih =>
    intro x_l0 r2_l1 hv_impl_TorqueOf_1_0 hv_impl_TorqueOf_1_1 hk
    cases h_0 : (decide (x_l0 < (m_0.Places.length : Int))) with
    | true =>
      have e : lo_impl_TorqueOf_1 m_0 forces_1 (k + 1) x_l0 r2_l1 = (lo_impl_TorqueOf_1 m_0 forces_1 k (x_l0 + 1) (r2_l1 ++ [(v_impl_CrossOf (m_0.Places.getD x_l0.toNat default) (forces_1.getD x_l0.toNat default))])) := by simp only [lo_impl_TorqueOf_1, h_0, cond_true]
      rw [e]
      exact step_next E0Ok hMixed (body := (sub (bodyOf Go.Proofs.Try.f46) [1, 1, 1, 0, 1, 0, 0])) (st := ⟨[.agg [.sl (m_0.Places.map GVector.cells), .sl (m_0.Triangles.map (cL (cI .i64)))], .sl (forces_1.map GVector.cells), .ptr 0 0 0, .any, .ptr 1 0 0, .b false, .own 2, .any, .any, .agg [.sl (m_0.Places.map GVector.cells), .sl (m_0.Triangles.map (cL (cI .i64)))], .b (v_impl_ValidMesh m_0), .b (!(v_impl_ValidMesh m_0)), .b (!(v_impl_ValidMesh m_0)), .sl (forces_1.map GVector.cells), .i .i64 (forces_1.length : Int), .ptr 0 0 0, .sl (m_0.Places.map GVector.cells), .i .i64 (m_0.Places.length : Int), .b ((forces_1.length : Int) != (m_0.Places.length : Int)), .b ((forces_1.length : Int) != (m_0.Places.length : Int)), .any, .any, .ptr 0 0 0, .sl (m_0.Places.map GVector.cells), .i .i64 (m_0.Places.length : Int), .i .i64 x_l0, .any, .any, .any, .any, .any, .any, .any, .any, .any, .any, .any, .any, .any, .any, .any, .any], [.box 59 [.sl (m_0.Places.map GVector.cells), .sl (m_0.Triangles.map (cL (cI .i64)))], .box 33 [.f .f32 0, .f .f32 0, .f .f32 0], .vec 33 3 (r2_l1.map GVector.cells) false]⟩)
        (st2 := ⟨[.agg [.sl (m_0.Places.map GVector.cells), .sl (m_0.Triangles.map (cL (cI .i64)))], .sl (forces_1.map GVector.cells), .ptr 0 0 0, .any, .ptr 1 0 0, .b false, .own 2, .any, .any, .agg [.sl (m_0.Places.map GVector.cells), .sl (m_0.Triangles.map (cL (cI .i64)))], .b (v_impl_ValidMesh m_0), .b (!(v_impl_ValidMesh m_0)), .b (!(v_impl_ValidMesh m_0)), .sl (forces_1.map GVector.cells), .i .i64 (forces_1.length : Int), .ptr 0 0 0, .sl (m_0.Places.map GVector.cells), .i .i64 (m_0.Places.length : Int), .b ((forces_1.length : Int) != (m_0.Places.length : Int)), .b ((forces_1.length : Int) != (m_0.Places.length : Int)), .any, .any, .ptr 0 0 0, .sl (m_0.Places.map GVector.cells), .i .i64 (m_0.Places.length : Int), .i .i64 (x_l0 + 1), .any, .any, .any, .any, .any, .any, .any, .any, .any, .any, .any, .any, .any, .any, .any, .any], [.box 59 [.sl (m_0.Places.map GVector.cells), .sl (m_0.Triangles.map (cL (cI .i64)))], .box 33 [.f .f32 0, .f .f32 0, .f .f32 0], .vec 33 3 ((r2_l1.map GVector.cells) ++ ([[.f .f32 ((v_impl_CrossOf (m_0.Places.getD x_l0.toNat default) (forces_1.getD x_l0.toNat default)).X), .f .f32 ((v_impl_CrossOf (m_0.Places.getD x_l0.toNat default) (forces_1.getD x_l0.toNat default)).Y), .f .f32 ((v_impl_CrossOf (m_0.Places.getD x_l0.toNat default) (forces_1.getD x_l0.toNat default)).Z)]] : List (List AV))) false]⟩)
        (ans := [.bo true, .el [.f .f32 ((m_0.Places.getD x_l0.toNat default).X), .f .f32 ((m_0.Places.getD x_l0.toNat default).Y), .f .f32 ((m_0.Places.getD x_l0.toNat default).Z)], .keep [8, 8], .el [.f .f32 ((forces_1.getD x_l0.toNat default).X), .f .f32 ((forces_1.getD x_l0.toNat default).Y), .f .f32 ((forces_1.getD x_l0.toNat default).Z)], .call (.agg [.f .f32 ((v_impl_CrossOf (m_0.Places.getD x_l0.toNat default) (forces_1.getD x_l0.toNat default)).X), .f .f32 ((v_impl_CrossOf (m_0.Places.getD x_l0.toNat default) (forces_1.getD x_l0.toNat default)).Y), .f .f32 ((v_impl_CrossOf (m_0.Places.getD x_l0.toNat default) (forces_1.getD x_l0.toNat default)).Z)]) [], .num (x_l0 + 1)])
        (mask := [true, true, true, false, true, true, true, false, false, true, true, true, true, true, true, true, true, true, true, true, false, false, true, true, true, true, false, false, false, false, false, false, false, false, false, false, false, false, false, false, false, false]) (n := 3)
        (C := [(decide (x_l0 < (m_0.Places.length : Int))) = true,
          0 ≤ x_l0 ∧ (m_0.Places.map GVector.cells)[Int.toNat x_l0]? = some [.f .f32 ((m_0.Places.getD x_l0.toNat default).X), .f .f32 ((m_0.Places.getD x_l0.toNat default).Y), .f .f32 ((m_0.Places.getD x_l0.toNat default).Z)],
          0 ≤ x_l0 ∧ (forces_1.map GVector.cells)[Int.toNat x_l0]? = some [.f .f32 ((forces_1.getD x_l0.toNat default).X), .f .f32 ((forces_1.getD x_l0.toNat default).Y), .f .f32 ((forces_1.getD x_l0.toNat default).Z)],
          Fn Go.Proofs.Try.prog 77 [.agg [.f .f32 ((m_0.Places.getD x_l0.toNat default).X), .f .f32 ((m_0.Places.getD x_l0.toNat default).Y), .f .f32 ((m_0.Places.getD x_l0.toNat default).Z)], .agg [.f .f32 ((forces_1.getD x_l0.toNat default).X), .f .f32 ((forces_1.getD x_l0.toNat default).Y), .f .f32 ((forces_1.getD x_l0.toNat default).Z)]] (.agg [.f .f32 ((v_impl_CrossOf (m_0.Places.getD x_l0.toNat default) (forces_1.getD x_l0.toNat default)).X), .f .f32 ((v_impl_CrossOf (m_0.Places.getD x_l0.toNat default) (forces_1.getD x_l0.toNat default)).Y), .f .f32 ((v_impl_CrossOf (m_0.Places.getD x_l0.toNat default) (forces_1.getD x_l0.toNat default)).Z)]) [],
          (r2_l1.map GVector.cells).length + ([[.f .f32 ((v_impl_CrossOf (m_0.Places.getD x_l0.toNat default) (forces_1.getD x_l0.toNat default)).X), .f .f32 ((v_impl_CrossOf (m_0.Places.getD x_l0.toNat default) (forces_1.getD x_l0.toNat default)).Y), .f .f32 ((v_impl_CrossOf (m_0.Places.getD x_l0.toNat default) (forces_1.getD x_l0.toNat default)).Z)]] : List (List AV)).length ≤ 1073741824,
          IntKind.wrap .i64 (x_l0 + 1) = (x_l0 + 1)])
        (by kernel_rfl)
        ⟨h_0, (get_ok (by first | assumption | omega | (simp at * <;> omega) | (simp_all <;> omega)) (by first | assumption | omega | (simp at * <;> omega) | (simp_all <;> omega))), (get_ok (by first | assumption | omega | (simp at * <;> omega) | (simp_all <;> omega)) (by first | assumption | omega | (simp at * <;> omega) | (simp_all <;> omega))), (t_impl_CrossOf (m_0.Places.getD x_l0.toNat default) (forces_1.getD x_l0.toNat default)), (by have q : r2_l1.length + ([(v_impl_CrossOf (m_0.Places.getD x_l0.toNat default) (forces_1.getD x_l0.toNat default))]).length ≤ 1073741824 := (by first | assumption | omega | (simp at * <;> omega) | (simp_all <;> omega)); simpa using q), (wrap_id (by first | assumption | omega | (simp at * <;> omega) | (simp_all <;> omega)) (by first | assumption | omega | (simp at * <;> omega) | (simp_all <;> omega))), trivial⟩
        (by simp [GVector.cells]) (ih (x_l0 + 1) (r2_l1 ++ [(v_impl_CrossOf (m_0.Places.getD x_l0.toNat default) (forces_1.getD x_l0.toNat default))]) (show 0 ≤ (x_l0 + 1) from (by first | assumption | omega | (simp at * <;> omega) | (simp_all <;> omega))) (show ((r2_l1 ++ [(v_impl_CrossOf (m_0.Places.getD x_l0.toNat default) (forces_1.getD x_l0.toNat default))]).length : Int) = (x_l0 + 1) from (by first | assumption | omega | (simp at * <;> omega) | (simp_all <;> omega))) (by first | assumption | omega | (simp at * <;> omega) | (simp_all <;> omega)))
    | false =>
      have e : lo_impl_TorqueOf_1 m_0 forces_1 (k + 1) x_l0 r2_l1 = r2_l1 := by simp only [lo_impl_TorqueOf_1, h_0, cond_false]
      rw [e]
      exact step_out E0Ok hMixed (e := (.exit 0)) (body := (sub (bodyOf Go.Proofs.Try.f46) [1, 1, 1, 0, 1, 0, 0])) (st := ⟨[.agg [.sl (m_0.Places.map GVector.cells), .sl (m_0.Triangles.map (cL (cI .i64)))], .sl (forces_1.map GVector.cells), .ptr 0 0 0, .any, .ptr 1 0 0, .b false, .own 2, .any, .any, .agg [.sl (m_0.Places.map GVector.cells), .sl (m_0.Triangles.map (cL (cI .i64)))], .b (v_impl_ValidMesh m_0), .b (!(v_impl_ValidMesh m_0)), .b (!(v_impl_ValidMesh m_0)), .sl (forces_1.map GVector.cells), .i .i64 (forces_1.length : Int), .ptr 0 0 0, .sl (m_0.Places.map GVector.cells), .i .i64 (m_0.Places.length : Int), .b ((forces_1.length : Int) != (m_0.Places.length : Int)), .b ((forces_1.length : Int) != (m_0.Places.length : Int)), .any, .any, .ptr 0 0 0, .sl (m_0.Places.map GVector.cells), .i .i64 (m_0.Places.length : Int), .i .i64 x_l0, .any, .any, .any, .any, .any, .any, .any, .any, .any, .any, .any, .any, .any, .any, .any, .any], [.box 59 [.sl (m_0.Places.map GVector.cells), .sl (m_0.Triangles.map (cL (cI .i64)))], .box 33 [.f .f32 0, .f .f32 0, .f .f32 0], .vec 33 3 (r2_l1.map GVector.cells) false]⟩)
        (st2 := ⟨[.agg [.sl (m_0.Places.map GVector.cells), .sl (m_0.Triangles.map (cL (cI .i64)))], .sl (forces_1.map GVector.cells), .ptr 0 0 0, .any, .ptr 1 0 0, .b false, .own 2, .any, .any, .agg [.sl (m_0.Places.map GVector.cells), .sl (m_0.Triangles.map (cL (cI .i64)))], .b (v_impl_ValidMesh m_0), .b (!(v_impl_ValidMesh m_0)), .b (!(v_impl_ValidMesh m_0)), .sl (forces_1.map GVector.cells), .i .i64 (forces_1.length : Int), .ptr 0 0 0, .sl (m_0.Places.map GVector.cells), .i .i64 (m_0.Places.length : Int), .b ((forces_1.length : Int) != (m_0.Places.length : Int)), .b ((forces_1.length : Int) != (m_0.Places.length : Int)), .any, .any, .ptr 0 0 0, .sl (m_0.Places.map GVector.cells), .any, .any, .any, .any, .any, .any, .any, .any, .any, .any, .any, .any, .any, .any, .any, .any, .any, .any], [.box 59 [.sl (m_0.Places.map GVector.cells), .sl (m_0.Triangles.map (cL (cI .i64)))], .box 33 [.f .f32 0, .f .f32 0, .f .f32 0], .vec 33 3 (r2_l1.map GVector.cells) false]⟩)
        (ans := [.bo false])
        (mask := [true, true, true, false, true, true, true, false, false, true, true, true, true, true, true, true, true, true, true, true, false, false, true, true, false, false, false, false, false, false, false, false, false, false, false, false, false, false, false, false, false, false]) (n := 3)
        (C := [(decide (x_l0 < (m_0.Places.length : Int))) = false])
        (by kernel_rfl)
        ⟨h_0, trivial⟩
        (by intro h; cases h) rfl

def lr_impl_TorqueOf_1_0 (m_0 : GMesh) (forces_1 : (List GVector)) : (List GVector) := (lo_impl_TorqueOf_1 m_0 forces_1 (((m_0.Places.length : Int) - 0).toNat + 1) 0 ([] : List GVector))

/-- impl.TorqueOf -/
def v_impl_TorqueOf (m_0 : GMesh) (forces_1 : (List GVector)) : GVector × Bool := (cond (v_impl_ValidMesh m_0)
  (cond ((forces_1.length : Int) != (m_0.Places.length : Int))
    ((⟨0, 0, 0⟩ : GVector), false)
    ((v_impl_sumOf (lr_impl_TorqueOf_1_0 m_0 forces_1)), true))
  ((⟨0, 0, 0⟩ : GVector), false))

theorem app_TorqueOf (m : GMesh) (f : List GVector) : lr_impl_TorqueOf_1_0 m f = (List.range m.Places.length).map fun (j : Nat) => v_impl_CrossOf (m.Places.getD j default) (f.getD j default) := by
  unfold lr_impl_TorqueOf_1_0
  rw [app_loop (f := fun i => v_impl_CrossOf (m.Places.getD i.toNat default) (f.getD i.toNat default)) (n := (m.Places.length : Int)) (lo := lo_impl_TorqueOf_1 m f) (fun k i r => rfl) _ _ _ (Nat.lt_succ_self _)]
  simp
@[simp] theorem len_TorqueOf (m : GMesh) (f : List GVector) : (lr_impl_TorqueOf_1_0 m f).length = m.Places.length := by
  simp [app_TorqueOf]

theorem t_impl_TorqueOf (m_0 : GMesh) (forces_1 : (List GVector)) (hp0 : m_0.Places.length ≤ 1073741824) (hp1 : m_0.Triangles.length ≤ 1073741824) (hp2 : ∀ t ∈ m_0.Triangles, t.length ≤ 1073741824) (hp3 : forces_1.length ≤ 1073741824)  : Fn Go.Proofs.Try.prog 46 [.agg [.sl (m_0.Places.map GVector.cells), .sl (m_0.Triangles.map (cL (cI .i64)))], .sl (forces_1.map GVector.cells)] (.tup [.agg [.f .f32 ((v_impl_TorqueOf m_0 forces_1).1.X), .f .f32 ((v_impl_TorqueOf m_0 forces_1).1.Y), .f .f32 ((v_impl_TorqueOf m_0 forces_1).1.Z)], .b ((v_impl_TorqueOf m_0 forces_1).2)]) [] := by
  cases h0 : (v_impl_ValidMesh m_0) with
  | true =>
    cases h1 : ((forces_1.length : Int) != (m_0.Places.length : Int)) with
    | true =>
      exact Fn.cast (fn_of_ev E0Ok hMixed (c := bodyOf Go.Proofs.Try.f46) (r := .tup [.agg [.f .f32 0, .f .f32 0, .f .f32 0], .b false]) (new := [])
        (ans := [.call (.b (v_impl_ValidMesh m_0)) [], .bo false, .bo false, .num (forces_1.length : Int), .bo false, .bo false, .bo false, .num (m_0.Places.length : Int), .bo false, .bo false, .bo true, .keep []])
        (C := [Fn Go.Proofs.Try.prog 73 [.agg [.sl (m_0.Places.map GVector.cells), .sl (m_0.Triangles.map (cL (cI .i64)))]] (.b (v_impl_ValidMesh m_0)) [],
          (!(v_impl_ValidMesh m_0)) = false,
          (!(v_impl_ValidMesh m_0)) = false,
          (((forces_1.map GVector.cells).length : Nat) : Int) = (forces_1.length : Int),
          (!(v_impl_ValidMesh m_0)) = false,
          (!(v_impl_ValidMesh m_0)) = false,
          (!(v_impl_ValidMesh m_0)) = false,
          (((m_0.Places.map GVector.cells).length : Nat) : Int) = (m_0.Places.length : Int),
          (!(v_impl_ValidMesh m_0)) = false,
          (!(v_impl_ValidMesh m_0)) = false,
          ((forces_1.length : Int) != (m_0.Places.length : Int)) = true])
        Go.Proofs.Try.func46 rfl (by kernel_rfl) (by kernel_rfl)
        ⟨(t_impl_ValidMesh m_0 (show m_0.Places.length ≤ 1073741824 from (by first | assumption | omega | (simp at * <;> omega) | (simp_all <;> omega))) (show m_0.Triangles.length ≤ 1073741824 from (by first | assumption | omega | (simp at * <;> omega) | (simp_all <;> omega))) (show ∀ t ∈ m_0.Triangles, t.length ≤ 1073741824 from (by first | assumption | omega | (simp at * <;> omega) | (simp_all <;> omega)))), (congrArg not h0), (congrArg not h0), len_ok, (congrArg not h0), (congrArg not h0), (congrArg not h0), len_ok, (congrArg not h0), (congrArg not h0), h1, trivial⟩) (by simp only [v_impl_TorqueOf, h0, h1, cond_true]) rfl
    | false =>
      exact Fn.cast (fn_of_ev E0Ok hMixed (c := bodyOf Go.Proofs.Try.f46) (r := .tup [.agg [.f .f32 ((v_impl_sumOf (lr_impl_TorqueOf_1_0 m_0 forces_1)).X), .f .f32 ((v_impl_sumOf (lr_impl_TorqueOf_1_0 m_0 forces_1)).Y), .f .f32 ((v_impl_sumOf (lr_impl_TorqueOf_1_0 m_0 forces_1)).Z)], .b true]) (new := [])
        (ans := [.call (.b (v_impl_ValidMesh m_0)) [], .bo false, .bo false, .num (forces_1.length : Int), .bo false, .bo false, .bo false, .num (m_0.Places.length : Int), .bo false, .bo false, .bo false, .num (m_0.Places.length : Int), .loop [true, true, true, false, true, true, true, false, false, true, true, true, true, true, true, true, true, true, true, true, false, false, true, true, true, true, false, false, false, false, false, false, false, false, false, false, false, false, false, false, false, false] 3 (.exit 0) ⟨[.agg [.sl (m_0.Places.map GVector.cells), .sl (m_0.Triangles.map (cL (cI .i64)))], .sl (forces_1.map GVector.cells), .ptr 0 0 0, .any, .ptr 1 0 0, .b false, .own 2, .any, .any, .agg [.sl (m_0.Places.map GVector.cells), .sl (m_0.Triangles.map (cL (cI .i64)))], .b (v_impl_ValidMesh m_0), .b (!(v_impl_ValidMesh m_0)), .b (!(v_impl_ValidMesh m_0)), .sl (forces_1.map GVector.cells), .i .i64 (forces_1.length : Int), .ptr 0 0 0, .sl (m_0.Places.map GVector.cells), .i .i64 (m_0.Places.length : Int), .b ((forces_1.length : Int) != (m_0.Places.length : Int)), .b ((forces_1.length : Int) != (m_0.Places.length : Int)), .any, .any, .ptr 0 0 0, .sl (m_0.Places.map GVector.cells), .any, .any, .any, .any, .any, .any, .any, .any, .any, .any, .any, .any, .any, .any, .any, .any, .any, .any], [.box 59 [.sl (m_0.Places.map GVector.cells), .sl (m_0.Triangles.map (cL (cI .i64)))], .box 33 [.f .f32 0, .f .f32 0, .f .f32 0], .vec 33 3 ((lr_impl_TorqueOf_1_0 m_0 forces_1).map GVector.cells) false]⟩, .call (.agg [.f .f32 ((v_impl_sumOf (lr_impl_TorqueOf_1_0 m_0 forces_1)).X), .f .f32 ((v_impl_sumOf (lr_impl_TorqueOf_1_0 m_0 forces_1)).Y), .f .f32 ((v_impl_sumOf (lr_impl_TorqueOf_1_0 m_0 forces_1)).Z)]) [], .keep []])
        (C := [Fn Go.Proofs.Try.prog 73 [.agg [.sl (m_0.Places.map GVector.cells), .sl (m_0.Triangles.map (cL (cI .i64)))]] (.b (v_impl_ValidMesh m_0)) [],
          (!(v_impl_ValidMesh m_0)) = false,
          (!(v_impl_ValidMesh m_0)) = false,
          (((forces_1.map GVector.cells).length : Nat) : Int) = (forces_1.length : Int),
          (!(v_impl_ValidMesh m_0)) = false,
          (!(v_impl_ValidMesh m_0)) = false,
          (!(v_impl_ValidMesh m_0)) = false,
          (((m_0.Places.map GVector.cells).length : Nat) : Int) = (m_0.Places.length : Int),
          (!(v_impl_ValidMesh m_0)) = false,
          (!(v_impl_ValidMesh m_0)) = false,
          ((forces_1.length : Int) != (m_0.Places.length : Int)) = false,
          (((m_0.Places.map GVector.cells).length : Nat) : Int) = (m_0.Places.length : Int),
          Lp Go.Proofs.Try.prog (sub (bodyOf Go.Proofs.Try.f46) [1, 1, 1, 0, 1, 0, 0]) ⟨[.agg [.sl (m_0.Places.map GVector.cells), .sl (m_0.Triangles.map (cL (cI .i64)))], .sl (forces_1.map GVector.cells), .ptr 0 0 0, .any, .ptr 1 0 0, .b false, .own 2, .any, .any, .agg [.sl (m_0.Places.map GVector.cells), .sl (m_0.Triangles.map (cL (cI .i64)))], .b (v_impl_ValidMesh m_0), .b (!(v_impl_ValidMesh m_0)), .b (!(v_impl_ValidMesh m_0)), .sl (forces_1.map GVector.cells), .i .i64 (forces_1.length : Int), .ptr 0 0 0, .sl (m_0.Places.map GVector.cells), .i .i64 (m_0.Places.length : Int), .b ((forces_1.length : Int) != (m_0.Places.length : Int)), .b ((forces_1.length : Int) != (m_0.Places.length : Int)), .any, .any, .ptr 0 0 0, .sl (m_0.Places.map GVector.cells), .i .i64 (m_0.Places.length : Int), .i .i64 0, .any, .any, .any, .any, .any, .any, .any, .any, .any, .any, .any, .any, .any, .any, .any, .any], [.box 59 [.sl (m_0.Places.map GVector.cells), .sl (m_0.Triangles.map (cL (cI .i64)))], .box 33 [.f .f32 0, .f .f32 0, .f .f32 0], .vec 33 3 ([] : List (List AV)) false]⟩ (.exit 0) ⟨[.agg [.sl (m_0.Places.map GVector.cells), .sl (m_0.Triangles.map (cL (cI .i64)))], .sl (forces_1.map GVector.cells), .ptr 0 0 0, .any, .ptr 1 0 0, .b false, .own 2, .any, .any, .agg [.sl (m_0.Places.map GVector.cells), .sl (m_0.Triangles.map (cL (cI .i64)))], .b (v_impl_ValidMesh m_0), .b (!(v_impl_ValidMesh m_0)), .b (!(v_impl_ValidMesh m_0)), .sl (forces_1.map GVector.cells), .i .i64 (forces_1.length : Int), .ptr 0 0 0, .sl (m_0.Places.map GVector.cells), .i .i64 (m_0.Places.length : Int), .b ((forces_1.length : Int) != (m_0.Places.length : Int)), .b ((forces_1.length : Int) != (m_0.Places.length : Int)), .any, .any, .ptr 0 0 0, .sl (m_0.Places.map GVector.cells), .any, .any, .any, .any, .any, .any, .any, .any, .any, .any, .any, .any, .any, .any, .any, .any, .any, .any], [.box 59 [.sl (m_0.Places.map GVector.cells), .sl (m_0.Triangles.map (cL (cI .i64)))], .box 33 [.f .f32 0, .f .f32 0, .f .f32 0], .vec 33 3 ((lr_impl_TorqueOf_1_0 m_0 forces_1).map GVector.cells) false]⟩,
          Fn Go.Proofs.Try.prog 57 [.sl ((lr_impl_TorqueOf_1_0 m_0 forces_1).map GVector.cells)] (.agg [.f .f32 ((v_impl_sumOf (lr_impl_TorqueOf_1_0 m_0 forces_1)).X), .f .f32 ((v_impl_sumOf (lr_impl_TorqueOf_1_0 m_0 forces_1)).Y), .f .f32 ((v_impl_sumOf (lr_impl_TorqueOf_1_0 m_0 forces_1)).Z)]) []])
        Go.Proofs.Try.func46 rfl (by kernel_rfl) (by kernel_rfl)
        ⟨(t_impl_ValidMesh m_0 (show m_0.Places.length ≤ 1073741824 from (by first | assumption | omega | (simp at * <;> omega) | (simp_all <;> omega))) (show m_0.Triangles.length ≤ 1073741824 from (by first | assumption | omega | (simp at * <;> omega) | (simp_all <;> omega))) (show ∀ t ∈ m_0.Triangles, t.length ≤ 1073741824 from (by first | assumption | omega | (simp at * <;> omega) | (simp_all <;> omega)))), (congrArg not h0), (congrArg not h0), len_ok, (congrArg not h0), (congrArg not h0), (congrArg not h0), len_ok, (congrArg not h0), (congrArg not h0), h1, len_ok, (lp_cast (lp_impl_TorqueOf_1 m_0 forces_1 hp0 hp1 hp2 hp3 h1 (((m_0.Places.length : Int) - 0).toNat + 1) 0 ([] : List GVector) (show 0 ≤ 0 from (by simp)) (show (([] : List GVector).length : Int) = 0 from (by simp)) (Nat.lt_succ_self _)) (by simp [GVector.cells])), (t_impl_sumOf (lr_impl_TorqueOf_1_0 m_0 forces_1) (show (lr_impl_TorqueOf_1_0 m_0 forces_1).length ≤ 1073741824 from (by first | assumption | omega | (simp at * <;> omega) | (simp_all <;> omega)))), trivial⟩) (by simp only [v_impl_TorqueOf, h0, h1, cond_true, cond_false]) rfl
  | false =>
    exact Fn.cast (fn_of_ev E0Ok hMixed (c := bodyOf Go.Proofs.Try.f46) (r := .tup [.agg [.f .f32 0, .f .f32 0, .f .f32 0], .b false]) (new := [])
      (ans := [.call (.b (v_impl_ValidMesh m_0)) [], .bo true, .bo true, .bo true, .bo true, .bo true, .bo true, .bo true, .bo true, .keep []])
      (C := [Fn Go.Proofs.Try.prog 73 [.agg [.sl (m_0.Places.map GVector.cells), .sl (m_0.Triangles.map (cL (cI .i64)))]] (.b (v_impl_ValidMesh m_0)) [],
        (!(v_impl_ValidMesh m_0)) = true,
        (!(v_impl_ValidMesh m_0)) = true,
        (!(v_impl_ValidMesh m_0)) = true,
        (!(v_impl_ValidMesh m_0)) = true,
        (!(v_impl_ValidMesh m_0)) = true,
        (!(v_impl_ValidMesh m_0)) = true,
        (!(v_impl_ValidMesh m_0)) = true,
        true = true])
      Go.Proofs.Try.func46 rfl (by kernel_rfl) (by kernel_rfl)
      ⟨(t_impl_ValidMesh m_0 (show m_0.Places.length ≤ 1073741824 from (by first | assumption | omega | (simp at * <;> omega) | (simp_all <;> omega))) (show m_0.Triangles.length ≤ 1073741824 from (by first | assumption | omega | (simp at * <;> omega) | (simp_all <;> omega))) (show ∀ t ∈ m_0.Triangles, t.length ≤ 1073741824 from (by first | assumption | omega | (simp at * <;> omega) | (simp_all <;> omega)))), (congrArg not h0), (congrArg not h0), (congrArg not h0), (congrArg not h0), (congrArg not h0), (congrArg not h0), (congrArg not h0), rfl, trivial⟩) (by simp only [v_impl_TorqueOf, h0, cond_false]) rfl

/-- laws.sameFloat -/
def v_laws_sameFloat (a_0 : Nat) (b_1 : Nat) : Bool := (cond (fcmp .neq .f64 a_0 a_0)
  (fcmp .neq .f64 b_1 b_1)
  (cond (fcmp .neq .f64 b_1 b_1)
    false
    (cond (fcmp .eql .f64 a_0 0)
      (cond (fcmp .eql .f64 b_1 0)
        ((fcmp .gtr .f64 (fop .quo .f64 4607182418800017408 a_0) 0) == (fcmp .gtr .f64 (fop .quo .f64 4607182418800017408 b_1) 0))
        (fcmp .eql .f64 a_0 b_1))
      (fcmp .eql .f64 a_0 b_1))))

theorem t_laws_sameFloat (a_0 : Nat) (b_1 : Nat)   : Fn Go.Proofs.Try.prog 17 [.f .f64 a_0, .f .f64 b_1] (.b (v_laws_sameFloat a_0 b_1)) [] := by
  cases h0 : (fcmp .neq .f64 a_0 a_0) with
  | true =>
    exact Fn.cast (fn_of_ev E0Ok hMixed (c := bodyOf Go.Proofs.Try.f17) (r := .b (fcmp .neq .f64 b_1 b_1)) (new := [])
      (ans := [.bo true, .bo true, .bo true, .bo true, .bo true, .bo true, .bo true, .bo true, .bo true, .keep []])
      (C := [(fcmp .neq .f64 a_0 a_0) = true,
        (fcmp .neq .f64 a_0 a_0) = true,
        (fcmp .neq .f64 a_0 a_0) = true,
        (fcmp .neq .f64 a_0 a_0) = true,
        true = true,
        (fcmp .neq .f64 a_0 a_0) = true,
        (fcmp .neq .f64 a_0 a_0) = true,
        (fcmp .neq .f64 a_0 a_0) = true,
        (fcmp .neq .f64 a_0 a_0) = true])
      Go.Proofs.Try.func17 rfl (by kernel_rfl) (by kernel_rfl)
      ⟨h0, h0, h0, h0, rfl, h0, h0, h0, h0, trivial⟩) (by simp only [v_laws_sameFloat, h0, cond_true]) rfl
  | false =>
    cases h1 : (fcmp .neq .f64 b_1 b_1) with
    | true =>
      exact Fn.cast (fn_of_ev E0Ok hMixed (c := bodyOf Go.Proofs.Try.f17) (r := .b false) (new := [])
        (ans := [.bo false, .bo false, .bo false, .bo false, .bo true, .bo false, .bo false, .bo false, .bo false, .keep []])
        (C := [(fcmp .neq .f64 a_0 a_0) = false,
          (fcmp .neq .f64 a_0 a_0) = false,
          (fcmp .neq .f64 a_0 a_0) = false,
          (fcmp .neq .f64 a_0 a_0) = false,
          (fcmp .neq .f64 b_1 b_1) = true,
          (fcmp .neq .f64 a_0 a_0) = false,
          (fcmp .neq .f64 a_0 a_0) = false,
          (fcmp .neq .f64 a_0 a_0) = false,
          (fcmp .neq .f64 a_0 a_0) = false])
        Go.Proofs.Try.func17 rfl (by kernel_rfl) (by kernel_rfl)
        ⟨h0, h0, h0, h0, h1, h0, h0, h0, h0, trivial⟩) (by simp only [v_laws_sameFloat, h0, h1, cond_true, cond_false]) rfl
    | false =>
      cases h2 : (fcmp .eql .f64 a_0 0) with
      | true =>
        cases h3 : (fcmp .eql .f64 b_1 0) with
        | true =>
          exact Fn.cast (fn_of_ev E0Ok hMixed (c := bodyOf Go.Proofs.Try.f17) (r := .b ((fcmp .gtr .f64 (fop .quo .f64 4607182418800017408 a_0) 0) == (fcmp .gtr .f64 (fop .quo .f64 4607182418800017408 b_1) 0))) (new := [])
            (ans := [.bo false, .bo false, .bo false, .bo false, .bo false, .bo true, .bo true, .bo true, .bo true, .keep []])
            (C := [(fcmp .neq .f64 a_0 a_0) = false,
              (fcmp .neq .f64 a_0 a_0) = false,
              (fcmp .neq .f64 a_0 a_0) = false,
              (fcmp .neq .f64 a_0 a_0) = false,
              (fcmp .neq .f64 b_1 b_1) = false,
              (fcmp .eql .f64 a_0 0) = true,
              (fcmp .eql .f64 a_0 0) = true,
              (fcmp .eql .f64 a_0 0) = true,
              (fcmp .eql .f64 b_1 0) = true])
            Go.Proofs.Try.func17 rfl (by kernel_rfl) (by kernel_rfl)
            ⟨h0, h0, h0, h0, h1, h2, h2, h2, h3, trivial⟩) (by simp only [v_laws_sameFloat, h0, h1, h2, h3, cond_true, cond_false]) rfl
        | false =>
          exact Fn.cast (fn_of_ev E0Ok hMixed (c := bodyOf Go.Proofs.Try.f17) (r := .b (fcmp .eql .f64 a_0 b_1)) (new := [])
            (ans := [.bo false, .bo false, .bo false, .bo false, .bo false, .bo true, .bo true, .bo true, .bo false, .keep []])
            (C := [(fcmp .neq .f64 a_0 a_0) = false,
              (fcmp .neq .f64 a_0 a_0) = false,
              (fcmp .neq .f64 a_0 a_0) = false,
              (fcmp .neq .f64 a_0 a_0) = false,
              (fcmp .neq .f64 b_1 b_1) = false,
              (fcmp .eql .f64 a_0 0) = true,
              (fcmp .eql .f64 a_0 0) = true,
              (fcmp .eql .f64 a_0 0) = true,
              (fcmp .eql .f64 b_1 0) = false])
            Go.Proofs.Try.func17 rfl (by kernel_rfl) (by kernel_rfl)
            ⟨h0, h0, h0, h0, h1, h2, h2, h2, h3, trivial⟩) (by simp only [v_laws_sameFloat, h0, h1, h2, h3, cond_true, cond_false]) rfl
      | false =>
        exact Fn.cast (fn_of_ev E0Ok hMixed (c := bodyOf Go.Proofs.Try.f17) (r := .b (fcmp .eql .f64 a_0 b_1)) (new := [])
          (ans := [.bo false, .bo false, .bo false, .bo false, .bo false, .bo false, .bo false, .bo false, .bo false, .keep []])
          (C := [(fcmp .neq .f64 a_0 a_0) = false,
            (fcmp .neq .f64 a_0 a_0) = false,
            (fcmp .neq .f64 a_0 a_0) = false,
            (fcmp .neq .f64 a_0 a_0) = false,
            (fcmp .neq .f64 b_1 b_1) = false,
            (fcmp .eql .f64 a_0 0) = false,
            (fcmp .eql .f64 a_0 0) = false,
            (fcmp .eql .f64 a_0 0) = false,
            false = false])
          Go.Proofs.Try.func17 rfl (by kernel_rfl) (by kernel_rfl)
          ⟨h0, h0, h0, h0, h1, h2, h2, h2, rfl, trivial⟩) (by simp only [v_laws_sameFloat, h0, h1, h2, cond_false]) rfl

theorem same_self (x : Nat) : v_laws_sameFloat x x = true := by
  unfold v_laws_sameFloat
  cases h : fcmp .neq .f64 x x
  · simp only [cond_false]
    have h2 : fcmp .eql .f64 x x = true := by
      unfold fcmp at h ⊢
      simpa using h
    cases fcmp .eql .f64 x 0 <;> simp [h2]
  · rfl

/-- laws.eqVector -/
def v_laws_eqVector (a_0 : GVector) (b_1 : GVector) : Bool := (cond (v_laws_sameFloat (fcv .f32 .f64 a_0.X) (fcv .f32 .f64 b_1.X))
  (cond (v_laws_sameFloat (fcv .f32 .f64 a_0.Y) (fcv .f32 .f64 b_1.Y))
    (cond (v_laws_sameFloat (fcv .f32 .f64 a_0.Z) (fcv .f32 .f64 b_1.Z))
      true
      false)
    false)
  false)

theorem t_laws_eqVector (a_0 : GVector) (b_1 : GVector)   : Fn Go.Proofs.Try.prog 25 [.agg [.f .f32 a_0.X, .f .f32 a_0.Y, .f .f32 a_0.Z], .agg [.f .f32 b_1.X, .f .f32 b_1.Y, .f .f32 b_1.Z]] (.b (v_laws_eqVector a_0 b_1)) [] := by
  cases h0 : (v_laws_sameFloat (fcv .f32 .f64 a_0.X) (fcv .f32 .f64 b_1.X)) with
  | true =>
    cases h1 : (v_laws_sameFloat (fcv .f32 .f64 a_0.Y) (fcv .f32 .f64 b_1.Y)) with
    | true =>
      cases h2 : (v_laws_sameFloat (fcv .f32 .f64 a_0.Z) (fcv .f32 .f64 b_1.Z)) with
      | true =>
        exact Fn.cast (fn_of_ev E0Ok hMixed (c := bodyOf Go.Proofs.Try.f25) (r := .b true) (new := [])
          (ans := [.call (.b (v_laws_sameFloat (fcv .f32 .f64 a_0.X) (fcv .f32 .f64 b_1.X))) [], .bo false, .call (.b (v_laws_sameFloat (fcv .f32 .f64 a_0.Y) (fcv .f32 .f64 b_1.Y))) [], .bo false, .call (.b (v_laws_sameFloat (fcv .f32 .f64 a_0.Z) (fcv .f32 .f64 b_1.Z))) [], .bo false, .keep []])
          (C := [fcvOk .f32 .f64 a_0.X = true,
            fcvOk .f32 .f64 b_1.X = true,
            Fn Go.Proofs.Try.prog 17 [.f .f64 (fcv .f32 .f64 a_0.X), .f .f64 (fcv .f32 .f64 b_1.X)] (.b (v_laws_sameFloat (fcv .f32 .f64 a_0.X) (fcv .f32 .f64 b_1.X))) [],
            (!(v_laws_sameFloat (fcv .f32 .f64 a_0.X) (fcv .f32 .f64 b_1.X))) = false,
            fcvOk .f32 .f64 a_0.Y = true,
            fcvOk .f32 .f64 b_1.Y = true,
            Fn Go.Proofs.Try.prog 17 [.f .f64 (fcv .f32 .f64 a_0.Y), .f .f64 (fcv .f32 .f64 b_1.Y)] (.b (v_laws_sameFloat (fcv .f32 .f64 a_0.Y) (fcv .f32 .f64 b_1.Y))) [],
            (!(v_laws_sameFloat (fcv .f32 .f64 a_0.Y) (fcv .f32 .f64 b_1.Y))) = false,
            fcvOk .f32 .f64 a_0.Z = true,
            fcvOk .f32 .f64 b_1.Z = true,
            Fn Go.Proofs.Try.prog 17 [.f .f64 (fcv .f32 .f64 a_0.Z), .f .f64 (fcv .f32 .f64 b_1.Z)] (.b (v_laws_sameFloat (fcv .f32 .f64 a_0.Z) (fcv .f32 .f64 b_1.Z))) [],
            (!(v_laws_sameFloat (fcv .f32 .f64 a_0.Z) (fcv .f32 .f64 b_1.Z))) = false])
          Go.Proofs.Try.func25 rfl (by kernel_rfl) (by kernel_rfl)
          ⟨(widenOk _), (widenOk _), (t_laws_sameFloat (fcv .f32 .f64 a_0.X) (fcv .f32 .f64 b_1.X)), (congrArg not h0), (widenOk _), (widenOk _), (t_laws_sameFloat (fcv .f32 .f64 a_0.Y) (fcv .f32 .f64 b_1.Y)), (congrArg not h1), (widenOk _), (widenOk _), (t_laws_sameFloat (fcv .f32 .f64 a_0.Z) (fcv .f32 .f64 b_1.Z)), (congrArg not h2), trivial⟩) (by simp only [v_laws_eqVector, h0, h1, h2, cond_true]) rfl
      | false =>
        exact Fn.cast (fn_of_ev E0Ok hMixed (c := bodyOf Go.Proofs.Try.f25) (r := .b false) (new := [])
          (ans := [.call (.b (v_laws_sameFloat (fcv .f32 .f64 a_0.X) (fcv .f32 .f64 b_1.X))) [], .bo false, .call (.b (v_laws_sameFloat (fcv .f32 .f64 a_0.Y) (fcv .f32 .f64 b_1.Y))) [], .bo false, .call (.b (v_laws_sameFloat (fcv .f32 .f64 a_0.Z) (fcv .f32 .f64 b_1.Z))) [], .bo true, .keep []])
          (C := [fcvOk .f32 .f64 a_0.X = true,
            fcvOk .f32 .f64 b_1.X = true,
            Fn Go.Proofs.Try.prog 17 [.f .f64 (fcv .f32 .f64 a_0.X), .f .f64 (fcv .f32 .f64 b_1.X)] (.b (v_laws_sameFloat (fcv .f32 .f64 a_0.X) (fcv .f32 .f64 b_1.X))) [],
            (!(v_laws_sameFloat (fcv .f32 .f64 a_0.X) (fcv .f32 .f64 b_1.X))) = false,
            fcvOk .f32 .f64 a_0.Y = true,
            fcvOk .f32 .f64 b_1.Y = true,
            Fn Go.Proofs.Try.prog 17 [.f .f64 (fcv .f32 .f64 a_0.Y), .f .f64 (fcv .f32 .f64 b_1.Y)] (.b (v_laws_sameFloat (fcv .f32 .f64 a_0.Y) (fcv .f32 .f64 b_1.Y))) [],
            (!(v_laws_sameFloat (fcv .f32 .f64 a_0.Y) (fcv .f32 .f64 b_1.Y))) = false,
            fcvOk .f32 .f64 a_0.Z = true,
            fcvOk .f32 .f64 b_1.Z = true,
            Fn Go.Proofs.Try.prog 17 [.f .f64 (fcv .f32 .f64 a_0.Z), .f .f64 (fcv .f32 .f64 b_1.Z)] (.b (v_laws_sameFloat (fcv .f32 .f64 a_0.Z) (fcv .f32 .f64 b_1.Z))) [],
            (!(v_laws_sameFloat (fcv .f32 .f64 a_0.Z) (fcv .f32 .f64 b_1.Z))) = true])
          Go.Proofs.Try.func25 rfl (by kernel_rfl) (by kernel_rfl)
          ⟨(widenOk _), (widenOk _), (t_laws_sameFloat (fcv .f32 .f64 a_0.X) (fcv .f32 .f64 b_1.X)), (congrArg not h0), (widenOk _), (widenOk _), (t_laws_sameFloat (fcv .f32 .f64 a_0.Y) (fcv .f32 .f64 b_1.Y)), (congrArg not h1), (widenOk _), (widenOk _), (t_laws_sameFloat (fcv .f32 .f64 a_0.Z) (fcv .f32 .f64 b_1.Z)), (congrArg not h2), trivial⟩) (by simp only [v_laws_eqVector, h0, h1, h2, cond_true, cond_false]) rfl
    | false =>
      exact Fn.cast (fn_of_ev E0Ok hMixed (c := bodyOf Go.Proofs.Try.f25) (r := .b false) (new := [])
        (ans := [.call (.b (v_laws_sameFloat (fcv .f32 .f64 a_0.X) (fcv .f32 .f64 b_1.X))) [], .bo false, .call (.b (v_laws_sameFloat (fcv .f32 .f64 a_0.Y) (fcv .f32 .f64 b_1.Y))) [], .bo true, .keep []])
        (C := [fcvOk .f32 .f64 a_0.X = true,
          fcvOk .f32 .f64 b_1.X = true,
          Fn Go.Proofs.Try.prog 17 [.f .f64 (fcv .f32 .f64 a_0.X), .f .f64 (fcv .f32 .f64 b_1.X)] (.b (v_laws_sameFloat (fcv .f32 .f64 a_0.X) (fcv .f32 .f64 b_1.X))) [],
          (!(v_laws_sameFloat (fcv .f32 .f64 a_0.X) (fcv .f32 .f64 b_1.X))) = false,
          fcvOk .f32 .f64 a_0.Y = true,
          fcvOk .f32 .f64 b_1.Y = true,
          Fn Go.Proofs.Try.prog 17 [.f .f64 (fcv .f32 .f64 a_0.Y), .f .f64 (fcv .f32 .f64 b_1.Y)] (.b (v_laws_sameFloat (fcv .f32 .f64 a_0.Y) (fcv .f32 .f64 b_1.Y))) [],
          (!(v_laws_sameFloat (fcv .f32 .f64 a_0.Y) (fcv .f32 .f64 b_1.Y))) = true])
        Go.Proofs.Try.func25 rfl (by kernel_rfl) (by kernel_rfl)
        ⟨(widenOk _), (widenOk _), (t_laws_sameFloat (fcv .f32 .f64 a_0.X) (fcv .f32 .f64 b_1.X)), (congrArg not h0), (widenOk _), (widenOk _), (t_laws_sameFloat (fcv .f32 .f64 a_0.Y) (fcv .f32 .f64 b_1.Y)), (congrArg not h1), trivial⟩) (by simp only [v_laws_eqVector, h0, h1, cond_true, cond_false]) rfl
  | false =>
    exact Fn.cast (fn_of_ev E0Ok hMixed (c := bodyOf Go.Proofs.Try.f25) (r := .b false) (new := [])
      (ans := [.call (.b (v_laws_sameFloat (fcv .f32 .f64 a_0.X) (fcv .f32 .f64 b_1.X))) [], .bo true, .keep []])
      (C := [fcvOk .f32 .f64 a_0.X = true,
        fcvOk .f32 .f64 b_1.X = true,
        Fn Go.Proofs.Try.prog 17 [.f .f64 (fcv .f32 .f64 a_0.X), .f .f64 (fcv .f32 .f64 b_1.X)] (.b (v_laws_sameFloat (fcv .f32 .f64 a_0.X) (fcv .f32 .f64 b_1.X))) [],
        (!(v_laws_sameFloat (fcv .f32 .f64 a_0.X) (fcv .f32 .f64 b_1.X))) = true])
      Go.Proofs.Try.func25 rfl (by kernel_rfl) (by kernel_rfl)
      ⟨(widenOk _), (widenOk _), (t_laws_sameFloat (fcv .f32 .f64 a_0.X) (fcv .f32 .f64 b_1.X)), (congrArg not h0), trivial⟩) (by simp only [v_laws_eqVector, h0, cond_false]) rfl

theorem eqVector_self (a : GVector) : v_laws_eqVector a a = true := by
  simp [v_laws_eqVector, same_self]

def lo_laws_eqVectorS_1 (a_0 : (List GVector)) (b_1 : (List GVector)) : Nat → Int → (Unit) ⊕ (Unit)
  | 0, _ => .inl default
  | k + 1, i_l0 => (cond (decide (i_l0 < (a_0.length : Int)))
    (cond (v_laws_eqVector (a_0.getD i_l0.toNat default) (b_1.getD i_l0.toNat default))
      (lo_laws_eqVectorS_1 a_0 b_1 k (i_l0 + 1))
      (.inl ()))
    (.inr ()))

def ls_laws_eqVectorS_1 (a_0 : (List GVector)) (b_1 : (List GVector)) : (Unit) ⊕ (Unit) → Ex × St
  | .inl r => (.ret, ⟨[.any, .any, .any, .any, .b false, .any, .any, .any, .any, .any, .any, .any, .any, .any, .any, .any, .any, .any, .any, .any, .any, .any, .any, .any, .any, .any, .any], []⟩)
  | .inr r => ((.exit 0), ⟨[.sl (a_0.map GVector.cells), .sl (b_1.map GVector.cells), .any, .any, .any, .any, .sl (a_0.map GVector.cells), .i .i64 (a_0.length : Int), .sl (b_1.map GVector.cells), .i .i64 (b_1.length : Int), .b ((a_0.length : Int) != (b_1.length : Int)), .any, .any, .any, .any, .any, .any, .any, .any, .any, .any, .any, .any, .any, .any, .any, .any], []⟩)

theorem lp_laws_eqVectorS_1 (a_0 : (List GVector)) (b_1 : (List GVector)) (hp0 : a_0.length ≤ 1073741824) (hp1 : b_1.length ≤ 1073741824) (hf_laws_eqVectorS_1_0 : ((a_0.length : Int) != (b_1.length : Int)) = false) : ∀ (k : Nat) (i_l0 : Int) (hv_laws_eqVectorS_1_0 : 0 ≤ i_l0) (hk : ((a_0.length : Int) - i_l0).toNat < k), Lp Go.Proofs.Try.prog (sub (bodyOf Go.Proofs.Try.f26) [1, 1, 0, 1, 0, 0]) ⟨[.sl (a_0.map GVector.cells), .sl (b_1.map GVector.cells), .any, .any, .any, .i .i64 i_l0, .sl (a_0.map GVector.cells), .i .i64 (a_0.length : Int), .sl (b_1.map GVector.cells), .i .i64 (b_1.length : Int), .b ((a_0.length : Int) != (b_1.length : Int)), .any, .any, .any, .any, .any, .any, .any, .any, .any, .any, .any, .any, .any, .any, .any, .any], []⟩ (ls_laws_eqVectorS_1 a_0 b_1 (lo_laws_eqVectorS_1 a_0 b_1 k i_l0)).1 (ls_laws_eqVectorS_1 a_0 b_1 (lo_laws_eqVectorS_1 a_0 b_1 k i_l0)).2 := by
  intro k
  induction k with
  | zero => intro i_l0 hv_laws_eqVectorS_1_0 hk; exact absurd hk (Nat.not_lt_zero _)
  | succ k ih =>
    intro i_l0 hv_laws_eqVectorS_1_0 hk
    cases h_0 : (decide (i_l0 < (a_0.length : Int))) with
    | true =>
      cases h_1 : (v_laws_eqVector (a_0.getD i_l0.toNat default) (b_1.getD i_l0.toNat default)) with
      | true =>
        have e : lo_laws_eqVectorS_1 a_0 b_1 (k + 1) i_l0 = (lo_laws_eqVectorS_1 a_0 b_1 k (i_l0 + 1)) := by simp only [lo_laws_eqVectorS_1, h_0, h_1, cond_true]
        rw [e]
        exact step_next E0Ok hMixed (body := (sub (bodyOf Go.Proofs.Try.f26) [1, 1, 0, 1, 0, 0])) (st := ⟨[.sl (a_0.map GVector.cells), .sl (b_1.map GVector.cells), .any, .any, .any, .i .i64 i_l0, .sl (a_0.map GVector.cells), .i .i64 (a_0.length : Int), .sl (b_1.map GVector.cells), .i .i64 (b_1.length : Int), .b ((a_0.length : Int) != (b_1.length : Int)), .any, .any, .any, .any, .any, .any, .any, .any, .any, .any, .any, .any, .any, .any, .any, .any], []⟩)
          (st2 := ⟨[.sl (a_0.map GVector.cells), .sl (b_1.map GVector.cells), .any, .any, .any, .i .i64 (i_l0 + 1), .sl (a_0.map GVector.cells), .i .i64 (a_0.length : Int), .sl (b_1.map GVector.cells), .i .i64 (b_1.length : Int), .b ((a_0.length : Int) != (b_1.length : Int)), .any, .any, .any, .any, .any, .any, .any, .any, .any, .any, .any, .any, .any, .any, .any, .any], []⟩)
          (ans := [.num (a_0.length : Int), .bo true, .keep [8, 8], .el [.f .f32 ((a_0.getD i_l0.toNat default).X), .f .f32 ((a_0.getD i_l0.toNat default).Y), .f .f32 ((a_0.getD i_l0.toNat default).Z)], .el [.f .f32 ((b_1.getD i_l0.toNat default).X), .f .f32 ((b_1.getD i_l0.toNat default).Y), .f .f32 ((b_1.getD i_l0.toNat default).Z)], .call (.b (v_laws_eqVector (a_0.getD i_l0.toNat default) (b_1.getD i_l0.toNat default))) [], .bo false, .num (i_l0 + 1)])
          (mask := [true, true, false, false, false, true, true, true, true, true, true, false, false, false, false, false, false, false, false, false, false, false, false, false, false, false, false]) (n := 0)
          (C := [(((a_0.map GVector.cells).length : Nat) : Int) = (a_0.length : Int),
            (decide (i_l0 < (a_0.length : Int))) = true,
            0 ≤ i_l0 ∧ (a_0.map GVector.cells)[Int.toNat i_l0]? = some [.f .f32 ((a_0.getD i_l0.toNat default).X), .f .f32 ((a_0.getD i_l0.toNat default).Y), .f .f32 ((a_0.getD i_l0.toNat default).Z)],
            0 ≤ i_l0 ∧ (b_1.map GVector.cells)[Int.toNat i_l0]? = some [.f .f32 ((b_1.getD i_l0.toNat default).X), .f .f32 ((b_1.getD i_l0.toNat default).Y), .f .f32 ((b_1.getD i_l0.toNat default).Z)],
            Fn Go.Proofs.Try.prog 25 [.agg [.f .f32 ((a_0.getD i_l0.toNat default).X), .f .f32 ((a_0.getD i_l0.toNat default).Y), .f .f32 ((a_0.getD i_l0.toNat default).Z)], .agg [.f .f32 ((b_1.getD i_l0.toNat default).X), .f .f32 ((b_1.getD i_l0.toNat default).Y), .f .f32 ((b_1.getD i_l0.toNat default).Z)]] (.b (v_laws_eqVector (a_0.getD i_l0.toNat default) (b_1.getD i_l0.toNat default))) [],
            (!(v_laws_eqVector (a_0.getD i_l0.toNat default) (b_1.getD i_l0.toNat default))) = false,
            IntKind.wrap .i64 (i_l0 + 1) = (i_l0 + 1)])
          (by kernel_rfl)
          ⟨len_ok, h_0, (get_ok (by first | assumption | omega | (simp at * <;> omega) | (simp_all <;> omega)) (by first | assumption | omega | (simp at * <;> omega) | (simp_all <;> omega))), (get_ok (by first | assumption | omega | (simp at * <;> omega) | (simp_all <;> omega)) (by first | assumption | omega | (simp at * <;> omega) | (simp_all <;> omega))), (t_laws_eqVector (a_0.getD i_l0.toNat default) (b_1.getD i_l0.toNat default)), (congrArg not h_1), (wrap_id (by first | assumption | omega | (simp at * <;> omega) | (simp_all <;> omega)) (by first | assumption | omega | (simp at * <;> omega) | (simp_all <;> omega))), trivial⟩
          rfl (ih (i_l0 + 1) (show 0 ≤ (i_l0 + 1) from (by first | assumption | omega | (simp at * <;> omega) | (simp_all <;> omega))) (by first | assumption | omega | (simp at * <;> omega) | (simp_all <;> omega)))
      | false =>
        have e : lo_laws_eqVectorS_1 a_0 b_1 (k + 1) i_l0 = (.inl ()) := by simp only [lo_laws_eqVectorS_1, h_0, h_1, cond_true, cond_false]
        rw [e]
        exact step_out E0Ok hMixed (e := .ret) (body := (sub (bodyOf Go.Proofs.Try.f26) [1, 1, 0, 1, 0, 0])) (st := ⟨[.sl (a_0.map GVector.cells), .sl (b_1.map GVector.cells), .any, .any, .any, .i .i64 i_l0, .sl (a_0.map GVector.cells), .i .i64 (a_0.length : Int), .sl (b_1.map GVector.cells), .i .i64 (b_1.length : Int), .b ((a_0.length : Int) != (b_1.length : Int)), .any, .any, .any, .any, .any, .any, .any, .any, .any, .any, .any, .any, .any, .any, .any, .any], []⟩)
          (st2 := ⟨[.any, .any, .any, .any, .b false, .any, .any, .any, .any, .any, .any, .any, .any, .any, .any, .any, .any, .any, .any, .any, .any, .any, .any, .any, .any, .any, .any], []⟩)
          (ans := [.num (a_0.length : Int), .bo true, .keep [8, 8], .el [.f .f32 ((a_0.getD i_l0.toNat default).X), .f .f32 ((a_0.getD i_l0.toNat default).Y), .f .f32 ((a_0.getD i_l0.toNat default).Z)], .el [.f .f32 ((b_1.getD i_l0.toNat default).X), .f .f32 ((b_1.getD i_l0.toNat default).Y), .f .f32 ((b_1.getD i_l0.toNat default).Z)], .call (.b (v_laws_eqVector (a_0.getD i_l0.toNat default) (b_1.getD i_l0.toNat default))) [], .bo true])
          (mask := [false, false, false, false, true, false, false, false, false, false, false, false, false, false, false, false, false, false, false, false, false, false, false, false, false, false, false]) (n := 0)
          (C := [(((a_0.map GVector.cells).length : Nat) : Int) = (a_0.length : Int),
            (decide (i_l0 < (a_0.length : Int))) = true,
            0 ≤ i_l0 ∧ (a_0.map GVector.cells)[Int.toNat i_l0]? = some [.f .f32 ((a_0.getD i_l0.toNat default).X), .f .f32 ((a_0.getD i_l0.toNat default).Y), .f .f32 ((a_0.getD i_l0.toNat default).Z)],
            0 ≤ i_l0 ∧ (b_1.map GVector.cells)[Int.toNat i_l0]? = some [.f .f32 ((b_1.getD i_l0.toNat default).X), .f .f32 ((b_1.getD i_l0.toNat default).Y), .f .f32 ((b_1.getD i_l0.toNat default).Z)],
            Fn Go.Proofs.Try.prog 25 [.agg [.f .f32 ((a_0.getD i_l0.toNat default).X), .f .f32 ((a_0.getD i_l0.toNat default).Y), .f .f32 ((a_0.getD i_l0.toNat default).Z)], .agg [.f .f32 ((b_1.getD i_l0.toNat default).X), .f .f32 ((b_1.getD i_l0.toNat default).Y), .f .f32 ((b_1.getD i_l0.toNat default).Z)]] (.b (v_laws_eqVector (a_0.getD i_l0.toNat default) (b_1.getD i_l0.toNat default))) [],
            (!(v_laws_eqVector (a_0.getD i_l0.toNat default) (b_1.getD i_l0.toNat default))) = true])
          (by kernel_rfl)
          ⟨len_ok, h_0, (get_ok (by first | assumption | omega | (simp at * <;> omega) | (simp_all <;> omega)) (by first | assumption | omega | (simp at * <;> omega) | (simp_all <;> omega))), (get_ok (by first | assumption | omega | (simp at * <;> omega) | (simp_all <;> omega)) (by first | assumption | omega | (simp at * <;> omega) | (simp_all <;> omega))), (t_laws_eqVector (a_0.getD i_l0.toNat default) (b_1.getD i_l0.toNat default)), (congrArg not h_1), trivial⟩
          (by intro h; cases h) rfl
    | false =>
      have e : lo_laws_eqVectorS_1 a_0 b_1 (k + 1) i_l0 = (.inr ()) := by simp only [lo_laws_eqVectorS_1, h_0, cond_false]
      rw [e]
      exact step_out E0Ok hMixed (e := (.exit 0)) (body := (sub (bodyOf Go.Proofs.Try.f26) [1, 1, 0, 1, 0, 0])) (st := ⟨[.sl (a_0.map GVector.cells), .sl (b_1.map GVector.cells), .any, .any, .any, .i .i64 i_l0, .sl (a_0.map GVector.cells), .i .i64 (a_0.length : Int), .sl (b_1.map GVector.cells), .i .i64 (b_1.length : Int), .b ((a_0.length : Int) != (b_1.length : Int)), .any, .any, .any, .any, .any, .any, .any, .any, .any, .any, .any, .any, .any, .any, .any, .any], []⟩)
        (st2 := ⟨[.sl (a_0.map GVector.cells), .sl (b_1.map GVector.cells), .any, .any, .any, .any, .sl (a_0.map GVector.cells), .i .i64 (a_0.length : Int), .sl (b_1.map GVector.cells), .i .i64 (b_1.length : Int), .b ((a_0.length : Int) != (b_1.length : Int)), .any, .any, .any, .any, .any, .any, .any, .any, .any, .any, .any, .any, .any, .any, .any, .any], []⟩)
        (ans := [.num (a_0.length : Int), .bo false])
        (mask := [true, true, false, false, false, false, true, true, true, true, true, false, false, false, false, false, false, false, false, false, false, false, false, false, false, false, false]) (n := 0)
        (C := [(((a_0.map GVector.cells).length : Nat) : Int) = (a_0.length : Int),
          (decide (i_l0 < (a_0.length : Int))) = false])
        (by kernel_rfl)
        ⟨len_ok, h_0, trivial⟩
        (by intro h; cases h) rfl

def lr_laws_eqVectorS_1_0 (a_0 : (List GVector)) (b_1 : (List GVector)) : (Unit) ⊕ (Unit) := (lo_laws_eqVectorS_1 a_0 b_1 (((a_0.length : Int) - 0).toNat + 1) 0)

/-- laws.eqVectorS -/
def v_laws_eqVectorS (a_0 : (List GVector)) (b_1 : (List GVector)) : Bool := (cond ((a_0.length : Int) != (b_1.length : Int))
  false
  (match (lr_laws_eqVectorS_1_0 a_0 b_1) with
    | .inl r2 => false
    | .inr r2 => true))

theorem t_laws_eqVectorS (a_0 : (List GVector)) (b_1 : (List GVector)) (hp0 : a_0.length ≤ 1073741824) (hp1 : b_1.length ≤ 1073741824)  : Fn Go.Proofs.Try.prog 26 [.sl (a_0.map GVector.cells), .sl (b_1.map GVector.cells)] (.b (v_laws_eqVectorS a_0 b_1)) [] := by
  cases h0 : ((a_0.length : Int) != (b_1.length : Int)) with
  | true =>
    exact Fn.cast (fn_of_ev E0Ok hMixed (c := bodyOf Go.Proofs.Try.f26) (r := .b false) (new := [])
      (ans := [.num (a_0.length : Int), .num (b_1.length : Int), .bo true, .keep []])
      (C := [(((a_0.map GVector.cells).length : Nat) : Int) = (a_0.length : Int),
        (((b_1.map GVector.cells).length : Nat) : Int) = (b_1.length : Int),
        ((a_0.length : Int) != (b_1.length : Int)) = true])
      Go.Proofs.Try.func26 rfl (by kernel_rfl) (by kernel_rfl)
      ⟨len_ok, len_ok, h0, trivial⟩) (by simp only [v_laws_eqVectorS, h0, cond_true]) rfl
  | false =>
    cases h1 : (lr_laws_eqVectorS_1_0 a_0 b_1) with
    | inl r2 =>
      exact Fn.cast (fn_of_ev E0Ok hMixed (c := bodyOf Go.Proofs.Try.f26) (r := .b false) (new := [])
        (ans := [.num (a_0.length : Int), .num (b_1.length : Int), .bo false, .loop [true, true, false, false, false, true, true, true, true, true, true, false, false, false, false, false, false, false, false, false, false, false, false, false, false, false, false] 0 .ret ⟨[.any, .any, .any, .any, .b false, .any, .any, .any, .any, .any, .any, .any, .any, .any, .any, .any, .any, .any, .any, .any, .any, .any, .any, .any, .any, .any, .any], []⟩, .keep []])
        (C := [(((a_0.map GVector.cells).length : Nat) : Int) = (a_0.length : Int),
          (((b_1.map GVector.cells).length : Nat) : Int) = (b_1.length : Int),
          ((a_0.length : Int) != (b_1.length : Int)) = false,
          Lp Go.Proofs.Try.prog (sub (bodyOf Go.Proofs.Try.f26) [1, 1, 0, 1, 0, 0]) ⟨[.sl (a_0.map GVector.cells), .sl (b_1.map GVector.cells), .any, .any, .any, .i .i64 0, .sl (a_0.map GVector.cells), .i .i64 (a_0.length : Int), .sl (b_1.map GVector.cells), .i .i64 (b_1.length : Int), .b ((a_0.length : Int) != (b_1.length : Int)), .any, .any, .any, .any, .any, .any, .any, .any, .any, .any, .any, .any, .any, .any, .any, .any], []⟩ .ret ⟨[.any, .any, .any, .any, .b false, .any, .any, .any, .any, .any, .any, .any, .any, .any, .any, .any, .any, .any, .any, .any, .any, .any, .any, .any, .any, .any, .any], []⟩])
        Go.Proofs.Try.func26 rfl (by kernel_rfl) (by kernel_rfl)
        ⟨len_ok, len_ok, h0, (by have q := (lp_laws_eqVectorS_1 a_0 b_1 hp0 hp1 h0 (((a_0.length : Int) - 0).toNat + 1) 0 (show 0 ≤ 0 from (by first | assumption | omega | (simp at * <;> omega) | (simp_all <;> omega))) (Nat.lt_succ_self _)); rw [show (lo_laws_eqVectorS_1 a_0 b_1 (((a_0.length : Int) - 0).toNat + 1) 0) = _ from rfl] at q; rw [show (lo_laws_eqVectorS_1 a_0 b_1 (((a_0.length : Int) - 0).toNat + 1) 0) = (lr_laws_eqVectorS_1_0 a_0 b_1) from rfl, h1] at q; exact q), trivial⟩) (by simp only [v_laws_eqVectorS, h0, h1, cond_false]) rfl
    | inr r2 =>
      exact Fn.cast (fn_of_ev E0Ok hMixed (c := bodyOf Go.Proofs.Try.f26) (r := .b true) (new := [])
        (ans := [.num (a_0.length : Int), .num (b_1.length : Int), .bo false, .loop [true, true, false, false, false, true, true, true, true, true, true, false, false, false, false, false, false, false, false, false, false, false, false, false, false, false, false] 0 (.exit 0) ⟨[.sl (a_0.map GVector.cells), .sl (b_1.map GVector.cells), .any, .any, .any, .any, .sl (a_0.map GVector.cells), .i .i64 (a_0.length : Int), .sl (b_1.map GVector.cells), .i .i64 (b_1.length : Int), .b ((a_0.length : Int) != (b_1.length : Int)), .any, .any, .any, .any, .any, .any, .any, .any, .any, .any, .any, .any, .any, .any, .any, .any], []⟩, .keep []])
        (C := [(((a_0.map GVector.cells).length : Nat) : Int) = (a_0.length : Int),
          (((b_1.map GVector.cells).length : Nat) : Int) = (b_1.length : Int),
          ((a_0.length : Int) != (b_1.length : Int)) = false,
          Lp Go.Proofs.Try.prog (sub (bodyOf Go.Proofs.Try.f26) [1, 1, 0, 1, 0, 0]) ⟨[.sl (a_0.map GVector.cells), .sl (b_1.map GVector.cells), .any, .any, .any, .i .i64 0, .sl (a_0.map GVector.cells), .i .i64 (a_0.length : Int), .sl (b_1.map GVector.cells), .i .i64 (b_1.length : Int), .b ((a_0.length : Int) != (b_1.length : Int)), .any, .any, .any, .any, .any, .any, .any, .any, .any, .any, .any, .any, .any, .any, .any, .any], []⟩ (.exit 0) ⟨[.sl (a_0.map GVector.cells), .sl (b_1.map GVector.cells), .any, .any, .any, .any, .sl (a_0.map GVector.cells), .i .i64 (a_0.length : Int), .sl (b_1.map GVector.cells), .i .i64 (b_1.length : Int), .b ((a_0.length : Int) != (b_1.length : Int)), .any, .any, .any, .any, .any, .any, .any, .any, .any, .any, .any, .any, .any, .any, .any, .any], []⟩])
        Go.Proofs.Try.func26 rfl (by kernel_rfl) (by kernel_rfl)
        ⟨len_ok, len_ok, h0, (by have q := (lp_laws_eqVectorS_1 a_0 b_1 hp0 hp1 h0 (((a_0.length : Int) - 0).toNat + 1) 0 (show 0 ≤ 0 from (by first | assumption | omega | (simp at * <;> omega) | (simp_all <;> omega))) (Nat.lt_succ_self _)); rw [show (lo_laws_eqVectorS_1 a_0 b_1 (((a_0.length : Int) - 0).toNat + 1) 0) = _ from rfl] at q; rw [show (lo_laws_eqVectorS_1 a_0 b_1 (((a_0.length : Int) - 0).toNat + 1) 0) = (lr_laws_eqVectorS_1_0 a_0 b_1) from rfl, h1] at q; exact q), trivial⟩) (by simp only [v_laws_eqVectorS, h0, h1, cond_false]) rfl

theorem eqVectorS_self (a : List GVector) : v_laws_eqVectorS a a = true := by
  unfold v_laws_eqVectorS lr_laws_eqVectorS_1_0
  rw [all_loop (a := a) (p := fun v => v_laws_eqVector v v) (lo := lo_laws_eqVectorS_1 a a) (x := ()) (y := ()) (fun k i => rfl) (fun v _ => eqVector_self v) _ _ (Int.le_refl 0) (Nat.lt_succ_self _)]
  simp

def lo_laws_eqInt64S_1 (a_0 : (List Int)) (b_1 : (List Int)) : Nat → Int → (Unit) ⊕ (Unit)
  | 0, _ => .inl default
  | k + 1, i_l0 => (cond (decide (i_l0 < (a_0.length : Int)))
    (cond ((a_0.getD i_l0.toNat default) != (b_1.getD i_l0.toNat default))
      (.inl ())
      (lo_laws_eqInt64S_1 a_0 b_1 k (i_l0 + 1)))
    (.inr ()))

def ls_laws_eqInt64S_1 (a_0 : (List Int)) (b_1 : (List Int)) : (Unit) ⊕ (Unit) → Ex × St
  | .inl r => (.ret, ⟨[.any, .any, .any, .any, .b false, .any, .any, .any, .any, .any, .any, .any, .any, .any, .any, .any, .any, .any, .any, .any, .any, .any, .any, .any, .any, .any], []⟩)
  | .inr r => ((.exit 0), ⟨[.sl (a_0.map (cI .i64)), .sl (b_1.map (cI .i64)), .any, .any, .any, .any, .sl (a_0.map (cI .i64)), .i .i64 (a_0.length : Int), .sl (b_1.map (cI .i64)), .i .i64 (b_1.length : Int), .b ((a_0.length : Int) != (b_1.length : Int)), .any, .any, .any, .any, .any, .any, .any, .any, .any, .any, .any, .any, .any, .any, .any], []⟩)

theorem lp_laws_eqInt64S_1 (a_0 : (List Int)) (b_1 : (List Int)) (hp0 : a_0.length ≤ 1073741824) (hp1 : b_1.length ≤ 1073741824) (hf_laws_eqInt64S_1_0 : ((a_0.length : Int) != (b_1.length : Int)) = false) : ∀ (k : Nat) (i_l0 : Int) (hv_laws_eqInt64S_1_0 : 0 ≤ i_l0) (hk : ((a_0.length : Int) - i_l0).toNat < k), Lp Go.Proofs.Try.prog (sub (bodyOf Go.Proofs.Try.f100) [1, 1, 0, 1, 0, 0]) ⟨[.sl (a_0.map (cI .i64)), .sl (b_1.map (cI .i64)), .any, .any, .any, .i .i64 i_l0, .sl (a_0.map (cI .i64)), .i .i64 (a_0.length : Int), .sl (b_1.map (cI .i64)), .i .i64 (b_1.length : Int), .b ((a_0.length : Int) != (b_1.length : Int)), .any, .any, .any, .any, .any, .any, .any, .any, .any, .any, .any, .any, .any, .any, .any], []⟩ (ls_laws_eqInt64S_1 a_0 b_1 (lo_laws_eqInt64S_1 a_0 b_1 k i_l0)).1 (ls_laws_eqInt64S_1 a_0 b_1 (lo_laws_eqInt64S_1 a_0 b_1 k i_l0)).2 := by
  intro k
  induction k with
  | zero => intro i_l0 hv_laws_eqInt64S_1_0 hk; exact absurd hk (Nat.not_lt_zero _)
  | succ k ih =>
    intro i_l0 hv_laws_eqInt64S_1_0 hk
    cases h_0 : (decide (i_l0 < (a_0.length : Int))) with
    | true =>
      cases h_1 : ((a_0.getD i_l0.toNat default) != (b_1.getD i_l0.toNat default)) with
      | true =>
        have e : lo_laws_eqInt64S_1 a_0 b_1 (k + 1) i_l0 = (.inl ()) := by simp only [lo_laws_eqInt64S_1, h_0, h_1, cond_true]
        rw [e]
        exact step_out E0Ok hMixed (e := .ret) (body := (sub (bodyOf Go.Proofs.Try.f100) [1, 1, 0, 1, 0, 0])) (st := ⟨[.sl (a_0.map (cI .i64)), .sl (b_1.map (cI .i64)), .any, .any, .any, .i .i64 i_l0, .sl (a_0.map (cI .i64)), .i .i64 (a_0.length : Int), .sl (b_1.map (cI .i64)), .i .i64 (b_1.length : Int), .b ((a_0.length : Int) != (b_1.length : Int)), .any, .any, .any, .any, .any, .any, .any, .any, .any, .any, .any, .any, .any, .any, .any], []⟩)
          (st2 := ⟨[.any, .any, .any, .any, .b false, .any, .any, .any, .any, .any, .any, .any, .any, .any, .any, .any, .any, .any, .any, .any, .any, .any, .any, .any, .any, .any], []⟩)
          (ans := [.num (a_0.length : Int), .bo true, .keep [8, 8], .el [.i .i64 (a_0.getD i_l0.toNat default)], .el [.i .i64 (b_1.getD i_l0.toNat default)], .bo true])
          (mask := [false, false, false, false, true, false, false, false, false, false, false, false, false, false, false, false, false, false, false, false, false, false, false, false, false, false]) (n := 0)
          (C := [(((a_0.map (cI .i64)).length : Nat) : Int) = (a_0.length : Int),
            (decide (i_l0 < (a_0.length : Int))) = true,
            0 ≤ i_l0 ∧ (a_0.map (cI .i64))[Int.toNat i_l0]? = some [.i .i64 (a_0.getD i_l0.toNat default)],
            0 ≤ i_l0 ∧ (b_1.map (cI .i64))[Int.toNat i_l0]? = some [.i .i64 (b_1.getD i_l0.toNat default)],
            ((a_0.getD i_l0.toNat default) != (b_1.getD i_l0.toNat default)) = true])
          (by kernel_rfl)
          ⟨len_ok, h_0, (get_ok (by first | assumption | omega | (simp at * <;> omega) | (simp_all <;> omega)) (by first | assumption | omega | (simp at * <;> omega) | (simp_all <;> omega))), (get_ok (by first | assumption | omega | (simp at * <;> omega) | (simp_all <;> omega)) (by first | assumption | omega | (simp at * <;> omega) | (simp_all <;> omega))), h_1, trivial⟩
          (by intro h; cases h) rfl
      | false =>
        have e : lo_laws_eqInt64S_1 a_0 b_1 (k + 1) i_l0 = (lo_laws_eqInt64S_1 a_0 b_1 k (i_l0 + 1)) := by simp only [lo_laws_eqInt64S_1, h_0, h_1, cond_true, cond_false]
        rw [e]
        exact step_next E0Ok hMixed (body := (sub (bodyOf Go.Proofs.Try.f100) [1, 1, 0, 1, 0, 0])) (st := ⟨[.sl (a_0.map (cI .i64)), .sl (b_1.map (cI .i64)), .any, .any, .any, .i .i64 i_l0, .sl (a_0.map (cI .i64)), .i .i64 (a_0.length : Int), .sl (b_1.map (cI .i64)), .i .i64 (b_1.length : Int), .b ((a_0.length : Int) != (b_1.length : Int)), .any, .any, .any, .any, .any, .any, .any, .any, .any, .any, .any, .any, .any, .any, .any], []⟩)
          (st2 := ⟨[.sl (a_0.map (cI .i64)), .sl (b_1.map (cI .i64)), .any, .any, .any, .i .i64 (i_l0 + 1), .sl (a_0.map (cI .i64)), .i .i64 (a_0.length : Int), .sl (b_1.map (cI .i64)), .i .i64 (b_1.length : Int), .b ((a_0.length : Int) != (b_1.length : Int)), .any, .any, .any, .any, .any, .any, .any, .any, .any, .any, .any, .any, .any, .any, .any], []⟩)
          (ans := [.num (a_0.length : Int), .bo true, .keep [8, 8], .el [.i .i64 (a_0.getD i_l0.toNat default)], .el [.i .i64 (b_1.getD i_l0.toNat default)], .bo false, .num (i_l0 + 1)])
          (mask := [true, true, false, false, false, true, true, true, true, true, true, false, false, false, false, false, false, false, false, false, false, false, false, false, false, false]) (n := 0)
          (C := [(((a_0.map (cI .i64)).length : Nat) : Int) = (a_0.length : Int),
            (decide (i_l0 < (a_0.length : Int))) = true,
            0 ≤ i_l0 ∧ (a_0.map (cI .i64))[Int.toNat i_l0]? = some [.i .i64 (a_0.getD i_l0.toNat default)],
            0 ≤ i_l0 ∧ (b_1.map (cI .i64))[Int.toNat i_l0]? = some [.i .i64 (b_1.getD i_l0.toNat default)],
            ((a_0.getD i_l0.toNat default) != (b_1.getD i_l0.toNat default)) = false,
            IntKind.wrap .i64 (i_l0 + 1) = (i_l0 + 1)])
          (by kernel_rfl)
          ⟨len_ok, h_0, (get_ok (by first | assumption | omega | (simp at * <;> omega) | (simp_all <;> omega)) (by first | assumption | omega | (simp at * <;> omega) | (simp_all <;> omega))), (get_ok (by first | assumption | omega | (simp at * <;> omega) | (simp_all <;> omega)) (by first | assumption | omega | (simp at * <;> omega) | (simp_all <;> omega))), h_1, (wrap_id (by first | assumption | omega | (simp at * <;> omega) | (simp_all <;> omega)) (by first | assumption | omega | (simp at * <;> omega) | (simp_all <;> omega))), trivial⟩
          rfl (ih (i_l0 + 1) (show 0 ≤ (i_l0 + 1) from (by first | assumption | omega | (simp at * <;> omega) | (simp_all <;> omega))) (by first | assumption | omega | (simp at * <;> omega) | (simp_all <;> omega)))
    | false =>
      have e : lo_laws_eqInt64S_1 a_0 b_1 (k + 1) i_l0 = (.inr ()) := by simp only [lo_laws_eqInt64S_1, h_0, cond_false]
      rw [e]
      exact step_out E0Ok hMixed (e := (.exit 0)) (body := (sub (bodyOf Go.Proofs.Try.f100) [1, 1, 0, 1, 0, 0])) (st := ⟨[.sl (a_0.map (cI .i64)), .sl (b_1.map (cI .i64)), .any, .any, .any, .i .i64 i_l0, .sl (a_0.map (cI .i64)), .i .i64 (a_0.length : Int), .sl (b_1.map (cI .i64)), .i .i64 (b_1.length : Int), .b ((a_0.length : Int) != (b_1.length : Int)), .any, .any, .any, .any, .any, .any, .any, .any, .any, .any, .any, .any, .any, .any, .any], []⟩)
        (st2 := ⟨[.sl (a_0.map (cI .i64)), .sl (b_1.map (cI .i64)), .any, .any, .any, .any, .sl (a_0.map (cI .i64)), .i .i64 (a_0.length : Int), .sl (b_1.map (cI .i64)), .i .i64 (b_1.length : Int), .b ((a_0.length : Int) != (b_1.length : Int)), .any, .any, .any, .any, .any, .any, .any, .any, .any, .any, .any, .any, .any, .any, .any], []⟩)
        (ans := [.num (a_0.length : Int), .bo false])
        (mask := [true, true, false, false, false, false, true, true, true, true, true, false, false, false, false, false, false, false, false, false, false, false, false, false, false, false]) (n := 0)
        (C := [(((a_0.map (cI .i64)).length : Nat) : Int) = (a_0.length : Int),
          (decide (i_l0 < (a_0.length : Int))) = false])
        (by kernel_rfl)
        ⟨len_ok, h_0, trivial⟩
        (by intro h; cases h) rfl

def lr_laws_eqInt64S_1_0 (a_0 : (List Int)) (b_1 : (List Int)) : (Unit) ⊕ (Unit) := (lo_laws_eqInt64S_1 a_0 b_1 (((a_0.length : Int) - 0).toNat + 1) 0)

/-- laws.eqInt64S -/
def v_laws_eqInt64S (a_0 : (List Int)) (b_1 : (List Int)) : Bool := (cond ((a_0.length : Int) != (b_1.length : Int))
  false
  (match (lr_laws_eqInt64S_1_0 a_0 b_1) with
    | .inl r2 => false
    | .inr r2 => true))

theorem t_laws_eqInt64S (a_0 : (List Int)) (b_1 : (List Int)) (hp0 : a_0.length ≤ 1073741824) (hp1 : b_1.length ≤ 1073741824)  : Fn Go.Proofs.Try.prog 100 [.sl (a_0.map (cI .i64)), .sl (b_1.map (cI .i64))] (.b (v_laws_eqInt64S a_0 b_1)) [] := by
  cases h0 : ((a_0.length : Int) != (b_1.length : Int)) with
  | true =>
    exact Fn.cast (fn_of_ev E0Ok hMixed (c := bodyOf Go.Proofs.Try.f100) (r := .b false) (new := [])
      (ans := [.num (a_0.length : Int), .num (b_1.length : Int), .bo true, .keep []])
      (C := [(((a_0.map (cI .i64)).length : Nat) : Int) = (a_0.length : Int),
        (((b_1.map (cI .i64)).length : Nat) : Int) = (b_1.length : Int),
        ((a_0.length : Int) != (b_1.length : Int)) = true])
      Go.Proofs.Try.func100 rfl (by kernel_rfl) (by kernel_rfl)
      ⟨len_ok, len_ok, h0, trivial⟩) (by simp only [v_laws_eqInt64S, h0, cond_true]) rfl
  | false =>
    cases h1 : (lr_laws_eqInt64S_1_0 a_0 b_1) with
    | inl r2 =>
      exact Fn.cast (fn_of_ev E0Ok hMixed (c := bodyOf Go.Proofs.Try.f100) (r := .b false) (new := [])
        (ans := [.num (a_0.length : Int), .num (b_1.length : Int), .bo false, .loop [true, true, false, false, false, true, true, true, true, true, true, false, false, false, false, false, false, false, false, false, false, false, false, false, false, false] 0 .ret ⟨[.any, .any, .any, .any, .b false, .any, .any, .any, .any, .any, .any, .any, .any, .any, .any, .any, .any, .any, .any, .any, .any, .any, .any, .any, .any, .any], []⟩, .keep []])
        (C := [(((a_0.map (cI .i64)).length : Nat) : Int) = (a_0.length : Int),
          (((b_1.map (cI .i64)).length : Nat) : Int) = (b_1.length : Int),
          ((a_0.length : Int) != (b_1.length : Int)) = false,
          Lp Go.Proofs.Try.prog (sub (bodyOf Go.Proofs.Try.f100) [1, 1, 0, 1, 0, 0]) ⟨[.sl (a_0.map (cI .i64)), .sl (b_1.map (cI .i64)), .any, .any, .any, .i .i64 0, .sl (a_0.map (cI .i64)), .i .i64 (a_0.length : Int), .sl (b_1.map (cI .i64)), .i .i64 (b_1.length : Int), .b ((a_0.length : Int) != (b_1.length : Int)), .any, .any, .any, .any, .any, .any, .any, .any, .any, .any, .any, .any, .any, .any, .any], []⟩ .ret ⟨[.any, .any, .any, .any, .b false, .any, .any, .any, .any, .any, .any, .any, .any, .any, .any, .any, .any, .any, .any, .any, .any, .any, .any, .any, .any, .any], []⟩])
        Go.Proofs.Try.func100 rfl (by kernel_rfl) (by kernel_rfl)
        ⟨len_ok, len_ok, h0, (by have q := (lp_laws_eqInt64S_1 a_0 b_1 hp0 hp1 h0 (((a_0.length : Int) - 0).toNat + 1) 0 (show 0 ≤ 0 from (by first | assumption | omega | (simp at * <;> omega) | (simp_all <;> omega))) (Nat.lt_succ_self _)); rw [show (lo_laws_eqInt64S_1 a_0 b_1 (((a_0.length : Int) - 0).toNat + 1) 0) = _ from rfl] at q; rw [show (lo_laws_eqInt64S_1 a_0 b_1 (((a_0.length : Int) - 0).toNat + 1) 0) = (lr_laws_eqInt64S_1_0 a_0 b_1) from rfl, h1] at q; exact q), trivial⟩) (by simp only [v_laws_eqInt64S, h0, h1, cond_false]) rfl
    | inr r2 =>
      exact Fn.cast (fn_of_ev E0Ok hMixed (c := bodyOf Go.Proofs.Try.f100) (r := .b true) (new := [])
        (ans := [.num (a_0.length : Int), .num (b_1.length : Int), .bo false, .loop [true, true, false, false, false, true, true, true, true, true, true, false, false, false, false, false, false, false, false, false, false, false, false, false, false, false] 0 (.exit 0) ⟨[.sl (a_0.map (cI .i64)), .sl (b_1.map (cI .i64)), .any, .any, .any, .any, .sl (a_0.map (cI .i64)), .i .i64 (a_0.length : Int), .sl (b_1.map (cI .i64)), .i .i64 (b_1.length : Int), .b ((a_0.length : Int) != (b_1.length : Int)), .any, .any, .any, .any, .any, .any, .any, .any, .any, .any, .any, .any, .any, .any, .any], []⟩, .keep []])
        (C := [(((a_0.map (cI .i64)).length : Nat) : Int) = (a_0.length : Int),
          (((b_1.map (cI .i64)).length : Nat) : Int) = (b_1.length : Int),
          ((a_0.length : Int) != (b_1.length : Int)) = false,
          Lp Go.Proofs.Try.prog (sub (bodyOf Go.Proofs.Try.f100) [1, 1, 0, 1, 0, 0]) ⟨[.sl (a_0.map (cI .i64)), .sl (b_1.map (cI .i64)), .any, .any, .any, .i .i64 0, .sl (a_0.map (cI .i64)), .i .i64 (a_0.length : Int), .sl (b_1.map (cI .i64)), .i .i64 (b_1.length : Int), .b ((a_0.length : Int) != (b_1.length : Int)), .any, .any, .any, .any, .any, .any, .any, .any, .any, .any, .any, .any, .any, .any, .any], []⟩ (.exit 0) ⟨[.sl (a_0.map (cI .i64)), .sl (b_1.map (cI .i64)), .any, .any, .any, .any, .sl (a_0.map (cI .i64)), .i .i64 (a_0.length : Int), .sl (b_1.map (cI .i64)), .i .i64 (b_1.length : Int), .b ((a_0.length : Int) != (b_1.length : Int)), .any, .any, .any, .any, .any, .any, .any, .any, .any, .any, .any, .any, .any, .any, .any], []⟩])
        Go.Proofs.Try.func100 rfl (by kernel_rfl) (by kernel_rfl)
        ⟨len_ok, len_ok, h0, (by have q := (lp_laws_eqInt64S_1 a_0 b_1 hp0 hp1 h0 (((a_0.length : Int) - 0).toNat + 1) 0 (show 0 ≤ 0 from (by first | assumption | omega | (simp at * <;> omega) | (simp_all <;> omega))) (Nat.lt_succ_self _)); rw [show (lo_laws_eqInt64S_1 a_0 b_1 (((a_0.length : Int) - 0).toNat + 1) 0) = _ from rfl] at q; rw [show (lo_laws_eqInt64S_1 a_0 b_1 (((a_0.length : Int) - 0).toNat + 1) 0) = (lr_laws_eqInt64S_1_0 a_0 b_1) from rfl, h1] at q; exact q), trivial⟩) (by simp only [v_laws_eqInt64S, h0, h1, cond_false]) rfl

theorem eqInt64S_self (a : List Int) : v_laws_eqInt64S a a = true := by
  unfold v_laws_eqInt64S lr_laws_eqInt64S_1_0
  rw [all_from (a := a) (p := fun v => !(v != v)) (lo := lo_laws_eqInt64S_1 a a) (x := ()) (y := ()) (fun k i => by rw [lo_laws_eqInt64S_1]; cases (a.getD i.toNat default != a.getD i.toNat default) <;> rfl)]
  rw [show (a.all fun v => !(v != v)) = true from by rw [List.all_eq_true]; intro v _; simp]
  simp

def lo_laws_eqInt64SS_1 (a_0 : (List (List Int))) (b_1 : (List (List Int))) : Nat → Int → (Unit) ⊕ (Unit)
  | 0, _ => .inl default
  | k + 1, i_l0 => (cond (decide (i_l0 < (a_0.length : Int)))
    (cond (v_laws_eqInt64S (a_0.getD i_l0.toNat default) (b_1.getD i_l0.toNat default))
      (lo_laws_eqInt64SS_1 a_0 b_1 k (i_l0 + 1))
      (.inl ()))
    (.inr ()))

def ls_laws_eqInt64SS_1 (a_0 : (List (List Int))) (b_1 : (List (List Int))) : (Unit) ⊕ (Unit) → Ex × St
  | .inl r => (.ret, ⟨[.any, .any, .any, .any, .b false, .any, .any, .any, .any, .any, .any, .any, .any, .any, .any, .any, .any, .any, .any, .any, .any, .any, .any, .any, .any, .any, .any], []⟩)
  | .inr r => ((.exit 0), ⟨[.sl (a_0.map (cL (cI .i64))), .sl (b_1.map (cL (cI .i64))), .any, .any, .any, .any, .sl (a_0.map (cL (cI .i64))), .i .i64 (a_0.length : Int), .sl (b_1.map (cL (cI .i64))), .i .i64 (b_1.length : Int), .b ((a_0.length : Int) != (b_1.length : Int)), .any, .any, .any, .any, .any, .any, .any, .any, .any, .any, .any, .any, .any, .any, .any, .any], []⟩)

theorem lp_laws_eqInt64SS_1 (a_0 : (List (List Int))) (b_1 : (List (List Int))) (hp0 : a_0.length ≤ 1073741824) (hp1 : ∀ t ∈ a_0, t.length ≤ 1073741824) (hp2 : b_1.length ≤ 1073741824) (hp3 : ∀ t ∈ b_1, t.length ≤ 1073741824) (hf_laws_eqInt64SS_1_0 : ((a_0.length : Int) != (b_1.length : Int)) = false) : ∀ (k : Nat) (i_l0 : Int) (hv_laws_eqInt64SS_1_0 : 0 ≤ i_l0) (hk : ((a_0.length : Int) - i_l0).toNat < k), Lp Go.Proofs.Try.prog (sub (bodyOf Go.Proofs.Try.f75) [1, 1, 0, 1, 0, 0]) ⟨[.sl (a_0.map (cL (cI .i64))), .sl (b_1.map (cL (cI .i64))), .any, .any, .any, .i .i64 i_l0, .sl (a_0.map (cL (cI .i64))), .i .i64 (a_0.length : Int), .sl (b_1.map (cL (cI .i64))), .i .i64 (b_1.length : Int), .b ((a_0.length : Int) != (b_1.length : Int)), .any, .any, .any, .any, .any, .any, .any, .any, .any, .any, .any, .any, .any, .any, .any, .any], []⟩ (ls_laws_eqInt64SS_1 a_0 b_1 (lo_laws_eqInt64SS_1 a_0 b_1 k i_l0)).1 (ls_laws_eqInt64SS_1 a_0 b_1 (lo_laws_eqInt64SS_1 a_0 b_1 k i_l0)).2 := by
  intro k
  induction k with
  | zero => intro i_l0 hv_laws_eqInt64SS_1_0 hk; exact absurd hk (Nat.not_lt_zero _)
  | succ k ih =>
    intro i_l0 hv_laws_eqInt64SS_1_0 hk
    cases h_0 : (decide (i_l0 < (a_0.length : Int))) with
    | true =>
      cases h_1 : (v_laws_eqInt64S (a_0.getD i_l0.toNat default) (b_1.getD i_l0.toNat default)) with
      | true =>
        have e : lo_laws_eqInt64SS_1 a_0 b_1 (k + 1) i_l0 = (lo_laws_eqInt64SS_1 a_0 b_1 k (i_l0 + 1)) := by simp only [lo_laws_eqInt64SS_1, h_0, h_1, cond_true]
        rw [e]
        exact step_next E0Ok hMixed (body := (sub (bodyOf Go.Proofs.Try.f75) [1, 1, 0, 1, 0, 0])) (st := ⟨[.sl (a_0.map (cL (cI .i64))), .sl (b_1.map (cL (cI .i64))), .any, .any, .any, .i .i64 i_l0, .sl (a_0.map (cL (cI .i64))), .i .i64 (a_0.length : Int), .sl (b_1.map (cL (cI .i64))), .i .i64 (b_1.length : Int), .b ((a_0.length : Int) != (b_1.length : Int)), .any, .any, .any, .any, .any, .any, .any, .any, .any, .any, .any, .any, .any, .any, .any, .any], []⟩)
          (st2 := ⟨[.sl (a_0.map (cL (cI .i64))), .sl (b_1.map (cL (cI .i64))), .any, .any, .any, .i .i64 (i_l0 + 1), .sl (a_0.map (cL (cI .i64))), .i .i64 (a_0.length : Int), .sl (b_1.map (cL (cI .i64))), .i .i64 (b_1.length : Int), .b ((a_0.length : Int) != (b_1.length : Int)), .any, .any, .any, .any, .any, .any, .any, .any, .any, .any, .any, .any, .any, .any, .any, .any], []⟩)
          (ans := [.num (a_0.length : Int), .bo true, .keep [8, 8], .el [.sl ((a_0.getD i_l0.toNat default).map (cI .i64))], .el [.sl ((b_1.getD i_l0.toNat default).map (cI .i64))], .call (.b (v_laws_eqInt64S (a_0.getD i_l0.toNat default) (b_1.getD i_l0.toNat default))) [], .bo false, .num (i_l0 + 1)])
          (mask := [true, true, false, false, false, true, true, true, true, true, true, false, false, false, false, false, false, false, false, false, false, false, false, false, false, false, false]) (n := 0)
          (C := [(((a_0.map (cL (cI .i64))).length : Nat) : Int) = (a_0.length : Int),
            (decide (i_l0 < (a_0.length : Int))) = true,
            0 ≤ i_l0 ∧ (a_0.map (cL (cI .i64)))[Int.toNat i_l0]? = some [.sl ((a_0.getD i_l0.toNat default).map (cI .i64))],
            0 ≤ i_l0 ∧ (b_1.map (cL (cI .i64)))[Int.toNat i_l0]? = some [.sl ((b_1.getD i_l0.toNat default).map (cI .i64))],
            Fn Go.Proofs.Try.prog 100 [.sl ((a_0.getD i_l0.toNat default).map (cI .i64)), .sl ((b_1.getD i_l0.toNat default).map (cI .i64))] (.b (v_laws_eqInt64S (a_0.getD i_l0.toNat default) (b_1.getD i_l0.toNat default))) [],
            (!(v_laws_eqInt64S (a_0.getD i_l0.toNat default) (b_1.getD i_l0.toNat default))) = false,
            IntKind.wrap .i64 (i_l0 + 1) = (i_l0 + 1)])
          (by kernel_rfl)
          ⟨len_ok, h_0, (get_ok (by first | assumption | omega | (simp at * <;> omega) | (simp_all <;> omega)) (by first | assumption | omega | (simp at * <;> omega) | (simp_all <;> omega))), (get_ok (by first | assumption | omega | (simp at * <;> omega) | (simp_all <;> omega)) (by first | assumption | omega | (simp at * <;> omega) | (simp_all <;> omega))), (t_laws_eqInt64S (a_0.getD i_l0.toNat default) (b_1.getD i_l0.toNat default) (show (a_0.getD i_l0.toNat default).length ≤ 1073741824 from (by first | assumption | omega | (simp at * <;> omega) | (simp_all <;> omega))) (show (b_1.getD i_l0.toNat default).length ≤ 1073741824 from (by first | assumption | omega | (simp at * <;> omega) | (simp_all <;> omega)))), (congrArg not h_1), (wrap_id (by first | assumption | omega | (simp at * <;> omega) | (simp_all <;> omega)) (by first | assumption | omega | (simp at * <;> omega) | (simp_all <;> omega))), trivial⟩
          rfl (ih (i_l0 + 1) (show 0 ≤ (i_l0 + 1) from (by first | assumption | omega | (simp at * <;> omega) | (simp_all <;> omega))) (by first | assumption | omega | (simp at * <;> omega) | (simp_all <;> omega)))
      | false =>
        have e : lo_laws_eqInt64SS_1 a_0 b_1 (k + 1) i_l0 = (.inl ()) := by simp only [lo_laws_eqInt64SS_1, h_0, h_1, cond_true, cond_false]
        rw [e]
        exact step_out E0Ok hMixed (e := .ret) (body := (sub (bodyOf Go.Proofs.Try.f75) [1, 1, 0, 1, 0, 0])) (st := ⟨[.sl (a_0.map (cL (cI .i64))), .sl (b_1.map (cL (cI .i64))), .any, .any, .any, .i .i64 i_l0, .sl (a_0.map (cL (cI .i64))), .i .i64 (a_0.length : Int), .sl (b_1.map (cL (cI .i64))), .i .i64 (b_1.length : Int), .b ((a_0.length : Int) != (b_1.length : Int)), .any, .any, .any, .any, .any, .any, .any, .any, .any, .any, .any, .any, .any, .any, .any, .any], []⟩)
          (st2 := ⟨[.any, .any, .any, .any, .b false, .any, .any, .any, .any, .any, .any, .any, .any, .any, .any, .any, .any, .any, .any, .any, .any, .any, .any, .any, .any, .any, .any], []⟩)
          (ans := [.num (a_0.length : Int), .bo true, .keep [8, 8], .el [.sl ((a_0.getD i_l0.toNat default).map (cI .i64))], .el [.sl ((b_1.getD i_l0.toNat default).map (cI .i64))], .call (.b (v_laws_eqInt64S (a_0.getD i_l0.toNat default) (b_1.getD i_l0.toNat default))) [], .bo true])
          (mask := [false, false, false, false, true, false, false, false, false, false, false, false, false, false, false, false, false, false, false, false, false, false, false, false, false, false, false]) (n := 0)
          (C := [(((a_0.map (cL (cI .i64))).length : Nat) : Int) = (a_0.length : Int),
            (decide (i_l0 < (a_0.length : Int))) = true,
            0 ≤ i_l0 ∧ (a_0.map (cL (cI .i64)))[Int.toNat i_l0]? = some [.sl ((a_0.getD i_l0.toNat default).map (cI .i64))],
            0 ≤ i_l0 ∧ (b_1.map (cL (cI .i64)))[Int.toNat i_l0]? = some [.sl ((b_1.getD i_l0.toNat default).map (cI .i64))],
            Fn Go.Proofs.Try.prog 100 [.sl ((a_0.getD i_l0.toNat default).map (cI .i64)), .sl ((b_1.getD i_l0.toNat default).map (cI .i64))] (.b (v_laws_eqInt64S (a_0.getD i_l0.toNat default) (b_1.getD i_l0.toNat default))) [],
            (!(v_laws_eqInt64S (a_0.getD i_l0.toNat default) (b_1.getD i_l0.toNat default))) = true])
          (by kernel_rfl)
          ⟨len_ok, h_0, (get_ok (by first | assumption | omega | (simp at * <;> omega) | (simp_all <;> omega)) (by first | assumption | omega | (simp at * <;> omega) | (simp_all <;> omega))), (get_ok (by first | assumption | omega | (simp at * <;> omega) | (simp_all <;> omega)) (by first | assumption | omega | (simp at * <;> omega) | (simp_all <;> omega))), (t_laws_eqInt64S (a_0.getD i_l0.toNat default) (b_1.getD i_l0.toNat default) (show (a_0.getD i_l0.toNat default).length ≤ 1073741824 from (by first | assumption | omega | (simp at * <;> omega) | (simp_all <;> omega))) (show (b_1.getD i_l0.toNat default).length ≤ 1073741824 from (by first | assumption | omega | (simp at * <;> omega) | (simp_all <;> omega)))), (congrArg not h_1), trivial⟩
          (by intro h; cases h) rfl
    | false =>
      have e : lo_laws_eqInt64SS_1 a_0 b_1 (k + 1) i_l0 = (.inr ()) := by simp only [lo_laws_eqInt64SS_1, h_0, cond_false]
      rw [e]
      exact step_out E0Ok hMixed (e := (.exit 0)) (body := (sub (bodyOf Go.Proofs.Try.f75) [1, 1, 0, 1, 0, 0])) (st := ⟨[.sl (a_0.map (cL (cI .i64))), .sl (b_1.map (cL (cI .i64))), .any, .any, .any, .i .i64 i_l0, .sl (a_0.map (cL (cI .i64))), .i .i64 (a_0.length : Int), .sl (b_1.map (cL (cI .i64))), .i .i64 (b_1.length : Int), .b ((a_0.length : Int) != (b_1.length : Int)), .any, .any, .any, .any, .any, .any, .any, .any, .any, .any, .any, .any, .any, .any, .any, .any], []⟩)
        (st2 := ⟨[.sl (a_0.map (cL (cI .i64))), .sl (b_1.map (cL (cI .i64))), .any, .any, .any, .any, .sl (a_0.map (cL (cI .i64))), .i .i64 (a_0.length : Int), .sl (b_1.map (cL (cI .i64))), .i .i64 (b_1.length : Int), .b ((a_0.length : Int) != (b_1.length : Int)), .any, .any, .any, .any, .any, .any, .any, .any, .any, .any, .any, .any, .any, .any, .any, .any], []⟩)
        (ans := [.num (a_0.length : Int), .bo false])
        (mask := [true, true, false, false, false, false, true, true, true, true, true, false, false, false, false, false, false, false, false, false, false, false, false, false, false, false, false]) (n := 0)
        (C := [(((a_0.map (cL (cI .i64))).length : Nat) : Int) = (a_0.length : Int),
          (decide (i_l0 < (a_0.length : Int))) = false])
        (by kernel_rfl)
        ⟨len_ok, h_0, trivial⟩
        (by intro h; cases h) rfl

def lr_laws_eqInt64SS_1_0 (a_0 : (List (List Int))) (b_1 : (List (List Int))) : (Unit) ⊕ (Unit) := (lo_laws_eqInt64SS_1 a_0 b_1 (((a_0.length : Int) - 0).toNat + 1) 0)

/-- laws.eqInt64SS -/
def v_laws_eqInt64SS (a_0 : (List (List Int))) (b_1 : (List (List Int))) : Bool := (cond ((a_0.length : Int) != (b_1.length : Int))
  false
  (match (lr_laws_eqInt64SS_1_0 a_0 b_1) with
    | .inl r2 => false
    | .inr r2 => true))

theorem t_laws_eqInt64SS (a_0 : (List (List Int))) (b_1 : (List (List Int))) (hp0 : a_0.length ≤ 1073741824) (hp1 : ∀ t ∈ a_0, t.length ≤ 1073741824) (hp2 : b_1.length ≤ 1073741824) (hp3 : ∀ t ∈ b_1, t.length ≤ 1073741824)  : Fn Go.Proofs.Try.prog 75 [.sl (a_0.map (cL (cI .i64))), .sl (b_1.map (cL (cI .i64)))] (.b (v_laws_eqInt64SS a_0 b_1)) [] := by
  cases h0 : ((a_0.length : Int) != (b_1.length : Int)) with
  | true =>
    exact Fn.cast (fn_of_ev E0Ok hMixed (c := bodyOf Go.Proofs.Try.f75) (r := .b false) (new := [])
      (ans := [.num (a_0.length : Int), .num (b_1.length : Int), .bo true, .keep []])
      (C := [(((a_0.map (cL (cI .i64))).length : Nat) : Int) = (a_0.length : Int),
        (((b_1.map (cL (cI .i64))).length : Nat) : Int) = (b_1.length : Int),
        ((a_0.length : Int) != (b_1.length : Int)) = true])
      Go.Proofs.Try.func75 rfl (by kernel_rfl) (by kernel_rfl)
      ⟨len_ok, len_ok, h0, trivial⟩) (by simp only [v_laws_eqInt64SS, h0, cond_true]) rfl
  | false =>
    cases h1 : (lr_laws_eqInt64SS_1_0 a_0 b_1) with
    | inl r2 =>
      exact Fn.cast (fn_of_ev E0Ok hMixed (c := bodyOf Go.Proofs.Try.f75) (r := .b false) (new := [])
        (ans := [.num (a_0.length : Int), .num (b_1.length : Int), .bo false, .loop [true, true, false, false, false, true, true, true, true, true, true, false, false, false, false, false, false, false, false, false, false, false, false, false, false, false, false] 0 .ret ⟨[.any, .any, .any, .any, .b false, .any, .any, .any, .any, .any, .any, .any, .any, .any, .any, .any, .any, .any, .any, .any, .any, .any, .any, .any, .any, .any, .any], []⟩, .keep []])
        (C := [(((a_0.map (cL (cI .i64))).length : Nat) : Int) = (a_0.length : Int),
          (((b_1.map (cL (cI .i64))).length : Nat) : Int) = (b_1.length : Int),
          ((a_0.length : Int) != (b_1.length : Int)) = false,
          Lp Go.Proofs.Try.prog (sub (bodyOf Go.Proofs.Try.f75) [1, 1, 0, 1, 0, 0]) ⟨[.sl (a_0.map (cL (cI .i64))), .sl (b_1.map (cL (cI .i64))), .any, .any, .any, .i .i64 0, .sl (a_0.map (cL (cI .i64))), .i .i64 (a_0.length : Int), .sl (b_1.map (cL (cI .i64))), .i .i64 (b_1.length : Int), .b ((a_0.length : Int) != (b_1.length : Int)), .any, .any, .any, .any, .any, .any, .any, .any, .any, .any, .any, .any, .any, .any, .any, .any], []⟩ .ret ⟨[.any, .any, .any, .any, .b false, .any, .any, .any, .any, .any, .any, .any, .any, .any, .any, .any, .any, .any, .any, .any, .any, .any, .any, .any, .any, .any, .any], []⟩])
        Go.Proofs.Try.func75 rfl (by kernel_rfl) (by kernel_rfl)
        ⟨len_ok, len_ok, h0, (by have q := (lp_laws_eqInt64SS_1 a_0 b_1 hp0 hp1 hp2 hp3 h0 (((a_0.length : Int) - 0).toNat + 1) 0 (show 0 ≤ 0 from (by first | assumption | omega | (simp at * <;> omega) | (simp_all <;> omega))) (Nat.lt_succ_self _)); rw [show (lo_laws_eqInt64SS_1 a_0 b_1 (((a_0.length : Int) - 0).toNat + 1) 0) = _ from rfl] at q; rw [show (lo_laws_eqInt64SS_1 a_0 b_1 (((a_0.length : Int) - 0).toNat + 1) 0) = (lr_laws_eqInt64SS_1_0 a_0 b_1) from rfl, h1] at q; exact q), trivial⟩) (by simp only [v_laws_eqInt64SS, h0, h1, cond_false]) rfl
    | inr r2 =>
      exact Fn.cast (fn_of_ev E0Ok hMixed (c := bodyOf Go.Proofs.Try.f75) (r := .b true) (new := [])
        (ans := [.num (a_0.length : Int), .num (b_1.length : Int), .bo false, .loop [true, true, false, false, false, true, true, true, true, true, true, false, false, false, false, false, false, false, false, false, false, false, false, false, false, false, false] 0 (.exit 0) ⟨[.sl (a_0.map (cL (cI .i64))), .sl (b_1.map (cL (cI .i64))), .any, .any, .any, .any, .sl (a_0.map (cL (cI .i64))), .i .i64 (a_0.length : Int), .sl (b_1.map (cL (cI .i64))), .i .i64 (b_1.length : Int), .b ((a_0.length : Int) != (b_1.length : Int)), .any, .any, .any, .any, .any, .any, .any, .any, .any, .any, .any, .any, .any, .any, .any, .any], []⟩, .keep []])
        (C := [(((a_0.map (cL (cI .i64))).length : Nat) : Int) = (a_0.length : Int),
          (((b_1.map (cL (cI .i64))).length : Nat) : Int) = (b_1.length : Int),
          ((a_0.length : Int) != (b_1.length : Int)) = false,
          Lp Go.Proofs.Try.prog (sub (bodyOf Go.Proofs.Try.f75) [1, 1, 0, 1, 0, 0]) ⟨[.sl (a_0.map (cL (cI .i64))), .sl (b_1.map (cL (cI .i64))), .any, .any, .any, .i .i64 0, .sl (a_0.map (cL (cI .i64))), .i .i64 (a_0.length : Int), .sl (b_1.map (cL (cI .i64))), .i .i64 (b_1.length : Int), .b ((a_0.length : Int) != (b_1.length : Int)), .any, .any, .any, .any, .any, .any, .any, .any, .any, .any, .any, .any, .any, .any, .any, .any], []⟩ (.exit 0) ⟨[.sl (a_0.map (cL (cI .i64))), .sl (b_1.map (cL (cI .i64))), .any, .any, .any, .any, .sl (a_0.map (cL (cI .i64))), .i .i64 (a_0.length : Int), .sl (b_1.map (cL (cI .i64))), .i .i64 (b_1.length : Int), .b ((a_0.length : Int) != (b_1.length : Int)), .any, .any, .any, .any, .any, .any, .any, .any, .any, .any, .any, .any, .any, .any, .any, .any], []⟩])
        Go.Proofs.Try.func75 rfl (by kernel_rfl) (by kernel_rfl)
        ⟨len_ok, len_ok, h0, (by have q := (lp_laws_eqInt64SS_1 a_0 b_1 hp0 hp1 hp2 hp3 h0 (((a_0.length : Int) - 0).toNat + 1) 0 (show 0 ≤ 0 from (by first | assumption | omega | (simp at * <;> omega) | (simp_all <;> omega))) (Nat.lt_succ_self _)); rw [show (lo_laws_eqInt64SS_1 a_0 b_1 (((a_0.length : Int) - 0).toNat + 1) 0) = _ from rfl] at q; rw [show (lo_laws_eqInt64SS_1 a_0 b_1 (((a_0.length : Int) - 0).toNat + 1) 0) = (lr_laws_eqInt64SS_1_0 a_0 b_1) from rfl, h1] at q; exact q), trivial⟩) (by simp only [v_laws_eqInt64SS, h0, h1, cond_false]) rfl

theorem eqInt64SS_self (a : List (List Int)) : v_laws_eqInt64SS a a = true := by
  unfold v_laws_eqInt64SS lr_laws_eqInt64SS_1_0
  rw [all_from (a := a) (p := fun v => v_laws_eqInt64S v v) (lo := lo_laws_eqInt64SS_1 a a) (x := ()) (y := ()) (fun k i => rfl)]
  rw [show (a.all fun v => v_laws_eqInt64S v v) = true from by rw [List.all_eq_true]; intro v _; exact eqInt64S_self v]
  simp

/-- laws.eqMesh -/
def v_laws_eqMesh (a_0 : GMesh) (b_1 : GMesh) : Bool := (cond (v_laws_eqVectorS a_0.Places b_1.Places)
  (cond (v_laws_eqInt64SS a_0.Triangles b_1.Triangles)
    true
    false)
  false)

theorem t_laws_eqMesh (a_0 : GMesh) (b_1 : GMesh) (hp0 : a_0.Places.length ≤ 1073741824) (hp1 : a_0.Triangles.length ≤ 1073741824) (hp2 : ∀ t ∈ a_0.Triangles, t.length ≤ 1073741824) (hp3 : b_1.Places.length ≤ 1073741824) (hp4 : b_1.Triangles.length ≤ 1073741824) (hp5 : ∀ t ∈ b_1.Triangles, t.length ≤ 1073741824)  : Fn Go.Proofs.Try.prog 44 [.agg [.sl (a_0.Places.map GVector.cells), .sl (a_0.Triangles.map (cL (cI .i64)))], .agg [.sl (b_1.Places.map GVector.cells), .sl (b_1.Triangles.map (cL (cI .i64)))]] (.b (v_laws_eqMesh a_0 b_1)) [] := by
  cases h0 : (v_laws_eqVectorS a_0.Places b_1.Places) with
  | true =>
    cases h1 : (v_laws_eqInt64SS a_0.Triangles b_1.Triangles) with
    | true =>
      exact Fn.cast (fn_of_ev E0Ok hMixed (c := bodyOf Go.Proofs.Try.f44) (r := .b true) (new := [])
        (ans := [.call (.b (v_laws_eqVectorS a_0.Places b_1.Places)) [], .bo false, .call (.b (v_laws_eqInt64SS a_0.Triangles b_1.Triangles)) [], .bo false, .keep []])
        (C := [Fn Go.Proofs.Try.prog 26 [.sl (a_0.Places.map GVector.cells), .sl (b_1.Places.map GVector.cells)] (.b (v_laws_eqVectorS a_0.Places b_1.Places)) [],
          (!(v_laws_eqVectorS a_0.Places b_1.Places)) = false,
          Fn Go.Proofs.Try.prog 75 [.sl (a_0.Triangles.map (cL (cI .i64))), .sl (b_1.Triangles.map (cL (cI .i64)))] (.b (v_laws_eqInt64SS a_0.Triangles b_1.Triangles)) [],
          (!(v_laws_eqInt64SS a_0.Triangles b_1.Triangles)) = false])
        Go.Proofs.Try.func44 rfl (by kernel_rfl) (by kernel_rfl)
        ⟨(t_laws_eqVectorS a_0.Places b_1.Places (show a_0.Places.length ≤ 1073741824 from (by first | assumption | omega | (simp at * <;> omega) | (simp_all <;> omega))) (show b_1.Places.length ≤ 1073741824 from (by first | assumption | omega | (simp at * <;> omega) | (simp_all <;> omega)))), (congrArg not h0), (t_laws_eqInt64SS a_0.Triangles b_1.Triangles (show a_0.Triangles.length ≤ 1073741824 from (by first | assumption | omega | (simp at * <;> omega) | (simp_all <;> omega))) (show ∀ t ∈ a_0.Triangles, t.length ≤ 1073741824 from (by first | assumption | omega | (simp at * <;> omega) | (simp_all <;> omega))) (show b_1.Triangles.length ≤ 1073741824 from (by first | assumption | omega | (simp at * <;> omega) | (simp_all <;> omega))) (show ∀ t ∈ b_1.Triangles, t.length ≤ 1073741824 from (by first | assumption | omega | (simp at * <;> omega) | (simp_all <;> omega)))), (congrArg not h1), trivial⟩) (by simp only [v_laws_eqMesh, h0, h1, cond_true]) rfl
    | false =>
      exact Fn.cast (fn_of_ev E0Ok hMixed (c := bodyOf Go.Proofs.Try.f44) (r := .b false) (new := [])
        (ans := [.call (.b (v_laws_eqVectorS a_0.Places b_1.Places)) [], .bo false, .call (.b (v_laws_eqInt64SS a_0.Triangles b_1.Triangles)) [], .bo true, .keep []])
        (C := [Fn Go.Proofs.Try.prog 26 [.sl (a_0.Places.map GVector.cells), .sl (b_1.Places.map GVector.cells)] (.b (v_laws_eqVectorS a_0.Places b_1.Places)) [],
          (!(v_laws_eqVectorS a_0.Places b_1.Places)) = false,
          Fn Go.Proofs.Try.prog 75 [.sl (a_0.Triangles.map (cL (cI .i64))), .sl (b_1.Triangles.map (cL (cI .i64)))] (.b (v_laws_eqInt64SS a_0.Triangles b_1.Triangles)) [],
          (!(v_laws_eqInt64SS a_0.Triangles b_1.Triangles)) = true])
        Go.Proofs.Try.func44 rfl (by kernel_rfl) (by kernel_rfl)
        ⟨(t_laws_eqVectorS a_0.Places b_1.Places (show a_0.Places.length ≤ 1073741824 from (by first | assumption | omega | (simp at * <;> omega) | (simp_all <;> omega))) (show b_1.Places.length ≤ 1073741824 from (by first | assumption | omega | (simp at * <;> omega) | (simp_all <;> omega)))), (congrArg not h0), (t_laws_eqInt64SS a_0.Triangles b_1.Triangles (show a_0.Triangles.length ≤ 1073741824 from (by first | assumption | omega | (simp at * <;> omega) | (simp_all <;> omega))) (show ∀ t ∈ a_0.Triangles, t.length ≤ 1073741824 from (by first | assumption | omega | (simp at * <;> omega) | (simp_all <;> omega))) (show b_1.Triangles.length ≤ 1073741824 from (by first | assumption | omega | (simp at * <;> omega) | (simp_all <;> omega))) (show ∀ t ∈ b_1.Triangles, t.length ≤ 1073741824 from (by first | assumption | omega | (simp at * <;> omega) | (simp_all <;> omega)))), (congrArg not h1), trivial⟩) (by simp only [v_laws_eqMesh, h0, h1, cond_true, cond_false]) rfl
  | false =>
    exact Fn.cast (fn_of_ev E0Ok hMixed (c := bodyOf Go.Proofs.Try.f44) (r := .b false) (new := [])
      (ans := [.call (.b (v_laws_eqVectorS a_0.Places b_1.Places)) [], .bo true, .keep []])
      (C := [Fn Go.Proofs.Try.prog 26 [.sl (a_0.Places.map GVector.cells), .sl (b_1.Places.map GVector.cells)] (.b (v_laws_eqVectorS a_0.Places b_1.Places)) [],
        (!(v_laws_eqVectorS a_0.Places b_1.Places)) = true])
      Go.Proofs.Try.func44 rfl (by kernel_rfl) (by kernel_rfl)
      ⟨(t_laws_eqVectorS a_0.Places b_1.Places (show a_0.Places.length ≤ 1073741824 from (by first | assumption | omega | (simp at * <;> omega) | (simp_all <;> omega))) (show b_1.Places.length ≤ 1073741824 from (by first | assumption | omega | (simp at * <;> omega) | (simp_all <;> omega)))), (congrArg not h0), trivial⟩) (by simp only [v_laws_eqMesh, h0, cond_false]) rfl

theorem eqMesh_self (a : GMesh) : v_laws_eqMesh a a = true := by
  simp [v_laws_eqMesh, eqVectorS_self, eqInt64SS_self]

def nd_laws_FnExactTorqueOf_0 (aM_0 : GMesh) (aForces_1 : (List GVector)) : Bool := (v_laws_eqVector ((v_impl_TorqueOf (v_laws_toMesh aM_0) (v_laws_toVectorS aForces_1)).1) ((v_spec_TorqueOf (v_laws_toMesh aM_0) (v_laws_toVectorS aForces_1)).1))

/-- laws.FnExactTorqueOf -/
def v_laws_FnExactTorqueOf (aM_0 : GMesh) (aForces_1 : (List GVector)) : Bool := (cond (decide ((v_laws_szMesh aM_0 1048576) < 0))
  true
  (cond (decide ((v_laws_szVectorS aForces_1 (v_laws_szMesh aM_0 1048576)) < 0))
    true
    (cond (nd_laws_FnExactTorqueOf_0 aM_0 aForces_1)
      (cond ((v_impl_TorqueOf (v_laws_toMesh aM_0) (v_laws_toVectorS aForces_1)).2 == (v_spec_TorqueOf (v_laws_toMesh aM_0) (v_laws_toVectorS aForces_1)).2)
        (cond (v_laws_eqMesh (v_laws_toMesh aM_0) (v_laws_toMesh aM_0))
          (cond (v_laws_eqVectorS (v_laws_toVectorS aForces_1) (v_laws_toVectorS aForces_1))
            true
            false)
          false)
        false)
      false)))

theorem t_laws_FnExactTorqueOf (aM_0 : GMesh) (aForces_1 : (List GVector)) (hp0 : aM_0.Places.length ≤ 9223372036854775807) (hp1 : aM_0.Triangles.length ≤ 9223372036854775807) (hp2 : ∀ t ∈ aM_0.Triangles, t.length ≤ 9223372036854775807) (hp3 : aForces_1.length ≤ 9223372036854775807)  : Fn Go.Proofs.Try.prog 13 [.agg [.sl (aM_0.Places.map GVector.cells), .sl (aM_0.Triangles.map (cL (cI .i64)))], .sl (aForces_1.map GVector.cells)] (.b (v_laws_FnExactTorqueOf aM_0 aForces_1)) [] := by
  have z0 := (ok_laws_szMesh aM_0 1048576 (by omega) (by omega) (by assumption) (by omega) (by omega))
  have z1 := (ok_laws_szVectorS aForces_1 (v_laws_szMesh aM_0 1048576) (by omega) (by omega) (by omega))
  cases h0 : (decide ((v_laws_szMesh aM_0 1048576) < 0)) with
  | true =>
    exact Fn.cast (fn_of_ev E0Ok hMixed (c := bodyOf Go.Proofs.Try.f13) (r := .b true) (new := [])
      (ans := [.call (.i .i64 (v_laws_szMesh aM_0 1048576)) [], .bo true, .keep []])
      (C := [Fn Go.Proofs.Try.prog 40 [.agg [.sl (aM_0.Places.map GVector.cells), .sl (aM_0.Triangles.map (cL (cI .i64)))], .i .i64 1048576] (.i .i64 (v_laws_szMesh aM_0 1048576)) [],
        (decide ((v_laws_szMesh aM_0 1048576) < 0)) = true])
      Go.Proofs.Try.func13 rfl (by kernel_rfl) (by kernel_rfl)
      ⟨(t_laws_szMesh aM_0 1048576 (show aM_0.Places.length ≤ 9223372036854775807 from (by first | assumption | omega | (intro t ht; (try simp at ht); have q := z0.2.2.2.2 t ht; have q1 := of_decide_eq_false h0; omega) | (simp at * <;> omega) | (simp_all <;> omega))) (show aM_0.Triangles.length ≤ 9223372036854775807 from (by first | assumption | omega | (intro t ht; (try simp at ht); have q := z0.2.2.2.2 t ht; have q1 := of_decide_eq_false h0; omega) | (simp at * <;> omega) | (simp_all <;> omega))) (show ∀ t ∈ aM_0.Triangles, t.length ≤ 9223372036854775807 from (by first | assumption | omega | (intro t ht; (try simp at ht); have q := z0.2.2.2.2 t ht; have q1 := of_decide_eq_false h0; omega) | (simp at * <;> omega) | (simp_all <;> omega)))), h0, trivial⟩) (by simp only [v_laws_FnExactTorqueOf, h0, cond_true]) rfl
  | false =>
    cases h1 : (decide ((v_laws_szVectorS aForces_1 (v_laws_szMesh aM_0 1048576)) < 0)) with
    | true =>
      exact Fn.cast (fn_of_ev E0Ok hMixed (c := bodyOf Go.Proofs.Try.f13) (r := .b true) (new := [])
        (ans := [.call (.i .i64 (v_laws_szMesh aM_0 1048576)) [], .bo false, .call (.i .i64 (v_laws_szVectorS aForces_1 (v_laws_szMesh aM_0 1048576))) [], .bo true, .keep []])
        (C := [Fn Go.Proofs.Try.prog 40 [.agg [.sl (aM_0.Places.map GVector.cells), .sl (aM_0.Triangles.map (cL (cI .i64)))], .i .i64 1048576] (.i .i64 (v_laws_szMesh aM_0 1048576)) [],
          (decide ((v_laws_szMesh aM_0 1048576) < 0)) = false,
          Fn Go.Proofs.Try.prog 21 [.sl (aForces_1.map GVector.cells), .i .i64 (v_laws_szMesh aM_0 1048576)] (.i .i64 (v_laws_szVectorS aForces_1 (v_laws_szMesh aM_0 1048576))) [],
          (decide ((v_laws_szVectorS aForces_1 (v_laws_szMesh aM_0 1048576)) < 0)) = true])
        Go.Proofs.Try.func13 rfl (by kernel_rfl) (by kernel_rfl)
        ⟨(t_laws_szMesh aM_0 1048576 (show aM_0.Places.length ≤ 9223372036854775807 from (by first | assumption | omega | (intro t ht; (try simp at ht); have q := z0.2.2.2.2 t ht; have q1 := of_decide_eq_false h0; omega) | (simp at * <;> omega) | (simp_all <;> omega))) (show aM_0.Triangles.length ≤ 9223372036854775807 from (by first | assumption | omega | (intro t ht; (try simp at ht); have q := z0.2.2.2.2 t ht; have q1 := of_decide_eq_false h0; omega) | (simp at * <;> omega) | (simp_all <;> omega))) (show ∀ t ∈ aM_0.Triangles, t.length ≤ 9223372036854775807 from (by first | assumption | omega | (intro t ht; (try simp at ht); have q := z0.2.2.2.2 t ht; have q1 := of_decide_eq_false h0; omega) | (simp at * <;> omega) | (simp_all <;> omega)))), h0, (t_laws_szVectorS aForces_1 (v_laws_szMesh aM_0 1048576) (show aForces_1.length ≤ 9223372036854775807 from (by first | assumption | omega | (intro t ht; (try simp at ht); have q := z0.2.2.2.2 t ht; have q1 := of_decide_eq_false h0; omega) | (simp at * <;> omega) | (simp_all <;> omega)))), h1, trivial⟩) (by simp only [v_laws_FnExactTorqueOf, h0, h1, cond_true, cond_false]) rfl
    | false =>
      cases h2 : (nd_laws_FnExactTorqueOf_0 aM_0 aForces_1) with
      | true =>
        cases h3 : ((v_impl_TorqueOf (v_laws_toMesh aM_0) (v_laws_toVectorS aForces_1)).2 == (v_spec_TorqueOf (v_laws_toMesh aM_0) (v_laws_toVectorS aForces_1)).2) with
        | true =>
          cases h4 : (v_laws_eqMesh (v_laws_toMesh aM_0) (v_laws_toMesh aM_0)) with
          | true =>
            cases h5 : (v_laws_eqVectorS (v_laws_toVectorS aForces_1) (v_laws_toVectorS aForces_1)) with
            | true =>
              exact Fn.cast (fn_of_ev E0Ok hMixed (c := bodyOf Go.Proofs.Try.f13) (r := .b true) (new := [])
                (ans := [.call (.i .i64 (v_laws_szMesh aM_0 1048576)) [], .bo false, .call (.i .i64 (v_laws_szVectorS aForces_1 (v_laws_szMesh aM_0 1048576))) [], .bo false, .call (.agg [.own 0, .own 1]) [.vec 33 3 (((v_laws_toMesh aM_0).Places).map GVector.cells) false, .nest 95 (((v_laws_toMesh aM_0).Triangles).map fun l => l.map (cI .i64)) false], .call (.own 0) [.vec 33 3 ((v_laws_toVectorS aForces_1).map GVector.cells) false], .call (.tup [.agg [.f .f32 ((v_spec_TorqueOf (v_laws_toMesh aM_0) (v_laws_toVectorS aForces_1)).1.X), .f .f32 ((v_spec_TorqueOf (v_laws_toMesh aM_0) (v_laws_toVectorS aForces_1)).1.Y), .f .f32 ((v_spec_TorqueOf (v_laws_toMesh aM_0) (v_laws_toVectorS aForces_1)).1.Z)], .b ((v_spec_TorqueOf (v_laws_toMesh aM_0) (v_laws_toVectorS aForces_1)).2)]) [], .call (.agg [.own 0, .own 1]) [.vec 33 3 (((v_laws_toMesh aM_0).Places).map GVector.cells) false, .nest 95 (((v_laws_toMesh aM_0).Triangles).map fun l => l.map (cI .i64)) false], .call (.own 0) [.vec 33 3 ((v_laws_toVectorS aForces_1).map GVector.cells) false], .call (.tup [.agg [.f .f32 ((v_impl_TorqueOf (v_laws_toMesh aM_0) (v_laws_toVectorS aForces_1)).1.X), .f .f32 ((v_impl_TorqueOf (v_laws_toMesh aM_0) (v_laws_toVectorS aForces_1)).1.Y), .f .f32 ((v_impl_TorqueOf (v_laws_toMesh aM_0) (v_laws_toVectorS aForces_1)).1.Z)], .b ((v_impl_TorqueOf (v_laws_toMesh aM_0) (v_laws_toVectorS aForces_1)).2)]) [], .call (.b (nd_laws_FnExactTorqueOf_0 aM_0 aForces_1)) [], .bo false, .bo false, .bo false, .bo false, .bo false, .keep [3, 3], .call (.agg [.own 0, .own 1]) [.vec 33 3 (((v_laws_toMesh aM_0).Places).map GVector.cells) false, .nest 95 (((v_laws_toMesh aM_0).Triangles).map fun l => l.map (cI .i64)) false], .call (.b (v_laws_eqMesh (v_laws_toMesh aM_0) (v_laws_toMesh aM_0))) [], .bo false, .call (.own 0) [.vec 33 3 ((v_laws_toVectorS aForces_1).map GVector.cells) false], .call (.b (v_laws_eqVectorS (v_laws_toVectorS aForces_1) (v_laws_toVectorS aForces_1))) [], .bo false, .keep []])
                (C := [Fn Go.Proofs.Try.prog 40 [.agg [.sl (aM_0.Places.map GVector.cells), .sl (aM_0.Triangles.map (cL (cI .i64)))], .i .i64 1048576] (.i .i64 (v_laws_szMesh aM_0 1048576)) [],
                  (decide ((v_laws_szMesh aM_0 1048576) < 0)) = false,
                  Fn Go.Proofs.Try.prog 21 [.sl (aForces_1.map GVector.cells), .i .i64 (v_laws_szMesh aM_0 1048576)] (.i .i64 (v_laws_szVectorS aForces_1 (v_laws_szMesh aM_0 1048576))) [],
                  (decide ((v_laws_szVectorS aForces_1 (v_laws_szMesh aM_0 1048576)) < 0)) = false,
                  Fn Go.Proofs.Try.prog 42 [.agg [.sl (aM_0.Places.map GVector.cells), .sl (aM_0.Triangles.map (cL (cI .i64)))]] (.agg [.own 0, .own 1]) [.vec 33 3 (((v_laws_toMesh aM_0).Places).map GVector.cells) false, .nest 95 (((v_laws_toMesh aM_0).Triangles).map fun l => l.map (cI .i64)) false],
                  Fn Go.Proofs.Try.prog 23 [.sl (aForces_1.map GVector.cells)] (.own 0) [.vec 33 3 ((v_laws_toVectorS aForces_1).map GVector.cells) false],
                  Fn Go.Proofs.Try.prog 45 [.agg [.sl (((v_laws_toMesh aM_0).Places).map GVector.cells), .sl ((((v_laws_toMesh aM_0).Triangles).map fun l => l.map (cI .i64)).map fun l => [.sl l])], .sl ((v_laws_toVectorS aForces_1).map GVector.cells)] (.tup [.agg [.f .f32 ((v_spec_TorqueOf (v_laws_toMesh aM_0) (v_laws_toVectorS aForces_1)).1.X), .f .f32 ((v_spec_TorqueOf (v_laws_toMesh aM_0) (v_laws_toVectorS aForces_1)).1.Y), .f .f32 ((v_spec_TorqueOf (v_laws_toMesh aM_0) (v_laws_toVectorS aForces_1)).1.Z)], .b ((v_spec_TorqueOf (v_laws_toMesh aM_0) (v_laws_toVectorS aForces_1)).2)]) [],
                  Fn Go.Proofs.Try.prog 42 [.agg [.sl (aM_0.Places.map GVector.cells), .sl (aM_0.Triangles.map (cL (cI .i64)))]] (.agg [.own 0, .own 1]) [.vec 33 3 (((v_laws_toMesh aM_0).Places).map GVector.cells) false, .nest 95 (((v_laws_toMesh aM_0).Triangles).map fun l => l.map (cI .i64)) false],
                  Fn Go.Proofs.Try.prog 23 [.sl (aForces_1.map GVector.cells)] (.own 0) [.vec 33 3 ((v_laws_toVectorS aForces_1).map GVector.cells) false],
                  Fn Go.Proofs.Try.prog 46 [.agg [.sl (((v_laws_toMesh aM_0).Places).map GVector.cells), .sl ((((v_laws_toMesh aM_0).Triangles).map fun l => l.map (cI .i64)).map fun l => [.sl l])], .sl ((v_laws_toVectorS aForces_1).map GVector.cells)] (.tup [.agg [.f .f32 ((v_impl_TorqueOf (v_laws_toMesh aM_0) (v_laws_toVectorS aForces_1)).1.X), .f .f32 ((v_impl_TorqueOf (v_laws_toMesh aM_0) (v_laws_toVectorS aForces_1)).1.Y), .f .f32 ((v_impl_TorqueOf (v_laws_toMesh aM_0) (v_laws_toVectorS aForces_1)).1.Z)], .b ((v_impl_TorqueOf (v_laws_toMesh aM_0) (v_laws_toVectorS aForces_1)).2)]) [],
                  Fn Go.Proofs.Try.prog 25 [.agg [.f .f32 ((v_impl_TorqueOf (v_laws_toMesh aM_0) (v_laws_toVectorS aForces_1)).1.X), .f .f32 ((v_impl_TorqueOf (v_laws_toMesh aM_0) (v_laws_toVectorS aForces_1)).1.Y), .f .f32 ((v_impl_TorqueOf (v_laws_toMesh aM_0) (v_laws_toVectorS aForces_1)).1.Z)], .agg [.f .f32 ((v_spec_TorqueOf (v_laws_toMesh aM_0) (v_laws_toVectorS aForces_1)).1.X), .f .f32 ((v_spec_TorqueOf (v_laws_toMesh aM_0) (v_laws_toVectorS aForces_1)).1.Y), .f .f32 ((v_spec_TorqueOf (v_laws_toMesh aM_0) (v_laws_toVectorS aForces_1)).1.Z)]] (.b (nd_laws_FnExactTorqueOf_0 aM_0 aForces_1)) [],
                  (!(nd_laws_FnExactTorqueOf_0 aM_0 aForces_1)) = false,
                  (!(nd_laws_FnExactTorqueOf_0 aM_0 aForces_1)) = false,
                  (!(nd_laws_FnExactTorqueOf_0 aM_0 aForces_1)) = false,
                  (!(nd_laws_FnExactTorqueOf_0 aM_0 aForces_1)) = false,
                  (!((v_impl_TorqueOf (v_laws_toMesh aM_0) (v_laws_toVectorS aForces_1)).2 == (v_spec_TorqueOf (v_laws_toMesh aM_0) (v_laws_toVectorS aForces_1)).2)) = false,
                  Fn Go.Proofs.Try.prog 42 [.agg [.sl (aM_0.Places.map GVector.cells), .sl (aM_0.Triangles.map (cL (cI .i64)))]] (.agg [.own 0, .own 1]) [.vec 33 3 (((v_laws_toMesh aM_0).Places).map GVector.cells) false, .nest 95 (((v_laws_toMesh aM_0).Triangles).map fun l => l.map (cI .i64)) false],
                  Fn Go.Proofs.Try.prog 44 [.agg [.sl (((v_laws_toMesh aM_0).Places).map GVector.cells), .sl ((((v_laws_toMesh aM_0).Triangles).map fun l => l.map (cI .i64)).map fun l => [.sl l])], .agg [.sl (((v_laws_toMesh aM_0).Places).map GVector.cells), .sl ((((v_laws_toMesh aM_0).Triangles).map fun l => l.map (cI .i64)).map fun l => [.sl l])]] (.b (v_laws_eqMesh (v_laws_toMesh aM_0) (v_laws_toMesh aM_0))) [],
                  (!(v_laws_eqMesh (v_laws_toMesh aM_0) (v_laws_toMesh aM_0))) = false,
                  Fn Go.Proofs.Try.prog 23 [.sl (aForces_1.map GVector.cells)] (.own 0) [.vec 33 3 ((v_laws_toVectorS aForces_1).map GVector.cells) false],
                  Fn Go.Proofs.Try.prog 26 [.sl ((v_laws_toVectorS aForces_1).map GVector.cells), .sl ((v_laws_toVectorS aForces_1).map GVector.cells)] (.b (v_laws_eqVectorS (v_laws_toVectorS aForces_1) (v_laws_toVectorS aForces_1))) [],
                  (!(v_laws_eqVectorS (v_laws_toVectorS aForces_1) (v_laws_toVectorS aForces_1))) = false])
                Go.Proofs.Try.func13 rfl (by kernel_rfl) (by kernel_rfl)
                ⟨(t_laws_szMesh aM_0 1048576 (show aM_0.Places.length ≤ 9223372036854775807 from (by first | assumption | omega | (intro t ht; (try simp at ht); have q := z0.2.2.2.2 t ht; have q1 := of_decide_eq_false h0; omega) | (simp at * <;> omega) | (simp_all <;> omega))) (show aM_0.Triangles.length ≤ 9223372036854775807 from (by first | assumption | omega | (intro t ht; (try simp at ht); have q := z0.2.2.2.2 t ht; have q1 := of_decide_eq_false h0; omega) | (simp at * <;> omega) | (simp_all <;> omega))) (show ∀ t ∈ aM_0.Triangles, t.length ≤ 9223372036854775807 from (by first | assumption | omega | (intro t ht; (try simp at ht); have q := z0.2.2.2.2 t ht; have q1 := of_decide_eq_false h0; omega) | (simp at * <;> omega) | (simp_all <;> omega)))), h0, (t_laws_szVectorS aForces_1 (v_laws_szMesh aM_0 1048576) (show aForces_1.length ≤ 9223372036854775807 from (by first | assumption | omega | (intro t ht; (try simp at ht); have q := z0.2.2.2.2 t ht; have q1 := of_decide_eq_false h0; omega) | (simp at * <;> omega) | (simp_all <;> omega)))), h1, (t_laws_toMesh aM_0 (show aM_0.Places.length ≤ 1073741824 from (by first | assumption | omega | (intro t ht; (try simp at ht); have q := z0.2.2.2.2 t ht; have q1 := of_decide_eq_false h0; omega) | (simp at * <;> omega) | (simp_all <;> omega))) (show aM_0.Triangles.length ≤ 1073741824 from (by first | assumption | omega | (intro t ht; (try simp at ht); have q := z0.2.2.2.2 t ht; have q1 := of_decide_eq_false h0; omega) | (simp at * <;> omega) | (simp_all <;> omega))) (show ∀ t ∈ aM_0.Triangles, t.length ≤ 1073741824 from (by first | assumption | omega | (intro t ht; (try simp at ht); have q := z0.2.2.2.2 t ht; have q1 := of_decide_eq_false h0; omega) | (simp at * <;> omega) | (simp_all <;> omega)))), (t_laws_toVectorS aForces_1 (show aForces_1.length ≤ 1073741824 from (by first | assumption | omega | (intro t ht; (try simp at ht); have q := z0.2.2.2.2 t ht; have q1 := of_decide_eq_false h0; omega) | (simp at * <;> omega) | (simp_all <;> omega)))), (Fn.castA (t_spec_TorqueOf (v_laws_toMesh aM_0) (v_laws_toVectorS aForces_1) (show (v_laws_toMesh aM_0).Places.length ≤ 1073741824 from (by first | assumption | omega | (intro t ht; (try simp at ht); have q := z0.2.2.2.2 t ht; have q1 := of_decide_eq_false h0; omega) | (simp at * <;> omega) | (simp_all <;> omega))) (show (v_laws_toMesh aM_0).Triangles.length ≤ 1073741824 from (by first | assumption | omega | (intro t ht; (try simp at ht); have q := z0.2.2.2.2 t ht; have q1 := of_decide_eq_false h0; omega) | (simp at * <;> omega) | (simp_all <;> omega))) (show ∀ t ∈ (v_laws_toMesh aM_0).Triangles, t.length ≤ 1073741824 from (by first | assumption | omega | (intro t ht; (try simp at ht); have q := z0.2.2.2.2 t ht; have q1 := of_decide_eq_false h0; omega) | (simp at * <;> omega) | (simp_all <;> omega))) (show (v_laws_toVectorS aForces_1).length ≤ 1073741824 from (by first | assumption | omega | (intro t ht; (try simp at ht); have q := z0.2.2.2.2 t ht; have q1 := of_decide_eq_false h0; omega) | (simp at * <;> omega) | (simp_all <;> omega)))) (by simp [cL, Function.comp_def])), (t_laws_toMesh aM_0 (show aM_0.Places.length ≤ 1073741824 from (by first | assumption | omega | (intro t ht; (try simp at ht); have q := z0.2.2.2.2 t ht; have q1 := of_decide_eq_false h0; omega) | (simp at * <;> omega) | (simp_all <;> omega))) (show aM_0.Triangles.length ≤ 1073741824 from (by first | assumption | omega | (intro t ht; (try simp at ht); have q := z0.2.2.2.2 t ht; have q1 := of_decide_eq_false h0; omega) | (simp at * <;> omega) | (simp_all <;> omega))) (show ∀ t ∈ aM_0.Triangles, t.length ≤ 1073741824 from (by first | assumption | omega | (intro t ht; (try simp at ht); have q := z0.2.2.2.2 t ht; have q1 := of_decide_eq_false h0; omega) | (simp at * <;> omega) | (simp_all <;> omega)))), (t_laws_toVectorS aForces_1 (show aForces_1.length ≤ 1073741824 from (by first | assumption | omega | (intro t ht; (try simp at ht); have q := z0.2.2.2.2 t ht; have q1 := of_decide_eq_false h0; omega) | (simp at * <;> omega) | (simp_all <;> omega)))), (Fn.castA (t_impl_TorqueOf (v_laws_toMesh aM_0) (v_laws_toVectorS aForces_1) (show (v_laws_toMesh aM_0).Places.length ≤ 1073741824 from (by first | assumption | omega | (intro t ht; (try simp at ht); have q := z0.2.2.2.2 t ht; have q1 := of_decide_eq_false h0; omega) | (simp at * <;> omega) | (simp_all <;> omega))) (show (v_laws_toMesh aM_0).Triangles.length ≤ 1073741824 from (by first | assumption | omega | (intro t ht; (try simp at ht); have q := z0.2.2.2.2 t ht; have q1 := of_decide_eq_false h0; omega) | (simp at * <;> omega) | (simp_all <;> omega))) (show ∀ t ∈ (v_laws_toMesh aM_0).Triangles, t.length ≤ 1073741824 from (by first | assumption | omega | (intro t ht; (try simp at ht); have q := z0.2.2.2.2 t ht; have q1 := of_decide_eq_false h0; omega) | (simp at * <;> omega) | (simp_all <;> omega))) (show (v_laws_toVectorS aForces_1).length ≤ 1073741824 from (by first | assumption | omega | (intro t ht; (try simp at ht); have q := z0.2.2.2.2 t ht; have q1 := of_decide_eq_false h0; omega) | (simp at * <;> omega) | (simp_all <;> omega)))) (by simp [cL, Function.comp_def])), (t_laws_eqVector ((v_impl_TorqueOf (v_laws_toMesh aM_0) (v_laws_toVectorS aForces_1)).1) ((v_spec_TorqueOf (v_laws_toMesh aM_0) (v_laws_toVectorS aForces_1)).1)), (congrArg not h2), (congrArg not h2), (congrArg not h2), (congrArg not h2), (congrArg not h3), (t_laws_toMesh aM_0 (show aM_0.Places.length ≤ 1073741824 from (by first | assumption | omega | (intro t ht; (try simp at ht); have q := z0.2.2.2.2 t ht; have q1 := of_decide_eq_false h0; omega) | (simp at * <;> omega) | (simp_all <;> omega))) (show aM_0.Triangles.length ≤ 1073741824 from (by first | assumption | omega | (intro t ht; (try simp at ht); have q := z0.2.2.2.2 t ht; have q1 := of_decide_eq_false h0; omega) | (simp at * <;> omega) | (simp_all <;> omega))) (show ∀ t ∈ aM_0.Triangles, t.length ≤ 1073741824 from (by first | assumption | omega | (intro t ht; (try simp at ht); have q := z0.2.2.2.2 t ht; have q1 := of_decide_eq_false h0; omega) | (simp at * <;> omega) | (simp_all <;> omega)))), (Fn.castA (t_laws_eqMesh (v_laws_toMesh aM_0) (v_laws_toMesh aM_0) (show (v_laws_toMesh aM_0).Places.length ≤ 1073741824 from (by first | assumption | omega | (intro t ht; (try simp at ht); have q := z0.2.2.2.2 t ht; have q1 := of_decide_eq_false h0; omega) | (simp at * <;> omega) | (simp_all <;> omega))) (show (v_laws_toMesh aM_0).Triangles.length ≤ 1073741824 from (by first | assumption | omega | (intro t ht; (try simp at ht); have q := z0.2.2.2.2 t ht; have q1 := of_decide_eq_false h0; omega) | (simp at * <;> omega) | (simp_all <;> omega))) (show ∀ t ∈ (v_laws_toMesh aM_0).Triangles, t.length ≤ 1073741824 from (by first | assumption | omega | (intro t ht; (try simp at ht); have q := z0.2.2.2.2 t ht; have q1 := of_decide_eq_false h0; omega) | (simp at * <;> omega) | (simp_all <;> omega))) (show (v_laws_toMesh aM_0).Places.length ≤ 1073741824 from (by first | assumption | omega | (intro t ht; (try simp at ht); have q := z0.2.2.2.2 t ht; have q1 := of_decide_eq_false h0; omega) | (simp at * <;> omega) | (simp_all <;> omega))) (show (v_laws_toMesh aM_0).Triangles.length ≤ 1073741824 from (by first | assumption | omega | (intro t ht; (try simp at ht); have q := z0.2.2.2.2 t ht; have q1 := of_decide_eq_false h0; omega) | (simp at * <;> omega) | (simp_all <;> omega))) (show ∀ t ∈ (v_laws_toMesh aM_0).Triangles, t.length ≤ 1073741824 from (by first | assumption | omega | (intro t ht; (try simp at ht); have q := z0.2.2.2.2 t ht; have q1 := of_decide_eq_false h0; omega) | (simp at * <;> omega) | (simp_all <;> omega)))) (by simp [cL, Function.comp_def])), (congrArg not h4), (t_laws_toVectorS aForces_1 (show aForces_1.length ≤ 1073741824 from (by first | assumption | omega | (intro t ht; (try simp at ht); have q := z0.2.2.2.2 t ht; have q1 := of_decide_eq_false h0; omega) | (simp at * <;> omega) | (simp_all <;> omega)))), (t_laws_eqVectorS (v_laws_toVectorS aForces_1) (v_laws_toVectorS aForces_1) (show (v_laws_toVectorS aForces_1).length ≤ 1073741824 from (by first | assumption | omega | (intro t ht; (try simp at ht); have q := z0.2.2.2.2 t ht; have q1 := of_decide_eq_false h0; omega) | (simp at * <;> omega) | (simp_all <;> omega))) (show (v_laws_toVectorS aForces_1).length ≤ 1073741824 from (by first | assumption | omega | (intro t ht; (try simp at ht); have q := z0.2.2.2.2 t ht; have q1 := of_decide_eq_false h0; omega) | (simp at * <;> omega) | (simp_all <;> omega)))), (congrArg not h5), trivial⟩) (by simp only [v_laws_FnExactTorqueOf, h0, h1, h2, h3, h4, h5, cond_true, cond_false]) rfl
            | false =>
              exact Fn.cast (fn_of_ev E0Ok hMixed (c := bodyOf Go.Proofs.Try.f13) (r := .b false) (new := [])
                (ans := [.call (.i .i64 (v_laws_szMesh aM_0 1048576)) [], .bo false, .call (.i .i64 (v_laws_szVectorS aForces_1 (v_laws_szMesh aM_0 1048576))) [], .bo false, .call (.agg [.own 0, .own 1]) [.vec 33 3 (((v_laws_toMesh aM_0).Places).map GVector.cells) false, .nest 95 (((v_laws_toMesh aM_0).Triangles).map fun l => l.map (cI .i64)) false], .call (.own 0) [.vec 33 3 ((v_laws_toVectorS aForces_1).map GVector.cells) false], .call (.tup [.agg [.f .f32 ((v_spec_TorqueOf (v_laws_toMesh aM_0) (v_laws_toVectorS aForces_1)).1.X), .f .f32 ((v_spec_TorqueOf (v_laws_toMesh aM_0) (v_laws_toVectorS aForces_1)).1.Y), .f .f32 ((v_spec_TorqueOf (v_laws_toMesh aM_0) (v_laws_toVectorS aForces_1)).1.Z)], .b ((v_spec_TorqueOf (v_laws_toMesh aM_0) (v_laws_toVectorS aForces_1)).2)]) [], .call (.agg [.own 0, .own 1]) [.vec 33 3 (((v_laws_toMesh aM_0).Places).map GVector.cells) false, .nest 95 (((v_laws_toMesh aM_0).Triangles).map fun l => l.map (cI .i64)) false], .call (.own 0) [.vec 33 3 ((v_laws_toVectorS aForces_1).map GVector.cells) false], .call (.tup [.agg [.f .f32 ((v_impl_TorqueOf (v_laws_toMesh aM_0) (v_laws_toVectorS aForces_1)).1.X), .f .f32 ((v_impl_TorqueOf (v_laws_toMesh aM_0) (v_laws_toVectorS aForces_1)).1.Y), .f .f32 ((v_impl_TorqueOf (v_laws_toMesh aM_0) (v_laws_toVectorS aForces_1)).1.Z)], .b ((v_impl_TorqueOf (v_laws_toMesh aM_0) (v_laws_toVectorS aForces_1)).2)]) [], .call (.b (nd_laws_FnExactTorqueOf_0 aM_0 aForces_1)) [], .bo false, .bo false, .bo false, .bo false, .bo false, .keep [3, 3], .call (.agg [.own 0, .own 1]) [.vec 33 3 (((v_laws_toMesh aM_0).Places).map GVector.cells) false, .nest 95 (((v_laws_toMesh aM_0).Triangles).map fun l => l.map (cI .i64)) false], .call (.b (v_laws_eqMesh (v_laws_toMesh aM_0) (v_laws_toMesh aM_0))) [], .bo false, .call (.own 0) [.vec 33 3 ((v_laws_toVectorS aForces_1).map GVector.cells) false], .call (.b (v_laws_eqVectorS (v_laws_toVectorS aForces_1) (v_laws_toVectorS aForces_1))) [], .bo true, .keep []])
                (C := [Fn Go.Proofs.Try.prog 40 [.agg [.sl (aM_0.Places.map GVector.cells), .sl (aM_0.Triangles.map (cL (cI .i64)))], .i .i64 1048576] (.i .i64 (v_laws_szMesh aM_0 1048576)) [],
                  (decide ((v_laws_szMesh aM_0 1048576) < 0)) = false,
                  Fn Go.Proofs.Try.prog 21 [.sl (aForces_1.map GVector.cells), .i .i64 (v_laws_szMesh aM_0 1048576)] (.i .i64 (v_laws_szVectorS aForces_1 (v_laws_szMesh aM_0 1048576))) [],
                  (decide ((v_laws_szVectorS aForces_1 (v_laws_szMesh aM_0 1048576)) < 0)) = false,
                  Fn Go.Proofs.Try.prog 42 [.agg [.sl (aM_0.Places.map GVector.cells), .sl (aM_0.Triangles.map (cL (cI .i64)))]] (.agg [.own 0, .own 1]) [.vec 33 3 (((v_laws_toMesh aM_0).Places).map GVector.cells) false, .nest 95 (((v_laws_toMesh aM_0).Triangles).map fun l => l.map (cI .i64)) false],
                  Fn Go.Proofs.Try.prog 23 [.sl (aForces_1.map GVector.cells)] (.own 0) [.vec 33 3 ((v_laws_toVectorS aForces_1).map GVector.cells) false],
                  Fn Go.Proofs.Try.prog 45 [.agg [.sl (((v_laws_toMesh aM_0).Places).map GVector.cells), .sl ((((v_laws_toMesh aM_0).Triangles).map fun l => l.map (cI .i64)).map fun l => [.sl l])], .sl ((v_laws_toVectorS aForces_1).map GVector.cells)] (.tup [.agg [.f .f32 ((v_spec_TorqueOf (v_laws_toMesh aM_0) (v_laws_toVectorS aForces_1)).1.X), .f .f32 ((v_spec_TorqueOf (v_laws_toMesh aM_0) (v_laws_toVectorS aForces_1)).1.Y), .f .f32 ((v_spec_TorqueOf (v_laws_toMesh aM_0) (v_laws_toVectorS aForces_1)).1.Z)], .b ((v_spec_TorqueOf (v_laws_toMesh aM_0) (v_laws_toVectorS aForces_1)).2)]) [],
                  Fn Go.Proofs.Try.prog 42 [.agg [.sl (aM_0.Places.map GVector.cells), .sl (aM_0.Triangles.map (cL (cI .i64)))]] (.agg [.own 0, .own 1]) [.vec 33 3 (((v_laws_toMesh aM_0).Places).map GVector.cells) false, .nest 95 (((v_laws_toMesh aM_0).Triangles).map fun l => l.map (cI .i64)) false],
                  Fn Go.Proofs.Try.prog 23 [.sl (aForces_1.map GVector.cells)] (.own 0) [.vec 33 3 ((v_laws_toVectorS aForces_1).map GVector.cells) false],
                  Fn Go.Proofs.Try.prog 46 [.agg [.sl (((v_laws_toMesh aM_0).Places).map GVector.cells), .sl ((((v_laws_toMesh aM_0).Triangles).map fun l => l.map (cI .i64)).map fun l => [.sl l])], .sl ((v_laws_toVectorS aForces_1).map GVector.cells)] (.tup [.agg [.f .f32 ((v_impl_TorqueOf (v_laws_toMesh aM_0) (v_laws_toVectorS aForces_1)).1.X), .f .f32 ((v_impl_TorqueOf (v_laws_toMesh aM_0) (v_laws_toVectorS aForces_1)).1.Y), .f .f32 ((v_impl_TorqueOf (v_laws_toMesh aM_0) (v_laws_toVectorS aForces_1)).1.Z)], .b ((v_impl_TorqueOf (v_laws_toMesh aM_0) (v_laws_toVectorS aForces_1)).2)]) [],
                  Fn Go.Proofs.Try.prog 25 [.agg [.f .f32 ((v_impl_TorqueOf (v_laws_toMesh aM_0) (v_laws_toVectorS aForces_1)).1.X), .f .f32 ((v_impl_TorqueOf (v_laws_toMesh aM_0) (v_laws_toVectorS aForces_1)).1.Y), .f .f32 ((v_impl_TorqueOf (v_laws_toMesh aM_0) (v_laws_toVectorS aForces_1)).1.Z)], .agg [.f .f32 ((v_spec_TorqueOf (v_laws_toMesh aM_0) (v_laws_toVectorS aForces_1)).1.X), .f .f32 ((v_spec_TorqueOf (v_laws_toMesh aM_0) (v_laws_toVectorS aForces_1)).1.Y), .f .f32 ((v_spec_TorqueOf (v_laws_toMesh aM_0) (v_laws_toVectorS aForces_1)).1.Z)]] (.b (nd_laws_FnExactTorqueOf_0 aM_0 aForces_1)) [],
                  (!(nd_laws_FnExactTorqueOf_0 aM_0 aForces_1)) = false,
                  (!(nd_laws_FnExactTorqueOf_0 aM_0 aForces_1)) = false,
                  (!(nd_laws_FnExactTorqueOf_0 aM_0 aForces_1)) = false,
                  (!(nd_laws_FnExactTorqueOf_0 aM_0 aForces_1)) = false,
                  (!((v_impl_TorqueOf (v_laws_toMesh aM_0) (v_laws_toVectorS aForces_1)).2 == (v_spec_TorqueOf (v_laws_toMesh aM_0) (v_laws_toVectorS aForces_1)).2)) = false,
                  Fn Go.Proofs.Try.prog 42 [.agg [.sl (aM_0.Places.map GVector.cells), .sl (aM_0.Triangles.map (cL (cI .i64)))]] (.agg [.own 0, .own 1]) [.vec 33 3 (((v_laws_toMesh aM_0).Places).map GVector.cells) false, .nest 95 (((v_laws_toMesh aM_0).Triangles).map fun l => l.map (cI .i64)) false],
                  Fn Go.Proofs.Try.prog 44 [.agg [.sl (((v_laws_toMesh aM_0).Places).map GVector.cells), .sl ((((v_laws_toMesh aM_0).Triangles).map fun l => l.map (cI .i64)).map fun l => [.sl l])], .agg [.sl (((v_laws_toMesh aM_0).Places).map GVector.cells), .sl ((((v_laws_toMesh aM_0).Triangles).map fun l => l.map (cI .i64)).map fun l => [.sl l])]] (.b (v_laws_eqMesh (v_laws_toMesh aM_0) (v_laws_toMesh aM_0))) [],
                  (!(v_laws_eqMesh (v_laws_toMesh aM_0) (v_laws_toMesh aM_0))) = false,
                  Fn Go.Proofs.Try.prog 23 [.sl (aForces_1.map GVector.cells)] (.own 0) [.vec 33 3 ((v_laws_toVectorS aForces_1).map GVector.cells) false],
                  Fn Go.Proofs.Try.prog 26 [.sl ((v_laws_toVectorS aForces_1).map GVector.cells), .sl ((v_laws_toVectorS aForces_1).map GVector.cells)] (.b (v_laws_eqVectorS (v_laws_toVectorS aForces_1) (v_laws_toVectorS aForces_1))) [],
                  (!(v_laws_eqVectorS (v_laws_toVectorS aForces_1) (v_laws_toVectorS aForces_1))) = true])
                Go.Proofs.Try.func13 rfl (by kernel_rfl) (by kernel_rfl)
                ⟨(t_laws_szMesh aM_0 1048576 (show aM_0.Places.length ≤ 9223372036854775807 from (by first | assumption | omega | (intro t ht; (try simp at ht); have q := z0.2.2.2.2 t ht; have q1 := of_decide_eq_false h0; omega) | (simp at * <;> omega) | (simp_all <;> omega))) (show aM_0.Triangles.length ≤ 9223372036854775807 from (by first | assumption | omega | (intro t ht; (try simp at ht); have q := z0.2.2.2.2 t ht; have q1 := of_decide_eq_false h0; omega) | (simp at * <;> omega) | (simp_all <;> omega))) (show ∀ t ∈ aM_0.Triangles, t.length ≤ 9223372036854775807 from (by first | assumption | omega | (intro t ht; (try simp at ht); have q := z0.2.2.2.2 t ht; have q1 := of_decide_eq_false h0; omega) | (simp at * <;> omega) | (simp_all <;> omega)))), h0, (t_laws_szVectorS aForces_1 (v_laws_szMesh aM_0 1048576) (show aForces_1.length ≤ 9223372036854775807 from (by first | assumption | omega | (intro t ht; (try simp at ht); have q := z0.2.2.2.2 t ht; have q1 := of_decide_eq_false h0; omega) | (simp at * <;> omega) | (simp_all <;> omega)))), h1, (t_laws_toMesh aM_0 (show aM_0.Places.length ≤ 1073741824 from (by first | assumption | omega | (intro t ht; (try simp at ht); have q := z0.2.2.2.2 t ht; have q1 := of_decide_eq_false h0; omega) | (simp at * <;> omega) | (simp_all <;> omega))) (show aM_0.Triangles.length ≤ 1073741824 from (by first | assumption | omega | (intro t ht; (try simp at ht); have q := z0.2.2.2.2 t ht; have q1 := of_decide_eq_false h0; omega) | (simp at * <;> omega) | (simp_all <;> omega))) (show ∀ t ∈ aM_0.Triangles, t.length ≤ 1073741824 from (by first | assumption | omega | (intro t ht; (try simp at ht); have q := z0.2.2.2.2 t ht; have q1 := of_decide_eq_false h0; omega) | (simp at * <;> omega) | (simp_all <;> omega)))), (t_laws_toVectorS aForces_1 (show aForces_1.length ≤ 1073741824 from (by first | assumption | omega | (intro t ht; (try simp at ht); have q := z0.2.2.2.2 t ht; have q1 := of_decide_eq_false h0; omega) | (simp at * <;> omega) | (simp_all <;> omega)))), (Fn.castA (t_spec_TorqueOf (v_laws_toMesh aM_0) (v_laws_toVectorS aForces_1) (show (v_laws_toMesh aM_0).Places.length ≤ 1073741824 from (by first | assumption | omega | (intro t ht; (try simp at ht); have q := z0.2.2.2.2 t ht; have q1 := of_decide_eq_false h0; omega) | (simp at * <;> omega) | (simp_all <;> omega))) (show (v_laws_toMesh aM_0).Triangles.length ≤ 1073741824 from (by first | assumption | omega | (intro t ht; (try simp at ht); have q := z0.2.2.2.2 t ht; have q1 := of_decide_eq_false h0; omega) | (simp at * <;> omega) | (simp_all <;> omega))) (show ∀ t ∈ (v_laws_toMesh aM_0).Triangles, t.length ≤ 1073741824 from (by first | assumption | omega | (intro t ht; (try simp at ht); have q := z0.2.2.2.2 t ht; have q1 := of_decide_eq_false h0; omega) | (simp at * <;> omega) | (simp_all <;> omega))) (show (v_laws_toVectorS aForces_1).length ≤ 1073741824 from (by first | assumption | omega | (intro t ht; (try simp at ht); have q := z0.2.2.2.2 t ht; have q1 := of_decide_eq_false h0; omega) | (simp at * <;> omega) | (simp_all <;> omega)))) (by simp [cL, Function.comp_def])), (t_laws_toMesh aM_0 (show aM_0.Places.length ≤ 1073741824 from (by first | assumption | omega | (intro t ht; (try simp at ht); have q := z0.2.2.2.2 t ht; have q1 := of_decide_eq_false h0; omega) | (simp at * <;> omega) | (simp_all <;> omega))) (show aM_0.Triangles.length ≤ 1073741824 from (by first | assumption | omega | (intro t ht; (try simp at ht); have q := z0.2.2.2.2 t ht; have q1 := of_decide_eq_false h0; omega) | (simp at * <;> omega) | (simp_all <;> omega))) (show ∀ t ∈ aM_0.Triangles, t.length ≤ 1073741824 from (by first | assumption | omega | (intro t ht; (try simp at ht); have q := z0.2.2.2.2 t ht; have q1 := of_decide_eq_false h0; omega) | (simp at * <;> omega) | (simp_all <;> omega)))), (t_laws_toVectorS aForces_1 (show aForces_1.length ≤ 1073741824 from (by first | assumption | omega | (intro t ht; (try simp at ht); have q := z0.2.2.2.2 t ht; have q1 := of_decide_eq_false h0; omega) | (simp at * <;> omega) | (simp_all <;> omega)))), (Fn.castA (t_impl_TorqueOf (v_laws_toMesh aM_0) (v_laws_toVectorS aForces_1) (show (v_laws_toMesh aM_0).Places.length ≤ 1073741824 from (by first | assumption | omega | (intro t ht; (try simp at ht); have q := z0.2.2.2.2 t ht; have q1 := of_decide_eq_false h0; omega) | (simp at * <;> omega) | (simp_all <;> omega))) (show (v_laws_toMesh aM_0).Triangles.length ≤ 1073741824 from (by first | assumption | omega | (intro t ht; (try simp at ht); have q := z0.2.2.2.2 t ht; have q1 := of_decide_eq_false h0; omega) | (simp at * <;> omega) | (simp_all <;> omega))) (show ∀ t ∈ (v_laws_toMesh aM_0).Triangles, t.length ≤ 1073741824 from (by first | assumption | omega | (intro t ht; (try simp at ht); have q := z0.2.2.2.2 t ht; have q1 := of_decide_eq_false h0; omega) | (simp at * <;> omega) | (simp_all <;> omega))) (show (v_laws_toVectorS aForces_1).length ≤ 1073741824 from (by first | assumption | omega | (intro t ht; (try simp at ht); have q := z0.2.2.2.2 t ht; have q1 := of_decide_eq_false h0; omega) | (simp at * <;> omega) | (simp_all <;> omega)))) (by simp [cL, Function.comp_def])), (t_laws_eqVector ((v_impl_TorqueOf (v_laws_toMesh aM_0) (v_laws_toVectorS aForces_1)).1) ((v_spec_TorqueOf (v_laws_toMesh aM_0) (v_laws_toVectorS aForces_1)).1)), (congrArg not h2), (congrArg not h2), (congrArg not h2), (congrArg not h2), (congrArg not h3), (t_laws_toMesh aM_0 (show aM_0.Places.length ≤ 1073741824 from (by first | assumption | omega | (intro t ht; (try simp at ht); have q := z0.2.2.2.2 t ht; have q1 := of_decide_eq_false h0; omega) | (simp at * <;> omega) | (simp_all <;> omega))) (show aM_0.Triangles.length ≤ 1073741824 from (by first | assumption | omega | (intro t ht; (try simp at ht); have q := z0.2.2.2.2 t ht; have q1 := of_decide_eq_false h0; omega) | (simp at * <;> omega) | (simp_all <;> omega))) (show ∀ t ∈ aM_0.Triangles, t.length ≤ 1073741824 from (by first | assumption | omega | (intro t ht; (try simp at ht); have q := z0.2.2.2.2 t ht; have q1 := of_decide_eq_false h0; omega) | (simp at * <;> omega) | (simp_all <;> omega)))), (Fn.castA (t_laws_eqMesh (v_laws_toMesh aM_0) (v_laws_toMesh aM_0) (show (v_laws_toMesh aM_0).Places.length ≤ 1073741824 from (by first | assumption | omega | (intro t ht; (try simp at ht); have q := z0.2.2.2.2 t ht; have q1 := of_decide_eq_false h0; omega) | (simp at * <;> omega) | (simp_all <;> omega))) (show (v_laws_toMesh aM_0).Triangles.length ≤ 1073741824 from (by first | assumption | omega | (intro t ht; (try simp at ht); have q := z0.2.2.2.2 t ht; have q1 := of_decide_eq_false h0; omega) | (simp at * <;> omega) | (simp_all <;> omega))) (show ∀ t ∈ (v_laws_toMesh aM_0).Triangles, t.length ≤ 1073741824 from (by first | assumption | omega | (intro t ht; (try simp at ht); have q := z0.2.2.2.2 t ht; have q1 := of_decide_eq_false h0; omega) | (simp at * <;> omega) | (simp_all <;> omega))) (show (v_laws_toMesh aM_0).Places.length ≤ 1073741824 from (by first | assumption | omega | (intro t ht; (try simp at ht); have q := z0.2.2.2.2 t ht; have q1 := of_decide_eq_false h0; omega) | (simp at * <;> omega) | (simp_all <;> omega))) (show (v_laws_toMesh aM_0).Triangles.length ≤ 1073741824 from (by first | assumption | omega | (intro t ht; (try simp at ht); have q := z0.2.2.2.2 t ht; have q1 := of_decide_eq_false h0; omega) | (simp at * <;> omega) | (simp_all <;> omega))) (show ∀ t ∈ (v_laws_toMesh aM_0).Triangles, t.length ≤ 1073741824 from (by first | assumption | omega | (intro t ht; (try simp at ht); have q := z0.2.2.2.2 t ht; have q1 := of_decide_eq_false h0; omega) | (simp at * <;> omega) | (simp_all <;> omega)))) (by simp [cL, Function.comp_def])), (congrArg not h4), (t_laws_toVectorS aForces_1 (show aForces_1.length ≤ 1073741824 from (by first | assumption | omega | (intro t ht; (try simp at ht); have q := z0.2.2.2.2 t ht; have q1 := of_decide_eq_false h0; omega) | (simp at * <;> omega) | (simp_all <;> omega)))), (t_laws_eqVectorS (v_laws_toVectorS aForces_1) (v_laws_toVectorS aForces_1) (show (v_laws_toVectorS aForces_1).length ≤ 1073741824 from (by first | assumption | omega | (intro t ht; (try simp at ht); have q := z0.2.2.2.2 t ht; have q1 := of_decide_eq_false h0; omega) | (simp at * <;> omega) | (simp_all <;> omega))) (show (v_laws_toVectorS aForces_1).length ≤ 1073741824 from (by first | assumption | omega | (intro t ht; (try simp at ht); have q := z0.2.2.2.2 t ht; have q1 := of_decide_eq_false h0; omega) | (simp at * <;> omega) | (simp_all <;> omega)))), (congrArg not h5), trivial⟩) (by simp only [v_laws_FnExactTorqueOf, h0, h1, h2, h3, h4, h5, cond_true, cond_false]) rfl
          | false =>
            exact Fn.cast (fn_of_ev E0Ok hMixed (c := bodyOf Go.Proofs.Try.f13) (r := .b false) (new := [])
              (ans := [.call (.i .i64 (v_laws_szMesh aM_0 1048576)) [], .bo false, .call (.i .i64 (v_laws_szVectorS aForces_1 (v_laws_szMesh aM_0 1048576))) [], .bo false, .call (.agg [.own 0, .own 1]) [.vec 33 3 (((v_laws_toMesh aM_0).Places).map GVector.cells) false, .nest 95 (((v_laws_toMesh aM_0).Triangles).map fun l => l.map (cI .i64)) false], .call (.own 0) [.vec 33 3 ((v_laws_toVectorS aForces_1).map GVector.cells) false], .call (.tup [.agg [.f .f32 ((v_spec_TorqueOf (v_laws_toMesh aM_0) (v_laws_toVectorS aForces_1)).1.X), .f .f32 ((v_spec_TorqueOf (v_laws_toMesh aM_0) (v_laws_toVectorS aForces_1)).1.Y), .f .f32 ((v_spec_TorqueOf (v_laws_toMesh aM_0) (v_laws_toVectorS aForces_1)).1.Z)], .b ((v_spec_TorqueOf (v_laws_toMesh aM_0) (v_laws_toVectorS aForces_1)).2)]) [], .call (.agg [.own 0, .own 1]) [.vec 33 3 (((v_laws_toMesh aM_0).Places).map GVector.cells) false, .nest 95 (((v_laws_toMesh aM_0).Triangles).map fun l => l.map (cI .i64)) false], .call (.own 0) [.vec 33 3 ((v_laws_toVectorS aForces_1).map GVector.cells) false], .call (.tup [.agg [.f .f32 ((v_impl_TorqueOf (v_laws_toMesh aM_0) (v_laws_toVectorS aForces_1)).1.X), .f .f32 ((v_impl_TorqueOf (v_laws_toMesh aM_0) (v_laws_toVectorS aForces_1)).1.Y), .f .f32 ((v_impl_TorqueOf (v_laws_toMesh aM_0) (v_laws_toVectorS aForces_1)).1.Z)], .b ((v_impl_TorqueOf (v_laws_toMesh aM_0) (v_laws_toVectorS aForces_1)).2)]) [], .call (.b (nd_laws_FnExactTorqueOf_0 aM_0 aForces_1)) [], .bo false, .bo false, .bo false, .bo false, .bo false, .keep [3, 3], .call (.agg [.own 0, .own 1]) [.vec 33 3 (((v_laws_toMesh aM_0).Places).map GVector.cells) false, .nest 95 (((v_laws_toMesh aM_0).Triangles).map fun l => l.map (cI .i64)) false], .call (.b (v_laws_eqMesh (v_laws_toMesh aM_0) (v_laws_toMesh aM_0))) [], .bo true, .keep []])
              (C := [Fn Go.Proofs.Try.prog 40 [.agg [.sl (aM_0.Places.map GVector.cells), .sl (aM_0.Triangles.map (cL (cI .i64)))], .i .i64 1048576] (.i .i64 (v_laws_szMesh aM_0 1048576)) [],
                (decide ((v_laws_szMesh aM_0 1048576) < 0)) = false,
                Fn Go.Proofs.Try.prog 21 [.sl (aForces_1.map GVector.cells), .i .i64 (v_laws_szMesh aM_0 1048576)] (.i .i64 (v_laws_szVectorS aForces_1 (v_laws_szMesh aM_0 1048576))) [],
                (decide ((v_laws_szVectorS aForces_1 (v_laws_szMesh aM_0 1048576)) < 0)) = false,
                Fn Go.Proofs.Try.prog 42 [.agg [.sl (aM_0.Places.map GVector.cells), .sl (aM_0.Triangles.map (cL (cI .i64)))]] (.agg [.own 0, .own 1]) [.vec 33 3 (((v_laws_toMesh aM_0).Places).map GVector.cells) false, .nest 95 (((v_laws_toMesh aM_0).Triangles).map fun l => l.map (cI .i64)) false],
                Fn Go.Proofs.Try.prog 23 [.sl (aForces_1.map GVector.cells)] (.own 0) [.vec 33 3 ((v_laws_toVectorS aForces_1).map GVector.cells) false],
                Fn Go.Proofs.Try.prog 45 [.agg [.sl (((v_laws_toMesh aM_0).Places).map GVector.cells), .sl ((((v_laws_toMesh aM_0).Triangles).map fun l => l.map (cI .i64)).map fun l => [.sl l])], .sl ((v_laws_toVectorS aForces_1).map GVector.cells)] (.tup [.agg [.f .f32 ((v_spec_TorqueOf (v_laws_toMesh aM_0) (v_laws_toVectorS aForces_1)).1.X), .f .f32 ((v_spec_TorqueOf (v_laws_toMesh aM_0) (v_laws_toVectorS aForces_1)).1.Y), .f .f32 ((v_spec_TorqueOf (v_laws_toMesh aM_0) (v_laws_toVectorS aForces_1)).1.Z)], .b ((v_spec_TorqueOf (v_laws_toMesh aM_0) (v_laws_toVectorS aForces_1)).2)]) [],
                Fn Go.Proofs.Try.prog 42 [.agg [.sl (aM_0.Places.map GVector.cells), .sl (aM_0.Triangles.map (cL (cI .i64)))]] (.agg [.own 0, .own 1]) [.vec 33 3 (((v_laws_toMesh aM_0).Places).map GVector.cells) false, .nest 95 (((v_laws_toMesh aM_0).Triangles).map fun l => l.map (cI .i64)) false],
                Fn Go.Proofs.Try.prog 23 [.sl (aForces_1.map GVector.cells)] (.own 0) [.vec 33 3 ((v_laws_toVectorS aForces_1).map GVector.cells) false],
                Fn Go.Proofs.Try.prog 46 [.agg [.sl (((v_laws_toMesh aM_0).Places).map GVector.cells), .sl ((((v_laws_toMesh aM_0).Triangles).map fun l => l.map (cI .i64)).map fun l => [.sl l])], .sl ((v_laws_toVectorS aForces_1).map GVector.cells)] (.tup [.agg [.f .f32 ((v_impl_TorqueOf (v_laws_toMesh aM_0) (v_laws_toVectorS aForces_1)).1.X), .f .f32 ((v_impl_TorqueOf (v_laws_toMesh aM_0) (v_laws_toVectorS aForces_1)).1.Y), .f .f32 ((v_impl_TorqueOf (v_laws_toMesh aM_0) (v_laws_toVectorS aForces_1)).1.Z)], .b ((v_impl_TorqueOf (v_laws_toMesh aM_0) (v_laws_toVectorS aForces_1)).2)]) [],
                Fn Go.Proofs.Try.prog 25 [.agg [.f .f32 ((v_impl_TorqueOf (v_laws_toMesh aM_0) (v_laws_toVectorS aForces_1)).1.X), .f .f32 ((v_impl_TorqueOf (v_laws_toMesh aM_0) (v_laws_toVectorS aForces_1)).1.Y), .f .f32 ((v_impl_TorqueOf (v_laws_toMesh aM_0) (v_laws_toVectorS aForces_1)).1.Z)], .agg [.f .f32 ((v_spec_TorqueOf (v_laws_toMesh aM_0) (v_laws_toVectorS aForces_1)).1.X), .f .f32 ((v_spec_TorqueOf (v_laws_toMesh aM_0) (v_laws_toVectorS aForces_1)).1.Y), .f .f32 ((v_spec_TorqueOf (v_laws_toMesh aM_0) (v_laws_toVectorS aForces_1)).1.Z)]] (.b (nd_laws_FnExactTorqueOf_0 aM_0 aForces_1)) [],
                (!(nd_laws_FnExactTorqueOf_0 aM_0 aForces_1)) = false,
                (!(nd_laws_FnExactTorqueOf_0 aM_0 aForces_1)) = false,
                (!(nd_laws_FnExactTorqueOf_0 aM_0 aForces_1)) = false,
                (!(nd_laws_FnExactTorqueOf_0 aM_0 aForces_1)) = false,
                (!((v_impl_TorqueOf (v_laws_toMesh aM_0) (v_laws_toVectorS aForces_1)).2 == (v_spec_TorqueOf (v_laws_toMesh aM_0) (v_laws_toVectorS aForces_1)).2)) = false,
                Fn Go.Proofs.Try.prog 42 [.agg [.sl (aM_0.Places.map GVector.cells), .sl (aM_0.Triangles.map (cL (cI .i64)))]] (.agg [.own 0, .own 1]) [.vec 33 3 (((v_laws_toMesh aM_0).Places).map GVector.cells) false, .nest 95 (((v_laws_toMesh aM_0).Triangles).map fun l => l.map (cI .i64)) false],
                Fn Go.Proofs.Try.prog 44 [.agg [.sl (((v_laws_toMesh aM_0).Places).map GVector.cells), .sl ((((v_laws_toMesh aM_0).Triangles).map fun l => l.map (cI .i64)).map fun l => [.sl l])], .agg [.sl (((v_laws_toMesh aM_0).Places).map GVector.cells), .sl ((((v_laws_toMesh aM_0).Triangles).map fun l => l.map (cI .i64)).map fun l => [.sl l])]] (.b (v_laws_eqMesh (v_laws_toMesh aM_0) (v_laws_toMesh aM_0))) [],
                (!(v_laws_eqMesh (v_laws_toMesh aM_0) (v_laws_toMesh aM_0))) = true])
              Go.Proofs.Try.func13 rfl (by kernel_rfl) (by kernel_rfl)
              ⟨(t_laws_szMesh aM_0 1048576 (show aM_0.Places.length ≤ 9223372036854775807 from (by first | assumption | omega | (intro t ht; (try simp at ht); have q := z0.2.2.2.2 t ht; have q1 := of_decide_eq_false h0; omega) | (simp at * <;> omega) | (simp_all <;> omega))) (show aM_0.Triangles.length ≤ 9223372036854775807 from (by first | assumption | omega | (intro t ht; (try simp at ht); have q := z0.2.2.2.2 t ht; have q1 := of_decide_eq_false h0; omega) | (simp at * <;> omega) | (simp_all <;> omega))) (show ∀ t ∈ aM_0.Triangles, t.length ≤ 9223372036854775807 from (by first | assumption | omega | (intro t ht; (try simp at ht); have q := z0.2.2.2.2 t ht; have q1 := of_decide_eq_false h0; omega) | (simp at * <;> omega) | (simp_all <;> omega)))), h0, (t_laws_szVectorS aForces_1 (v_laws_szMesh aM_0 1048576) (show aForces_1.length ≤ 9223372036854775807 from (by first | assumption | omega | (intro t ht; (try simp at ht); have q := z0.2.2.2.2 t ht; have q1 := of_decide_eq_false h0; omega) | (simp at * <;> omega) | (simp_all <;> omega)))), h1, (t_laws_toMesh aM_0 (show aM_0.Places.length ≤ 1073741824 from (by first | assumption | omega | (intro t ht; (try simp at ht); have q := z0.2.2.2.2 t ht; have q1 := of_decide_eq_false h0; omega) | (simp at * <;> omega) | (simp_all <;> omega))) (show aM_0.Triangles.length ≤ 1073741824 from (by first | assumption | omega | (intro t ht; (try simp at ht); have q := z0.2.2.2.2 t ht; have q1 := of_decide_eq_false h0; omega) | (simp at * <;> omega) | (simp_all <;> omega))) (show ∀ t ∈ aM_0.Triangles, t.length ≤ 1073741824 from (by first | assumption | omega | (intro t ht; (try simp at ht); have q := z0.2.2.2.2 t ht; have q1 := of_decide_eq_false h0; omega) | (simp at * <;> omega) | (simp_all <;> omega)))), (t_laws_toVectorS aForces_1 (show aForces_1.length ≤ 1073741824 from (by first | assumption | omega | (intro t ht; (try simp at ht); have q := z0.2.2.2.2 t ht; have q1 := of_decide_eq_false h0; omega) | (simp at * <;> omega) | (simp_all <;> omega)))), (Fn.castA (t_spec_TorqueOf (v_laws_toMesh aM_0) (v_laws_toVectorS aForces_1) (show (v_laws_toMesh aM_0).Places.length ≤ 1073741824 from (by first | assumption | omega | (intro t ht; (try simp at ht); have q := z0.2.2.2.2 t ht; have q1 := of_decide_eq_false h0; omega) | (simp at * <;> omega) | (simp_all <;> omega))) (show (v_laws_toMesh aM_0).Triangles.length ≤ 1073741824 from (by first | assumption | omega | (intro t ht; (try simp at ht); have q := z0.2.2.2.2 t ht; have q1 := of_decide_eq_false h0; omega) | (simp at * <;> omega) | (simp_all <;> omega))) (show ∀ t ∈ (v_laws_toMesh aM_0).Triangles, t.length ≤ 1073741824 from (by first | assumption | omega | (intro t ht; (try simp at ht); have q := z0.2.2.2.2 t ht; have q1 := of_decide_eq_false h0; omega) | (simp at * <;> omega) | (simp_all <;> omega))) (show (v_laws_toVectorS aForces_1).length ≤ 1073741824 from (by first | assumption | omega | (intro t ht; (try simp at ht); have q := z0.2.2.2.2 t ht; have q1 := of_decide_eq_false h0; omega) | (simp at * <;> omega) | (simp_all <;> omega)))) (by simp [cL, Function.comp_def])), (t_laws_toMesh aM_0 (show aM_0.Places.length ≤ 1073741824 from (by first | assumption | omega | (intro t ht; (try simp at ht); have q := z0.2.2.2.2 t ht; have q1 := of_decide_eq_false h0; omega) | (simp at * <;> omega) | (simp_all <;> omega))) (show aM_0.Triangles.length ≤ 1073741824 from (by first | assumption | omega | (intro t ht; (try simp at ht); have q := z0.2.2.2.2 t ht; have q1 := of_decide_eq_false h0; omega) | (simp at * <;> omega) | (simp_all <;> omega))) (show ∀ t ∈ aM_0.Triangles, t.length ≤ 1073741824 from (by first | assumption | omega | (intro t ht; (try simp at ht); have q := z0.2.2.2.2 t ht; have q1 := of_decide_eq_false h0; omega) | (simp at * <;> omega) | (simp_all <;> omega)))), (t_laws_toVectorS aForces_1 (show aForces_1.length ≤ 1073741824 from (by first | assumption | omega | (intro t ht; (try simp at ht); have q := z0.2.2.2.2 t ht; have q1 := of_decide_eq_false h0; omega) | (simp at * <;> omega) | (simp_all <;> omega)))), (Fn.castA (t_impl_TorqueOf (v_laws_toMesh aM_0) (v_laws_toVectorS aForces_1) (show (v_laws_toMesh aM_0).Places.length ≤ 1073741824 from (by first | assumption | omega | (intro t ht; (try simp at ht); have q := z0.2.2.2.2 t ht; have q1 := of_decide_eq_false h0; omega) | (simp at * <;> omega) | (simp_all <;> omega))) (show (v_laws_toMesh aM_0).Triangles.length ≤ 1073741824 from (by first | assumption | omega | (intro t ht; (try simp at ht); have q := z0.2.2.2.2 t ht; have q1 := of_decide_eq_false h0; omega) | (simp at * <;> omega) | (simp_all <;> omega))) (show ∀ t ∈ (v_laws_toMesh aM_0).Triangles, t.length ≤ 1073741824 from (by first | assumption | omega | (intro t ht; (try simp at ht); have q := z0.2.2.2.2 t ht; have q1 := of_decide_eq_false h0; omega) | (simp at * <;> omega) | (simp_all <;> omega))) (show (v_laws_toVectorS aForces_1).length ≤ 1073741824 from (by first | assumption | omega | (intro t ht; (try simp at ht); have q := z0.2.2.2.2 t ht; have q1 := of_decide_eq_false h0; omega) | (simp at * <;> omega) | (simp_all <;> omega)))) (by simp [cL, Function.comp_def])), (t_laws_eqVector ((v_impl_TorqueOf (v_laws_toMesh aM_0) (v_laws_toVectorS aForces_1)).1) ((v_spec_TorqueOf (v_laws_toMesh aM_0) (v_laws_toVectorS aForces_1)).1)), (congrArg not h2), (congrArg not h2), (congrArg not h2), (congrArg not h2), (congrArg not h3), (t_laws_toMesh aM_0 (show aM_0.Places.length ≤ 1073741824 from (by first | assumption | omega | (intro t ht; (try simp at ht); have q := z0.2.2.2.2 t ht; have q1 := of_decide_eq_false h0; omega) | (simp at * <;> omega) | (simp_all <;> omega))) (show aM_0.Triangles.length ≤ 1073741824 from (by first | assumption | omega | (intro t ht; (try simp at ht); have q := z0.2.2.2.2 t ht; have q1 := of_decide_eq_false h0; omega) | (simp at * <;> omega) | (simp_all <;> omega))) (show ∀ t ∈ aM_0.Triangles, t.length ≤ 1073741824 from (by first | assumption | omega | (intro t ht; (try simp at ht); have q := z0.2.2.2.2 t ht; have q1 := of_decide_eq_false h0; omega) | (simp at * <;> omega) | (simp_all <;> omega)))), (Fn.castA (t_laws_eqMesh (v_laws_toMesh aM_0) (v_laws_toMesh aM_0) (show (v_laws_toMesh aM_0).Places.length ≤ 1073741824 from (by first | assumption | omega | (intro t ht; (try simp at ht); have q := z0.2.2.2.2 t ht; have q1 := of_decide_eq_false h0; omega) | (simp at * <;> omega) | (simp_all <;> omega))) (show (v_laws_toMesh aM_0).Triangles.length ≤ 1073741824 from (by first | assumption | omega | (intro t ht; (try simp at ht); have q := z0.2.2.2.2 t ht; have q1 := of_decide_eq_false h0; omega) | (simp at * <;> omega) | (simp_all <;> omega))) (show ∀ t ∈ (v_laws_toMesh aM_0).Triangles, t.length ≤ 1073741824 from (by first | assumption | omega | (intro t ht; (try simp at ht); have q := z0.2.2.2.2 t ht; have q1 := of_decide_eq_false h0; omega) | (simp at * <;> omega) | (simp_all <;> omega))) (show (v_laws_toMesh aM_0).Places.length ≤ 1073741824 from (by first | assumption | omega | (intro t ht; (try simp at ht); have q := z0.2.2.2.2 t ht; have q1 := of_decide_eq_false h0; omega) | (simp at * <;> omega) | (simp_all <;> omega))) (show (v_laws_toMesh aM_0).Triangles.length ≤ 1073741824 from (by first | assumption | omega | (intro t ht; (try simp at ht); have q := z0.2.2.2.2 t ht; have q1 := of_decide_eq_false h0; omega) | (simp at * <;> omega) | (simp_all <;> omega))) (show ∀ t ∈ (v_laws_toMesh aM_0).Triangles, t.length ≤ 1073741824 from (by first | assumption | omega | (intro t ht; (try simp at ht); have q := z0.2.2.2.2 t ht; have q1 := of_decide_eq_false h0; omega) | (simp at * <;> omega) | (simp_all <;> omega)))) (by simp [cL, Function.comp_def])), (congrArg not h4), trivial⟩) (by simp only [v_laws_FnExactTorqueOf, h0, h1, h2, h3, h4, cond_true, cond_false]) rfl
        | false =>
          exact Fn.cast (fn_of_ev E0Ok hMixed (c := bodyOf Go.Proofs.Try.f13) (r := .b false) (new := [])
            (ans := [.call (.i .i64 (v_laws_szMesh aM_0 1048576)) [], .bo false, .call (.i .i64 (v_laws_szVectorS aForces_1 (v_laws_szMesh aM_0 1048576))) [], .bo false, .call (.agg [.own 0, .own 1]) [.vec 33 3 (((v_laws_toMesh aM_0).Places).map GVector.cells) false, .nest 95 (((v_laws_toMesh aM_0).Triangles).map fun l => l.map (cI .i64)) false], .call (.own 0) [.vec 33 3 ((v_laws_toVectorS aForces_1).map GVector.cells) false], .call (.tup [.agg [.f .f32 ((v_spec_TorqueOf (v_laws_toMesh aM_0) (v_laws_toVectorS aForces_1)).1.X), .f .f32 ((v_spec_TorqueOf (v_laws_toMesh aM_0) (v_laws_toVectorS aForces_1)).1.Y), .f .f32 ((v_spec_TorqueOf (v_laws_toMesh aM_0) (v_laws_toVectorS aForces_1)).1.Z)], .b ((v_spec_TorqueOf (v_laws_toMesh aM_0) (v_laws_toVectorS aForces_1)).2)]) [], .call (.agg [.own 0, .own 1]) [.vec 33 3 (((v_laws_toMesh aM_0).Places).map GVector.cells) false, .nest 95 (((v_laws_toMesh aM_0).Triangles).map fun l => l.map (cI .i64)) false], .call (.own 0) [.vec 33 3 ((v_laws_toVectorS aForces_1).map GVector.cells) false], .call (.tup [.agg [.f .f32 ((v_impl_TorqueOf (v_laws_toMesh aM_0) (v_laws_toVectorS aForces_1)).1.X), .f .f32 ((v_impl_TorqueOf (v_laws_toMesh aM_0) (v_laws_toVectorS aForces_1)).1.Y), .f .f32 ((v_impl_TorqueOf (v_laws_toMesh aM_0) (v_laws_toVectorS aForces_1)).1.Z)], .b ((v_impl_TorqueOf (v_laws_toMesh aM_0) (v_laws_toVectorS aForces_1)).2)]) [], .call (.b (nd_laws_FnExactTorqueOf_0 aM_0 aForces_1)) [], .bo false, .bo false, .bo false, .bo false, .bo true, .keep []])
            (C := [Fn Go.Proofs.Try.prog 40 [.agg [.sl (aM_0.Places.map GVector.cells), .sl (aM_0.Triangles.map (cL (cI .i64)))], .i .i64 1048576] (.i .i64 (v_laws_szMesh aM_0 1048576)) [],
              (decide ((v_laws_szMesh aM_0 1048576) < 0)) = false,
              Fn Go.Proofs.Try.prog 21 [.sl (aForces_1.map GVector.cells), .i .i64 (v_laws_szMesh aM_0 1048576)] (.i .i64 (v_laws_szVectorS aForces_1 (v_laws_szMesh aM_0 1048576))) [],
              (decide ((v_laws_szVectorS aForces_1 (v_laws_szMesh aM_0 1048576)) < 0)) = false,
              Fn Go.Proofs.Try.prog 42 [.agg [.sl (aM_0.Places.map GVector.cells), .sl (aM_0.Triangles.map (cL (cI .i64)))]] (.agg [.own 0, .own 1]) [.vec 33 3 (((v_laws_toMesh aM_0).Places).map GVector.cells) false, .nest 95 (((v_laws_toMesh aM_0).Triangles).map fun l => l.map (cI .i64)) false],
              Fn Go.Proofs.Try.prog 23 [.sl (aForces_1.map GVector.cells)] (.own 0) [.vec 33 3 ((v_laws_toVectorS aForces_1).map GVector.cells) false],
              Fn Go.Proofs.Try.prog 45 [.agg [.sl (((v_laws_toMesh aM_0).Places).map GVector.cells), .sl ((((v_laws_toMesh aM_0).Triangles).map fun l => l.map (cI .i64)).map fun l => [.sl l])], .sl ((v_laws_toVectorS aForces_1).map GVector.cells)] (.tup [.agg [.f .f32 ((v_spec_TorqueOf (v_laws_toMesh aM_0) (v_laws_toVectorS aForces_1)).1.X), .f .f32 ((v_spec_TorqueOf (v_laws_toMesh aM_0) (v_laws_toVectorS aForces_1)).1.Y), .f .f32 ((v_spec_TorqueOf (v_laws_toMesh aM_0) (v_laws_toVectorS aForces_1)).1.Z)], .b ((v_spec_TorqueOf (v_laws_toMesh aM_0) (v_laws_toVectorS aForces_1)).2)]) [],
              Fn Go.Proofs.Try.prog 42 [.agg [.sl (aM_0.Places.map GVector.cells), .sl (aM_0.Triangles.map (cL (cI .i64)))]] (.agg [.own 0, .own 1]) [.vec 33 3 (((v_laws_toMesh aM_0).Places).map GVector.cells) false, .nest 95 (((v_laws_toMesh aM_0).Triangles).map fun l => l.map (cI .i64)) false],
              Fn Go.Proofs.Try.prog 23 [.sl (aForces_1.map GVector.cells)] (.own 0) [.vec 33 3 ((v_laws_toVectorS aForces_1).map GVector.cells) false],
              Fn Go.Proofs.Try.prog 46 [.agg [.sl (((v_laws_toMesh aM_0).Places).map GVector.cells), .sl ((((v_laws_toMesh aM_0).Triangles).map fun l => l.map (cI .i64)).map fun l => [.sl l])], .sl ((v_laws_toVectorS aForces_1).map GVector.cells)] (.tup [.agg [.f .f32 ((v_impl_TorqueOf (v_laws_toMesh aM_0) (v_laws_toVectorS aForces_1)).1.X), .f .f32 ((v_impl_TorqueOf (v_laws_toMesh aM_0) (v_laws_toVectorS aForces_1)).1.Y), .f .f32 ((v_impl_TorqueOf (v_laws_toMesh aM_0) (v_laws_toVectorS aForces_1)).1.Z)], .b ((v_impl_TorqueOf (v_laws_toMesh aM_0) (v_laws_toVectorS aForces_1)).2)]) [],
              Fn Go.Proofs.Try.prog 25 [.agg [.f .f32 ((v_impl_TorqueOf (v_laws_toMesh aM_0) (v_laws_toVectorS aForces_1)).1.X), .f .f32 ((v_impl_TorqueOf (v_laws_toMesh aM_0) (v_laws_toVectorS aForces_1)).1.Y), .f .f32 ((v_impl_TorqueOf (v_laws_toMesh aM_0) (v_laws_toVectorS aForces_1)).1.Z)], .agg [.f .f32 ((v_spec_TorqueOf (v_laws_toMesh aM_0) (v_laws_toVectorS aForces_1)).1.X), .f .f32 ((v_spec_TorqueOf (v_laws_toMesh aM_0) (v_laws_toVectorS aForces_1)).1.Y), .f .f32 ((v_spec_TorqueOf (v_laws_toMesh aM_0) (v_laws_toVectorS aForces_1)).1.Z)]] (.b (nd_laws_FnExactTorqueOf_0 aM_0 aForces_1)) [],
              (!(nd_laws_FnExactTorqueOf_0 aM_0 aForces_1)) = false,
              (!(nd_laws_FnExactTorqueOf_0 aM_0 aForces_1)) = false,
              (!(nd_laws_FnExactTorqueOf_0 aM_0 aForces_1)) = false,
              (!(nd_laws_FnExactTorqueOf_0 aM_0 aForces_1)) = false,
              (!((v_impl_TorqueOf (v_laws_toMesh aM_0) (v_laws_toVectorS aForces_1)).2 == (v_spec_TorqueOf (v_laws_toMesh aM_0) (v_laws_toVectorS aForces_1)).2)) = true])
            Go.Proofs.Try.func13 rfl (by kernel_rfl) (by kernel_rfl)
            ⟨(t_laws_szMesh aM_0 1048576 (show aM_0.Places.length ≤ 9223372036854775807 from (by first | assumption | omega | (intro t ht; (try simp at ht); have q := z0.2.2.2.2 t ht; have q1 := of_decide_eq_false h0; omega) | (simp at * <;> omega) | (simp_all <;> omega))) (show aM_0.Triangles.length ≤ 9223372036854775807 from (by first | assumption | omega | (intro t ht; (try simp at ht); have q := z0.2.2.2.2 t ht; have q1 := of_decide_eq_false h0; omega) | (simp at * <;> omega) | (simp_all <;> omega))) (show ∀ t ∈ aM_0.Triangles, t.length ≤ 9223372036854775807 from (by first | assumption | omega | (intro t ht; (try simp at ht); have q := z0.2.2.2.2 t ht; have q1 := of_decide_eq_false h0; omega) | (simp at * <;> omega) | (simp_all <;> omega)))), h0, (t_laws_szVectorS aForces_1 (v_laws_szMesh aM_0 1048576) (show aForces_1.length ≤ 9223372036854775807 from (by first | assumption | omega | (intro t ht; (try simp at ht); have q := z0.2.2.2.2 t ht; have q1 := of_decide_eq_false h0; omega) | (simp at * <;> omega) | (simp_all <;> omega)))), h1, (t_laws_toMesh aM_0 (show aM_0.Places.length ≤ 1073741824 from (by first | assumption | omega | (intro t ht; (try simp at ht); have q := z0.2.2.2.2 t ht; have q1 := of_decide_eq_false h0; omega) | (simp at * <;> omega) | (simp_all <;> omega))) (show aM_0.Triangles.length ≤ 1073741824 from (by first | assumption | omega | (intro t ht; (try simp at ht); have q := z0.2.2.2.2 t ht; have q1 := of_decide_eq_false h0; omega) | (simp at * <;> omega) | (simp_all <;> omega))) (show ∀ t ∈ aM_0.Triangles, t.length ≤ 1073741824 from (by first | assumption | omega | (intro t ht; (try simp at ht); have q := z0.2.2.2.2 t ht; have q1 := of_decide_eq_false h0; omega) | (simp at * <;> omega) | (simp_all <;> omega)))), (t_laws_toVectorS aForces_1 (show aForces_1.length ≤ 1073741824 from (by first | assumption | omega | (intro t ht; (try simp at ht); have q := z0.2.2.2.2 t ht; have q1 := of_decide_eq_false h0; omega) | (simp at * <;> omega) | (simp_all <;> omega)))), (Fn.castA (t_spec_TorqueOf (v_laws_toMesh aM_0) (v_laws_toVectorS aForces_1) (show (v_laws_toMesh aM_0).Places.length ≤ 1073741824 from (by first | assumption | omega | (intro t ht; (try simp at ht); have q := z0.2.2.2.2 t ht; have q1 := of_decide_eq_false h0; omega) | (simp at * <;> omega) | (simp_all <;> omega))) (show (v_laws_toMesh aM_0).Triangles.length ≤ 1073741824 from (by first | assumption | omega | (intro t ht; (try simp at ht); have q := z0.2.2.2.2 t ht; have q1 := of_decide_eq_false h0; omega) | (simp at * <;> omega) | (simp_all <;> omega))) (show ∀ t ∈ (v_laws_toMesh aM_0).Triangles, t.length ≤ 1073741824 from (by first | assumption | omega | (intro t ht; (try simp at ht); have q := z0.2.2.2.2 t ht; have q1 := of_decide_eq_false h0; omega) | (simp at * <;> omega) | (simp_all <;> omega))) (show (v_laws_toVectorS aForces_1).length ≤ 1073741824 from (by first | assumption | omega | (intro t ht; (try simp at ht); have q := z0.2.2.2.2 t ht; have q1 := of_decide_eq_false h0; omega) | (simp at * <;> omega) | (simp_all <;> omega)))) (by simp [cL, Function.comp_def])), (t_laws_toMesh aM_0 (show aM_0.Places.length ≤ 1073741824 from (by first | assumption | omega | (intro t ht; (try simp at ht); have q := z0.2.2.2.2 t ht; have q1 := of_decide_eq_false h0; omega) | (simp at * <;> omega) | (simp_all <;> omega))) (show aM_0.Triangles.length ≤ 1073741824 from (by first | assumption | omega | (intro t ht; (try simp at ht); have q := z0.2.2.2.2 t ht; have q1 := of_decide_eq_false h0; omega) | (simp at * <;> omega) | (simp_all <;> omega))) (show ∀ t ∈ aM_0.Triangles, t.length ≤ 1073741824 from (by first | assumption | omega | (intro t ht; (try simp at ht); have q := z0.2.2.2.2 t ht; have q1 := of_decide_eq_false h0; omega) | (simp at * <;> omega) | (simp_all <;> omega)))), (t_laws_toVectorS aForces_1 (show aForces_1.length ≤ 1073741824 from (by first | assumption | omega | (intro t ht; (try simp at ht); have q := z0.2.2.2.2 t ht; have q1 := of_decide_eq_false h0; omega) | (simp at * <;> omega) | (simp_all <;> omega)))), (Fn.castA (t_impl_TorqueOf (v_laws_toMesh aM_0) (v_laws_toVectorS aForces_1) (show (v_laws_toMesh aM_0).Places.length ≤ 1073741824 from (by first | assumption | omega | (intro t ht; (try simp at ht); have q := z0.2.2.2.2 t ht; have q1 := of_decide_eq_false h0; omega) | (simp at * <;> omega) | (simp_all <;> omega))) (show (v_laws_toMesh aM_0).Triangles.length ≤ 1073741824 from (by first | assumption | omega | (intro t ht; (try simp at ht); have q := z0.2.2.2.2 t ht; have q1 := of_decide_eq_false h0; omega) | (simp at * <;> omega) | (simp_all <;> omega))) (show ∀ t ∈ (v_laws_toMesh aM_0).Triangles, t.length ≤ 1073741824 from (by first | assumption | omega | (intro t ht; (try simp at ht); have q := z0.2.2.2.2 t ht; have q1 := of_decide_eq_false h0; omega) | (simp at * <;> omega) | (simp_all <;> omega))) (show (v_laws_toVectorS aForces_1).length ≤ 1073741824 from (by first | assumption | omega | (intro t ht; (try simp at ht); have q := z0.2.2.2.2 t ht; have q1 := of_decide_eq_false h0; omega) | (simp at * <;> omega) | (simp_all <;> omega)))) (by simp [cL, Function.comp_def])), (t_laws_eqVector ((v_impl_TorqueOf (v_laws_toMesh aM_0) (v_laws_toVectorS aForces_1)).1) ((v_spec_TorqueOf (v_laws_toMesh aM_0) (v_laws_toVectorS aForces_1)).1)), (congrArg not h2), (congrArg not h2), (congrArg not h2), (congrArg not h2), (congrArg not h3), trivial⟩) (by simp only [v_laws_FnExactTorqueOf, h0, h1, h2, h3, cond_true, cond_false]) rfl
      | false =>
        exact Fn.cast (fn_of_ev E0Ok hMixed (c := bodyOf Go.Proofs.Try.f13) (r := .b false) (new := [])
          (ans := [.call (.i .i64 (v_laws_szMesh aM_0 1048576)) [], .bo false, .call (.i .i64 (v_laws_szVectorS aForces_1 (v_laws_szMesh aM_0 1048576))) [], .bo false, .call (.agg [.own 0, .own 1]) [.vec 33 3 (((v_laws_toMesh aM_0).Places).map GVector.cells) false, .nest 95 (((v_laws_toMesh aM_0).Triangles).map fun l => l.map (cI .i64)) false], .call (.own 0) [.vec 33 3 ((v_laws_toVectorS aForces_1).map GVector.cells) false], .call (.tup [.agg [.f .f32 ((v_spec_TorqueOf (v_laws_toMesh aM_0) (v_laws_toVectorS aForces_1)).1.X), .f .f32 ((v_spec_TorqueOf (v_laws_toMesh aM_0) (v_laws_toVectorS aForces_1)).1.Y), .f .f32 ((v_spec_TorqueOf (v_laws_toMesh aM_0) (v_laws_toVectorS aForces_1)).1.Z)], .b ((v_spec_TorqueOf (v_laws_toMesh aM_0) (v_laws_toVectorS aForces_1)).2)]) [], .call (.agg [.own 0, .own 1]) [.vec 33 3 (((v_laws_toMesh aM_0).Places).map GVector.cells) false, .nest 95 (((v_laws_toMesh aM_0).Triangles).map fun l => l.map (cI .i64)) false], .call (.own 0) [.vec 33 3 ((v_laws_toVectorS aForces_1).map GVector.cells) false], .call (.tup [.agg [.f .f32 ((v_impl_TorqueOf (v_laws_toMesh aM_0) (v_laws_toVectorS aForces_1)).1.X), .f .f32 ((v_impl_TorqueOf (v_laws_toMesh aM_0) (v_laws_toVectorS aForces_1)).1.Y), .f .f32 ((v_impl_TorqueOf (v_laws_toMesh aM_0) (v_laws_toVectorS aForces_1)).1.Z)], .b ((v_impl_TorqueOf (v_laws_toMesh aM_0) (v_laws_toVectorS aForces_1)).2)]) [], .call (.b (nd_laws_FnExactTorqueOf_0 aM_0 aForces_1)) [], .bo true, .bo true, .bo true, .bo true, .bo true, .keep []])
          (C := [Fn Go.Proofs.Try.prog 40 [.agg [.sl (aM_0.Places.map GVector.cells), .sl (aM_0.Triangles.map (cL (cI .i64)))], .i .i64 1048576] (.i .i64 (v_laws_szMesh aM_0 1048576)) [],
            (decide ((v_laws_szMesh aM_0 1048576) < 0)) = false,
            Fn Go.Proofs.Try.prog 21 [.sl (aForces_1.map GVector.cells), .i .i64 (v_laws_szMesh aM_0 1048576)] (.i .i64 (v_laws_szVectorS aForces_1 (v_laws_szMesh aM_0 1048576))) [],
            (decide ((v_laws_szVectorS aForces_1 (v_laws_szMesh aM_0 1048576)) < 0)) = false,
            Fn Go.Proofs.Try.prog 42 [.agg [.sl (aM_0.Places.map GVector.cells), .sl (aM_0.Triangles.map (cL (cI .i64)))]] (.agg [.own 0, .own 1]) [.vec 33 3 (((v_laws_toMesh aM_0).Places).map GVector.cells) false, .nest 95 (((v_laws_toMesh aM_0).Triangles).map fun l => l.map (cI .i64)) false],
            Fn Go.Proofs.Try.prog 23 [.sl (aForces_1.map GVector.cells)] (.own 0) [.vec 33 3 ((v_laws_toVectorS aForces_1).map GVector.cells) false],
            Fn Go.Proofs.Try.prog 45 [.agg [.sl (((v_laws_toMesh aM_0).Places).map GVector.cells), .sl ((((v_laws_toMesh aM_0).Triangles).map fun l => l.map (cI .i64)).map fun l => [.sl l])], .sl ((v_laws_toVectorS aForces_1).map GVector.cells)] (.tup [.agg [.f .f32 ((v_spec_TorqueOf (v_laws_toMesh aM_0) (v_laws_toVectorS aForces_1)).1.X), .f .f32 ((v_spec_TorqueOf (v_laws_toMesh aM_0) (v_laws_toVectorS aForces_1)).1.Y), .f .f32 ((v_spec_TorqueOf (v_laws_toMesh aM_0) (v_laws_toVectorS aForces_1)).1.Z)], .b ((v_spec_TorqueOf (v_laws_toMesh aM_0) (v_laws_toVectorS aForces_1)).2)]) [],
            Fn Go.Proofs.Try.prog 42 [.agg [.sl (aM_0.Places.map GVector.cells), .sl (aM_0.Triangles.map (cL (cI .i64)))]] (.agg [.own 0, .own 1]) [.vec 33 3 (((v_laws_toMesh aM_0).Places).map GVector.cells) false, .nest 95 (((v_laws_toMesh aM_0).Triangles).map fun l => l.map (cI .i64)) false],
            Fn Go.Proofs.Try.prog 23 [.sl (aForces_1.map GVector.cells)] (.own 0) [.vec 33 3 ((v_laws_toVectorS aForces_1).map GVector.cells) false],
            Fn Go.Proofs.Try.prog 46 [.agg [.sl (((v_laws_toMesh aM_0).Places).map GVector.cells), .sl ((((v_laws_toMesh aM_0).Triangles).map fun l => l.map (cI .i64)).map fun l => [.sl l])], .sl ((v_laws_toVectorS aForces_1).map GVector.cells)] (.tup [.agg [.f .f32 ((v_impl_TorqueOf (v_laws_toMesh aM_0) (v_laws_toVectorS aForces_1)).1.X), .f .f32 ((v_impl_TorqueOf (v_laws_toMesh aM_0) (v_laws_toVectorS aForces_1)).1.Y), .f .f32 ((v_impl_TorqueOf (v_laws_toMesh aM_0) (v_laws_toVectorS aForces_1)).1.Z)], .b ((v_impl_TorqueOf (v_laws_toMesh aM_0) (v_laws_toVectorS aForces_1)).2)]) [],
            Fn Go.Proofs.Try.prog 25 [.agg [.f .f32 ((v_impl_TorqueOf (v_laws_toMesh aM_0) (v_laws_toVectorS aForces_1)).1.X), .f .f32 ((v_impl_TorqueOf (v_laws_toMesh aM_0) (v_laws_toVectorS aForces_1)).1.Y), .f .f32 ((v_impl_TorqueOf (v_laws_toMesh aM_0) (v_laws_toVectorS aForces_1)).1.Z)], .agg [.f .f32 ((v_spec_TorqueOf (v_laws_toMesh aM_0) (v_laws_toVectorS aForces_1)).1.X), .f .f32 ((v_spec_TorqueOf (v_laws_toMesh aM_0) (v_laws_toVectorS aForces_1)).1.Y), .f .f32 ((v_spec_TorqueOf (v_laws_toMesh aM_0) (v_laws_toVectorS aForces_1)).1.Z)]] (.b (nd_laws_FnExactTorqueOf_0 aM_0 aForces_1)) [],
            (!(nd_laws_FnExactTorqueOf_0 aM_0 aForces_1)) = true,
            (!(nd_laws_FnExactTorqueOf_0 aM_0 aForces_1)) = true,
            (!(nd_laws_FnExactTorqueOf_0 aM_0 aForces_1)) = true,
            (!(nd_laws_FnExactTorqueOf_0 aM_0 aForces_1)) = true,
            true = true])
          Go.Proofs.Try.func13 rfl (by kernel_rfl) (by kernel_rfl)
          ⟨(t_laws_szMesh aM_0 1048576 (show aM_0.Places.length ≤ 9223372036854775807 from (by first | assumption | omega | (intro t ht; (try simp at ht); have q := z0.2.2.2.2 t ht; have q1 := of_decide_eq_false h0; omega) | (simp at * <;> omega) | (simp_all <;> omega))) (show aM_0.Triangles.length ≤ 9223372036854775807 from (by first | assumption | omega | (intro t ht; (try simp at ht); have q := z0.2.2.2.2 t ht; have q1 := of_decide_eq_false h0; omega) | (simp at * <;> omega) | (simp_all <;> omega))) (show ∀ t ∈ aM_0.Triangles, t.length ≤ 9223372036854775807 from (by first | assumption | omega | (intro t ht; (try simp at ht); have q := z0.2.2.2.2 t ht; have q1 := of_decide_eq_false h0; omega) | (simp at * <;> omega) | (simp_all <;> omega)))), h0, (t_laws_szVectorS aForces_1 (v_laws_szMesh aM_0 1048576) (show aForces_1.length ≤ 9223372036854775807 from (by first | assumption | omega | (intro t ht; (try simp at ht); have q := z0.2.2.2.2 t ht; have q1 := of_decide_eq_false h0; omega) | (simp at * <;> omega) | (simp_all <;> omega)))), h1, (t_laws_toMesh aM_0 (show aM_0.Places.length ≤ 1073741824 from (by first | assumption | omega | (intro t ht; (try simp at ht); have q := z0.2.2.2.2 t ht; have q1 := of_decide_eq_false h0; omega) | (simp at * <;> omega) | (simp_all <;> omega))) (show aM_0.Triangles.length ≤ 1073741824 from (by first | assumption | omega | (intro t ht; (try simp at ht); have q := z0.2.2.2.2 t ht; have q1 := of_decide_eq_false h0; omega) | (simp at * <;> omega) | (simp_all <;> omega))) (show ∀ t ∈ aM_0.Triangles, t.length ≤ 1073741824 from (by first | assumption | omega | (intro t ht; (try simp at ht); have q := z0.2.2.2.2 t ht; have q1 := of_decide_eq_false h0; omega) | (simp at * <;> omega) | (simp_all <;> omega)))), (t_laws_toVectorS aForces_1 (show aForces_1.length ≤ 1073741824 from (by first | assumption | omega | (intro t ht; (try simp at ht); have q := z0.2.2.2.2 t ht; have q1 := of_decide_eq_false h0; omega) | (simp at * <;> omega) | (simp_all <;> omega)))), (Fn.castA (t_spec_TorqueOf (v_laws_toMesh aM_0) (v_laws_toVectorS aForces_1) (show (v_laws_toMesh aM_0).Places.length ≤ 1073741824 from (by first | assumption | omega | (intro t ht; (try simp at ht); have q := z0.2.2.2.2 t ht; have q1 := of_decide_eq_false h0; omega) | (simp at * <;> omega) | (simp_all <;> omega))) (show (v_laws_toMesh aM_0).Triangles.length ≤ 1073741824 from (by first | assumption | omega | (intro t ht; (try simp at ht); have q := z0.2.2.2.2 t ht; have q1 := of_decide_eq_false h0; omega) | (simp at * <;> omega) | (simp_all <;> omega))) (show ∀ t ∈ (v_laws_toMesh aM_0).Triangles, t.length ≤ 1073741824 from (by first | assumption | omega | (intro t ht; (try simp at ht); have q := z0.2.2.2.2 t ht; have q1 := of_decide_eq_false h0; omega) | (simp at * <;> omega) | (simp_all <;> omega))) (show (v_laws_toVectorS aForces_1).length ≤ 1073741824 from (by first | assumption | omega | (intro t ht; (try simp at ht); have q := z0.2.2.2.2 t ht; have q1 := of_decide_eq_false h0; omega) | (simp at * <;> omega) | (simp_all <;> omega)))) (by simp [cL, Function.comp_def])), (t_laws_toMesh aM_0 (show aM_0.Places.length ≤ 1073741824 from (by first | assumption | omega | (intro t ht; (try simp at ht); have q := z0.2.2.2.2 t ht; have q1 := of_decide_eq_false h0; omega) | (simp at * <;> omega) | (simp_all <;> omega))) (show aM_0.Triangles.length ≤ 1073741824 from (by first | assumption | omega | (intro t ht; (try simp at ht); have q := z0.2.2.2.2 t ht; have q1 := of_decide_eq_false h0; omega) | (simp at * <;> omega) | (simp_all <;> omega))) (show ∀ t ∈ aM_0.Triangles, t.length ≤ 1073741824 from (by first | assumption | omega | (intro t ht; (try simp at ht); have q := z0.2.2.2.2 t ht; have q1 := of_decide_eq_false h0; omega) | (simp at * <;> omega) | (simp_all <;> omega)))), (t_laws_toVectorS aForces_1 (show aForces_1.length ≤ 1073741824 from (by first | assumption | omega | (intro t ht; (try simp at ht); have q := z0.2.2.2.2 t ht; have q1 := of_decide_eq_false h0; omega) | (simp at * <;> omega) | (simp_all <;> omega)))), (Fn.castA (t_impl_TorqueOf (v_laws_toMesh aM_0) (v_laws_toVectorS aForces_1) (show (v_laws_toMesh aM_0).Places.length ≤ 1073741824 from (by first | assumption | omega | (intro t ht; (try simp at ht); have q := z0.2.2.2.2 t ht; have q1 := of_decide_eq_false h0; omega) | (simp at * <;> omega) | (simp_all <;> omega))) (show (v_laws_toMesh aM_0).Triangles.length ≤ 1073741824 from (by first | assumption | omega | (intro t ht; (try simp at ht); have q := z0.2.2.2.2 t ht; have q1 := of_decide_eq_false h0; omega) | (simp at * <;> omega) | (simp_all <;> omega))) (show ∀ t ∈ (v_laws_toMesh aM_0).Triangles, t.length ≤ 1073741824 from (by first | assumption | omega | (intro t ht; (try simp at ht); have q := z0.2.2.2.2 t ht; have q1 := of_decide_eq_false h0; omega) | (simp at * <;> omega) | (simp_all <;> omega))) (show (v_laws_toVectorS aForces_1).length ≤ 1073741824 from (by first | assumption | omega | (intro t ht; (try simp at ht); have q := z0.2.2.2.2 t ht; have q1 := of_decide_eq_false h0; omega) | (simp at * <;> omega) | (simp_all <;> omega)))) (by simp [cL, Function.comp_def])), (t_laws_eqVector ((v_impl_TorqueOf (v_laws_toMesh aM_0) (v_laws_toVectorS aForces_1)).1) ((v_spec_TorqueOf (v_laws_toMesh aM_0) (v_laws_toVectorS aForces_1)).1)), (congrArg not h2), (congrArg not h2), (congrArg not h2), (congrArg not h2), rfl, trivial⟩) (by simp only [v_laws_FnExactTorqueOf, h0, h1, h2, cond_false]) rfl

end Go.Ab
