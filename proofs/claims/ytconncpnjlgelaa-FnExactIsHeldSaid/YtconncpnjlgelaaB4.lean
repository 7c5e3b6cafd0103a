/- The functions of this seat as plain Lean, and that the program's are these. Printed by a program of the prover's own. -/
import Derived.Test.YtconncpnjlgelaaB3
set_option linter.unusedVariables false
set_option maxRecDepth 100000
namespace Go.Ab
open Go.RowKit

def lr_impl_ValidMesh_1_1 (m_0 : GMesh) : (Unit) ⊕ (Unit) := (lo_impl_ValidMesh_1 m_0 (((m_0.Triangles.length : Int) - 0).toNat + 1) 0)

/-- impl.ValidMesh -/
def v_impl_ValidMesh (m_0 : GMesh) : Bool := (cond (decide ((m_0.Places.length : Int) > 64))
  false
  (cond (decide ((m_0.Triangles.length : Int) > 128))
    false
    (match (lr_impl_ValidMesh_1_1 m_0) with
      | .inl r3 => false
      | .inr r3 => true)))

theorem t_impl_ValidMesh (m_0 : GMesh) (hp0 : m_0.Places.length ≤ 1073741824) (hp1 : m_0.Triangles.length ≤ 1073741824) (hp2 : ∀ t ∈ m_0.Triangles, t.length ≤ 1073741824)  : Fn Go.Proofs.Try.prog 74 [.agg [.sl (m_0.Places.map GVector.cells), .sl (m_0.Triangles.map (cL (cI .i64)))]] (.b (v_impl_ValidMesh m_0)) [] := by
  cases h0 : (decide ((m_0.Places.length : Int) > 64)) with
  | true =>
    exact Fn.cast (CallSt.fn (callSt_of_evK (E := E0) E0Ok hMixed (c := bodyOf Go.Proofs.Try.f74) (rows := []) (r := .b false) (rows' := [])
      (ans := [.num (m_0.Places.length : Int), .bo true, .bo true, .bo true, .bo true, .bo true, .bo true, .keep []])
      (ps := [])
      (C := [(((m_0.Places.map GVector.cells).length : Nat) : Int) = (m_0.Places.length : Int),
        (decide ((m_0.Places.length : Int) > 64)) = true,
        (decide ((m_0.Places.length : Int) > 64)) = true,
        (decide ((m_0.Places.length : Int) > 64)) = true,
        (decide ((m_0.Places.length : Int) > 64)) = true,
        (decide ((m_0.Places.length : Int) > 64)) = true,
        true = true])
      Go.Proofs.Try.func74 rfl (by kernel_rfl) (by kernel_rfl)
      ⟨len_ok, h0, h0, h0, h0, h0, rfl, trivial⟩) rfl) (by simp only [v_impl_ValidMesh, h0, cond_true]) rfl
  | false =>
    cases h1 : (decide ((m_0.Triangles.length : Int) > 128)) with
    | true =>
      exact Fn.cast (CallSt.fn (callSt_of_evK (E := E0) E0Ok hMixed (c := bodyOf Go.Proofs.Try.f74) (rows := []) (r := .b false) (rows' := [])
        (ans := [.num (m_0.Places.length : Int), .bo false, .bo false, .bo false, .num (m_0.Triangles.length : Int), .bo false, .bo false, .bo true, .keep []])
        (ps := [])
        (C := [(((m_0.Places.map GVector.cells).length : Nat) : Int) = (m_0.Places.length : Int),
          (decide ((m_0.Places.length : Int) > 64)) = false,
          (decide ((m_0.Places.length : Int) > 64)) = false,
          (decide ((m_0.Places.length : Int) > 64)) = false,
          (((m_0.Triangles.map (cL (cI .i64))).length : Nat) : Int) = (m_0.Triangles.length : Int),
          (decide ((m_0.Places.length : Int) > 64)) = false,
          (decide ((m_0.Places.length : Int) > 64)) = false,
          (decide ((m_0.Triangles.length : Int) > 128)) = true])
        Go.Proofs.Try.func74 rfl (by kernel_rfl) (by kernel_rfl)
        ⟨len_ok, h0, h0, h0, len_ok, h0, h0, h1, trivial⟩) rfl) (by simp only [v_impl_ValidMesh, h0, h1, cond_true, cond_false]) rfl
    | false =>
      cases h2 : (lr_impl_ValidMesh_1_1 m_0) with
      | inl r3 =>
        exact Fn.cast (CallSt.fn (callSt_of_evK (E := E0) E0Ok hMixed (c := bodyOf Go.Proofs.Try.f74) (rows := []) (r := .b false) (rows' := [])
          (ans := [.num (m_0.Places.length : Int), .bo false, .bo false, .bo false, .num (m_0.Triangles.length : Int), .bo false, .bo false, .bo false, .num (m_0.Triangles.length : Int), .loop [true, true, false, true, false, false, false, false, true, true, true, true, true, true, true, true, true, true, true, true, true, true, true, false, false, false, false, false, false, false, false, false, false, false, false, false, false, false, false, false, false, false, false, false, false, false, false, false, false, false, false, false, false, false, false, false, false, false, false, false, false, false, false, false, false, false, false, false, false] 1 .ret ⟨[.any, .any, .b false, .any, .any, .any, .any, .any, .any, .any, .any, .any, .any, .any, .any, .any, .any, .any, .any, .any, .any, .any, .any, .any, .any, .any, .any, .any, .any, .any, .any, .any, .any, .any, .any, .any, .any, .any, .any, .any, .any, .any, .any, .any, .any, .any, .any, .any, .any, .any, .any, .any, .any, .any, .any, .any, .any, .any, .any, .any, .any, .any, .any, .any, .any, .any, .any, .any, .any], []⟩, .keep []])
          (ps := [])
          (C := [(((m_0.Places.map GVector.cells).length : Nat) : Int) = (m_0.Places.length : Int),
            (decide ((m_0.Places.length : Int) > 64)) = false,
            (decide ((m_0.Places.length : Int) > 64)) = false,
            (decide ((m_0.Places.length : Int) > 64)) = false,
            (((m_0.Triangles.map (cL (cI .i64))).length : Nat) : Int) = (m_0.Triangles.length : Int),
            (decide ((m_0.Places.length : Int) > 64)) = false,
            (decide ((m_0.Places.length : Int) > 64)) = false,
            (decide ((m_0.Triangles.length : Int) > 128)) = false,
            (((m_0.Triangles.map (cL (cI .i64))).length : Nat) : Int) = (m_0.Triangles.length : Int),
            Lp Go.Proofs.Try.prog 0 (sub (bodyOf Go.Proofs.Try.f74) [1, 1, 1, 0, 1, 0, 0]) ⟨[.agg [.sl (m_0.Places.map GVector.cells), .sl (m_0.Triangles.map (cL (cI .i64)))], .ptr 0 0 0, .any, .i .i64 (m_0.Places.length : Int), .any, .any, .any, .any, .ptr 0 0 0, .sl (m_0.Places.map GVector.cells), .i .i64 (m_0.Places.length : Int), .i .i64 (m_0.Places.length : Int), .b (decide ((m_0.Places.length : Int) > 64)), .b (decide ((m_0.Places.length : Int) > 64)), .ptr 0 0 1, .sl (m_0.Triangles.map (cL (cI .i64))), .i .i64 (m_0.Triangles.length : Int), .b (decide ((m_0.Triangles.length : Int) > 128)), .b (decide ((m_0.Triangles.length : Int) > 128)), .ptr 0 0 1, .sl (m_0.Triangles.map (cL (cI .i64))), .i .i64 (m_0.Triangles.length : Int), .i .i64 0, .any, .any, .any, .any, .any, .any, .any, .any, .any, .any, .any, .any, .any, .any, .any, .any, .any, .any, .any, .any, .any, .any, .any, .any, .any, .any, .any, .any, .any, .any, .any, .any, .any, .any, .any, .any, .any, .any, .any, .any, .any, .any, .any, .any, .any, .any], [.box 36 [.sl (m_0.Places.map GVector.cells), .sl (m_0.Triangles.map (cL (cI .i64)))]]⟩ .ret ⟨[.any, .any, .b false, .any, .any, .any, .any, .any, .any, .any, .any, .any, .any, .any, .any, .any, .any, .any, .any, .any, .any, .any, .any, .any, .any, .any, .any, .any, .any, .any, .any, .any, .any, .any, .any, .any, .any, .any, .any, .any, .any, .any, .any, .any, .any, .any, .any, .any, .any, .any, .any, .any, .any, .any, .any, .any, .any, .any, .any, .any, .any, .any, .any, .any, .any, .any, .any, .any, .any], []⟩])
          Go.Proofs.Try.func74 rfl (by kernel_rfl) (by kernel_rfl)
          ⟨len_ok, h0, h0, h0, len_ok, h0, h0, h1, len_ok, (by have q := (lp_impl_ValidMesh_1 m_0 hp0 hp1 hp2 h0 h1 (((m_0.Triangles.length : Int) - 0).toNat + 1) 0 (show 0 ≤ 0 from (by first | assumption | omega | (simp at * <;> omega) | (simp_all <;> omega))) (Nat.lt_succ_self _)); rw [show (lo_impl_ValidMesh_1 m_0 (((m_0.Triangles.length : Int) - 0).toNat + 1) 0) = _ from rfl] at q; rw [show (lo_impl_ValidMesh_1 m_0 (((m_0.Triangles.length : Int) - 0).toNat + 1) 0) = (lr_impl_ValidMesh_1_1 m_0) from rfl, h2] at q; exact q), trivial⟩) rfl) (by simp only [v_impl_ValidMesh, h0, h1, h2, cond_false]) rfl
      | inr r3 =>
        exact Fn.cast (CallSt.fn (callSt_of_evK (E := E0) E0Ok hMixed (c := bodyOf Go.Proofs.Try.f74) (rows := []) (r := .b true) (rows' := [])
          (ans := [.num (m_0.Places.length : Int), .bo false, .bo false, .bo false, .num (m_0.Triangles.length : Int), .bo false, .bo false, .bo false, .num (m_0.Triangles.length : Int), .loop [true, true, false, true, false, false, false, false, true, true, true, true, true, true, true, true, true, true, true, true, true, true, true, false, false, false, false, false, false, false, false, false, false, false, false, false, false, false, false, false, false, false, false, false, false, false, false, false, false, false, false, false, false, false, false, false, false, false, false, false, false, false, false, false, false, false, false, false, false] 1 (.exit 0) ⟨[.agg [.sl (m_0.Places.map GVector.cells), .sl (m_0.Triangles.map (cL (cI .i64)))], .ptr 0 0 0, .any, .i .i64 (m_0.Places.length : Int), .any, .any, .any, .any, .ptr 0 0 0, .sl (m_0.Places.map GVector.cells), .i .i64 (m_0.Places.length : Int), .i .i64 (m_0.Places.length : Int), .b (decide ((m_0.Places.length : Int) > 64)), .b (decide ((m_0.Places.length : Int) > 64)), .ptr 0 0 1, .sl (m_0.Triangles.map (cL (cI .i64))), .i .i64 (m_0.Triangles.length : Int), .b (decide ((m_0.Triangles.length : Int) > 128)), .b (decide ((m_0.Triangles.length : Int) > 128)), .ptr 0 0 1, .sl (m_0.Triangles.map (cL (cI .i64))), .any, .any, .any, .any, .any, .any, .any, .any, .any, .any, .any, .any, .any, .any, .any, .any, .any, .any, .any, .any, .any, .any, .any, .any, .any, .any, .any, .any, .any, .any, .any, .any, .any, .any, .any, .any, .any, .any, .any, .any, .any, .any, .any, .any, .any, .any, .any, .any], [.box 36 [.sl (m_0.Places.map GVector.cells), .sl (m_0.Triangles.map (cL (cI .i64)))]]⟩, .keep []])
          (ps := [])
          (C := [(((m_0.Places.map GVector.cells).length : Nat) : Int) = (m_0.Places.length : Int),
            (decide ((m_0.Places.length : Int) > 64)) = false,
            (decide ((m_0.Places.length : Int) > 64)) = false,
            (decide ((m_0.Places.length : Int) > 64)) = false,
            (((m_0.Triangles.map (cL (cI .i64))).length : Nat) : Int) = (m_0.Triangles.length : Int),
            (decide ((m_0.Places.length : Int) > 64)) = false,
            (decide ((m_0.Places.length : Int) > 64)) = false,
            (decide ((m_0.Triangles.length : Int) > 128)) = false,
            (((m_0.Triangles.map (cL (cI .i64))).length : Nat) : Int) = (m_0.Triangles.length : Int),
            Lp Go.Proofs.Try.prog 0 (sub (bodyOf Go.Proofs.Try.f74) [1, 1, 1, 0, 1, 0, 0]) ⟨[.agg [.sl (m_0.Places.map GVector.cells), .sl (m_0.Triangles.map (cL (cI .i64)))], .ptr 0 0 0, .any, .i .i64 (m_0.Places.length : Int), .any, .any, .any, .any, .ptr 0 0 0, .sl (m_0.Places.map GVector.cells), .i .i64 (m_0.Places.length : Int), .i .i64 (m_0.Places.length : Int), .b (decide ((m_0.Places.length : Int) > 64)), .b (decide ((m_0.Places.length : Int) > 64)), .ptr 0 0 1, .sl (m_0.Triangles.map (cL (cI .i64))), .i .i64 (m_0.Triangles.length : Int), .b (decide ((m_0.Triangles.length : Int) > 128)), .b (decide ((m_0.Triangles.length : Int) > 128)), .ptr 0 0 1, .sl (m_0.Triangles.map (cL (cI .i64))), .i .i64 (m_0.Triangles.length : Int), .i .i64 0, .any, .any, .any, .any, .any, .any, .any, .any, .any, .any, .any, .any, .any, .any, .any, .any, .any, .any, .any, .any, .any, .any, .any, .any, .any, .any, .any, .any, .any, .any, .any, .any, .any, .any, .any, .any, .any, .any, .any, .any, .any, .any, .any, .any, .any, .any], [.box 36 [.sl (m_0.Places.map GVector.cells), .sl (m_0.Triangles.map (cL (cI .i64)))]]⟩ (.exit 0) ⟨[.agg [.sl (m_0.Places.map GVector.cells), .sl (m_0.Triangles.map (cL (cI .i64)))], .ptr 0 0 0, .any, .i .i64 (m_0.Places.length : Int), .any, .any, .any, .any, .ptr 0 0 0, .sl (m_0.Places.map GVector.cells), .i .i64 (m_0.Places.length : Int), .i .i64 (m_0.Places.length : Int), .b (decide ((m_0.Places.length : Int) > 64)), .b (decide ((m_0.Places.length : Int) > 64)), .ptr 0 0 1, .sl (m_0.Triangles.map (cL (cI .i64))), .i .i64 (m_0.Triangles.length : Int), .b (decide ((m_0.Triangles.length : Int) > 128)), .b (decide ((m_0.Triangles.length : Int) > 128)), .ptr 0 0 1, .sl (m_0.Triangles.map (cL (cI .i64))), .any, .any, .any, .any, .any, .any, .any, .any, .any, .any, .any, .any, .any, .any, .any, .any, .any, .any, .any, .any, .any, .any, .any, .any, .any, .any, .any, .any, .any, .any, .any, .any, .any, .any, .any, .any, .any, .any, .any, .any, .any, .any, .any, .any, .any, .any, .any, .any], [.box 36 [.sl (m_0.Places.map GVector.cells), .sl (m_0.Triangles.map (cL (cI .i64)))]]⟩])
          Go.Proofs.Try.func74 rfl (by kernel_rfl) (by kernel_rfl)
          ⟨len_ok, h0, h0, h0, len_ok, h0, h0, h1, len_ok, (by have q := (lp_impl_ValidMesh_1 m_0 hp0 hp1 hp2 h0 h1 (((m_0.Triangles.length : Int) - 0).toNat + 1) 0 (show 0 ≤ 0 from (by first | assumption | omega | (simp at * <;> omega) | (simp_all <;> omega))) (Nat.lt_succ_self _)); rw [show (lo_impl_ValidMesh_1 m_0 (((m_0.Triangles.length : Int) - 0).toNat + 1) 0) = _ from rfl] at q; rw [show (lo_impl_ValidMesh_1 m_0 (((m_0.Triangles.length : Int) - 0).toNat + 1) 0) = (lr_impl_ValidMesh_1_1 m_0) from rfl, h2] at q; exact q), trivial⟩) rfl) (by simp only [v_impl_ValidMesh, h0, h1, h2, cond_false]) rfl

theorem triB (t : List Int) (n : Int) : (!((t.length : Int) != 3) && (!(t.getD 0 default == t.getD 1 default) && (!(t.getD 1 default == t.getD 2 default) && (!(t.getD 0 default == t.getD 2 default) && t.all fun x => v_impl_within x 0 (IntKind.wrap .i64 (n - 1)))))) = v_spec_l02Triangle t n := by
  unfold v_spec_l02Triangle
  cases hl : ((t.length : Int) != 3) with
  | true => rfl
  | false =>
    have hl3 : t.length = 3 := by simp at hl; omega
    match t, hl3 with
    | [a, b, c], _ =>
      simp only [List.getD_cons_zero, List.getD_cons_succ, List.all_cons, List.all_nil, Bool.and_true]
      rw [show v_impl_within = v_spec_l00In from rfl]
      cases (a == b) <;> cases (b == c) <;> cases (a == c) <;> cases v_spec_l00In a 0 (IntKind.wrap .i64 (n - 1)) <;> cases v_spec_l00In b 0 (IntKind.wrap .i64 (n - 1)) <;> cases v_spec_l00In c 0 (IntKind.wrap .i64 (n - 1)) <;> rfl
theorem lo_ValidMesh (m : GMesh) (k : Nat) (i : Int) : lo_impl_ValidMesh_1 m (k + 1) i = cond (decide (i < (m.Triangles.length : Int))) (cond (v_spec_l02Triangle (m.Triangles.getD i.toNat default) (m.Places.length : Int)) (lo_impl_ValidMesh_1 m k (i + 1)) (.inl ())) (.inr ()) := by
  rw [lo_impl_ValidMesh_1, ← triB]
  have hin : lr_impl_ValidMesh_2_0 m i = cond ((m.Triangles.getD i.toNat default).all fun x => v_impl_within x 0 (IntKind.wrap .i64 ((m.Places.length : Int) - 1))) (.inr ()) (.inl ()) := by
    unfold lr_impl_ValidMesh_2_0
    exact all_from (a := m.Triangles.getD i.toNat default) (p := fun x => v_impl_within x 0 (IntKind.wrap .i64 ((m.Places.length : Int) - 1))) (lo := lo_impl_ValidMesh_2 m i) (x := ()) (y := ()) (fun k i => rfl)
  rw [hin]
  generalize m.Triangles.getD i.toNat default = t
  generalize (t.all fun x => v_impl_within x 0 (IntKind.wrap .i64 ((m.Places.length : Int) - 1))) = q
  cases ((t.length : Int) != 3) <;> cases (t.getD 0 default == t.getD 1 default) <;> cases (t.getD 1 default == t.getD 2 default) <;> cases (t.getD 0 default == t.getD 2 default) <;> cases q <;> rfl
theorem eq_ValidMesh (m : GMesh) : v_impl_ValidMesh m = v_spec_l02Is m := by
  rw [l02Is_eq]
  unfold v_impl_ValidMesh lr_impl_ValidMesh_1_1
  rw [all_from (a := m.Triangles) (p := fun t => v_spec_l02Triangle t (m.Places.length : Int)) (lo := lo_impl_ValidMesh_1 m) (x := ()) (y := ()) (lo_ValidMesh m)]
  cases (m.Triangles.all fun t => v_spec_l02Triangle t (m.Places.length : Int)) <;> rfl

def lo_impl_ValidBody_1 (b_0 : GBody) : Nat → Int → (Unit) ⊕ (Unit)
  | 0, _ => .inl default
  | k + 1, x_l0 => (cond (decide (x_l0 < (b_0.Springs.length : Int)))
    (cond (v_impl_within ((b_0.Springs.getD x_l0.toNat default).A) 0 (IntKind.wrap .i64 ((b_0.Mesh.Places.length : Int) - 1)))
      (cond (v_impl_within ((b_0.Springs.getD x_l0.toNat default).B) 0 (IntKind.wrap .i64 ((b_0.Mesh.Places.length : Int) - 1)))
        (cond ((b_0.Springs.getD x_l0.toNat default).A == (b_0.Springs.getD x_l0.toNat default).B)
          (.inl ())
          (cond (fcmp .geq .f32 ((b_0.Springs.getD x_l0.toNat default).Long) 0)
            (lo_impl_ValidBody_1 b_0 k (x_l0 + 1))
            (.inl ())))
        (.inl ()))
      (.inl ()))
    (.inr ()))

def ls_impl_ValidBody_1 (b_0 : GBody) : (Unit) ⊕ (Unit) → Ex × St
  | .inl r => (.ret, ⟨[.any, .any, .b false, .any, .any, .any, .any, .any, .any, .any, .any, .any, .any, .any, .any, .any, .any, .any, .any, .any, .any, .any, .any, .any, .any, .any, .any, .any, .any, .any, .any, .any, .any, .any, .any, .any, .any, .any, .any, .any, .any, .any, .any, .any, .any, .any, .any, .any, .any, .any, .any, .any, .any, .any, .any, .any, .any, .any, .any, .any, .any, .any], []⟩)
  | .inr r => ((.exit 0), ⟨[.agg [.sl (b_0.Mesh.Places.map GVector.cells), .sl (b_0.Mesh.Triangles.map (cL (cI .i64))), .sl (b_0.Springs.map GSpring.cells), .f .f32 b_0.Film, .f .f32 b_0.Bend, .sl (b_0.Weights.map (cF .f32)), .f .f32 b_0.Fall.X, .f .f32 b_0.Fall.Y, .f .f32 b_0.Fall.Z], .ptr 0 0 0, .any, .i .i64 (b_0.Mesh.Places.length : Int), .any, .any, .ptr 0 0 0, .ptr 0 0 0, .sl (b_0.Mesh.Places.map GVector.cells), .i .i64 (b_0.Mesh.Places.length : Int), .ptr 0 0 0, .agg [.sl (b_0.Mesh.Places.map GVector.cells), .sl (b_0.Mesh.Triangles.map (cL (cI .i64)))], .b (v_impl_ValidMesh b_0.Mesh), .b (!(v_impl_ValidMesh b_0.Mesh)), .b (!(v_impl_ValidMesh b_0.Mesh)), .ptr 0 0 2, .sl (b_0.Springs.map GSpring.cells), .i .i64 (b_0.Springs.length : Int), .b (decide ((b_0.Springs.length : Int) > 200)), .b (decide ((b_0.Springs.length : Int) > 200)), .b (decide ((b_0.Springs.length : Int) > 200)), .ptr 0 0 5, .sl (b_0.Weights.map (cF .f32)), .i .i64 (b_0.Weights.length : Int), .i .i64 (b_0.Mesh.Places.length : Int), .b ((b_0.Weights.length : Int) != (b_0.Mesh.Places.length : Int)), .b ((b_0.Weights.length : Int) != (b_0.Mesh.Places.length : Int)), .ptr 0 0 2, .sl (b_0.Springs.map GSpring.cells), .any, .any, .any, .any, .any, .any, .any, .any, .any, .any, .any, .any, .any, .any, .any, .any, .any, .any, .any, .any, .any, .any, .any, .any, .any, .any, .any, .any, .any, .any, .any, .any, .any], [.box 63 [.sl (b_0.Mesh.Places.map GVector.cells), .sl (b_0.Mesh.Triangles.map (cL (cI .i64))), .sl (b_0.Springs.map GSpring.cells), .f .f32 b_0.Film, .f .f32 b_0.Bend, .sl (b_0.Weights.map (cF .f32)), .f .f32 b_0.Fall.X, .f .f32 b_0.Fall.Y, .f .f32 b_0.Fall.Z]]⟩)

theorem lp_impl_ValidBody_1 (b_0 : GBody) (hp0 : b_0.Mesh.Places.length ≤ 1073741824) (hp1 : b_0.Mesh.Triangles.length ≤ 1073741824) (hp2 : ∀ t ∈ b_0.Mesh.Triangles, t.length ≤ 1073741824) (hp3 : b_0.Springs.length ≤ 1073741824) (hp4 : b_0.Weights.length ≤ 1073741824) (hf_impl_ValidBody_1_0 : ((b_0.Weights.length : Int) != (b_0.Mesh.Places.length : Int)) = false) (hf_impl_ValidBody_1_1 : (decide ((b_0.Springs.length : Int) > 200)) = false) (hf_impl_ValidBody_1_2 : (v_impl_ValidMesh b_0.Mesh) = true) : ∀ (k : Nat) (x_l0 : Int) (hv_impl_ValidBody_1_0 : 0 ≤ x_l0) (hk : ((b_0.Springs.length : Int) - x_l0).toNat < k), Lp Go.Proofs.Try.prog 0 (sub (bodyOf Go.Proofs.Try.f37) [1, 1, 1, 0, 1, 0, 0]) ⟨[.agg [.sl (b_0.Mesh.Places.map GVector.cells), .sl (b_0.Mesh.Triangles.map (cL (cI .i64))), .sl (b_0.Springs.map GSpring.cells), .f .f32 b_0.Film, .f .f32 b_0.Bend, .sl (b_0.Weights.map (cF .f32)), .f .f32 b_0.Fall.X, .f .f32 b_0.Fall.Y, .f .f32 b_0.Fall.Z], .ptr 0 0 0, .any, .i .i64 (b_0.Mesh.Places.length : Int), .any, .any, .ptr 0 0 0, .ptr 0 0 0, .sl (b_0.Mesh.Places.map GVector.cells), .i .i64 (b_0.Mesh.Places.length : Int), .ptr 0 0 0, .agg [.sl (b_0.Mesh.Places.map GVector.cells), .sl (b_0.Mesh.Triangles.map (cL (cI .i64)))], .b (v_impl_ValidMesh b_0.Mesh), .b (!(v_impl_ValidMesh b_0.Mesh)), .b (!(v_impl_ValidMesh b_0.Mesh)), .ptr 0 0 2, .sl (b_0.Springs.map GSpring.cells), .i .i64 (b_0.Springs.length : Int), .b (decide ((b_0.Springs.length : Int) > 200)), .b (decide ((b_0.Springs.length : Int) > 200)), .b (decide ((b_0.Springs.length : Int) > 200)), .ptr 0 0 5, .sl (b_0.Weights.map (cF .f32)), .i .i64 (b_0.Weights.length : Int), .i .i64 (b_0.Mesh.Places.length : Int), .b ((b_0.Weights.length : Int) != (b_0.Mesh.Places.length : Int)), .b ((b_0.Weights.length : Int) != (b_0.Mesh.Places.length : Int)), .ptr 0 0 2, .sl (b_0.Springs.map GSpring.cells), .i .i64 (b_0.Springs.length : Int), .i .i64 x_l0, .any, .any, .any, .any, .any, .any, .any, .any, .any, .any, .any, .any, .any, .any, .any, .any, .any, .any, .any, .any, .any, .any, .any, .any, .any, .any, .any, .any, .any, .any, .any], [.box 63 [.sl (b_0.Mesh.Places.map GVector.cells), .sl (b_0.Mesh.Triangles.map (cL (cI .i64))), .sl (b_0.Springs.map GSpring.cells), .f .f32 b_0.Film, .f .f32 b_0.Bend, .sl (b_0.Weights.map (cF .f32)), .f .f32 b_0.Fall.X, .f .f32 b_0.Fall.Y, .f .f32 b_0.Fall.Z]]⟩ (ls_impl_ValidBody_1 b_0 (lo_impl_ValidBody_1 b_0 k x_l0)).1 (ls_impl_ValidBody_1 b_0 (lo_impl_ValidBody_1 b_0 k x_l0)).2 := by
  intro k
  induction k with
  | zero => intro x_l0 hv_impl_ValidBody_1_0 hk; exact absurd hk (Nat.not_lt_zero _)
  | succ k ih =>
    intro x_l0 hv_impl_ValidBody_1_0 hk
    cases h_0 : (decide (x_l0 < (b_0.Springs.length : Int))) with
    | true =>
      cases h_1 : (v_impl_within ((b_0.Springs.getD x_l0.toNat default).A) 0 (IntKind.wrap .i64 ((b_0.Mesh.Places.length : Int) - 1))) with
      | true =>
        cases h_2 : (v_impl_within ((b_0.Springs.getD x_l0.toNat default).B) 0 (IntKind.wrap .i64 ((b_0.Mesh.Places.length : Int) - 1))) with
        | true =>
          cases h_3 : ((b_0.Springs.getD x_l0.toNat default).A == (b_0.Springs.getD x_l0.toNat default).B) with
          | true =>
            have e : lo_impl_ValidBody_1 b_0 (k + 1) x_l0 = (.inl ()) := by simp only [lo_impl_ValidBody_1, h_0, h_1, h_2, h_3, cond_true]
            rw [e]
            exact stepK_out (E := E0) E0Ok hMixed (e := .ret) (body := (sub (bodyOf Go.Proofs.Try.f37) [1, 1, 1, 0, 1, 0, 0])) (st := ⟨[.agg [.sl (b_0.Mesh.Places.map GVector.cells), .sl (b_0.Mesh.Triangles.map (cL (cI .i64))), .sl (b_0.Springs.map GSpring.cells), .f .f32 b_0.Film, .f .f32 b_0.Bend, .sl (b_0.Weights.map (cF .f32)), .f .f32 b_0.Fall.X, .f .f32 b_0.Fall.Y, .f .f32 b_0.Fall.Z], .ptr 0 0 0, .any, .i .i64 (b_0.Mesh.Places.length : Int), .any, .any, .ptr 0 0 0, .ptr 0 0 0, .sl (b_0.Mesh.Places.map GVector.cells), .i .i64 (b_0.Mesh.Places.length : Int), .ptr 0 0 0, .agg [.sl (b_0.Mesh.Places.map GVector.cells), .sl (b_0.Mesh.Triangles.map (cL (cI .i64)))], .b (v_impl_ValidMesh b_0.Mesh), .b (!(v_impl_ValidMesh b_0.Mesh)), .b (!(v_impl_ValidMesh b_0.Mesh)), .ptr 0 0 2, .sl (b_0.Springs.map GSpring.cells), .i .i64 (b_0.Springs.length : Int), .b (decide ((b_0.Springs.length : Int) > 200)), .b (decide ((b_0.Springs.length : Int) > 200)), .b (decide ((b_0.Springs.length : Int) > 200)), .ptr 0 0 5, .sl (b_0.Weights.map (cF .f32)), .i .i64 (b_0.Weights.length : Int), .i .i64 (b_0.Mesh.Places.length : Int), .b ((b_0.Weights.length : Int) != (b_0.Mesh.Places.length : Int)), .b ((b_0.Weights.length : Int) != (b_0.Mesh.Places.length : Int)), .ptr 0 0 2, .sl (b_0.Springs.map GSpring.cells), .i .i64 (b_0.Springs.length : Int), .i .i64 x_l0, .any, .any, .any, .any, .any, .any, .any, .any, .any, .any, .any, .any, .any, .any, .any, .any, .any, .any, .any, .any, .any, .any, .any, .any, .any, .any, .any, .any, .any, .any, .any], [.box 63 [.sl (b_0.Mesh.Places.map GVector.cells), .sl (b_0.Mesh.Triangles.map (cL (cI .i64))), .sl (b_0.Springs.map GSpring.cells), .f .f32 b_0.Film, .f .f32 b_0.Bend, .sl (b_0.Weights.map (cF .f32)), .f .f32 b_0.Fall.X, .f .f32 b_0.Fall.Y, .f .f32 b_0.Fall.Z]]⟩)
              (st2 := ⟨[.any, .any, .b false, .any, .any, .any, .any, .any, .any, .any, .any, .any, .any, .any, .any, .any, .any, .any, .any, .any, .any, .any, .any, .any, .any, .any, .any, .any, .any, .any, .any, .any, .any, .any, .any, .any, .any, .any, .any, .any, .any, .any, .any, .any, .any, .any, .any, .any, .any, .any, .any, .any, .any, .any, .any, .any, .any, .any, .any, .any, .any, .any], []⟩)
              (ans := [.bo true, .el [.i .i64 ((b_0.Springs.getD x_l0.toNat default).A), .i .i64 ((b_0.Springs.getD x_l0.toNat default).B), .f .f32 ((b_0.Springs.getD x_l0.toNat default).Long), .f .f32 ((b_0.Springs.getD x_l0.toNat default).Stiff)], .num (IntKind.wrap .i64 ((b_0.Mesh.Places.length : Int) - 1)), .call (.b (v_impl_within ((b_0.Springs.getD x_l0.toNat default).A) 0 (IntKind.wrap .i64 ((b_0.Mesh.Places.length : Int) - 1)))) [], .bo false, .bo false, .bo false, .bo false, .num (IntKind.wrap .i64 ((b_0.Mesh.Places.length : Int) - 1)), .bo false, .call (.b (v_impl_within ((b_0.Springs.getD x_l0.toNat default).B) 0 (IntKind.wrap .i64 ((b_0.Mesh.Places.length : Int) - 1)))) [], .bo false, .bo false, .bo false, .bo false, .bo false, .bo false, .bo false, .bo false, .bo true, .bo true, .bo true, .bo true, .bo true, .bo true])
              (ps := []) (mask := [false, false, true, false, false, false, false, false, false, false, false, false, false, false, false, false, false, false, false, false, false, false, false, false, false, false, false, false, false, false, false, false, false, false, false, false, false, false, false, false, false, false, false, false, false, false, false, false, false, false, false, false, false, false, false, false, false, false, false, false, false, false]) (ks := [])
              (C := [(decide (x_l0 < (b_0.Springs.length : Int))) = true,
                0 ≤ x_l0 ∧ (b_0.Springs.map GSpring.cells)[Int.toNat x_l0]? = some [.i .i64 ((b_0.Springs.getD x_l0.toNat default).A), .i .i64 ((b_0.Springs.getD x_l0.toNat default).B), .f .f32 ((b_0.Springs.getD x_l0.toNat default).Long), .f .f32 ((b_0.Springs.getD x_l0.toNat default).Stiff)],
                IntKind.wrap .i64 ((b_0.Mesh.Places.length : Int) - 1) = (IntKind.wrap .i64 ((b_0.Mesh.Places.length : Int) - 1)),
                Fn Go.Proofs.Try.prog 80 [.i .i64 ((b_0.Springs.getD x_l0.toNat default).A), .i .i64 0, .i .i64 (IntKind.wrap .i64 ((b_0.Mesh.Places.length : Int) - 1))] (.b (v_impl_within ((b_0.Springs.getD x_l0.toNat default).A) 0 (IntKind.wrap .i64 ((b_0.Mesh.Places.length : Int) - 1)))) [],
                (!(v_impl_within ((b_0.Springs.getD x_l0.toNat default).A) 0 (IntKind.wrap .i64 ((b_0.Mesh.Places.length : Int) - 1)))) = false,
                (!(v_impl_within ((b_0.Springs.getD x_l0.toNat default).A) 0 (IntKind.wrap .i64 ((b_0.Mesh.Places.length : Int) - 1)))) = false,
                (!(v_impl_within ((b_0.Springs.getD x_l0.toNat default).A) 0 (IntKind.wrap .i64 ((b_0.Mesh.Places.length : Int) - 1)))) = false,
                (!(v_impl_within ((b_0.Springs.getD x_l0.toNat default).A) 0 (IntKind.wrap .i64 ((b_0.Mesh.Places.length : Int) - 1)))) = false,
                IntKind.wrap .i64 ((b_0.Mesh.Places.length : Int) - 1) = (IntKind.wrap .i64 ((b_0.Mesh.Places.length : Int) - 1)),
                (!(v_impl_within ((b_0.Springs.getD x_l0.toNat default).A) 0 (IntKind.wrap .i64 ((b_0.Mesh.Places.length : Int) - 1)))) = false,
                Fn Go.Proofs.Try.prog 80 [.i .i64 ((b_0.Springs.getD x_l0.toNat default).B), .i .i64 0, .i .i64 (IntKind.wrap .i64 ((b_0.Mesh.Places.length : Int) - 1))] (.b (v_impl_within ((b_0.Springs.getD x_l0.toNat default).B) 0 (IntKind.wrap .i64 ((b_0.Mesh.Places.length : Int) - 1)))) [],
                (!(v_impl_within ((b_0.Springs.getD x_l0.toNat default).A) 0 (IntKind.wrap .i64 ((b_0.Mesh.Places.length : Int) - 1)))) = false,
                (!(v_impl_within ((b_0.Springs.getD x_l0.toNat default).A) 0 (IntKind.wrap .i64 ((b_0.Mesh.Places.length : Int) - 1)))) = false,
                (!(v_impl_within ((b_0.Springs.getD x_l0.toNat default).B) 0 (IntKind.wrap .i64 ((b_0.Mesh.Places.length : Int) - 1)))) = false,
                (!(v_impl_within ((b_0.Springs.getD x_l0.toNat default).B) 0 (IntKind.wrap .i64 ((b_0.Mesh.Places.length : Int) - 1)))) = false,
                (!(v_impl_within ((b_0.Springs.getD x_l0.toNat default).B) 0 (IntKind.wrap .i64 ((b_0.Mesh.Places.length : Int) - 1)))) = false,
                (!(v_impl_within ((b_0.Springs.getD x_l0.toNat default).B) 0 (IntKind.wrap .i64 ((b_0.Mesh.Places.length : Int) - 1)))) = false,
                (!(v_impl_within ((b_0.Springs.getD x_l0.toNat default).B) 0 (IntKind.wrap .i64 ((b_0.Mesh.Places.length : Int) - 1)))) = false,
                (!(v_impl_within ((b_0.Springs.getD x_l0.toNat default).B) 0 (IntKind.wrap .i64 ((b_0.Mesh.Places.length : Int) - 1)))) = false,
                ((b_0.Springs.getD x_l0.toNat default).A == (b_0.Springs.getD x_l0.toNat default).B) = true,
                ((b_0.Springs.getD x_l0.toNat default).A == (b_0.Springs.getD x_l0.toNat default).B) = true,
                ((b_0.Springs.getD x_l0.toNat default).A == (b_0.Springs.getD x_l0.toNat default).B) = true,
                ((b_0.Springs.getD x_l0.toNat default).A == (b_0.Springs.getD x_l0.toNat default).B) = true,
                ((b_0.Springs.getD x_l0.toNat default).A == (b_0.Springs.getD x_l0.toNat default).B) = true,
                true = true])
              (by kernel_rfl)
              ⟨h_0, (get_ok (by first | assumption | omega | (simp at * <;> omega) | (simp_all <;> omega)) (by first | assumption | omega | (simp at * <;> omega) | (simp_all <;> omega))), rfl, (t_impl_within ((b_0.Springs.getD x_l0.toNat default).A) 0 (IntKind.wrap .i64 ((b_0.Mesh.Places.length : Int) - 1))), (congrArg not h_1), (congrArg not h_1), (congrArg not h_1), (congrArg not h_1), rfl, (congrArg not h_1), (t_impl_within ((b_0.Springs.getD x_l0.toNat default).B) 0 (IntKind.wrap .i64 ((b_0.Mesh.Places.length : Int) - 1))), (congrArg not h_1), (congrArg not h_1), (congrArg not h_2), (congrArg not h_2), (congrArg not h_2), (congrArg not h_2), (congrArg not h_2), (congrArg not h_2), h_3, h_3, h_3, h_3, h_3, rfl, trivial⟩
              (by intro h; cases h) rfl
          | false =>
            cases h_4 : (fcmp .geq .f32 ((b_0.Springs.getD x_l0.toNat default).Long) 0) with
            | true =>
              have e : lo_impl_ValidBody_1 b_0 (k + 1) x_l0 = (lo_impl_ValidBody_1 b_0 k (x_l0 + 1)) := by simp only [lo_impl_ValidBody_1, h_0, h_1, h_2, h_3, h_4, cond_true, cond_false]
              rw [e]
              exact stepK_next (E := E0) E0Ok hMixed (body := (sub (bodyOf Go.Proofs.Try.f37) [1, 1, 1, 0, 1, 0, 0])) (st := ⟨[.agg [.sl (b_0.Mesh.Places.map GVector.cells), .sl (b_0.Mesh.Triangles.map (cL (cI .i64))), .sl (b_0.Springs.map GSpring.cells), .f .f32 b_0.Film, .f .f32 b_0.Bend, .sl (b_0.Weights.map (cF .f32)), .f .f32 b_0.Fall.X, .f .f32 b_0.Fall.Y, .f .f32 b_0.Fall.Z], .ptr 0 0 0, .any, .i .i64 (b_0.Mesh.Places.length : Int), .any, .any, .ptr 0 0 0, .ptr 0 0 0, .sl (b_0.Mesh.Places.map GVector.cells), .i .i64 (b_0.Mesh.Places.length : Int), .ptr 0 0 0, .agg [.sl (b_0.Mesh.Places.map GVector.cells), .sl (b_0.Mesh.Triangles.map (cL (cI .i64)))], .b (v_impl_ValidMesh b_0.Mesh), .b (!(v_impl_ValidMesh b_0.Mesh)), .b (!(v_impl_ValidMesh b_0.Mesh)), .ptr 0 0 2, .sl (b_0.Springs.map GSpring.cells), .i .i64 (b_0.Springs.length : Int), .b (decide ((b_0.Springs.length : Int) > 200)), .b (decide ((b_0.Springs.length : Int) > 200)), .b (decide ((b_0.Springs.length : Int) > 200)), .ptr 0 0 5, .sl (b_0.Weights.map (cF .f32)), .i .i64 (b_0.Weights.length : Int), .i .i64 (b_0.Mesh.Places.length : Int), .b ((b_0.Weights.length : Int) != (b_0.Mesh.Places.length : Int)), .b ((b_0.Weights.length : Int) != (b_0.Mesh.Places.length : Int)), .ptr 0 0 2, .sl (b_0.Springs.map GSpring.cells), .i .i64 (b_0.Springs.length : Int), .i .i64 x_l0, .any, .any, .any, .any, .any, .any, .any, .any, .any, .any, .any, .any, .any, .any, .any, .any, .any, .any, .any, .any, .any, .any, .any, .any, .any, .any, .any, .any, .any, .any, .any], [.box 63 [.sl (b_0.Mesh.Places.map GVector.cells), .sl (b_0.Mesh.Triangles.map (cL (cI .i64))), .sl (b_0.Springs.map GSpring.cells), .f .f32 b_0.Film, .f .f32 b_0.Bend, .sl (b_0.Weights.map (cF .f32)), .f .f32 b_0.Fall.X, .f .f32 b_0.Fall.Y, .f .f32 b_0.Fall.Z]]⟩)
                (st2 := ⟨[.agg [.sl (b_0.Mesh.Places.map GVector.cells), .sl (b_0.Mesh.Triangles.map (cL (cI .i64))), .sl (b_0.Springs.map GSpring.cells), .f .f32 b_0.Film, .f .f32 b_0.Bend, .sl (b_0.Weights.map (cF .f32)), .f .f32 b_0.Fall.X, .f .f32 b_0.Fall.Y, .f .f32 b_0.Fall.Z], .ptr 0 0 0, .any, .i .i64 (b_0.Mesh.Places.length : Int), .any, .any, .ptr 0 0 0, .ptr 0 0 0, .sl (b_0.Mesh.Places.map GVector.cells), .i .i64 (b_0.Mesh.Places.length : Int), .ptr 0 0 0, .agg [.sl (b_0.Mesh.Places.map GVector.cells), .sl (b_0.Mesh.Triangles.map (cL (cI .i64)))], .b (v_impl_ValidMesh b_0.Mesh), .b (!(v_impl_ValidMesh b_0.Mesh)), .b (!(v_impl_ValidMesh b_0.Mesh)), .ptr 0 0 2, .sl (b_0.Springs.map GSpring.cells), .i .i64 (b_0.Springs.length : Int), .b (decide ((b_0.Springs.length : Int) > 200)), .b (decide ((b_0.Springs.length : Int) > 200)), .b (decide ((b_0.Springs.length : Int) > 200)), .ptr 0 0 5, .sl (b_0.Weights.map (cF .f32)), .i .i64 (b_0.Weights.length : Int), .i .i64 (b_0.Mesh.Places.length : Int), .b ((b_0.Weights.length : Int) != (b_0.Mesh.Places.length : Int)), .b ((b_0.Weights.length : Int) != (b_0.Mesh.Places.length : Int)), .ptr 0 0 2, .sl (b_0.Springs.map GSpring.cells), .i .i64 (b_0.Springs.length : Int), .i .i64 (x_l0 + 1), .any, .any, .any, .any, .any, .any, .any, .any, .any, .any, .any, .any, .any, .any, .any, .any, .any, .any, .any, .any, .any, .any, .any, .any, .any, .any, .any, .any, .any, .any, .any], [.box 63 [.sl (b_0.Mesh.Places.map GVector.cells), .sl (b_0.Mesh.Triangles.map (cL (cI .i64))), .sl (b_0.Springs.map GSpring.cells), .f .f32 b_0.Film, .f .f32 b_0.Bend, .sl (b_0.Weights.map (cF .f32)), .f .f32 b_0.Fall.X, .f .f32 b_0.Fall.Y, .f .f32 b_0.Fall.Z]]⟩)
                (ans := [.bo true, .el [.i .i64 ((b_0.Springs.getD x_l0.toNat default).A), .i .i64 ((b_0.Springs.getD x_l0.toNat default).B), .f .f32 ((b_0.Springs.getD x_l0.toNat default).Long), .f .f32 ((b_0.Springs.getD x_l0.toNat default).Stiff)], .num (IntKind.wrap .i64 ((b_0.Mesh.Places.length : Int) - 1)), .call (.b (v_impl_within ((b_0.Springs.getD x_l0.toNat default).A) 0 (IntKind.wrap .i64 ((b_0.Mesh.Places.length : Int) - 1)))) [], .bo false, .bo false, .bo false, .bo false, .num (IntKind.wrap .i64 ((b_0.Mesh.Places.length : Int) - 1)), .bo false, .call (.b (v_impl_within ((b_0.Springs.getD x_l0.toNat default).B) 0 (IntKind.wrap .i64 ((b_0.Mesh.Places.length : Int) - 1)))) [], .bo false, .bo false, .bo false, .bo false, .bo false, .bo false, .bo false, .bo false, .bo false, .bo false, .bo false, .bo false, .bo false, .bo false, .num (x_l0 + 1)])
                (ps := []) (mask := [true, true, false, true, false, false, true, true, true, true, true, true, true, true, true, true, true, true, true, true, true, true, true, true, true, true, true, true, true, true, true, false, false, false, false, false, false, false, false, false, false, false, false, false, false, false, false, false, false, false, false, false, false, false, false, false, false, false, false, false, false, false]) (ks := [0])
                (C := [(decide (x_l0 < (b_0.Springs.length : Int))) = true,
                  0 ≤ x_l0 ∧ (b_0.Springs.map GSpring.cells)[Int.toNat x_l0]? = some [.i .i64 ((b_0.Springs.getD x_l0.toNat default).A), .i .i64 ((b_0.Springs.getD x_l0.toNat default).B), .f .f32 ((b_0.Springs.getD x_l0.toNat default).Long), .f .f32 ((b_0.Springs.getD x_l0.toNat default).Stiff)],
                  IntKind.wrap .i64 ((b_0.Mesh.Places.length : Int) - 1) = (IntKind.wrap .i64 ((b_0.Mesh.Places.length : Int) - 1)),
                  Fn Go.Proofs.Try.prog 80 [.i .i64 ((b_0.Springs.getD x_l0.toNat default).A), .i .i64 0, .i .i64 (IntKind.wrap .i64 ((b_0.Mesh.Places.length : Int) - 1))] (.b (v_impl_within ((b_0.Springs.getD x_l0.toNat default).A) 0 (IntKind.wrap .i64 ((b_0.Mesh.Places.length : Int) - 1)))) [],
                  (!(v_impl_within ((b_0.Springs.getD x_l0.toNat default).A) 0 (IntKind.wrap .i64 ((b_0.Mesh.Places.length : Int) - 1)))) = false,
                  (!(v_impl_within ((b_0.Springs.getD x_l0.toNat default).A) 0 (IntKind.wrap .i64 ((b_0.Mesh.Places.length : Int) - 1)))) = false,
                  (!(v_impl_within ((b_0.Springs.getD x_l0.toNat default).A) 0 (IntKind.wrap .i64 ((b_0.Mesh.Places.length : Int) - 1)))) = false,
                  (!(v_impl_within ((b_0.Springs.getD x_l0.toNat default).A) 0 (IntKind.wrap .i64 ((b_0.Mesh.Places.length : Int) - 1)))) = false,
                  IntKind.wrap .i64 ((b_0.Mesh.Places.length : Int) - 1) = (IntKind.wrap .i64 ((b_0.Mesh.Places.length : Int) - 1)),
                  (!(v_impl_within ((b_0.Springs.getD x_l0.toNat default).A) 0 (IntKind.wrap .i64 ((b_0.Mesh.Places.length : Int) - 1)))) = false,
                  Fn Go.Proofs.Try.prog 80 [.i .i64 ((b_0.Springs.getD x_l0.toNat default).B), .i .i64 0, .i .i64 (IntKind.wrap .i64 ((b_0.Mesh.Places.length : Int) - 1))] (.b (v_impl_within ((b_0.Springs.getD x_l0.toNat default).B) 0 (IntKind.wrap .i64 ((b_0.Mesh.Places.length : Int) - 1)))) [],
                  (!(v_impl_within ((b_0.Springs.getD x_l0.toNat default).A) 0 (IntKind.wrap .i64 ((b_0.Mesh.Places.length : Int) - 1)))) = false,
                  (!(v_impl_within ((b_0.Springs.getD x_l0.toNat default).A) 0 (IntKind.wrap .i64 ((b_0.Mesh.Places.length : Int) - 1)))) = false,
                  (!(v_impl_within ((b_0.Springs.getD x_l0.toNat default).B) 0 (IntKind.wrap .i64 ((b_0.Mesh.Places.length : Int) - 1)))) = false,
                  (!(v_impl_within ((b_0.Springs.getD x_l0.toNat default).B) 0 (IntKind.wrap .i64 ((b_0.Mesh.Places.length : Int) - 1)))) = false,
                  (!(v_impl_within ((b_0.Springs.getD x_l0.toNat default).B) 0 (IntKind.wrap .i64 ((b_0.Mesh.Places.length : Int) - 1)))) = false,
                  (!(v_impl_within ((b_0.Springs.getD x_l0.toNat default).B) 0 (IntKind.wrap .i64 ((b_0.Mesh.Places.length : Int) - 1)))) = false,
                  (!(v_impl_within ((b_0.Springs.getD x_l0.toNat default).B) 0 (IntKind.wrap .i64 ((b_0.Mesh.Places.length : Int) - 1)))) = false,
                  (!(v_impl_within ((b_0.Springs.getD x_l0.toNat default).B) 0 (IntKind.wrap .i64 ((b_0.Mesh.Places.length : Int) - 1)))) = false,
                  ((b_0.Springs.getD x_l0.toNat default).A == (b_0.Springs.getD x_l0.toNat default).B) = false,
                  ((b_0.Springs.getD x_l0.toNat default).A == (b_0.Springs.getD x_l0.toNat default).B) = false,
                  ((b_0.Springs.getD x_l0.toNat default).A == (b_0.Springs.getD x_l0.toNat default).B) = false,
                  ((b_0.Springs.getD x_l0.toNat default).A == (b_0.Springs.getD x_l0.toNat default).B) = false,
                  ((b_0.Springs.getD x_l0.toNat default).A == (b_0.Springs.getD x_l0.toNat default).B) = false,
                  (!(fcmp .geq .f32 ((b_0.Springs.getD x_l0.toNat default).Long) 0)) = false,
                  IntKind.wrap .i64 (x_l0 + 1) = (x_l0 + 1)])
                (by kernel_rfl)
                ⟨h_0, (get_ok (by first | assumption | omega | (simp at * <;> omega) | (simp_all <;> omega)) (by first | assumption | omega | (simp at * <;> omega) | (simp_all <;> omega))), rfl, (t_impl_within ((b_0.Springs.getD x_l0.toNat default).A) 0 (IntKind.wrap .i64 ((b_0.Mesh.Places.length : Int) - 1))), (congrArg not h_1), (congrArg not h_1), (congrArg not h_1), (congrArg not h_1), rfl, (congrArg not h_1), (t_impl_within ((b_0.Springs.getD x_l0.toNat default).B) 0 (IntKind.wrap .i64 ((b_0.Mesh.Places.length : Int) - 1))), (congrArg not h_1), (congrArg not h_1), (congrArg not h_2), (congrArg not h_2), (congrArg not h_2), (congrArg not h_2), (congrArg not h_2), (congrArg not h_2), h_3, h_3, h_3, h_3, h_3, (congrArg not h_4), (wrap_id (by first | assumption | omega | (simp at * <;> omega) | (simp_all <;> omega)) (by first | assumption | omega | (simp at * <;> omega) | (simp_all <;> omega))), trivial⟩
                rfl (ih (x_l0 + 1) (show 0 ≤ (x_l0 + 1) from (by first | assumption | omega | (simp at * <;> omega) | (simp_all <;> omega))) (by first | assumption | omega | (simp at * <;> omega) | (simp_all <;> omega)))
            | false =>
              have e : lo_impl_ValidBody_1 b_0 (k + 1) x_l0 = (.inl ()) := by simp only [lo_impl_ValidBody_1, h_0, h_1, h_2, h_3, h_4, cond_true, cond_false]
              rw [e]
              exact stepK_out (E := E0) E0Ok hMixed (e := .ret) (body := (sub (bodyOf Go.Proofs.Try.f37) [1, 1, 1, 0, 1, 0, 0])) (st := ⟨[.agg [.sl (b_0.Mesh.Places.map GVector.cells), .sl (b_0.Mesh.Triangles.map (cL (cI .i64))), .sl (b_0.Springs.map GSpring.cells), .f .f32 b_0.Film, .f .f32 b_0.Bend, .sl (b_0.Weights.map (cF .f32)), .f .f32 b_0.Fall.X, .f .f32 b_0.Fall.Y, .f .f32 b_0.Fall.Z], .ptr 0 0 0, .any, .i .i64 (b_0.Mesh.Places.length : Int), .any, .any, .ptr 0 0 0, .ptr 0 0 0, .sl (b_0.Mesh.Places.map GVector.cells), .i .i64 (b_0.Mesh.Places.length : Int), .ptr 0 0 0, .agg [.sl (b_0.Mesh.Places.map GVector.cells), .sl (b_0.Mesh.Triangles.map (cL (cI .i64)))], .b (v_impl_ValidMesh b_0.Mesh), .b (!(v_impl_ValidMesh b_0.Mesh)), .b (!(v_impl_ValidMesh b_0.Mesh)), .ptr 0 0 2, .sl (b_0.Springs.map GSpring.cells), .i .i64 (b_0.Springs.length : Int), .b (decide ((b_0.Springs.length : Int) > 200)), .b (decide ((b_0.Springs.length : Int) > 200)), .b (decide ((b_0.Springs.length : Int) > 200)), .ptr 0 0 5, .sl (b_0.Weights.map (cF .f32)), .i .i64 (b_0.Weights.length : Int), .i .i64 (b_0.Mesh.Places.length : Int), .b ((b_0.Weights.length : Int) != (b_0.Mesh.Places.length : Int)), .b ((b_0.Weights.length : Int) != (b_0.Mesh.Places.length : Int)), .ptr 0 0 2, .sl (b_0.Springs.map GSpring.cells), .i .i64 (b_0.Springs.length : Int), .i .i64 x_l0, .any, .any, .any, .any, .any, .any, .any, .any, .any, .any, .any, .any, .any, .any, .any, .any, .any, .any, .any, .any, .any, .any, .any, .any, .any, .any, .any, .any, .any, .any, .any], [.box 63 [.sl (b_0.Mesh.Places.map GVector.cells), .sl (b_0.Mesh.Triangles.map (cL (cI .i64))), .sl (b_0.Springs.map GSpring.cells), .f .f32 b_0.Film, .f .f32 b_0.Bend, .sl (b_0.Weights.map (cF .f32)), .f .f32 b_0.Fall.X, .f .f32 b_0.Fall.Y, .f .f32 b_0.Fall.Z]]⟩)
                (st2 := ⟨[.any, .any, .b false, .any, .any, .any, .any, .any, .any, .any, .any, .any, .any, .any, .any, .any, .any, .any, .any, .any, .any, .any, .any, .any, .any, .any, .any, .any, .any, .any, .any, .any, .any, .any, .any, .any, .any, .any, .any, .any, .any, .any, .any, .any, .any, .any, .any, .any, .any, .any, .any, .any, .any, .any, .any, .any, .any, .any, .any, .any, .any, .any], []⟩)
                (ans := [.bo true, .el [.i .i64 ((b_0.Springs.getD x_l0.toNat default).A), .i .i64 ((b_0.Springs.getD x_l0.toNat default).B), .f .f32 ((b_0.Springs.getD x_l0.toNat default).Long), .f .f32 ((b_0.Springs.getD x_l0.toNat default).Stiff)], .num (IntKind.wrap .i64 ((b_0.Mesh.Places.length : Int) - 1)), .call (.b (v_impl_within ((b_0.Springs.getD x_l0.toNat default).A) 0 (IntKind.wrap .i64 ((b_0.Mesh.Places.length : Int) - 1)))) [], .bo false, .bo false, .bo false, .bo false, .num (IntKind.wrap .i64 ((b_0.Mesh.Places.length : Int) - 1)), .bo false, .call (.b (v_impl_within ((b_0.Springs.getD x_l0.toNat default).B) 0 (IntKind.wrap .i64 ((b_0.Mesh.Places.length : Int) - 1)))) [], .bo false, .bo false, .bo false, .bo false, .bo false, .bo false, .bo false, .bo false, .bo false, .bo false, .bo false, .bo false, .bo false, .bo true])
                (ps := []) (mask := [false, false, true, false, false, false, false, false, false, false, false, false, false, false, false, false, false, false, false, false, false, false, false, false, false, false, false, false, false, false, false, false, false, false, false, false, false, false, false, false, false, false, false, false, false, false, false, false, false, false, false, false, false, false, false, false, false, false, false, false, false, false]) (ks := [])
                (C := [(decide (x_l0 < (b_0.Springs.length : Int))) = true,
                  0 ≤ x_l0 ∧ (b_0.Springs.map GSpring.cells)[Int.toNat x_l0]? = some [.i .i64 ((b_0.Springs.getD x_l0.toNat default).A), .i .i64 ((b_0.Springs.getD x_l0.toNat default).B), .f .f32 ((b_0.Springs.getD x_l0.toNat default).Long), .f .f32 ((b_0.Springs.getD x_l0.toNat default).Stiff)],
                  IntKind.wrap .i64 ((b_0.Mesh.Places.length : Int) - 1) = (IntKind.wrap .i64 ((b_0.Mesh.Places.length : Int) - 1)),
                  Fn Go.Proofs.Try.prog 80 [.i .i64 ((b_0.Springs.getD x_l0.toNat default).A), .i .i64 0, .i .i64 (IntKind.wrap .i64 ((b_0.Mesh.Places.length : Int) - 1))] (.b (v_impl_within ((b_0.Springs.getD x_l0.toNat default).A) 0 (IntKind.wrap .i64 ((b_0.Mesh.Places.length : Int) - 1)))) [],
                  (!(v_impl_within ((b_0.Springs.getD x_l0.toNat default).A) 0 (IntKind.wrap .i64 ((b_0.Mesh.Places.length : Int) - 1)))) = false,
                  (!(v_impl_within ((b_0.Springs.getD x_l0.toNat default).A) 0 (IntKind.wrap .i64 ((b_0.Mesh.Places.length : Int) - 1)))) = false,
                  (!(v_impl_within ((b_0.Springs.getD x_l0.toNat default).A) 0 (IntKind.wrap .i64 ((b_0.Mesh.Places.length : Int) - 1)))) = false,
                  (!(v_impl_within ((b_0.Springs.getD x_l0.toNat default).A) 0 (IntKind.wrap .i64 ((b_0.Mesh.Places.length : Int) - 1)))) = false,
                  IntKind.wrap .i64 ((b_0.Mesh.Places.length : Int) - 1) = (IntKind.wrap .i64 ((b_0.Mesh.Places.length : Int) - 1)),
                  (!(v_impl_within ((b_0.Springs.getD x_l0.toNat default).A) 0 (IntKind.wrap .i64 ((b_0.Mesh.Places.length : Int) - 1)))) = false,
                  Fn Go.Proofs.Try.prog 80 [.i .i64 ((b_0.Springs.getD x_l0.toNat default).B), .i .i64 0, .i .i64 (IntKind.wrap .i64 ((b_0.Mesh.Places.length : Int) - 1))] (.b (v_impl_within ((b_0.Springs.getD x_l0.toNat default).B) 0 (IntKind.wrap .i64 ((b_0.Mesh.Places.length : Int) - 1)))) [],
                  (!(v_impl_within ((b_0.Springs.getD x_l0.toNat default).A) 0 (IntKind.wrap .i64 ((b_0.Mesh.Places.length : Int) - 1)))) = false,
                  (!(v_impl_within ((b_0.Springs.getD x_l0.toNat default).A) 0 (IntKind.wrap .i64 ((b_0.Mesh.Places.length : Int) - 1)))) = false,
                  (!(v_impl_within ((b_0.Springs.getD x_l0.toNat default).B) 0 (IntKind.wrap .i64 ((b_0.Mesh.Places.length : Int) - 1)))) = false,
                  (!(v_impl_within ((b_0.Springs.getD x_l0.toNat default).B) 0 (IntKind.wrap .i64 ((b_0.Mesh.Places.length : Int) - 1)))) = false,
                  (!(v_impl_within ((b_0.Springs.getD x_l0.toNat default).B) 0 (IntKind.wrap .i64 ((b_0.Mesh.Places.length : Int) - 1)))) = false,
                  (!(v_impl_within ((b_0.Springs.getD x_l0.toNat default).B) 0 (IntKind.wrap .i64 ((b_0.Mesh.Places.length : Int) - 1)))) = false,
                  (!(v_impl_within ((b_0.Springs.getD x_l0.toNat default).B) 0 (IntKind.wrap .i64 ((b_0.Mesh.Places.length : Int) - 1)))) = false,
                  (!(v_impl_within ((b_0.Springs.getD x_l0.toNat default).B) 0 (IntKind.wrap .i64 ((b_0.Mesh.Places.length : Int) - 1)))) = false,
                  ((b_0.Springs.getD x_l0.toNat default).A == (b_0.Springs.getD x_l0.toNat default).B) = false,
                  ((b_0.Springs.getD x_l0.toNat default).A == (b_0.Springs.getD x_l0.toNat default).B) = false,
                  ((b_0.Springs.getD x_l0.toNat default).A == (b_0.Springs.getD x_l0.toNat default).B) = false,
                  ((b_0.Springs.getD x_l0.toNat default).A == (b_0.Springs.getD x_l0.toNat default).B) = false,
                  ((b_0.Springs.getD x_l0.toNat default).A == (b_0.Springs.getD x_l0.toNat default).B) = false,
                  (!(fcmp .geq .f32 ((b_0.Springs.getD x_l0.toNat default).Long) 0)) = true])
                (by kernel_rfl)
                ⟨h_0, (get_ok (by first | assumption | omega | (simp at * <;> omega) | (simp_all <;> omega)) (by first | assumption | omega | (simp at * <;> omega) | (simp_all <;> omega))), rfl, (t_impl_within ((b_0.Springs.getD x_l0.toNat default).A) 0 (IntKind.wrap .i64 ((b_0.Mesh.Places.length : Int) - 1))), (congrArg not h_1), (congrArg not h_1), (congrArg not h_1), (congrArg not h_1), rfl, (congrArg not h_1), (t_impl_within ((b_0.Springs.getD x_l0.toNat default).B) 0 (IntKind.wrap .i64 ((b_0.Mesh.Places.length : Int) - 1))), (congrArg not h_1), (congrArg not h_1), (congrArg not h_2), (congrArg not h_2), (congrArg not h_2), (congrArg not h_2), (congrArg not h_2), (congrArg not h_2), h_3, h_3, h_3, h_3, h_3, (congrArg not h_4), trivial⟩
                (by intro h; cases h) rfl
        | false =>
          have e : lo_impl_ValidBody_1 b_0 (k + 1) x_l0 = (.inl ()) := by simp only [lo_impl_ValidBody_1, h_0, h_1, h_2, cond_true, cond_false]
          rw [e]
          exact stepK_out (E := E0) E0Ok hMixed (e := .ret) (body := (sub (bodyOf Go.Proofs.Try.f37) [1, 1, 1, 0, 1, 0, 0])) (st := ⟨[.agg [.sl (b_0.Mesh.Places.map GVector.cells), .sl (b_0.Mesh.Triangles.map (cL (cI .i64))), .sl (b_0.Springs.map GSpring.cells), .f .f32 b_0.Film, .f .f32 b_0.Bend, .sl (b_0.Weights.map (cF .f32)), .f .f32 b_0.Fall.X, .f .f32 b_0.Fall.Y, .f .f32 b_0.Fall.Z], .ptr 0 0 0, .any, .i .i64 (b_0.Mesh.Places.length : Int), .any, .any, .ptr 0 0 0, .ptr 0 0 0, .sl (b_0.Mesh.Places.map GVector.cells), .i .i64 (b_0.Mesh.Places.length : Int), .ptr 0 0 0, .agg [.sl (b_0.Mesh.Places.map GVector.cells), .sl (b_0.Mesh.Triangles.map (cL (cI .i64)))], .b (v_impl_ValidMesh b_0.Mesh), .b (!(v_impl_ValidMesh b_0.Mesh)), .b (!(v_impl_ValidMesh b_0.Mesh)), .ptr 0 0 2, .sl (b_0.Springs.map GSpring.cells), .i .i64 (b_0.Springs.length : Int), .b (decide ((b_0.Springs.length : Int) > 200)), .b (decide ((b_0.Springs.length : Int) > 200)), .b (decide ((b_0.Springs.length : Int) > 200)), .ptr 0 0 5, .sl (b_0.Weights.map (cF .f32)), .i .i64 (b_0.Weights.length : Int), .i .i64 (b_0.Mesh.Places.length : Int), .b ((b_0.Weights.length : Int) != (b_0.Mesh.Places.length : Int)), .b ((b_0.Weights.length : Int) != (b_0.Mesh.Places.length : Int)), .ptr 0 0 2, .sl (b_0.Springs.map GSpring.cells), .i .i64 (b_0.Springs.length : Int), .i .i64 x_l0, .any, .any, .any, .any, .any, .any, .any, .any, .any, .any, .any, .any, .any, .any, .any, .any, .any, .any, .any, .any, .any, .any, .any, .any, .any, .any, .any, .any, .any, .any, .any], [.box 63 [.sl (b_0.Mesh.Places.map GVector.cells), .sl (b_0.Mesh.Triangles.map (cL (cI .i64))), .sl (b_0.Springs.map GSpring.cells), .f .f32 b_0.Film, .f .f32 b_0.Bend, .sl (b_0.Weights.map (cF .f32)), .f .f32 b_0.Fall.X, .f .f32 b_0.Fall.Y, .f .f32 b_0.Fall.Z]]⟩)
            (st2 := ⟨[.any, .any, .b false, .any, .any, .any, .any, .any, .any, .any, .any, .any, .any, .any, .any, .any, .any, .any, .any, .any, .any, .any, .any, .any, .any, .any, .any, .any, .any, .any, .any, .any, .any, .any, .any, .any, .any, .any, .any, .any, .any, .any, .any, .any, .any, .any, .any, .any, .any, .any, .any, .any, .any, .any, .any, .any, .any, .any, .any, .any, .any, .any], []⟩)
            (ans := [.bo true, .el [.i .i64 ((b_0.Springs.getD x_l0.toNat default).A), .i .i64 ((b_0.Springs.getD x_l0.toNat default).B), .f .f32 ((b_0.Springs.getD x_l0.toNat default).Long), .f .f32 ((b_0.Springs.getD x_l0.toNat default).Stiff)], .num (IntKind.wrap .i64 ((b_0.Mesh.Places.length : Int) - 1)), .call (.b (v_impl_within ((b_0.Springs.getD x_l0.toNat default).A) 0 (IntKind.wrap .i64 ((b_0.Mesh.Places.length : Int) - 1)))) [], .bo false, .bo false, .bo false, .bo false, .num (IntKind.wrap .i64 ((b_0.Mesh.Places.length : Int) - 1)), .bo false, .call (.b (v_impl_within ((b_0.Springs.getD x_l0.toNat default).B) 0 (IntKind.wrap .i64 ((b_0.Mesh.Places.length : Int) - 1)))) [], .bo false, .bo false, .bo true, .bo true, .bo true, .bo true, .bo true, .bo true, .bo true, .bo true, .bo true, .bo true, .bo true, .bo true])
            (ps := []) (mask := [false, false, true, false, false, false, false, false, false, false, false, false, false, false, false, false, false, false, false, false, false, false, false, false, false, false, false, false, false, false, false, false, false, false, false, false, false, false, false, false, false, false, false, false, false, false, false, false, false, false, false, false, false, false, false, false, false, false, false, false, false, false]) (ks := [])
            (C := [(decide (x_l0 < (b_0.Springs.length : Int))) = true,
              0 ≤ x_l0 ∧ (b_0.Springs.map GSpring.cells)[Int.toNat x_l0]? = some [.i .i64 ((b_0.Springs.getD x_l0.toNat default).A), .i .i64 ((b_0.Springs.getD x_l0.toNat default).B), .f .f32 ((b_0.Springs.getD x_l0.toNat default).Long), .f .f32 ((b_0.Springs.getD x_l0.toNat default).Stiff)],
              IntKind.wrap .i64 ((b_0.Mesh.Places.length : Int) - 1) = (IntKind.wrap .i64 ((b_0.Mesh.Places.length : Int) - 1)),
              Fn Go.Proofs.Try.prog 80 [.i .i64 ((b_0.Springs.getD x_l0.toNat default).A), .i .i64 0, .i .i64 (IntKind.wrap .i64 ((b_0.Mesh.Places.length : Int) - 1))] (.b (v_impl_within ((b_0.Springs.getD x_l0.toNat default).A) 0 (IntKind.wrap .i64 ((b_0.Mesh.Places.length : Int) - 1)))) [],
              (!(v_impl_within ((b_0.Springs.getD x_l0.toNat default).A) 0 (IntKind.wrap .i64 ((b_0.Mesh.Places.length : Int) - 1)))) = false,
              (!(v_impl_within ((b_0.Springs.getD x_l0.toNat default).A) 0 (IntKind.wrap .i64 ((b_0.Mesh.Places.length : Int) - 1)))) = false,
              (!(v_impl_within ((b_0.Springs.getD x_l0.toNat default).A) 0 (IntKind.wrap .i64 ((b_0.Mesh.Places.length : Int) - 1)))) = false,
              (!(v_impl_within ((b_0.Springs.getD x_l0.toNat default).A) 0 (IntKind.wrap .i64 ((b_0.Mesh.Places.length : Int) - 1)))) = false,
              IntKind.wrap .i64 ((b_0.Mesh.Places.length : Int) - 1) = (IntKind.wrap .i64 ((b_0.Mesh.Places.length : Int) - 1)),
              (!(v_impl_within ((b_0.Springs.getD x_l0.toNat default).A) 0 (IntKind.wrap .i64 ((b_0.Mesh.Places.length : Int) - 1)))) = false,
              Fn Go.Proofs.Try.prog 80 [.i .i64 ((b_0.Springs.getD x_l0.toNat default).B), .i .i64 0, .i .i64 (IntKind.wrap .i64 ((b_0.Mesh.Places.length : Int) - 1))] (.b (v_impl_within ((b_0.Springs.getD x_l0.toNat default).B) 0 (IntKind.wrap .i64 ((b_0.Mesh.Places.length : Int) - 1)))) [],
              (!(v_impl_within ((b_0.Springs.getD x_l0.toNat default).A) 0 (IntKind.wrap .i64 ((b_0.Mesh.Places.length : Int) - 1)))) = false,
              (!(v_impl_within ((b_0.Springs.getD x_l0.toNat default).A) 0 (IntKind.wrap .i64 ((b_0.Mesh.Places.length : Int) - 1)))) = false,
              (!(v_impl_within ((b_0.Springs.getD x_l0.toNat default).B) 0 (IntKind.wrap .i64 ((b_0.Mesh.Places.length : Int) - 1)))) = true,
              (!(v_impl_within ((b_0.Springs.getD x_l0.toNat default).B) 0 (IntKind.wrap .i64 ((b_0.Mesh.Places.length : Int) - 1)))) = true,
              (!(v_impl_within ((b_0.Springs.getD x_l0.toNat default).B) 0 (IntKind.wrap .i64 ((b_0.Mesh.Places.length : Int) - 1)))) = true,
              (!(v_impl_within ((b_0.Springs.getD x_l0.toNat default).B) 0 (IntKind.wrap .i64 ((b_0.Mesh.Places.length : Int) - 1)))) = true,
              (!(v_impl_within ((b_0.Springs.getD x_l0.toNat default).B) 0 (IntKind.wrap .i64 ((b_0.Mesh.Places.length : Int) - 1)))) = true,
              (!(v_impl_within ((b_0.Springs.getD x_l0.toNat default).B) 0 (IntKind.wrap .i64 ((b_0.Mesh.Places.length : Int) - 1)))) = true,
              true = true,
              true = true,
              true = true,
              true = true,
              true = true,
              true = true])
            (by kernel_rfl)
            ⟨h_0, (get_ok (by first | assumption | omega | (simp at * <;> omega) | (simp_all <;> omega)) (by first | assumption | omega | (simp at * <;> omega) | (simp_all <;> omega))), rfl, (t_impl_within ((b_0.Springs.getD x_l0.toNat default).A) 0 (IntKind.wrap .i64 ((b_0.Mesh.Places.length : Int) - 1))), (congrArg not h_1), (congrArg not h_1), (congrArg not h_1), (congrArg not h_1), rfl, (congrArg not h_1), (t_impl_within ((b_0.Springs.getD x_l0.toNat default).B) 0 (IntKind.wrap .i64 ((b_0.Mesh.Places.length : Int) - 1))), (congrArg not h_1), (congrArg not h_1), (congrArg not h_2), (congrArg not h_2), (congrArg not h_2), (congrArg not h_2), (congrArg not h_2), (congrArg not h_2), rfl, rfl, rfl, rfl, rfl, rfl, trivial⟩
            (by intro h; cases h) rfl
      | false =>
        have e : lo_impl_ValidBody_1 b_0 (k + 1) x_l0 = (.inl ()) := by simp only [lo_impl_ValidBody_1, h_0, h_1, cond_true, cond_false]
        rw [e]
        exact stepK_out (E := E0) E0Ok hMixed (e := .ret) (body := (sub (bodyOf Go.Proofs.Try.f37) [1, 1, 1, 0, 1, 0, 0])) (st := ⟨[.agg [.sl (b_0.Mesh.Places.map GVector.cells), .sl (b_0.Mesh.Triangles.map (cL (cI .i64))), .sl (b_0.Springs.map GSpring.cells), .f .f32 b_0.Film, .f .f32 b_0.Bend, .sl (b_0.Weights.map (cF .f32)), .f .f32 b_0.Fall.X, .f .f32 b_0.Fall.Y, .f .f32 b_0.Fall.Z], .ptr 0 0 0, .any, .i .i64 (b_0.Mesh.Places.length : Int), .any, .any, .ptr 0 0 0, .ptr 0 0 0, .sl (b_0.Mesh.Places.map GVector.cells), .i .i64 (b_0.Mesh.Places.length : Int), .ptr 0 0 0, .agg [.sl (b_0.Mesh.Places.map GVector.cells), .sl (b_0.Mesh.Triangles.map (cL (cI .i64)))], .b (v_impl_ValidMesh b_0.Mesh), .b (!(v_impl_ValidMesh b_0.Mesh)), .b (!(v_impl_ValidMesh b_0.Mesh)), .ptr 0 0 2, .sl (b_0.Springs.map GSpring.cells), .i .i64 (b_0.Springs.length : Int), .b (decide ((b_0.Springs.length : Int) > 200)), .b (decide ((b_0.Springs.length : Int) > 200)), .b (decide ((b_0.Springs.length : Int) > 200)), .ptr 0 0 5, .sl (b_0.Weights.map (cF .f32)), .i .i64 (b_0.Weights.length : Int), .i .i64 (b_0.Mesh.Places.length : Int), .b ((b_0.Weights.length : Int) != (b_0.Mesh.Places.length : Int)), .b ((b_0.Weights.length : Int) != (b_0.Mesh.Places.length : Int)), .ptr 0 0 2, .sl (b_0.Springs.map GSpring.cells), .i .i64 (b_0.Springs.length : Int), .i .i64 x_l0, .any, .any, .any, .any, .any, .any, .any, .any, .any, .any, .any, .any, .any, .any, .any, .any, .any, .any, .any, .any, .any, .any, .any, .any, .any, .any, .any, .any, .any, .any, .any], [.box 63 [.sl (b_0.Mesh.Places.map GVector.cells), .sl (b_0.Mesh.Triangles.map (cL (cI .i64))), .sl (b_0.Springs.map GSpring.cells), .f .f32 b_0.Film, .f .f32 b_0.Bend, .sl (b_0.Weights.map (cF .f32)), .f .f32 b_0.Fall.X, .f .f32 b_0.Fall.Y, .f .f32 b_0.Fall.Z]]⟩)
          (st2 := ⟨[.any, .any, .b false, .any, .any, .any, .any, .any, .any, .any, .any, .any, .any, .any, .any, .any, .any, .any, .any, .any, .any, .any, .any, .any, .any, .any, .any, .any, .any, .any, .any, .any, .any, .any, .any, .any, .any, .any, .any, .any, .any, .any, .any, .any, .any, .any, .any, .any, .any, .any, .any, .any, .any, .any, .any, .any, .any, .any, .any, .any, .any, .any], []⟩)
          (ans := [.bo true, .el [.i .i64 ((b_0.Springs.getD x_l0.toNat default).A), .i .i64 ((b_0.Springs.getD x_l0.toNat default).B), .f .f32 ((b_0.Springs.getD x_l0.toNat default).Long), .f .f32 ((b_0.Springs.getD x_l0.toNat default).Stiff)], .num (IntKind.wrap .i64 ((b_0.Mesh.Places.length : Int) - 1)), .call (.b (v_impl_within ((b_0.Springs.getD x_l0.toNat default).A) 0 (IntKind.wrap .i64 ((b_0.Mesh.Places.length : Int) - 1)))) [], .bo true, .bo true, .bo true, .bo true, .bo true, .bo true, .bo true, .bo true, .bo true, .bo true, .bo true, .bo true, .bo true, .bo true, .bo true, .bo true, .bo true, .bo true, .bo true])
          (ps := []) (mask := [false, false, true, false, false, false, false, false, false, false, false, false, false, false, false, false, false, false, false, false, false, false, false, false, false, false, false, false, false, false, false, false, false, false, false, false, false, false, false, false, false, false, false, false, false, false, false, false, false, false, false, false, false, false, false, false, false, false, false, false, false, false]) (ks := [])
          (C := [(decide (x_l0 < (b_0.Springs.length : Int))) = true,
            0 ≤ x_l0 ∧ (b_0.Springs.map GSpring.cells)[Int.toNat x_l0]? = some [.i .i64 ((b_0.Springs.getD x_l0.toNat default).A), .i .i64 ((b_0.Springs.getD x_l0.toNat default).B), .f .f32 ((b_0.Springs.getD x_l0.toNat default).Long), .f .f32 ((b_0.Springs.getD x_l0.toNat default).Stiff)],
            IntKind.wrap .i64 ((b_0.Mesh.Places.length : Int) - 1) = (IntKind.wrap .i64 ((b_0.Mesh.Places.length : Int) - 1)),
            Fn Go.Proofs.Try.prog 80 [.i .i64 ((b_0.Springs.getD x_l0.toNat default).A), .i .i64 0, .i .i64 (IntKind.wrap .i64 ((b_0.Mesh.Places.length : Int) - 1))] (.b (v_impl_within ((b_0.Springs.getD x_l0.toNat default).A) 0 (IntKind.wrap .i64 ((b_0.Mesh.Places.length : Int) - 1)))) [],
            (!(v_impl_within ((b_0.Springs.getD x_l0.toNat default).A) 0 (IntKind.wrap .i64 ((b_0.Mesh.Places.length : Int) - 1)))) = true,
            (!(v_impl_within ((b_0.Springs.getD x_l0.toNat default).A) 0 (IntKind.wrap .i64 ((b_0.Mesh.Places.length : Int) - 1)))) = true,
            (!(v_impl_within ((b_0.Springs.getD x_l0.toNat default).A) 0 (IntKind.wrap .i64 ((b_0.Mesh.Places.length : Int) - 1)))) = true,
            (!(v_impl_within ((b_0.Springs.getD x_l0.toNat default).A) 0 (IntKind.wrap .i64 ((b_0.Mesh.Places.length : Int) - 1)))) = true,
            (!(v_impl_within ((b_0.Springs.getD x_l0.toNat default).A) 0 (IntKind.wrap .i64 ((b_0.Mesh.Places.length : Int) - 1)))) = true,
            (!(v_impl_within ((b_0.Springs.getD x_l0.toNat default).A) 0 (IntKind.wrap .i64 ((b_0.Mesh.Places.length : Int) - 1)))) = true,
            (!(v_impl_within ((b_0.Springs.getD x_l0.toNat default).A) 0 (IntKind.wrap .i64 ((b_0.Mesh.Places.length : Int) - 1)))) = true,
            true = true,
            true = true,
            true = true,
            true = true,
            true = true,
            true = true,
            true = true,
            true = true,
            true = true,
            true = true,
            true = true,
            true = true])
          (by kernel_rfl)
          ⟨h_0, (get_ok (by first | assumption | omega | (simp at * <;> omega) | (simp_all <;> omega)) (by first | assumption | omega | (simp at * <;> omega) | (simp_all <;> omega))), rfl, (t_impl_within ((b_0.Springs.getD x_l0.toNat default).A) 0 (IntKind.wrap .i64 ((b_0.Mesh.Places.length : Int) - 1))), (congrArg not h_1), (congrArg not h_1), (congrArg not h_1), (congrArg not h_1), (congrArg not h_1), (congrArg not h_1), (congrArg not h_1), rfl, rfl, rfl, rfl, rfl, rfl, rfl, rfl, rfl, rfl, rfl, rfl, trivial⟩
          (by intro h; cases h) rfl
    | false =>
      have e : lo_impl_ValidBody_1 b_0 (k + 1) x_l0 = (.inr ()) := by simp only [lo_impl_ValidBody_1, h_0, cond_false]
      rw [e]
      exact stepK_out (E := E0) E0Ok hMixed (e := (.exit 0)) (body := (sub (bodyOf Go.Proofs.Try.f37) [1, 1, 1, 0, 1, 0, 0])) (st := ⟨[.agg [.sl (b_0.Mesh.Places.map GVector.cells), .sl (b_0.Mesh.Triangles.map (cL (cI .i64))), .sl (b_0.Springs.map GSpring.cells), .f .f32 b_0.Film, .f .f32 b_0.Bend, .sl (b_0.Weights.map (cF .f32)), .f .f32 b_0.Fall.X, .f .f32 b_0.Fall.Y, .f .f32 b_0.Fall.Z], .ptr 0 0 0, .any, .i .i64 (b_0.Mesh.Places.length : Int), .any, .any, .ptr 0 0 0, .ptr 0 0 0, .sl (b_0.Mesh.Places.map GVector.cells), .i .i64 (b_0.Mesh.Places.length : Int), .ptr 0 0 0, .agg [.sl (b_0.Mesh.Places.map GVector.cells), .sl (b_0.Mesh.Triangles.map (cL (cI .i64)))], .b (v_impl_ValidMesh b_0.Mesh), .b (!(v_impl_ValidMesh b_0.Mesh)), .b (!(v_impl_ValidMesh b_0.Mesh)), .ptr 0 0 2, .sl (b_0.Springs.map GSpring.cells), .i .i64 (b_0.Springs.length : Int), .b (decide ((b_0.Springs.length : Int) > 200)), .b (decide ((b_0.Springs.length : Int) > 200)), .b (decide ((b_0.Springs.length : Int) > 200)), .ptr 0 0 5, .sl (b_0.Weights.map (cF .f32)), .i .i64 (b_0.Weights.length : Int), .i .i64 (b_0.Mesh.Places.length : Int), .b ((b_0.Weights.length : Int) != (b_0.Mesh.Places.length : Int)), .b ((b_0.Weights.length : Int) != (b_0.Mesh.Places.length : Int)), .ptr 0 0 2, .sl (b_0.Springs.map GSpring.cells), .i .i64 (b_0.Springs.length : Int), .i .i64 x_l0, .any, .any, .any, .any, .any, .any, .any, .any, .any, .any, .any, .any, .any, .any, .any, .any, .any, .any, .any, .any, .any, .any, .any, .any, .any, .any, .any, .any, .any, .any, .any], [.box 63 [.sl (b_0.Mesh.Places.map GVector.cells), .sl (b_0.Mesh.Triangles.map (cL (cI .i64))), .sl (b_0.Springs.map GSpring.cells), .f .f32 b_0.Film, .f .f32 b_0.Bend, .sl (b_0.Weights.map (cF .f32)), .f .f32 b_0.Fall.X, .f .f32 b_0.Fall.Y, .f .f32 b_0.Fall.Z]]⟩)
        (st2 := ⟨[.agg [.sl (b_0.Mesh.Places.map GVector.cells), .sl (b_0.Mesh.Triangles.map (cL (cI .i64))), .sl (b_0.Springs.map GSpring.cells), .f .f32 b_0.Film, .f .f32 b_0.Bend, .sl (b_0.Weights.map (cF .f32)), .f .f32 b_0.Fall.X, .f .f32 b_0.Fall.Y, .f .f32 b_0.Fall.Z], .ptr 0 0 0, .any, .i .i64 (b_0.Mesh.Places.length : Int), .any, .any, .ptr 0 0 0, .ptr 0 0 0, .sl (b_0.Mesh.Places.map GVector.cells), .i .i64 (b_0.Mesh.Places.length : Int), .ptr 0 0 0, .agg [.sl (b_0.Mesh.Places.map GVector.cells), .sl (b_0.Mesh.Triangles.map (cL (cI .i64)))], .b (v_impl_ValidMesh b_0.Mesh), .b (!(v_impl_ValidMesh b_0.Mesh)), .b (!(v_impl_ValidMesh b_0.Mesh)), .ptr 0 0 2, .sl (b_0.Springs.map GSpring.cells), .i .i64 (b_0.Springs.length : Int), .b (decide ((b_0.Springs.length : Int) > 200)), .b (decide ((b_0.Springs.length : Int) > 200)), .b (decide ((b_0.Springs.length : Int) > 200)), .ptr 0 0 5, .sl (b_0.Weights.map (cF .f32)), .i .i64 (b_0.Weights.length : Int), .i .i64 (b_0.Mesh.Places.length : Int), .b ((b_0.Weights.length : Int) != (b_0.Mesh.Places.length : Int)), .b ((b_0.Weights.length : Int) != (b_0.Mesh.Places.length : Int)), .ptr 0 0 2, .sl (b_0.Springs.map GSpring.cells), .any, .any, .any, .any, .any, .any, .any, .any, .any, .any, .any, .any, .any, .any, .any, .any, .any, .any, .any, .any, .any, .any, .any, .any, .any, .any, .any, .any, .any, .any, .any, .any, .any], [.box 63 [.sl (b_0.Mesh.Places.map GVector.cells), .sl (b_0.Mesh.Triangles.map (cL (cI .i64))), .sl (b_0.Springs.map GSpring.cells), .f .f32 b_0.Film, .f .f32 b_0.Bend, .sl (b_0.Weights.map (cF .f32)), .f .f32 b_0.Fall.X, .f .f32 b_0.Fall.Y, .f .f32 b_0.Fall.Z]]⟩)
        (ans := [.bo false])
        (ps := []) (mask := [true, true, false, true, false, false, true, true, true, true, true, true, true, true, true, true, true, true, true, true, true, true, true, true, true, true, true, true, true, false, false, false, false, false, false, false, false, false, false, false, false, false, false, false, false, false, false, false, false, false, false, false, false, false, false, false, false, false, false, false, false, false]) (ks := [0])
        (C := [(decide (x_l0 < (b_0.Springs.length : Int))) = false])
        (by kernel_rfl)
        ⟨h_0, trivial⟩
        (by intro h; cases h) rfl

def lr_impl_ValidBody_1_0 (b_0 : GBody) : (Unit) ⊕ (Unit) := (lo_impl_ValidBody_1 b_0 (((b_0.Springs.length : Int) - 0).toNat + 1) 0)

/-- impl.ValidBody -/
def v_impl_ValidBody (b_0 : GBody) : Bool := (cond (v_impl_ValidMesh b_0.Mesh)
  (cond (decide ((b_0.Springs.length : Int) > 200))
    false
    (cond ((b_0.Weights.length : Int) != (b_0.Mesh.Places.length : Int))
      false
      (match (lr_impl_ValidBody_1_0 b_0) with
        | .inl r4 => false
        | .inr r4 => true)))
  false)

theorem t_impl_ValidBody (b_0 : GBody) (hp0 : b_0.Mesh.Places.length ≤ 1073741824) (hp1 : b_0.Mesh.Triangles.length ≤ 1073741824) (hp2 : ∀ t ∈ b_0.Mesh.Triangles, t.length ≤ 1073741824) (hp3 : b_0.Springs.length ≤ 1073741824) (hp4 : b_0.Weights.length ≤ 1073741824)  : Fn Go.Proofs.Try.prog 37 [.agg [.sl (b_0.Mesh.Places.map GVector.cells), .sl (b_0.Mesh.Triangles.map (cL (cI .i64))), .sl (b_0.Springs.map GSpring.cells), .f .f32 b_0.Film, .f .f32 b_0.Bend, .sl (b_0.Weights.map (cF .f32)), .f .f32 b_0.Fall.X, .f .f32 b_0.Fall.Y, .f .f32 b_0.Fall.Z]] (.b (v_impl_ValidBody b_0)) [] := by
  cases h0 : (v_impl_ValidMesh b_0.Mesh) with
  | true =>
    cases h1 : (decide ((b_0.Springs.length : Int) > 200)) with
    | true =>
      exact Fn.cast (CallSt.fn (callSt_of_evK (E := E0) E0Ok hMixed (c := bodyOf Go.Proofs.Try.f37) (rows := []) (r := .b false) (rows' := [])
        (ans := [.num (b_0.Mesh.Places.length : Int), .call (.b (v_impl_ValidMesh b_0.Mesh)) [], .bo false, .bo false, .bo false, .num (b_0.Springs.length : Int), .bo false, .bo false, .bo true, .bo true, .bo true, .bo true, .bo true, .bo true, .bo true, .keep []])
        (ps := [])
        (C := [(((b_0.Mesh.Places.map GVector.cells).length : Nat) : Int) = (b_0.Mesh.Places.length : Int),
          Fn Go.Proofs.Try.prog 74 [.agg [.sl (b_0.Mesh.Places.map GVector.cells), .sl (b_0.Mesh.Triangles.map (cL (cI .i64)))]] (.b (v_impl_ValidMesh b_0.Mesh)) [],
          (!(v_impl_ValidMesh b_0.Mesh)) = false,
          (!(v_impl_ValidMesh b_0.Mesh)) = false,
          (!(v_impl_ValidMesh b_0.Mesh)) = false,
          (((b_0.Springs.map GSpring.cells).length : Nat) : Int) = (b_0.Springs.length : Int),
          (!(v_impl_ValidMesh b_0.Mesh)) = false,
          (!(v_impl_ValidMesh b_0.Mesh)) = false,
          (decide ((b_0.Springs.length : Int) > 200)) = true,
          (decide ((b_0.Springs.length : Int) > 200)) = true,
          (decide ((b_0.Springs.length : Int) > 200)) = true,
          (decide ((b_0.Springs.length : Int) > 200)) = true,
          (decide ((b_0.Springs.length : Int) > 200)) = true,
          (decide ((b_0.Springs.length : Int) > 200)) = true,
          true = true])
        Go.Proofs.Try.func37 rfl (by kernel_rfl) (by kernel_rfl)
        ⟨len_ok, (t_impl_ValidMesh b_0.Mesh (show b_0.Mesh.Places.length ≤ 1073741824 from (by first | assumption | omega | (simp at * <;> omega) | (simp_all <;> omega))) (show b_0.Mesh.Triangles.length ≤ 1073741824 from (by first | assumption | omega | (simp at * <;> omega) | (simp_all <;> omega))) (show ∀ t ∈ b_0.Mesh.Triangles, t.length ≤ 1073741824 from (by first | assumption | omega | (simp at * <;> omega) | (simp_all <;> omega)))), (congrArg not h0), (congrArg not h0), (congrArg not h0), len_ok, (congrArg not h0), (congrArg not h0), h1, h1, h1, h1, h1, h1, rfl, trivial⟩) rfl) (by simp only [v_impl_ValidBody, h0, h1, cond_true]) rfl
    | false =>
      cases h2 : ((b_0.Weights.length : Int) != (b_0.Mesh.Places.length : Int)) with
      | true =>
        exact Fn.cast (CallSt.fn (callSt_of_evK (E := E0) E0Ok hMixed (c := bodyOf Go.Proofs.Try.f37) (rows := []) (r := .b false) (rows' := [])
          (ans := [.num (b_0.Mesh.Places.length : Int), .call (.b (v_impl_ValidMesh b_0.Mesh)) [], .bo false, .bo false, .bo false, .num (b_0.Springs.length : Int), .bo false, .bo false, .bo false, .bo false, .bo false, .num (b_0.Weights.length : Int), .bo false, .bo false, .bo false, .bo true, .keep []])
          (ps := [])
          (C := [(((b_0.Mesh.Places.map GVector.cells).length : Nat) : Int) = (b_0.Mesh.Places.length : Int),
            Fn Go.Proofs.Try.prog 74 [.agg [.sl (b_0.Mesh.Places.map GVector.cells), .sl (b_0.Mesh.Triangles.map (cL (cI .i64)))]] (.b (v_impl_ValidMesh b_0.Mesh)) [],
            (!(v_impl_ValidMesh b_0.Mesh)) = false,
            (!(v_impl_ValidMesh b_0.Mesh)) = false,
            (!(v_impl_ValidMesh b_0.Mesh)) = false,
            (((b_0.Springs.map GSpring.cells).length : Nat) : Int) = (b_0.Springs.length : Int),
            (!(v_impl_ValidMesh b_0.Mesh)) = false,
            (!(v_impl_ValidMesh b_0.Mesh)) = false,
            (decide ((b_0.Springs.length : Int) > 200)) = false,
            (decide ((b_0.Springs.length : Int) > 200)) = false,
            (decide ((b_0.Springs.length : Int) > 200)) = false,
            (((b_0.Weights.map (cF .f32)).length : Nat) : Int) = (b_0.Weights.length : Int),
            (decide ((b_0.Springs.length : Int) > 200)) = false,
            (decide ((b_0.Springs.length : Int) > 200)) = false,
            (decide ((b_0.Springs.length : Int) > 200)) = false,
            ((b_0.Weights.length : Int) != (b_0.Mesh.Places.length : Int)) = true])
          Go.Proofs.Try.func37 rfl (by kernel_rfl) (by kernel_rfl)
          ⟨len_ok, (t_impl_ValidMesh b_0.Mesh (show b_0.Mesh.Places.length ≤ 1073741824 from (by first | assumption | omega | (simp at * <;> omega) | (simp_all <;> omega))) (show b_0.Mesh.Triangles.length ≤ 1073741824 from (by first | assumption | omega | (simp at * <;> omega) | (simp_all <;> omega))) (show ∀ t ∈ b_0.Mesh.Triangles, t.length ≤ 1073741824 from (by first | assumption | omega | (simp at * <;> omega) | (simp_all <;> omega)))), (congrArg not h0), (congrArg not h0), (congrArg not h0), len_ok, (congrArg not h0), (congrArg not h0), h1, h1, h1, len_ok, h1, h1, h1, h2, trivial⟩) rfl) (by simp only [v_impl_ValidBody, h0, h1, h2, cond_true, cond_false]) rfl
      | false =>
        cases h3 : (lr_impl_ValidBody_1_0 b_0) with
        | inl r4 =>
          exact Fn.cast (CallSt.fn (callSt_of_evK (E := E0) E0Ok hMixed (c := bodyOf Go.Proofs.Try.f37) (rows := []) (r := .b false) (rows' := [])
            (ans := [.num (b_0.Mesh.Places.length : Int), .call (.b (v_impl_ValidMesh b_0.Mesh)) [], .bo false, .bo false, .bo false, .num (b_0.Springs.length : Int), .bo false, .bo false, .bo false, .bo false, .bo false, .num (b_0.Weights.length : Int), .bo false, .bo false, .bo false, .bo false, .num (b_0.Springs.length : Int), .loop [true, true, false, true, false, false, true, true, true, true, true, true, true, true, true, true, true, true, true, true, true, true, true, true, true, true, true, true, true, true, true, false, false, false, false, false, false, false, false, false, false, false, false, false, false, false, false, false, false, false, false, false, false, false, false, false, false, false, false, false, false, false] 1 .ret ⟨[.any, .any, .b false, .any, .any, .any, .any, .any, .any, .any, .any, .any, .any, .any, .any, .any, .any, .any, .any, .any, .any, .any, .any, .any, .any, .any, .any, .any, .any, .any, .any, .any, .any, .any, .any, .any, .any, .any, .any, .any, .any, .any, .any, .any, .any, .any, .any, .any, .any, .any, .any, .any, .any, .any, .any, .any, .any, .any, .any, .any, .any, .any], []⟩, .keep []])
            (ps := [])
            (C := [(((b_0.Mesh.Places.map GVector.cells).length : Nat) : Int) = (b_0.Mesh.Places.length : Int),
              Fn Go.Proofs.Try.prog 74 [.agg [.sl (b_0.Mesh.Places.map GVector.cells), .sl (b_0.Mesh.Triangles.map (cL (cI .i64)))]] (.b (v_impl_ValidMesh b_0.Mesh)) [],
              (!(v_impl_ValidMesh b_0.Mesh)) = false,
              (!(v_impl_ValidMesh b_0.Mesh)) = false,
              (!(v_impl_ValidMesh b_0.Mesh)) = false,
              (((b_0.Springs.map GSpring.cells).length : Nat) : Int) = (b_0.Springs.length : Int),
              (!(v_impl_ValidMesh b_0.Mesh)) = false,
              (!(v_impl_ValidMesh b_0.Mesh)) = false,
              (decide ((b_0.Springs.length : Int) > 200)) = false,
              (decide ((b_0.Springs.length : Int) > 200)) = false,
              (decide ((b_0.Springs.length : Int) > 200)) = false,
              (((b_0.Weights.map (cF .f32)).length : Nat) : Int) = (b_0.Weights.length : Int),
              (decide ((b_0.Springs.length : Int) > 200)) = false,
              (decide ((b_0.Springs.length : Int) > 200)) = false,
              (decide ((b_0.Springs.length : Int) > 200)) = false,
              ((b_0.Weights.length : Int) != (b_0.Mesh.Places.length : Int)) = false,
              (((b_0.Springs.map GSpring.cells).length : Nat) : Int) = (b_0.Springs.length : Int),
              Lp Go.Proofs.Try.prog 0 (sub (bodyOf Go.Proofs.Try.f37) [1, 1, 1, 0, 1, 0, 0]) ⟨[.agg [.sl (b_0.Mesh.Places.map GVector.cells), .sl (b_0.Mesh.Triangles.map (cL (cI .i64))), .sl (b_0.Springs.map GSpring.cells), .f .f32 b_0.Film, .f .f32 b_0.Bend, .sl (b_0.Weights.map (cF .f32)), .f .f32 b_0.Fall.X, .f .f32 b_0.Fall.Y, .f .f32 b_0.Fall.Z], .ptr 0 0 0, .any, .i .i64 (b_0.Mesh.Places.length : Int), .any, .any, .ptr 0 0 0, .ptr 0 0 0, .sl (b_0.Mesh.Places.map GVector.cells), .i .i64 (b_0.Mesh.Places.length : Int), .ptr 0 0 0, .agg [.sl (b_0.Mesh.Places.map GVector.cells), .sl (b_0.Mesh.Triangles.map (cL (cI .i64)))], .b (v_impl_ValidMesh b_0.Mesh), .b (!(v_impl_ValidMesh b_0.Mesh)), .b (!(v_impl_ValidMesh b_0.Mesh)), .ptr 0 0 2, .sl (b_0.Springs.map GSpring.cells), .i .i64 (b_0.Springs.length : Int), .b (decide ((b_0.Springs.length : Int) > 200)), .b (decide ((b_0.Springs.length : Int) > 200)), .b (decide ((b_0.Springs.length : Int) > 200)), .ptr 0 0 5, .sl (b_0.Weights.map (cF .f32)), .i .i64 (b_0.Weights.length : Int), .i .i64 (b_0.Mesh.Places.length : Int), .b ((b_0.Weights.length : Int) != (b_0.Mesh.Places.length : Int)), .b ((b_0.Weights.length : Int) != (b_0.Mesh.Places.length : Int)), .ptr 0 0 2, .sl (b_0.Springs.map GSpring.cells), .i .i64 (b_0.Springs.length : Int), .i .i64 0, .any, .any, .any, .any, .any, .any, .any, .any, .any, .any, .any, .any, .any, .any, .any, .any, .any, .any, .any, .any, .any, .any, .any, .any, .any, .any, .any, .any, .any, .any, .any], [.box 63 [.sl (b_0.Mesh.Places.map GVector.cells), .sl (b_0.Mesh.Triangles.map (cL (cI .i64))), .sl (b_0.Springs.map GSpring.cells), .f .f32 b_0.Film, .f .f32 b_0.Bend, .sl (b_0.Weights.map (cF .f32)), .f .f32 b_0.Fall.X, .f .f32 b_0.Fall.Y, .f .f32 b_0.Fall.Z]]⟩ .ret ⟨[.any, .any, .b false, .any, .any, .any, .any, .any, .any, .any, .any, .any, .any, .any, .any, .any, .any, .any, .any, .any, .any, .any, .any, .any, .any, .any, .any, .any, .any, .any, .any, .any, .any, .any, .any, .any, .any, .any, .any, .any, .any, .any, .any, .any, .any, .any, .any, .any, .any, .any, .any, .any, .any, .any, .any, .any, .any, .any, .any, .any, .any, .any], []⟩])
            Go.Proofs.Try.func37 rfl (by kernel_rfl) (by kernel_rfl)
            ⟨len_ok, (t_impl_ValidMesh b_0.Mesh (show b_0.Mesh.Places.length ≤ 1073741824 from (by first | assumption | omega | (simp at * <;> omega) | (simp_all <;> omega))) (show b_0.Mesh.Triangles.length ≤ 1073741824 from (by first | assumption | omega | (simp at * <;> omega) | (simp_all <;> omega))) (show ∀ t ∈ b_0.Mesh.Triangles, t.length ≤ 1073741824 from (by first | assumption | omega | (simp at * <;> omega) | (simp_all <;> omega)))), (congrArg not h0), (congrArg not h0), (congrArg not h0), len_ok, (congrArg not h0), (congrArg not h0), h1, h1, h1, len_ok, h1, h1, h1, h2, len_ok, (by have q := (lp_impl_ValidBody_1 b_0 hp0 hp1 hp2 hp3 hp4 h2 h1 h0 (((b_0.Springs.length : Int) - 0).toNat + 1) 0 (show 0 ≤ 0 from (by first | assumption | omega | (simp at * <;> omega) | (simp_all <;> omega))) (Nat.lt_succ_self _)); rw [show (lo_impl_ValidBody_1 b_0 (((b_0.Springs.length : Int) - 0).toNat + 1) 0) = _ from rfl] at q; rw [show (lo_impl_ValidBody_1 b_0 (((b_0.Springs.length : Int) - 0).toNat + 1) 0) = (lr_impl_ValidBody_1_0 b_0) from rfl, h3] at q; exact q), trivial⟩) rfl) (by simp only [v_impl_ValidBody, h0, h1, h2, h3, cond_true, cond_false]) rfl
        | inr r4 =>
          exact Fn.cast (CallSt.fn (callSt_of_evK (E := E0) E0Ok hMixed (c := bodyOf Go.Proofs.Try.f37) (rows := []) (r := .b true) (rows' := [])
            (ans := [.num (b_0.Mesh.Places.length : Int), .call (.b (v_impl_ValidMesh b_0.Mesh)) [], .bo false, .bo false, .bo false, .num (b_0.Springs.length : Int), .bo false, .bo false, .bo false, .bo false, .bo false, .num (b_0.Weights.length : Int), .bo false, .bo false, .bo false, .bo false, .num (b_0.Springs.length : Int), .loop [true, true, false, true, false, false, true, true, true, true, true, true, true, true, true, true, true, true, true, true, true, true, true, true, true, true, true, true, true, true, true, false, false, false, false, false, false, false, false, false, false, false, false, false, false, false, false, false, false, false, false, false, false, false, false, false, false, false, false, false, false, false] 1 (.exit 0) ⟨[.agg [.sl (b_0.Mesh.Places.map GVector.cells), .sl (b_0.Mesh.Triangles.map (cL (cI .i64))), .sl (b_0.Springs.map GSpring.cells), .f .f32 b_0.Film, .f .f32 b_0.Bend, .sl (b_0.Weights.map (cF .f32)), .f .f32 b_0.Fall.X, .f .f32 b_0.Fall.Y, .f .f32 b_0.Fall.Z], .ptr 0 0 0, .any, .i .i64 (b_0.Mesh.Places.length : Int), .any, .any, .ptr 0 0 0, .ptr 0 0 0, .sl (b_0.Mesh.Places.map GVector.cells), .i .i64 (b_0.Mesh.Places.length : Int), .ptr 0 0 0, .agg [.sl (b_0.Mesh.Places.map GVector.cells), .sl (b_0.Mesh.Triangles.map (cL (cI .i64)))], .b (v_impl_ValidMesh b_0.Mesh), .b (!(v_impl_ValidMesh b_0.Mesh)), .b (!(v_impl_ValidMesh b_0.Mesh)), .ptr 0 0 2, .sl (b_0.Springs.map GSpring.cells), .i .i64 (b_0.Springs.length : Int), .b (decide ((b_0.Springs.length : Int) > 200)), .b (decide ((b_0.Springs.length : Int) > 200)), .b (decide ((b_0.Springs.length : Int) > 200)), .ptr 0 0 5, .sl (b_0.Weights.map (cF .f32)), .i .i64 (b_0.Weights.length : Int), .i .i64 (b_0.Mesh.Places.length : Int), .b ((b_0.Weights.length : Int) != (b_0.Mesh.Places.length : Int)), .b ((b_0.Weights.length : Int) != (b_0.Mesh.Places.length : Int)), .ptr 0 0 2, .sl (b_0.Springs.map GSpring.cells), .any, .any, .any, .any, .any, .any, .any, .any, .any, .any, .any, .any, .any, .any, .any, .any, .any, .any, .any, .any, .any, .any, .any, .any, .any, .any, .any, .any, .any, .any, .any, .any, .any], [.box 63 [.sl (b_0.Mesh.Places.map GVector.cells), .sl (b_0.Mesh.Triangles.map (cL (cI .i64))), .sl (b_0.Springs.map GSpring.cells), .f .f32 b_0.Film, .f .f32 b_0.Bend, .sl (b_0.Weights.map (cF .f32)), .f .f32 b_0.Fall.X, .f .f32 b_0.Fall.Y, .f .f32 b_0.Fall.Z]]⟩, .keep []])
            (ps := [])
            (C := [(((b_0.Mesh.Places.map GVector.cells).length : Nat) : Int) = (b_0.Mesh.Places.length : Int),
              Fn Go.Proofs.Try.prog 74 [.agg [.sl (b_0.Mesh.Places.map GVector.cells), .sl (b_0.Mesh.Triangles.map (cL (cI .i64)))]] (.b (v_impl_ValidMesh b_0.Mesh)) [],
              (!(v_impl_ValidMesh b_0.Mesh)) = false,
              (!(v_impl_ValidMesh b_0.Mesh)) = false,
              (!(v_impl_ValidMesh b_0.Mesh)) = false,
              (((b_0.Springs.map GSpring.cells).length : Nat) : Int) = (b_0.Springs.length : Int),
              (!(v_impl_ValidMesh b_0.Mesh)) = false,
              (!(v_impl_ValidMesh b_0.Mesh)) = false,
              (decide ((b_0.Springs.length : Int) > 200)) = false,
              (decide ((b_0.Springs.length : Int) > 200)) = false,
              (decide ((b_0.Springs.length : Int) > 200)) = false,
              (((b_0.Weights.map (cF .f32)).length : Nat) : Int) = (b_0.Weights.length : Int),
              (decide ((b_0.Springs.length : Int) > 200)) = false,
              (decide ((b_0.Springs.length : Int) > 200)) = false,
              (decide ((b_0.Springs.length : Int) > 200)) = false,
              ((b_0.Weights.length : Int) != (b_0.Mesh.Places.length : Int)) = false,
              (((b_0.Springs.map GSpring.cells).length : Nat) : Int) = (b_0.Springs.length : Int),
              Lp Go.Proofs.Try.prog 0 (sub (bodyOf Go.Proofs.Try.f37) [1, 1, 1, 0, 1, 0, 0]) ⟨[.agg [.sl (b_0.Mesh.Places.map GVector.cells), .sl (b_0.Mesh.Triangles.map (cL (cI .i64))), .sl (b_0.Springs.map GSpring.cells), .f .f32 b_0.Film, .f .f32 b_0.Bend, .sl (b_0.Weights.map (cF .f32)), .f .f32 b_0.Fall.X, .f .f32 b_0.Fall.Y, .f .f32 b_0.Fall.Z], .ptr 0 0 0, .any, .i .i64 (b_0.Mesh.Places.length : Int), .any, .any, .ptr 0 0 0, .ptr 0 0 0, .sl (b_0.Mesh.Places.map GVector.cells), .i .i64 (b_0.Mesh.Places.length : Int), .ptr 0 0 0, .agg [.sl (b_0.Mesh.Places.map GVector.cells), .sl (b_0.Mesh.Triangles.map (cL (cI .i64)))], .b (v_impl_ValidMesh b_0.Mesh), .b (!(v_impl_ValidMesh b_0.Mesh)), .b (!(v_impl_ValidMesh b_0.Mesh)), .ptr 0 0 2, .sl (b_0.Springs.map GSpring.cells), .i .i64 (b_0.Springs.length : Int), .b (decide ((b_0.Springs.length : Int) > 200)), .b (decide ((b_0.Springs.length : Int) > 200)), .b (decide ((b_0.Springs.length : Int) > 200)), .ptr 0 0 5, .sl (b_0.Weights.map (cF .f32)), .i .i64 (b_0.Weights.length : Int), .i .i64 (b_0.Mesh.Places.length : Int), .b ((b_0.Weights.length : Int) != (b_0.Mesh.Places.length : Int)), .b ((b_0.Weights.length : Int) != (b_0.Mesh.Places.length : Int)), .ptr 0 0 2, .sl (b_0.Springs.map GSpring.cells), .i .i64 (b_0.Springs.length : Int), .i .i64 0, .any, .any, .any, .any, .any, .any, .any, .any, .any, .any, .any, .any, .any, .any, .any, .any, .any, .any, .any, .any, .any, .any, .any, .any, .any, .any, .any, .any, .any, .any, .any], [.box 63 [.sl (b_0.Mesh.Places.map GVector.cells), .sl (b_0.Mesh.Triangles.map (cL (cI .i64))), .sl (b_0.Springs.map GSpring.cells), .f .f32 b_0.Film, .f .f32 b_0.Bend, .sl (b_0.Weights.map (cF .f32)), .f .f32 b_0.Fall.X, .f .f32 b_0.Fall.Y, .f .f32 b_0.Fall.Z]]⟩ (.exit 0) ⟨[.agg [.sl (b_0.Mesh.Places.map GVector.cells), .sl (b_0.Mesh.Triangles.map (cL (cI .i64))), .sl (b_0.Springs.map GSpring.cells), .f .f32 b_0.Film, .f .f32 b_0.Bend, .sl (b_0.Weights.map (cF .f32)), .f .f32 b_0.Fall.X, .f .f32 b_0.Fall.Y, .f .f32 b_0.Fall.Z], .ptr 0 0 0, .any, .i .i64 (b_0.Mesh.Places.length : Int), .any, .any, .ptr 0 0 0, .ptr 0 0 0, .sl (b_0.Mesh.Places.map GVector.cells), .i .i64 (b_0.Mesh.Places.length : Int), .ptr 0 0 0, .agg [.sl (b_0.Mesh.Places.map GVector.cells), .sl (b_0.Mesh.Triangles.map (cL (cI .i64)))], .b (v_impl_ValidMesh b_0.Mesh), .b (!(v_impl_ValidMesh b_0.Mesh)), .b (!(v_impl_ValidMesh b_0.Mesh)), .ptr 0 0 2, .sl (b_0.Springs.map GSpring.cells), .i .i64 (b_0.Springs.length : Int), .b (decide ((b_0.Springs.length : Int) > 200)), .b (decide ((b_0.Springs.length : Int) > 200)), .b (decide ((b_0.Springs.length : Int) > 200)), .ptr 0 0 5, .sl (b_0.Weights.map (cF .f32)), .i .i64 (b_0.Weights.length : Int), .i .i64 (b_0.Mesh.Places.length : Int), .b ((b_0.Weights.length : Int) != (b_0.Mesh.Places.length : Int)), .b ((b_0.Weights.length : Int) != (b_0.Mesh.Places.length : Int)), .ptr 0 0 2, .sl (b_0.Springs.map GSpring.cells), .any, .any, .any, .any, .any, .any, .any, .any, .any, .any, .any, .any, .any, .any, .any, .any, .any, .any, .any, .any, .any, .any, .any, .any, .any, .any, .any, .any, .any, .any, .any, .any, .any], [.box 63 [.sl (b_0.Mesh.Places.map GVector.cells), .sl (b_0.Mesh.Triangles.map (cL (cI .i64))), .sl (b_0.Springs.map GSpring.cells), .f .f32 b_0.Film, .f .f32 b_0.Bend, .sl (b_0.Weights.map (cF .f32)), .f .f32 b_0.Fall.X, .f .f32 b_0.Fall.Y, .f .f32 b_0.Fall.Z]]⟩])
            Go.Proofs.Try.func37 rfl (by kernel_rfl) (by kernel_rfl)
            ⟨len_ok, (t_impl_ValidMesh b_0.Mesh (show b_0.Mesh.Places.length ≤ 1073741824 from (by first | assumption | omega | (simp at * <;> omega) | (simp_all <;> omega))) (show b_0.Mesh.Triangles.length ≤ 1073741824 from (by first | assumption | omega | (simp at * <;> omega) | (simp_all <;> omega))) (show ∀ t ∈ b_0.Mesh.Triangles, t.length ≤ 1073741824 from (by first | assumption | omega | (simp at * <;> omega) | (simp_all <;> omega)))), (congrArg not h0), (congrArg not h0), (congrArg not h0), len_ok, (congrArg not h0), (congrArg not h0), h1, h1, h1, len_ok, h1, h1, h1, h2, len_ok, (by have q := (lp_impl_ValidBody_1 b_0 hp0 hp1 hp2 hp3 hp4 h2 h1 h0 (((b_0.Springs.length : Int) - 0).toNat + 1) 0 (show 0 ≤ 0 from (by first | assumption | omega | (simp at * <;> omega) | (simp_all <;> omega))) (Nat.lt_succ_self _)); rw [show (lo_impl_ValidBody_1 b_0 (((b_0.Springs.length : Int) - 0).toNat + 1) 0) = _ from rfl] at q; rw [show (lo_impl_ValidBody_1 b_0 (((b_0.Springs.length : Int) - 0).toNat + 1) 0) = (lr_impl_ValidBody_1_0 b_0) from rfl, h3] at q; exact q), trivial⟩) rfl) (by simp only [v_impl_ValidBody, h0, h1, h2, h3, cond_true, cond_false]) rfl
  | false =>
    exact Fn.cast (CallSt.fn (callSt_of_evK (E := E0) E0Ok hMixed (c := bodyOf Go.Proofs.Try.f37) (rows := []) (r := .b false) (rows' := [])
      (ans := [.num (b_0.Mesh.Places.length : Int), .call (.b (v_impl_ValidMesh b_0.Mesh)) [], .bo true, .bo true, .bo true, .bo true, .bo true, .bo true, .bo true, .bo true, .bo true, .bo true, .bo true, .bo true, .keep []])
      (ps := [])
      (C := [(((b_0.Mesh.Places.map GVector.cells).length : Nat) : Int) = (b_0.Mesh.Places.length : Int),
        Fn Go.Proofs.Try.prog 74 [.agg [.sl (b_0.Mesh.Places.map GVector.cells), .sl (b_0.Mesh.Triangles.map (cL (cI .i64)))]] (.b (v_impl_ValidMesh b_0.Mesh)) [],
        (!(v_impl_ValidMesh b_0.Mesh)) = true,
        (!(v_impl_ValidMesh b_0.Mesh)) = true,
        (!(v_impl_ValidMesh b_0.Mesh)) = true,
        (!(v_impl_ValidMesh b_0.Mesh)) = true,
        (!(v_impl_ValidMesh b_0.Mesh)) = true,
        true = true,
        true = true,
        true = true,
        true = true,
        true = true,
        true = true,
        true = true])
      Go.Proofs.Try.func37 rfl (by kernel_rfl) (by kernel_rfl)
      ⟨len_ok, (t_impl_ValidMesh b_0.Mesh (show b_0.Mesh.Places.length ≤ 1073741824 from (by first | assumption | omega | (simp at * <;> omega) | (simp_all <;> omega))) (show b_0.Mesh.Triangles.length ≤ 1073741824 from (by first | assumption | omega | (simp at * <;> omega) | (simp_all <;> omega))) (show ∀ t ∈ b_0.Mesh.Triangles, t.length ≤ 1073741824 from (by first | assumption | omega | (simp at * <;> omega) | (simp_all <;> omega)))), (congrArg not h0), (congrArg not h0), (congrArg not h0), (congrArg not h0), (congrArg not h0), rfl, rfl, rfl, rfl, rfl, rfl, rfl, trivial⟩) rfl) (by simp only [v_impl_ValidBody, h0, cond_false]) rfl

theorem springB (s : GSpring) (n : Int) : cond (v_impl_within s.A 0 (IntKind.wrap .i64 (n - 1))) (cond (v_impl_within s.B 0 (IntKind.wrap .i64 (n - 1))) (cond (s.A == s.B) false (fcmp .geq .f32 s.Long 0)) false) false = v_spec_l03Spring s n := by
  unfold v_spec_l03Spring
  rw [show v_impl_within = v_spec_l00In from rfl, show (s.A != s.B) = !(s.A == s.B) from rfl]
  cases (s.A == s.B) <;> rfl
theorem lo_ValidBody (b : GBody) (k : Nat) (i : Int) : lo_impl_ValidBody_1 b (k + 1) i = cond (decide (i < (b.Springs.length : Int))) (cond (v_spec_l03Spring (b.Springs.getD i.toNat default) (b.Mesh.Places.length : Int)) (lo_impl_ValidBody_1 b k (i + 1)) (.inl ())) (.inr ()) := by
  rw [lo_impl_ValidBody_1, ← springB]
  generalize b.Springs.getD i.toNat default = s
  cases v_impl_within s.A 0 (IntKind.wrap .i64 ((b.Mesh.Places.length : Int) - 1)) <;> cases v_impl_within s.B 0 (IntKind.wrap .i64 ((b.Mesh.Places.length : Int) - 1)) <;> cases (s.A == s.B) <;> cases fcmp .geq .f32 s.Long 0 <;> rfl
theorem eq_ValidBody (b : GBody) : v_impl_ValidBody b = v_spec_l03Is b := by
  unfold v_impl_ValidBody v_spec_l03Is lr_impl_ValidBody_1_0 lr_spec_l03Is_1_0
  rw [eq_ValidMesh, all_from (a := b.Springs) (p := fun s => v_spec_l03Spring s (b.Mesh.Places.length : Int)) (lo := lo_impl_ValidBody_1 b) (x := ()) (y := ()) (lo_ValidBody b),
    all_from (a := b.Springs) (p := fun s => v_spec_l03Spring s (b.Mesh.Places.length : Int)) (lo := lo_spec_l03Is_1 b) (x := ()) (y := ()) (fun k i => rfl)]
  rfl
theorem okMesh_is (b : GBody) (h : v_spec_l03Is b = true) : v_spec_l02Is b.Mesh = true := by
  cases hm : v_spec_l02Is b.Mesh with
  | true => rfl
  | false => simp [v_spec_l03Is, hm] at h
theorem places_le (m : GMesh) (h : v_spec_l02Is m = true) : m.Places.length ≤ 64 ∧ m.Triangles.length ≤ 128 := by
  rw [l02Is_eq] at h
  cases h1 : decide ((m.Places.length : Int) > 64) <;> rw [h1] at h <;> (try (cases h; done))
  cases h2 : decide ((m.Triangles.length : Int) > 128) <;> rw [h2] at h <;> (try (cases h; done))
  simp only [decide_eq_false_iff_not] at h1 h2
  omega

def lo_impl_IsHeld_1 (b_0 : GBody) (held_1 : (List Int)) : Nat → Int → Int → (Unit) ⊕ (Unit)
  | 0, _, _ => .inl default
  | k + 1, last_l0, x_l1 => (cond (decide (x_l1 < (held_1.length : Int)))
    (cond (v_impl_within (held_1.getD x_l1.toNat default) (IntKind.wrap .i64 (last_l0 + 1)) (IntKind.wrap .i64 ((b_0.Mesh.Places.length : Int) - 1)))
      (lo_impl_IsHeld_1 b_0 held_1 k (held_1.getD x_l1.toNat default) (x_l1 + 1))
      (.inl ()))
    (.inr ()))

def ls_impl_IsHeld_1 (b_0 : GBody) (held_1 : (List Int)) : (Unit) ⊕ (Unit) → Ex × St
  | .inl r => (.ret, ⟨[.any, .any, .any, .any, .b false, .any, .any, .any, .any, .any, .any, .any, .any, .any, .any, .any, .any, .any, .any, .any, .any, .any, .any, .any, .any, .any, .any, .any, .any], []⟩)
  | .inr r => ((.exit 0), ⟨[.agg [.sl (b_0.Mesh.Places.map GVector.cells), .sl (b_0.Mesh.Triangles.map (cL (cI .i64))), .sl (b_0.Springs.map GSpring.cells), .f .f32 b_0.Film, .f .f32 b_0.Bend, .sl (b_0.Weights.map (cF .f32)), .f .f32 b_0.Fall.X, .f .f32 b_0.Fall.Y, .f .f32 b_0.Fall.Z], .sl (held_1.map (cI .i64)), .ptr 0 0 0, .any, .any, .any, .any, .any, .agg [.sl (b_0.Mesh.Places.map GVector.cells), .sl (b_0.Mesh.Triangles.map (cL (cI .i64))), .sl (b_0.Springs.map GSpring.cells), .f .f32 b_0.Film, .f .f32 b_0.Bend, .sl (b_0.Weights.map (cF .f32)), .f .f32 b_0.Fall.X, .f .f32 b_0.Fall.Y, .f .f32 b_0.Fall.Z], .b (v_impl_ValidBody b_0), .b (!(v_impl_ValidBody b_0)), .sl (held_1.map (cI .i64)), .any, .any, .any, .any, .any, .any, .any, .any, .any, .any, .any, .any, .any, .any, .any, .any, .any], [.box 63 [.sl (b_0.Mesh.Places.map GVector.cells), .sl (b_0.Mesh.Triangles.map (cL (cI .i64))), .sl (b_0.Springs.map GSpring.cells), .f .f32 b_0.Film, .f .f32 b_0.Bend, .sl (b_0.Weights.map (cF .f32)), .f .f32 b_0.Fall.X, .f .f32 b_0.Fall.Y, .f .f32 b_0.Fall.Z]]⟩)

theorem lp_impl_IsHeld_1 (b_0 : GBody) (held_1 : (List Int)) (hp0 : b_0.Mesh.Places.length ≤ 1073741824) (hp1 : b_0.Mesh.Triangles.length ≤ 1073741824) (hp2 : ∀ t ∈ b_0.Mesh.Triangles, t.length ≤ 1073741824) (hp3 : b_0.Springs.length ≤ 1073741824) (hp4 : b_0.Weights.length ≤ 1073741824) (hp5 : held_1.length ≤ 1073741824) (hf_impl_IsHeld_1_0 : (v_impl_ValidBody b_0) = true) : ∀ (k : Nat) (last_l0 : Int) (x_l1 : Int) (hv_impl_IsHeld_1_0 : 0 ≤ x_l1) (hk : ((held_1.length : Int) - x_l1).toNat < k), Lp Go.Proofs.Try.prog 0 (sub (bodyOf Go.Proofs.Try.f41) [1, 1, 1, 0, 1, 0, 0]) ⟨[.agg [.sl (b_0.Mesh.Places.map GVector.cells), .sl (b_0.Mesh.Triangles.map (cL (cI .i64))), .sl (b_0.Springs.map GSpring.cells), .f .f32 b_0.Film, .f .f32 b_0.Bend, .sl (b_0.Weights.map (cF .f32)), .f .f32 b_0.Fall.X, .f .f32 b_0.Fall.Y, .f .f32 b_0.Fall.Z], .sl (held_1.map (cI .i64)), .ptr 0 0 0, .any, .any, .i .i64 last_l0, .any, .any, .agg [.sl (b_0.Mesh.Places.map GVector.cells), .sl (b_0.Mesh.Triangles.map (cL (cI .i64))), .sl (b_0.Springs.map GSpring.cells), .f .f32 b_0.Film, .f .f32 b_0.Bend, .sl (b_0.Weights.map (cF .f32)), .f .f32 b_0.Fall.X, .f .f32 b_0.Fall.Y, .f .f32 b_0.Fall.Z], .b (v_impl_ValidBody b_0), .b (!(v_impl_ValidBody b_0)), .sl (held_1.map (cI .i64)), .i .i64 (held_1.length : Int), .i .i64 x_l1, .any, .any, .any, .any, .any, .any, .any, .any, .any, .any, .any, .any, .any, .any, .any], [.box 63 [.sl (b_0.Mesh.Places.map GVector.cells), .sl (b_0.Mesh.Triangles.map (cL (cI .i64))), .sl (b_0.Springs.map GSpring.cells), .f .f32 b_0.Film, .f .f32 b_0.Bend, .sl (b_0.Weights.map (cF .f32)), .f .f32 b_0.Fall.X, .f .f32 b_0.Fall.Y, .f .f32 b_0.Fall.Z]]⟩ (ls_impl_IsHeld_1 b_0 held_1 (lo_impl_IsHeld_1 b_0 held_1 k last_l0 x_l1)).1 (ls_impl_IsHeld_1 b_0 held_1 (lo_impl_IsHeld_1 b_0 held_1 k last_l0 x_l1)).2 := by
  intro k
  induction k with
  | zero => intro last_l0 x_l1 hv_impl_IsHeld_1_0 hk; exact absurd hk (Nat.not_lt_zero _)
  | succ k ih =>
    intro last_l0 x_l1 hv_impl_IsHeld_1_0 hk
    cases h_0 : (decide (x_l1 < (held_1.length : Int))) with
    | true =>
      cases h_1 : (v_impl_within (held_1.getD x_l1.toNat default) (IntKind.wrap .i64 (last_l0 + 1)) (IntKind.wrap .i64 ((b_0.Mesh.Places.length : Int) - 1))) with
      | true =>
        have e : lo_impl_IsHeld_1 b_0 held_1 (k + 1) last_l0 x_l1 = (lo_impl_IsHeld_1 b_0 held_1 k (held_1.getD x_l1.toNat default) (x_l1 + 1)) := by simp only [lo_impl_IsHeld_1, h_0, h_1, cond_true]
        rw [e]
        exact stepK_next (E := E0) E0Ok hMixed (body := (sub (bodyOf Go.Proofs.Try.f41) [1, 1, 1, 0, 1, 0, 0])) (st := ⟨[.agg [.sl (b_0.Mesh.Places.map GVector.cells), .sl (b_0.Mesh.Triangles.map (cL (cI .i64))), .sl (b_0.Springs.map GSpring.cells), .f .f32 b_0.Film, .f .f32 b_0.Bend, .sl (b_0.Weights.map (cF .f32)), .f .f32 b_0.Fall.X, .f .f32 b_0.Fall.Y, .f .f32 b_0.Fall.Z], .sl (held_1.map (cI .i64)), .ptr 0 0 0, .any, .any, .i .i64 last_l0, .any, .any, .agg [.sl (b_0.Mesh.Places.map GVector.cells), .sl (b_0.Mesh.Triangles.map (cL (cI .i64))), .sl (b_0.Springs.map GSpring.cells), .f .f32 b_0.Film, .f .f32 b_0.Bend, .sl (b_0.Weights.map (cF .f32)), .f .f32 b_0.Fall.X, .f .f32 b_0.Fall.Y, .f .f32 b_0.Fall.Z], .b (v_impl_ValidBody b_0), .b (!(v_impl_ValidBody b_0)), .sl (held_1.map (cI .i64)), .i .i64 (held_1.length : Int), .i .i64 x_l1, .any, .any, .any, .any, .any, .any, .any, .any, .any, .any, .any, .any, .any, .any, .any], [.box 63 [.sl (b_0.Mesh.Places.map GVector.cells), .sl (b_0.Mesh.Triangles.map (cL (cI .i64))), .sl (b_0.Springs.map GSpring.cells), .f .f32 b_0.Film, .f .f32 b_0.Bend, .sl (b_0.Weights.map (cF .f32)), .f .f32 b_0.Fall.X, .f .f32 b_0.Fall.Y, .f .f32 b_0.Fall.Z]]⟩)
          (st2 := ⟨[.agg [.sl (b_0.Mesh.Places.map GVector.cells), .sl (b_0.Mesh.Triangles.map (cL (cI .i64))), .sl (b_0.Springs.map GSpring.cells), .f .f32 b_0.Film, .f .f32 b_0.Bend, .sl (b_0.Weights.map (cF .f32)), .f .f32 b_0.Fall.X, .f .f32 b_0.Fall.Y, .f .f32 b_0.Fall.Z], .sl (held_1.map (cI .i64)), .ptr 0 0 0, .any, .any, .i .i64 (held_1.getD x_l1.toNat default), .any, .any, .agg [.sl (b_0.Mesh.Places.map GVector.cells), .sl (b_0.Mesh.Triangles.map (cL (cI .i64))), .sl (b_0.Springs.map GSpring.cells), .f .f32 b_0.Film, .f .f32 b_0.Bend, .sl (b_0.Weights.map (cF .f32)), .f .f32 b_0.Fall.X, .f .f32 b_0.Fall.Y, .f .f32 b_0.Fall.Z], .b (v_impl_ValidBody b_0), .b (!(v_impl_ValidBody b_0)), .sl (held_1.map (cI .i64)), .i .i64 (held_1.length : Int), .i .i64 (x_l1 + 1), .any, .any, .any, .any, .any, .any, .any, .any, .any, .any, .any, .any, .any, .any, .any], [.box 63 [.sl (b_0.Mesh.Places.map GVector.cells), .sl (b_0.Mesh.Triangles.map (cL (cI .i64))), .sl (b_0.Springs.map GSpring.cells), .f .f32 b_0.Film, .f .f32 b_0.Bend, .sl (b_0.Weights.map (cF .f32)), .f .f32 b_0.Fall.X, .f .f32 b_0.Fall.Y, .f .f32 b_0.Fall.Z]]⟩)
          (ans := [.bo true, .el [.i .i64 (held_1.getD x_l1.toNat default)], .num (IntKind.wrap .i64 (last_l0 + 1)), .num (b_0.Mesh.Places.length : Int), .num (IntKind.wrap .i64 ((b_0.Mesh.Places.length : Int) - 1)), .call (.b (v_impl_within (held_1.getD x_l1.toNat default) (IntKind.wrap .i64 (last_l0 + 1)) (IntKind.wrap .i64 ((b_0.Mesh.Places.length : Int) - 1)))) [], .bo false, .num (x_l1 + 1)])
          (ps := []) (mask := [true, true, true, false, false, true, false, false, true, true, true, true, true, true, false, false, false, false, false, false, false, false, false, false, false, false, false, false, false]) (ks := [0])
          (C := [(decide (x_l1 < (held_1.length : Int))) = true,
            0 ≤ x_l1 ∧ (held_1.map (cI .i64))[Int.toNat x_l1]? = some [.i .i64 (held_1.getD x_l1.toNat default)],
            IntKind.wrap .i64 (last_l0 + 1) = (IntKind.wrap .i64 (last_l0 + 1)),
            (((b_0.Mesh.Places.map GVector.cells).length : Nat) : Int) = (b_0.Mesh.Places.length : Int),
            IntKind.wrap .i64 ((b_0.Mesh.Places.length : Int) - 1) = (IntKind.wrap .i64 ((b_0.Mesh.Places.length : Int) - 1)),
            Fn Go.Proofs.Try.prog 80 [.i .i64 (held_1.getD x_l1.toNat default), .i .i64 (IntKind.wrap .i64 (last_l0 + 1)), .i .i64 (IntKind.wrap .i64 ((b_0.Mesh.Places.length : Int) - 1))] (.b (v_impl_within (held_1.getD x_l1.toNat default) (IntKind.wrap .i64 (last_l0 + 1)) (IntKind.wrap .i64 ((b_0.Mesh.Places.length : Int) - 1)))) [],
            (!(v_impl_within (held_1.getD x_l1.toNat default) (IntKind.wrap .i64 (last_l0 + 1)) (IntKind.wrap .i64 ((b_0.Mesh.Places.length : Int) - 1)))) = false,
            IntKind.wrap .i64 (x_l1 + 1) = (x_l1 + 1)])
          (by kernel_rfl)
          ⟨h_0, (get_ok (by first | assumption | omega | (simp at * <;> omega) | (simp_all <;> omega)) (by first | assumption | omega | (simp at * <;> omega) | (simp_all <;> omega))), rfl, len_ok, rfl, (t_impl_within (held_1.getD x_l1.toNat default) (IntKind.wrap .i64 (last_l0 + 1)) (IntKind.wrap .i64 ((b_0.Mesh.Places.length : Int) - 1))), (congrArg not h_1), (wrap_id (by first | assumption | omega | (simp at * <;> omega) | (simp_all <;> omega)) (by first | assumption | omega | (simp at * <;> omega) | (simp_all <;> omega))), trivial⟩
          rfl (ih (held_1.getD x_l1.toNat default) (x_l1 + 1) (show 0 ≤ (x_l1 + 1) from (by first | assumption | omega | (simp at * <;> omega) | (simp_all <;> omega))) (by first | assumption | omega | (simp at * <;> omega) | (simp_all <;> omega)))
      | false =>
        have e : lo_impl_IsHeld_1 b_0 held_1 (k + 1) last_l0 x_l1 = (.inl ()) := by simp only [lo_impl_IsHeld_1, h_0, h_1, cond_true, cond_false]
        rw [e]
        exact stepK_out (E := E0) E0Ok hMixed (e := .ret) (body := (sub (bodyOf Go.Proofs.Try.f41) [1, 1, 1, 0, 1, 0, 0])) (st := ⟨[.agg [.sl (b_0.Mesh.Places.map GVector.cells), .sl (b_0.Mesh.Triangles.map (cL (cI .i64))), .sl (b_0.Springs.map GSpring.cells), .f .f32 b_0.Film, .f .f32 b_0.Bend, .sl (b_0.Weights.map (cF .f32)), .f .f32 b_0.Fall.X, .f .f32 b_0.Fall.Y, .f .f32 b_0.Fall.Z], .sl (held_1.map (cI .i64)), .ptr 0 0 0, .any, .any, .i .i64 last_l0, .any, .any, .agg [.sl (b_0.Mesh.Places.map GVector.cells), .sl (b_0.Mesh.Triangles.map (cL (cI .i64))), .sl (b_0.Springs.map GSpring.cells), .f .f32 b_0.Film, .f .f32 b_0.Bend, .sl (b_0.Weights.map (cF .f32)), .f .f32 b_0.Fall.X, .f .f32 b_0.Fall.Y, .f .f32 b_0.Fall.Z], .b (v_impl_ValidBody b_0), .b (!(v_impl_ValidBody b_0)), .sl (held_1.map (cI .i64)), .i .i64 (held_1.length : Int), .i .i64 x_l1, .any, .any, .any, .any, .any, .any, .any, .any, .any, .any, .any, .any, .any, .any, .any], [.box 63 [.sl (b_0.Mesh.Places.map GVector.cells), .sl (b_0.Mesh.Triangles.map (cL (cI .i64))), .sl (b_0.Springs.map GSpring.cells), .f .f32 b_0.Film, .f .f32 b_0.Bend, .sl (b_0.Weights.map (cF .f32)), .f .f32 b_0.Fall.X, .f .f32 b_0.Fall.Y, .f .f32 b_0.Fall.Z]]⟩)
          (st2 := ⟨[.any, .any, .any, .any, .b false, .any, .any, .any, .any, .any, .any, .any, .any, .any, .any, .any, .any, .any, .any, .any, .any, .any, .any, .any, .any, .any, .any, .any, .any], []⟩)
          (ans := [.bo true, .el [.i .i64 (held_1.getD x_l1.toNat default)], .num (IntKind.wrap .i64 (last_l0 + 1)), .num (b_0.Mesh.Places.length : Int), .num (IntKind.wrap .i64 ((b_0.Mesh.Places.length : Int) - 1)), .call (.b (v_impl_within (held_1.getD x_l1.toNat default) (IntKind.wrap .i64 (last_l0 + 1)) (IntKind.wrap .i64 ((b_0.Mesh.Places.length : Int) - 1)))) [], .bo true])
          (ps := []) (mask := [false, false, false, false, true, false, false, false, false, false, false, false, false, false, false, false, false, false, false, false, false, false, false, false, false, false, false, false, false]) (ks := [])
          (C := [(decide (x_l1 < (held_1.length : Int))) = true,
            0 ≤ x_l1 ∧ (held_1.map (cI .i64))[Int.toNat x_l1]? = some [.i .i64 (held_1.getD x_l1.toNat default)],
            IntKind.wrap .i64 (last_l0 + 1) = (IntKind.wrap .i64 (last_l0 + 1)),
            (((b_0.Mesh.Places.map GVector.cells).length : Nat) : Int) = (b_0.Mesh.Places.length : Int),
            IntKind.wrap .i64 ((b_0.Mesh.Places.length : Int) - 1) = (IntKind.wrap .i64 ((b_0.Mesh.Places.length : Int) - 1)),
            Fn Go.Proofs.Try.prog 80 [.i .i64 (held_1.getD x_l1.toNat default), .i .i64 (IntKind.wrap .i64 (last_l0 + 1)), .i .i64 (IntKind.wrap .i64 ((b_0.Mesh.Places.length : Int) - 1))] (.b (v_impl_within (held_1.getD x_l1.toNat default) (IntKind.wrap .i64 (last_l0 + 1)) (IntKind.wrap .i64 ((b_0.Mesh.Places.length : Int) - 1)))) [],
            (!(v_impl_within (held_1.getD x_l1.toNat default) (IntKind.wrap .i64 (last_l0 + 1)) (IntKind.wrap .i64 ((b_0.Mesh.Places.length : Int) - 1)))) = true])
          (by kernel_rfl)
          ⟨h_0, (get_ok (by first | assumption | omega | (simp at * <;> omega) | (simp_all <;> omega)) (by first | assumption | omega | (simp at * <;> omega) | (simp_all <;> omega))), rfl, len_ok, rfl, (t_impl_within (held_1.getD x_l1.toNat default) (IntKind.wrap .i64 (last_l0 + 1)) (IntKind.wrap .i64 ((b_0.Mesh.Places.length : Int) - 1))), (congrArg not h_1), trivial⟩
          (by intro h; cases h) rfl
    | false =>
      have e : lo_impl_IsHeld_1 b_0 held_1 (k + 1) last_l0 x_l1 = (.inr ()) := by simp only [lo_impl_IsHeld_1, h_0, cond_false]
      rw [e]
      exact stepK_out (E := E0) E0Ok hMixed (e := (.exit 0)) (body := (sub (bodyOf Go.Proofs.Try.f41) [1, 1, 1, 0, 1, 0, 0])) (st := ⟨[.agg [.sl (b_0.Mesh.Places.map GVector.cells), .sl (b_0.Mesh.Triangles.map (cL (cI .i64))), .sl (b_0.Springs.map GSpring.cells), .f .f32 b_0.Film, .f .f32 b_0.Bend, .sl (b_0.Weights.map (cF .f32)), .f .f32 b_0.Fall.X, .f .f32 b_0.Fall.Y, .f .f32 b_0.Fall.Z], .sl (held_1.map (cI .i64)), .ptr 0 0 0, .any, .any, .i .i64 last_l0, .any, .any, .agg [.sl (b_0.Mesh.Places.map GVector.cells), .sl (b_0.Mesh.Triangles.map (cL (cI .i64))), .sl (b_0.Springs.map GSpring.cells), .f .f32 b_0.Film, .f .f32 b_0.Bend, .sl (b_0.Weights.map (cF .f32)), .f .f32 b_0.Fall.X, .f .f32 b_0.Fall.Y, .f .f32 b_0.Fall.Z], .b (v_impl_ValidBody b_0), .b (!(v_impl_ValidBody b_0)), .sl (held_1.map (cI .i64)), .i .i64 (held_1.length : Int), .i .i64 x_l1, .any, .any, .any, .any, .any, .any, .any, .any, .any, .any, .any, .any, .any, .any, .any], [.box 63 [.sl (b_0.Mesh.Places.map GVector.cells), .sl (b_0.Mesh.Triangles.map (cL (cI .i64))), .sl (b_0.Springs.map GSpring.cells), .f .f32 b_0.Film, .f .f32 b_0.Bend, .sl (b_0.Weights.map (cF .f32)), .f .f32 b_0.Fall.X, .f .f32 b_0.Fall.Y, .f .f32 b_0.Fall.Z]]⟩)
        (st2 := ⟨[.agg [.sl (b_0.Mesh.Places.map GVector.cells), .sl (b_0.Mesh.Triangles.map (cL (cI .i64))), .sl (b_0.Springs.map GSpring.cells), .f .f32 b_0.Film, .f .f32 b_0.Bend, .sl (b_0.Weights.map (cF .f32)), .f .f32 b_0.Fall.X, .f .f32 b_0.Fall.Y, .f .f32 b_0.Fall.Z], .sl (held_1.map (cI .i64)), .ptr 0 0 0, .any, .any, .any, .any, .any, .agg [.sl (b_0.Mesh.Places.map GVector.cells), .sl (b_0.Mesh.Triangles.map (cL (cI .i64))), .sl (b_0.Springs.map GSpring.cells), .f .f32 b_0.Film, .f .f32 b_0.Bend, .sl (b_0.Weights.map (cF .f32)), .f .f32 b_0.Fall.X, .f .f32 b_0.Fall.Y, .f .f32 b_0.Fall.Z], .b (v_impl_ValidBody b_0), .b (!(v_impl_ValidBody b_0)), .sl (held_1.map (cI .i64)), .any, .any, .any, .any, .any, .any, .any, .any, .any, .any, .any, .any, .any, .any, .any, .any, .any], [.box 63 [.sl (b_0.Mesh.Places.map GVector.cells), .sl (b_0.Mesh.Triangles.map (cL (cI .i64))), .sl (b_0.Springs.map GSpring.cells), .f .f32 b_0.Film, .f .f32 b_0.Bend, .sl (b_0.Weights.map (cF .f32)), .f .f32 b_0.Fall.X, .f .f32 b_0.Fall.Y, .f .f32 b_0.Fall.Z]]⟩)
        (ans := [.bo false])
        (ps := []) (mask := [true, true, true, false, false, false, false, false, true, true, true, true, false, false, false, false, false, false, false, false, false, false, false, false, false, false, false, false, false]) (ks := [0])
        (C := [(decide (x_l1 < (held_1.length : Int))) = false])
        (by kernel_rfl)
        ⟨h_0, trivial⟩
        (by intro h; cases h) rfl

def lr_impl_IsHeld_1_0 (b_0 : GBody) (held_1 : (List Int)) : (Unit) ⊕ (Unit) := (lo_impl_IsHeld_1 b_0 held_1 (((held_1.length : Int) - 0).toNat + 1) (-1) 0)

/-- impl.IsHeld -/
def v_impl_IsHeld (b_0 : GBody) (held_1 : (List Int)) : Bool := (cond (v_impl_ValidBody b_0)
  (match (lr_impl_IsHeld_1_0 b_0 held_1) with
    | .inl r2 => false
    | .inr r2 => true)
  false)

theorem t_impl_IsHeld (b_0 : GBody) (held_1 : (List Int)) (hp0 : b_0.Mesh.Places.length ≤ 1073741824) (hp1 : b_0.Mesh.Triangles.length ≤ 1073741824) (hp2 : ∀ t ∈ b_0.Mesh.Triangles, t.length ≤ 1073741824) (hp3 : b_0.Springs.length ≤ 1073741824) (hp4 : b_0.Weights.length ≤ 1073741824) (hp5 : held_1.length ≤ 1073741824)  : Fn Go.Proofs.Try.prog 41 [.agg [.sl (b_0.Mesh.Places.map GVector.cells), .sl (b_0.Mesh.Triangles.map (cL (cI .i64))), .sl (b_0.Springs.map GSpring.cells), .f .f32 b_0.Film, .f .f32 b_0.Bend, .sl (b_0.Weights.map (cF .f32)), .f .f32 b_0.Fall.X, .f .f32 b_0.Fall.Y, .f .f32 b_0.Fall.Z], .sl (held_1.map (cI .i64))] (.b (v_impl_IsHeld b_0 held_1)) [] := by
  cases h0 : (v_impl_ValidBody b_0) with
  | true =>
    cases h1 : (lr_impl_IsHeld_1_0 b_0 held_1) with
    | inl r2 =>
      exact Fn.cast (CallSt.fn (callSt_of_evK (E := E0) E0Ok hMixed (c := bodyOf Go.Proofs.Try.f41) (rows := []) (r := .b false) (rows' := [])
        (ans := [.call (.b (v_impl_ValidBody b_0)) [], .bo false, .num (held_1.length : Int), .loop [true, true, true, false, false, true, false, false, true, true, true, true, true, true, false, false, false, false, false, false, false, false, false, false, false, false, false, false, false] 1 .ret ⟨[.any, .any, .any, .any, .b false, .any, .any, .any, .any, .any, .any, .any, .any, .any, .any, .any, .any, .any, .any, .any, .any, .any, .any, .any, .any, .any, .any, .any, .any], []⟩, .keep []])
        (ps := [])
        (C := [Fn Go.Proofs.Try.prog 37 [.agg [.sl (b_0.Mesh.Places.map GVector.cells), .sl (b_0.Mesh.Triangles.map (cL (cI .i64))), .sl (b_0.Springs.map GSpring.cells), .f .f32 b_0.Film, .f .f32 b_0.Bend, .sl (b_0.Weights.map (cF .f32)), .f .f32 b_0.Fall.X, .f .f32 b_0.Fall.Y, .f .f32 b_0.Fall.Z]] (.b (v_impl_ValidBody b_0)) [],
          (!(v_impl_ValidBody b_0)) = false,
          (((held_1.map (cI .i64)).length : Nat) : Int) = (held_1.length : Int),
          Lp Go.Proofs.Try.prog 0 (sub (bodyOf Go.Proofs.Try.f41) [1, 1, 1, 0, 1, 0, 0]) ⟨[.agg [.sl (b_0.Mesh.Places.map GVector.cells), .sl (b_0.Mesh.Triangles.map (cL (cI .i64))), .sl (b_0.Springs.map GSpring.cells), .f .f32 b_0.Film, .f .f32 b_0.Bend, .sl (b_0.Weights.map (cF .f32)), .f .f32 b_0.Fall.X, .f .f32 b_0.Fall.Y, .f .f32 b_0.Fall.Z], .sl (held_1.map (cI .i64)), .ptr 0 0 0, .any, .any, .i .i64 (-1), .any, .any, .agg [.sl (b_0.Mesh.Places.map GVector.cells), .sl (b_0.Mesh.Triangles.map (cL (cI .i64))), .sl (b_0.Springs.map GSpring.cells), .f .f32 b_0.Film, .f .f32 b_0.Bend, .sl (b_0.Weights.map (cF .f32)), .f .f32 b_0.Fall.X, .f .f32 b_0.Fall.Y, .f .f32 b_0.Fall.Z], .b (v_impl_ValidBody b_0), .b (!(v_impl_ValidBody b_0)), .sl (held_1.map (cI .i64)), .i .i64 (held_1.length : Int), .i .i64 0, .any, .any, .any, .any, .any, .any, .any, .any, .any, .any, .any, .any, .any, .any, .any], [.box 63 [.sl (b_0.Mesh.Places.map GVector.cells), .sl (b_0.Mesh.Triangles.map (cL (cI .i64))), .sl (b_0.Springs.map GSpring.cells), .f .f32 b_0.Film, .f .f32 b_0.Bend, .sl (b_0.Weights.map (cF .f32)), .f .f32 b_0.Fall.X, .f .f32 b_0.Fall.Y, .f .f32 b_0.Fall.Z]]⟩ .ret ⟨[.any, .any, .any, .any, .b false, .any, .any, .any, .any, .any, .any, .any, .any, .any, .any, .any, .any, .any, .any, .any, .any, .any, .any, .any, .any, .any, .any, .any, .any], []⟩])
        Go.Proofs.Try.func41 rfl (by kernel_rfl) (by kernel_rfl)
        ⟨(t_impl_ValidBody b_0 (show b_0.Mesh.Places.length ≤ 1073741824 from (by first | assumption | omega | (simp at * <;> omega) | (simp_all <;> omega))) (show b_0.Mesh.Triangles.length ≤ 1073741824 from (by first | assumption | omega | (simp at * <;> omega) | (simp_all <;> omega))) (show ∀ t ∈ b_0.Mesh.Triangles, t.length ≤ 1073741824 from (by first | assumption | omega | (simp at * <;> omega) | (simp_all <;> omega))) (show b_0.Springs.length ≤ 1073741824 from (by first | assumption | omega | (simp at * <;> omega) | (simp_all <;> omega))) (show b_0.Weights.length ≤ 1073741824 from (by first | assumption | omega | (simp at * <;> omega) | (simp_all <;> omega)))), (congrArg not h0), len_ok, (by have q := (lp_impl_IsHeld_1 b_0 held_1 hp0 hp1 hp2 hp3 hp4 hp5 h0 (((held_1.length : Int) - 0).toNat + 1) (-1) 0 (show 0 ≤ 0 from (by first | assumption | omega | (simp at * <;> omega) | (simp_all <;> omega))) (Nat.lt_succ_self _)); rw [show (lo_impl_IsHeld_1 b_0 held_1 (((held_1.length : Int) - 0).toNat + 1) (-1) 0) = _ from rfl] at q; rw [show (lo_impl_IsHeld_1 b_0 held_1 (((held_1.length : Int) - 0).toNat + 1) (-1) 0) = (lr_impl_IsHeld_1_0 b_0 held_1) from rfl, h1] at q; exact q), trivial⟩) rfl) (by simp only [v_impl_IsHeld, h0, h1, cond_true]) rfl
    | inr r2 =>
      exact Fn.cast (CallSt.fn (callSt_of_evK (E := E0) E0Ok hMixed (c := bodyOf Go.Proofs.Try.f41) (rows := []) (r := .b true) (rows' := [])
        (ans := [.call (.b (v_impl_ValidBody b_0)) [], .bo false, .num (held_1.length : Int), .loop [true, true, true, false, false, true, false, false, true, true, true, true, true, true, false, false, false, false, false, false, false, false, false, false, false, false, false, false, false] 1 (.exit 0) ⟨[.agg [.sl (b_0.Mesh.Places.map GVector.cells), .sl (b_0.Mesh.Triangles.map (cL (cI .i64))), .sl (b_0.Springs.map GSpring.cells), .f .f32 b_0.Film, .f .f32 b_0.Bend, .sl (b_0.Weights.map (cF .f32)), .f .f32 b_0.Fall.X, .f .f32 b_0.Fall.Y, .f .f32 b_0.Fall.Z], .sl (held_1.map (cI .i64)), .ptr 0 0 0, .any, .any, .any, .any, .any, .agg [.sl (b_0.Mesh.Places.map GVector.cells), .sl (b_0.Mesh.Triangles.map (cL (cI .i64))), .sl (b_0.Springs.map GSpring.cells), .f .f32 b_0.Film, .f .f32 b_0.Bend, .sl (b_0.Weights.map (cF .f32)), .f .f32 b_0.Fall.X, .f .f32 b_0.Fall.Y, .f .f32 b_0.Fall.Z], .b (v_impl_ValidBody b_0), .b (!(v_impl_ValidBody b_0)), .sl (held_1.map (cI .i64)), .any, .any, .any, .any, .any, .any, .any, .any, .any, .any, .any, .any, .any, .any, .any, .any, .any], [.box 63 [.sl (b_0.Mesh.Places.map GVector.cells), .sl (b_0.Mesh.Triangles.map (cL (cI .i64))), .sl (b_0.Springs.map GSpring.cells), .f .f32 b_0.Film, .f .f32 b_0.Bend, .sl (b_0.Weights.map (cF .f32)), .f .f32 b_0.Fall.X, .f .f32 b_0.Fall.Y, .f .f32 b_0.Fall.Z]]⟩, .keep []])
        (ps := [])
        (C := [Fn Go.Proofs.Try.prog 37 [.agg [.sl (b_0.Mesh.Places.map GVector.cells), .sl (b_0.Mesh.Triangles.map (cL (cI .i64))), .sl (b_0.Springs.map GSpring.cells), .f .f32 b_0.Film, .f .f32 b_0.Bend, .sl (b_0.Weights.map (cF .f32)), .f .f32 b_0.Fall.X, .f .f32 b_0.Fall.Y, .f .f32 b_0.Fall.Z]] (.b (v_impl_ValidBody b_0)) [],
          (!(v_impl_ValidBody b_0)) = false,
          (((held_1.map (cI .i64)).length : Nat) : Int) = (held_1.length : Int),
          Lp Go.Proofs.Try.prog 0 (sub (bodyOf Go.Proofs.Try.f41) [1, 1, 1, 0, 1, 0, 0]) ⟨[.agg [.sl (b_0.Mesh.Places.map GVector.cells), .sl (b_0.Mesh.Triangles.map (cL (cI .i64))), .sl (b_0.Springs.map GSpring.cells), .f .f32 b_0.Film, .f .f32 b_0.Bend, .sl (b_0.Weights.map (cF .f32)), .f .f32 b_0.Fall.X, .f .f32 b_0.Fall.Y, .f .f32 b_0.Fall.Z], .sl (held_1.map (cI .i64)), .ptr 0 0 0, .any, .any, .i .i64 (-1), .any, .any, .agg [.sl (b_0.Mesh.Places.map GVector.cells), .sl (b_0.Mesh.Triangles.map (cL (cI .i64))), .sl (b_0.Springs.map GSpring.cells), .f .f32 b_0.Film, .f .f32 b_0.Bend, .sl (b_0.Weights.map (cF .f32)), .f .f32 b_0.Fall.X, .f .f32 b_0.Fall.Y, .f .f32 b_0.Fall.Z], .b (v_impl_ValidBody b_0), .b (!(v_impl_ValidBody b_0)), .sl (held_1.map (cI .i64)), .i .i64 (held_1.length : Int), .i .i64 0, .any, .any, .any, .any, .any, .any, .any, .any, .any, .any, .any, .any, .any, .any, .any], [.box 63 [.sl (b_0.Mesh.Places.map GVector.cells), .sl (b_0.Mesh.Triangles.map (cL (cI .i64))), .sl (b_0.Springs.map GSpring.cells), .f .f32 b_0.Film, .f .f32 b_0.Bend, .sl (b_0.Weights.map (cF .f32)), .f .f32 b_0.Fall.X, .f .f32 b_0.Fall.Y, .f .f32 b_0.Fall.Z]]⟩ (.exit 0) ⟨[.agg [.sl (b_0.Mesh.Places.map GVector.cells), .sl (b_0.Mesh.Triangles.map (cL (cI .i64))), .sl (b_0.Springs.map GSpring.cells), .f .f32 b_0.Film, .f .f32 b_0.Bend, .sl (b_0.Weights.map (cF .f32)), .f .f32 b_0.Fall.X, .f .f32 b_0.Fall.Y, .f .f32 b_0.Fall.Z], .sl (held_1.map (cI .i64)), .ptr 0 0 0, .any, .any, .any, .any, .any, .agg [.sl (b_0.Mesh.Places.map GVector.cells), .sl (b_0.Mesh.Triangles.map (cL (cI .i64))), .sl (b_0.Springs.map GSpring.cells), .f .f32 b_0.Film, .f .f32 b_0.Bend, .sl (b_0.Weights.map (cF .f32)), .f .f32 b_0.Fall.X, .f .f32 b_0.Fall.Y, .f .f32 b_0.Fall.Z], .b (v_impl_ValidBody b_0), .b (!(v_impl_ValidBody b_0)), .sl (held_1.map (cI .i64)), .any, .any, .any, .any, .any, .any, .any, .any, .any, .any, .any, .any, .any, .any, .any, .any, .any], [.box 63 [.sl (b_0.Mesh.Places.map GVector.cells), .sl (b_0.Mesh.Triangles.map (cL (cI .i64))), .sl (b_0.Springs.map GSpring.cells), .f .f32 b_0.Film, .f .f32 b_0.Bend, .sl (b_0.Weights.map (cF .f32)), .f .f32 b_0.Fall.X, .f .f32 b_0.Fall.Y, .f .f32 b_0.Fall.Z]]⟩])
        Go.Proofs.Try.func41 rfl (by kernel_rfl) (by kernel_rfl)
        ⟨(t_impl_ValidBody b_0 (show b_0.Mesh.Places.length ≤ 1073741824 from (by first | assumption | omega | (simp at * <;> omega) | (simp_all <;> omega))) (show b_0.Mesh.Triangles.length ≤ 1073741824 from (by first | assumption | omega | (simp at * <;> omega) | (simp_all <;> omega))) (show ∀ t ∈ b_0.Mesh.Triangles, t.length ≤ 1073741824 from (by first | assumption | omega | (simp at * <;> omega) | (simp_all <;> omega))) (show b_0.Springs.length ≤ 1073741824 from (by first | assumption | omega | (simp at * <;> omega) | (simp_all <;> omega))) (show b_0.Weights.length ≤ 1073741824 from (by first | assumption | omega | (simp at * <;> omega) | (simp_all <;> omega)))), (congrArg not h0), len_ok, (by have q := (lp_impl_IsHeld_1 b_0 held_1 hp0 hp1 hp2 hp3 hp4 hp5 h0 (((held_1.length : Int) - 0).toNat + 1) (-1) 0 (show 0 ≤ 0 from (by first | assumption | omega | (simp at * <;> omega) | (simp_all <;> omega))) (Nat.lt_succ_self _)); rw [show (lo_impl_IsHeld_1 b_0 held_1 (((held_1.length : Int) - 0).toNat + 1) (-1) 0) = _ from rfl] at q; rw [show (lo_impl_IsHeld_1 b_0 held_1 (((held_1.length : Int) - 0).toNat + 1) (-1) 0) = (lr_impl_IsHeld_1_0 b_0 held_1) from rfl, h1] at q; exact q), trivial⟩) rfl) (by simp only [v_impl_IsHeld, h0, h1, cond_true]) rfl
  | false =>
    exact Fn.cast (CallSt.fn (callSt_of_evK (E := E0) E0Ok hMixed (c := bodyOf Go.Proofs.Try.f41) (rows := []) (r := .b false) (rows' := [])
      (ans := [.call (.b (v_impl_ValidBody b_0)) [], .bo true, .keep []])
      (ps := [])
      (C := [Fn Go.Proofs.Try.prog 37 [.agg [.sl (b_0.Mesh.Places.map GVector.cells), .sl (b_0.Mesh.Triangles.map (cL (cI .i64))), .sl (b_0.Springs.map GSpring.cells), .f .f32 b_0.Film, .f .f32 b_0.Bend, .sl (b_0.Weights.map (cF .f32)), .f .f32 b_0.Fall.X, .f .f32 b_0.Fall.Y, .f .f32 b_0.Fall.Z]] (.b (v_impl_ValidBody b_0)) [],
        (!(v_impl_ValidBody b_0)) = true])
      Go.Proofs.Try.func41 rfl (by kernel_rfl) (by kernel_rfl)
      ⟨(t_impl_ValidBody b_0 (show b_0.Mesh.Places.length ≤ 1073741824 from (by first | assumption | omega | (simp at * <;> omega) | (simp_all <;> omega))) (show b_0.Mesh.Triangles.length ≤ 1073741824 from (by first | assumption | omega | (simp at * <;> omega) | (simp_all <;> omega))) (show ∀ t ∈ b_0.Mesh.Triangles, t.length ≤ 1073741824 from (by first | assumption | omega | (simp at * <;> omega) | (simp_all <;> omega))) (show b_0.Springs.length ≤ 1073741824 from (by first | assumption | omega | (simp at * <;> omega) | (simp_all <;> omega))) (show b_0.Weights.length ≤ 1073741824 from (by first | assumption | omega | (simp at * <;> omega) | (simp_all <;> omega)))), (congrArg not h0), trivial⟩) rfl) (by simp only [v_impl_IsHeld, h0, cond_false]) rfl

theorem within_rise2 (p last n : Int) (h0 : -1 ≤ last) (hn : 0 ≤ n) (hn' : n ≤ 64) (hl : last < n ∨ last = -1) : v_impl_within p (IntKind.wrap .i64 (last + 1)) (IntKind.wrap .i64 (n - 1)) = (v_spec_l00In p 0 (IntKind.wrap .i64 (n - 1)) && !(decide (last ≥ p))) := by
  rw [show v_impl_within = v_spec_l00In from rfl]
  unfold v_spec_l00In
  rw [wrap_id (n := last + 1) (by omega) (by omega), wrap_id (n := n - 1) (by omega) (by omega)]
  by_cases h1 : p ≥ last + 1 <;> by_cases h2 : p ≤ n - 1 <;> by_cases h3 : p ≥ 0 <;> by_cases h4 : last ≥ p <;> simp [h1, h2, h3, h4] <;> omega
theorem lo_IsHeld (b : GBody) (hs : List Int) (hn : b.Mesh.Places.length ≤ 64) : ∀ (k : Nat) (last i : Int), 0 ≤ i → (i = 0 ∧ last = -1 ∨ 0 < i ∧ last = hs.getD (i - 1).toNat default ∧ 0 ≤ last ∧ last < (b.Mesh.Places.length : Int)) → lo_impl_IsHeld_1 b hs k last i = lo_spec_l00Rises_1 hs 0 (IntKind.wrap .i64 ((b.Mesh.Places.length : Int) - 1)) k i := by
  intro k
  induction k with
  | zero => intros; rfl
  | succ k ih =>
    intro last i h0 hl
    rw [lo_impl_IsHeld_1, lo_spec_l00Rises_1]
    cases decide (i < (hs.length : Int)) with
    | false => rfl
    | true =>
      rw [cond_true, cond_true, within_rise2 _ last (b.Mesh.Places.length : Int) (by omega) (by omega) (by omega) (by omega)]
      cases hP : v_spec_l00In (hs.getD i.toNat default) 0 (IntKind.wrap .i64 ((b.Mesh.Places.length : Int) - 1)) with
      | false => rfl
      | true =>
        rw [Bool.true_and, cond_true]
        have hb : 0 ≤ hs.getD i.toNat default ∧ hs.getD i.toNat default < (b.Mesh.Places.length : Int) := by
          unfold v_spec_l00In at hP
          rw [wrap_id (n := (b.Mesh.Places.length : Int) - 1) (by omega) (by omega)] at hP
          generalize hs.getD i.toNat default = P at hP ⊢
          by_cases h1 : P ≥ 0 <;> simp [h1] at hP
          omega
        have hi := ih (hs.getD i.toNat default) (i + 1) (by omega) (.inr ⟨by omega, by rw [show i + 1 - 1 = i from by omega], hb.1, hb.2⟩)
        rw [hi]
        rcases hl with ⟨hi0, hl⟩ | ⟨hi0, hl, _⟩
        · rw [decide_eq_false (show ¬ last ≥ hs.getD i.toNat default from by omega), decide_eq_false (show ¬ i > 0 from by omega)]; rfl
        · rw [decide_eq_true (show i > 0 from hi0), cond_true, ← hl]
          cases decide (last ≥ hs.getD i.toNat default) <;> rfl
theorem eq_IsHeld (b : GBody) (hs : List Int) : v_impl_IsHeld b hs = cond (v_spec_l03Is b) (v_spec_l05Held b hs) false := by
  unfold v_impl_IsHeld
  rw [eq_ValidBody]
  cases h : v_spec_l03Is b with
  | false => rfl
  | true =>
    unfold v_spec_l05Held v_spec_l00Rises lr_impl_IsHeld_1_0 lr_spec_l00Rises_1_0
    rw [lo_IsHeld b hs (places_le _ (okMesh_is b h)).1 _ _ _ (Int.le_refl 0) (.inl ⟨rfl, rfl⟩)]
    rfl

end Go.Ab
