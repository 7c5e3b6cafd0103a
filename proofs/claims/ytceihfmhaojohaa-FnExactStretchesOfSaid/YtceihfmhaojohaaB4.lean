/- The functions of this seat as plain Lean, and that the program's are these. Printed by a program of the prover's own. -/
import Derived.Test.YtceihfmhaojohaaB3
set_option linter.unusedVariables false
set_option maxRecDepth 100000
namespace Go.Ab
open Go.Proofs.Try
open Go.RowKit

def lr_impl_ValidMesh_1_1 (m_0 : GMesh) : (Unit) ⊕ (Unit) := (lo_impl_ValidMesh_1 m_0 (((m_0.Triangles.length : Int) - 0).toNat + 1) 0)

def v_impl_ValidMesh (m_0 : GMesh) : Bool := (cond (decide ((m_0.Places.length : Int) > 64))
  false
  (cond (decide ((m_0.Triangles.length : Int) > 128))
    false
    (match (lr_impl_ValidMesh_1_1 m_0) with
      | .inl r3 => false
      | .inr r3 => true)))

theorem t_impl_ValidMesh (m_0 : GMesh) (hp0 : m_0.Places.length ≤ 1073741824) (hp1 : m_0.Triangles.length ≤ 1073741824) (hp2 : ∀ t ∈ m_0.Triangles, t.length ≤ 1073741824)  : Fn prog 119 [.agg [.sl (m_0.Places.map GVector.cells), .sl (m_0.Triangles.map (cL (cI .i64)))]] (.b (v_impl_ValidMesh m_0)) [] := by
 cases h0 : (decide ((m_0.Places.length : Int) > 64)) with
 | true =>
  exact Fn.cast (CallSt.fn (callSt_of_evK (E := E0) E0Ok hMixed (c := bodyOf f119) (rows := []) (r := .b false) (rows' := [])
   (ans := [.num (m_0.Places.length : Int), .bo true, .bo true, .bo true, .bo true, .bo true, .bo true, .keep []])
   (ps := [])
   (C := [(((m_0.Places.map GVector.cells).length : Nat) : Int) = (m_0.Places.length : Int),
    (decide ((m_0.Places.length : Int) > 64)) = true,
    (decide ((m_0.Places.length : Int) > 64)) = true,
    (decide ((m_0.Places.length : Int) > 64)) = true,
    (decide ((m_0.Places.length : Int) > 64)) = true,
    (decide ((m_0.Places.length : Int) > 64)) = true,
    true = true])
   func119 rfl (by kernel_rfl) (by kernel_rfl)
   ⟨len_ok, h0, h0, h0, h0, h0, rfl, trivial⟩) rfl) (by simp only [v_impl_ValidMesh, h0, cond_true]) rfl
 | false =>
  cases h1 : (decide ((m_0.Triangles.length : Int) > 128)) with
  | true =>
   exact Fn.cast (CallSt.fn (callSt_of_evK (E := E0) E0Ok hMixed (c := bodyOf f119) (rows := []) (r := .b false) (rows' := [])
    (ans := [.num (m_0.Places.length : Int), .bo false, .bo false, .bo false, .num (m_0.Triangles.length : Int), .bo false, .bo false, .bo true, .keep []])
    (ps := [])
    (C := [(((m_0.Places.map GVector.cells).length : Nat) : Int) = (m_0.Places.length : Int),
     (decide ((m_0.Places.length : Int) > 64)) = false,
     (decide ((m_0.Places.length : Int) > 64)) = false,
     (decide ((m_0.Places.length : Int) > 64)) = false,
     (((m_0.Triangles.map (cL (cI .i64))).length : Nat) : Int) = (m_0.Triangles.length : Int),
     (decide ((m_0.Places.length : Int) > 64)) = false,
     (decide ((m_0.Places.length : Int) > 64)) = false,
     (decide ((m_0.Triangles.length : Int) > 128)) = true])
    func119 rfl (by kernel_rfl) (by kernel_rfl)
    ⟨len_ok, h0, h0, h0, len_ok, h0, h0, h1, trivial⟩) rfl) (by simp only [v_impl_ValidMesh, h0, h1, cond_true, cond_false]) rfl
  | false =>
   cases h2 : (lr_impl_ValidMesh_1_1 m_0) with
   | inl r3 =>
    exact Fn.cast (CallSt.fn (callSt_of_evK (E := E0) E0Ok hMixed (c := bodyOf f119) (rows := []) (r := .b false) (rows' := [])
     (ans := [.num (m_0.Places.length : Int), .bo false, .bo false, .bo false, .num (m_0.Triangles.length : Int), .bo false, .bo false, .bo false, .num (m_0.Triangles.length : Int), .loop [true, true, false, true, false, false, false, false, true, true, true, true, true, true, true, true, true, true, true, true, true, true, true, false, false, false, false, false, false, false, false, false, false, false, false, false, false, false, false, false, false, false, false, false, false, false, false, false, false, false, false, false, false, false, false, false, false, false, false, false, false, false, false, false, false, false, false, false, false] 1 .ret ⟨[.any, .any, .b false, .any, .any, .any, .any, .any, .any, .any, .any, .any, .any, .any, .any, .any, .any, .any, .any, .any, .any, .any, .any, .any, .any, .any, .any, .any, .any, .any, .any, .any, .any, .any, .any, .any, .any, .any, .any, .any, .any, .any, .any, .any, .any, .any, .any, .any, .any, .any, .any, .any, .any, .any, .any, .any, .any, .any, .any, .any, .any, .any, .any, .any, .any, .any, .any, .any, .any], []⟩, .keep []])
     (ps := [])
     (C := [(((m_0.Places.map GVector.cells).length : Nat) : Int) = (m_0.Places.length : Int),
      (decide ((m_0.Places.length : Int) > 64)) = false,
      (decide ((m_0.Places.length : Int) > 64)) = false,
      (decide ((m_0.Places.length : Int) > 64)) = false,
      (((m_0.Triangles.map (cL (cI .i64))).length : Nat) : Int) = (m_0.Triangles.length : Int),
      (decide ((m_0.Places.length : Int) > 64)) = false,
      (decide ((m_0.Places.length : Int) > 64)) = false,
      (decide ((m_0.Triangles.length : Int) > 128)) = false,
      (((m_0.Triangles.map (cL (cI .i64))).length : Nat) : Int) = (m_0.Triangles.length : Int),
      Lp prog 0 (sub (bodyOf f119) [1, 1, 1, 0, 1, 0, 0]) ⟨[.agg [.sl (m_0.Places.map GVector.cells), .sl (m_0.Triangles.map (cL (cI .i64)))], .ptr 0 0 0, .any, .i .i64 (m_0.Places.length : Int), .any, .any, .any, .any, .ptr 0 0 0, .sl (m_0.Places.map GVector.cells), .i .i64 (m_0.Places.length : Int), .i .i64 (m_0.Places.length : Int), .b (decide ((m_0.Places.length : Int) > 64)), .b (decide ((m_0.Places.length : Int) > 64)), .ptr 0 0 1, .sl (m_0.Triangles.map (cL (cI .i64))), .i .i64 (m_0.Triangles.length : Int), .b (decide ((m_0.Triangles.length : Int) > 128)), .b (decide ((m_0.Triangles.length : Int) > 128)), .ptr 0 0 1, .sl (m_0.Triangles.map (cL (cI .i64))), .i .i64 (m_0.Triangles.length : Int), .i .i64 0, .any, .any, .any, .any, .any, .any, .any, .any, .any, .any, .any, .any, .any, .any, .any, .any, .any, .any, .any, .any, .any, .any, .any, .any, .any, .any, .any, .any, .any, .any, .any, .any, .any, .any, .any, .any, .any, .any, .any, .any, .any, .any, .any, .any, .any, .any], [.box 34 [.sl (m_0.Places.map GVector.cells), .sl (m_0.Triangles.map (cL (cI .i64)))]]⟩ .ret ⟨[.any, .any, .b false, .any, .any, .any, .any, .any, .any, .any, .any, .any, .any, .any, .any, .any, .any, .any, .any, .any, .any, .any, .any, .any, .any, .any, .any, .any, .any, .any, .any, .any, .any, .any, .any, .any, .any, .any, .any, .any, .any, .any, .any, .any, .any, .any, .any, .any, .any, .any, .any, .any, .any, .any, .any, .any, .any, .any, .any, .any, .any, .any, .any, .any, .any, .any, .any, .any, .any], []⟩])
     func119 rfl (by kernel_rfl) (by kernel_rfl)
     ⟨len_ok, h0, h0, h0, len_ok, h0, h0, h1, len_ok, (by have q := (lp_impl_ValidMesh_1 m_0 hp0 hp1 hp2 h0 h1 (((m_0.Triangles.length : Int) - 0).toNat + 1) 0 (show 0 ≤ 0 from (by first | assumption | omega | (simp_all <;> omega))) (Nat.lt_succ_self _)); rw [show (lo_impl_ValidMesh_1 m_0 (((m_0.Triangles.length : Int) - 0).toNat + 1) 0) = _ from rfl] at q; rw [show (lo_impl_ValidMesh_1 m_0 (((m_0.Triangles.length : Int) - 0).toNat + 1) 0) = (lr_impl_ValidMesh_1_1 m_0) from rfl, h2] at q; exact q), trivial⟩) rfl) (by simp only [v_impl_ValidMesh, h0, h1, h2, cond_false]) rfl
   | inr r3 =>
    exact Fn.cast (CallSt.fn (callSt_of_evK (E := E0) E0Ok hMixed (c := bodyOf f119) (rows := []) (r := .b true) (rows' := [])
     (ans := [.num (m_0.Places.length : Int), .bo false, .bo false, .bo false, .num (m_0.Triangles.length : Int), .bo false, .bo false, .bo false, .num (m_0.Triangles.length : Int), .loop [true, true, false, true, false, false, false, false, true, true, true, true, true, true, true, true, true, true, true, true, true, true, true, false, false, false, false, false, false, false, false, false, false, false, false, false, false, false, false, false, false, false, false, false, false, false, false, false, false, false, false, false, false, false, false, false, false, false, false, false, false, false, false, false, false, false, false, false, false] 1 (.exit 0) ⟨[.agg [.sl (m_0.Places.map GVector.cells), .sl (m_0.Triangles.map (cL (cI .i64)))], .ptr 0 0 0, .any, .i .i64 (m_0.Places.length : Int), .any, .any, .any, .any, .ptr 0 0 0, .sl (m_0.Places.map GVector.cells), .i .i64 (m_0.Places.length : Int), .i .i64 (m_0.Places.length : Int), .b (decide ((m_0.Places.length : Int) > 64)), .b (decide ((m_0.Places.length : Int) > 64)), .ptr 0 0 1, .sl (m_0.Triangles.map (cL (cI .i64))), .i .i64 (m_0.Triangles.length : Int), .b (decide ((m_0.Triangles.length : Int) > 128)), .b (decide ((m_0.Triangles.length : Int) > 128)), .ptr 0 0 1, .sl (m_0.Triangles.map (cL (cI .i64))), .any, .any, .any, .any, .any, .any, .any, .any, .any, .any, .any, .any, .any, .any, .any, .any, .any, .any, .any, .any, .any, .any, .any, .any, .any, .any, .any, .any, .any, .any, .any, .any, .any, .any, .any, .any, .any, .any, .any, .any, .any, .any, .any, .any, .any, .any, .any, .any], [.box 34 [.sl (m_0.Places.map GVector.cells), .sl (m_0.Triangles.map (cL (cI .i64)))]]⟩, .keep []])
     (ps := [])
     (C := [(((m_0.Places.map GVector.cells).length : Nat) : Int) = (m_0.Places.length : Int),
      (decide ((m_0.Places.length : Int) > 64)) = false,
      (decide ((m_0.Places.length : Int) > 64)) = false,
      (decide ((m_0.Places.length : Int) > 64)) = false,
      (((m_0.Triangles.map (cL (cI .i64))).length : Nat) : Int) = (m_0.Triangles.length : Int),
      (decide ((m_0.Places.length : Int) > 64)) = false,
      (decide ((m_0.Places.length : Int) > 64)) = false,
      (decide ((m_0.Triangles.length : Int) > 128)) = false,
      (((m_0.Triangles.map (cL (cI .i64))).length : Nat) : Int) = (m_0.Triangles.length : Int),
      Lp prog 0 (sub (bodyOf f119) [1, 1, 1, 0, 1, 0, 0]) ⟨[.agg [.sl (m_0.Places.map GVector.cells), .sl (m_0.Triangles.map (cL (cI .i64)))], .ptr 0 0 0, .any, .i .i64 (m_0.Places.length : Int), .any, .any, .any, .any, .ptr 0 0 0, .sl (m_0.Places.map GVector.cells), .i .i64 (m_0.Places.length : Int), .i .i64 (m_0.Places.length : Int), .b (decide ((m_0.Places.length : Int) > 64)), .b (decide ((m_0.Places.length : Int) > 64)), .ptr 0 0 1, .sl (m_0.Triangles.map (cL (cI .i64))), .i .i64 (m_0.Triangles.length : Int), .b (decide ((m_0.Triangles.length : Int) > 128)), .b (decide ((m_0.Triangles.length : Int) > 128)), .ptr 0 0 1, .sl (m_0.Triangles.map (cL (cI .i64))), .i .i64 (m_0.Triangles.length : Int), .i .i64 0, .any, .any, .any, .any, .any, .any, .any, .any, .any, .any, .any, .any, .any, .any, .any, .any, .any, .any, .any, .any, .any, .any, .any, .any, .any, .any, .any, .any, .any, .any, .any, .any, .any, .any, .any, .any, .any, .any, .any, .any, .any, .any, .any, .any, .any, .any], [.box 34 [.sl (m_0.Places.map GVector.cells), .sl (m_0.Triangles.map (cL (cI .i64)))]]⟩ (.exit 0) ⟨[.agg [.sl (m_0.Places.map GVector.cells), .sl (m_0.Triangles.map (cL (cI .i64)))], .ptr 0 0 0, .any, .i .i64 (m_0.Places.length : Int), .any, .any, .any, .any, .ptr 0 0 0, .sl (m_0.Places.map GVector.cells), .i .i64 (m_0.Places.length : Int), .i .i64 (m_0.Places.length : Int), .b (decide ((m_0.Places.length : Int) > 64)), .b (decide ((m_0.Places.length : Int) > 64)), .ptr 0 0 1, .sl (m_0.Triangles.map (cL (cI .i64))), .i .i64 (m_0.Triangles.length : Int), .b (decide ((m_0.Triangles.length : Int) > 128)), .b (decide ((m_0.Triangles.length : Int) > 128)), .ptr 0 0 1, .sl (m_0.Triangles.map (cL (cI .i64))), .any, .any, .any, .any, .any, .any, .any, .any, .any, .any, .any, .any, .any, .any, .any, .any, .any, .any, .any, .any, .any, .any, .any, .any, .any, .any, .any, .any, .any, .any, .any, .any, .any, .any, .any, .any, .any, .any, .any, .any, .any, .any, .any, .any, .any, .any, .any, .any], [.box 34 [.sl (m_0.Places.map GVector.cells), .sl (m_0.Triangles.map (cL (cI .i64)))]]⟩])
     func119 rfl (by kernel_rfl) (by kernel_rfl)
     ⟨len_ok, h0, h0, h0, len_ok, h0, h0, h1, len_ok, (by have q := (lp_impl_ValidMesh_1 m_0 hp0 hp1 hp2 h0 h1 (((m_0.Triangles.length : Int) - 0).toNat + 1) 0 (show 0 ≤ 0 from (by first | assumption | omega | (simp_all <;> omega))) (Nat.lt_succ_self _)); rw [show (lo_impl_ValidMesh_1 m_0 (((m_0.Triangles.length : Int) - 0).toNat + 1) 0) = _ from rfl] at q; rw [show (lo_impl_ValidMesh_1 m_0 (((m_0.Triangles.length : Int) - 0).toNat + 1) 0) = (lr_impl_ValidMesh_1_1 m_0) from rfl, h2] at q; exact q), trivial⟩) rfl) (by simp only [v_impl_ValidMesh, h0, h1, h2, cond_false]) rfl

theorem triB (t : List Int) (n : Int) : (!((t.length : Int) != 3) && (!(t.getD 0 default == t.getD 1 default) && (!(t.getD 1 default == t.getD 2 default) && (!(t.getD 0 default == t.getD 2 default) && t.all fun x => v_impl_within x 0 (IntKind.wrap .i64 (n - 1)))))) = v_spec_l02Triangle t n := by
  unfold v_spec_l02Triangle
  cases hl : ((t.length : Int) != 3) with
  | true => rfl
  | false =>
    have hl3 : t.length = 3 := by simp at hl; omega
    match t, hl3 with
    | [a, b, c], _ =>
      simp only [List.getD_cons_zero, List.getD_cons_succ, List.all_cons, List.all_nil, Bool.and_true]
      rw [show v_impl_within = v_spec_l00In from rfl]
      cases (a == b) <;> cases (b == c) <;> cases (a == c) <;> cases v_spec_l00In a 0 (IntKind.wrap .i64 (n - 1)) <;> cases v_spec_l00In b 0 (IntKind.wrap .i64 (n - 1)) <;> cases v_spec_l00In c 0 (IntKind.wrap .i64 (n - 1)) <;> rfl
theorem lo_ValidMesh (m : GMesh) (k : Nat) (i : Int) : lo_impl_ValidMesh_1 m (k + 1) i = cond (decide (i < (m.Triangles.length : Int))) (cond (v_spec_l02Triangle (m.Triangles.getD i.toNat default) (m.Places.length : Int)) (lo_impl_ValidMesh_1 m k (i + 1)) (.inl ())) (.inr ()) := by
  rw [lo_impl_ValidMesh_1, ← triB]
  have hin : lr_impl_ValidMesh_2_0 m i = cond ((m.Triangles.getD i.toNat default).all fun x => v_impl_within x 0 (IntKind.wrap .i64 ((m.Places.length : Int) - 1))) (.inr ()) (.inl ()) := by
    unfold lr_impl_ValidMesh_2_0
    exact all_from (a := m.Triangles.getD i.toNat default) (p := fun x => v_impl_within x 0 (IntKind.wrap .i64 ((m.Places.length : Int) - 1))) (lo := lo_impl_ValidMesh_2 m i) (x := ()) (y := ()) (fun k i => rfl)
  rw [hin]
  generalize m.Triangles.getD i.toNat default = t
  generalize (t.all fun x => v_impl_within x 0 (IntKind.wrap .i64 ((m.Places.length : Int) - 1))) = q
  cases ((t.length : Int) != 3) <;> cases (t.getD 0 default == t.getD 1 default) <;> cases (t.getD 1 default == t.getD 2 default) <;> cases (t.getD 0 default == t.getD 2 default) <;> cases q <;> rfl
theorem eq_ValidMesh (m : GMesh) : v_impl_ValidMesh m = v_spec_l02Is m := by
  rw [l02Is_eq]
  unfold v_impl_ValidMesh lr_impl_ValidMesh_1_1
  rw [all_from (a := m.Triangles) (p := fun t => v_spec_l02Triangle t (m.Places.length : Int)) (lo := lo_impl_ValidMesh_1 m) (x := ()) (y := ()) (lo_ValidMesh m)]
  cases (m.Triangles.all fun t => v_spec_l02Triangle t (m.Places.length : Int)) <;> rfl

def lo_impl_ValidBody_1 (b_0 : GBody) : Nat → Int → (Unit) ⊕ (Unit)
  | 0, _ => .inl default
  | k + 1, x_l0 => (cond (decide (x_l0 < (b_0.Springs.length : Int)))
    (cond (v_impl_within ((b_0.Springs.getD x_l0.toNat default).A) 0 (IntKind.wrap .i64 ((b_0.Mesh.Places.length : Int) - 1)))
      (cond (v_impl_within ((b_0.Springs.getD x_l0.toNat default).B) 0 (IntKind.wrap .i64 ((b_0.Mesh.Places.length : Int) - 1)))
        (cond ((b_0.Springs.getD x_l0.toNat default).A == (b_0.Springs.getD x_l0.toNat default).B)
          (.inl ())
          (cond (fcmp .geq .f32 ((b_0.Springs.getD x_l0.toNat default).Long) 0)
            (lo_impl_ValidBody_1 b_0 k (x_l0 + 1))
            (.inl ())))
        (.inl ()))
      (.inl ()))
    (.inr ()))

def ls_impl_ValidBody_1 (b_0 : GBody) : (Unit) ⊕ (Unit) → Ex × St
  | .inl r => (.ret, ⟨[.any, .any, .b false, .any, .any, .any, .any, .any, .any, .any, .any, .any, .any, .any, .any, .any, .any, .any, .any, .any, .any, .any, .any, .any, .any, .any, .any, .any, .any, .any, .any, .any, .any, .any, .any, .any, .any, .any, .any, .any, .any, .any, .any, .any, .any, .any, .any, .any, .any, .any, .any, .any, .any, .any, .any, .any, .any, .any, .any, .any, .any, .any], []⟩)
  | .inr r => ((.exit 0), ⟨[.agg [.sl (b_0.Mesh.Places.map GVector.cells), .sl (b_0.Mesh.Triangles.map (cL (cI .i64))), .sl (b_0.Springs.map GSpring.cells), .f .f32 b_0.Film, .f .f32 b_0.Bend, .sl (b_0.Weights.map (cF .f32)), .f .f32 b_0.Fall.X, .f .f32 b_0.Fall.Y, .f .f32 b_0.Fall.Z], .ptr 0 0 0, .any, .i .i64 (b_0.Mesh.Places.length : Int), .any, .any, .ptr 0 0 0, .ptr 0 0 0, .sl (b_0.Mesh.Places.map GVector.cells), .i .i64 (b_0.Mesh.Places.length : Int), .ptr 0 0 0, .agg [.sl (b_0.Mesh.Places.map GVector.cells), .sl (b_0.Mesh.Triangles.map (cL (cI .i64)))], .b (v_impl_ValidMesh b_0.Mesh), .b (!(v_impl_ValidMesh b_0.Mesh)), .b (!(v_impl_ValidMesh b_0.Mesh)), .ptr 0 0 2, .sl (b_0.Springs.map GSpring.cells), .i .i64 (b_0.Springs.length : Int), .b (decide ((b_0.Springs.length : Int) > 200)), .b (decide ((b_0.Springs.length : Int) > 200)), .b (decide ((b_0.Springs.length : Int) > 200)), .ptr 0 0 5, .sl (b_0.Weights.map (cF .f32)), .i .i64 (b_0.Weights.length : Int), .i .i64 (b_0.Mesh.Places.length : Int), .b ((b_0.Weights.length : Int) != (b_0.Mesh.Places.length : Int)), .b ((b_0.Weights.length : Int) != (b_0.Mesh.Places.length : Int)), .ptr 0 0 2, .sl (b_0.Springs.map GSpring.cells), .any, .any, .any, .any, .any, .any, .any, .any, .any, .any, .any, .any, .any, .any, .any, .any, .any, .any, .any, .any, .any, .any, .any, .any, .any, .any, .any, .any, .any, .any, .any, .any, .any], [.box 59 [.sl (b_0.Mesh.Places.map GVector.cells), .sl (b_0.Mesh.Triangles.map (cL (cI .i64))), .sl (b_0.Springs.map GSpring.cells), .f .f32 b_0.Film, .f .f32 b_0.Bend, .sl (b_0.Weights.map (cF .f32)), .f .f32 b_0.Fall.X, .f .f32 b_0.Fall.Y, .f .f32 b_0.Fall.Z]]⟩)

theorem lp_impl_ValidBody_1 (b_0 : GBody) (hp0 : b_0.Mesh.Places.length ≤ 1073741824) (hp1 : b_0.Mesh.Triangles.length ≤ 1073741824) (hp2 : ∀ t ∈ b_0.Mesh.Triangles, t.length ≤ 1073741824) (hp3 : b_0.Springs.length ≤ 1073741824) (hp4 : b_0.Weights.length ≤ 1073741824) (hf_impl_ValidBody_1_0 : ((b_0.Weights.length : Int) != (b_0.Mesh.Places.length : Int)) = false) (hf_impl_ValidBody_1_1 : (decide ((b_0.Springs.length : Int) > 200)) = false) (hf_impl_ValidBody_1_2 : (v_impl_ValidMesh b_0.Mesh) = true) : ∀ (k : Nat) (x_l0 : Int) (hv_impl_ValidBody_1_0 : 0 ≤ x_l0) (hk : ((b_0.Springs.length : Int) - x_l0).toNat < k), Lp prog 0 (sub (bodyOf f103) [1, 1, 1, 0, 1, 0, 0]) ⟨[.agg [.sl (b_0.Mesh.Places.map GVector.cells), .sl (b_0.Mesh.Triangles.map (cL (cI .i64))), .sl (b_0.Springs.map GSpring.cells), .f .f32 b_0.Film, .f .f32 b_0.Bend, .sl (b_0.Weights.map (cF .f32)), .f .f32 b_0.Fall.X, .f .f32 b_0.Fall.Y, .f .f32 b_0.Fall.Z], .ptr 0 0 0, .any, .i .i64 (b_0.Mesh.Places.length : Int), .any, .any, .ptr 0 0 0, .ptr 0 0 0, .sl (b_0.Mesh.Places.map GVector.cells), .i .i64 (b_0.Mesh.Places.length : Int), .ptr 0 0 0, .agg [.sl (b_0.Mesh.Places.map GVector.cells), .sl (b_0.Mesh.Triangles.map (cL (cI .i64)))], .b (v_impl_ValidMesh b_0.Mesh), .b (!(v_impl_ValidMesh b_0.Mesh)), .b (!(v_impl_ValidMesh b_0.Mesh)), .ptr 0 0 2, .sl (b_0.Springs.map GSpring.cells), .i .i64 (b_0.Springs.length : Int), .b (decide ((b_0.Springs.length : Int) > 200)), .b (decide ((b_0.Springs.length : Int) > 200)), .b (decide ((b_0.Springs.length : Int) > 200)), .ptr 0 0 5, .sl (b_0.Weights.map (cF .f32)), .i .i64 (b_0.Weights.length : Int), .i .i64 (b_0.Mesh.Places.length : Int), .b ((b_0.Weights.length : Int) != (b_0.Mesh.Places.length : Int)), .b ((b_0.Weights.length : Int) != (b_0.Mesh.Places.length : Int)), .ptr 0 0 2, .sl (b_0.Springs.map GSpring.cells), .i .i64 (b_0.Springs.length : Int), .i .i64 x_l0, .any, .any, .any, .any, .any, .any, .any, .any, .any, .any, .any, .any, .any, .any, .any, .any, .any, .any, .any, .any, .any, .any, .any, .any, .any, .any, .any, .any, .any, .any, .any], [.box 59 [.sl (b_0.Mesh.Places.map GVector.cells), .sl (b_0.Mesh.Triangles.map (cL (cI .i64))), .sl (b_0.Springs.map GSpring.cells), .f .f32 b_0.Film, .f .f32 b_0.Bend, .sl (b_0.Weights.map (cF .f32)), .f .f32 b_0.Fall.X, .f .f32 b_0.Fall.Y, .f .f32 b_0.Fall.Z]]⟩ (ls_impl_ValidBody_1 b_0 (lo_impl_ValidBody_1 b_0 k x_l0)).1 (ls_impl_ValidBody_1 b_0 (lo_impl_ValidBody_1 b_0 k x_l0)).2 := by
 intro k
 induction k with
 | zero => intro x_l0 hv_impl_ValidBody_1_0 hk; exact absurd hk (Nat.not_lt_zero _)
 | succ k ih =>
  intro x_l0 hv_impl_ValidBody_1_0 hk
  cases h_0 : (decide (x_l0 < (b_0.Springs.length : Int))) with
  | true =>
   cases h_1 : (v_impl_within ((b_0.Springs.getD x_l0.toNat default).A) 0 (IntKind.wrap .i64 ((b_0.Mesh.Places.length : Int) - 1))) with
   | true =>
    cases h_2 : (v_impl_within ((b_0.Springs.getD x_l0.toNat default).B) 0 (IntKind.wrap .i64 ((b_0.Mesh.Places.length : Int) - 1))) with
    | true =>
     cases h_3 : ((b_0.Springs.getD x_l0.toNat default).A == (b_0.Springs.getD x_l0.toNat default).B) with
     | true =>
      have e : lo_impl_ValidBody_1 b_0 (k + 1) x_l0 = (.inl ()) := by simp only [lo_impl_ValidBody_1, h_0, h_1, h_2, h_3, cond_true]
      rw [e]
      exact stepK_out (E := E0) E0Ok hMixed (e := .ret) (body := (sub (bodyOf f103) [1, 1, 1, 0, 1, 0, 0])) (st := ⟨[.agg [.sl (b_0.Mesh.Places.map GVector.cells), .sl (b_0.Mesh.Triangles.map (cL (cI .i64))), .sl (b_0.Springs.map GSpring.cells), .f .f32 b_0.Film, .f .f32 b_0.Bend, .sl (b_0.Weights.map (cF .f32)), .f .f32 b_0.Fall.X, .f .f32 b_0.Fall.Y, .f .f32 b_0.Fall.Z], .ptr 0 0 0, .any, .i .i64 (b_0.Mesh.Places.length : Int), .any, .any, .ptr 0 0 0, .ptr 0 0 0, .sl (b_0.Mesh.Places.map GVector.cells), .i .i64 (b_0.Mesh.Places.length : Int), .ptr 0 0 0, .agg [.sl (b_0.Mesh.Places.map GVector.cells), .sl (b_0.Mesh.Triangles.map (cL (cI .i64)))], .b (v_impl_ValidMesh b_0.Mesh), .b (!(v_impl_ValidMesh b_0.Mesh)), .b (!(v_impl_ValidMesh b_0.Mesh)), .ptr 0 0 2, .sl (b_0.Springs.map GSpring.cells), .i .i64 (b_0.Springs.length : Int), .b (decide ((b_0.Springs.length : Int) > 200)), .b (decide ((b_0.Springs.length : Int) > 200)), .b (decide ((b_0.Springs.length : Int) > 200)), .ptr 0 0 5, .sl (b_0.Weights.map (cF .f32)), .i .i64 (b_0.Weights.length : Int), .i .i64 (b_0.Mesh.Places.length : Int), .b ((b_0.Weights.length : Int) != (b_0.Mesh.Places.length : Int)), .b ((b_0.Weights.length : Int) != (b_0.Mesh.Places.length : Int)), .ptr 0 0 2, .sl (b_0.Springs.map GSpring.cells), .i .i64 (b_0.Springs.length : Int), .i .i64 x_l0, .any, .any, .any, .any, .any, .any, .any, .any, .any, .any, .any, .any, .any, .any, .any, .any, .any, .any, .any, .any, .any, .any, .any, .any, .any, .any, .any, .any, .any, .any, .any], [.box 59 [.sl (b_0.Mesh.Places.map GVector.cells), .sl (b_0.Mesh.Triangles.map (cL (cI .i64))), .sl (b_0.Springs.map GSpring.cells), .f .f32 b_0.Film, .f .f32 b_0.Bend, .sl (b_0.Weights.map (cF .f32)), .f .f32 b_0.Fall.X, .f .f32 b_0.Fall.Y, .f .f32 b_0.Fall.Z]]⟩)
       (st2 := ⟨[.any, .any, .b false, .any, .any, .any, .any, .any, .any, .any, .any, .any, .any, .any, .any, .any, .any, .any, .any, .any, .any, .any, .any, .any, .any, .any, .any, .any, .any, .any, .any, .any, .any, .any, .any, .any, .any, .any, .any, .any, .any, .any, .any, .any, .any, .any, .any, .any, .any, .any, .any, .any, .any, .any, .any, .any, .any, .any, .any, .any, .any, .any], []⟩)
       (ans := [.bo true, .el [.i .i64 ((b_0.Springs.getD x_l0.toNat default).A), .i .i64 ((b_0.Springs.getD x_l0.toNat default).B), .f .f32 ((b_0.Springs.getD x_l0.toNat default).Long), .f .f32 ((b_0.Springs.getD x_l0.toNat default).Stiff)], .num (IntKind.wrap .i64 ((b_0.Mesh.Places.length : Int) - 1)), .call (.b (v_impl_within ((b_0.Springs.getD x_l0.toNat default).A) 0 (IntKind.wrap .i64 ((b_0.Mesh.Places.length : Int) - 1)))) [], .bo false, .bo false, .bo false, .bo false, .num (IntKind.wrap .i64 ((b_0.Mesh.Places.length : Int) - 1)), .bo false, .call (.b (v_impl_within ((b_0.Springs.getD x_l0.toNat default).B) 0 (IntKind.wrap .i64 ((b_0.Mesh.Places.length : Int) - 1)))) [], .bo false, .bo false, .bo false, .bo false, .bo false, .bo false, .bo false, .bo false, .bo true, .bo true, .bo true, .bo true, .bo true, .bo true])
       (ps := []) (mask := [false, false, true, false, false, false, false, false, false, false, false, false, false, false, false, false, false, false, false, false, false, false, false, false, false, false, false, false, false, false, false, false, false, false, false, false, false, false, false, false, false, false, false, false, false, false, false, false, false, false, false, false, false, false, false, false, false, false, false, false, false, false]) (ks := [])
       (C := [(decide (x_l0 < (b_0.Springs.length : Int))) = true,
        0 ≤ x_l0 ∧ (b_0.Springs.map GSpring.cells)[Int.toNat x_l0]? = some [.i .i64 ((b_0.Springs.getD x_l0.toNat default).A), .i .i64 ((b_0.Springs.getD x_l0.toNat default).B), .f .f32 ((b_0.Springs.getD x_l0.toNat default).Long), .f .f32 ((b_0.Springs.getD x_l0.toNat default).Stiff)],
        IntKind.wrap .i64 ((b_0.Mesh.Places.length : Int) - 1) = (IntKind.wrap .i64 ((b_0.Mesh.Places.length : Int) - 1)),
        Fn prog 121 [.i .i64 ((b_0.Springs.getD x_l0.toNat default).A), .i .i64 0, .i .i64 (IntKind.wrap .i64 ((b_0.Mesh.Places.length : Int) - 1))] (.b (v_impl_within ((b_0.Springs.getD x_l0.toNat default).A) 0 (IntKind.wrap .i64 ((b_0.Mesh.Places.length : Int) - 1)))) [],
        (!(v_impl_within ((b_0.Springs.getD x_l0.toNat default).A) 0 (IntKind.wrap .i64 ((b_0.Mesh.Places.length : Int) - 1)))) = false,
        (!(v_impl_within ((b_0.Springs.getD x_l0.toNat default).A) 0 (IntKind.wrap .i64 ((b_0.Mesh.Places.length : Int) - 1)))) = false,
        (!(v_impl_within ((b_0.Springs.getD x_l0.toNat default).A) 0 (IntKind.wrap .i64 ((b_0.Mesh.Places.length : Int) - 1)))) = false,
        (!(v_impl_within ((b_0.Springs.getD x_l0.toNat default).A) 0 (IntKind.wrap .i64 ((b_0.Mesh.Places.length : Int) - 1)))) = false,
        IntKind.wrap .i64 ((b_0.Mesh.Places.length : Int) - 1) = (IntKind.wrap .i64 ((b_0.Mesh.Places.length : Int) - 1)),
        (!(v_impl_within ((b_0.Springs.getD x_l0.toNat default).A) 0 (IntKind.wrap .i64 ((b_0.Mesh.Places.length : Int) - 1)))) = false,
        Fn prog 121 [.i .i64 ((b_0.Springs.getD x_l0.toNat default).B), .i .i64 0, .i .i64 (IntKind.wrap .i64 ((b_0.Mesh.Places.length : Int) - 1))] (.b (v_impl_within ((b_0.Springs.getD x_l0.toNat default).B) 0 (IntKind.wrap .i64 ((b_0.Mesh.Places.length : Int) - 1)))) [],
        (!(v_impl_within ((b_0.Springs.getD x_l0.toNat default).A) 0 (IntKind.wrap .i64 ((b_0.Mesh.Places.length : Int) - 1)))) = false,
        (!(v_impl_within ((b_0.Springs.getD x_l0.toNat default).A) 0 (IntKind.wrap .i64 ((b_0.Mesh.Places.length : Int) - 1)))) = false,
        (!(v_impl_within ((b_0.Springs.getD x_l0.toNat default).B) 0 (IntKind.wrap .i64 ((b_0.Mesh.Places.length : Int) - 1)))) = false,
        (!(v_impl_within ((b_0.Springs.getD x_l0.toNat default).B) 0 (IntKind.wrap .i64 ((b_0.Mesh.Places.length : Int) - 1)))) = false,
        (!(v_impl_within ((b_0.Springs.getD x_l0.toNat default).B) 0 (IntKind.wrap .i64 ((b_0.Mesh.Places.length : Int) - 1)))) = false,
        (!(v_impl_within ((b_0.Springs.getD x_l0.toNat default).B) 0 (IntKind.wrap .i64 ((b_0.Mesh.Places.length : Int) - 1)))) = false,
        (!(v_impl_within ((b_0.Springs.getD x_l0.toNat default).B) 0 (IntKind.wrap .i64 ((b_0.Mesh.Places.length : Int) - 1)))) = false,
        (!(v_impl_within ((b_0.Springs.getD x_l0.toNat default).B) 0 (IntKind.wrap .i64 ((b_0.Mesh.Places.length : Int) - 1)))) = false,
        ((b_0.Springs.getD x_l0.toNat default).A == (b_0.Springs.getD x_l0.toNat default).B) = true,
        ((b_0.Springs.getD x_l0.toNat default).A == (b_0.Springs.getD x_l0.toNat default).B) = true,
        ((b_0.Springs.getD x_l0.toNat default).A == (b_0.Springs.getD x_l0.toNat default).B) = true,
        ((b_0.Springs.getD x_l0.toNat default).A == (b_0.Springs.getD x_l0.toNat default).B) = true,
        ((b_0.Springs.getD x_l0.toNat default).A == (b_0.Springs.getD x_l0.toNat default).B) = true,
        true = true])
       (by kernel_rfl)
       ⟨h_0, (get_ok (by first | assumption | omega | (simp_all <;> omega)) (by first | assumption | omega | (simp_all <;> omega))), rfl, (t_impl_within ((b_0.Springs.getD x_l0.toNat default).A) 0 (IntKind.wrap .i64 ((b_0.Mesh.Places.length : Int) - 1))), (congrArg not h_1), (congrArg not h_1), (congrArg not h_1), (congrArg not h_1), rfl, (congrArg not h_1), (t_impl_within ((b_0.Springs.getD x_l0.toNat default).B) 0 (IntKind.wrap .i64 ((b_0.Mesh.Places.length : Int) - 1))), (congrArg not h_1), (congrArg not h_1), (congrArg not h_2), (congrArg not h_2), (congrArg not h_2), (congrArg not h_2), (congrArg not h_2), (congrArg not h_2), h_3, h_3, h_3, h_3, h_3, rfl, trivial⟩
       (by intro h; cases h) rfl
     | false =>
      cases h_4 : (fcmp .geq .f32 ((b_0.Springs.getD x_l0.toNat default).Long) 0) with
      | true =>
       have e : lo_impl_ValidBody_1 b_0 (k + 1) x_l0 = (lo_impl_ValidBody_1 b_0 k (x_l0 + 1)) := by simp only [lo_impl_ValidBody_1, h_0, h_1, h_2, h_3, h_4, cond_true, cond_false]
       rw [e]
       exact stepK_next (E := E0) E0Ok hMixed (body := (sub (bodyOf f103) [1, 1, 1, 0, 1, 0, 0])) (st := ⟨[.agg [.sl (b_0.Mesh.Places.map GVector.cells), .sl (b_0.Mesh.Triangles.map (cL (cI .i64))), .sl (b_0.Springs.map GSpring.cells), .f .f32 b_0.Film, .f .f32 b_0.Bend, .sl (b_0.Weights.map (cF .f32)), .f .f32 b_0.Fall.X, .f .f32 b_0.Fall.Y, .f .f32 b_0.Fall.Z], .ptr 0 0 0, .any, .i .i64 (b_0.Mesh.Places.length : Int), .any, .any, .ptr 0 0 0, .ptr 0 0 0, .sl (b_0.Mesh.Places.map GVector.cells), .i .i64 (b_0.Mesh.Places.length : Int), .ptr 0 0 0, .agg [.sl (b_0.Mesh.Places.map GVector.cells), .sl (b_0.Mesh.Triangles.map (cL (cI .i64)))], .b (v_impl_ValidMesh b_0.Mesh), .b (!(v_impl_ValidMesh b_0.Mesh)), .b (!(v_impl_ValidMesh b_0.Mesh)), .ptr 0 0 2, .sl (b_0.Springs.map GSpring.cells), .i .i64 (b_0.Springs.length : Int), .b (decide ((b_0.Springs.length : Int) > 200)), .b (decide ((b_0.Springs.length : Int) > 200)), .b (decide ((b_0.Springs.length : Int) > 200)), .ptr 0 0 5, .sl (b_0.Weights.map (cF .f32)), .i .i64 (b_0.Weights.length : Int), .i .i64 (b_0.Mesh.Places.length : Int), .b ((b_0.Weights.length : Int) != (b_0.Mesh.Places.length : Int)), .b ((b_0.Weights.length : Int) != (b_0.Mesh.Places.length : Int)), .ptr 0 0 2, .sl (b_0.Springs.map GSpring.cells), .i .i64 (b_0.Springs.length : Int), .i .i64 x_l0, .any, .any, .any, .any, .any, .any, .any, .any, .any, .any, .any, .any, .any, .any, .any, .any, .any, .any, .any, .any, .any, .any, .any, .any, .any, .any, .any, .any, .any, .any, .any], [.box 59 [.sl (b_0.Mesh.Places.map GVector.cells), .sl (b_0.Mesh.Triangles.map (cL (cI .i64))), .sl (b_0.Springs.map GSpring.cells), .f .f32 b_0.Film, .f .f32 b_0.Bend, .sl (b_0.Weights.map (cF .f32)), .f .f32 b_0.Fall.X, .f .f32 b_0.Fall.Y, .f .f32 b_0.Fall.Z]]⟩)
        (st2 := ⟨[.agg [.sl (b_0.Mesh.Places.map GVector.cells), .sl (b_0.Mesh.Triangles.map (cL (cI .i64))), .sl (b_0.Springs.map GSpring.cells), .f .f32 b_0.Film, .f .f32 b_0.Bend, .sl (b_0.Weights.map (cF .f32)), .f .f32 b_0.Fall.X, .f .f32 b_0.Fall.Y, .f .f32 b_0.Fall.Z], .ptr 0 0 0, .any, .i .i64 (b_0.Mesh.Places.length : Int), .any, .any, .ptr 0 0 0, .ptr 0 0 0, .sl (b_0.Mesh.Places.map GVector.cells), .i .i64 (b_0.Mesh.Places.length : Int), .ptr 0 0 0, .agg [.sl (b_0.Mesh.Places.map GVector.cells), .sl (b_0.Mesh.Triangles.map (cL (cI .i64)))], .b (v_impl_ValidMesh b_0.Mesh), .b (!(v_impl_ValidMesh b_0.Mesh)), .b (!(v_impl_ValidMesh b_0.Mesh)), .ptr 0 0 2, .sl (b_0.Springs.map GSpring.cells), .i .i64 (b_0.Springs.length : Int), .b (decide ((b_0.Springs.length : Int) > 200)), .b (decide ((b_0.Springs.length : Int) > 200)), .b (decide ((b_0.Springs.length : Int) > 200)), .ptr 0 0 5, .sl (b_0.Weights.map (cF .f32)), .i .i64 (b_0.Weights.length : Int), .i .i64 (b_0.Mesh.Places.length : Int), .b ((b_0.Weights.length : Int) != (b_0.Mesh.Places.length : Int)), .b ((b_0.Weights.length : Int) != (b_0.Mesh.Places.length : Int)), .ptr 0 0 2, .sl (b_0.Springs.map GSpring.cells), .i .i64 (b_0.Springs.length : Int), .i .i64 (x_l0 + 1), .any, .any, .any, .any, .any, .any, .any, .any, .any, .any, .any, .any, .any, .any, .any, .any, .any, .any, .any, .any, .any, .any, .any, .any, .any, .any, .any, .any, .any, .any, .any], [.box 59 [.sl (b_0.Mesh.Places.map GVector.cells), .sl (b_0.Mesh.Triangles.map (cL (cI .i64))), .sl (b_0.Springs.map GSpring.cells), .f .f32 b_0.Film, .f .f32 b_0.Bend, .sl (b_0.Weights.map (cF .f32)), .f .f32 b_0.Fall.X, .f .f32 b_0.Fall.Y, .f .f32 b_0.Fall.Z]]⟩)
        (ans := [.bo true, .el [.i .i64 ((b_0.Springs.getD x_l0.toNat default).A), .i .i64 ((b_0.Springs.getD x_l0.toNat default).B), .f .f32 ((b_0.Springs.getD x_l0.toNat default).Long), .f .f32 ((b_0.Springs.getD x_l0.toNat default).Stiff)], .num (IntKind.wrap .i64 ((b_0.Mesh.Places.length : Int) - 1)), .call (.b (v_impl_within ((b_0.Springs.getD x_l0.toNat default).A) 0 (IntKind.wrap .i64 ((b_0.Mesh.Places.length : Int) - 1)))) [], .bo false, .bo false, .bo false, .bo false, .num (IntKind.wrap .i64 ((b_0.Mesh.Places.length : Int) - 1)), .bo false, .call (.b (v_impl_within ((b_0.Springs.getD x_l0.toNat default).B) 0 (IntKind.wrap .i64 ((b_0.Mesh.Places.length : Int) - 1)))) [], .bo false, .bo false, .bo false, .bo false, .bo false, .bo false, .bo false, .bo false, .bo false, .bo false, .bo false, .bo false, .bo false, .bo false, .num (x_l0 + 1)])
        (ps := []) (mask := [true, true, false, true, false, false, true, true, true, true, true, true, true, true, true, true, true, true, true, true, true, true, true, true, true, true, true, true, true, true, true, false, false, false, false, false, false, false, false, false, false, false, false, false, false, false, false, false, false, false, false, false, false, false, false, false, false, false, false, false, false, false]) (ks := [0])
        (C := [(decide (x_l0 < (b_0.Springs.length : Int))) = true,
         0 ≤ x_l0 ∧ (b_0.Springs.map GSpring.cells)[Int.toNat x_l0]? = some [.i .i64 ((b_0.Springs.getD x_l0.toNat default).A), .i .i64 ((b_0.Springs.getD x_l0.toNat default).B), .f .f32 ((b_0.Springs.getD x_l0.toNat default).Long), .f .f32 ((b_0.Springs.getD x_l0.toNat default).Stiff)],
         IntKind.wrap .i64 ((b_0.Mesh.Places.length : Int) - 1) = (IntKind.wrap .i64 ((b_0.Mesh.Places.length : Int) - 1)),
         Fn prog 121 [.i .i64 ((b_0.Springs.getD x_l0.toNat default).A), .i .i64 0, .i .i64 (IntKind.wrap .i64 ((b_0.Mesh.Places.length : Int) - 1))] (.b (v_impl_within ((b_0.Springs.getD x_l0.toNat default).A) 0 (IntKind.wrap .i64 ((b_0.Mesh.Places.length : Int) - 1)))) [],
         (!(v_impl_within ((b_0.Springs.getD x_l0.toNat default).A) 0 (IntKind.wrap .i64 ((b_0.Mesh.Places.length : Int) - 1)))) = false,
         (!(v_impl_within ((b_0.Springs.getD x_l0.toNat default).A) 0 (IntKind.wrap .i64 ((b_0.Mesh.Places.length : Int) - 1)))) = false,
         (!(v_impl_within ((b_0.Springs.getD x_l0.toNat default).A) 0 (IntKind.wrap .i64 ((b_0.Mesh.Places.length : Int) - 1)))) = false,
         (!(v_impl_within ((b_0.Springs.getD x_l0.toNat default).A) 0 (IntKind.wrap .i64 ((b_0.Mesh.Places.length : Int) - 1)))) = false,
         IntKind.wrap .i64 ((b_0.Mesh.Places.length : Int) - 1) = (IntKind.wrap .i64 ((b_0.Mesh.Places.length : Int) - 1)),
         (!(v_impl_within ((b_0.Springs.getD x_l0.toNat default).A) 0 (IntKind.wrap .i64 ((b_0.Mesh.Places.length : Int) - 1)))) = false,
         Fn prog 121 [.i .i64 ((b_0.Springs.getD x_l0.toNat default).B), .i .i64 0, .i .i64 (IntKind.wrap .i64 ((b_0.Mesh.Places.length : Int) - 1))] (.b (v_impl_within ((b_0.Springs.getD x_l0.toNat default).B) 0 (IntKind.wrap .i64 ((b_0.Mesh.Places.length : Int) - 1)))) [],
         (!(v_impl_within ((b_0.Springs.getD x_l0.toNat default).A) 0 (IntKind.wrap .i64 ((b_0.Mesh.Places.length : Int) - 1)))) = false,
         (!(v_impl_within ((b_0.Springs.getD x_l0.toNat default).A) 0 (IntKind.wrap .i64 ((b_0.Mesh.Places.length : Int) - 1)))) = false,
         (!(v_impl_within ((b_0.Springs.getD x_l0.toNat default).B) 0 (IntKind.wrap .i64 ((b_0.Mesh.Places.length : Int) - 1)))) = false,
         (!(v_impl_within ((b_0.Springs.getD x_l0.toNat default).B) 0 (IntKind.wrap .i64 ((b_0.Mesh.Places.length : Int) - 1)))) = false,
         (!(v_impl_within ((b_0.Springs.getD x_l0.toNat default).B) 0 (IntKind.wrap .i64 ((b_0.Mesh.Places.length : Int) - 1)))) = false,
         (!(v_impl_within ((b_0.Springs.getD x_l0.toNat default).B) 0 (IntKind.wrap .i64 ((b_0.Mesh.Places.length : Int) - 1)))) = false,
         (!(v_impl_within ((b_0.Springs.getD x_l0.toNat default).B) 0 (IntKind.wrap .i64 ((b_0.Mesh.Places.length : Int) - 1)))) = false,
         (!(v_impl_within ((b_0.Springs.getD x_l0.toNat default).B) 0 (IntKind.wrap .i64 ((b_0.Mesh.Places.length : Int) - 1)))) = false,
         ((b_0.Springs.getD x_l0.toNat default).A == (b_0.Springs.getD x_l0.toNat default).B) = false,
         ((b_0.Springs.getD x_l0.toNat default).A == (b_0.Springs.getD x_l0.toNat default).B) = false,
         ((b_0.Springs.getD x_l0.toNat default).A == (b_0.Springs.getD x_l0.toNat default).B) = false,
         ((b_0.Springs.getD x_l0.toNat default).A == (b_0.Springs.getD x_l0.toNat default).B) = false,
         ((b_0.Springs.getD x_l0.toNat default).A == (b_0.Springs.getD x_l0.toNat default).B) = false,
         (!(fcmp .geq .f32 ((b_0.Springs.getD x_l0.toNat default).Long) 0)) = false,
         IntKind.wrap .i64 (x_l0 + 1) = (x_l0 + 1)])
        (by kernel_rfl)
        ⟨h_0, (get_ok (by first | assumption | omega | (simp_all <;> omega)) (by first | assumption | omega | (simp_all <;> omega))), rfl, (t_impl_within ((b_0.Springs.getD x_l0.toNat default).A) 0 (IntKind.wrap .i64 ((b_0.Mesh.Places.length : Int) - 1))), (congrArg not h_1), (congrArg not h_1), (congrArg not h_1), (congrArg not h_1), rfl, (congrArg not h_1), (t_impl_within ((b_0.Springs.getD x_l0.toNat default).B) 0 (IntKind.wrap .i64 ((b_0.Mesh.Places.length : Int) - 1))), (congrArg not h_1), (congrArg not h_1), (congrArg not h_2), (congrArg not h_2), (congrArg not h_2), (congrArg not h_2), (congrArg not h_2), (congrArg not h_2), h_3, h_3, h_3, h_3, h_3, (congrArg not h_4), (wrap_id (by first | assumption | omega | (simp_all <;> omega)) (by first | assumption | omega | (simp_all <;> omega))), trivial⟩
        rfl (ih (x_l0 + 1) (show 0 ≤ (x_l0 + 1) from (by first | assumption | omega | (simp_all <;> omega))) (by first | assumption | omega | (simp_all <;> omega)))
      | false =>
       have e : lo_impl_ValidBody_1 b_0 (k + 1) x_l0 = (.inl ()) := by simp only [lo_impl_ValidBody_1, h_0, h_1, h_2, h_3, h_4, cond_true, cond_false]
       rw [e]
       exact stepK_out (E := E0) E0Ok hMixed (e := .ret) (body := (sub (bodyOf f103) [1, 1, 1, 0, 1, 0, 0])) (st := ⟨[.agg [.sl (b_0.Mesh.Places.map GVector.cells), .sl (b_0.Mesh.Triangles.map (cL (cI .i64))), .sl (b_0.Springs.map GSpring.cells), .f .f32 b_0.Film, .f .f32 b_0.Bend, .sl (b_0.Weights.map (cF .f32)), .f .f32 b_0.Fall.X, .f .f32 b_0.Fall.Y, .f .f32 b_0.Fall.Z], .ptr 0 0 0, .any, .i .i64 (b_0.Mesh.Places.length : Int), .any, .any, .ptr 0 0 0, .ptr 0 0 0, .sl (b_0.Mesh.Places.map GVector.cells), .i .i64 (b_0.Mesh.Places.length : Int), .ptr 0 0 0, .agg [.sl (b_0.Mesh.Places.map GVector.cells), .sl (b_0.Mesh.Triangles.map (cL (cI .i64)))], .b (v_impl_ValidMesh b_0.Mesh), .b (!(v_impl_ValidMesh b_0.Mesh)), .b (!(v_impl_ValidMesh b_0.Mesh)), .ptr 0 0 2, .sl (b_0.Springs.map GSpring.cells), .i .i64 (b_0.Springs.length : Int), .b (decide ((b_0.Springs.length : Int) > 200)), .b (decide ((b_0.Springs.length : Int) > 200)), .b (decide ((b_0.Springs.length : Int) > 200)), .ptr 0 0 5, .sl (b_0.Weights.map (cF .f32)), .i .i64 (b_0.Weights.length : Int), .i .i64 (b_0.Mesh.Places.length : Int), .b ((b_0.Weights.length : Int) != (b_0.Mesh.Places.length : Int)), .b ((b_0.Weights.length : Int) != (b_0.Mesh.Places.length : Int)), .ptr 0 0 2, .sl (b_0.Springs.map GSpring.cells), .i .i64 (b_0.Springs.length : Int), .i .i64 x_l0, .any, .any, .any, .any, .any, .any, .any, .any, .any, .any, .any, .any, .any, .any, .any, .any, .any, .any, .any, .any, .any, .any, .any, .any, .any, .any, .any, .any, .any, .any, .any], [.box 59 [.sl (b_0.Mesh.Places.map GVector.cells), .sl (b_0.Mesh.Triangles.map (cL (cI .i64))), .sl (b_0.Springs.map GSpring.cells), .f .f32 b_0.Film, .f .f32 b_0.Bend, .sl (b_0.Weights.map (cF .f32)), .f .f32 b_0.Fall.X, .f .f32 b_0.Fall.Y, .f .f32 b_0.Fall.Z]]⟩)
        (st2 := ⟨[.any, .any, .b false, .any, .any, .any, .any, .any, .any, .any, .any, .any, .any, .any, .any, .any, .any, .any, .any, .any, .any, .any, .any, .any, .any, .any, .any, .any, .any, .any, .any, .any, .any, .any, .any, .any, .any, .any, .any, .any, .any, .any, .any, .any, .any, .any, .any, .any, .any, .any, .any, .any, .any, .any, .any, .any, .any, .any, .any, .any, .any, .any], []⟩)
        (ans := [.bo true, .el [.i .i64 ((b_0.Springs.getD x_l0.toNat default).A), .i .i64 ((b_0.Springs.getD x_l0.toNat default).B), .f .f32 ((b_0.Springs.getD x_l0.toNat default).Long), .f .f32 ((b_0.Springs.getD x_l0.toNat default).Stiff)], .num (IntKind.wrap .i64 ((b_0.Mesh.Places.length : Int) - 1)), .call (.b (v_impl_within ((b_0.Springs.getD x_l0.toNat default).A) 0 (IntKind.wrap .i64 ((b_0.Mesh.Places.length : Int) - 1)))) [], .bo false, .bo false, .bo false, .bo false, .num (IntKind.wrap .i64 ((b_0.Mesh.Places.length : Int) - 1)), .bo false, .call (.b (v_impl_within ((b_0.Springs.getD x_l0.toNat default).B) 0 (IntKind.wrap .i64 ((b_0.Mesh.Places.length : Int) - 1)))) [], .bo false, .bo false, .bo false, .bo false, .bo false, .bo false, .bo false, .bo false, .bo false, .bo false, .bo false, .bo false, .bo false, .bo true])
        (ps := []) (mask := [false, false, true, false, false, false, false, false, false, false, false, false, false, false, false, false, false, false, false, false, false, false, false, false, false, false, false, false, false, false, false, false, false, false, false, false, false, false, false, false, false, false, false, false, false, false, false, false, false, false, false, false, false, false, false, false, false, false, false, false, false, false]) (ks := [])
        (C := [(decide (x_l0 < (b_0.Springs.length : Int))) = true,
         0 ≤ x_l0 ∧ (b_0.Springs.map GSpring.cells)[Int.toNat x_l0]? = some [.i .i64 ((b_0.Springs.getD x_l0.toNat default).A), .i .i64 ((b_0.Springs.getD x_l0.toNat default).B), .f .f32 ((b_0.Springs.getD x_l0.toNat default).Long), .f .f32 ((b_0.Springs.getD x_l0.toNat default).Stiff)],
         IntKind.wrap .i64 ((b_0.Mesh.Places.length : Int) - 1) = (IntKind.wrap .i64 ((b_0.Mesh.Places.length : Int) - 1)),
         Fn prog 121 [.i .i64 ((b_0.Springs.getD x_l0.toNat default).A), .i .i64 0, .i .i64 (IntKind.wrap .i64 ((b_0.Mesh.Places.length : Int) - 1))] (.b (v_impl_within ((b_0.Springs.getD x_l0.toNat default).A) 0 (IntKind.wrap .i64 ((b_0.Mesh.Places.length : Int) - 1)))) [],
         (!(v_impl_within ((b_0.Springs.getD x_l0.toNat default).A) 0 (IntKind.wrap .i64 ((b_0.Mesh.Places.length : Int) - 1)))) = false,
         (!(v_impl_within ((b_0.Springs.getD x_l0.toNat default).A) 0 (IntKind.wrap .i64 ((b_0.Mesh.Places.length : Int) - 1)))) = false,
         (!(v_impl_within ((b_0.Springs.getD x_l0.toNat default).A) 0 (IntKind.wrap .i64 ((b_0.Mesh.Places.length : Int) - 1)))) = false,
         (!(v_impl_within ((b_0.Springs.getD x_l0.toNat default).A) 0 (IntKind.wrap .i64 ((b_0.Mesh.Places.length : Int) - 1)))) = false,
         IntKind.wrap .i64 ((b_0.Mesh.Places.length : Int) - 1) = (IntKind.wrap .i64 ((b_0.Mesh.Places.length : Int) - 1)),
         (!(v_impl_within ((b_0.Springs.getD x_l0.toNat default).A) 0 (IntKind.wrap .i64 ((b_0.Mesh.Places.length : Int) - 1)))) = false,
         Fn prog 121 [.i .i64 ((b_0.Springs.getD x_l0.toNat default).B), .i .i64 0, .i .i64 (IntKind.wrap .i64 ((b_0.Mesh.Places.length : Int) - 1))] (.b (v_impl_within ((b_0.Springs.getD x_l0.toNat default).B) 0 (IntKind.wrap .i64 ((b_0.Mesh.Places.length : Int) - 1)))) [],
         (!(v_impl_within ((b_0.Springs.getD x_l0.toNat default).A) 0 (IntKind.wrap .i64 ((b_0.Mesh.Places.length : Int) - 1)))) = false,
         (!(v_impl_within ((b_0.Springs.getD x_l0.toNat default).A) 0 (IntKind.wrap .i64 ((b_0.Mesh.Places.length : Int) - 1)))) = false,
         (!(v_impl_within ((b_0.Springs.getD x_l0.toNat default).B) 0 (IntKind.wrap .i64 ((b_0.Mesh.Places.length : Int) - 1)))) = false,
         (!(v_impl_within ((b_0.Springs.getD x_l0.toNat default).B) 0 (IntKind.wrap .i64 ((b_0.Mesh.Places.length : Int) - 1)))) = false,
         (!(v_impl_within ((b_0.Springs.getD x_l0.toNat default).B) 0 (IntKind.wrap .i64 ((b_0.Mesh.Places.length : Int) - 1)))) = false,
         (!(v_impl_within ((b_0.Springs.getD x_l0.toNat default).B) 0 (IntKind.wrap .i64 ((b_0.Mesh.Places.length : Int) - 1)))) = false,
         (!(v_impl_within ((b_0.Springs.getD x_l0.toNat default).B) 0 (IntKind.wrap .i64 ((b_0.Mesh.Places.length : Int) - 1)))) = false,
         (!(v_impl_within ((b_0.Springs.getD x_l0.toNat default).B) 0 (IntKind.wrap .i64 ((b_0.Mesh.Places.length : Int) - 1)))) = false,
         ((b_0.Springs.getD x_l0.toNat default).A == (b_0.Springs.getD x_l0.toNat default).B) = false,
         ((b_0.Springs.getD x_l0.toNat default).A == (b_0.Springs.getD x_l0.toNat default).B) = false,
         ((b_0.Springs.getD x_l0.toNat default).A == (b_0.Springs.getD x_l0.toNat default).B) = false,
         ((b_0.Springs.getD x_l0.toNat default).A == (b_0.Springs.getD x_l0.toNat default).B) = false,
         ((b_0.Springs.getD x_l0.toNat default).A == (b_0.Springs.getD x_l0.toNat default).B) = false,
         (!(fcmp .geq .f32 ((b_0.Springs.getD x_l0.toNat default).Long) 0)) = true])
        (by kernel_rfl)
        ⟨h_0, (get_ok (by first | assumption | omega | (simp_all <;> omega)) (by first | assumption | omega | (simp_all <;> omega))), rfl, (t_impl_within ((b_0.Springs.getD x_l0.toNat default).A) 0 (IntKind.wrap .i64 ((b_0.Mesh.Places.length : Int) - 1))), (congrArg not h_1), (congrArg not h_1), (congrArg not h_1), (congrArg not h_1), rfl, (congrArg not h_1), (t_impl_within ((b_0.Springs.getD x_l0.toNat default).B) 0 (IntKind.wrap .i64 ((b_0.Mesh.Places.length : Int) - 1))), (congrArg not h_1), (congrArg not h_1), (congrArg not h_2), (congrArg not h_2), (congrArg not h_2), (congrArg not h_2), (congrArg not h_2), (congrArg not h_2), h_3, h_3, h_3, h_3, h_3, (congrArg not h_4), trivial⟩
        (by intro h; cases h) rfl
    | false =>
     have e : lo_impl_ValidBody_1 b_0 (k + 1) x_l0 = (.inl ()) := by simp only [lo_impl_ValidBody_1, h_0, h_1, h_2, cond_true, cond_false]
     rw [e]
     exact stepK_out (E := E0) E0Ok hMixed (e := .ret) (body := (sub (bodyOf f103) [1, 1, 1, 0, 1, 0, 0])) (st := ⟨[.agg [.sl (b_0.Mesh.Places.map GVector.cells), .sl (b_0.Mesh.Triangles.map (cL (cI .i64))), .sl (b_0.Springs.map GSpring.cells), .f .f32 b_0.Film, .f .f32 b_0.Bend, .sl (b_0.Weights.map (cF .f32)), .f .f32 b_0.Fall.X, .f .f32 b_0.Fall.Y, .f .f32 b_0.Fall.Z], .ptr 0 0 0, .any, .i .i64 (b_0.Mesh.Places.length : Int), .any, .any, .ptr 0 0 0, .ptr 0 0 0, .sl (b_0.Mesh.Places.map GVector.cells), .i .i64 (b_0.Mesh.Places.length : Int), .ptr 0 0 0, .agg [.sl (b_0.Mesh.Places.map GVector.cells), .sl (b_0.Mesh.Triangles.map (cL (cI .i64)))], .b (v_impl_ValidMesh b_0.Mesh), .b (!(v_impl_ValidMesh b_0.Mesh)), .b (!(v_impl_ValidMesh b_0.Mesh)), .ptr 0 0 2, .sl (b_0.Springs.map GSpring.cells), .i .i64 (b_0.Springs.length : Int), .b (decide ((b_0.Springs.length : Int) > 200)), .b (decide ((b_0.Springs.length : Int) > 200)), .b (decide ((b_0.Springs.length : Int) > 200)), .ptr 0 0 5, .sl (b_0.Weights.map (cF .f32)), .i .i64 (b_0.Weights.length : Int), .i .i64 (b_0.Mesh.Places.length : Int), .b ((b_0.Weights.length : Int) != (b_0.Mesh.Places.length : Int)), .b ((b_0.Weights.length : Int) != (b_0.Mesh.Places.length : Int)), .ptr 0 0 2, .sl (b_0.Springs.map GSpring.cells), .i .i64 (b_0.Springs.length : Int), .i .i64 x_l0, .any, .any, .any, .any, .any, .any, .any, .any, .any, .any, .any, .any, .any, .any, .any, .any, .any, .any, .any, .any, .any, .any, .any, .any, .any, .any, .any, .any, .any, .any, .any], [.box 59 [.sl (b_0.Mesh.Places.map GVector.cells), .sl (b_0.Mesh.Triangles.map (cL (cI .i64))), .sl (b_0.Springs.map GSpring.cells), .f .f32 b_0.Film, .f .f32 b_0.Bend, .sl (b_0.Weights.map (cF .f32)), .f .f32 b_0.Fall.X, .f .f32 b_0.Fall.Y, .f .f32 b_0.Fall.Z]]⟩)
      (st2 := ⟨[.any, .any, .b false, .any, .any, .any, .any, .any, .any, .any, .any, .any, .any, .any, .any, .any, .any, .any, .any, .any, .any, .any, .any, .any, .any, .any, .any, .any, .any, .any, .any, .any, .any, .any, .any, .any, .any, .any, .any, .any, .any, .any, .any, .any, .any, .any, .any, .any, .any, .any, .any, .any, .any, .any, .any, .any, .any, .any, .any, .any, .any, .any], []⟩)
      (ans := [.bo true, .el [.i .i64 ((b_0.Springs.getD x_l0.toNat default).A), .i .i64 ((b_0.Springs.getD x_l0.toNat default).B), .f .f32 ((b_0.Springs.getD x_l0.toNat default).Long), .f .f32 ((b_0.Springs.getD x_l0.toNat default).Stiff)], .num (IntKind.wrap .i64 ((b_0.Mesh.Places.length : Int) - 1)), .call (.b (v_impl_within ((b_0.Springs.getD x_l0.toNat default).A) 0 (IntKind.wrap .i64 ((b_0.Mesh.Places.length : Int) - 1)))) [], .bo false, .bo false, .bo false, .bo false, .num (IntKind.wrap .i64 ((b_0.Mesh.Places.length : Int) - 1)), .bo false, .call (.b (v_impl_within ((b_0.Springs.getD x_l0.toNat default).B) 0 (IntKind.wrap .i64 ((b_0.Mesh.Places.length : Int) - 1)))) [], .bo false, .bo false, .bo true, .bo true, .bo true, .bo true, .bo true, .bo true, .bo true, .bo true, .bo true, .bo true, .bo true, .bo true])
      (ps := []) (mask := [false, false, true, false, false, false, false, false, false, false, false, false, false, false, false, false, false, false, false, false, false, false, false, false, false, false, false, false, false, false, false, false, false, false, false, false, false, false, false, false, false, false, false, false, false, false, false, false, false, false, false, false, false, false, false, false, false, false, false, false, false, false]) (ks := [])
      (C := [(decide (x_l0 < (b_0.Springs.length : Int))) = true,
       0 ≤ x_l0 ∧ (b_0.Springs.map GSpring.cells)[Int.toNat x_l0]? = some [.i .i64 ((b_0.Springs.getD x_l0.toNat default).A), .i .i64 ((b_0.Springs.getD x_l0.toNat default).B), .f .f32 ((b_0.Springs.getD x_l0.toNat default).Long), .f .f32 ((b_0.Springs.getD x_l0.toNat default).Stiff)],
       IntKind.wrap .i64 ((b_0.Mesh.Places.length : Int) - 1) = (IntKind.wrap .i64 ((b_0.Mesh.Places.length : Int) - 1)),
       Fn prog 121 [.i .i64 ((b_0.Springs.getD x_l0.toNat default).A), .i .i64 0, .i .i64 (IntKind.wrap .i64 ((b_0.Mesh.Places.length : Int) - 1))] (.b (v_impl_within ((b_0.Springs.getD x_l0.toNat default).A) 0 (IntKind.wrap .i64 ((b_0.Mesh.Places.length : Int) - 1)))) [],
       (!(v_impl_within ((b_0.Springs.getD x_l0.toNat default).A) 0 (IntKind.wrap .i64 ((b_0.Mesh.Places.length : Int) - 1)))) = false,
       (!(v_impl_within ((b_0.Springs.getD x_l0.toNat default).A) 0 (IntKind.wrap .i64 ((b_0.Mesh.Places.length : Int) - 1)))) = false,
       (!(v_impl_within ((b_0.Springs.getD x_l0.toNat default).A) 0 (IntKind.wrap .i64 ((b_0.Mesh.Places.length : Int) - 1)))) = false,
       (!(v_impl_within ((b_0.Springs.getD x_l0.toNat default).A) 0 (IntKind.wrap .i64 ((b_0.Mesh.Places.length : Int) - 1)))) = false,
       IntKind.wrap .i64 ((b_0.Mesh.Places.length : Int) - 1) = (IntKind.wrap .i64 ((b_0.Mesh.Places.length : Int) - 1)),
       (!(v_impl_within ((b_0.Springs.getD x_l0.toNat default).A) 0 (IntKind.wrap .i64 ((b_0.Mesh.Places.length : Int) - 1)))) = false,
       Fn prog 121 [.i .i64 ((b_0.Springs.getD x_l0.toNat default).B), .i .i64 0, .i .i64 (IntKind.wrap .i64 ((b_0.Mesh.Places.length : Int) - 1))] (.b (v_impl_within ((b_0.Springs.getD x_l0.toNat default).B) 0 (IntKind.wrap .i64 ((b_0.Mesh.Places.length : Int) - 1)))) [],
       (!(v_impl_within ((b_0.Springs.getD x_l0.toNat default).A) 0 (IntKind.wrap .i64 ((b_0.Mesh.Places.length : Int) - 1)))) = false,
       (!(v_impl_within ((b_0.Springs.getD x_l0.toNat default).A) 0 (IntKind.wrap .i64 ((b_0.Mesh.Places.length : Int) - 1)))) = false,
       (!(v_impl_within ((b_0.Springs.getD x_l0.toNat default).B) 0 (IntKind.wrap .i64 ((b_0.Mesh.Places.length : Int) - 1)))) = true,
       (!(v_impl_within ((b_0.Springs.getD x_l0.toNat default).B) 0 (IntKind.wrap .i64 ((b_0.Mesh.Places.length : Int) - 1)))) = true,
       (!(v_impl_within ((b_0.Springs.getD x_l0.toNat default).B) 0 (IntKind.wrap .i64 ((b_0.Mesh.Places.length : Int) - 1)))) = true,
       (!(v_impl_within ((b_0.Springs.getD x_l0.toNat default).B) 0 (IntKind.wrap .i64 ((b_0.Mesh.Places.length : Int) - 1)))) = true,
       (!(v_impl_within ((b_0.Springs.getD x_l0.toNat default).B) 0 (IntKind.wrap .i64 ((b_0.Mesh.Places.length : Int) - 1)))) = true,
       (!(v_impl_within ((b_0.Springs.getD x_l0.toNat default).B) 0 (IntKind.wrap .i64 ((b_0.Mesh.Places.length : Int) - 1)))) = true,
       true = true,
       true = true,
       true = true,
       true = true,
       true = true,
       true = true])
      (by kernel_rfl)
      ⟨h_0, (get_ok (by first | assumption | omega | (simp_all <;> omega)) (by first | assumption | omega | (simp_all <;> omega))), rfl, (t_impl_within ((b_0.Springs.getD x_l0.toNat default).A) 0 (IntKind.wrap .i64 ((b_0.Mesh.Places.length : Int) - 1))), (congrArg not h_1), (congrArg not h_1), (congrArg not h_1), (congrArg not h_1), rfl, (congrArg not h_1), (t_impl_within ((b_0.Springs.getD x_l0.toNat default).B) 0 (IntKind.wrap .i64 ((b_0.Mesh.Places.length : Int) - 1))), (congrArg not h_1), (congrArg not h_1), (congrArg not h_2), (congrArg not h_2), (congrArg not h_2), (congrArg not h_2), (congrArg not h_2), (congrArg not h_2), rfl, rfl, rfl, rfl, rfl, rfl, trivial⟩
      (by intro h; cases h) rfl
   | false =>
    have e : lo_impl_ValidBody_1 b_0 (k + 1) x_l0 = (.inl ()) := by simp only [lo_impl_ValidBody_1, h_0, h_1, cond_true, cond_false]
    rw [e]
    exact stepK_out (E := E0) E0Ok hMixed (e := .ret) (body := (sub (bodyOf f103) [1, 1, 1, 0, 1, 0, 0])) (st := ⟨[.agg [.sl (b_0.Mesh.Places.map GVector.cells), .sl (b_0.Mesh.Triangles.map (cL (cI .i64))), .sl (b_0.Springs.map GSpring.cells), .f .f32 b_0.Film, .f .f32 b_0.Bend, .sl (b_0.Weights.map (cF .f32)), .f .f32 b_0.Fall.X, .f .f32 b_0.Fall.Y, .f .f32 b_0.Fall.Z], .ptr 0 0 0, .any, .i .i64 (b_0.Mesh.Places.length : Int), .any, .any, .ptr 0 0 0, .ptr 0 0 0, .sl (b_0.Mesh.Places.map GVector.cells), .i .i64 (b_0.Mesh.Places.length : Int), .ptr 0 0 0, .agg [.sl (b_0.Mesh.Places.map GVector.cells), .sl (b_0.Mesh.Triangles.map (cL (cI .i64)))], .b (v_impl_ValidMesh b_0.Mesh), .b (!(v_impl_ValidMesh b_0.Mesh)), .b (!(v_impl_ValidMesh b_0.Mesh)), .ptr 0 0 2, .sl (b_0.Springs.map GSpring.cells), .i .i64 (b_0.Springs.length : Int), .b (decide ((b_0.Springs.length : Int) > 200)), .b (decide ((b_0.Springs.length : Int) > 200)), .b (decide ((b_0.Springs.length : Int) > 200)), .ptr 0 0 5, .sl (b_0.Weights.map (cF .f32)), .i .i64 (b_0.Weights.length : Int), .i .i64 (b_0.Mesh.Places.length : Int), .b ((b_0.Weights.length : Int) != (b_0.Mesh.Places.length : Int)), .b ((b_0.Weights.length : Int) != (b_0.Mesh.Places.length : Int)), .ptr 0 0 2, .sl (b_0.Springs.map GSpring.cells), .i .i64 (b_0.Springs.length : Int), .i .i64 x_l0, .any, .any, .any, .any, .any, .any, .any, .any, .any, .any, .any, .any, .any, .any, .any, .any, .any, .any, .any, .any, .any, .any, .any, .any, .any, .any, .any, .any, .any, .any, .any], [.box 59 [.sl (b_0.Mesh.Places.map GVector.cells), .sl (b_0.Mesh.Triangles.map (cL (cI .i64))), .sl (b_0.Springs.map GSpring.cells), .f .f32 b_0.Film, .f .f32 b_0.Bend, .sl (b_0.Weights.map (cF .f32)), .f .f32 b_0.Fall.X, .f .f32 b_0.Fall.Y, .f .f32 b_0.Fall.Z]]⟩)
     (st2 := ⟨[.any, .any, .b false, .any, .any, .any, .any, .any, .any, .any, .any, .any, .any, .any, .any, .any, .any, .any, .any, .any, .any, .any, .any, .any, .any, .any, .any, .any, .any, .any, .any, .any, .any, .any, .any, .any, .any, .any, .any, .any, .any, .any, .any, .any, .any, .any, .any, .any, .any, .any, .any, .any, .any, .any, .any, .any, .any, .any, .any, .any, .any, .any], []⟩)
     (ans := [.bo true, .el [.i .i64 ((b_0.Springs.getD x_l0.toNat default).A), .i .i64 ((b_0.Springs.getD x_l0.toNat default).B), .f .f32 ((b_0.Springs.getD x_l0.toNat default).Long), .f .f32 ((b_0.Springs.getD x_l0.toNat default).Stiff)], .num (IntKind.wrap .i64 ((b_0.Mesh.Places.length : Int) - 1)), .call (.b (v_impl_within ((b_0.Springs.getD x_l0.toNat default).A) 0 (IntKind.wrap .i64 ((b_0.Mesh.Places.length : Int) - 1)))) [], .bo true, .bo true, .bo true, .bo true, .bo true, .bo true, .bo true, .bo true, .bo true, .bo true, .bo true, .bo true, .bo true, .bo true, .bo true, .bo true, .bo true, .bo true, .bo true])
     (ps := []) (mask := [false, false, true, false, false, false, false, false, false, false, false, false, false, false, false, false, false, false, false, false, false, false, false, false, false, false, false, false, false, false, false, false, false, false, false, false, false, false, false, false, false, false, false, false, false, false, false, false, false, false, false, false, false, false, false, false, false, false, false, false, false, false]) (ks := [])
     (C := [(decide (x_l0 < (b_0.Springs.length : Int))) = true,
      0 ≤ x_l0 ∧ (b_0.Springs.map GSpring.cells)[Int.toNat x_l0]? = some [.i .i64 ((b_0.Springs.getD x_l0.toNat default).A), .i .i64 ((b_0.Springs.getD x_l0.toNat default).B), .f .f32 ((b_0.Springs.getD x_l0.toNat default).Long), .f .f32 ((b_0.Springs.getD x_l0.toNat default).Stiff)],
      IntKind.wrap .i64 ((b_0.Mesh.Places.length : Int) - 1) = (IntKind.wrap .i64 ((b_0.Mesh.Places.length : Int) - 1)),
      Fn prog 121 [.i .i64 ((b_0.Springs.getD x_l0.toNat default).A), .i .i64 0, .i .i64 (IntKind.wrap .i64 ((b_0.Mesh.Places.length : Int) - 1))] (.b (v_impl_within ((b_0.Springs.getD x_l0.toNat default).A) 0 (IntKind.wrap .i64 ((b_0.Mesh.Places.length : Int) - 1)))) [],
      (!(v_impl_within ((b_0.Springs.getD x_l0.toNat default).A) 0 (IntKind.wrap .i64 ((b_0.Mesh.Places.length : Int) - 1)))) = true,
      (!(v_impl_within ((b_0.Springs.getD x_l0.toNat default).A) 0 (IntKind.wrap .i64 ((b_0.Mesh.Places.length : Int) - 1)))) = true,
      (!(v_impl_within ((b_0.Springs.getD x_l0.toNat default).A) 0 (IntKind.wrap .i64 ((b_0.Mesh.Places.length : Int) - 1)))) = true,
      (!(v_impl_within ((b_0.Springs.getD x_l0.toNat default).A) 0 (IntKind.wrap .i64 ((b_0.Mesh.Places.length : Int) - 1)))) = true,
      (!(v_impl_within ((b_0.Springs.getD x_l0.toNat default).A) 0 (IntKind.wrap .i64 ((b_0.Mesh.Places.length : Int) - 1)))) = true,
      (!(v_impl_within ((b_0.Springs.getD x_l0.toNat default).A) 0 (IntKind.wrap .i64 ((b_0.Mesh.Places.length : Int) - 1)))) = true,
      (!(v_impl_within ((b_0.Springs.getD x_l0.toNat default).A) 0 (IntKind.wrap .i64 ((b_0.Mesh.Places.length : Int) - 1)))) = true,
      true = true,
      true = true,
      true = true,
      true = true,
      true = true,
      true = true,
      true = true,
      true = true,
      true = true,
      true = true,
      true = true,
      true = true])
     (by kernel_rfl)
     ⟨h_0, (get_ok (by first | assumption | omega | (simp_all <;> omega)) (by first | assumption | omega | (simp_all <;> omega))), rfl, (t_impl_within ((b_0.Springs.getD x_l0.toNat default).A) 0 (IntKind.wrap .i64 ((b_0.Mesh.Places.length : Int) - 1))), (congrArg not h_1), (congrArg not h_1), (congrArg not h_1), (congrArg not h_1), (congrArg not h_1), (congrArg not h_1), (congrArg not h_1), rfl, rfl, rfl, rfl, rfl, rfl, rfl, rfl, rfl, rfl, rfl, rfl, trivial⟩
     (by intro h; cases h) rfl
  | false =>
   have e : lo_impl_ValidBody_1 b_0 (k + 1) x_l0 = (.inr ()) := by simp only [lo_impl_ValidBody_1, h_0, cond_false]
   rw [e]
   exact stepK_out (E := E0) E0Ok hMixed (e := (.exit 0)) (body := (sub (bodyOf f103) [1, 1, 1, 0, 1, 0, 0])) (st := ⟨[.agg [.sl (b_0.Mesh.Places.map GVector.cells), .sl (b_0.Mesh.Triangles.map (cL (cI .i64))), .sl (b_0.Springs.map GSpring.cells), .f .f32 b_0.Film, .f .f32 b_0.Bend, .sl (b_0.Weights.map (cF .f32)), .f .f32 b_0.Fall.X, .f .f32 b_0.Fall.Y, .f .f32 b_0.Fall.Z], .ptr 0 0 0, .any, .i .i64 (b_0.Mesh.Places.length : Int), .any, .any, .ptr 0 0 0, .ptr 0 0 0, .sl (b_0.Mesh.Places.map GVector.cells), .i .i64 (b_0.Mesh.Places.length : Int), .ptr 0 0 0, .agg [.sl (b_0.Mesh.Places.map GVector.cells), .sl (b_0.Mesh.Triangles.map (cL (cI .i64)))], .b (v_impl_ValidMesh b_0.Mesh), .b (!(v_impl_ValidMesh b_0.Mesh)), .b (!(v_impl_ValidMesh b_0.Mesh)), .ptr 0 0 2, .sl (b_0.Springs.map GSpring.cells), .i .i64 (b_0.Springs.length : Int), .b (decide ((b_0.Springs.length : Int) > 200)), .b (decide ((b_0.Springs.length : Int) > 200)), .b (decide ((b_0.Springs.length : Int) > 200)), .ptr 0 0 5, .sl (b_0.Weights.map (cF .f32)), .i .i64 (b_0.Weights.length : Int), .i .i64 (b_0.Mesh.Places.length : Int), .b ((b_0.Weights.length : Int) != (b_0.Mesh.Places.length : Int)), .b ((b_0.Weights.length : Int) != (b_0.Mesh.Places.length : Int)), .ptr 0 0 2, .sl (b_0.Springs.map GSpring.cells), .i .i64 (b_0.Springs.length : Int), .i .i64 x_l0, .any, .any, .any, .any, .any, .any, .any, .any, .any, .any, .any, .any, .any, .any, .any, .any, .any, .any, .any, .any, .any, .any, .any, .any, .any, .any, .any, .any, .any, .any, .any], [.box 59 [.sl (b_0.Mesh.Places.map GVector.cells), .sl (b_0.Mesh.Triangles.map (cL (cI .i64))), .sl (b_0.Springs.map GSpring.cells), .f .f32 b_0.Film, .f .f32 b_0.Bend, .sl (b_0.Weights.map (cF .f32)), .f .f32 b_0.Fall.X, .f .f32 b_0.Fall.Y, .f .f32 b_0.Fall.Z]]⟩)
    (st2 := ⟨[.agg [.sl (b_0.Mesh.Places.map GVector.cells), .sl (b_0.Mesh.Triangles.map (cL (cI .i64))), .sl (b_0.Springs.map GSpring.cells), .f .f32 b_0.Film, .f .f32 b_0.Bend, .sl (b_0.Weights.map (cF .f32)), .f .f32 b_0.Fall.X, .f .f32 b_0.Fall.Y, .f .f32 b_0.Fall.Z], .ptr 0 0 0, .any, .i .i64 (b_0.Mesh.Places.length : Int), .any, .any, .ptr 0 0 0, .ptr 0 0 0, .sl (b_0.Mesh.Places.map GVector.cells), .i .i64 (b_0.Mesh.Places.length : Int), .ptr 0 0 0, .agg [.sl (b_0.Mesh.Places.map GVector.cells), .sl (b_0.Mesh.Triangles.map (cL (cI .i64)))], .b (v_impl_ValidMesh b_0.Mesh), .b (!(v_impl_ValidMesh b_0.Mesh)), .b (!(v_impl_ValidMesh b_0.Mesh)), .ptr 0 0 2, .sl (b_0.Springs.map GSpring.cells), .i .i64 (b_0.Springs.length : Int), .b (decide ((b_0.Springs.length : Int) > 200)), .b (decide ((b_0.Springs.length : Int) > 200)), .b (decide ((b_0.Springs.length : Int) > 200)), .ptr 0 0 5, .sl (b_0.Weights.map (cF .f32)), .i .i64 (b_0.Weights.length : Int), .i .i64 (b_0.Mesh.Places.length : Int), .b ((b_0.Weights.length : Int) != (b_0.Mesh.Places.length : Int)), .b ((b_0.Weights.length : Int) != (b_0.Mesh.Places.length : Int)), .ptr 0 0 2, .sl (b_0.Springs.map GSpring.cells), .any, .any, .any, .any, .any, .any, .any, .any, .any, .any, .any, .any, .any, .any, .any, .any, .any, .any, .any, .any, .any, .any, .any, .any, .any, .any, .any, .any, .any, .any, .any, .any, .any], [.box 59 [.sl (b_0.Mesh.Places.map GVector.cells), .sl (b_0.Mesh.Triangles.map (cL (cI .i64))), .sl (b_0.Springs.map GSpring.cells), .f .f32 b_0.Film, .f .f32 b_0.Bend, .sl (b_0.Weights.map (cF .f32)), .f .f32 b_0.Fall.X, .f .f32 b_0.Fall.Y, .f .f32 b_0.Fall.Z]]⟩)
    (ans := [.bo false])
    (ps := []) (mask := [true, true, false, true, false, false, true, true, true, true, true, true, true, true, true, true, true, true, true, true, true, true, true, true, true, true, true, true, true, false, false, false, false, false, false, false, false, false, false, false, false, false, false, false, false, false, false, false, false, false, false, false, false, false, false, false, false, false, false, false, false, false]) (ks := [0])
    (C := [(decide (x_l0 < (b_0.Springs.length : Int))) = false])
    (by kernel_rfl)
    ⟨h_0, trivial⟩
    (by intro h; cases h) rfl

def lr_impl_ValidBody_1_0 (b_0 : GBody) : (Unit) ⊕ (Unit) := (lo_impl_ValidBody_1 b_0 (((b_0.Springs.length : Int) - 0).toNat + 1) 0)

def v_impl_ValidBody (b_0 : GBody) : Bool := (cond (v_impl_ValidMesh b_0.Mesh)
  (cond (decide ((b_0.Springs.length : Int) > 200))
    false
    (cond ((b_0.Weights.length : Int) != (b_0.Mesh.Places.length : Int))
      false
      (match (lr_impl_ValidBody_1_0 b_0) with
        | .inl r4 => false
        | .inr r4 => true)))
  false)

theorem t_impl_ValidBody (b_0 : GBody) (hp0 : b_0.Mesh.Places.length ≤ 1073741824) (hp1 : b_0.Mesh.Triangles.length ≤ 1073741824) (hp2 : ∀ t ∈ b_0.Mesh.Triangles, t.length ≤ 1073741824) (hp3 : b_0.Springs.length ≤ 1073741824) (hp4 : b_0.Weights.length ≤ 1073741824)  : Fn prog 103 [.agg [.sl (b_0.Mesh.Places.map GVector.cells), .sl (b_0.Mesh.Triangles.map (cL (cI .i64))), .sl (b_0.Springs.map GSpring.cells), .f .f32 b_0.Film, .f .f32 b_0.Bend, .sl (b_0.Weights.map (cF .f32)), .f .f32 b_0.Fall.X, .f .f32 b_0.Fall.Y, .f .f32 b_0.Fall.Z]] (.b (v_impl_ValidBody b_0)) [] := by
 cases h0 : (v_impl_ValidMesh b_0.Mesh) with
 | true =>
  cases h1 : (decide ((b_0.Springs.length : Int) > 200)) with
  | true =>
   exact Fn.cast (CallSt.fn (callSt_of_evK (E := E0) E0Ok hMixed (c := bodyOf f103) (rows := []) (r := .b false) (rows' := [])
    (ans := [.num (b_0.Mesh.Places.length : Int), .call (.b (v_impl_ValidMesh b_0.Mesh)) [], .bo false, .bo false, .bo false, .num (b_0.Springs.length : Int), .bo false, .bo false, .bo true, .bo true, .bo true, .bo true, .bo true, .bo true, .bo true, .keep []])
    (ps := [])
    (C := [(((b_0.Mesh.Places.map GVector.cells).length : Nat) : Int) = (b_0.Mesh.Places.length : Int),
     Fn prog 119 [.agg [.sl (b_0.Mesh.Places.map GVector.cells), .sl (b_0.Mesh.Triangles.map (cL (cI .i64)))]] (.b (v_impl_ValidMesh b_0.Mesh)) [],
     (!(v_impl_ValidMesh b_0.Mesh)) = false,
     (!(v_impl_ValidMesh b_0.Mesh)) = false,
     (!(v_impl_ValidMesh b_0.Mesh)) = false,
     (((b_0.Springs.map GSpring.cells).length : Nat) : Int) = (b_0.Springs.length : Int),
     (!(v_impl_ValidMesh b_0.Mesh)) = false,
     (!(v_impl_ValidMesh b_0.Mesh)) = false,
     (decide ((b_0.Springs.length : Int) > 200)) = true,
     (decide ((b_0.Springs.length : Int) > 200)) = true,
     (decide ((b_0.Springs.length : Int) > 200)) = true,
     (decide ((b_0.Springs.length : Int) > 200)) = true,
     (decide ((b_0.Springs.length : Int) > 200)) = true,
     (decide ((b_0.Springs.length : Int) > 200)) = true,
     true = true])
    func103 rfl (by kernel_rfl) (by kernel_rfl)
    ⟨len_ok, (t_impl_ValidMesh b_0.Mesh (show b_0.Mesh.Places.length ≤ 1073741824 from (by first | assumption | omega | (simp_all <;> omega))) (show b_0.Mesh.Triangles.length ≤ 1073741824 from (by first | assumption | omega | (simp_all <;> omega))) (show ∀ t ∈ b_0.Mesh.Triangles, t.length ≤ 1073741824 from (by first | assumption | omega | (simp_all <;> omega)))), (congrArg not h0), (congrArg not h0), (congrArg not h0), len_ok, (congrArg not h0), (congrArg not h0), h1, h1, h1, h1, h1, h1, rfl, trivial⟩) rfl) (by simp only [v_impl_ValidBody, h0, h1, cond_true]) rfl
  | false =>
   cases h2 : ((b_0.Weights.length : Int) != (b_0.Mesh.Places.length : Int)) with
   | true =>
    exact Fn.cast (CallSt.fn (callSt_of_evK (E := E0) E0Ok hMixed (c := bodyOf f103) (rows := []) (r := .b false) (rows' := [])
     (ans := [.num (b_0.Mesh.Places.length : Int), .call (.b (v_impl_ValidMesh b_0.Mesh)) [], .bo false, .bo false, .bo false, .num (b_0.Springs.length : Int), .bo false, .bo false, .bo false, .bo false, .bo false, .num (b_0.Weights.length : Int), .bo false, .bo false, .bo false, .bo true, .keep []])
     (ps := [])
     (C := [(((b_0.Mesh.Places.map GVector.cells).length : Nat) : Int) = (b_0.Mesh.Places.length : Int),
      Fn prog 119 [.agg [.sl (b_0.Mesh.Places.map GVector.cells), .sl (b_0.Mesh.Triangles.map (cL (cI .i64)))]] (.b (v_impl_ValidMesh b_0.Mesh)) [],
      (!(v_impl_ValidMesh b_0.Mesh)) = false,
      (!(v_impl_ValidMesh b_0.Mesh)) = false,
      (!(v_impl_ValidMesh b_0.Mesh)) = false,
      (((b_0.Springs.map GSpring.cells).length : Nat) : Int) = (b_0.Springs.length : Int),
      (!(v_impl_ValidMesh b_0.Mesh)) = false,
      (!(v_impl_ValidMesh b_0.Mesh)) = false,
      (decide ((b_0.Springs.length : Int) > 200)) = false,
      (decide ((b_0.Springs.length : Int) > 200)) = false,
      (decide ((b_0.Springs.length : Int) > 200)) = false,
      (((b_0.Weights.map (cF .f32)).length : Nat) : Int) = (b_0.Weights.length : Int),
      (decide ((b_0.Springs.length : Int) > 200)) = false,
      (decide ((b_0.Springs.length : Int) > 200)) = false,
      (decide ((b_0.Springs.length : Int) > 200)) = false,
      ((b_0.Weights.length : Int) != (b_0.Mesh.Places.length : Int)) = true])
     func103 rfl (by kernel_rfl) (by kernel_rfl)
     ⟨len_ok, (t_impl_ValidMesh b_0.Mesh (show b_0.Mesh.Places.length ≤ 1073741824 from (by first | assumption | omega | (simp_all <;> omega))) (show b_0.Mesh.Triangles.length ≤ 1073741824 from (by first | assumption | omega | (simp_all <;> omega))) (show ∀ t ∈ b_0.Mesh.Triangles, t.length ≤ 1073741824 from (by first | assumption | omega | (simp_all <;> omega)))), (congrArg not h0), (congrArg not h0), (congrArg not h0), len_ok, (congrArg not h0), (congrArg not h0), h1, h1, h1, len_ok, h1, h1, h1, h2, trivial⟩) rfl) (by simp only [v_impl_ValidBody, h0, h1, h2, cond_true, cond_false]) rfl
   | false =>
    cases h3 : (lr_impl_ValidBody_1_0 b_0) with
    | inl r4 =>
     exact Fn.cast (CallSt.fn (callSt_of_evK (E := E0) E0Ok hMixed (c := bodyOf f103) (rows := []) (r := .b false) (rows' := [])
      (ans := [.num (b_0.Mesh.Places.length : Int), .call (.b (v_impl_ValidMesh b_0.Mesh)) [], .bo false, .bo false, .bo false, .num (b_0.Springs.length : Int), .bo false, .bo false, .bo false, .bo false, .bo false, .num (b_0.Weights.length : Int), .bo false, .bo false, .bo false, .bo false, .num (b_0.Springs.length : Int), .loop [true, true, false, true, false, false, true, true, true, true, true, true, true, true, true, true, true, true, true, true, true, true, true, true, true, true, true, true, true, true, true, false, false, false, false, false, false, false, false, false, false, false, false, false, false, false, false, false, false, false, false, false, false, false, false, false, false, false, false, false, false, false] 1 .ret ⟨[.any, .any, .b false, .any, .any, .any, .any, .any, .any, .any, .any, .any, .any, .any, .any, .any, .any, .any, .any, .any, .any, .any, .any, .any, .any, .any, .any, .any, .any, .any, .any, .any, .any, .any, .any, .any, .any, .any, .any, .any, .any, .any, .any, .any, .any, .any, .any, .any, .any, .any, .any, .any, .any, .any, .any, .any, .any, .any, .any, .any, .any, .any], []⟩, .keep []])
      (ps := [])
      (C := [(((b_0.Mesh.Places.map GVector.cells).length : Nat) : Int) = (b_0.Mesh.Places.length : Int),
       Fn prog 119 [.agg [.sl (b_0.Mesh.Places.map GVector.cells), .sl (b_0.Mesh.Triangles.map (cL (cI .i64)))]] (.b (v_impl_ValidMesh b_0.Mesh)) [],
       (!(v_impl_ValidMesh b_0.Mesh)) = false,
       (!(v_impl_ValidMesh b_0.Mesh)) = false,
       (!(v_impl_ValidMesh b_0.Mesh)) = false,
       (((b_0.Springs.map GSpring.cells).length : Nat) : Int) = (b_0.Springs.length : Int),
       (!(v_impl_ValidMesh b_0.Mesh)) = false,
       (!(v_impl_ValidMesh b_0.Mesh)) = false,
       (decide ((b_0.Springs.length : Int) > 200)) = false,
       (decide ((b_0.Springs.length : Int) > 200)) = false,
       (decide ((b_0.Springs.length : Int) > 200)) = false,
       (((b_0.Weights.map (cF .f32)).length : Nat) : Int) = (b_0.Weights.length : Int),
       (decide ((b_0.Springs.length : Int) > 200)) = false,
       (decide ((b_0.Springs.length : Int) > 200)) = false,
       (decide ((b_0.Springs.length : Int) > 200)) = false,
       ((b_0.Weights.length : Int) != (b_0.Mesh.Places.length : Int)) = false,
       (((b_0.Springs.map GSpring.cells).length : Nat) : Int) = (b_0.Springs.length : Int),
       Lp prog 0 (sub (bodyOf f103) [1, 1, 1, 0, 1, 0, 0]) ⟨[.agg [.sl (b_0.Mesh.Places.map GVector.cells), .sl (b_0.Mesh.Triangles.map (cL (cI .i64))), .sl (b_0.Springs.map GSpring.cells), .f .f32 b_0.Film, .f .f32 b_0.Bend, .sl (b_0.Weights.map (cF .f32)), .f .f32 b_0.Fall.X, .f .f32 b_0.Fall.Y, .f .f32 b_0.Fall.Z], .ptr 0 0 0, .any, .i .i64 (b_0.Mesh.Places.length : Int), .any, .any, .ptr 0 0 0, .ptr 0 0 0, .sl (b_0.Mesh.Places.map GVector.cells), .i .i64 (b_0.Mesh.Places.length : Int), .ptr 0 0 0, .agg [.sl (b_0.Mesh.Places.map GVector.cells), .sl (b_0.Mesh.Triangles.map (cL (cI .i64)))], .b (v_impl_ValidMesh b_0.Mesh), .b (!(v_impl_ValidMesh b_0.Mesh)), .b (!(v_impl_ValidMesh b_0.Mesh)), .ptr 0 0 2, .sl (b_0.Springs.map GSpring.cells), .i .i64 (b_0.Springs.length : Int), .b (decide ((b_0.Springs.length : Int) > 200)), .b (decide ((b_0.Springs.length : Int) > 200)), .b (decide ((b_0.Springs.length : Int) > 200)), .ptr 0 0 5, .sl (b_0.Weights.map (cF .f32)), .i .i64 (b_0.Weights.length : Int), .i .i64 (b_0.Mesh.Places.length : Int), .b ((b_0.Weights.length : Int) != (b_0.Mesh.Places.length : Int)), .b ((b_0.Weights.length : Int) != (b_0.Mesh.Places.length : Int)), .ptr 0 0 2, .sl (b_0.Springs.map GSpring.cells), .i .i64 (b_0.Springs.length : Int), .i .i64 0, .any, .any, .any, .any, .any, .any, .any, .any, .any, .any, .any, .any, .any, .any, .any, .any, .any, .any, .any, .any, .any, .any, .any, .any, .any, .any, .any, .any, .any, .any, .any], [.box 59 [.sl (b_0.Mesh.Places.map GVector.cells), .sl (b_0.Mesh.Triangles.map (cL (cI .i64))), .sl (b_0.Springs.map GSpring.cells), .f .f32 b_0.Film, .f .f32 b_0.Bend, .sl (b_0.Weights.map (cF .f32)), .f .f32 b_0.Fall.X, .f .f32 b_0.Fall.Y, .f .f32 b_0.Fall.Z]]⟩ .ret ⟨[.any, .any, .b false, .any, .any, .any, .any, .any, .any, .any, .any, .any, .any, .any, .any, .any, .any, .any, .any, .any, .any, .any, .any, .any, .any, .any, .any, .any, .any, .any, .any, .any, .any, .any, .any, .any, .any, .any, .any, .any, .any, .any, .any, .any, .any, .any, .any, .any, .any, .any, .any, .any, .any, .any, .any, .any, .any, .any, .any, .any, .any, .any], []⟩])
      func103 rfl (by kernel_rfl) (by kernel_rfl)
      ⟨len_ok, (t_impl_ValidMesh b_0.Mesh (show b_0.Mesh.Places.length ≤ 1073741824 from (by first | assumption | omega | (simp_all <;> omega))) (show b_0.Mesh.Triangles.length ≤ 1073741824 from (by first | assumption | omega | (simp_all <;> omega))) (show ∀ t ∈ b_0.Mesh.Triangles, t.length ≤ 1073741824 from (by first | assumption | omega | (simp_all <;> omega)))), (congrArg not h0), (congrArg not h0), (congrArg not h0), len_ok, (congrArg not h0), (congrArg not h0), h1, h1, h1, len_ok, h1, h1, h1, h2, len_ok, (by have q := (lp_impl_ValidBody_1 b_0 hp0 hp1 hp2 hp3 hp4 h2 h1 h0 (((b_0.Springs.length : Int) - 0).toNat + 1) 0 (show 0 ≤ 0 from (by first | assumption | omega | (simp_all <;> omega))) (Nat.lt_succ_self _)); rw [show (lo_impl_ValidBody_1 b_0 (((b_0.Springs.length : Int) - 0).toNat + 1) 0) = _ from rfl] at q; rw [show (lo_impl_ValidBody_1 b_0 (((b_0.Springs.length : Int) - 0).toNat + 1) 0) = (lr_impl_ValidBody_1_0 b_0) from rfl, h3] at q; exact q), trivial⟩) rfl) (by simp only [v_impl_ValidBody, h0, h1, h2, h3, cond_true, cond_false]) rfl
    | inr r4 =>
     exact Fn.cast (CallSt.fn (callSt_of_evK (E := E0) E0Ok hMixed (c := bodyOf f103) (rows := []) (r := .b true) (rows' := [])
      (ans := [.num (b_0.Mesh.Places.length : Int), .call (.b (v_impl_ValidMesh b_0.Mesh)) [], .bo false, .bo false, .bo false, .num (b_0.Springs.length : Int), .bo false, .bo false, .bo false, .bo false, .bo false, .num (b_0.Weights.length : Int), .bo false, .bo false, .bo false, .bo false, .num (b_0.Springs.length : Int), .loop [true, true, false, true, false, false, true, true, true, true, true, true, true, true, true, true, true, true, true, true, true, true, true, true, true, true, true, true, true, true, true, false, false, false, false, false, false, false, false, false, false, false, false, false, false, false, false, false, false, false, false, false, false, false, false, false, false, false, false, false, false, false] 1 (.exit 0) ⟨[.agg [.sl (b_0.Mesh.Places.map GVector.cells), .sl (b_0.Mesh.Triangles.map (cL (cI .i64))), .sl (b_0.Springs.map GSpring.cells), .f .f32 b_0.Film, .f .f32 b_0.Bend, .sl (b_0.Weights.map (cF .f32)), .f .f32 b_0.Fall.X, .f .f32 b_0.Fall.Y, .f .f32 b_0.Fall.Z], .ptr 0 0 0, .any, .i .i64 (b_0.Mesh.Places.length : Int), .any, .any, .ptr 0 0 0, .ptr 0 0 0, .sl (b_0.Mesh.Places.map GVector.cells), .i .i64 (b_0.Mesh.Places.length : Int), .ptr 0 0 0, .agg [.sl (b_0.Mesh.Places.map GVector.cells), .sl (b_0.Mesh.Triangles.map (cL (cI .i64)))], .b (v_impl_ValidMesh b_0.Mesh), .b (!(v_impl_ValidMesh b_0.Mesh)), .b (!(v_impl_ValidMesh b_0.Mesh)), .ptr 0 0 2, .sl (b_0.Springs.map GSpring.cells), .i .i64 (b_0.Springs.length : Int), .b (decide ((b_0.Springs.length : Int) > 200)), .b (decide ((b_0.Springs.length : Int) > 200)), .b (decide ((b_0.Springs.length : Int) > 200)), .ptr 0 0 5, .sl (b_0.Weights.map (cF .f32)), .i .i64 (b_0.Weights.length : Int), .i .i64 (b_0.Mesh.Places.length : Int), .b ((b_0.Weights.length : Int) != (b_0.Mesh.Places.length : Int)), .b ((b_0.Weights.length : Int) != (b_0.Mesh.Places.length : Int)), .ptr 0 0 2, .sl (b_0.Springs.map GSpring.cells), .any, .any, .any, .any, .any, .any, .any, .any, .any, .any, .any, .any, .any, .any, .any, .any, .any, .any, .any, .any, .any, .any, .any, .any, .any, .any, .any, .any, .any, .any, .any, .any, .any], [.box 59 [.sl (b_0.Mesh.Places.map GVector.cells), .sl (b_0.Mesh.Triangles.map (cL (cI .i64))), .sl (b_0.Springs.map GSpring.cells), .f .f32 b_0.Film, .f .f32 b_0.Bend, .sl (b_0.Weights.map (cF .f32)), .f .f32 b_0.Fall.X, .f .f32 b_0.Fall.Y, .f .f32 b_0.Fall.Z]]⟩, .keep []])
      (ps := [])
      (C := [(((b_0.Mesh.Places.map GVector.cells).length : Nat) : Int) = (b_0.Mesh.Places.length : Int),
       Fn prog 119 [.agg [.sl (b_0.Mesh.Places.map GVector.cells), .sl (b_0.Mesh.Triangles.map (cL (cI .i64)))]] (.b (v_impl_ValidMesh b_0.Mesh)) [],
       (!(v_impl_ValidMesh b_0.Mesh)) = false,
       (!(v_impl_ValidMesh b_0.Mesh)) = false,
       (!(v_impl_ValidMesh b_0.Mesh)) = false,
       (((b_0.Springs.map GSpring.cells).length : Nat) : Int) = (b_0.Springs.length : Int),
       (!(v_impl_ValidMesh b_0.Mesh)) = false,
       (!(v_impl_ValidMesh b_0.Mesh)) = false,
       (decide ((b_0.Springs.length : Int) > 200)) = false,
       (decide ((b_0.Springs.length : Int) > 200)) = false,
       (decide ((b_0.Springs.length : Int) > 200)) = false,
       (((b_0.Weights.map (cF .f32)).length : Nat) : Int) = (b_0.Weights.length : Int),
       (decide ((b_0.Springs.length : Int) > 200)) = false,
       (decide ((b_0.Springs.length : Int) > 200)) = false,
       (decide ((b_0.Springs.length : Int) > 200)) = false,
       ((b_0.Weights.length : Int) != (b_0.Mesh.Places.length : Int)) = false,
       (((b_0.Springs.map GSpring.cells).length : Nat) : Int) = (b_0.Springs.length : Int),
       Lp prog 0 (sub (bodyOf f103) [1, 1, 1, 0, 1, 0, 0]) ⟨[.agg [.sl (b_0.Mesh.Places.map GVector.cells), .sl (b_0.Mesh.Triangles.map (cL (cI .i64))), .sl (b_0.Springs.map GSpring.cells), .f .f32 b_0.Film, .f .f32 b_0.Bend, .sl (b_0.Weights.map (cF .f32)), .f .f32 b_0.Fall.X, .f .f32 b_0.Fall.Y, .f .f32 b_0.Fall.Z], .ptr 0 0 0, .any, .i .i64 (b_0.Mesh.Places.length : Int), .any, .any, .ptr 0 0 0, .ptr 0 0 0, .sl (b_0.Mesh.Places.map GVector.cells), .i .i64 (b_0.Mesh.Places.length : Int), .ptr 0 0 0, .agg [.sl (b_0.Mesh.Places.map GVector.cells), .sl (b_0.Mesh.Triangles.map (cL (cI .i64)))], .b (v_impl_ValidMesh b_0.Mesh), .b (!(v_impl_ValidMesh b_0.Mesh)), .b (!(v_impl_ValidMesh b_0.Mesh)), .ptr 0 0 2, .sl (b_0.Springs.map GSpring.cells), .i .i64 (b_0.Springs.length : Int), .b (decide ((b_0.Springs.length : Int) > 200)), .b (decide ((b_0.Springs.length : Int) > 200)), .b (decide ((b_0.Springs.length : Int) > 200)), .ptr 0 0 5, .sl (b_0.Weights.map (cF .f32)), .i .i64 (b_0.Weights.length : Int), .i .i64 (b_0.Mesh.Places.length : Int), .b ((b_0.Weights.length : Int) != (b_0.Mesh.Places.length : Int)), .b ((b_0.Weights.length : Int) != (b_0.Mesh.Places.length : Int)), .ptr 0 0 2, .sl (b_0.Springs.map GSpring.cells), .i .i64 (b_0.Springs.length : Int), .i .i64 0, .any, .any, .any, .any, .any, .any, .any, .any, .any, .any, .any, .any, .any, .any, .any, .any, .any, .any, .any, .any, .any, .any, .any, .any, .any, .any, .any, .any, .any, .any, .any], [.box 59 [.sl (b_0.Mesh.Places.map GVector.cells), .sl (b_0.Mesh.Triangles.map (cL (cI .i64))), .sl (b_0.Springs.map GSpring.cells), .f .f32 b_0.Film, .f .f32 b_0.Bend, .sl (b_0.Weights.map (cF .f32)), .f .f32 b_0.Fall.X, .f .f32 b_0.Fall.Y, .f .f32 b_0.Fall.Z]]⟩ (.exit 0) ⟨[.agg [.sl (b_0.Mesh.Places.map GVector.cells), .sl (b_0.Mesh.Triangles.map (cL (cI .i64))), .sl (b_0.Springs.map GSpring.cells), .f .f32 b_0.Film, .f .f32 b_0.Bend, .sl (b_0.Weights.map (cF .f32)), .f .f32 b_0.Fall.X, .f .f32 b_0.Fall.Y, .f .f32 b_0.Fall.Z], .ptr 0 0 0, .any, .i .i64 (b_0.Mesh.Places.length : Int), .any, .any, .ptr 0 0 0, .ptr 0 0 0, .sl (b_0.Mesh.Places.map GVector.cells), .i .i64 (b_0.Mesh.Places.length : Int), .ptr 0 0 0, .agg [.sl (b_0.Mesh.Places.map GVector.cells), .sl (b_0.Mesh.Triangles.map (cL (cI .i64)))], .b (v_impl_ValidMesh b_0.Mesh), .b (!(v_impl_ValidMesh b_0.Mesh)), .b (!(v_impl_ValidMesh b_0.Mesh)), .ptr 0 0 2, .sl (b_0.Springs.map GSpring.cells), .i .i64 (b_0.Springs.length : Int), .b (decide ((b_0.Springs.length : Int) > 200)), .b (decide ((b_0.Springs.length : Int) > 200)), .b (decide ((b_0.Springs.length : Int) > 200)), .ptr 0 0 5, .sl (b_0.Weights.map (cF .f32)), .i .i64 (b_0.Weights.length : Int), .i .i64 (b_0.Mesh.Places.length : Int), .b ((b_0.Weights.length : Int) != (b_0.Mesh.Places.length : Int)), .b ((b_0.Weights.length : Int) != (b_0.Mesh.Places.length : Int)), .ptr 0 0 2, .sl (b_0.Springs.map GSpring.cells), .any, .any, .any, .any, .any, .any, .any, .any, .any, .any, .any, .any, .any, .any, .any, .any, .any, .any, .any, .any, .any, .any, .any, .any, .any, .any, .any, .any, .any, .any, .any, .any, .any], [.box 59 [.sl (b_0.Mesh.Places.map GVector.cells), .sl (b_0.Mesh.Triangles.map (cL (cI .i64))), .sl (b_0.Springs.map GSpring.cells), .f .f32 b_0.Film, .f .f32 b_0.Bend, .sl (b_0.Weights.map (cF .f32)), .f .f32 b_0.Fall.X, .f .f32 b_0.Fall.Y, .f .f32 b_0.Fall.Z]]⟩])
      func103 rfl (by kernel_rfl) (by kernel_rfl)
      ⟨len_ok, (t_impl_ValidMesh b_0.Mesh (show b_0.Mesh.Places.length ≤ 1073741824 from (by first | assumption | omega | (simp_all <;> omega))) (show b_0.Mesh.Triangles.length ≤ 1073741824 from (by first | assumption | omega | (simp_all <;> omega))) (show ∀ t ∈ b_0.Mesh.Triangles, t.length ≤ 1073741824 from (by first | assumption | omega | (simp_all <;> omega)))), (congrArg not h0), (congrArg not h0), (congrArg not h0), len_ok, (congrArg not h0), (congrArg not h0), h1, h1, h1, len_ok, h1, h1, h1, h2, len_ok, (by have q := (lp_impl_ValidBody_1 b_0 hp0 hp1 hp2 hp3 hp4 h2 h1 h0 (((b_0.Springs.length : Int) - 0).toNat + 1) 0 (show 0 ≤ 0 from (by first | assumption | omega | (simp_all <;> omega))) (Nat.lt_succ_self _)); rw [show (lo_impl_ValidBody_1 b_0 (((b_0.Springs.length : Int) - 0).toNat + 1) 0) = _ from rfl] at q; rw [show (lo_impl_ValidBody_1 b_0 (((b_0.Springs.length : Int) - 0).toNat + 1) 0) = (lr_impl_ValidBody_1_0 b_0) from rfl, h3] at q; exact q), trivial⟩) rfl) (by simp only [v_impl_ValidBody, h0, h1, h2, h3, cond_true, cond_false]) rfl
 | false =>
  exact Fn.cast (CallSt.fn (callSt_of_evK (E := E0) E0Ok hMixed (c := bodyOf f103) (rows := []) (r := .b false) (rows' := [])
   (ans := [.num (b_0.Mesh.Places.length : Int), .call (.b (v_impl_ValidMesh b_0.Mesh)) [], .bo true, .bo true, .bo true, .bo true, .bo true, .bo true, .bo true, .bo true, .bo true, .bo true, .bo true, .bo true, .keep []])
   (ps := [])
   (C := [(((b_0.Mesh.Places.map GVector.cells).length : Nat) : Int) = (b_0.Mesh.Places.length : Int),
    Fn prog 119 [.agg [.sl (b_0.Mesh.Places.map GVector.cells), .sl (b_0.Mesh.Triangles.map (cL (cI .i64)))]] (.b (v_impl_ValidMesh b_0.Mesh)) [],
    (!(v_impl_ValidMesh b_0.Mesh)) = true,
    (!(v_impl_ValidMesh b_0.Mesh)) = true,
    (!(v_impl_ValidMesh b_0.Mesh)) = true,
    (!(v_impl_ValidMesh b_0.Mesh)) = true,
    (!(v_impl_ValidMesh b_0.Mesh)) = true,
    true = true,
    true = true,
    true = true,
    true = true,
    true = true,
    true = true,
    true = true])
   func103 rfl (by kernel_rfl) (by kernel_rfl)
   ⟨len_ok, (t_impl_ValidMesh b_0.Mesh (show b_0.Mesh.Places.length ≤ 1073741824 from (by first | assumption | omega | (simp_all <;> omega))) (show b_0.Mesh.Triangles.length ≤ 1073741824 from (by first | assumption | omega | (simp_all <;> omega))) (show ∀ t ∈ b_0.Mesh.Triangles, t.length ≤ 1073741824 from (by first | assumption | omega | (simp_all <;> omega)))), (congrArg not h0), (congrArg not h0), (congrArg not h0), (congrArg not h0), (congrArg not h0), rfl, rfl, rfl, rfl, rfl, rfl, rfl, trivial⟩) rfl) (by simp only [v_impl_ValidBody, h0, cond_false]) rfl

theorem springB (s : GSpring) (n : Int) : cond (v_impl_within s.A 0 (IntKind.wrap .i64 (n - 1))) (cond (v_impl_within s.B 0 (IntKind.wrap .i64 (n - 1))) (cond (s.A == s.B) false (fcmp .geq .f32 s.Long 0)) false) false = v_spec_l03Spring s n := by
  unfold v_spec_l03Spring
  rw [show v_impl_within = v_spec_l00In from rfl, show (s.A != s.B) = !(s.A == s.B) from rfl]
  cases (s.A == s.B) <;> rfl
theorem lo_ValidBody (b : GBody) (k : Nat) (i : Int) : lo_impl_ValidBody_1 b (k + 1) i = cond (decide (i < (b.Springs.length : Int))) (cond (v_spec_l03Spring (b.Springs.getD i.toNat default) (b.Mesh.Places.length : Int)) (lo_impl_ValidBody_1 b k (i + 1)) (.inl ())) (.inr ()) := by
  rw [lo_impl_ValidBody_1, ← springB]
  generalize b.Springs.getD i.toNat default = s
  cases v_impl_within s.A 0 (IntKind.wrap .i64 ((b.Mesh.Places.length : Int) - 1)) <;> cases v_impl_within s.B 0 (IntKind.wrap .i64 ((b.Mesh.Places.length : Int) - 1)) <;> cases (s.A == s.B) <;> cases fcmp .geq .f32 s.Long 0 <;> rfl
theorem eq_ValidBody (b : GBody) : v_impl_ValidBody b = v_spec_l03Is b := by
  unfold v_impl_ValidBody v_spec_l03Is lr_impl_ValidBody_1_0 lr_spec_l03Is_1_0
  rw [eq_ValidMesh, all_from (a := b.Springs) (p := fun s => v_spec_l03Spring s (b.Mesh.Places.length : Int)) (lo := lo_impl_ValidBody_1 b) (x := ()) (y := ()) (lo_ValidBody b),
    all_from (a := b.Springs) (p := fun s => v_spec_l03Spring s (b.Mesh.Places.length : Int)) (lo := lo_spec_l03Is_1 b) (x := ()) (y := ()) (fun k i => rfl)]
  rfl
theorem okMesh_is (b : GBody) (h : v_spec_l03Is b = true) : v_spec_l02Is b.Mesh = true := by
  cases hm : v_spec_l02Is b.Mesh with
  | true => rfl
  | false => simp [v_spec_l03Is, hm] at h
theorem places_le (m : GMesh) (h : v_spec_l02Is m = true) : m.Places.length ≤ 64 ∧ m.Triangles.length ≤ 128 := by
  rw [l02Is_eq] at h
  cases h1 : decide ((m.Places.length : Int) > 64) <;> rw [h1] at h <;> (try (cases h; done))
  cases h2 : decide ((m.Triangles.length : Int) > 128) <;> rw [h2] at h <;> (try (cases h; done))
  simp only [decide_eq_false_iff_not] at h1 h2
  omega

def v_impl_LessVectors (a_0 : GVector) (b_1 : GVector) : GVector := (⟨(fop .sub .f32 a_0.X b_1.X), (fop .sub .f32 a_0.Y b_1.Y), (fop .sub .f32 a_0.Z b_1.Z)⟩ : GVector)

theorem t_impl_LessVectors (a_0 : GVector) (b_1 : GVector)   : Fn prog 62 [.agg [.f .f32 a_0.X, .f .f32 a_0.Y, .f .f32 a_0.Z], .agg [.f .f32 b_1.X, .f .f32 b_1.Y, .f .f32 b_1.Z]] (.agg [.f .f32 ((v_impl_LessVectors a_0 b_1).X), .f .f32 ((v_impl_LessVectors a_0 b_1).Y), .f .f32 ((v_impl_LessVectors a_0 b_1).Z)]) [] := by
 exact Fn.cast (CallSt.fn (callSt_of_evK (E := E0) E0Ok hMixed (c := bodyOf f62) (rows := []) (r := .agg [.f .f32 (fop .sub .f32 a_0.X b_1.X), .f .f32 (fop .sub .f32 a_0.Y b_1.Y), .f .f32 (fop .sub .f32 a_0.Z b_1.Z)]) (rows' := [])
  (ans := [.keep []])
  (ps := [])
  (C := [])
  func62 rfl (by kernel_rfl) (by kernel_rfl)
  trivial) rfl) rfl rfl

def v_impl_alongSpring (b_0 : GBody) (s_1 : GSpring) : GVector := (v_impl_LessVectors (b_0.Mesh.Places.getD s_1.B.toNat default) (b_0.Mesh.Places.getD s_1.A.toNat default))

theorem t_impl_alongSpring (b_0 : GBody) (s_1 : GSpring) (hp0 : b_0.Mesh.Places.length ≤ 1073741824) (hp1 : b_0.Mesh.Triangles.length ≤ 1073741824) (hp2 : ∀ t ∈ b_0.Mesh.Triangles, t.length ≤ 1073741824) (hp3 : b_0.Springs.length ≤ 1073741824) (hp4 : b_0.Weights.length ≤ 1073741824) (hp5 : 0 ≤ s_1.A) (hp6 : s_1.A < (b_0.Mesh.Places.length : Int)) (hp7 : 0 ≤ s_1.B) (hp8 : s_1.B < (b_0.Mesh.Places.length : Int))  : Fn prog 81 [.agg [.sl (b_0.Mesh.Places.map GVector.cells), .sl (b_0.Mesh.Triangles.map (cL (cI .i64))), .sl (b_0.Springs.map GSpring.cells), .f .f32 b_0.Film, .f .f32 b_0.Bend, .sl (b_0.Weights.map (cF .f32)), .f .f32 b_0.Fall.X, .f .f32 b_0.Fall.Y, .f .f32 b_0.Fall.Z], .agg [.i .i64 s_1.A, .i .i64 s_1.B, .f .f32 s_1.Long, .f .f32 s_1.Stiff]] (.agg [.f .f32 ((v_impl_alongSpring b_0 s_1).X), .f .f32 ((v_impl_alongSpring b_0 s_1).Y), .f .f32 ((v_impl_alongSpring b_0 s_1).Z)]) [] := by
 exact Fn.cast (CallSt.fn (callSt_of_evK (E := E0) E0Ok hMixed (c := bodyOf f81) (rows := []) (r := .agg [.f .f32 ((v_impl_LessVectors (b_0.Mesh.Places.getD s_1.B.toNat default) (b_0.Mesh.Places.getD s_1.A.toNat default)).X), .f .f32 ((v_impl_LessVectors (b_0.Mesh.Places.getD s_1.B.toNat default) (b_0.Mesh.Places.getD s_1.A.toNat default)).Y), .f .f32 ((v_impl_LessVectors (b_0.Mesh.Places.getD s_1.B.toNat default) (b_0.Mesh.Places.getD s_1.A.toNat default)).Z)]) (rows' := [])
  (ans := [.keep [14, 14], .el [.f .f32 ((b_0.Mesh.Places.getD s_1.B.toNat default).X), .f .f32 ((b_0.Mesh.Places.getD s_1.B.toNat default).Y), .f .f32 ((b_0.Mesh.Places.getD s_1.B.toNat default).Z)], .el [.f .f32 ((b_0.Mesh.Places.getD s_1.A.toNat default).X), .f .f32 ((b_0.Mesh.Places.getD s_1.A.toNat default).Y), .f .f32 ((b_0.Mesh.Places.getD s_1.A.toNat default).Z)], .call (.agg [.f .f32 ((v_impl_LessVectors (b_0.Mesh.Places.getD s_1.B.toNat default) (b_0.Mesh.Places.getD s_1.A.toNat default)).X), .f .f32 ((v_impl_LessVectors (b_0.Mesh.Places.getD s_1.B.toNat default) (b_0.Mesh.Places.getD s_1.A.toNat default)).Y), .f .f32 ((v_impl_LessVectors (b_0.Mesh.Places.getD s_1.B.toNat default) (b_0.Mesh.Places.getD s_1.A.toNat default)).Z)]) [], .keep []])
  (ps := [])
  (C := [0 ≤ s_1.B ∧ (b_0.Mesh.Places.map GVector.cells)[Int.toNat s_1.B]? = some [.f .f32 ((b_0.Mesh.Places.getD s_1.B.toNat default).X), .f .f32 ((b_0.Mesh.Places.getD s_1.B.toNat default).Y), .f .f32 ((b_0.Mesh.Places.getD s_1.B.toNat default).Z)],
   0 ≤ s_1.A ∧ (b_0.Mesh.Places.map GVector.cells)[Int.toNat s_1.A]? = some [.f .f32 ((b_0.Mesh.Places.getD s_1.A.toNat default).X), .f .f32 ((b_0.Mesh.Places.getD s_1.A.toNat default).Y), .f .f32 ((b_0.Mesh.Places.getD s_1.A.toNat default).Z)],
   Fn prog 62 [.agg [.f .f32 ((b_0.Mesh.Places.getD s_1.B.toNat default).X), .f .f32 ((b_0.Mesh.Places.getD s_1.B.toNat default).Y), .f .f32 ((b_0.Mesh.Places.getD s_1.B.toNat default).Z)], .agg [.f .f32 ((b_0.Mesh.Places.getD s_1.A.toNat default).X), .f .f32 ((b_0.Mesh.Places.getD s_1.A.toNat default).Y), .f .f32 ((b_0.Mesh.Places.getD s_1.A.toNat default).Z)]] (.agg [.f .f32 ((v_impl_LessVectors (b_0.Mesh.Places.getD s_1.B.toNat default) (b_0.Mesh.Places.getD s_1.A.toNat default)).X), .f .f32 ((v_impl_LessVectors (b_0.Mesh.Places.getD s_1.B.toNat default) (b_0.Mesh.Places.getD s_1.A.toNat default)).Y), .f .f32 ((v_impl_LessVectors (b_0.Mesh.Places.getD s_1.B.toNat default) (b_0.Mesh.Places.getD s_1.A.toNat default)).Z)]) []])
  func81 rfl (by kernel_rfl) (by kernel_rfl)
  ⟨(get_ok (by first | assumption | omega | (simp_all <;> omega)) (by first | assumption | omega | (simp_all <;> omega))), (get_ok (by first | assumption | omega | (simp_all <;> omega)) (by first | assumption | omega | (simp_all <;> omega))), (t_impl_LessVectors (b_0.Mesh.Places.getD s_1.B.toNat default) (b_0.Mesh.Places.getD s_1.A.toNat default)), trivial⟩) rfl) rfl rfl

def v_impl_InnerOf (a_0 : GVector) (b_1 : GVector) : Nat := (fop .add .f32 (fop .add .f32 (fop .mul .f32 a_0.X b_1.X) (fop .mul .f32 a_0.Y b_1.Y)) (fop .mul .f32 a_0.Z b_1.Z))

theorem t_impl_InnerOf (a_0 : GVector) (b_1 : GVector)   : Fn prog 123 [.agg [.f .f32 a_0.X, .f .f32 a_0.Y, .f .f32 a_0.Z], .agg [.f .f32 b_1.X, .f .f32 b_1.Y, .f .f32 b_1.Z]] (.f .f32 (v_impl_InnerOf a_0 b_1)) [] := by
 exact Fn.cast (CallSt.fn (callSt_of_evK (E := E0) E0Ok hMixed (c := bodyOf f123) (rows := []) (r := .f .f32 (fop .add .f32 (fop .add .f32 (fop .mul .f32 a_0.X b_1.X) (fop .mul .f32 a_0.Y b_1.Y)) (fop .mul .f32 a_0.Z b_1.Z))) (rows' := [])
  (ans := [.keep []])
  (ps := [])
  (C := [])
  func123 rfl (by kernel_rfl) (by kernel_rfl)
  trivial) rfl) rfl rfl

def v_impl_RootNumber (x_0 : Nat) : Nat := (fcv .f64 .f32 (v_math_Sqrt (fcv .f32 .f64 x_0)))

theorem t_impl_RootNumber (x_0 : Nat)   : Fn prog 122 [.f .f32 x_0] (.f .f32 (v_impl_RootNumber x_0)) [] := by
 exact Fn.cast (CallSt.fn (callSt_of_evK (E := E0) E0Ok hMixed (c := bodyOf f122) (rows := []) (r := .f .f32 (fcv .f64 .f32 (v_math_Sqrt (fcv .f32 .f64 x_0)))) (rows' := [])
  (ans := [.call (.f .f64 (v_math_Sqrt (fcv .f32 .f64 x_0))) [], .keep []])
  (ps := [])
  (C := [fcvOk .f32 .f64 x_0 = true,
   Fn prog 148 [.f .f64 (fcv .f32 .f64 x_0)] (.f .f64 (v_math_Sqrt (fcv .f32 .f64 x_0))) [],
   fcvOk .f64 .f32 (v_math_Sqrt (fcv .f32 .f64 x_0)) = true])
  func122 rfl (by kernel_rfl) (by kernel_rfl)
  ⟨(widenOk _), (t_math_Sqrt (fcv .f32 .f64 x_0)), (narrow_sqrt _), trivial⟩) rfl) rfl rfl

def v_impl_LongOf (v_0 : GVector) : Nat := (v_impl_RootNumber (v_impl_InnerOf v_0 v_0))

theorem t_impl_LongOf (v_0 : GVector)   : Fn prog 61 [.agg [.f .f32 v_0.X, .f .f32 v_0.Y, .f .f32 v_0.Z]] (.f .f32 (v_impl_LongOf v_0)) [] := by
 exact Fn.cast (CallSt.fn (callSt_of_evK (E := E0) E0Ok hMixed (c := bodyOf f61) (rows := []) (r := .f .f32 (v_impl_RootNumber (v_impl_InnerOf v_0 v_0))) (rows' := [])
  (ans := [.call (.f .f32 (v_impl_InnerOf v_0 v_0)) [], .call (.f .f32 (v_impl_RootNumber (v_impl_InnerOf v_0 v_0))) [], .keep []])
  (ps := [])
  (C := [Fn prog 123 [.agg [.f .f32 v_0.X, .f .f32 v_0.Y, .f .f32 v_0.Z], .agg [.f .f32 v_0.X, .f .f32 v_0.Y, .f .f32 v_0.Z]] (.f .f32 (v_impl_InnerOf v_0 v_0)) [],
   Fn prog 122 [.f .f32 (v_impl_InnerOf v_0 v_0)] (.f .f32 (v_impl_RootNumber (v_impl_InnerOf v_0 v_0))) []])
  func61 rfl (by kernel_rfl) (by kernel_rfl)
  ⟨(t_impl_InnerOf v_0 v_0), (t_impl_RootNumber (v_impl_InnerOf v_0 v_0)), trivial⟩) rfl) rfl rfl

def lo_impl_StretchesOf_1 (b_0 : GBody) : Nat → Int → (List Nat) → (List Nat)
  | 0, _, _ => default
  | k + 1, x_l0, r1_l1 => (cond (decide (x_l0 < (b_0.Springs.length : Int)))
    (lo_impl_StretchesOf_1 b_0 k (x_l0 + 1) (r1_l1 ++ [(fop .quo .f32 (v_impl_LongOf (v_impl_alongSpring b_0 (b_0.Springs.getD x_l0.toNat default))) ((b_0.Springs.getD x_l0.toNat default).Long))]))
    r1_l1)

def ls_impl_StretchesOf_1 (b_0 : GBody) (r : (List Nat)) : Ex × St := ((.exit 0), ⟨[.agg [.sl (b_0.Mesh.Places.map GVector.cells), .sl (b_0.Mesh.Triangles.map (cL (cI .i64))), .sl (b_0.Springs.map GSpring.cells), .f .f32 b_0.Film, .f .f32 b_0.Bend, .sl (b_0.Weights.map (cF .f32)), .f .f32 b_0.Fall.X, .f .f32 b_0.Fall.Y, .f .f32 b_0.Fall.Z], .ptr 0 0 0, .nils, .b false, .own 1, .any, .any, .agg [.sl (b_0.Mesh.Places.map GVector.cells), .sl (b_0.Mesh.Triangles.map (cL (cI .i64))), .sl (b_0.Springs.map GSpring.cells), .f .f32 b_0.Film, .f .f32 b_0.Bend, .sl (b_0.Weights.map (cF .f32)), .f .f32 b_0.Fall.X, .f .f32 b_0.Fall.Y, .f .f32 b_0.Fall.Z], .b (v_impl_ValidBody b_0), .b (!(v_impl_ValidBody b_0)), .any, .ptr 0 0 2, .sl (b_0.Springs.map GSpring.cells), .any, .any, .any, .any, .any, .any, .any, .any, .any, .any, .any, .any, .any, .any, .any, .any, .any], [.box 59 [.sl (b_0.Mesh.Places.map GVector.cells), .sl (b_0.Mesh.Triangles.map (cL (cI .i64))), .sl (b_0.Springs.map GSpring.cells), .f .f32 b_0.Film, .f .f32 b_0.Bend, .sl (b_0.Weights.map (cF .f32)), .f .f32 b_0.Fall.X, .f .f32 b_0.Fall.Y, .f .f32 b_0.Fall.Z], .vec 29 1 (r.map (cF .f32)) false]⟩)

theorem lp_impl_StretchesOf_1 (b_0 : GBody) (hp0 : b_0.Mesh.Places.length ≤ 1073741824) (hp1 : b_0.Mesh.Triangles.length ≤ 1073741824) (hp2 : ∀ t ∈ b_0.Mesh.Triangles, t.length ≤ 1073741824) (hp3 : b_0.Springs.length ≤ 1073741824) (hp4 : b_0.Weights.length ≤ 1073741824) (hf_impl_StretchesOf_1_0 : (v_impl_ValidBody b_0) = true) : ∀ (k : Nat) (x_l0 : Int) (r1_l1 : (List Nat)) (hv_impl_StretchesOf_1_0 : 0 ≤ x_l0) (hv_impl_StretchesOf_1_1 : (r1_l1.length : Int) = x_l0) (hk : ((b_0.Springs.length : Int) - x_l0).toNat < k), Lp prog 0 (sub (bodyOf f34) [1, 1, 1, 0, 1, 0, 0]) ⟨[.agg [.sl (b_0.Mesh.Places.map GVector.cells), .sl (b_0.Mesh.Triangles.map (cL (cI .i64))), .sl (b_0.Springs.map GSpring.cells), .f .f32 b_0.Film, .f .f32 b_0.Bend, .sl (b_0.Weights.map (cF .f32)), .f .f32 b_0.Fall.X, .f .f32 b_0.Fall.Y, .f .f32 b_0.Fall.Z], .ptr 0 0 0, .nils, .b false, .own 1, .any, .any, .agg [.sl (b_0.Mesh.Places.map GVector.cells), .sl (b_0.Mesh.Triangles.map (cL (cI .i64))), .sl (b_0.Springs.map GSpring.cells), .f .f32 b_0.Film, .f .f32 b_0.Bend, .sl (b_0.Weights.map (cF .f32)), .f .f32 b_0.Fall.X, .f .f32 b_0.Fall.Y, .f .f32 b_0.Fall.Z], .b (v_impl_ValidBody b_0), .b (!(v_impl_ValidBody b_0)), .any, .ptr 0 0 2, .sl (b_0.Springs.map GSpring.cells), .i .i64 (b_0.Springs.length : Int), .i .i64 x_l0, .any, .any, .any, .any, .any, .any, .any, .any, .any, .any, .any, .any, .any, .any, .any], [.box 59 [.sl (b_0.Mesh.Places.map GVector.cells), .sl (b_0.Mesh.Triangles.map (cL (cI .i64))), .sl (b_0.Springs.map GSpring.cells), .f .f32 b_0.Film, .f .f32 b_0.Bend, .sl (b_0.Weights.map (cF .f32)), .f .f32 b_0.Fall.X, .f .f32 b_0.Fall.Y, .f .f32 b_0.Fall.Z], .vec 29 1 (r1_l1.map (cF .f32)) false]⟩ (ls_impl_StretchesOf_1 b_0 (lo_impl_StretchesOf_1 b_0 k x_l0 r1_l1)).1 (ls_impl_StretchesOf_1 b_0 (lo_impl_StretchesOf_1 b_0 k x_l0 r1_l1)).2 := by
 intro k
 induction k with
 | zero => intro x_l0 r1_l1 hv_impl_StretchesOf_1_0 hv_impl_StretchesOf_1_1 hk; exact absurd hk (Nat.not_lt_zero _)
 | succ k ih =>
  intro x_l0 r1_l1 hv_impl_StretchesOf_1_0 hv_impl_StretchesOf_1_1 hk
  cases h_0 : (decide (x_l0 < (b_0.Springs.length : Int))) with
  | true =>
   have e : lo_impl_StretchesOf_1 b_0 (k + 1) x_l0 r1_l1 = (lo_impl_StretchesOf_1 b_0 k (x_l0 + 1) (r1_l1 ++ [(fop .quo .f32 (v_impl_LongOf (v_impl_alongSpring b_0 (b_0.Springs.getD x_l0.toNat default))) ((b_0.Springs.getD x_l0.toNat default).Long))])) := by simp only [lo_impl_StretchesOf_1, h_0, cond_true]
   rw [e]
   exact stepK_next (E := E0) E0Ok hMixed (body := (sub (bodyOf f34) [1, 1, 1, 0, 1, 0, 0])) (st := ⟨[.agg [.sl (b_0.Mesh.Places.map GVector.cells), .sl (b_0.Mesh.Triangles.map (cL (cI .i64))), .sl (b_0.Springs.map GSpring.cells), .f .f32 b_0.Film, .f .f32 b_0.Bend, .sl (b_0.Weights.map (cF .f32)), .f .f32 b_0.Fall.X, .f .f32 b_0.Fall.Y, .f .f32 b_0.Fall.Z], .ptr 0 0 0, .nils, .b false, .own 1, .any, .any, .agg [.sl (b_0.Mesh.Places.map GVector.cells), .sl (b_0.Mesh.Triangles.map (cL (cI .i64))), .sl (b_0.Springs.map GSpring.cells), .f .f32 b_0.Film, .f .f32 b_0.Bend, .sl (b_0.Weights.map (cF .f32)), .f .f32 b_0.Fall.X, .f .f32 b_0.Fall.Y, .f .f32 b_0.Fall.Z], .b (v_impl_ValidBody b_0), .b (!(v_impl_ValidBody b_0)), .any, .ptr 0 0 2, .sl (b_0.Springs.map GSpring.cells), .i .i64 (b_0.Springs.length : Int), .i .i64 x_l0, .any, .any, .any, .any, .any, .any, .any, .any, .any, .any, .any, .any, .any, .any, .any], [.box 59 [.sl (b_0.Mesh.Places.map GVector.cells), .sl (b_0.Mesh.Triangles.map (cL (cI .i64))), .sl (b_0.Springs.map GSpring.cells), .f .f32 b_0.Film, .f .f32 b_0.Bend, .sl (b_0.Weights.map (cF .f32)), .f .f32 b_0.Fall.X, .f .f32 b_0.Fall.Y, .f .f32 b_0.Fall.Z], .vec 29 1 (r1_l1.map (cF .f32)) false]⟩)
    (st2 := ⟨[.agg [.sl (b_0.Mesh.Places.map GVector.cells), .sl (b_0.Mesh.Triangles.map (cL (cI .i64))), .sl (b_0.Springs.map GSpring.cells), .f .f32 b_0.Film, .f .f32 b_0.Bend, .sl (b_0.Weights.map (cF .f32)), .f .f32 b_0.Fall.X, .f .f32 b_0.Fall.Y, .f .f32 b_0.Fall.Z], .ptr 0 0 0, .nils, .b false, .own 1, .any, .any, .agg [.sl (b_0.Mesh.Places.map GVector.cells), .sl (b_0.Mesh.Triangles.map (cL (cI .i64))), .sl (b_0.Springs.map GSpring.cells), .f .f32 b_0.Film, .f .f32 b_0.Bend, .sl (b_0.Weights.map (cF .f32)), .f .f32 b_0.Fall.X, .f .f32 b_0.Fall.Y, .f .f32 b_0.Fall.Z], .b (v_impl_ValidBody b_0), .b (!(v_impl_ValidBody b_0)), .any, .ptr 0 0 2, .sl (b_0.Springs.map GSpring.cells), .i .i64 (b_0.Springs.length : Int), .i .i64 (x_l0 + 1), .any, .any, .any, .any, .any, .any, .any, .any, .any, .any, .any, .any, .any, .any, .any], [.box 59 [.sl (b_0.Mesh.Places.map GVector.cells), .sl (b_0.Mesh.Triangles.map (cL (cI .i64))), .sl (b_0.Springs.map GSpring.cells), .f .f32 b_0.Film, .f .f32 b_0.Bend, .sl (b_0.Weights.map (cF .f32)), .f .f32 b_0.Fall.X, .f .f32 b_0.Fall.Y, .f .f32 b_0.Fall.Z], .vec 29 1 ((r1_l1.map (cF .f32)) ++ ([[.f .f32 (fop .quo .f32 (v_impl_LongOf (v_impl_alongSpring b_0 (b_0.Springs.getD x_l0.toNat default))) ((b_0.Springs.getD x_l0.toNat default).Long))]] : List (List AV))) false]⟩)
    (ans := [.bo true, .el [.i .i64 ((b_0.Springs.getD x_l0.toNat default).A), .i .i64 ((b_0.Springs.getD x_l0.toNat default).B), .f .f32 ((b_0.Springs.getD x_l0.toNat default).Long), .f .f32 ((b_0.Springs.getD x_l0.toNat default).Stiff)], .keep [9, 9], .call (.agg [.f .f32 ((v_impl_alongSpring b_0 (b_0.Springs.getD x_l0.toNat default)).X), .f .f32 ((v_impl_alongSpring b_0 (b_0.Springs.getD x_l0.toNat default)).Y), .f .f32 ((v_impl_alongSpring b_0 (b_0.Springs.getD x_l0.toNat default)).Z)]) [], .call (.f .f32 (v_impl_LongOf (v_impl_alongSpring b_0 (b_0.Springs.getD x_l0.toNat default)))) [], .num (x_l0 + 1)])
    (ps := []) (mask := [true, true, true, true, true, false, false, true, true, true, false, true, true, true, true, false, false, false, false, false, false, false, false, false, false, false, false, false, false, false]) (ks := [0, 1])
    (C := [(decide (x_l0 < (b_0.Springs.length : Int))) = true,
     0 ≤ x_l0 ∧ (b_0.Springs.map GSpring.cells)[Int.toNat x_l0]? = some [.i .i64 ((b_0.Springs.getD x_l0.toNat default).A), .i .i64 ((b_0.Springs.getD x_l0.toNat default).B), .f .f32 ((b_0.Springs.getD x_l0.toNat default).Long), .f .f32 ((b_0.Springs.getD x_l0.toNat default).Stiff)],
     Fn prog 81 [.agg [.sl (b_0.Mesh.Places.map GVector.cells), .sl (b_0.Mesh.Triangles.map (cL (cI .i64))), .sl (b_0.Springs.map GSpring.cells), .f .f32 b_0.Film, .f .f32 b_0.Bend, .sl (b_0.Weights.map (cF .f32)), .f .f32 b_0.Fall.X, .f .f32 b_0.Fall.Y, .f .f32 b_0.Fall.Z], .agg [.i .i64 ((b_0.Springs.getD x_l0.toNat default).A), .i .i64 ((b_0.Springs.getD x_l0.toNat default).B), .f .f32 ((b_0.Springs.getD x_l0.toNat default).Long), .f .f32 ((b_0.Springs.getD x_l0.toNat default).Stiff)]] (.agg [.f .f32 ((v_impl_alongSpring b_0 (b_0.Springs.getD x_l0.toNat default)).X), .f .f32 ((v_impl_alongSpring b_0 (b_0.Springs.getD x_l0.toNat default)).Y), .f .f32 ((v_impl_alongSpring b_0 (b_0.Springs.getD x_l0.toNat default)).Z)]) [],
     Fn prog 61 [.agg [.f .f32 ((v_impl_alongSpring b_0 (b_0.Springs.getD x_l0.toNat default)).X), .f .f32 ((v_impl_alongSpring b_0 (b_0.Springs.getD x_l0.toNat default)).Y), .f .f32 ((v_impl_alongSpring b_0 (b_0.Springs.getD x_l0.toNat default)).Z)]] (.f .f32 (v_impl_LongOf (v_impl_alongSpring b_0 (b_0.Springs.getD x_l0.toNat default)))) [],
     (r1_l1.map (cF .f32)).length + ([[.f .f32 (fop .quo .f32 (v_impl_LongOf (v_impl_alongSpring b_0 (b_0.Springs.getD x_l0.toNat default))) ((b_0.Springs.getD x_l0.toNat default).Long))]] : List (List AV)).length ≤ 1073741824,
     IntKind.wrap .i64 (x_l0 + 1) = (x_l0 + 1)])
    (by kernel_rfl)
    ⟨h_0, (get_ok (by first | assumption | omega | (simp_all <;> omega)) (by first | assumption | omega | (simp_all <;> omega))), (t_impl_alongSpring b_0 (b_0.Springs.getD x_l0.toNat default) (show b_0.Mesh.Places.length ≤ 1073741824 from (by first | assumption | omega | (have hi : x_l0 < (b_0.Springs.length : Int) := of_decide_eq_true (by assumption); have h0 : 0 ≤ x_l0 := (by assumption); have hv : v_spec_l03Is b_0 = true := (by rw [← eq_ValidBody]; assumption); have qa := OkIx.at (okA_is b_0 hv) h0 hi; have qb := OkIx.at (okB_is b_0 hv) h0 hi; omega))) (show b_0.Mesh.Triangles.length ≤ 1073741824 from (by first | assumption | omega | (have hi : x_l0 < (b_0.Springs.length : Int) := of_decide_eq_true (by assumption); have h0 : 0 ≤ x_l0 := (by assumption); have hv : v_spec_l03Is b_0 = true := (by rw [← eq_ValidBody]; assumption); have qa := OkIx.at (okA_is b_0 hv) h0 hi; have qb := OkIx.at (okB_is b_0 hv) h0 hi; omega))) (show ∀ t ∈ b_0.Mesh.Triangles, t.length ≤ 1073741824 from (by first | assumption | omega | (have hi : x_l0 < (b_0.Springs.length : Int) := of_decide_eq_true (by assumption); have h0 : 0 ≤ x_l0 := (by assumption); have hv : v_spec_l03Is b_0 = true := (by rw [← eq_ValidBody]; assumption); have qa := OkIx.at (okA_is b_0 hv) h0 hi; have qb := OkIx.at (okB_is b_0 hv) h0 hi; omega))) (show b_0.Springs.length ≤ 1073741824 from (by first | assumption | omega | (have hi : x_l0 < (b_0.Springs.length : Int) := of_decide_eq_true (by assumption); have h0 : 0 ≤ x_l0 := (by assumption); have hv : v_spec_l03Is b_0 = true := (by rw [← eq_ValidBody]; assumption); have qa := OkIx.at (okA_is b_0 hv) h0 hi; have qb := OkIx.at (okB_is b_0 hv) h0 hi; omega))) (show b_0.Weights.length ≤ 1073741824 from (by first | assumption | omega | (have hi : x_l0 < (b_0.Springs.length : Int) := of_decide_eq_true (by assumption); have h0 : 0 ≤ x_l0 := (by assumption); have hv : v_spec_l03Is b_0 = true := (by rw [← eq_ValidBody]; assumption); have qa := OkIx.at (okA_is b_0 hv) h0 hi; have qb := OkIx.at (okB_is b_0 hv) h0 hi; omega))) (show 0 ≤ (b_0.Springs.getD x_l0.toNat default).A from (by first | assumption | omega | (have hi : x_l0 < (b_0.Springs.length : Int) := of_decide_eq_true (by assumption); have h0 : 0 ≤ x_l0 := (by assumption); have hv : v_spec_l03Is b_0 = true := (by rw [← eq_ValidBody]; assumption); have qa := OkIx.at (okA_is b_0 hv) h0 hi; have qb := OkIx.at (okB_is b_0 hv) h0 hi; omega))) (show (b_0.Springs.getD x_l0.toNat default).A < (b_0.Mesh.Places.length : Int) from (by first | assumption | omega | (have hi : x_l0 < (b_0.Springs.length : Int) := of_decide_eq_true (by assumption); have h0 : 0 ≤ x_l0 := (by assumption); have hv : v_spec_l03Is b_0 = true := (by rw [← eq_ValidBody]; assumption); have qa := OkIx.at (okA_is b_0 hv) h0 hi; have qb := OkIx.at (okB_is b_0 hv) h0 hi; omega))) (show 0 ≤ (b_0.Springs.getD x_l0.toNat default).B from (by first | assumption | omega | (have hi : x_l0 < (b_0.Springs.length : Int) := of_decide_eq_true (by assumption); have h0 : 0 ≤ x_l0 := (by assumption); have hv : v_spec_l03Is b_0 = true := (by rw [← eq_ValidBody]; assumption); have qa := OkIx.at (okA_is b_0 hv) h0 hi; have qb := OkIx.at (okB_is b_0 hv) h0 hi; omega))) (show (b_0.Springs.getD x_l0.toNat default).B < (b_0.Mesh.Places.length : Int) from (by first | assumption | omega | (have hi : x_l0 < (b_0.Springs.length : Int) := of_decide_eq_true (by assumption); have h0 : 0 ≤ x_l0 := (by assumption); have hv : v_spec_l03Is b_0 = true := (by rw [← eq_ValidBody]; assumption); have qa := OkIx.at (okA_is b_0 hv) h0 hi; have qb := OkIx.at (okB_is b_0 hv) h0 hi; omega)))), (t_impl_LongOf (v_impl_alongSpring b_0 (b_0.Springs.getD x_l0.toNat default))), (by have q : r1_l1.length + ([(fop .quo .f32 (v_impl_LongOf (v_impl_alongSpring b_0 (b_0.Springs.getD x_l0.toNat default))) ((b_0.Springs.getD x_l0.toNat default).Long))]).length ≤ 1073741824 := (by first | assumption | omega | (simp_all <;> omega)); simpa using q), (wrap_id (by first | assumption | omega | (simp_all <;> omega)) (by first | assumption | omega | (simp_all <;> omega))), trivial⟩
    (by simp [cF]) (ih (x_l0 + 1) (r1_l1 ++ [(fop .quo .f32 (v_impl_LongOf (v_impl_alongSpring b_0 (b_0.Springs.getD x_l0.toNat default))) ((b_0.Springs.getD x_l0.toNat default).Long))]) (show 0 ≤ (x_l0 + 1) from (by first | assumption | omega | (simp_all <;> omega))) (show ((r1_l1 ++ [(fop .quo .f32 (v_impl_LongOf (v_impl_alongSpring b_0 (b_0.Springs.getD x_l0.toNat default))) ((b_0.Springs.getD x_l0.toNat default).Long))]).length : Int) = (x_l0 + 1) from (by first | assumption | omega | (simp_all <;> omega))) (by first | assumption | omega | (simp_all <;> omega)))
  | false =>
   have e : lo_impl_StretchesOf_1 b_0 (k + 1) x_l0 r1_l1 = r1_l1 := by simp only [lo_impl_StretchesOf_1, h_0, cond_false]
   rw [e]
   exact stepK_out (E := E0) E0Ok hMixed (e := (.exit 0)) (body := (sub (bodyOf f34) [1, 1, 1, 0, 1, 0, 0])) (st := ⟨[.agg [.sl (b_0.Mesh.Places.map GVector.cells), .sl (b_0.Mesh.Triangles.map (cL (cI .i64))), .sl (b_0.Springs.map GSpring.cells), .f .f32 b_0.Film, .f .f32 b_0.Bend, .sl (b_0.Weights.map (cF .f32)), .f .f32 b_0.Fall.X, .f .f32 b_0.Fall.Y, .f .f32 b_0.Fall.Z], .ptr 0 0 0, .nils, .b false, .own 1, .any, .any, .agg [.sl (b_0.Mesh.Places.map GVector.cells), .sl (b_0.Mesh.Triangles.map (cL (cI .i64))), .sl (b_0.Springs.map GSpring.cells), .f .f32 b_0.Film, .f .f32 b_0.Bend, .sl (b_0.Weights.map (cF .f32)), .f .f32 b_0.Fall.X, .f .f32 b_0.Fall.Y, .f .f32 b_0.Fall.Z], .b (v_impl_ValidBody b_0), .b (!(v_impl_ValidBody b_0)), .any, .ptr 0 0 2, .sl (b_0.Springs.map GSpring.cells), .i .i64 (b_0.Springs.length : Int), .i .i64 x_l0, .any, .any, .any, .any, .any, .any, .any, .any, .any, .any, .any, .any, .any, .any, .any], [.box 59 [.sl (b_0.Mesh.Places.map GVector.cells), .sl (b_0.Mesh.Triangles.map (cL (cI .i64))), .sl (b_0.Springs.map GSpring.cells), .f .f32 b_0.Film, .f .f32 b_0.Bend, .sl (b_0.Weights.map (cF .f32)), .f .f32 b_0.Fall.X, .f .f32 b_0.Fall.Y, .f .f32 b_0.Fall.Z], .vec 29 1 (r1_l1.map (cF .f32)) false]⟩)
    (st2 := ⟨[.agg [.sl (b_0.Mesh.Places.map GVector.cells), .sl (b_0.Mesh.Triangles.map (cL (cI .i64))), .sl (b_0.Springs.map GSpring.cells), .f .f32 b_0.Film, .f .f32 b_0.Bend, .sl (b_0.Weights.map (cF .f32)), .f .f32 b_0.Fall.X, .f .f32 b_0.Fall.Y, .f .f32 b_0.Fall.Z], .ptr 0 0 0, .nils, .b false, .own 1, .any, .any, .agg [.sl (b_0.Mesh.Places.map GVector.cells), .sl (b_0.Mesh.Triangles.map (cL (cI .i64))), .sl (b_0.Springs.map GSpring.cells), .f .f32 b_0.Film, .f .f32 b_0.Bend, .sl (b_0.Weights.map (cF .f32)), .f .f32 b_0.Fall.X, .f .f32 b_0.Fall.Y, .f .f32 b_0.Fall.Z], .b (v_impl_ValidBody b_0), .b (!(v_impl_ValidBody b_0)), .any, .ptr 0 0 2, .sl (b_0.Springs.map GSpring.cells), .any, .any, .any, .any, .any, .any, .any, .any, .any, .any, .any, .any, .any, .any, .any, .any, .any], [.box 59 [.sl (b_0.Mesh.Places.map GVector.cells), .sl (b_0.Mesh.Triangles.map (cL (cI .i64))), .sl (b_0.Springs.map GSpring.cells), .f .f32 b_0.Film, .f .f32 b_0.Bend, .sl (b_0.Weights.map (cF .f32)), .f .f32 b_0.Fall.X, .f .f32 b_0.Fall.Y, .f .f32 b_0.Fall.Z], .vec 29 1 (r1_l1.map (cF .f32)) false]⟩)
    (ans := [.bo false])
    (ps := []) (mask := [true, true, true, true, true, false, false, true, true, true, false, true, true, false, false, false, false, false, false, false, false, false, false, false, false, false, false, false, false, false]) (ks := [0, 1])
    (C := [(decide (x_l0 < (b_0.Springs.length : Int))) = false])
    (by kernel_rfl)
    ⟨h_0, trivial⟩
    (by intro h; cases h) rfl

def lr_impl_StretchesOf_1_0 (b_0 : GBody) : (List Nat) := (lo_impl_StretchesOf_1 b_0 (((b_0.Springs.length : Int) - 0).toNat + 1) 0 ([] : List Nat))

def v_impl_StretchesOf (b_0 : GBody) : (List Nat) × Bool := (cond (v_impl_ValidBody b_0)
  ((lr_impl_StretchesOf_1_0 b_0), true)
  (([] : List Nat), false))

theorem le_impl_StretchesOf (b : GBody) : (v_impl_StretchesOf b).1.length ≤ b.Springs.length := by
  unfold v_impl_StretchesOf lr_impl_StretchesOf_1_0
  rw [app_loop (n := (b.Springs.length : Int)) (lo := lo_impl_StretchesOf_1 b) (fun k i r => rfl) _ _ _ (Nat.lt_succ_self _)]
  cases v_impl_ValidBody b <;> simp

theorem t_impl_StretchesOf (b_0 : GBody) (hp0 : b_0.Mesh.Places.length ≤ 1073741824) (hp1 : b_0.Mesh.Triangles.length ≤ 1073741824) (hp2 : ∀ t ∈ b_0.Mesh.Triangles, t.length ≤ 1073741824) (hp3 : b_0.Springs.length ≤ 1073741824) (hp4 : b_0.Weights.length ≤ 1073741824)  : Fn prog 34 [.agg [.sl (b_0.Mesh.Places.map GVector.cells), .sl (b_0.Mesh.Triangles.map (cL (cI .i64))), .sl (b_0.Springs.map GSpring.cells), .f .f32 b_0.Film, .f .f32 b_0.Bend, .sl (b_0.Weights.map (cF .f32)), .f .f32 b_0.Fall.X, .f .f32 b_0.Fall.Y, .f .f32 b_0.Fall.Z]] (.tup [.own 0, .b ((v_impl_StretchesOf b_0).2)]) [.vec 29 1 (((v_impl_StretchesOf b_0).1).map (cF .f32)) false] := by
 cases h0 : (v_impl_ValidBody b_0) with
 | true =>
  exact Fn.cast (CallSt.fn (callSt_of_evK (E := E0) E0Ok hMixed (c := bodyOf f34) (rows := []) (r := .tup [.own 0, .b true]) (rows' := [.vec 29 1 ((lr_impl_StretchesOf_1_0 b_0).map (cF .f32)) false])
   (ans := [.call (.b (v_impl_ValidBody b_0)) [], .bo false, .num (b_0.Springs.length : Int), .loop [true, true, true, true, true, false, false, true, true, true, false, true, true, true, true, false, false, false, false, false, false, false, false, false, false, false, false, false, false, false] 2 (.exit 0) ⟨[.agg [.sl (b_0.Mesh.Places.map GVector.cells), .sl (b_0.Mesh.Triangles.map (cL (cI .i64))), .sl (b_0.Springs.map GSpring.cells), .f .f32 b_0.Film, .f .f32 b_0.Bend, .sl (b_0.Weights.map (cF .f32)), .f .f32 b_0.Fall.X, .f .f32 b_0.Fall.Y, .f .f32 b_0.Fall.Z], .ptr 0 0 0, .nils, .b false, .own 1, .any, .any, .agg [.sl (b_0.Mesh.Places.map GVector.cells), .sl (b_0.Mesh.Triangles.map (cL (cI .i64))), .sl (b_0.Springs.map GSpring.cells), .f .f32 b_0.Film, .f .f32 b_0.Bend, .sl (b_0.Weights.map (cF .f32)), .f .f32 b_0.Fall.X, .f .f32 b_0.Fall.Y, .f .f32 b_0.Fall.Z], .b (v_impl_ValidBody b_0), .b (!(v_impl_ValidBody b_0)), .any, .ptr 0 0 2, .sl (b_0.Springs.map GSpring.cells), .any, .any, .any, .any, .any, .any, .any, .any, .any, .any, .any, .any, .any, .any, .any, .any, .any], [.box 59 [.sl (b_0.Mesh.Places.map GVector.cells), .sl (b_0.Mesh.Triangles.map (cL (cI .i64))), .sl (b_0.Springs.map GSpring.cells), .f .f32 b_0.Film, .f .f32 b_0.Bend, .sl (b_0.Weights.map (cF .f32)), .f .f32 b_0.Fall.X, .f .f32 b_0.Fall.Y, .f .f32 b_0.Fall.Z], .vec 29 1 ((lr_impl_StretchesOf_1_0 b_0).map (cF .f32)) false]⟩, .keep [1]])
   (ps := [])
   (C := [Fn prog 103 [.agg [.sl (b_0.Mesh.Places.map GVector.cells), .sl (b_0.Mesh.Triangles.map (cL (cI .i64))), .sl (b_0.Springs.map GSpring.cells), .f .f32 b_0.Film, .f .f32 b_0.Bend, .sl (b_0.Weights.map (cF .f32)), .f .f32 b_0.Fall.X, .f .f32 b_0.Fall.Y, .f .f32 b_0.Fall.Z]] (.b (v_impl_ValidBody b_0)) [],
    (!(v_impl_ValidBody b_0)) = false,
    (((b_0.Springs.map GSpring.cells).length : Nat) : Int) = (b_0.Springs.length : Int),
    Lp prog 0 (sub (bodyOf f34) [1, 1, 1, 0, 1, 0, 0]) ⟨[.agg [.sl (b_0.Mesh.Places.map GVector.cells), .sl (b_0.Mesh.Triangles.map (cL (cI .i64))), .sl (b_0.Springs.map GSpring.cells), .f .f32 b_0.Film, .f .f32 b_0.Bend, .sl (b_0.Weights.map (cF .f32)), .f .f32 b_0.Fall.X, .f .f32 b_0.Fall.Y, .f .f32 b_0.Fall.Z], .ptr 0 0 0, .nils, .b false, .own 1, .any, .any, .agg [.sl (b_0.Mesh.Places.map GVector.cells), .sl (b_0.Mesh.Triangles.map (cL (cI .i64))), .sl (b_0.Springs.map GSpring.cells), .f .f32 b_0.Film, .f .f32 b_0.Bend, .sl (b_0.Weights.map (cF .f32)), .f .f32 b_0.Fall.X, .f .f32 b_0.Fall.Y, .f .f32 b_0.Fall.Z], .b (v_impl_ValidBody b_0), .b (!(v_impl_ValidBody b_0)), .any, .ptr 0 0 2, .sl (b_0.Springs.map GSpring.cells), .i .i64 (b_0.Springs.length : Int), .i .i64 0, .any, .any, .any, .any, .any, .any, .any, .any, .any, .any, .any, .any, .any, .any, .any], [.box 59 [.sl (b_0.Mesh.Places.map GVector.cells), .sl (b_0.Mesh.Triangles.map (cL (cI .i64))), .sl (b_0.Springs.map GSpring.cells), .f .f32 b_0.Film, .f .f32 b_0.Bend, .sl (b_0.Weights.map (cF .f32)), .f .f32 b_0.Fall.X, .f .f32 b_0.Fall.Y, .f .f32 b_0.Fall.Z], .vec 29 1 ([] : List (List AV)) false]⟩ (.exit 0) ⟨[.agg [.sl (b_0.Mesh.Places.map GVector.cells), .sl (b_0.Mesh.Triangles.map (cL (cI .i64))), .sl (b_0.Springs.map GSpring.cells), .f .f32 b_0.Film, .f .f32 b_0.Bend, .sl (b_0.Weights.map (cF .f32)), .f .f32 b_0.Fall.X, .f .f32 b_0.Fall.Y, .f .f32 b_0.Fall.Z], .ptr 0 0 0, .nils, .b false, .own 1, .any, .any, .agg [.sl (b_0.Mesh.Places.map GVector.cells), .sl (b_0.Mesh.Triangles.map (cL (cI .i64))), .sl (b_0.Springs.map GSpring.cells), .f .f32 b_0.Film, .f .f32 b_0.Bend, .sl (b_0.Weights.map (cF .f32)), .f .f32 b_0.Fall.X, .f .f32 b_0.Fall.Y, .f .f32 b_0.Fall.Z], .b (v_impl_ValidBody b_0), .b (!(v_impl_ValidBody b_0)), .any, .ptr 0 0 2, .sl (b_0.Springs.map GSpring.cells), .any, .any, .any, .any, .any, .any, .any, .any, .any, .any, .any, .any, .any, .any, .any, .any, .any], [.box 59 [.sl (b_0.Mesh.Places.map GVector.cells), .sl (b_0.Mesh.Triangles.map (cL (cI .i64))), .sl (b_0.Springs.map GSpring.cells), .f .f32 b_0.Film, .f .f32 b_0.Bend, .sl (b_0.Weights.map (cF .f32)), .f .f32 b_0.Fall.X, .f .f32 b_0.Fall.Y, .f .f32 b_0.Fall.Z], .vec 29 1 ((lr_impl_StretchesOf_1_0 b_0).map (cF .f32)) false]⟩])
   func34 rfl (by kernel_rfl) (by kernel_rfl)
   ⟨(t_impl_ValidBody b_0 (show b_0.Mesh.Places.length ≤ 1073741824 from (by first | assumption | omega | (have hi : x_l0 < (b_0.Springs.length : Int) := of_decide_eq_true (by assumption); have h0 : 0 ≤ x_l0 := (by assumption); have hv : v_spec_l03Is b_0 = true := (by rw [← eq_ValidBody]; assumption); have qa := OkIx.at (okA_is b_0 hv) h0 hi; have qb := OkIx.at (okB_is b_0 hv) h0 hi; omega))) (show b_0.Mesh.Triangles.length ≤ 1073741824 from (by first | assumption | omega | (have hi : x_l0 < (b_0.Springs.length : Int) := of_decide_eq_true (by assumption); have h0 : 0 ≤ x_l0 := (by assumption); have hv : v_spec_l03Is b_0 = true := (by rw [← eq_ValidBody]; assumption); have qa := OkIx.at (okA_is b_0 hv) h0 hi; have qb := OkIx.at (okB_is b_0 hv) h0 hi; omega))) (show ∀ t ∈ b_0.Mesh.Triangles, t.length ≤ 1073741824 from (by first | assumption | omega | (have hi : x_l0 < (b_0.Springs.length : Int) := of_decide_eq_true (by assumption); have h0 : 0 ≤ x_l0 := (by assumption); have hv : v_spec_l03Is b_0 = true := (by rw [← eq_ValidBody]; assumption); have qa := OkIx.at (okA_is b_0 hv) h0 hi; have qb := OkIx.at (okB_is b_0 hv) h0 hi; omega))) (show b_0.Springs.length ≤ 1073741824 from (by first | assumption | omega | (have hi : x_l0 < (b_0.Springs.length : Int) := of_decide_eq_true (by assumption); have h0 : 0 ≤ x_l0 := (by assumption); have hv : v_spec_l03Is b_0 = true := (by rw [← eq_ValidBody]; assumption); have qa := OkIx.at (okA_is b_0 hv) h0 hi; have qb := OkIx.at (okB_is b_0 hv) h0 hi; omega))) (show b_0.Weights.length ≤ 1073741824 from (by first | assumption | omega | (have hi : x_l0 < (b_0.Springs.length : Int) := of_decide_eq_true (by assumption); have h0 : 0 ≤ x_l0 := (by assumption); have hv : v_spec_l03Is b_0 = true := (by rw [← eq_ValidBody]; assumption); have qa := OkIx.at (okA_is b_0 hv) h0 hi; have qb := OkIx.at (okB_is b_0 hv) h0 hi; omega)))), (congrArg not h0), len_ok, (lp_cast (lp_impl_StretchesOf_1 b_0 hp0 hp1 hp2 hp3 hp4 h0 (((b_0.Springs.length : Int) - 0).toNat + 1) 0 ([] : List Nat) (show 0 ≤ 0 from (by first | (simp; done) | omega)) (show (([] : List Nat).length : Int) = 0 from (by first | (simp; done) | omega)) (Nat.lt_succ_self _)) (by simp [cF])), trivial⟩) rfl) (by simp only [v_impl_StretchesOf, h0, cond_true]) (by simp [v_impl_StretchesOf, h0])
 | false =>
  exact Fn.cast (CallSt.fn (callSt_of_evK (E := E0) E0Ok hMixed (c := bodyOf f34) (rows := []) (r := .tup [.own 0, .b false]) (rows' := [.vec 29 1 [] false])
   (ans := [.call (.b (v_impl_ValidBody b_0)) [], .bo true, .keep [1]])
   (ps := [(.tm 2, .vec 29 1 [] false)])
   (C := [Fn prog 103 [.agg [.sl (b_0.Mesh.Places.map GVector.cells), .sl (b_0.Mesh.Triangles.map (cL (cI .i64))), .sl (b_0.Springs.map GSpring.cells), .f .f32 b_0.Film, .f .f32 b_0.Bend, .sl (b_0.Weights.map (cF .f32)), .f .f32 b_0.Fall.X, .f .f32 b_0.Fall.Y, .f .f32 b_0.Fall.Z]] (.b (v_impl_ValidBody b_0)) [],
    (!(v_impl_ValidBody b_0)) = true])
   func34 rfl (by kernel_rfl) (by kernel_rfl)
   ⟨(t_impl_ValidBody b_0 (show b_0.Mesh.Places.length ≤ 1073741824 from (by first | assumption | omega | (have hi : x_l0 < (b_0.Springs.length : Int) := of_decide_eq_true (by assumption); have h0 : 0 ≤ x_l0 := (by assumption); have hv : v_spec_l03Is b_0 = true := (by rw [← eq_ValidBody]; assumption); have qa := OkIx.at (okA_is b_0 hv) h0 hi; have qb := OkIx.at (okB_is b_0 hv) h0 hi; omega))) (show b_0.Mesh.Triangles.length ≤ 1073741824 from (by first | assumption | omega | (have hi : x_l0 < (b_0.Springs.length : Int) := of_decide_eq_true (by assumption); have h0 : 0 ≤ x_l0 := (by assumption); have hv : v_spec_l03Is b_0 = true := (by rw [← eq_ValidBody]; assumption); have qa := OkIx.at (okA_is b_0 hv) h0 hi; have qb := OkIx.at (okB_is b_0 hv) h0 hi; omega))) (show ∀ t ∈ b_0.Mesh.Triangles, t.length ≤ 1073741824 from (by first | assumption | omega | (have hi : x_l0 < (b_0.Springs.length : Int) := of_decide_eq_true (by assumption); have h0 : 0 ≤ x_l0 := (by assumption); have hv : v_spec_l03Is b_0 = true := (by rw [← eq_ValidBody]; assumption); have qa := OkIx.at (okA_is b_0 hv) h0 hi; have qb := OkIx.at (okB_is b_0 hv) h0 hi; omega))) (show b_0.Springs.length ≤ 1073741824 from (by first | assumption | omega | (have hi : x_l0 < (b_0.Springs.length : Int) := of_decide_eq_true (by assumption); have h0 : 0 ≤ x_l0 := (by assumption); have hv : v_spec_l03Is b_0 = true := (by rw [← eq_ValidBody]; assumption); have qa := OkIx.at (okA_is b_0 hv) h0 hi; have qb := OkIx.at (okB_is b_0 hv) h0 hi; omega))) (show b_0.Weights.length ≤ 1073741824 from (by first | assumption | omega | (have hi : x_l0 < (b_0.Springs.length : Int) := of_decide_eq_true (by assumption); have h0 : 0 ≤ x_l0 := (by assumption); have hv : v_spec_l03Is b_0 = true := (by rw [← eq_ValidBody]; assumption); have qa := OkIx.at (okA_is b_0 hv) h0 hi; have qb := OkIx.at (okB_is b_0 hv) h0 hi; omega)))), (congrArg not h0), trivial⟩) rfl) (by simp only [v_impl_StretchesOf, h0, cond_false]) (by simp [v_impl_StretchesOf, h0, cF])

end Go.Ab
