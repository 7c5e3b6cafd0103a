/- The functions of this seat as plain Lean, and that the program's are these. Printed by a program of the prover's own. -/
import Derived.Test.YtconncpnjlgelaaB2
set_option linter.unusedVariables false
set_option maxRecDepth 100000
namespace Go.Ab
open Go.RowKit

def lr_impl_ValidMesh_1_1 (m_0 : GMesh) : (Unit) ⊕ (Unit) := (lo_impl_ValidMesh_1 m_0 (((m_0.Triangles.length : Int) - 0).toNat + 1) 0)

/-- impl.ValidMesh -/
def v_impl_ValidMesh (m_0 : GMesh) : Bool := (cond (decide ((m_0.Places.length : Int) > 64))
  false
  (cond (decide ((m_0.Triangles.length : Int) > 128))
    false
    (match (lr_impl_ValidMesh_1_1 m_0) with
      | .inl r3 => false
      | .inr r3 => true)))

theorem t_impl_ValidMesh (m_0 : GMesh) (hp0 : m_0.Places.length ≤ 1073741824) (hp1 : m_0.Triangles.length ≤ 1073741824) (hp2 : ∀ t ∈ m_0.Triangles, t.length ≤ 1073741824)  : Fn Go.Proofs.Try.prog 74 [.agg [.sl (m_0.Places.map GVector.cells), .sl (m_0.Triangles.map (cL (cI .i64)))]] (.b (v_impl_ValidMesh m_0)) [] := by
  cases h0 : (decide ((m_0.Places.length : Int) > 64)) with
  | true =>
    exact Fn.cast (CallSt.fn (callSt_of_evK (E := E0) E0Ok hMixed (c := bodyOf Go.Proofs.Try.f74) (rows := []) (r := .b false) (rows' := [])
      (ans := [.num (m_0.Places.length : Int), .bo true, .bo true, .bo true, .bo true, .bo true, .bo true, .keep []])
      (ps := [])
      (C := [(((m_0.Places.map GVector.cells).length : Nat) : Int) = (m_0.Places.length : Int),
        (decide ((m_0.Places.length : Int) > 64)) = true,
        (decide ((m_0.Places.length : Int) > 64)) = true,
        (decide ((m_0.Places.length : Int) > 64)) = true,
        (decide ((m_0.Places.length : Int) > 64)) = true,
        (decide ((m_0.Places.length : Int) > 64)) = true,
        true = true])
      Go.Proofs.Try.func74 rfl (by kernel_rfl) (by kernel_rfl)
      ⟨len_ok, h0, h0, h0, h0, h0, rfl, trivial⟩) rfl) (by simp only [v_impl_ValidMesh, h0, cond_true]) rfl
  | false =>
    cases h1 : (decide ((m_0.Triangles.length : Int) > 128)) with
    | true =>
      exact Fn.cast (CallSt.fn (callSt_of_evK (E := E0) E0Ok hMixed (c := bodyOf Go.Proofs.Try.f74) (rows := []) (r := .b false) (rows' := [])
        (ans := [.num (m_0.Places.length : Int), .bo false, .bo false, .bo false, .num (m_0.Triangles.length : Int), .bo false, .bo false, .bo true, .keep []])
        (ps := [])
        (C := [(((m_0.Places.map GVector.cells).length : Nat) : Int) = (m_0.Places.length : Int),
          (decide ((m_0.Places.length : Int) > 64)) = false,
          (decide ((m_0.Places.length : Int) > 64)) = false,
          (decide ((m_0.Places.length : Int) > 64)) = false,
          (((m_0.Triangles.map (cL (cI .i64))).length : Nat) : Int) = (m_0.Triangles.length : Int),
          (decide ((m_0.Places.length : Int) > 64)) = false,
          (decide ((m_0.Places.length : Int) > 64)) = false,
          (decide ((m_0.Triangles.length : Int) > 128)) = true])
        Go.Proofs.Try.func74 rfl (by kernel_rfl) (by kernel_rfl)
        ⟨len_ok, h0, h0, h0, len_ok, h0, h0, h1, trivial⟩) rfl) (by simp only [v_impl_ValidMesh, h0, h1, cond_true, cond_false]) rfl
    | false =>
      cases h2 : (lr_impl_ValidMesh_1_1 m_0) with
      | inl r3 =>
        exact Fn.cast (CallSt.fn (callSt_of_evK (E := E0) E0Ok hMixed (c := bodyOf Go.Proofs.Try.f74) (rows := []) (r := .b false) (rows' := [])
          (ans := [.num (m_0.Places.length : Int), .bo false, .bo false, .bo false, .num (m_0.Triangles.length : Int), .bo false, .bo false, .bo false, .num (m_0.Triangles.length : Int), .loop [true, true, false, true, false, false, false, false, true, true, true, true, true, true, true, true, true, true, true, true, true, true, true, false, false, false, false, false, false, false, false, false, false, false, false, false, false, false, false, false, false, false, false, false, false, false, false, false, false, false, false, false, false, false, false, false, false, false, false, false, false, false, false, false, false, false, false, false, false] 1 .ret ⟨[.any, .any, .b false, .any, .any, .any, .any, .any, .any, .any, .any, .any, .any, .any, .any, .any, .any, .any, .any, .any, .any, .any, .any, .any, .any, .any, .any, .any, .any, .any, .any, .any, .any, .any, .any, .any, .any, .any, .any, .any, .any, .any, .any, .any, .any, .any, .any, .any, .any, .any, .any, .any, .any, .any, .any, .any, .any, .any, .any, .any, .any, .any, .any, .any, .any, .any, .any, .any, .any], []⟩, .keep []])
          (ps := [])
          (C := [(((m_0.Places.map GVector.cells).length : Nat) : Int) = (m_0.Places.length : Int),
            (decide ((m_0.Places.length : Int) > 64)) = false,
            (decide ((m_0.Places.length : Int) > 64)) = false,
            (decide ((m_0.Places.length : Int) > 64)) = false,
            (((m_0.Triangles.map (cL (cI .i64))).length : Nat) : Int) = (m_0.Triangles.length : Int),
            (decide ((m_0.Places.length : Int) > 64)) = false,
            (decide ((m_0.Places.length : Int) > 64)) = false,
            (decide ((m_0.Triangles.length : Int) > 128)) = false,
            (((m_0.Triangles.map (cL (cI .i64))).length : Nat) : Int) = (m_0.Triangles.length : Int),
            Lp Go.Proofs.Try.prog 0 (sub (bodyOf Go.Proofs.Try.f74) [1, 1, 1, 0, 1, 0, 0]) ⟨[.agg [.sl (m_0.Places.map GVector.cells), .sl (m_0.Triangles.map (cL (cI .i64)))], .ptr 0 0 0, .any, .i .i64 (m_0.Places.length : Int), .any, .any, .any, .any, .ptr 0 0 0, .sl (m_0.Places.map GVector.cells), .i .i64 (m_0.Places.length : Int), .i .i64 (m_0.Places.length : Int), .b (decide ((m_0.Places.length : Int) > 64)), .b (decide ((m_0.Places.length : Int) > 64)), .ptr 0 0 1, .sl (m_0.Triangles.map (cL (cI .i64))), .i .i64 (m_0.Triangles.length : Int), .b (decide ((m_0.Triangles.length : Int) > 128)), .b (decide ((m_0.Triangles.length : Int) > 128)), .ptr 0 0 1, .sl (m_0.Triangles.map (cL (cI .i64))), .i .i64 (m_0.Triangles.length : Int), .i .i64 0, .any, .any, .any, .any, .any, .any, .any, .any, .any, .any, .any, .any, .any, .any, .any, .any, .any, .any, .any, .any, .any, .any, .any, .any, .any, .any, .any, .any, .any, .any, .any, .any, .any, .any, .any, .any, .any, .any, .any, .any, .any, .any, .any, .any, .any, .any], [.box 36 [.sl (m_0.Places.map GVector.cells), .sl (m_0.Triangles.map (cL (cI .i64)))]]⟩ .ret ⟨[.any, .any, .b false, .any, .any, .any, .any, .any, .any, .any, .any, .any, .any, .any, .any, .any, .any, .any, .any, .any, .any, .any, .any, .any, .any, .any, .any, .any, .any, .any, .any, .any, .any, .any, .any, .any, .any, .any, .any, .any, .any, .any, .any, .any, .any, .any, .any, .any, .any, .any, .any, .any, .any, .any, .any, .any, .any, .any, .any, .any, .any, .any, .any, .any, .any, .any, .any, .any, .any], []⟩])
          Go.Proofs.Try.func74 rfl (by kernel_rfl) (by kernel_rfl)
          ⟨len_ok, h0, h0, h0, len_ok, h0, h0, h1, len_ok, (by have q := (lp_impl_ValidMesh_1 m_0 hp0 hp1 hp2 h0 h1 (((m_0.Triangles.length : Int) - 0).toNat + 1) 0 (show 0 ≤ 0 from (by first | assumption | omega | (simp at * <;> omega) | (simp_all <;> omega))) (Nat.lt_succ_self _)); rw [show (lo_impl_ValidMesh_1 m_0 (((m_0.Triangles.length : Int) - 0).toNat + 1) 0) = _ from rfl] at q; rw [show (lo_impl_ValidMesh_1 m_0 (((m_0.Triangles.length : Int) - 0).toNat + 1) 0) = (lr_impl_ValidMesh_1_1 m_0) from rfl, h2] at q; exact q), trivial⟩) rfl) (by simp only [v_impl_ValidMesh, h0, h1, h2, cond_false]) rfl
      | inr r3 =>
        exact Fn.cast (CallSt.fn (callSt_of_evK (E := E0) E0Ok hMixed (c := bodyOf Go.Proofs.Try.f74) (rows := []) (r := .b true) (rows' := [])
          (ans := [.num (m_0.Places.length : Int), .bo false, .bo false, .bo false, .num (m_0.Triangles.length : Int), .bo false, .bo false, .bo false, .num (m_0.Triangles.length : Int), .loop [true, true, false, true, false, false, false, false, true, true, true, true, true, true, true, true, true, true, true, true, true, true, true, false, false, false, false, false, false, false, false, false, false, false, false, false, false, false, false, false, false, false, false, false, false, false, false, false, false, false, false, false, false, false, false, false, false, false, false, false, false, false, false, false, false, false, false, false, false] 1 (.exit 0) ⟨[.agg [.sl (m_0.Places.map GVector.cells), .sl (m_0.Triangles.map (cL (cI .i64)))], .ptr 0 0 0, .any, .i .i64 (m_0.Places.length : Int), .any, .any, .any, .any, .ptr 0 0 0, .sl (m_0.Places.map GVector.cells), .i .i64 (m_0.Places.length : Int), .i .i64 (m_0.Places.length : Int), .b (decide ((m_0.Places.length : Int) > 64)), .b (decide ((m_0.Places.length : Int) > 64)), .ptr 0 0 1, .sl (m_0.Triangles.map (cL (cI .i64))), .i .i64 (m_0.Triangles.length : Int), .b (decide ((m_0.Triangles.length : Int) > 128)), .b (decide ((m_0.Triangles.length : Int) > 128)), .ptr 0 0 1, .sl (m_0.Triangles.map (cL (cI .i64))), .any, .any, .any, .any, .any, .any, .any, .any, .any, .any, .any, .any, .any, .any, .any, .any, .any, .any, .any, .any, .any, .any, .any, .any, .any, .any, .any, .any, .any, .any, .any, .any, .any, .any, .any, .any, .any, .any, .any, .any, .any, .any, .any, .any, .any, .any, .any, .any], [.box 36 [.sl (m_0.Places.map GVector.cells), .sl (m_0.Triangles.map (cL (cI .i64)))]]⟩, .keep []])
          (ps := [])
          (C := [(((m_0.Places.map GVector.cells).length : Nat) : Int) = (m_0.Places.length : Int),
            (decide ((m_0.Places.length : Int) > 64)) = false,
            (decide ((m_0.Places.length : Int) > 64)) = false,
            (decide ((m_0.Places.length : Int) > 64)) = false,
            (((m_0.Triangles.map (cL (cI .i64))).length : Nat) : Int) = (m_0.Triangles.length : Int),
            (decide ((m_0.Places.length : Int) > 64)) = false,
            (decide ((m_0.Places.length : Int) > 64)) = false,
            (decide ((m_0.Triangles.length : Int) > 128)) = false,
            (((m_0.Triangles.map (cL (cI .i64))).length : Nat) : Int) = (m_0.Triangles.length : Int),
            Lp Go.Proofs.Try.prog 0 (sub (bodyOf Go.Proofs.Try.f74) [1, 1, 1, 0, 1, 0, 0]) ⟨[.agg [.sl (m_0.Places.map GVector.cells), .sl (m_0.Triangles.map (cL (cI .i64)))], .ptr 0 0 0, .any, .i .i64 (m_0.Places.length : Int), .any, .any, .any, .any, .ptr 0 0 0, .sl (m_0.Places.map GVector.cells), .i .i64 (m_0.Places.length : Int), .i .i64 (m_0.Places.length : Int), .b (decide ((m_0.Places.length : Int) > 64)), .b (decide ((m_0.Places.length : Int) > 64)), .ptr 0 0 1, .sl (m_0.Triangles.map (cL (cI .i64))), .i .i64 (m_0.Triangles.length : Int), .b (decide ((m_0.Triangles.length : Int) > 128)), .b (decide ((m_0.Triangles.length : Int) > 128)), .ptr 0 0 1, .sl (m_0.Triangles.map (cL (cI .i64))), .i .i64 (m_0.Triangles.length : Int), .i .i64 0, .any, .any, .any, .any, .any, .any, .any, .any, .any, .any, .any, .any, .any, .any, .any, .any, .any, .any, .any, .any, .any, .any, .any, .any, .any, .any, .any, .any, .any, .any, .any, .any, .any, .any, .any, .any, .any, .any, .any, .any, .any, .any, .any, .any, .any, .any], [.box 36 [.sl (m_0.Places.map GVector.cells), .sl (m_0.Triangles.map (cL (cI .i64)))]]⟩ (.exit 0) ⟨[.agg [.sl (m_0.Places.map GVector.cells), .sl (m_0.Triangles.map (cL (cI .i64)))], .ptr 0 0 0, .any, .i .i64 (m_0.Places.length : Int), .any, .any, .any, .any, .ptr 0 0 0, .sl (m_0.Places.map GVector.cells), .i .i64 (m_0.Places.length : Int), .i .i64 (m_0.Places.length : Int), .b (decide ((m_0.Places.length : Int) > 64)), .b (decide ((m_0.Places.length : Int) > 64)), .ptr 0 0 1, .sl (m_0.Triangles.map (cL (cI .i64))), .i .i64 (m_0.Triangles.length : Int), .b (decide ((m_0.Triangles.length : Int) > 128)), .b (decide ((m_0.Triangles.length : Int) > 128)), .ptr 0 0 1, .sl (m_0.Triangles.map (cL (cI .i64))), .any, .any, .any, .any, .any, .any, .any, .any, .any, .any, .any, .any, .any, .any, .any, .any, .any, .any, .any, .any, .any, .any, .any, .any, .any, .any, .any, .any, .any, .any, .any, .any, .any, .any, .any, .any, .any, .any, .any, .any, .any, .any, .any, .any, .any, .any, .any, .any], [.box 36 [.sl (m_0.Places.map GVector.cells), .sl (m_0.Triangles.map (cL (cI .i64)))]]⟩])
          Go.Proofs.Try.func74 rfl (by kernel_rfl) (by kernel_rfl)
          ⟨len_ok, h0, h0, h0, len_ok, h0, h0, h1, len_ok, (by have q := (lp_impl_ValidMesh_1 m_0 hp0 hp1 hp2 h0 h1 (((m_0.Triangles.length : Int) - 0).toNat + 1) 0 (show 0 ≤ 0 from (by first | assumption | omega | (simp at * <;> omega) | (simp_all <;> omega))) (Nat.lt_succ_self _)); rw [show (lo_impl_ValidMesh_1 m_0 (((m_0.Triangles.length : Int) - 0).toNat + 1) 0) = _ from rfl] at q; rw [show (lo_impl_ValidMesh_1 m_0 (((m_0.Triangles.length : Int) - 0).toNat + 1) 0) = (lr_impl_ValidMesh_1_1 m_0) from rfl, h2] at q; exact q), trivial⟩) rfl) (by simp only [v_impl_ValidMesh, h0, h1, h2, cond_false]) rfl

theorem triB (t : List Int) (n : Int) : (!((t.length : Int) != 3) && (!(t.getD 0 default == t.getD 1 default) && (!(t.getD 1 default == t.getD 2 default) && (!(t.getD 0 default == t.getD 2 default) && t.all fun x => v_impl_within x 0 (IntKind.wrap .i64 (n - 1)))))) = v_spec_l02Triangle t n := by
  unfold v_spec_l02Triangle
  cases hl : ((t.length : Int) != 3) with
  | true => rfl
  | false =>
    have hl3 : t.length = 3 := by simp at hl; omega
    match t, hl3 with
    | [a, b, c], _ =>
      simp only [List.getD_cons_zero, List.getD_cons_succ, List.all_cons, List.all_nil, Bool.and_true]
      rw [show v_impl_within = v_spec_l00In from rfl]
      cases (a == b) <;> cases (b == c) <;> cases (a == c) <;> cases v_spec_l00In a 0 (IntKind.wrap .i64 (n - 1)) <;> cases v_spec_l00In b 0 (IntKind.wrap .i64 (n - 1)) <;> cases v_spec_l00In c 0 (IntKind.wrap .i64 (n - 1)) <;> rfl
theorem lo_ValidMesh (m : GMesh) (k : Nat) (i : Int) : lo_impl_ValidMesh_1 m (k + 1) i = cond (decide (i < (m.Triangles.length : Int))) (cond (v_spec_l02Triangle (m.Triangles.getD i.toNat default) (m.Places.length : Int)) (lo_impl_ValidMesh_1 m k (i + 1)) (.inl ())) (.inr ()) := by
  rw [lo_impl_ValidMesh_1, ← triB]
  have hin : lr_impl_ValidMesh_2_0 m i = cond ((m.Triangles.getD i.toNat default).all fun x => v_impl_within x 0 (IntKind.wrap .i64 ((m.Places.length : Int) - 1))) (.inr ()) (.inl ()) := by
    unfold lr_impl_ValidMesh_2_0
    exact all_from (a := m.Triangles.getD i.toNat default) (p := fun x => v_impl_within x 0 (IntKind.wrap .i64 ((m.Places.length : Int) - 1))) (lo := lo_impl_ValidMesh_2 m i) (x := ()) (y := ()) (fun k i => rfl)
  rw [hin]
  generalize m.Triangles.getD i.toNat default = t
  generalize (t.all fun x => v_impl_within x 0 (IntKind.wrap .i64 ((m.Places.length : Int) - 1))) = q
  cases ((t.length : Int) != 3) <;> cases (t.getD 0 default == t.getD 1 default) <;> cases (t.getD 1 default == t.getD 2 default) <;> cases (t.getD 0 default == t.getD 2 default) <;> cases q <;> rfl
theorem eq_ValidMesh (m : GMesh) : v_impl_ValidMesh m = v_spec_l02Is m := by
  rw [l02Is_eq]
  unfold v_impl_ValidMesh lr_impl_ValidMesh_1_1
  rw [all_from (a := m.Triangles) (p := fun t => v_spec_l02Triangle t (m.Places.length : Int)) (lo := lo_impl_ValidMesh_1 m) (x := ()) (y := ()) (lo_ValidMesh m)]
  cases (m.Triangles.all fun t => v_spec_l02Triangle t (m.Places.length : Int)) <;> rfl

def lo_slices_Equal___int64_int64__1 (s1_0 : (List Int)) (s2_1 : (List Int)) : Nat → Int → (Unit) ⊕ (Unit)
  | 0, _ => .inl default
  | k + 1, x_l0 => (cond (decide (x_l0 < (s1_0.length : Int)))
    (cond ((s1_0.getD x_l0.toNat default) != (s2_1.getD x_l0.toNat default))
      (.inl ())
      (lo_slices_Equal___int64_int64__1 s1_0 s2_1 k (x_l0 + 1)))
    (.inr ()))

def ls_slices_Equal___int64_int64__1 (s1_0 : (List Int)) (s2_1 : (List Int)) : (Unit) ⊕ (Unit) → Ex × St
  | .inl r => (.ret, ⟨[.any, .any, .any, .any, .b false, .any, .any, .any, .any, .any, .any, .any, .any, .any, .any, .any, .any, .any, .any, .any, .any, .any, .any, .any, .any, .any], []⟩)
  | .inr r => ((.exit 0), ⟨[.sl (s1_0.map (cI .i64)), .sl (s2_1.map (cI .i64)), .any, .any, .any, .any, .sl (s1_0.map (cI .i64)), .i .i64 (s1_0.length : Int), .sl (s2_1.map (cI .i64)), .i .i64 (s2_1.length : Int), .b ((s1_0.length : Int) != (s2_1.length : Int)), .sl (s1_0.map (cI .i64)), .any, .any, .any, .any, .any, .any, .any, .any, .any, .any, .any, .any, .any, .any], []⟩)

theorem lp_slices_Equal___int64_int64__1 (s1_0 : (List Int)) (s2_1 : (List Int)) (hp0 : s1_0.length ≤ 1073741824) (hp1 : s2_1.length ≤ 1073741824) (hf_slices_Equal___int64_int64__1_0 : ((s1_0.length : Int) != (s2_1.length : Int)) = false) : ∀ (k : Nat) (x_l0 : Int) (hv_slices_Equal___int64_int64__1_0 : 0 ≤ x_l0) (hk : ((s1_0.length : Int) - x_l0).toNat < k), Lp Go.Proofs.Try.prog 0 (sub (bodyOf Go.Proofs.Try.f128) [1, 1, 0, 1, 0, 0]) ⟨[.sl (s1_0.map (cI .i64)), .sl (s2_1.map (cI .i64)), .any, .any, .any, .any, .sl (s1_0.map (cI .i64)), .i .i64 (s1_0.length : Int), .sl (s2_1.map (cI .i64)), .i .i64 (s2_1.length : Int), .b ((s1_0.length : Int) != (s2_1.length : Int)), .sl (s1_0.map (cI .i64)), .i .i64 (s1_0.length : Int), .i .i64 x_l0, .any, .any, .any, .any, .any, .any, .any, .any, .any, .any, .any, .any], []⟩ (ls_slices_Equal___int64_int64__1 s1_0 s2_1 (lo_slices_Equal___int64_int64__1 s1_0 s2_1 k x_l0)).1 (ls_slices_Equal___int64_int64__1 s1_0 s2_1 (lo_slices_Equal___int64_int64__1 s1_0 s2_1 k x_l0)).2 := by
  intro k
  induction k with
  | zero => intro x_l0 hv_slices_Equal___int64_int64__1_0 hk; exact absurd hk (Nat.not_lt_zero _)
  | succ k ih =>
    intro x_l0 hv_slices_Equal___int64_int64__1_0 hk
    cases h_0 : (decide (x_l0 < (s1_0.length : Int))) with
    | true =>
      cases h_1 : ((s1_0.getD x_l0.toNat default) != (s2_1.getD x_l0.toNat default)) with
      | true =>
        have e : lo_slices_Equal___int64_int64__1 s1_0 s2_1 (k + 1) x_l0 = (.inl ()) := by simp only [lo_slices_Equal___int64_int64__1, h_0, h_1, cond_true]
        rw [e]
        exact stepK_out (E := E0) E0Ok hMixed (e := .ret) (body := (sub (bodyOf Go.Proofs.Try.f128) [1, 1, 0, 1, 0, 0])) (st := ⟨[.sl (s1_0.map (cI .i64)), .sl (s2_1.map (cI .i64)), .any, .any, .any, .any, .sl (s1_0.map (cI .i64)), .i .i64 (s1_0.length : Int), .sl (s2_1.map (cI .i64)), .i .i64 (s2_1.length : Int), .b ((s1_0.length : Int) != (s2_1.length : Int)), .sl (s1_0.map (cI .i64)), .i .i64 (s1_0.length : Int), .i .i64 x_l0, .any, .any, .any, .any, .any, .any, .any, .any, .any, .any, .any, .any], []⟩)
          (st2 := ⟨[.any, .any, .any, .any, .b false, .any, .any, .any, .any, .any, .any, .any, .any, .any, .any, .any, .any, .any, .any, .any, .any, .any, .any, .any, .any, .any], []⟩)
          (ans := [.bo true, .keep [8, 8], .el [.i .i64 (s1_0.getD x_l0.toNat default)], .el [.i .i64 (s2_1.getD x_l0.toNat default)], .bo true])
          (ps := []) (mask := [false, false, false, false, true, false, false, false, false, false, false, false, false, false, false, false, false, false, false, false, false, false, false, false, false, false]) (ks := [])
          (C := [(decide (x_l0 < (s1_0.length : Int))) = true,
            0 ≤ x_l0 ∧ (s1_0.map (cI .i64))[Int.toNat x_l0]? = some [.i .i64 (s1_0.getD x_l0.toNat default)],
            0 ≤ x_l0 ∧ (s2_1.map (cI .i64))[Int.toNat x_l0]? = some [.i .i64 (s2_1.getD x_l0.toNat default)],
            ((s1_0.getD x_l0.toNat default) != (s2_1.getD x_l0.toNat default)) = true])
          (by kernel_rfl)
          ⟨h_0, (get_ok (by first | assumption | omega | (simp at * <;> omega) | (simp_all <;> omega)) (by first | assumption | omega | (simp at * <;> omega) | (simp_all <;> omega))), (get_ok (by first | assumption | omega | (simp at * <;> omega) | (simp_all <;> omega)) (by first | assumption | omega | (simp at * <;> omega) | (simp_all <;> omega))), h_1, trivial⟩
          (by intro h; cases h) rfl
      | false =>
        have e : lo_slices_Equal___int64_int64__1 s1_0 s2_1 (k + 1) x_l0 = (lo_slices_Equal___int64_int64__1 s1_0 s2_1 k (x_l0 + 1)) := by simp only [lo_slices_Equal___int64_int64__1, h_0, h_1, cond_true, cond_false]
        rw [e]
        exact stepK_next (E := E0) E0Ok hMixed (body := (sub (bodyOf Go.Proofs.Try.f128) [1, 1, 0, 1, 0, 0])) (st := ⟨[.sl (s1_0.map (cI .i64)), .sl (s2_1.map (cI .i64)), .any, .any, .any, .any, .sl (s1_0.map (cI .i64)), .i .i64 (s1_0.length : Int), .sl (s2_1.map (cI .i64)), .i .i64 (s2_1.length : Int), .b ((s1_0.length : Int) != (s2_1.length : Int)), .sl (s1_0.map (cI .i64)), .i .i64 (s1_0.length : Int), .i .i64 x_l0, .any, .any, .any, .any, .any, .any, .any, .any, .any, .any, .any, .any], []⟩)
          (st2 := ⟨[.sl (s1_0.map (cI .i64)), .sl (s2_1.map (cI .i64)), .any, .any, .any, .any, .sl (s1_0.map (cI .i64)), .i .i64 (s1_0.length : Int), .sl (s2_1.map (cI .i64)), .i .i64 (s2_1.length : Int), .b ((s1_0.length : Int) != (s2_1.length : Int)), .sl (s1_0.map (cI .i64)), .i .i64 (s1_0.length : Int), .i .i64 (x_l0 + 1), .any, .any, .any, .any, .any, .any, .any, .any, .any, .any, .any, .any], []⟩)
          (ans := [.bo true, .keep [8, 8], .el [.i .i64 (s1_0.getD x_l0.toNat default)], .el [.i .i64 (s2_1.getD x_l0.toNat default)], .bo false, .num (x_l0 + 1)])
          (ps := []) (mask := [true, true, false, false, false, false, true, true, true, true, true, true, true, true, false, false, false, false, false, false, false, false, false, false, false, false]) (ks := [])
          (C := [(decide (x_l0 < (s1_0.length : Int))) = true,
            0 ≤ x_l0 ∧ (s1_0.map (cI .i64))[Int.toNat x_l0]? = some [.i .i64 (s1_0.getD x_l0.toNat default)],
            0 ≤ x_l0 ∧ (s2_1.map (cI .i64))[Int.toNat x_l0]? = some [.i .i64 (s2_1.getD x_l0.toNat default)],
            ((s1_0.getD x_l0.toNat default) != (s2_1.getD x_l0.toNat default)) = false,
            IntKind.wrap .i64 (x_l0 + 1) = (x_l0 + 1)])
          (by kernel_rfl)
          ⟨h_0, (get_ok (by first | assumption | omega | (simp at * <;> omega) | (simp_all <;> omega)) (by first | assumption | omega | (simp at * <;> omega) | (simp_all <;> omega))), (get_ok (by first | assumption | omega | (simp at * <;> omega) | (simp_all <;> omega)) (by first | assumption | omega | (simp at * <;> omega) | (simp_all <;> omega))), h_1, (wrap_id (by first | assumption | omega | (simp at * <;> omega) | (simp_all <;> omega)) (by first | assumption | omega | (simp at * <;> omega) | (simp_all <;> omega))), trivial⟩
          rfl (ih (x_l0 + 1) (show 0 ≤ (x_l0 + 1) from (by first | assumption | omega | (simp at * <;> omega) | (simp_all <;> omega))) (by first | assumption | omega | (simp at * <;> omega) | (simp_all <;> omega)))
    | false =>
      have e : lo_slices_Equal___int64_int64__1 s1_0 s2_1 (k + 1) x_l0 = (.inr ()) := by simp only [lo_slices_Equal___int64_int64__1, h_0, cond_false]
      rw [e]
      exact stepK_out (E := E0) E0Ok hMixed (e := (.exit 0)) (body := (sub (bodyOf Go.Proofs.Try.f128) [1, 1, 0, 1, 0, 0])) (st := ⟨[.sl (s1_0.map (cI .i64)), .sl (s2_1.map (cI .i64)), .any, .any, .any, .any, .sl (s1_0.map (cI .i64)), .i .i64 (s1_0.length : Int), .sl (s2_1.map (cI .i64)), .i .i64 (s2_1.length : Int), .b ((s1_0.length : Int) != (s2_1.length : Int)), .sl (s1_0.map (cI .i64)), .i .i64 (s1_0.length : Int), .i .i64 x_l0, .any, .any, .any, .any, .any, .any, .any, .any, .any, .any, .any, .any], []⟩)
        (st2 := ⟨[.sl (s1_0.map (cI .i64)), .sl (s2_1.map (cI .i64)), .any, .any, .any, .any, .sl (s1_0.map (cI .i64)), .i .i64 (s1_0.length : Int), .sl (s2_1.map (cI .i64)), .i .i64 (s2_1.length : Int), .b ((s1_0.length : Int) != (s2_1.length : Int)), .sl (s1_0.map (cI .i64)), .any, .any, .any, .any, .any, .any, .any, .any, .any, .any, .any, .any, .any, .any], []⟩)
        (ans := [.bo false])
        (ps := []) (mask := [true, true, false, false, false, false, true, true, true, true, true, true, false, false, false, false, false, false, false, false, false, false, false, false, false, false]) (ks := [])
        (C := [(decide (x_l0 < (s1_0.length : Int))) = false])
        (by kernel_rfl)
        ⟨h_0, trivial⟩
        (by intro h; cases h) rfl

def lr_slices_Equal___int64_int64__1_0 (s1_0 : (List Int)) (s2_1 : (List Int)) : (Unit) ⊕ (Unit) := (lo_slices_Equal___int64_int64__1 s1_0 s2_1 (((s1_0.length : Int) - 0).toNat + 1) 0)

/-- slices.Equal[[]int64,int64] -/
def v_slices_Equal___int64_int64_ (s1_0 : (List Int)) (s2_1 : (List Int)) : Bool := (cond ((s1_0.length : Int) != (s2_1.length : Int))
  false
  (match (lr_slices_Equal___int64_int64__1_0 s1_0 s2_1) with
    | .inl r2 => false
    | .inr r2 => true))

theorem t_slices_Equal___int64_int64_ (s1_0 : (List Int)) (s2_1 : (List Int)) (hp0 : s1_0.length ≤ 1073741824) (hp1 : s2_1.length ≤ 1073741824)  : Fn Go.Proofs.Try.prog 128 [.sl (s1_0.map (cI .i64)), .sl (s2_1.map (cI .i64))] (.b (v_slices_Equal___int64_int64_ s1_0 s2_1)) [] := by
  cases h0 : ((s1_0.length : Int) != (s2_1.length : Int)) with
  | true =>
    exact Fn.cast (CallSt.fn (callSt_of_evK (E := E0) E0Ok hMixed (c := bodyOf Go.Proofs.Try.f128) (rows := []) (r := .b false) (rows' := [])
      (ans := [.num (s1_0.length : Int), .num (s2_1.length : Int), .bo true, .keep []])
      (ps := [])
      (C := [(((s1_0.map (cI .i64)).length : Nat) : Int) = (s1_0.length : Int),
        (((s2_1.map (cI .i64)).length : Nat) : Int) = (s2_1.length : Int),
        ((s1_0.length : Int) != (s2_1.length : Int)) = true])
      Go.Proofs.Try.func128 rfl (by kernel_rfl) (by kernel_rfl)
      ⟨len_ok, len_ok, h0, trivial⟩) rfl) (by simp only [v_slices_Equal___int64_int64_, h0, cond_true]) rfl
  | false =>
    cases h1 : (lr_slices_Equal___int64_int64__1_0 s1_0 s2_1) with
    | inl r2 =>
      exact Fn.cast (CallSt.fn (callSt_of_evK (E := E0) E0Ok hMixed (c := bodyOf Go.Proofs.Try.f128) (rows := []) (r := .b false) (rows' := [])
        (ans := [.num (s1_0.length : Int), .num (s2_1.length : Int), .bo false, .num (s1_0.length : Int), .loop [true, true, false, false, false, false, true, true, true, true, true, true, true, true, false, false, false, false, false, false, false, false, false, false, false, false] 0 .ret ⟨[.any, .any, .any, .any, .b false, .any, .any, .any, .any, .any, .any, .any, .any, .any, .any, .any, .any, .any, .any, .any, .any, .any, .any, .any, .any, .any], []⟩, .keep []])
        (ps := [])
        (C := [(((s1_0.map (cI .i64)).length : Nat) : Int) = (s1_0.length : Int),
          (((s2_1.map (cI .i64)).length : Nat) : Int) = (s2_1.length : Int),
          ((s1_0.length : Int) != (s2_1.length : Int)) = false,
          (((s1_0.map (cI .i64)).length : Nat) : Int) = (s1_0.length : Int),
          Lp Go.Proofs.Try.prog 0 (sub (bodyOf Go.Proofs.Try.f128) [1, 1, 0, 1, 0, 0]) ⟨[.sl (s1_0.map (cI .i64)), .sl (s2_1.map (cI .i64)), .any, .any, .any, .any, .sl (s1_0.map (cI .i64)), .i .i64 (s1_0.length : Int), .sl (s2_1.map (cI .i64)), .i .i64 (s2_1.length : Int), .b ((s1_0.length : Int) != (s2_1.length : Int)), .sl (s1_0.map (cI .i64)), .i .i64 (s1_0.length : Int), .i .i64 0, .any, .any, .any, .any, .any, .any, .any, .any, .any, .any, .any, .any], []⟩ .ret ⟨[.any, .any, .any, .any, .b false, .any, .any, .any, .any, .any, .any, .any, .any, .any, .any, .any, .any, .any, .any, .any, .any, .any, .any, .any, .any, .any], []⟩])
        Go.Proofs.Try.func128 rfl (by kernel_rfl) (by kernel_rfl)
        ⟨len_ok, len_ok, h0, len_ok, (by have q := (lp_slices_Equal___int64_int64__1 s1_0 s2_1 hp0 hp1 h0 (((s1_0.length : Int) - 0).toNat + 1) 0 (show 0 ≤ 0 from (by first | assumption | omega | (simp at * <;> omega) | (simp_all <;> omega))) (Nat.lt_succ_self _)); rw [show (lo_slices_Equal___int64_int64__1 s1_0 s2_1 (((s1_0.length : Int) - 0).toNat + 1) 0) = _ from rfl] at q; rw [show (lo_slices_Equal___int64_int64__1 s1_0 s2_1 (((s1_0.length : Int) - 0).toNat + 1) 0) = (lr_slices_Equal___int64_int64__1_0 s1_0 s2_1) from rfl, h1] at q; exact q), trivial⟩) rfl) (by simp only [v_slices_Equal___int64_int64_, h0, h1, cond_false]) rfl
    | inr r2 =>
      exact Fn.cast (CallSt.fn (callSt_of_evK (E := E0) E0Ok hMixed (c := bodyOf Go.Proofs.Try.f128) (rows := []) (r := .b true) (rows' := [])
        (ans := [.num (s1_0.length : Int), .num (s2_1.length : Int), .bo false, .num (s1_0.length : Int), .loop [true, true, false, false, false, false, true, true, true, true, true, true, true, true, false, false, false, false, false, false, false, false, false, false, false, false] 0 (.exit 0) ⟨[.sl (s1_0.map (cI .i64)), .sl (s2_1.map (cI .i64)), .any, .any, .any, .any, .sl (s1_0.map (cI .i64)), .i .i64 (s1_0.length : Int), .sl (s2_1.map (cI .i64)), .i .i64 (s2_1.length : Int), .b ((s1_0.length : Int) != (s2_1.length : Int)), .sl (s1_0.map (cI .i64)), .any, .any, .any, .any, .any, .any, .any, .any, .any, .any, .any, .any, .any, .any], []⟩, .keep []])
        (ps := [])
        (C := [(((s1_0.map (cI .i64)).length : Nat) : Int) = (s1_0.length : Int),
          (((s2_1.map (cI .i64)).length : Nat) : Int) = (s2_1.length : Int),
          ((s1_0.length : Int) != (s2_1.length : Int)) = false,
          (((s1_0.map (cI .i64)).length : Nat) : Int) = (s1_0.length : Int),
          Lp Go.Proofs.Try.prog 0 (sub (bodyOf Go.Proofs.Try.f128) [1, 1, 0, 1, 0, 0]) ⟨[.sl (s1_0.map (cI .i64)), .sl (s2_1.map (cI .i64)), .any, .any, .any, .any, .sl (s1_0.map (cI .i64)), .i .i64 (s1_0.length : Int), .sl (s2_1.map (cI .i64)), .i .i64 (s2_1.length : Int), .b ((s1_0.length : Int) != (s2_1.length : Int)), .sl (s1_0.map (cI .i64)), .i .i64 (s1_0.length : Int), .i .i64 0, .any, .any, .any, .any, .any, .any, .any, .any, .any, .any, .any, .any], []⟩ (.exit 0) ⟨[.sl (s1_0.map (cI .i64)), .sl (s2_1.map (cI .i64)), .any, .any, .any, .any, .sl (s1_0.map (cI .i64)), .i .i64 (s1_0.length : Int), .sl (s2_1.map (cI .i64)), .i .i64 (s2_1.length : Int), .b ((s1_0.length : Int) != (s2_1.length : Int)), .sl (s1_0.map (cI .i64)), .any, .any, .any, .any, .any, .any, .any, .any, .any, .any, .any, .any, .any, .any], []⟩])
        Go.Proofs.Try.func128 rfl (by kernel_rfl) (by kernel_rfl)
        ⟨len_ok, len_ok, h0, len_ok, (by have q := (lp_slices_Equal___int64_int64__1 s1_0 s2_1 hp0 hp1 h0 (((s1_0.length : Int) - 0).toNat + 1) 0 (show 0 ≤ 0 from (by first | assumption | omega | (simp at * <;> omega) | (simp_all <;> omega))) (Nat.lt_succ_self _)); rw [show (lo_slices_Equal___int64_int64__1 s1_0 s2_1 (((s1_0.length : Int) - 0).toNat + 1) 0) = _ from rfl] at q; rw [show (lo_slices_Equal___int64_int64__1 s1_0 s2_1 (((s1_0.length : Int) - 0).toNat + 1) 0) = (lr_slices_Equal___int64_int64__1_0 s1_0 s2_1) from rfl, h1] at q; exact q), trivial⟩) rfl) (by simp only [v_slices_Equal___int64_int64_, h0, h1, cond_false]) rfl

/-- impl.sameTriangles$1 -/
def v_impl_sameTriangles_1 (s_0 : (List Int)) (t_1 : (List Int)) : Bool := (v_slices_Equal___int64_int64_ s_0 t_1)

theorem t_impl_sameTriangles_1 (s_0 : (List Int)) (t_1 : (List Int)) (hp0 : s_0.length ≤ 1073741824) (hp1 : t_1.length ≤ 1073741824)  : Fn Go.Proofs.Try.prog 127 [.sl (s_0.map (cI .i64)), .sl (t_1.map (cI .i64))] (.b (v_impl_sameTriangles_1 s_0 t_1)) [] := by
  exact Fn.cast (CallSt.fn (callSt_of_evK (E := E0) E0Ok hMixed (c := bodyOf Go.Proofs.Try.f127) (rows := []) (r := .b (v_slices_Equal___int64_int64_ s_0 t_1)) (rows' := [])
    (ans := [.call (.b (v_slices_Equal___int64_int64_ s_0 t_1)) [], .keep []])
    (ps := [])
    (C := [Fn Go.Proofs.Try.prog 128 [.sl (s_0.map (cI .i64)), .sl (t_1.map (cI .i64))] (.b (v_slices_Equal___int64_int64_ s_0 t_1)) []])
    Go.Proofs.Try.func127 rfl (by kernel_rfl) (by kernel_rfl)
    ⟨(t_slices_Equal___int64_int64_ s_0 t_1 (show s_0.length ≤ 1073741824 from (by first | assumption | omega | (simp at * <;> omega) | (simp_all <;> omega))) (show t_1.length ≤ 1073741824 from (by first | assumption | omega | (simp at * <;> omega) | (simp_all <;> omega)))), trivial⟩) rfl) rfl rfl

def lo_slices_EqualFunc_____int64_____int64___int64___int64__mnnFimpl_sameTriangles_1Z_1 (s1_0 : (List (List Int))) (s2_1 : (List (List Int))) : Nat → Int → (Unit) ⊕ (Unit)
  | 0, _ => .inl default
  | k + 1, x_l0 => (cond (decide (x_l0 < (s1_0.length : Int)))
    (cond (v_impl_sameTriangles_1 (s1_0.getD x_l0.toNat default) (s2_1.getD x_l0.toNat default))
      (lo_slices_EqualFunc_____int64_____int64___int64___int64__mnnFimpl_sameTriangles_1Z_1 s1_0 s2_1 k (x_l0 + 1))
      (.inl ()))
    (.inr ()))

def ls_slices_EqualFunc_____int64_____int64___int64___int64__mnnFimpl_sameTriangles_1Z_1 (s1_0 : (List (List Int))) (s2_1 : (List (List Int))) : (Unit) ⊕ (Unit) → Ex × St
  | .inl r => (.ret, ⟨[.any, .any, .any, .any, .any, .any, .b false, .any, .any, .any, .any, .any, .any, .any, .any, .any, .any, .any, .any, .any, .any, .any, .any, .any, .any, .any, .any, .any, .any, .any, .any, .any], []⟩)
  | .inr r => ((.exit 0), ⟨[.sl (s1_0.map (cL (cI .i64))), .sl (s2_1.map (cL (cI .i64))), .any, .any, .any, .any, .any, .any, .any, .any, .sl (s1_0.map (cL (cI .i64))), .i .i64 (s1_0.length : Int), .sl (s2_1.map (cL (cI .i64))), .i .i64 (s2_1.length : Int), .b ((s1_0.length : Int) != (s2_1.length : Int)), .sl (s1_0.map (cL (cI .i64))), .any, .any, .any, .any, .any, .any, .any, .any, .any, .any, .any, .any, .any, .any, .any, .any], []⟩)

theorem lp_slices_EqualFunc_____int64_____int64___int64___int64__mnnFimpl_sameTriangles_1Z_1 (s1_0 : (List (List Int))) (s2_1 : (List (List Int))) (hp0 : s1_0.length ≤ 1073741824) (hp1 : ∀ t ∈ s1_0, t.length ≤ 1073741824) (hp2 : s2_1.length ≤ 1073741824) (hp3 : ∀ t ∈ s2_1, t.length ≤ 1073741824) (hf_slices_EqualFunc_____int64_____int64___int64___int64__mnnFimpl_sameTriangles_1Z_1_0 : ((s1_0.length : Int) != (s2_1.length : Int)) = false) : ∀ (k : Nat) (x_l0 : Int) (hv_slices_EqualFunc_____int64_____int64___int64___int64__mnnFimpl_sameTriangles_1Z_1_0 : 0 ≤ x_l0) (hk : ((s1_0.length : Int) - x_l0).toNat < k), Lp Go.Proofs.Try.prog 0 (sub (bodyOf Go.Proofs.Try.f126) [1, 1, 0, 1, 0, 0]) ⟨[.sl (s1_0.map (cL (cI .i64))), .sl (s2_1.map (cL (cI .i64))), .fn 127 [], .any, .any, .any, .any, .any, .any, .any, .sl (s1_0.map (cL (cI .i64))), .i .i64 (s1_0.length : Int), .sl (s2_1.map (cL (cI .i64))), .i .i64 (s2_1.length : Int), .b ((s1_0.length : Int) != (s2_1.length : Int)), .sl (s1_0.map (cL (cI .i64))), .i .i64 (s1_0.length : Int), .i .i64 x_l0, .any, .any, .any, .any, .any, .any, .any, .any, .any, .any, .any, .any, .any, .any], []⟩ (ls_slices_EqualFunc_____int64_____int64___int64___int64__mnnFimpl_sameTriangles_1Z_1 s1_0 s2_1 (lo_slices_EqualFunc_____int64_____int64___int64___int64__mnnFimpl_sameTriangles_1Z_1 s1_0 s2_1 k x_l0)).1 (ls_slices_EqualFunc_____int64_____int64___int64___int64__mnnFimpl_sameTriangles_1Z_1 s1_0 s2_1 (lo_slices_EqualFunc_____int64_____int64___int64___int64__mnnFimpl_sameTriangles_1Z_1 s1_0 s2_1 k x_l0)).2 := by
  intro k
  induction k with
  | zero => intro x_l0 hv_slices_EqualFunc_____int64_____int64___int64___int64__mnnFimpl_sameTriangles_1Z_1_0 hk; exact absurd hk (Nat.not_lt_zero _)
  | succ k ih =>
    intro x_l0 hv_slices_EqualFunc_____int64_____int64___int64___int64__mnnFimpl_sameTriangles_1Z_1_0 hk
    cases h_0 : (decide (x_l0 < (s1_0.length : Int))) with
    | true =>
      cases h_1 : (v_impl_sameTriangles_1 (s1_0.getD x_l0.toNat default) (s2_1.getD x_l0.toNat default)) with
      | true =>
        have e : lo_slices_EqualFunc_____int64_____int64___int64___int64__mnnFimpl_sameTriangles_1Z_1 s1_0 s2_1 (k + 1) x_l0 = (lo_slices_EqualFunc_____int64_____int64___int64___int64__mnnFimpl_sameTriangles_1Z_1 s1_0 s2_1 k (x_l0 + 1)) := by simp only [lo_slices_EqualFunc_____int64_____int64___int64___int64__mnnFimpl_sameTriangles_1Z_1, h_0, h_1, cond_true]
        rw [e]
        exact stepK_next (E := E0) E0Ok hMixed (body := (sub (bodyOf Go.Proofs.Try.f126) [1, 1, 0, 1, 0, 0])) (st := ⟨[.sl (s1_0.map (cL (cI .i64))), .sl (s2_1.map (cL (cI .i64))), .fn 127 [], .any, .any, .any, .any, .any, .any, .any, .sl (s1_0.map (cL (cI .i64))), .i .i64 (s1_0.length : Int), .sl (s2_1.map (cL (cI .i64))), .i .i64 (s2_1.length : Int), .b ((s1_0.length : Int) != (s2_1.length : Int)), .sl (s1_0.map (cL (cI .i64))), .i .i64 (s1_0.length : Int), .i .i64 x_l0, .any, .any, .any, .any, .any, .any, .any, .any, .any, .any, .any, .any, .any, .any], []⟩)
          (st2 := ⟨[.sl (s1_0.map (cL (cI .i64))), .sl (s2_1.map (cL (cI .i64))), .fn 127 [], .any, .any, .any, .any, .any, .any, .any, .sl (s1_0.map (cL (cI .i64))), .i .i64 (s1_0.length : Int), .sl (s2_1.map (cL (cI .i64))), .i .i64 (s2_1.length : Int), .b ((s1_0.length : Int) != (s2_1.length : Int)), .sl (s1_0.map (cL (cI .i64))), .i .i64 (s1_0.length : Int), .i .i64 (x_l0 + 1), .any, .any, .any, .any, .any, .any, .any, .any, .any, .any, .any, .any, .any, .any], []⟩)
          (ans := [.bo true, .el [.sl ((s1_0.getD x_l0.toNat default).map (cI .i64))], .el [.sl ((s2_1.getD x_l0.toNat default).map (cI .i64))], .call (.b (v_impl_sameTriangles_1 (s1_0.getD x_l0.toNat default) (s2_1.getD x_l0.toNat default))) [], .bo false, .num (x_l0 + 1)])
          (ps := []) (mask := [true, true, true, false, false, false, false, false, false, false, true, true, true, true, true, true, true, true, false, false, false, false, false, false, false, false, false, false, false, false, false, false]) (ks := [])
          (C := [(decide (x_l0 < (s1_0.length : Int))) = true,
            0 ≤ x_l0 ∧ (s1_0.map (cL (cI .i64)))[Int.toNat x_l0]? = some [.sl ((s1_0.getD x_l0.toNat default).map (cI .i64))],
            0 ≤ x_l0 ∧ (s2_1.map (cL (cI .i64)))[Int.toNat x_l0]? = some [.sl ((s2_1.getD x_l0.toNat default).map (cI .i64))],
            Fn Go.Proofs.Try.prog 127 [.sl ((s1_0.getD x_l0.toNat default).map (cI .i64)), .sl ((s2_1.getD x_l0.toNat default).map (cI .i64))] (.b (v_impl_sameTriangles_1 (s1_0.getD x_l0.toNat default) (s2_1.getD x_l0.toNat default))) [],
            (!(v_impl_sameTriangles_1 (s1_0.getD x_l0.toNat default) (s2_1.getD x_l0.toNat default))) = false,
            IntKind.wrap .i64 (x_l0 + 1) = (x_l0 + 1)])
          (by kernel_rfl)
          ⟨h_0, (get_ok (by first | assumption | omega | (simp at * <;> omega) | (simp_all <;> omega)) (by first | assumption | omega | (simp at * <;> omega) | (simp_all <;> omega))), (get_ok (by first | assumption | omega | (simp at * <;> omega) | (simp_all <;> omega)) (by first | assumption | omega | (simp at * <;> omega) | (simp_all <;> omega))), (t_impl_sameTriangles_1 (s1_0.getD x_l0.toNat default) (s2_1.getD x_l0.toNat default) (show (s1_0.getD x_l0.toNat default).length ≤ 1073741824 from (by first | assumption | omega | (simp at * <;> omega) | (simp_all <;> omega))) (show (s2_1.getD x_l0.toNat default).length ≤ 1073741824 from (by first | assumption | omega | (simp at * <;> omega) | (simp_all <;> omega)))), (congrArg not h_1), (wrap_id (by first | assumption | omega | (simp at * <;> omega) | (simp_all <;> omega)) (by first | assumption | omega | (simp at * <;> omega) | (simp_all <;> omega))), trivial⟩
          rfl (ih (x_l0 + 1) (show 0 ≤ (x_l0 + 1) from (by first | assumption | omega | (simp at * <;> omega) | (simp_all <;> omega))) (by first | assumption | omega | (simp at * <;> omega) | (simp_all <;> omega)))
      | false =>
        have e : lo_slices_EqualFunc_____int64_____int64___int64___int64__mnnFimpl_sameTriangles_1Z_1 s1_0 s2_1 (k + 1) x_l0 = (.inl ()) := by simp only [lo_slices_EqualFunc_____int64_____int64___int64___int64__mnnFimpl_sameTriangles_1Z_1, h_0, h_1, cond_true, cond_false]
        rw [e]
        exact stepK_out (E := E0) E0Ok hMixed (e := .ret) (body := (sub (bodyOf Go.Proofs.Try.f126) [1, 1, 0, 1, 0, 0])) (st := ⟨[.sl (s1_0.map (cL (cI .i64))), .sl (s2_1.map (cL (cI .i64))), .fn 127 [], .any, .any, .any, .any, .any, .any, .any, .sl (s1_0.map (cL (cI .i64))), .i .i64 (s1_0.length : Int), .sl (s2_1.map (cL (cI .i64))), .i .i64 (s2_1.length : Int), .b ((s1_0.length : Int) != (s2_1.length : Int)), .sl (s1_0.map (cL (cI .i64))), .i .i64 (s1_0.length : Int), .i .i64 x_l0, .any, .any, .any, .any, .any, .any, .any, .any, .any, .any, .any, .any, .any, .any], []⟩)
          (st2 := ⟨[.any, .any, .any, .any, .any, .any, .b false, .any, .any, .any, .any, .any, .any, .any, .any, .any, .any, .any, .any, .any, .any, .any, .any, .any, .any, .any, .any, .any, .any, .any, .any, .any], []⟩)
          (ans := [.bo true, .el [.sl ((s1_0.getD x_l0.toNat default).map (cI .i64))], .el [.sl ((s2_1.getD x_l0.toNat default).map (cI .i64))], .call (.b (v_impl_sameTriangles_1 (s1_0.getD x_l0.toNat default) (s2_1.getD x_l0.toNat default))) [], .bo true])
          (ps := []) (mask := [false, false, false, false, false, false, true, false, false, false, false, false, false, false, false, false, false, false, false, false, false, false, false, false, false, false, false, false, false, false, false, false]) (ks := [])
          (C := [(decide (x_l0 < (s1_0.length : Int))) = true,
            0 ≤ x_l0 ∧ (s1_0.map (cL (cI .i64)))[Int.toNat x_l0]? = some [.sl ((s1_0.getD x_l0.toNat default).map (cI .i64))],
            0 ≤ x_l0 ∧ (s2_1.map (cL (cI .i64)))[Int.toNat x_l0]? = some [.sl ((s2_1.getD x_l0.toNat default).map (cI .i64))],
            Fn Go.Proofs.Try.prog 127 [.sl ((s1_0.getD x_l0.toNat default).map (cI .i64)), .sl ((s2_1.getD x_l0.toNat default).map (cI .i64))] (.b (v_impl_sameTriangles_1 (s1_0.getD x_l0.toNat default) (s2_1.getD x_l0.toNat default))) [],
            (!(v_impl_sameTriangles_1 (s1_0.getD x_l0.toNat default) (s2_1.getD x_l0.toNat default))) = true])
          (by kernel_rfl)
          ⟨h_0, (get_ok (by first | assumption | omega | (simp at * <;> omega) | (simp_all <;> omega)) (by first | assumption | omega | (simp at * <;> omega) | (simp_all <;> omega))), (get_ok (by first | assumption | omega | (simp at * <;> omega) | (simp_all <;> omega)) (by first | assumption | omega | (simp at * <;> omega) | (simp_all <;> omega))), (t_impl_sameTriangles_1 (s1_0.getD x_l0.toNat default) (s2_1.getD x_l0.toNat default) (show (s1_0.getD x_l0.toNat default).length ≤ 1073741824 from (by first | assumption | omega | (simp at * <;> omega) | (simp_all <;> omega))) (show (s2_1.getD x_l0.toNat default).length ≤ 1073741824 from (by first | assumption | omega | (simp at * <;> omega) | (simp_all <;> omega)))), (congrArg not h_1), trivial⟩
          (by intro h; cases h) rfl
    | false =>
      have e : lo_slices_EqualFunc_____int64_____int64___int64___int64__mnnFimpl_sameTriangles_1Z_1 s1_0 s2_1 (k + 1) x_l0 = (.inr ()) := by simp only [lo_slices_EqualFunc_____int64_____int64___int64___int64__mnnFimpl_sameTriangles_1Z_1, h_0, cond_false]
      rw [e]
      exact stepK_out (E := E0) E0Ok hMixed (e := (.exit 0)) (body := (sub (bodyOf Go.Proofs.Try.f126) [1, 1, 0, 1, 0, 0])) (st := ⟨[.sl (s1_0.map (cL (cI .i64))), .sl (s2_1.map (cL (cI .i64))), .fn 127 [], .any, .any, .any, .any, .any, .any, .any, .sl (s1_0.map (cL (cI .i64))), .i .i64 (s1_0.length : Int), .sl (s2_1.map (cL (cI .i64))), .i .i64 (s2_1.length : Int), .b ((s1_0.length : Int) != (s2_1.length : Int)), .sl (s1_0.map (cL (cI .i64))), .i .i64 (s1_0.length : Int), .i .i64 x_l0, .any, .any, .any, .any, .any, .any, .any, .any, .any, .any, .any, .any, .any, .any], []⟩)
        (st2 := ⟨[.sl (s1_0.map (cL (cI .i64))), .sl (s2_1.map (cL (cI .i64))), .any, .any, .any, .any, .any, .any, .any, .any, .sl (s1_0.map (cL (cI .i64))), .i .i64 (s1_0.length : Int), .sl (s2_1.map (cL (cI .i64))), .i .i64 (s2_1.length : Int), .b ((s1_0.length : Int) != (s2_1.length : Int)), .sl (s1_0.map (cL (cI .i64))), .any, .any, .any, .any, .any, .any, .any, .any, .any, .any, .any, .any, .any, .any, .any, .any], []⟩)
        (ans := [.bo false])
        (ps := []) (mask := [true, true, false, false, false, false, false, false, false, false, true, true, true, true, true, true, false, false, false, false, false, false, false, false, false, false, false, false, false, false, false, false]) (ks := [])
        (C := [(decide (x_l0 < (s1_0.length : Int))) = false])
        (by kernel_rfl)
        ⟨h_0, trivial⟩
        (by intro h; cases h) rfl

def lr_slices_EqualFunc_____int64_____int64___int64___int64__mnnFimpl_sameTriangles_1Z_1_0 (s1_0 : (List (List Int))) (s2_1 : (List (List Int))) : (Unit) ⊕ (Unit) := (lo_slices_EqualFunc_____int64_____int64___int64___int64__mnnFimpl_sameTriangles_1Z_1 s1_0 s2_1 (((s1_0.length : Int) - 0).toNat + 1) 0)

/-- slices.EqualFunc[[][]int64,[][]int64,[]int64,[]int64] -/
def v_slices_EqualFunc_____int64_____int64___int64___int64__mnnFimpl_sameTriangles_1Z (s1_0 : (List (List Int))) (s2_1 : (List (List Int))) : Bool := (cond ((s1_0.length : Int) != (s2_1.length : Int))
  false
  (match (lr_slices_EqualFunc_____int64_____int64___int64___int64__mnnFimpl_sameTriangles_1Z_1_0 s1_0 s2_1) with
    | .inl r2 => false
    | .inr r2 => true))

theorem t_slices_EqualFunc_____int64_____int64___int64___int64__mnnFimpl_sameTriangles_1Z (s1_0 : (List (List Int))) (s2_1 : (List (List Int))) (hp0 : s1_0.length ≤ 1073741824) (hp1 : ∀ t ∈ s1_0, t.length ≤ 1073741824) (hp2 : s2_1.length ≤ 1073741824) (hp3 : ∀ t ∈ s2_1, t.length ≤ 1073741824)  : Fn Go.Proofs.Try.prog 126 [.sl (s1_0.map (cL (cI .i64))), .sl (s2_1.map (cL (cI .i64))), .fn 127 []] (.b (v_slices_EqualFunc_____int64_____int64___int64___int64__mnnFimpl_sameTriangles_1Z s1_0 s2_1)) [] := by
  cases h0 : ((s1_0.length : Int) != (s2_1.length : Int)) with
  | true =>
    exact Fn.cast (CallSt.fn (callSt_of_evK (E := E0) E0Ok hMixed (c := bodyOf Go.Proofs.Try.f126) (rows := []) (r := .b false) (rows' := [])
      (ans := [.num (s1_0.length : Int), .num (s2_1.length : Int), .bo true, .keep []])
      (ps := [])
      (C := [(((s1_0.map (cL (cI .i64))).length : Nat) : Int) = (s1_0.length : Int),
        (((s2_1.map (cL (cI .i64))).length : Nat) : Int) = (s2_1.length : Int),
        ((s1_0.length : Int) != (s2_1.length : Int)) = true])
      Go.Proofs.Try.func126 rfl (by kernel_rfl) (by kernel_rfl)
      ⟨len_ok, len_ok, h0, trivial⟩) rfl) (by simp only [v_slices_EqualFunc_____int64_____int64___int64___int64__mnnFimpl_sameTriangles_1Z, h0, cond_true]) rfl
  | false =>
    cases h1 : (lr_slices_EqualFunc_____int64_____int64___int64___int64__mnnFimpl_sameTriangles_1Z_1_0 s1_0 s2_1) with
    | inl r2 =>
      exact Fn.cast (CallSt.fn (callSt_of_evK (E := E0) E0Ok hMixed (c := bodyOf Go.Proofs.Try.f126) (rows := []) (r := .b false) (rows' := [])
        (ans := [.num (s1_0.length : Int), .num (s2_1.length : Int), .bo false, .num (s1_0.length : Int), .loop [true, true, true, false, false, false, false, false, false, false, true, true, true, true, true, true, true, true, false, false, false, false, false, false, false, false, false, false, false, false, false, false] 0 .ret ⟨[.any, .any, .any, .any, .any, .any, .b false, .any, .any, .any, .any, .any, .any, .any, .any, .any, .any, .any, .any, .any, .any, .any, .any, .any, .any, .any, .any, .any, .any, .any, .any, .any], []⟩, .keep []])
        (ps := [])
        (C := [(((s1_0.map (cL (cI .i64))).length : Nat) : Int) = (s1_0.length : Int),
          (((s2_1.map (cL (cI .i64))).length : Nat) : Int) = (s2_1.length : Int),
          ((s1_0.length : Int) != (s2_1.length : Int)) = false,
          (((s1_0.map (cL (cI .i64))).length : Nat) : Int) = (s1_0.length : Int),
          Lp Go.Proofs.Try.prog 0 (sub (bodyOf Go.Proofs.Try.f126) [1, 1, 0, 1, 0, 0]) ⟨[.sl (s1_0.map (cL (cI .i64))), .sl (s2_1.map (cL (cI .i64))), .fn 127 [], .any, .any, .any, .any, .any, .any, .any, .sl (s1_0.map (cL (cI .i64))), .i .i64 (s1_0.length : Int), .sl (s2_1.map (cL (cI .i64))), .i .i64 (s2_1.length : Int), .b ((s1_0.length : Int) != (s2_1.length : Int)), .sl (s1_0.map (cL (cI .i64))), .i .i64 (s1_0.length : Int), .i .i64 0, .any, .any, .any, .any, .any, .any, .any, .any, .any, .any, .any, .any, .any, .any], []⟩ .ret ⟨[.any, .any, .any, .any, .any, .any, .b false, .any, .any, .any, .any, .any, .any, .any, .any, .any, .any, .any, .any, .any, .any, .any, .any, .any, .any, .any, .any, .any, .any, .any, .any, .any], []⟩])
        Go.Proofs.Try.func126 rfl (by kernel_rfl) (by kernel_rfl)
        ⟨len_ok, len_ok, h0, len_ok, (by have q := (lp_slices_EqualFunc_____int64_____int64___int64___int64__mnnFimpl_sameTriangles_1Z_1 s1_0 s2_1 hp0 hp1 hp2 hp3 h0 (((s1_0.length : Int) - 0).toNat + 1) 0 (show 0 ≤ 0 from (by first | assumption | omega | (simp at * <;> omega) | (simp_all <;> omega))) (Nat.lt_succ_self _)); rw [show (lo_slices_EqualFunc_____int64_____int64___int64___int64__mnnFimpl_sameTriangles_1Z_1 s1_0 s2_1 (((s1_0.length : Int) - 0).toNat + 1) 0) = _ from rfl] at q; rw [show (lo_slices_EqualFunc_____int64_____int64___int64___int64__mnnFimpl_sameTriangles_1Z_1 s1_0 s2_1 (((s1_0.length : Int) - 0).toNat + 1) 0) = (lr_slices_EqualFunc_____int64_____int64___int64___int64__mnnFimpl_sameTriangles_1Z_1_0 s1_0 s2_1) from rfl, h1] at q; exact q), trivial⟩) rfl) (by simp only [v_slices_EqualFunc_____int64_____int64___int64___int64__mnnFimpl_sameTriangles_1Z, h0, h1, cond_false]) rfl
    | inr r2 =>
      exact Fn.cast (CallSt.fn (callSt_of_evK (E := E0) E0Ok hMixed (c := bodyOf Go.Proofs.Try.f126) (rows := []) (r := .b true) (rows' := [])
        (ans := [.num (s1_0.length : Int), .num (s2_1.length : Int), .bo false, .num (s1_0.length : Int), .loop [true, true, true, false, false, false, false, false, false, false, true, true, true, true, true, true, true, true, false, false, false, false, false, false, false, false, false, false, false, false, false, false] 0 (.exit 0) ⟨[.sl (s1_0.map (cL (cI .i64))), .sl (s2_1.map (cL (cI .i64))), .any, .any, .any, .any, .any, .any, .any, .any, .sl (s1_0.map (cL (cI .i64))), .i .i64 (s1_0.length : Int), .sl (s2_1.map (cL (cI .i64))), .i .i64 (s2_1.length : Int), .b ((s1_0.length : Int) != (s2_1.length : Int)), .sl (s1_0.map (cL (cI .i64))), .any, .any, .any, .any, .any, .any, .any, .any, .any, .any, .any, .any, .any, .any, .any, .any], []⟩, .keep []])
        (ps := [])
        (C := [(((s1_0.map (cL (cI .i64))).length : Nat) : Int) = (s1_0.length : Int),
          (((s2_1.map (cL (cI .i64))).length : Nat) : Int) = (s2_1.length : Int),
          ((s1_0.length : Int) != (s2_1.length : Int)) = false,
          (((s1_0.map (cL (cI .i64))).length : Nat) : Int) = (s1_0.length : Int),
          Lp Go.Proofs.Try.prog 0 (sub (bodyOf Go.Proofs.Try.f126) [1, 1, 0, 1, 0, 0]) ⟨[.sl (s1_0.map (cL (cI .i64))), .sl (s2_1.map (cL (cI .i64))), .fn 127 [], .any, .any, .any, .any, .any, .any, .any, .sl (s1_0.map (cL (cI .i64))), .i .i64 (s1_0.length : Int), .sl (s2_1.map (cL (cI .i64))), .i .i64 (s2_1.length : Int), .b ((s1_0.length : Int) != (s2_1.length : Int)), .sl (s1_0.map (cL (cI .i64))), .i .i64 (s1_0.length : Int), .i .i64 0, .any, .any, .any, .any, .any, .any, .any, .any, .any, .any, .any, .any, .any, .any], []⟩ (.exit 0) ⟨[.sl (s1_0.map (cL (cI .i64))), .sl (s2_1.map (cL (cI .i64))), .any, .any, .any, .any, .any, .any, .any, .any, .sl (s1_0.map (cL (cI .i64))), .i .i64 (s1_0.length : Int), .sl (s2_1.map (cL (cI .i64))), .i .i64 (s2_1.length : Int), .b ((s1_0.length : Int) != (s2_1.length : Int)), .sl (s1_0.map (cL (cI .i64))), .any, .any, .any, .any, .any, .any, .any, .any, .any, .any, .any, .any, .any, .any, .any, .any], []⟩])
        Go.Proofs.Try.func126 rfl (by kernel_rfl) (by kernel_rfl)
        ⟨len_ok, len_ok, h0, len_ok, (by have q := (lp_slices_EqualFunc_____int64_____int64___int64___int64__mnnFimpl_sameTriangles_1Z_1 s1_0 s2_1 hp0 hp1 hp2 hp3 h0 (((s1_0.length : Int) - 0).toNat + 1) 0 (show 0 ≤ 0 from (by first | assumption | omega | (simp at * <;> omega) | (simp_all <;> omega))) (Nat.lt_succ_self _)); rw [show (lo_slices_EqualFunc_____int64_____int64___int64___int64__mnnFimpl_sameTriangles_1Z_1 s1_0 s2_1 (((s1_0.length : Int) - 0).toNat + 1) 0) = _ from rfl] at q; rw [show (lo_slices_EqualFunc_____int64_____int64___int64___int64__mnnFimpl_sameTriangles_1Z_1 s1_0 s2_1 (((s1_0.length : Int) - 0).toNat + 1) 0) = (lr_slices_EqualFunc_____int64_____int64___int64___int64__mnnFimpl_sameTriangles_1Z_1_0 s1_0 s2_1) from rfl, h1] at q; exact q), trivial⟩) rfl) (by simp only [v_slices_EqualFunc_____int64_____int64___int64___int64__mnnFimpl_sameTriangles_1Z, h0, h1, cond_false]) rfl

/-- impl.sameTriangles -/
def v_impl_sameTriangles (a_0 : (List (List Int))) (b_1 : (List (List Int))) : Bool := (v_slices_EqualFunc_____int64_____int64___int64___int64__mnnFimpl_sameTriangles_1Z a_0 b_1)

theorem t_impl_sameTriangles (a_0 : (List (List Int))) (b_1 : (List (List Int))) (hp0 : a_0.length ≤ 1073741824) (hp1 : ∀ t ∈ a_0, t.length ≤ 1073741824) (hp2 : b_1.length ≤ 1073741824) (hp3 : ∀ t ∈ b_1, t.length ≤ 1073741824)  : Fn Go.Proofs.Try.prog 75 [.sl (a_0.map (cL (cI .i64))), .sl (b_1.map (cL (cI .i64)))] (.b (v_impl_sameTriangles a_0 b_1)) [] := by
  exact Fn.cast (CallSt.fn (callSt_of_evK (E := E0) E0Ok hMixed (c := bodyOf Go.Proofs.Try.f75) (rows := []) (r := .b (v_slices_EqualFunc_____int64_____int64___int64___int64__mnnFimpl_sameTriangles_1Z a_0 b_1)) (rows' := [])
    (ans := [.call (.b (v_slices_EqualFunc_____int64_____int64___int64___int64__mnnFimpl_sameTriangles_1Z a_0 b_1)) [], .keep []])
    (ps := [])
    (C := [Fn Go.Proofs.Try.prog 126 [.sl (a_0.map (cL (cI .i64))), .sl (b_1.map (cL (cI .i64))), .fn 127 []] (.b (v_slices_EqualFunc_____int64_____int64___int64___int64__mnnFimpl_sameTriangles_1Z a_0 b_1)) []])
    Go.Proofs.Try.func75 rfl (by kernel_rfl) (by kernel_rfl)
    ⟨(t_slices_EqualFunc_____int64_____int64___int64___int64__mnnFimpl_sameTriangles_1Z a_0 b_1 (show a_0.length ≤ 1073741824 from (by first | assumption | omega | (simp at * <;> omega) | (simp_all <;> omega))) (show ∀ t ∈ a_0, t.length ≤ 1073741824 from (by first | assumption | omega | (simp at * <;> omega) | (simp_all <;> omega))) (show b_1.length ≤ 1073741824 from (by first | assumption | omega | (simp at * <;> omega) | (simp_all <;> omega))) (show ∀ t ∈ b_1, t.length ≤ 1073741824 from (by first | assumption | omega | (simp at * <;> omega) | (simp_all <;> omega)))), trivial⟩) rfl) rfl rfl

/-- impl.SameForm -/
def v_impl_SameForm (a_0 : GMesh) (b_1 : GMesh) : Bool := (cond (v_impl_ValidMesh a_0)
  (cond (v_impl_ValidMesh b_1)
    (cond ((a_0.Places.length : Int) == (b_1.Places.length : Int))
      (v_impl_sameTriangles a_0.Triangles b_1.Triangles)
      false)
    false)
  false)

theorem t_impl_SameForm (a_0 : GMesh) (b_1 : GMesh) (hp0 : a_0.Places.length ≤ 1073741824) (hp1 : a_0.Triangles.length ≤ 1073741824) (hp2 : ∀ t ∈ a_0.Triangles, t.length ≤ 1073741824) (hp3 : b_1.Places.length ≤ 1073741824) (hp4 : b_1.Triangles.length ≤ 1073741824) (hp5 : ∀ t ∈ b_1.Triangles, t.length ≤ 1073741824)  : Fn Go.Proofs.Try.prog 21 [.agg [.sl (a_0.Places.map GVector.cells), .sl (a_0.Triangles.map (cL (cI .i64)))], .agg [.sl (b_1.Places.map GVector.cells), .sl (b_1.Triangles.map (cL (cI .i64)))]] (.b (v_impl_SameForm a_0 b_1)) [] := by
  cases h0 : (v_impl_ValidMesh a_0) with
  | true =>
    cases h1 : (v_impl_ValidMesh b_1) with
    | true =>
      cases h2 : ((a_0.Places.length : Int) == (b_1.Places.length : Int)) with
      | true =>
        exact Fn.cast (CallSt.fn (callSt_of_evK (E := E0) E0Ok hMixed (c := bodyOf Go.Proofs.Try.f21) (rows := []) (r := .b (v_impl_sameTriangles a_0.Triangles b_1.Triangles)) (rows' := [])
          (ans := [.call (.b (v_impl_ValidMesh a_0)) [], .bo true, .bo true, .call (.b (v_impl_ValidMesh b_1)) [], .bo true, .bo true, .bo true, .bo true, .num (a_0.Places.length : Int), .bo true, .bo true, .bo true, .num (b_1.Places.length : Int), .bo true, .bo true, .bo true, .bo true, .bo true, .bo true, .bo true, .call (.b (v_impl_sameTriangles a_0.Triangles b_1.Triangles)) [], .bo true, .keep []])
          (ps := [])
          (C := [Fn Go.Proofs.Try.prog 74 [.agg [.sl (a_0.Places.map GVector.cells), .sl (a_0.Triangles.map (cL (cI .i64)))]] (.b (v_impl_ValidMesh a_0)) [],
            (v_impl_ValidMesh a_0) = true,
            (v_impl_ValidMesh a_0) = true,
            Fn Go.Proofs.Try.prog 74 [.agg [.sl (b_1.Places.map GVector.cells), .sl (b_1.Triangles.map (cL (cI .i64)))]] (.b (v_impl_ValidMesh b_1)) [],
            (v_impl_ValidMesh a_0) = true,
            (v_impl_ValidMesh b_1) = true,
            (v_impl_ValidMesh b_1) = true,
            (v_impl_ValidMesh b_1) = true,
            (((a_0.Places.map GVector.cells).length : Nat) : Int) = (a_0.Places.length : Int),
            (v_impl_ValidMesh b_1) = true,
            (v_impl_ValidMesh b_1) = true,
            (v_impl_ValidMesh b_1) = true,
            (((b_1.Places.map GVector.cells).length : Nat) : Int) = (b_1.Places.length : Int),
            (v_impl_ValidMesh b_1) = true,
            (v_impl_ValidMesh b_1) = true,
            ((a_0.Places.length : Int) == (b_1.Places.length : Int)) = true,
            ((a_0.Places.length : Int) == (b_1.Places.length : Int)) = true,
            ((a_0.Places.length : Int) == (b_1.Places.length : Int)) = true,
            ((a_0.Places.length : Int) == (b_1.Places.length : Int)) = true,
            ((a_0.Places.length : Int) == (b_1.Places.length : Int)) = true,
            Fn Go.Proofs.Try.prog 75 [.sl (a_0.Triangles.map (cL (cI .i64))), .sl (b_1.Triangles.map (cL (cI .i64)))] (.b (v_impl_sameTriangles a_0.Triangles b_1.Triangles)) [],
            ((a_0.Places.length : Int) == (b_1.Places.length : Int)) = true])
          Go.Proofs.Try.func21 rfl (by kernel_rfl) (by kernel_rfl)
          ⟨(t_impl_ValidMesh a_0 (show a_0.Places.length ≤ 1073741824 from (by first | assumption | omega | (simp at * <;> omega) | (simp_all <;> omega))) (show a_0.Triangles.length ≤ 1073741824 from (by first | assumption | omega | (simp at * <;> omega) | (simp_all <;> omega))) (show ∀ t ∈ a_0.Triangles, t.length ≤ 1073741824 from (by first | assumption | omega | (simp at * <;> omega) | (simp_all <;> omega)))), h0, h0, (t_impl_ValidMesh b_1 (show b_1.Places.length ≤ 1073741824 from (by first | assumption | omega | (simp at * <;> omega) | (simp_all <;> omega))) (show b_1.Triangles.length ≤ 1073741824 from (by first | assumption | omega | (simp at * <;> omega) | (simp_all <;> omega))) (show ∀ t ∈ b_1.Triangles, t.length ≤ 1073741824 from (by first | assumption | omega | (simp at * <;> omega) | (simp_all <;> omega)))), h0, h1, h1, h1, len_ok, h1, h1, h1, len_ok, h1, h1, h2, h2, h2, h2, h2, (t_impl_sameTriangles a_0.Triangles b_1.Triangles (show a_0.Triangles.length ≤ 1073741824 from (by first | assumption | omega | (simp at * <;> omega) | (simp_all <;> omega))) (show ∀ t ∈ a_0.Triangles, t.length ≤ 1073741824 from (by first | assumption | omega | (simp at * <;> omega) | (simp_all <;> omega))) (show b_1.Triangles.length ≤ 1073741824 from (by first | assumption | omega | (simp at * <;> omega) | (simp_all <;> omega))) (show ∀ t ∈ b_1.Triangles, t.length ≤ 1073741824 from (by first | assumption | omega | (simp at * <;> omega) | (simp_all <;> omega)))), h2, trivial⟩) rfl) (by simp only [v_impl_SameForm, h0, h1, h2, cond_true]) rfl
      | false =>
        exact Fn.cast (CallSt.fn (callSt_of_evK (E := E0) E0Ok hMixed (c := bodyOf Go.Proofs.Try.f21) (rows := []) (r := .b false) (rows' := [])
          (ans := [.call (.b (v_impl_ValidMesh a_0)) [], .bo true, .bo true, .call (.b (v_impl_ValidMesh b_1)) [], .bo true, .bo true, .bo true, .bo true, .num (a_0.Places.length : Int), .bo true, .bo true, .bo true, .num (b_1.Places.length : Int), .bo true, .bo true, .bo false, .bo false, .bo false, .bo false, .bo false, .bo false, .keep []])
          (ps := [])
          (C := [Fn Go.Proofs.Try.prog 74 [.agg [.sl (a_0.Places.map GVector.cells), .sl (a_0.Triangles.map (cL (cI .i64)))]] (.b (v_impl_ValidMesh a_0)) [],
            (v_impl_ValidMesh a_0) = true,
            (v_impl_ValidMesh a_0) = true,
            Fn Go.Proofs.Try.prog 74 [.agg [.sl (b_1.Places.map GVector.cells), .sl (b_1.Triangles.map (cL (cI .i64)))]] (.b (v_impl_ValidMesh b_1)) [],
            (v_impl_ValidMesh a_0) = true,
            (v_impl_ValidMesh b_1) = true,
            (v_impl_ValidMesh b_1) = true,
            (v_impl_ValidMesh b_1) = true,
            (((a_0.Places.map GVector.cells).length : Nat) : Int) = (a_0.Places.length : Int),
            (v_impl_ValidMesh b_1) = true,
            (v_impl_ValidMesh b_1) = true,
            (v_impl_ValidMesh b_1) = true,
            (((b_1.Places.map GVector.cells).length : Nat) : Int) = (b_1.Places.length : Int),
            (v_impl_ValidMesh b_1) = true,
            (v_impl_ValidMesh b_1) = true,
            ((a_0.Places.length : Int) == (b_1.Places.length : Int)) = false,
            ((a_0.Places.length : Int) == (b_1.Places.length : Int)) = false,
            ((a_0.Places.length : Int) == (b_1.Places.length : Int)) = false,
            ((a_0.Places.length : Int) == (b_1.Places.length : Int)) = false,
            ((a_0.Places.length : Int) == (b_1.Places.length : Int)) = false,
            ((a_0.Places.length : Int) == (b_1.Places.length : Int)) = false])
          Go.Proofs.Try.func21 rfl (by kernel_rfl) (by kernel_rfl)
          ⟨(t_impl_ValidMesh a_0 (show a_0.Places.length ≤ 1073741824 from (by first | assumption | omega | (simp at * <;> omega) | (simp_all <;> omega))) (show a_0.Triangles.length ≤ 1073741824 from (by first | assumption | omega | (simp at * <;> omega) | (simp_all <;> omega))) (show ∀ t ∈ a_0.Triangles, t.length ≤ 1073741824 from (by first | assumption | omega | (simp at * <;> omega) | (simp_all <;> omega)))), h0, h0, (t_impl_ValidMesh b_1 (show b_1.Places.length ≤ 1073741824 from (by first | assumption | omega | (simp at * <;> omega) | (simp_all <;> omega))) (show b_1.Triangles.length ≤ 1073741824 from (by first | assumption | omega | (simp at * <;> omega) | (simp_all <;> omega))) (show ∀ t ∈ b_1.Triangles, t.length ≤ 1073741824 from (by first | assumption | omega | (simp at * <;> omega) | (simp_all <;> omega)))), h0, h1, h1, h1, len_ok, h1, h1, h1, len_ok, h1, h1, h2, h2, h2, h2, h2, h2, trivial⟩) rfl) (by simp only [v_impl_SameForm, h0, h1, h2, cond_true, cond_false]) rfl
    | false =>
      exact Fn.cast (CallSt.fn (callSt_of_evK (E := E0) E0Ok hMixed (c := bodyOf Go.Proofs.Try.f21) (rows := []) (r := .b false) (rows' := [])
        (ans := [.call (.b (v_impl_ValidMesh a_0)) [], .bo true, .bo true, .call (.b (v_impl_ValidMesh b_1)) [], .bo true, .bo false, .bo false, .bo false, .bo false, .bo false, .bo false, .bo false, .bo false, .bo false, .bo false, .bo false, .bo false, .bo false, .bo false, .keep []])
        (ps := [])
        (C := [Fn Go.Proofs.Try.prog 74 [.agg [.sl (a_0.Places.map GVector.cells), .sl (a_0.Triangles.map (cL (cI .i64)))]] (.b (v_impl_ValidMesh a_0)) [],
          (v_impl_ValidMesh a_0) = true,
          (v_impl_ValidMesh a_0) = true,
          Fn Go.Proofs.Try.prog 74 [.agg [.sl (b_1.Places.map GVector.cells), .sl (b_1.Triangles.map (cL (cI .i64)))]] (.b (v_impl_ValidMesh b_1)) [],
          (v_impl_ValidMesh a_0) = true,
          (v_impl_ValidMesh b_1) = false,
          (v_impl_ValidMesh b_1) = false,
          (v_impl_ValidMesh b_1) = false,
          (v_impl_ValidMesh b_1) = false,
          (v_impl_ValidMesh b_1) = false,
          (v_impl_ValidMesh b_1) = false,
          (v_impl_ValidMesh b_1) = false,
          (v_impl_ValidMesh b_1) = false,
          false = false,
          false = false,
          false = false,
          false = false,
          false = false,
          false = false])
        Go.Proofs.Try.func21 rfl (by kernel_rfl) (by kernel_rfl)
        ⟨(t_impl_ValidMesh a_0 (show a_0.Places.length ≤ 1073741824 from (by first | assumption | omega | (simp at * <;> omega) | (simp_all <;> omega))) (show a_0.Triangles.length ≤ 1073741824 from (by first | assumption | omega | (simp at * <;> omega) | (simp_all <;> omega))) (show ∀ t ∈ a_0.Triangles, t.length ≤ 1073741824 from (by first | assumption | omega | (simp at * <;> omega) | (simp_all <;> omega)))), h0, h0, (t_impl_ValidMesh b_1 (show b_1.Places.length ≤ 1073741824 from (by first | assumption | omega | (simp at * <;> omega) | (simp_all <;> omega))) (show b_1.Triangles.length ≤ 1073741824 from (by first | assumption | omega | (simp at * <;> omega) | (simp_all <;> omega))) (show ∀ t ∈ b_1.Triangles, t.length ≤ 1073741824 from (by first | assumption | omega | (simp at * <;> omega) | (simp_all <;> omega)))), h0, h1, h1, h1, h1, h1, h1, h1, h1, rfl, rfl, rfl, rfl, rfl, rfl, trivial⟩) rfl) (by simp only [v_impl_SameForm, h0, h1, cond_true, cond_false]) rfl
  | false =>
    exact Fn.cast (CallSt.fn (callSt_of_evK (E := E0) E0Ok hMixed (c := bodyOf Go.Proofs.Try.f21) (rows := []) (r := .b false) (rows' := [])
      (ans := [.call (.b (v_impl_ValidMesh a_0)) [], .bo false, .bo false, .bo false, .bo false, .bo false, .bo false, .bo false, .bo false, .bo false, .bo false, .bo false, .bo false, .bo false, .bo false, .bo false, .bo false, .bo false, .keep []])
      (ps := [])
      (C := [Fn Go.Proofs.Try.prog 74 [.agg [.sl (a_0.Places.map GVector.cells), .sl (a_0.Triangles.map (cL (cI .i64)))]] (.b (v_impl_ValidMesh a_0)) [],
        (v_impl_ValidMesh a_0) = false,
        (v_impl_ValidMesh a_0) = false,
        (v_impl_ValidMesh a_0) = false,
        false = false,
        false = false,
        false = false,
        false = false,
        false = false,
        false = false,
        false = false,
        false = false,
        false = false,
        false = false,
        false = false,
        false = false,
        false = false,
        false = false])
      Go.Proofs.Try.func21 rfl (by kernel_rfl) (by kernel_rfl)
      ⟨(t_impl_ValidMesh a_0 (show a_0.Places.length ≤ 1073741824 from (by first | assumption | omega | (simp at * <;> omega) | (simp_all <;> omega))) (show a_0.Triangles.length ≤ 1073741824 from (by first | assumption | omega | (simp at * <;> omega) | (simp_all <;> omega))) (show ∀ t ∈ a_0.Triangles, t.length ≤ 1073741824 from (by first | assumption | omega | (simp at * <;> omega) | (simp_all <;> omega)))), h0, h0, h0, rfl, rfl, rfl, rfl, rfl, rfl, rfl, rfl, rfl, rfl, rfl, rfl, rfl, rfl, trivial⟩) rfl) (by simp only [v_impl_SameForm, h0, cond_false]) rfl

/-- laws.sameFloat -/
def v_laws_sameFloat (a_0 : Nat) (b_1 : Nat) : Bool := (cond (fcmp .neq .f64 a_0 a_0)
  (fcmp .neq .f64 b_1 b_1)
  (cond (fcmp .neq .f64 b_1 b_1)
    false
    (cond (fcmp .eql .f64 a_0 0)
      (cond (fcmp .eql .f64 b_1 0)
        ((fcmp .gtr .f64 (fop .quo .f64 4607182418800017408 a_0) 0) == (fcmp .gtr .f64 (fop .quo .f64 4607182418800017408 b_1) 0))
        (fcmp .eql .f64 a_0 b_1))
      (fcmp .eql .f64 a_0 b_1))))

theorem t_laws_sameFloat (a_0 : Nat) (b_1 : Nat)   : Fn Go.Proofs.Try.prog 17 [.f .f64 a_0, .f .f64 b_1] (.b (v_laws_sameFloat a_0 b_1)) [] := by
  cases h0 : (fcmp .neq .f64 a_0 a_0) with
  | true =>
    exact Fn.cast (CallSt.fn (callSt_of_evK (E := E0) E0Ok hMixed (c := bodyOf Go.Proofs.Try.f17) (rows := []) (r := .b (fcmp .neq .f64 b_1 b_1)) (rows' := [])
      (ans := [.bo true, .bo true, .bo true, .bo true, .bo true, .bo true, .bo true, .bo true, .bo true, .keep []])
      (ps := [])
      (C := [(fcmp .neq .f64 a_0 a_0) = true,
        (fcmp .neq .f64 a_0 a_0) = true,
        (fcmp .neq .f64 a_0 a_0) = true,
        (fcmp .neq .f64 a_0 a_0) = true,
        true = true,
        (fcmp .neq .f64 a_0 a_0) = true,
        (fcmp .neq .f64 a_0 a_0) = true,
        (fcmp .neq .f64 a_0 a_0) = true,
        (fcmp .neq .f64 a_0 a_0) = true])
      Go.Proofs.Try.func17 rfl (by kernel_rfl) (by kernel_rfl)
      ⟨h0, h0, h0, h0, rfl, h0, h0, h0, h0, trivial⟩) rfl) (by simp only [v_laws_sameFloat, h0, cond_true]) rfl
  | false =>
    cases h1 : (fcmp .neq .f64 b_1 b_1) with
    | true =>
      exact Fn.cast (CallSt.fn (callSt_of_evK (E := E0) E0Ok hMixed (c := bodyOf Go.Proofs.Try.f17) (rows := []) (r := .b false) (rows' := [])
        (ans := [.bo false, .bo false, .bo false, .bo false, .bo true, .bo false, .bo false, .bo false, .bo false, .keep []])
        (ps := [])
        (C := [(fcmp .neq .f64 a_0 a_0) = false,
          (fcmp .neq .f64 a_0 a_0) = false,
          (fcmp .neq .f64 a_0 a_0) = false,
          (fcmp .neq .f64 a_0 a_0) = false,
          (fcmp .neq .f64 b_1 b_1) = true,
          (fcmp .neq .f64 a_0 a_0) = false,
          (fcmp .neq .f64 a_0 a_0) = false,
          (fcmp .neq .f64 a_0 a_0) = false,
          (fcmp .neq .f64 a_0 a_0) = false])
        Go.Proofs.Try.func17 rfl (by kernel_rfl) (by kernel_rfl)
        ⟨h0, h0, h0, h0, h1, h0, h0, h0, h0, trivial⟩) rfl) (by simp only [v_laws_sameFloat, h0, h1, cond_true, cond_false]) rfl
    | false =>
      cases h2 : (fcmp .eql .f64 a_0 0) with
      | true =>
        cases h3 : (fcmp .eql .f64 b_1 0) with
        | true =>
          exact Fn.cast (CallSt.fn (callSt_of_evK (E := E0) E0Ok hMixed (c := bodyOf Go.Proofs.Try.f17) (rows := []) (r := .b ((fcmp .gtr .f64 (fop .quo .f64 4607182418800017408 a_0) 0) == (fcmp .gtr .f64 (fop .quo .f64 4607182418800017408 b_1) 0))) (rows' := [])
            (ans := [.bo false, .bo false, .bo false, .bo false, .bo false, .bo true, .bo true, .bo true, .bo true, .keep []])
            (ps := [])
            (C := [(fcmp .neq .f64 a_0 a_0) = false,
              (fcmp .neq .f64 a_0 a_0) = false,
              (fcmp .neq .f64 a_0 a_0) = false,
              (fcmp .neq .f64 a_0 a_0) = false,
              (fcmp .neq .f64 b_1 b_1) = false,
              (fcmp .eql .f64 a_0 0) = true,
              (fcmp .eql .f64 a_0 0) = true,
              (fcmp .eql .f64 a_0 0) = true,
              (fcmp .eql .f64 b_1 0) = true])
            Go.Proofs.Try.func17 rfl (by kernel_rfl) (by kernel_rfl)
            ⟨h0, h0, h0, h0, h1, h2, h2, h2, h3, trivial⟩) rfl) (by simp only [v_laws_sameFloat, h0, h1, h2, h3, cond_true, cond_false]) rfl
        | false =>
          exact Fn.cast (CallSt.fn (callSt_of_evK (E := E0) E0Ok hMixed (c := bodyOf Go.Proofs.Try.f17) (rows := []) (r := .b (fcmp .eql .f64 a_0 b_1)) (rows' := [])
            (ans := [.bo false, .bo false, .bo false, .bo false, .bo false, .bo true, .bo true, .bo true, .bo false, .keep []])
            (ps := [])
            (C := [(fcmp .neq .f64 a_0 a_0) = false,
              (fcmp .neq .f64 a_0 a_0) = false,
              (fcmp .neq .f64 a_0 a_0) = false,
              (fcmp .neq .f64 a_0 a_0) = false,
              (fcmp .neq .f64 b_1 b_1) = false,
              (fcmp .eql .f64 a_0 0) = true,
              (fcmp .eql .f64 a_0 0) = true,
              (fcmp .eql .f64 a_0 0) = true,
              (fcmp .eql .f64 b_1 0) = false])
            Go.Proofs.Try.func17 rfl (by kernel_rfl) (by kernel_rfl)
            ⟨h0, h0, h0, h0, h1, h2, h2, h2, h3, trivial⟩) rfl) (by simp only [v_laws_sameFloat, h0, h1, h2, h3, cond_true, cond_false]) rfl
      | false =>
        exact Fn.cast (CallSt.fn (callSt_of_evK (E := E0) E0Ok hMixed (c := bodyOf Go.Proofs.Try.f17) (rows := []) (r := .b (fcmp .eql .f64 a_0 b_1)) (rows' := [])
          (ans := [.bo false, .bo false, .bo false, .bo false, .bo false, .bo false, .bo false, .bo false, .bo false, .keep []])
          (ps := [])
          (C := [(fcmp .neq .f64 a_0 a_0) = false,
            (fcmp .neq .f64 a_0 a_0) = false,
            (fcmp .neq .f64 a_0 a_0) = false,
            (fcmp .neq .f64 a_0 a_0) = false,
            (fcmp .neq .f64 b_1 b_1) = false,
            (fcmp .eql .f64 a_0 0) = false,
            (fcmp .eql .f64 a_0 0) = false,
            (fcmp .eql .f64 a_0 0) = false,
            false = false])
          Go.Proofs.Try.func17 rfl (by kernel_rfl) (by kernel_rfl)
          ⟨h0, h0, h0, h0, h1, h2, h2, h2, rfl, trivial⟩) rfl) (by simp only [v_laws_sameFloat, h0, h1, h2, cond_false]) rfl

theorem same_self (x : Nat) : v_laws_sameFloat x x = true := by
  unfold v_laws_sameFloat
  cases h : fcmp .neq .f64 x x
  · simp only [cond_false]
    have h2 : fcmp .eql .f64 x x = true := by
      unfold fcmp at h ⊢
      simpa using h
    cases fcmp .eql .f64 x 0 <;> simp [h2]
  · rfl

/-- laws.eqVector -/
def v_laws_eqVector (a_0 : GVector) (b_1 : GVector) : Bool := (cond (v_laws_sameFloat (fcv .f32 .f64 a_0.X) (fcv .f32 .f64 b_1.X))
  (cond (v_laws_sameFloat (fcv .f32 .f64 a_0.Y) (fcv .f32 .f64 b_1.Y))
    (cond (v_laws_sameFloat (fcv .f32 .f64 a_0.Z) (fcv .f32 .f64 b_1.Z))
      true
      false)
    false)
  false)

theorem t_laws_eqVector (a_0 : GVector) (b_1 : GVector)   : Fn Go.Proofs.Try.prog 86 [.agg [.f .f32 a_0.X, .f .f32 a_0.Y, .f .f32 a_0.Z], .agg [.f .f32 b_1.X, .f .f32 b_1.Y, .f .f32 b_1.Z]] (.b (v_laws_eqVector a_0 b_1)) [] := by
  cases h0 : (v_laws_sameFloat (fcv .f32 .f64 a_0.X) (fcv .f32 .f64 b_1.X)) with
  | true =>
    cases h1 : (v_laws_sameFloat (fcv .f32 .f64 a_0.Y) (fcv .f32 .f64 b_1.Y)) with
    | true =>
      cases h2 : (v_laws_sameFloat (fcv .f32 .f64 a_0.Z) (fcv .f32 .f64 b_1.Z)) with
      | true =>
        exact Fn.cast (CallSt.fn (callSt_of_evK (E := E0) E0Ok hMixed (c := bodyOf Go.Proofs.Try.f86) (rows := []) (r := .b true) (rows' := [])
          (ans := [.call (.b (v_laws_sameFloat (fcv .f32 .f64 a_0.X) (fcv .f32 .f64 b_1.X))) [], .bo false, .call (.b (v_laws_sameFloat (fcv .f32 .f64 a_0.Y) (fcv .f32 .f64 b_1.Y))) [], .bo false, .call (.b (v_laws_sameFloat (fcv .f32 .f64 a_0.Z) (fcv .f32 .f64 b_1.Z))) [], .bo false, .keep []])
          (ps := [])
          (C := [fcvOk .f32 .f64 a_0.X = true,
            fcvOk .f32 .f64 b_1.X = true,
            Fn Go.Proofs.Try.prog 17 [.f .f64 (fcv .f32 .f64 a_0.X), .f .f64 (fcv .f32 .f64 b_1.X)] (.b (v_laws_sameFloat (fcv .f32 .f64 a_0.X) (fcv .f32 .f64 b_1.X))) [],
            (!(v_laws_sameFloat (fcv .f32 .f64 a_0.X) (fcv .f32 .f64 b_1.X))) = false,
            fcvOk .f32 .f64 a_0.Y = true,
            fcvOk .f32 .f64 b_1.Y = true,
            Fn Go.Proofs.Try.prog 17 [.f .f64 (fcv .f32 .f64 a_0.Y), .f .f64 (fcv .f32 .f64 b_1.Y)] (.b (v_laws_sameFloat (fcv .f32 .f64 a_0.Y) (fcv .f32 .f64 b_1.Y))) [],
            (!(v_laws_sameFloat (fcv .f32 .f64 a_0.Y) (fcv .f32 .f64 b_1.Y))) = false,
            fcvOk .f32 .f64 a_0.Z = true,
            fcvOk .f32 .f64 b_1.Z = true,
            Fn Go.Proofs.Try.prog 17 [.f .f64 (fcv .f32 .f64 a_0.Z), .f .f64 (fcv .f32 .f64 b_1.Z)] (.b (v_laws_sameFloat (fcv .f32 .f64 a_0.Z) (fcv .f32 .f64 b_1.Z))) [],
            (!(v_laws_sameFloat (fcv .f32 .f64 a_0.Z) (fcv .f32 .f64 b_1.Z))) = false])
          Go.Proofs.Try.func86 rfl (by kernel_rfl) (by kernel_rfl)
          ⟨(widenOk _), (widenOk _), (t_laws_sameFloat (fcv .f32 .f64 a_0.X) (fcv .f32 .f64 b_1.X)), (congrArg not h0), (widenOk _), (widenOk _), (t_laws_sameFloat (fcv .f32 .f64 a_0.Y) (fcv .f32 .f64 b_1.Y)), (congrArg not h1), (widenOk _), (widenOk _), (t_laws_sameFloat (fcv .f32 .f64 a_0.Z) (fcv .f32 .f64 b_1.Z)), (congrArg not h2), trivial⟩) rfl) (by simp only [v_laws_eqVector, h0, h1, h2, cond_true]) rfl
      | false =>
        exact Fn.cast (CallSt.fn (callSt_of_evK (E := E0) E0Ok hMixed (c := bodyOf Go.Proofs.Try.f86) (rows := []) (r := .b false) (rows' := [])
          (ans := [.call (.b (v_laws_sameFloat (fcv .f32 .f64 a_0.X) (fcv .f32 .f64 b_1.X))) [], .bo false, .call (.b (v_laws_sameFloat (fcv .f32 .f64 a_0.Y) (fcv .f32 .f64 b_1.Y))) [], .bo false, .call (.b (v_laws_sameFloat (fcv .f32 .f64 a_0.Z) (fcv .f32 .f64 b_1.Z))) [], .bo true, .keep []])
          (ps := [])
          (C := [fcvOk .f32 .f64 a_0.X = true,
            fcvOk .f32 .f64 b_1.X = true,
            Fn Go.Proofs.Try.prog 17 [.f .f64 (fcv .f32 .f64 a_0.X), .f .f64 (fcv .f32 .f64 b_1.X)] (.b (v_laws_sameFloat (fcv .f32 .f64 a_0.X) (fcv .f32 .f64 b_1.X))) [],
            (!(v_laws_sameFloat (fcv .f32 .f64 a_0.X) (fcv .f32 .f64 b_1.X))) = false,
            fcvOk .f32 .f64 a_0.Y = true,
            fcvOk .f32 .f64 b_1.Y = true,
            Fn Go.Proofs.Try.prog 17 [.f .f64 (fcv .f32 .f64 a_0.Y), .f .f64 (fcv .f32 .f64 b_1.Y)] (.b (v_laws_sameFloat (fcv .f32 .f64 a_0.Y) (fcv .f32 .f64 b_1.Y))) [],
            (!(v_laws_sameFloat (fcv .f32 .f64 a_0.Y) (fcv .f32 .f64 b_1.Y))) = false,
            fcvOk .f32 .f64 a_0.Z = true,
            fcvOk .f32 .f64 b_1.Z = true,
            Fn Go.Proofs.Try.prog 17 [.f .f64 (fcv .f32 .f64 a_0.Z), .f .f64 (fcv .f32 .f64 b_1.Z)] (.b (v_laws_sameFloat (fcv .f32 .f64 a_0.Z) (fcv .f32 .f64 b_1.Z))) [],
            (!(v_laws_sameFloat (fcv .f32 .f64 a_0.Z) (fcv .f32 .f64 b_1.Z))) = true])
          Go.Proofs.Try.func86 rfl (by kernel_rfl) (by kernel_rfl)
          ⟨(widenOk _), (widenOk _), (t_laws_sameFloat (fcv .f32 .f64 a_0.X) (fcv .f32 .f64 b_1.X)), (congrArg not h0), (widenOk _), (widenOk _), (t_laws_sameFloat (fcv .f32 .f64 a_0.Y) (fcv .f32 .f64 b_1.Y)), (congrArg not h1), (widenOk _), (widenOk _), (t_laws_sameFloat (fcv .f32 .f64 a_0.Z) (fcv .f32 .f64 b_1.Z)), (congrArg not h2), trivial⟩) rfl) (by simp only [v_laws_eqVector, h0, h1, h2, cond_true, cond_false]) rfl
    | false =>
      exact Fn.cast (CallSt.fn (callSt_of_evK (E := E0) E0Ok hMixed (c := bodyOf Go.Proofs.Try.f86) (rows := []) (r := .b false) (rows' := [])
        (ans := [.call (.b (v_laws_sameFloat (fcv .f32 .f64 a_0.X) (fcv .f32 .f64 b_1.X))) [], .bo false, .call (.b (v_laws_sameFloat (fcv .f32 .f64 a_0.Y) (fcv .f32 .f64 b_1.Y))) [], .bo true, .keep []])
        (ps := [])
        (C := [fcvOk .f32 .f64 a_0.X = true,
          fcvOk .f32 .f64 b_1.X = true,
          Fn Go.Proofs.Try.prog 17 [.f .f64 (fcv .f32 .f64 a_0.X), .f .f64 (fcv .f32 .f64 b_1.X)] (.b (v_laws_sameFloat (fcv .f32 .f64 a_0.X) (fcv .f32 .f64 b_1.X))) [],
          (!(v_laws_sameFloat (fcv .f32 .f64 a_0.X) (fcv .f32 .f64 b_1.X))) = false,
          fcvOk .f32 .f64 a_0.Y = true,
          fcvOk .f32 .f64 b_1.Y = true,
          Fn Go.Proofs.Try.prog 17 [.f .f64 (fcv .f32 .f64 a_0.Y), .f .f64 (fcv .f32 .f64 b_1.Y)] (.b (v_laws_sameFloat (fcv .f32 .f64 a_0.Y) (fcv .f32 .f64 b_1.Y))) [],
          (!(v_laws_sameFloat (fcv .f32 .f64 a_0.Y) (fcv .f32 .f64 b_1.Y))) = true])
        Go.Proofs.Try.func86 rfl (by kernel_rfl) (by kernel_rfl)
        ⟨(widenOk _), (widenOk _), (t_laws_sameFloat (fcv .f32 .f64 a_0.X) (fcv .f32 .f64 b_1.X)), (congrArg not h0), (widenOk _), (widenOk _), (t_laws_sameFloat (fcv .f32 .f64 a_0.Y) (fcv .f32 .f64 b_1.Y)), (congrArg not h1), trivial⟩) rfl) (by simp only [v_laws_eqVector, h0, h1, cond_true, cond_false]) rfl
  | false =>
    exact Fn.cast (CallSt.fn (callSt_of_evK (E := E0) E0Ok hMixed (c := bodyOf Go.Proofs.Try.f86) (rows := []) (r := .b false) (rows' := [])
      (ans := [.call (.b (v_laws_sameFloat (fcv .f32 .f64 a_0.X) (fcv .f32 .f64 b_1.X))) [], .bo true, .keep []])
      (ps := [])
      (C := [fcvOk .f32 .f64 a_0.X = true,
        fcvOk .f32 .f64 b_1.X = true,
        Fn Go.Proofs.Try.prog 17 [.f .f64 (fcv .f32 .f64 a_0.X), .f .f64 (fcv .f32 .f64 b_1.X)] (.b (v_laws_sameFloat (fcv .f32 .f64 a_0.X) (fcv .f32 .f64 b_1.X))) [],
        (!(v_laws_sameFloat (fcv .f32 .f64 a_0.X) (fcv .f32 .f64 b_1.X))) = true])
      Go.Proofs.Try.func86 rfl (by kernel_rfl) (by kernel_rfl)
      ⟨(widenOk _), (widenOk _), (t_laws_sameFloat (fcv .f32 .f64 a_0.X) (fcv .f32 .f64 b_1.X)), (congrArg not h0), trivial⟩) rfl) (by simp only [v_laws_eqVector, h0, cond_false]) rfl

theorem eqVector_self (a : GVector) : v_laws_eqVector a a = true := by
  simp [v_laws_eqVector, same_self]

def lo_laws_eqVectorS_1 (a_0 : (List GVector)) (b_1 : (List GVector)) : Nat → Int → (Unit) ⊕ (Unit)
  | 0, _ => .inl default
  | k + 1, i_l0 => (cond (decide (i_l0 < (a_0.length : Int)))
    (cond (v_laws_eqVector (a_0.getD i_l0.toNat default) (b_1.getD i_l0.toNat default))
      (lo_laws_eqVectorS_1 a_0 b_1 k (i_l0 + 1))
      (.inl ()))
    (.inr ()))

def ls_laws_eqVectorS_1 (a_0 : (List GVector)) (b_1 : (List GVector)) : (Unit) ⊕ (Unit) → Ex × St
  | .inl r => (.ret, ⟨[.any, .any, .any, .any, .b false, .any, .any, .any, .any, .any, .any, .any, .any, .any, .any, .any, .any, .any, .any, .any, .any, .any, .any, .any, .any, .any, .any], []⟩)
  | .inr r => ((.exit 0), ⟨[.sl (a_0.map GVector.cells), .sl (b_1.map GVector.cells), .any, .any, .any, .any, .sl (a_0.map GVector.cells), .i .i64 (a_0.length : Int), .sl (b_1.map GVector.cells), .i .i64 (b_1.length : Int), .b ((a_0.length : Int) != (b_1.length : Int)), .any, .any, .any, .any, .any, .any, .any, .any, .any, .any, .any, .any, .any, .any, .any, .any], []⟩)

theorem lp_laws_eqVectorS_1 (a_0 : (List GVector)) (b_1 : (List GVector)) (hp0 : a_0.length ≤ 1073741824) (hp1 : b_1.length ≤ 1073741824) (hf_laws_eqVectorS_1_0 : ((a_0.length : Int) != (b_1.length : Int)) = false) : ∀ (k : Nat) (i_l0 : Int) (hv_laws_eqVectorS_1_0 : 0 ≤ i_l0) (hk : ((a_0.length : Int) - i_l0).toNat < k), Lp Go.Proofs.Try.prog 0 (sub (bodyOf Go.Proofs.Try.f30) [1, 1, 0, 1, 0, 0]) ⟨[.sl (a_0.map GVector.cells), .sl (b_1.map GVector.cells), .any, .any, .any, .i .i64 i_l0, .sl (a_0.map GVector.cells), .i .i64 (a_0.length : Int), .sl (b_1.map GVector.cells), .i .i64 (b_1.length : Int), .b ((a_0.length : Int) != (b_1.length : Int)), .any, .any, .any, .any, .any, .any, .any, .any, .any, .any, .any, .any, .any, .any, .any, .any], []⟩ (ls_laws_eqVectorS_1 a_0 b_1 (lo_laws_eqVectorS_1 a_0 b_1 k i_l0)).1 (ls_laws_eqVectorS_1 a_0 b_1 (lo_laws_eqVectorS_1 a_0 b_1 k i_l0)).2 := by
  intro k
  induction k with
  | zero => intro i_l0 hv_laws_eqVectorS_1_0 hk; exact absurd hk (Nat.not_lt_zero _)
  | succ k ih =>
    intro i_l0 hv_laws_eqVectorS_1_0 hk
    cases h_0 : (decide (i_l0 < (a_0.length : Int))) with
    | true =>
      cases h_1 : (v_laws_eqVector (a_0.getD i_l0.toNat default) (b_1.getD i_l0.toNat default)) with
      | true =>
        have e : lo_laws_eqVectorS_1 a_0 b_1 (k + 1) i_l0 = (lo_laws_eqVectorS_1 a_0 b_1 k (i_l0 + 1)) := by simp only [lo_laws_eqVectorS_1, h_0, h_1, cond_true]
        rw [e]
        exact stepK_next (E := E0) E0Ok hMixed (body := (sub (bodyOf Go.Proofs.Try.f30) [1, 1, 0, 1, 0, 0])) (st := ⟨[.sl (a_0.map GVector.cells), .sl (b_1.map GVector.cells), .any, .any, .any, .i .i64 i_l0, .sl (a_0.map GVector.cells), .i .i64 (a_0.length : Int), .sl (b_1.map GVector.cells), .i .i64 (b_1.length : Int), .b ((a_0.length : Int) != (b_1.length : Int)), .any, .any, .any, .any, .any, .any, .any, .any, .any, .any, .any, .any, .any, .any, .any, .any], []⟩)
          (st2 := ⟨[.sl (a_0.map GVector.cells), .sl (b_1.map GVector.cells), .any, .any, .any, .i .i64 (i_l0 + 1), .sl (a_0.map GVector.cells), .i .i64 (a_0.length : Int), .sl (b_1.map GVector.cells), .i .i64 (b_1.length : Int), .b ((a_0.length : Int) != (b_1.length : Int)), .any, .any, .any, .any, .any, .any, .any, .any, .any, .any, .any, .any, .any, .any, .any, .any], []⟩)
          (ans := [.num (a_0.length : Int), .bo true, .keep [8, 8], .el [.f .f32 ((a_0.getD i_l0.toNat default).X), .f .f32 ((a_0.getD i_l0.toNat default).Y), .f .f32 ((a_0.getD i_l0.toNat default).Z)], .el [.f .f32 ((b_1.getD i_l0.toNat default).X), .f .f32 ((b_1.getD i_l0.toNat default).Y), .f .f32 ((b_1.getD i_l0.toNat default).Z)], .call (.b (v_laws_eqVector (a_0.getD i_l0.toNat default) (b_1.getD i_l0.toNat default))) [], .bo false, .num (i_l0 + 1)])
          (ps := []) (mask := [true, true, false, false, false, true, true, true, true, true, true, false, false, false, false, false, false, false, false, false, false, false, false, false, false, false, false]) (ks := [])
          (C := [(((a_0.map GVector.cells).length : Nat) : Int) = (a_0.length : Int),
            (decide (i_l0 < (a_0.length : Int))) = true,
            0 ≤ i_l0 ∧ (a_0.map GVector.cells)[Int.toNat i_l0]? = some [.f .f32 ((a_0.getD i_l0.toNat default).X), .f .f32 ((a_0.getD i_l0.toNat default).Y), .f .f32 ((a_0.getD i_l0.toNat default).Z)],
            0 ≤ i_l0 ∧ (b_1.map GVector.cells)[Int.toNat i_l0]? = some [.f .f32 ((b_1.getD i_l0.toNat default).X), .f .f32 ((b_1.getD i_l0.toNat default).Y), .f .f32 ((b_1.getD i_l0.toNat default).Z)],
            Fn Go.Proofs.Try.prog 86 [.agg [.f .f32 ((a_0.getD i_l0.toNat default).X), .f .f32 ((a_0.getD i_l0.toNat default).Y), .f .f32 ((a_0.getD i_l0.toNat default).Z)], .agg [.f .f32 ((b_1.getD i_l0.toNat default).X), .f .f32 ((b_1.getD i_l0.toNat default).Y), .f .f32 ((b_1.getD i_l0.toNat default).Z)]] (.b (v_laws_eqVector (a_0.getD i_l0.toNat default) (b_1.getD i_l0.toNat default))) [],
            (!(v_laws_eqVector (a_0.getD i_l0.toNat default) (b_1.getD i_l0.toNat default))) = false,
            IntKind.wrap .i64 (i_l0 + 1) = (i_l0 + 1)])
          (by kernel_rfl)
          ⟨len_ok, h_0, (get_ok (by first | assumption | omega | (simp at * <;> omega) | (simp_all <;> omega)) (by first | assumption | omega | (simp at * <;> omega) | (simp_all <;> omega))), (get_ok (by first | assumption | omega | (simp at * <;> omega) | (simp_all <;> omega)) (by first | assumption | omega | (simp at * <;> omega) | (simp_all <;> omega))), (t_laws_eqVector (a_0.getD i_l0.toNat default) (b_1.getD i_l0.toNat default)), (congrArg not h_1), (wrap_id (by first | assumption | omega | (simp at * <;> omega) | (simp_all <;> omega)) (by first | assumption | omega | (simp at * <;> omega) | (simp_all <;> omega))), trivial⟩
          rfl (ih (i_l0 + 1) (show 0 ≤ (i_l0 + 1) from (by first | assumption | omega | (simp at * <;> omega) | (simp_all <;> omega))) (by first | assumption | omega | (simp at * <;> omega) | (simp_all <;> omega)))
      | false =>
        have e : lo_laws_eqVectorS_1 a_0 b_1 (k + 1) i_l0 = (.inl ()) := by simp only [lo_laws_eqVectorS_1, h_0, h_1, cond_true, cond_false]
        rw [e]
        exact stepK_out (E := E0) E0Ok hMixed (e := .ret) (body := (sub (bodyOf Go.Proofs.Try.f30) [1, 1, 0, 1, 0, 0])) (st := ⟨[.sl (a_0.map GVector.cells), .sl (b_1.map GVector.cells), .any, .any, .any, .i .i64 i_l0, .sl (a_0.map GVector.cells), .i .i64 (a_0.length : Int), .sl (b_1.map GVector.cells), .i .i64 (b_1.length : Int), .b ((a_0.length : Int) != (b_1.length : Int)), .any, .any, .any, .any, .any, .any, .any, .any, .any, .any, .any, .any, .any, .any, .any, .any], []⟩)
          (st2 := ⟨[.any, .any, .any, .any, .b false, .any, .any, .any, .any, .any, .any, .any, .any, .any, .any, .any, .any, .any, .any, .any, .any, .any, .any, .any, .any, .any, .any], []⟩)
          (ans := [.num (a_0.length : Int), .bo true, .keep [8, 8], .el [.f .f32 ((a_0.getD i_l0.toNat default).X), .f .f32 ((a_0.getD i_l0.toNat default).Y), .f .f32 ((a_0.getD i_l0.toNat default).Z)], .el [.f .f32 ((b_1.getD i_l0.toNat default).X), .f .f32 ((b_1.getD i_l0.toNat default).Y), .f .f32 ((b_1.getD i_l0.toNat default).Z)], .call (.b (v_laws_eqVector (a_0.getD i_l0.toNat default) (b_1.getD i_l0.toNat default))) [], .bo true])
          (ps := []) (mask := [false, false, false, false, true, false, false, false, false, false, false, false, false, false, false, false, false, false, false, false, false, false, false, false, false, false, false]) (ks := [])
          (C := [(((a_0.map GVector.cells).length : Nat) : Int) = (a_0.length : Int),
            (decide (i_l0 < (a_0.length : Int))) = true,
            0 ≤ i_l0 ∧ (a_0.map GVector.cells)[Int.toNat i_l0]? = some [.f .f32 ((a_0.getD i_l0.toNat default).X), .f .f32 ((a_0.getD i_l0.toNat default).Y), .f .f32 ((a_0.getD i_l0.toNat default).Z)],
            0 ≤ i_l0 ∧ (b_1.map GVector.cells)[Int.toNat i_l0]? = some [.f .f32 ((b_1.getD i_l0.toNat default).X), .f .f32 ((b_1.getD i_l0.toNat default).Y), .f .f32 ((b_1.getD i_l0.toNat default).Z)],
            Fn Go.Proofs.Try.prog 86 [.agg [.f .f32 ((a_0.getD i_l0.toNat default).X), .f .f32 ((a_0.getD i_l0.toNat default).Y), .f .f32 ((a_0.getD i_l0.toNat default).Z)], .agg [.f .f32 ((b_1.getD i_l0.toNat default).X), .f .f32 ((b_1.getD i_l0.toNat default).Y), .f .f32 ((b_1.getD i_l0.toNat default).Z)]] (.b (v_laws_eqVector (a_0.getD i_l0.toNat default) (b_1.getD i_l0.toNat default))) [],
            (!(v_laws_eqVector (a_0.getD i_l0.toNat default) (b_1.getD i_l0.toNat default))) = true])
          (by kernel_rfl)
          ⟨len_ok, h_0, (get_ok (by first | assumption | omega | (simp at * <;> omega) | (simp_all <;> omega)) (by first | assumption | omega | (simp at * <;> omega) | (simp_all <;> omega))), (get_ok (by first | assumption | omega | (simp at * <;> omega) | (simp_all <;> omega)) (by first | assumption | omega | (simp at * <;> omega) | (simp_all <;> omega))), (t_laws_eqVector (a_0.getD i_l0.toNat default) (b_1.getD i_l0.toNat default)), (congrArg not h_1), trivial⟩
          (by intro h; cases h) rfl
    | false =>
      have e : lo_laws_eqVectorS_1 a_0 b_1 (k + 1) i_l0 = (.inr ()) := by simp only [lo_laws_eqVectorS_1, h_0, cond_false]
      rw [e]
      exact stepK_out (E := E0) E0Ok hMixed (e := (.exit 0)) (body := (sub (bodyOf Go.Proofs.Try.f30) [1, 1, 0, 1, 0, 0])) (st := ⟨[.sl (a_0.map GVector.cells), .sl (b_1.map GVector.cells), .any, .any, .any, .i .i64 i_l0, .sl (a_0.map GVector.cells), .i .i64 (a_0.length : Int), .sl (b_1.map GVector.cells), .i .i64 (b_1.length : Int), .b ((a_0.length : Int) != (b_1.length : Int)), .any, .any, .any, .any, .any, .any, .any, .any, .any, .any, .any, .any, .any, .any, .any, .any], []⟩)
        (st2 := ⟨[.sl (a_0.map GVector.cells), .sl (b_1.map GVector.cells), .any, .any, .any, .any, .sl (a_0.map GVector.cells), .i .i64 (a_0.length : Int), .sl (b_1.map GVector.cells), .i .i64 (b_1.length : Int), .b ((a_0.length : Int) != (b_1.length : Int)), .any, .any, .any, .any, .any, .any, .any, .any, .any, .any, .any, .any, .any, .any, .any, .any], []⟩)
        (ans := [.num (a_0.length : Int), .bo false])
        (ps := []) (mask := [true, true, false, false, false, false, true, true, true, true, true, false, false, false, false, false, false, false, false, false, false, false, false, false, false, false, false]) (ks := [])
        (C := [(((a_0.map GVector.cells).length : Nat) : Int) = (a_0.length : Int),
          (decide (i_l0 < (a_0.length : Int))) = false])
        (by kernel_rfl)
        ⟨len_ok, h_0, trivial⟩
        (by intro h; cases h) rfl

def lr_laws_eqVectorS_1_0 (a_0 : (List GVector)) (b_1 : (List GVector)) : (Unit) ⊕ (Unit) := (lo_laws_eqVectorS_1 a_0 b_1 (((a_0.length : Int) - 0).toNat + 1) 0)

/-- laws.eqVectorS -/
def v_laws_eqVectorS (a_0 : (List GVector)) (b_1 : (List GVector)) : Bool := (cond ((a_0.length : Int) != (b_1.length : Int))
  false
  (match (lr_laws_eqVectorS_1_0 a_0 b_1) with
    | .inl r2 => false
    | .inr r2 => true))

theorem t_laws_eqVectorS (a_0 : (List GVector)) (b_1 : (List GVector)) (hp0 : a_0.length ≤ 1073741824) (hp1 : b_1.length ≤ 1073741824)  : Fn Go.Proofs.Try.prog 30 [.sl (a_0.map GVector.cells), .sl (b_1.map GVector.cells)] (.b (v_laws_eqVectorS a_0 b_1)) [] := by
  cases h0 : ((a_0.length : Int) != (b_1.length : Int)) with
  | true =>
    exact Fn.cast (CallSt.fn (callSt_of_evK (E := E0) E0Ok hMixed (c := bodyOf Go.Proofs.Try.f30) (rows := []) (r := .b false) (rows' := [])
      (ans := [.num (a_0.length : Int), .num (b_1.length : Int), .bo true, .keep []])
      (ps := [])
      (C := [(((a_0.map GVector.cells).length : Nat) : Int) = (a_0.length : Int),
        (((b_1.map GVector.cells).length : Nat) : Int) = (b_1.length : Int),
        ((a_0.length : Int) != (b_1.length : Int)) = true])
      Go.Proofs.Try.func30 rfl (by kernel_rfl) (by kernel_rfl)
      ⟨len_ok, len_ok, h0, trivial⟩) rfl) (by simp only [v_laws_eqVectorS, h0, cond_true]) rfl
  | false =>
    cases h1 : (lr_laws_eqVectorS_1_0 a_0 b_1) with
    | inl r2 =>
      exact Fn.cast (CallSt.fn (callSt_of_evK (E := E0) E0Ok hMixed (c := bodyOf Go.Proofs.Try.f30) (rows := []) (r := .b false) (rows' := [])
        (ans := [.num (a_0.length : Int), .num (b_1.length : Int), .bo false, .loop [true, true, false, false, false, true, true, true, true, true, true, false, false, false, false, false, false, false, false, false, false, false, false, false, false, false, false] 0 .ret ⟨[.any, .any, .any, .any, .b false, .any, .any, .any, .any, .any, .any, .any, .any, .any, .any, .any, .any, .any, .any, .any, .any, .any, .any, .any, .any, .any, .any], []⟩, .keep []])
        (ps := [])
        (C := [(((a_0.map GVector.cells).length : Nat) : Int) = (a_0.length : Int),
          (((b_1.map GVector.cells).length : Nat) : Int) = (b_1.length : Int),
          ((a_0.length : Int) != (b_1.length : Int)) = false,
          Lp Go.Proofs.Try.prog 0 (sub (bodyOf Go.Proofs.Try.f30) [1, 1, 0, 1, 0, 0]) ⟨[.sl (a_0.map GVector.cells), .sl (b_1.map GVector.cells), .any, .any, .any, .i .i64 0, .sl (a_0.map GVector.cells), .i .i64 (a_0.length : Int), .sl (b_1.map GVector.cells), .i .i64 (b_1.length : Int), .b ((a_0.length : Int) != (b_1.length : Int)), .any, .any, .any, .any, .any, .any, .any, .any, .any, .any, .any, .any, .any, .any, .any, .any], []⟩ .ret ⟨[.any, .any, .any, .any, .b false, .any, .any, .any, .any, .any, .any, .any, .any, .any, .any, .any, .any, .any, .any, .any, .any, .any, .any, .any, .any, .any, .any], []⟩])
        Go.Proofs.Try.func30 rfl (by kernel_rfl) (by kernel_rfl)
        ⟨len_ok, len_ok, h0, (by have q := (lp_laws_eqVectorS_1 a_0 b_1 hp0 hp1 h0 (((a_0.length : Int) - 0).toNat + 1) 0 (show 0 ≤ 0 from (by first | assumption | omega | (simp at * <;> omega) | (simp_all <;> omega))) (Nat.lt_succ_self _)); rw [show (lo_laws_eqVectorS_1 a_0 b_1 (((a_0.length : Int) - 0).toNat + 1) 0) = _ from rfl] at q; rw [show (lo_laws_eqVectorS_1 a_0 b_1 (((a_0.length : Int) - 0).toNat + 1) 0) = (lr_laws_eqVectorS_1_0 a_0 b_1) from rfl, h1] at q; exact q), trivial⟩) rfl) (by simp only [v_laws_eqVectorS, h0, h1, cond_false]) rfl
    | inr r2 =>
      exact Fn.cast (CallSt.fn (callSt_of_evK (E := E0) E0Ok hMixed (c := bodyOf Go.Proofs.Try.f30) (rows := []) (r := .b true) (rows' := [])
        (ans := [.num (a_0.length : Int), .num (b_1.length : Int), .bo false, .loop [true, true, false, false, false, true, true, true, true, true, true, false, false, false, false, false, false, false, false, false, false, false, false, false, false, false, false] 0 (.exit 0) ⟨[.sl (a_0.map GVector.cells), .sl (b_1.map GVector.cells), .any, .any, .any, .any, .sl (a_0.map GVector.cells), .i .i64 (a_0.length : Int), .sl (b_1.map GVector.cells), .i .i64 (b_1.length : Int), .b ((a_0.length : Int) != (b_1.length : Int)), .any, .any, .any, .any, .any, .any, .any, .any, .any, .any, .any, .any, .any, .any, .any, .any], []⟩, .keep []])
        (ps := [])
        (C := [(((a_0.map GVector.cells).length : Nat) : Int) = (a_0.length : Int),
          (((b_1.map GVector.cells).length : Nat) : Int) = (b_1.length : Int),
          ((a_0.length : Int) != (b_1.length : Int)) = false,
          Lp Go.Proofs.Try.prog 0 (sub (bodyOf Go.Proofs.Try.f30) [1, 1, 0, 1, 0, 0]) ⟨[.sl (a_0.map GVector.cells), .sl (b_1.map GVector.cells), .any, .any, .any, .i .i64 0, .sl (a_0.map GVector.cells), .i .i64 (a_0.length : Int), .sl (b_1.map GVector.cells), .i .i64 (b_1.length : Int), .b ((a_0.length : Int) != (b_1.length : Int)), .any, .any, .any, .any, .any, .any, .any, .any, .any, .any, .any, .any, .any, .any, .any, .any], []⟩ (.exit 0) ⟨[.sl (a_0.map GVector.cells), .sl (b_1.map GVector.cells), .any, .any, .any, .any, .sl (a_0.map GVector.cells), .i .i64 (a_0.length : Int), .sl (b_1.map GVector.cells), .i .i64 (b_1.length : Int), .b ((a_0.length : Int) != (b_1.length : Int)), .any, .any, .any, .any, .any, .any, .any, .any, .any, .any, .any, .any, .any, .any, .any, .any], []⟩])
        Go.Proofs.Try.func30 rfl (by kernel_rfl) (by kernel_rfl)
        ⟨len_ok, len_ok, h0, (by have q := (lp_laws_eqVectorS_1 a_0 b_1 hp0 hp1 h0 (((a_0.length : Int) - 0).toNat + 1) 0 (show 0 ≤ 0 from (by first | assumption | omega | (simp at * <;> omega) | (simp_all <;> omega))) (Nat.lt_succ_self _)); rw [show (lo_laws_eqVectorS_1 a_0 b_1 (((a_0.length : Int) - 0).toNat + 1) 0) = _ from rfl] at q; rw [show (lo_laws_eqVectorS_1 a_0 b_1 (((a_0.length : Int) - 0).toNat + 1) 0) = (lr_laws_eqVectorS_1_0 a_0 b_1) from rfl, h1] at q; exact q), trivial⟩) rfl) (by simp only [v_laws_eqVectorS, h0, h1, cond_false]) rfl

theorem eqVectorS_self (a : List GVector) : v_laws_eqVectorS a a = true := by
  unfold v_laws_eqVectorS lr_laws_eqVectorS_1_0
  rw [all_loop (a := a) (p := fun v => v_laws_eqVector v v) (lo := lo_laws_eqVectorS_1 a a) (x := ()) (y := ()) (fun k i => rfl) (fun v _ => eqVector_self v) _ _ (Int.le_refl 0) (Nat.lt_succ_self _)]
  simp

def lo_laws_eqInt64S_1 (a_0 : (List Int)) (b_1 : (List Int)) : Nat → Int → (Unit) ⊕ (Unit)
  | 0, _ => .inl default
  | k + 1, i_l0 => (cond (decide (i_l0 < (a_0.length : Int)))
    (cond ((a_0.getD i_l0.toNat default) != (b_1.getD i_l0.toNat default))
      (.inl ())
      (lo_laws_eqInt64S_1 a_0 b_1 k (i_l0 + 1)))
    (.inr ()))

def ls_laws_eqInt64S_1 (a_0 : (List Int)) (b_1 : (List Int)) : (Unit) ⊕ (Unit) → Ex × St
  | .inl r => (.ret, ⟨[.any, .any, .any, .any, .b false, .any, .any, .any, .any, .any, .any, .any, .any, .any, .any, .any, .any, .any, .any, .any, .any, .any, .any, .any, .any, .any], []⟩)
  | .inr r => ((.exit 0), ⟨[.sl (a_0.map (cI .i64)), .sl (b_1.map (cI .i64)), .any, .any, .any, .any, .sl (a_0.map (cI .i64)), .i .i64 (a_0.length : Int), .sl (b_1.map (cI .i64)), .i .i64 (b_1.length : Int), .b ((a_0.length : Int) != (b_1.length : Int)), .any, .any, .any, .any, .any, .any, .any, .any, .any, .any, .any, .any, .any, .any, .any], []⟩)

theorem lp_laws_eqInt64S_1 (a_0 : (List Int)) (b_1 : (List Int)) (hp0 : a_0.length ≤ 1073741824) (hp1 : b_1.length ≤ 1073741824) (hf_laws_eqInt64S_1_0 : ((a_0.length : Int) != (b_1.length : Int)) = false) : ∀ (k : Nat) (i_l0 : Int) (hv_laws_eqInt64S_1_0 : 0 ≤ i_l0) (hk : ((a_0.length : Int) - i_l0).toNat < k), Lp Go.Proofs.Try.prog 0 (sub (bodyOf Go.Proofs.Try.f42) [1, 1, 0, 1, 0, 0]) ⟨[.sl (a_0.map (cI .i64)), .sl (b_1.map (cI .i64)), .any, .any, .any, .i .i64 i_l0, .sl (a_0.map (cI .i64)), .i .i64 (a_0.length : Int), .sl (b_1.map (cI .i64)), .i .i64 (b_1.length : Int), .b ((a_0.length : Int) != (b_1.length : Int)), .any, .any, .any, .any, .any, .any, .any, .any, .any, .any, .any, .any, .any, .any, .any], []⟩ (ls_laws_eqInt64S_1 a_0 b_1 (lo_laws_eqInt64S_1 a_0 b_1 k i_l0)).1 (ls_laws_eqInt64S_1 a_0 b_1 (lo_laws_eqInt64S_1 a_0 b_1 k i_l0)).2 := by
  intro k
  induction k with
  | zero => intro i_l0 hv_laws_eqInt64S_1_0 hk; exact absurd hk (Nat.not_lt_zero _)
  | succ k ih =>
    intro i_l0 hv_laws_eqInt64S_1_0 hk
    cases h_0 : (decide (i_l0 < (a_0.length : Int))) with
    | true =>
      cases h_1 : ((a_0.getD i_l0.toNat default) != (b_1.getD i_l0.toNat default)) with
      | true =>
        have e : lo_laws_eqInt64S_1 a_0 b_1 (k + 1) i_l0 = (.inl ()) := by simp only [lo_laws_eqInt64S_1, h_0, h_1, cond_true]
        rw [e]
        exact stepK_out (E := E0) E0Ok hMixed (e := .ret) (body := (sub (bodyOf Go.Proofs.Try.f42) [1, 1, 0, 1, 0, 0])) (st := ⟨[.sl (a_0.map (cI .i64)), .sl (b_1.map (cI .i64)), .any, .any, .any, .i .i64 i_l0, .sl (a_0.map (cI .i64)), .i .i64 (a_0.length : Int), .sl (b_1.map (cI .i64)), .i .i64 (b_1.length : Int), .b ((a_0.length : Int) != (b_1.length : Int)), .any, .any, .any, .any, .any, .any, .any, .any, .any, .any, .any, .any, .any, .any, .any], []⟩)
          (st2 := ⟨[.any, .any, .any, .any, .b false, .any, .any, .any, .any, .any, .any, .any, .any, .any, .any, .any, .any, .any, .any, .any, .any, .any, .any, .any, .any, .any], []⟩)
          (ans := [.num (a_0.length : Int), .bo true, .keep [8, 8], .el [.i .i64 (a_0.getD i_l0.toNat default)], .el [.i .i64 (b_1.getD i_l0.toNat default)], .bo true])
          (ps := []) (mask := [false, false, false, false, true, false, false, false, false, false, false, false, false, false, false, false, false, false, false, false, false, false, false, false, false, false]) (ks := [])
          (C := [(((a_0.map (cI .i64)).length : Nat) : Int) = (a_0.length : Int),
            (decide (i_l0 < (a_0.length : Int))) = true,
            0 ≤ i_l0 ∧ (a_0.map (cI .i64))[Int.toNat i_l0]? = some [.i .i64 (a_0.getD i_l0.toNat default)],
            0 ≤ i_l0 ∧ (b_1.map (cI .i64))[Int.toNat i_l0]? = some [.i .i64 (b_1.getD i_l0.toNat default)],
            ((a_0.getD i_l0.toNat default) != (b_1.getD i_l0.toNat default)) = true])
          (by kernel_rfl)
          ⟨len_ok, h_0, (get_ok (by first | assumption | omega | (simp at * <;> omega) | (simp_all <;> omega)) (by first | assumption | omega | (simp at * <;> omega) | (simp_all <;> omega))), (get_ok (by first | assumption | omega | (simp at * <;> omega) | (simp_all <;> omega)) (by first | assumption | omega | (simp at * <;> omega) | (simp_all <;> omega))), h_1, trivial⟩
          (by intro h; cases h) rfl
      | false =>
        have e : lo_laws_eqInt64S_1 a_0 b_1 (k + 1) i_l0 = (lo_laws_eqInt64S_1 a_0 b_1 k (i_l0 + 1)) := by simp only [lo_laws_eqInt64S_1, h_0, h_1, cond_true, cond_false]
        rw [e]
        exact stepK_next (E := E0) E0Ok hMixed (body := (sub (bodyOf Go.Proofs.Try.f42) [1, 1, 0, 1, 0, 0])) (st := ⟨[.sl (a_0.map (cI .i64)), .sl (b_1.map (cI .i64)), .any, .any, .any, .i .i64 i_l0, .sl (a_0.map (cI .i64)), .i .i64 (a_0.length : Int), .sl (b_1.map (cI .i64)), .i .i64 (b_1.length : Int), .b ((a_0.length : Int) != (b_1.length : Int)), .any, .any, .any, .any, .any, .any, .any, .any, .any, .any, .any, .any, .any, .any, .any], []⟩)
          (st2 := ⟨[.sl (a_0.map (cI .i64)), .sl (b_1.map (cI .i64)), .any, .any, .any, .i .i64 (i_l0 + 1), .sl (a_0.map (cI .i64)), .i .i64 (a_0.length : Int), .sl (b_1.map (cI .i64)), .i .i64 (b_1.length : Int), .b ((a_0.length : Int) != (b_1.length : Int)), .any, .any, .any, .any, .any, .any, .any, .any, .any, .any, .any, .any, .any, .any, .any], []⟩)
          (ans := [.num (a_0.length : Int), .bo true, .keep [8, 8], .el [.i .i64 (a_0.getD i_l0.toNat default)], .el [.i .i64 (b_1.getD i_l0.toNat default)], .bo false, .num (i_l0 + 1)])
          (ps := []) (mask := [true, true, false, false, false, true, true, true, true, true, true, false, false, false, false, false, false, false, false, false, false, false, false, false, false, false]) (ks := [])
          (C := [(((a_0.map (cI .i64)).length : Nat) : Int) = (a_0.length : Int),
            (decide (i_l0 < (a_0.length : Int))) = true,
            0 ≤ i_l0 ∧ (a_0.map (cI .i64))[Int.toNat i_l0]? = some [.i .i64 (a_0.getD i_l0.toNat default)],
            0 ≤ i_l0 ∧ (b_1.map (cI .i64))[Int.toNat i_l0]? = some [.i .i64 (b_1.getD i_l0.toNat default)],
            ((a_0.getD i_l0.toNat default) != (b_1.getD i_l0.toNat default)) = false,
            IntKind.wrap .i64 (i_l0 + 1) = (i_l0 + 1)])
          (by kernel_rfl)
          ⟨len_ok, h_0, (get_ok (by first | assumption | omega | (simp at * <;> omega) | (simp_all <;> omega)) (by first | assumption | omega | (simp at * <;> omega) | (simp_all <;> omega))), (get_ok (by first | assumption | omega | (simp at * <;> omega) | (simp_all <;> omega)) (by first | assumption | omega | (simp at * <;> omega) | (simp_all <;> omega))), h_1, (wrap_id (by first | assumption | omega | (simp at * <;> omega) | (simp_all <;> omega)) (by first | assumption | omega | (simp at * <;> omega) | (simp_all <;> omega))), trivial⟩
          rfl (ih (i_l0 + 1) (show 0 ≤ (i_l0 + 1) from (by first | assumption | omega | (simp at * <;> omega) | (simp_all <;> omega))) (by first | assumption | omega | (simp at * <;> omega) | (simp_all <;> omega)))
    | false =>
      have e : lo_laws_eqInt64S_1 a_0 b_1 (k + 1) i_l0 = (.inr ()) := by simp only [lo_laws_eqInt64S_1, h_0, cond_false]
      rw [e]
      exact stepK_out (E := E0) E0Ok hMixed (e := (.exit 0)) (body := (sub (bodyOf Go.Proofs.Try.f42) [1, 1, 0, 1, 0, 0])) (st := ⟨[.sl (a_0.map (cI .i64)), .sl (b_1.map (cI .i64)), .any, .any, .any, .i .i64 i_l0, .sl (a_0.map (cI .i64)), .i .i64 (a_0.length : Int), .sl (b_1.map (cI .i64)), .i .i64 (b_1.length : Int), .b ((a_0.length : Int) != (b_1.length : Int)), .any, .any, .any, .any, .any, .any, .any, .any, .any, .any, .any, .any, .any, .any, .any], []⟩)
        (st2 := ⟨[.sl (a_0.map (cI .i64)), .sl (b_1.map (cI .i64)), .any, .any, .any, .any, .sl (a_0.map (cI .i64)), .i .i64 (a_0.length : Int), .sl (b_1.map (cI .i64)), .i .i64 (b_1.length : Int), .b ((a_0.length : Int) != (b_1.length : Int)), .any, .any, .any, .any, .any, .any, .any, .any, .any, .any, .any, .any, .any, .any, .any], []⟩)
        (ans := [.num (a_0.length : Int), .bo false])
        (ps := []) (mask := [true, true, false, false, false, false, true, true, true, true, true, false, false, false, false, false, false, false, false, false, false, false, false, false, false, false]) (ks := [])
        (C := [(((a_0.map (cI .i64)).length : Nat) : Int) = (a_0.length : Int),
          (decide (i_l0 < (a_0.length : Int))) = false])
        (by kernel_rfl)
        ⟨len_ok, h_0, trivial⟩
        (by intro h; cases h) rfl

def lr_laws_eqInt64S_1_0 (a_0 : (List Int)) (b_1 : (List Int)) : (Unit) ⊕ (Unit) := (lo_laws_eqInt64S_1 a_0 b_1 (((a_0.length : Int) - 0).toNat + 1) 0)

/-- laws.eqInt64S -/
def v_laws_eqInt64S (a_0 : (List Int)) (b_1 : (List Int)) : Bool := (cond ((a_0.length : Int) != (b_1.length : Int))
  false
  (match (lr_laws_eqInt64S_1_0 a_0 b_1) with
    | .inl r2 => false
    | .inr r2 => true))

theorem t_laws_eqInt64S (a_0 : (List Int)) (b_1 : (List Int)) (hp0 : a_0.length ≤ 1073741824) (hp1 : b_1.length ≤ 1073741824)  : Fn Go.Proofs.Try.prog 42 [.sl (a_0.map (cI .i64)), .sl (b_1.map (cI .i64))] (.b (v_laws_eqInt64S a_0 b_1)) [] := by
  cases h0 : ((a_0.length : Int) != (b_1.length : Int)) with
  | true =>
    exact Fn.cast (CallSt.fn (callSt_of_evK (E := E0) E0Ok hMixed (c := bodyOf Go.Proofs.Try.f42) (rows := []) (r := .b false) (rows' := [])
      (ans := [.num (a_0.length : Int), .num (b_1.length : Int), .bo true, .keep []])
      (ps := [])
      (C := [(((a_0.map (cI .i64)).length : Nat) : Int) = (a_0.length : Int),
        (((b_1.map (cI .i64)).length : Nat) : Int) = (b_1.length : Int),
        ((a_0.length : Int) != (b_1.length : Int)) = true])
      Go.Proofs.Try.func42 rfl (by kernel_rfl) (by kernel_rfl)
      ⟨len_ok, len_ok, h0, trivial⟩) rfl) (by simp only [v_laws_eqInt64S, h0, cond_true]) rfl
  | false =>
    cases h1 : (lr_laws_eqInt64S_1_0 a_0 b_1) with
    | inl r2 =>
      exact Fn.cast (CallSt.fn (callSt_of_evK (E := E0) E0Ok hMixed (c := bodyOf Go.Proofs.Try.f42) (rows := []) (r := .b false) (rows' := [])
        (ans := [.num (a_0.length : Int), .num (b_1.length : Int), .bo false, .loop [true, true, false, false, false, true, true, true, true, true, true, false, false, false, false, false, false, false, false, false, false, false, false, false, false, false] 0 .ret ⟨[.any, .any, .any, .any, .b false, .any, .any, .any, .any, .any, .any, .any, .any, .any, .any, .any, .any, .any, .any, .any, .any, .any, .any, .any, .any, .any], []⟩, .keep []])
        (ps := [])
        (C := [(((a_0.map (cI .i64)).length : Nat) : Int) = (a_0.length : Int),
          (((b_1.map (cI .i64)).length : Nat) : Int) = (b_1.length : Int),
          ((a_0.length : Int) != (b_1.length : Int)) = false,
          Lp Go.Proofs.Try.prog 0 (sub (bodyOf Go.Proofs.Try.f42) [1, 1, 0, 1, 0, 0]) ⟨[.sl (a_0.map (cI .i64)), .sl (b_1.map (cI .i64)), .any, .any, .any, .i .i64 0, .sl (a_0.map (cI .i64)), .i .i64 (a_0.length : Int), .sl (b_1.map (cI .i64)), .i .i64 (b_1.length : Int), .b ((a_0.length : Int) != (b_1.length : Int)), .any, .any, .any, .any, .any, .any, .any, .any, .any, .any, .any, .any, .any, .any, .any], []⟩ .ret ⟨[.any, .any, .any, .any, .b false, .any, .any, .any, .any, .any, .any, .any, .any, .any, .any, .any, .any, .any, .any, .any, .any, .any, .any, .any, .any, .any], []⟩])
        Go.Proofs.Try.func42 rfl (by kernel_rfl) (by kernel_rfl)
        ⟨len_ok, len_ok, h0, (by have q := (lp_laws_eqInt64S_1 a_0 b_1 hp0 hp1 h0 (((a_0.length : Int) - 0).toNat + 1) 0 (show 0 ≤ 0 from (by first | assumption | omega | (simp at * <;> omega) | (simp_all <;> omega))) (Nat.lt_succ_self _)); rw [show (lo_laws_eqInt64S_1 a_0 b_1 (((a_0.length : Int) - 0).toNat + 1) 0) = _ from rfl] at q; rw [show (lo_laws_eqInt64S_1 a_0 b_1 (((a_0.length : Int) - 0).toNat + 1) 0) = (lr_laws_eqInt64S_1_0 a_0 b_1) from rfl, h1] at q; exact q), trivial⟩) rfl) (by simp only [v_laws_eqInt64S, h0, h1, cond_false]) rfl
    | inr r2 =>
      exact Fn.cast (CallSt.fn (callSt_of_evK (E := E0) E0Ok hMixed (c := bodyOf Go.Proofs.Try.f42) (rows := []) (r := .b true) (rows' := [])
        (ans := [.num (a_0.length : Int), .num (b_1.length : Int), .bo false, .loop [true, true, false, false, false, true, true, true, true, true, true, false, false, false, false, false, false, false, false, false, false, false, false, false, false, false] 0 (.exit 0) ⟨[.sl (a_0.map (cI .i64)), .sl (b_1.map (cI .i64)), .any, .any, .any, .any, .sl (a_0.map (cI .i64)), .i .i64 (a_0.length : Int), .sl (b_1.map (cI .i64)), .i .i64 (b_1.length : Int), .b ((a_0.length : Int) != (b_1.length : Int)), .any, .any, .any, .any, .any, .any, .any, .any, .any, .any, .any, .any, .any, .any, .any], []⟩, .keep []])
        (ps := [])
        (C := [(((a_0.map (cI .i64)).length : Nat) : Int) = (a_0.length : Int),
          (((b_1.map (cI .i64)).length : Nat) : Int) = (b_1.length : Int),
          ((a_0.length : Int) != (b_1.length : Int)) = false,
          Lp Go.Proofs.Try.prog 0 (sub (bodyOf Go.Proofs.Try.f42) [1, 1, 0, 1, 0, 0]) ⟨[.sl (a_0.map (cI .i64)), .sl (b_1.map (cI .i64)), .any, .any, .any, .i .i64 0, .sl (a_0.map (cI .i64)), .i .i64 (a_0.length : Int), .sl (b_1.map (cI .i64)), .i .i64 (b_1.length : Int), .b ((a_0.length : Int) != (b_1.length : Int)), .any, .any, .any, .any, .any, .any, .any, .any, .any, .any, .any, .any, .any, .any, .any], []⟩ (.exit 0) ⟨[.sl (a_0.map (cI .i64)), .sl (b_1.map (cI .i64)), .any, .any, .any, .any, .sl (a_0.map (cI .i64)), .i .i64 (a_0.length : Int), .sl (b_1.map (cI .i64)), .i .i64 (b_1.length : Int), .b ((a_0.length : Int) != (b_1.length : Int)), .any, .any, .any, .any, .any, .any, .any, .any, .any, .any, .any, .any, .any, .any, .any], []⟩])
        Go.Proofs.Try.func42 rfl (by kernel_rfl) (by kernel_rfl)
        ⟨len_ok, len_ok, h0, (by have q := (lp_laws_eqInt64S_1 a_0 b_1 hp0 hp1 h0 (((a_0.length : Int) - 0).toNat + 1) 0 (show 0 ≤ 0 from (by first | assumption | omega | (simp at * <;> omega) | (simp_all <;> omega))) (Nat.lt_succ_self _)); rw [show (lo_laws_eqInt64S_1 a_0 b_1 (((a_0.length : Int) - 0).toNat + 1) 0) = _ from rfl] at q; rw [show (lo_laws_eqInt64S_1 a_0 b_1 (((a_0.length : Int) - 0).toNat + 1) 0) = (lr_laws_eqInt64S_1_0 a_0 b_1) from rfl, h1] at q; exact q), trivial⟩) rfl) (by simp only [v_laws_eqInt64S, h0, h1, cond_false]) rfl

theorem eqInt64S_self (a : List Int) : v_laws_eqInt64S a a = true := by
  unfold v_laws_eqInt64S lr_laws_eqInt64S_1_0
  rw [all_from (a := a) (p := fun v => !(v != v)) (lo := lo_laws_eqInt64S_1 a a) (x := ()) (y := ()) (fun k i => by rw [lo_laws_eqInt64S_1]; cases (a.getD i.toNat default != a.getD i.toNat default) <;> rfl)]
  rw [show (a.all fun v => !(v != v)) = true from by rw [List.all_eq_true]; intro v _; simp]
  simp

def lo_laws_eqInt64SS_1 (a_0 : (List (List Int))) (b_1 : (List (List Int))) : Nat → Int → (Unit) ⊕ (Unit)
  | 0, _ => .inl default
  | k + 1, i_l0 => (cond (decide (i_l0 < (a_0.length : Int)))
    (cond (v_laws_eqInt64S (a_0.getD i_l0.toNat default) (b_1.getD i_l0.toNat default))
      (lo_laws_eqInt64SS_1 a_0 b_1 k (i_l0 + 1))
      (.inl ()))
    (.inr ()))

def ls_laws_eqInt64SS_1 (a_0 : (List (List Int))) (b_1 : (List (List Int))) : (Unit) ⊕ (Unit) → Ex × St
  | .inl r => (.ret, ⟨[.any, .any, .any, .any, .b false, .any, .any, .any, .any, .any, .any, .any, .any, .any, .any, .any, .any, .any, .any, .any, .any, .any, .any, .any, .any, .any, .any], []⟩)
  | .inr r => ((.exit 0), ⟨[.sl (a_0.map (cL (cI .i64))), .sl (b_1.map (cL (cI .i64))), .any, .any, .any, .any, .sl (a_0.map (cL (cI .i64))), .i .i64 (a_0.length : Int), .sl (b_1.map (cL (cI .i64))), .i .i64 (b_1.length : Int), .b ((a_0.length : Int) != (b_1.length : Int)), .any, .any, .any, .any, .any, .any, .any, .any, .any, .any, .any, .any, .any, .any, .any, .any], []⟩)

theorem lp_laws_eqInt64SS_1 (a_0 : (List (List Int))) (b_1 : (List (List Int))) (hp0 : a_0.length ≤ 1073741824) (hp1 : ∀ t ∈ a_0, t.length ≤ 1073741824) (hp2 : b_1.length ≤ 1073741824) (hp3 : ∀ t ∈ b_1, t.length ≤ 1073741824) (hf_laws_eqInt64SS_1_0 : ((a_0.length : Int) != (b_1.length : Int)) = false) : ∀ (k : Nat) (i_l0 : Int) (hv_laws_eqInt64SS_1_0 : 0 ≤ i_l0) (hk : ((a_0.length : Int) - i_l0).toNat < k), Lp Go.Proofs.Try.prog 0 (sub (bodyOf Go.Proofs.Try.f76) [1, 1, 0, 1, 0, 0]) ⟨[.sl (a_0.map (cL (cI .i64))), .sl (b_1.map (cL (cI .i64))), .any, .any, .any, .i .i64 i_l0, .sl (a_0.map (cL (cI .i64))), .i .i64 (a_0.length : Int), .sl (b_1.map (cL (cI .i64))), .i .i64 (b_1.length : Int), .b ((a_0.length : Int) != (b_1.length : Int)), .any, .any, .any, .any, .any, .any, .any, .any, .any, .any, .any, .any, .any, .any, .any, .any], []⟩ (ls_laws_eqInt64SS_1 a_0 b_1 (lo_laws_eqInt64SS_1 a_0 b_1 k i_l0)).1 (ls_laws_eqInt64SS_1 a_0 b_1 (lo_laws_eqInt64SS_1 a_0 b_1 k i_l0)).2 := by
  intro k
  induction k with
  | zero => intro i_l0 hv_laws_eqInt64SS_1_0 hk; exact absurd hk (Nat.not_lt_zero _)
  | succ k ih =>
    intro i_l0 hv_laws_eqInt64SS_1_0 hk
    cases h_0 : (decide (i_l0 < (a_0.length : Int))) with
    | true =>
      cases h_1 : (v_laws_eqInt64S (a_0.getD i_l0.toNat default) (b_1.getD i_l0.toNat default)) with
      | true =>
        have e : lo_laws_eqInt64SS_1 a_0 b_1 (k + 1) i_l0 = (lo_laws_eqInt64SS_1 a_0 b_1 k (i_l0 + 1)) := by simp only [lo_laws_eqInt64SS_1, h_0, h_1, cond_true]
        rw [e]
        exact stepK_next (E := E0) E0Ok hMixed (body := (sub (bodyOf Go.Proofs.Try.f76) [1, 1, 0, 1, 0, 0])) (st := ⟨[.sl (a_0.map (cL (cI .i64))), .sl (b_1.map (cL (cI .i64))), .any, .any, .any, .i .i64 i_l0, .sl (a_0.map (cL (cI .i64))), .i .i64 (a_0.length : Int), .sl (b_1.map (cL (cI .i64))), .i .i64 (b_1.length : Int), .b ((a_0.length : Int) != (b_1.length : Int)), .any, .any, .any, .any, .any, .any, .any, .any, .any, .any, .any, .any, .any, .any, .any, .any], []⟩)
          (st2 := ⟨[.sl (a_0.map (cL (cI .i64))), .sl (b_1.map (cL (cI .i64))), .any, .any, .any, .i .i64 (i_l0 + 1), .sl (a_0.map (cL (cI .i64))), .i .i64 (a_0.length : Int), .sl (b_1.map (cL (cI .i64))), .i .i64 (b_1.length : Int), .b ((a_0.length : Int) != (b_1.length : Int)), .any, .any, .any, .any, .any, .any, .any, .any, .any, .any, .any, .any, .any, .any, .any, .any], []⟩)
          (ans := [.num (a_0.length : Int), .bo true, .keep [8, 8], .el [.sl ((a_0.getD i_l0.toNat default).map (cI .i64))], .el [.sl ((b_1.getD i_l0.toNat default).map (cI .i64))], .call (.b (v_laws_eqInt64S (a_0.getD i_l0.toNat default) (b_1.getD i_l0.toNat default))) [], .bo false, .num (i_l0 + 1)])
          (ps := []) (mask := [true, true, false, false, false, true, true, true, true, true, true, false, false, false, false, false, false, false, false, false, false, false, false, false, false, false, false]) (ks := [])
          (C := [(((a_0.map (cL (cI .i64))).length : Nat) : Int) = (a_0.length : Int),
            (decide (i_l0 < (a_0.length : Int))) = true,
            0 ≤ i_l0 ∧ (a_0.map (cL (cI .i64)))[Int.toNat i_l0]? = some [.sl ((a_0.getD i_l0.toNat default).map (cI .i64))],
            0 ≤ i_l0 ∧ (b_1.map (cL (cI .i64)))[Int.toNat i_l0]? = some [.sl ((b_1.getD i_l0.toNat default).map (cI .i64))],
            Fn Go.Proofs.Try.prog 42 [.sl ((a_0.getD i_l0.toNat default).map (cI .i64)), .sl ((b_1.getD i_l0.toNat default).map (cI .i64))] (.b (v_laws_eqInt64S (a_0.getD i_l0.toNat default) (b_1.getD i_l0.toNat default))) [],
            (!(v_laws_eqInt64S (a_0.getD i_l0.toNat default) (b_1.getD i_l0.toNat default))) = false,
            IntKind.wrap .i64 (i_l0 + 1) = (i_l0 + 1)])
          (by kernel_rfl)
          ⟨len_ok, h_0, (get_ok (by first | assumption | omega | (simp at * <;> omega) | (simp_all <;> omega)) (by first | assumption | omega | (simp at * <;> omega) | (simp_all <;> omega))), (get_ok (by first | assumption | omega | (simp at * <;> omega) | (simp_all <;> omega)) (by first | assumption | omega | (simp at * <;> omega) | (simp_all <;> omega))), (t_laws_eqInt64S (a_0.getD i_l0.toNat default) (b_1.getD i_l0.toNat default) (show (a_0.getD i_l0.toNat default).length ≤ 1073741824 from (by first | assumption | omega | (simp at * <;> omega) | (simp_all <;> omega))) (show (b_1.getD i_l0.toNat default).length ≤ 1073741824 from (by first | assumption | omega | (simp at * <;> omega) | (simp_all <;> omega)))), (congrArg not h_1), (wrap_id (by first | assumption | omega | (simp at * <;> omega) | (simp_all <;> omega)) (by first | assumption | omega | (simp at * <;> omega) | (simp_all <;> omega))), trivial⟩
          rfl (ih (i_l0 + 1) (show 0 ≤ (i_l0 + 1) from (by first | assumption | omega | (simp at * <;> omega) | (simp_all <;> omega))) (by first | assumption | omega | (simp at * <;> omega) | (simp_all <;> omega)))
      | false =>
        have e : lo_laws_eqInt64SS_1 a_0 b_1 (k + 1) i_l0 = (.inl ()) := by simp only [lo_laws_eqInt64SS_1, h_0, h_1, cond_true, cond_false]
        rw [e]
        exact stepK_out (E := E0) E0Ok hMixed (e := .ret) (body := (sub (bodyOf Go.Proofs.Try.f76) [1, 1, 0, 1, 0, 0])) (st := ⟨[.sl (a_0.map (cL (cI .i64))), .sl (b_1.map (cL (cI .i64))), .any, .any, .any, .i .i64 i_l0, .sl (a_0.map (cL (cI .i64))), .i .i64 (a_0.length : Int), .sl (b_1.map (cL (cI .i64))), .i .i64 (b_1.length : Int), .b ((a_0.length : Int) != (b_1.length : Int)), .any, .any, .any, .any, .any, .any, .any, .any, .any, .any, .any, .any, .any, .any, .any, .any], []⟩)
          (st2 := ⟨[.any, .any, .any, .any, .b false, .any, .any, .any, .any, .any, .any, .any, .any, .any, .any, .any, .any, .any, .any, .any, .any, .any, .any, .any, .any, .any, .any], []⟩)
          (ans := [.num (a_0.length : Int), .bo true, .keep [8, 8], .el [.sl ((a_0.getD i_l0.toNat default).map (cI .i64))], .el [.sl ((b_1.getD i_l0.toNat default).map (cI .i64))], .call (.b (v_laws_eqInt64S (a_0.getD i_l0.toNat default) (b_1.getD i_l0.toNat default))) [], .bo true])
          (ps := []) (mask := [false, false, false, false, true, false, false, false, false, false, false, false, false, false, false, false, false, false, false, false, false, false, false, false, false, false, false]) (ks := [])
          (C := [(((a_0.map (cL (cI .i64))).length : Nat) : Int) = (a_0.length : Int),
            (decide (i_l0 < (a_0.length : Int))) = true,
            0 ≤ i_l0 ∧ (a_0.map (cL (cI .i64)))[Int.toNat i_l0]? = some [.sl ((a_0.getD i_l0.toNat default).map (cI .i64))],
            0 ≤ i_l0 ∧ (b_1.map (cL (cI .i64)))[Int.toNat i_l0]? = some [.sl ((b_1.getD i_l0.toNat default).map (cI .i64))],
            Fn Go.Proofs.Try.prog 42 [.sl ((a_0.getD i_l0.toNat default).map (cI .i64)), .sl ((b_1.getD i_l0.toNat default).map (cI .i64))] (.b (v_laws_eqInt64S (a_0.getD i_l0.toNat default) (b_1.getD i_l0.toNat default))) [],
            (!(v_laws_eqInt64S (a_0.getD i_l0.toNat default) (b_1.getD i_l0.toNat default))) = true])
          (by kernel_rfl)
          ⟨len_ok, h_0, (get_ok (by first | assumption | omega | (simp at * <;> omega) | (simp_all <;> omega)) (by first | assumption | omega | (simp at * <;> omega) | (simp_all <;> omega))), (get_ok (by first | assumption | omega | (simp at * <;> omega) | (simp_all <;> omega)) (by first | assumption | omega | (simp at * <;> omega) | (simp_all <;> omega))), (t_laws_eqInt64S (a_0.getD i_l0.toNat default) (b_1.getD i_l0.toNat default) (show (a_0.getD i_l0.toNat default).length ≤ 1073741824 from (by first | assumption | omega | (simp at * <;> omega) | (simp_all <;> omega))) (show (b_1.getD i_l0.toNat default).length ≤ 1073741824 from (by first | assumption | omega | (simp at * <;> omega) | (simp_all <;> omega)))), (congrArg not h_1), trivial⟩
          (by intro h; cases h) rfl
    | false =>
      have e : lo_laws_eqInt64SS_1 a_0 b_1 (k + 1) i_l0 = (.inr ()) := by simp only [lo_laws_eqInt64SS_1, h_0, cond_false]
      rw [e]
      exact stepK_out (E := E0) E0Ok hMixed (e := (.exit 0)) (body := (sub (bodyOf Go.Proofs.Try.f76) [1, 1, 0, 1, 0, 0])) (st := ⟨[.sl (a_0.map (cL (cI .i64))), .sl (b_1.map (cL (cI .i64))), .any, .any, .any, .i .i64 i_l0, .sl (a_0.map (cL (cI .i64))), .i .i64 (a_0.length : Int), .sl (b_1.map (cL (cI .i64))), .i .i64 (b_1.length : Int), .b ((a_0.length : Int) != (b_1.length : Int)), .any, .any, .any, .any, .any, .any, .any, .any, .any, .any, .any, .any, .any, .any, .any, .any], []⟩)
        (st2 := ⟨[.sl (a_0.map (cL (cI .i64))), .sl (b_1.map (cL (cI .i64))), .any, .any, .any, .any, .sl (a_0.map (cL (cI .i64))), .i .i64 (a_0.length : Int), .sl (b_1.map (cL (cI .i64))), .i .i64 (b_1.length : Int), .b ((a_0.length : Int) != (b_1.length : Int)), .any, .any, .any, .any, .any, .any, .any, .any, .any, .any, .any, .any, .any, .any, .any, .any], []⟩)
        (ans := [.num (a_0.length : Int), .bo false])
        (ps := []) (mask := [true, true, false, false, false, false, true, true, true, true, true, false, false, false, false, false, false, false, false, false, false, false, false, false, false, false, false]) (ks := [])
        (C := [(((a_0.map (cL (cI .i64))).length : Nat) : Int) = (a_0.length : Int),
          (decide (i_l0 < (a_0.length : Int))) = false])
        (by kernel_rfl)
        ⟨len_ok, h_0, trivial⟩
        (by intro h; cases h) rfl

def lr_laws_eqInt64SS_1_0 (a_0 : (List (List Int))) (b_1 : (List (List Int))) : (Unit) ⊕ (Unit) := (lo_laws_eqInt64SS_1 a_0 b_1 (((a_0.length : Int) - 0).toNat + 1) 0)

end Go.Ab
