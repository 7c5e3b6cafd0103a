/- The functions of this seat as plain Lean, and that the program's are these. Printed by a program of the prover's own. -/
import Derived.Test.YtceihfmhaojohaaB4
set_option linter.unusedVariables false
set_option maxRecDepth 100000
namespace Go.Ab
open Go.Proofs.Try
open Go.RowKit

def v_laws_sameFloat (a_0 : Nat) (b_1 : Nat) : Bool := (cond (fcmp .neq .f64 a_0 a_0)
  (fcmp .neq .f64 b_1 b_1)
  (cond (fcmp .neq .f64 b_1 b_1)
    false
    (cond (fcmp .eql .f64 a_0 0)
      (cond (fcmp .eql .f64 b_1 0)
        ((fcmp .gtr .f64 (fop .quo .f64 4607182418800017408 a_0) 0) == (fcmp .gtr .f64 (fop .quo .f64 4607182418800017408 b_1) 0))
        (fcmp .eql .f64 a_0 b_1))
      (fcmp .eql .f64 a_0 b_1))))

theorem t_laws_sameFloat (a_0 : Nat) (b_1 : Nat)   : Fn prog 17 [.f .f64 a_0, .f .f64 b_1] (.b (v_laws_sameFloat a_0 b_1)) [] := by
 cases h0 : (fcmp .neq .f64 a_0 a_0) with
 | true =>
  exact Fn.cast (CallSt.fn (callSt_of_evK (E := E0) E0Ok hMixed (c := bodyOf f17) (rows := []) (r := .b (fcmp .neq .f64 b_1 b_1)) (rows' := [])
   (ans := [.bo true, .bo true, .bo true, .bo true, .bo true, .bo true, .bo true, .bo true, .bo true, .keep []])
   (ps := [])
   (C := [(fcmp .neq .f64 a_0 a_0) = true,
    (fcmp .neq .f64 a_0 a_0) = true,
    (fcmp .neq .f64 a_0 a_0) = true,
    (fcmp .neq .f64 a_0 a_0) = true,
    true = true,
    (fcmp .neq .f64 a_0 a_0) = true,
    (fcmp .neq .f64 a_0 a_0) = true,
    (fcmp .neq .f64 a_0 a_0) = true,
    (fcmp .neq .f64 a_0 a_0) = true])
   func17 rfl (by kernel_rfl) (by kernel_rfl)
   ⟨h0, h0, h0, h0, rfl, h0, h0, h0, h0, trivial⟩) rfl) (by simp only [v_laws_sameFloat, h0, cond_true]) rfl
 | false =>
  cases h1 : (fcmp .neq .f64 b_1 b_1) with
  | true =>
   exact Fn.cast (CallSt.fn (callSt_of_evK (E := E0) E0Ok hMixed (c := bodyOf f17) (rows := []) (r := .b false) (rows' := [])
    (ans := [.bo false, .bo false, .bo false, .bo false, .bo true, .bo false, .bo false, .bo false, .bo false, .keep []])
    (ps := [])
    (C := [(fcmp .neq .f64 a_0 a_0) = false,
     (fcmp .neq .f64 a_0 a_0) = false,
     (fcmp .neq .f64 a_0 a_0) = false,
     (fcmp .neq .f64 a_0 a_0) = false,
     (fcmp .neq .f64 b_1 b_1) = true,
     (fcmp .neq .f64 a_0 a_0) = false,
     (fcmp .neq .f64 a_0 a_0) = false,
     (fcmp .neq .f64 a_0 a_0) = false,
     (fcmp .neq .f64 a_0 a_0) = false])
    func17 rfl (by kernel_rfl) (by kernel_rfl)
    ⟨h0, h0, h0, h0, h1, h0, h0, h0, h0, trivial⟩) rfl) (by simp only [v_laws_sameFloat, h0, h1, cond_true, cond_false]) rfl
  | false =>
   cases h2 : (fcmp .eql .f64 a_0 0) with
   | true =>
    cases h3 : (fcmp .eql .f64 b_1 0) with
    | true =>
     exact Fn.cast (CallSt.fn (callSt_of_evK (E := E0) E0Ok hMixed (c := bodyOf f17) (rows := []) (r := .b ((fcmp .gtr .f64 (fop .quo .f64 4607182418800017408 a_0) 0) == (fcmp .gtr .f64 (fop .quo .f64 4607182418800017408 b_1) 0))) (rows' := [])
      (ans := [.bo false, .bo false, .bo false, .bo false, .bo false, .bo true, .bo true, .bo true, .bo true, .keep []])
      (ps := [])
      (C := [(fcmp .neq .f64 a_0 a_0) = false,
       (fcmp .neq .f64 a_0 a_0) = false,
       (fcmp .neq .f64 a_0 a_0) = false,
       (fcmp .neq .f64 a_0 a_0) = false,
       (fcmp .neq .f64 b_1 b_1) = false,
       (fcmp .eql .f64 a_0 0) = true,
       (fcmp .eql .f64 a_0 0) = true,
       (fcmp .eql .f64 a_0 0) = true,
       (fcmp .eql .f64 b_1 0) = true])
      func17 rfl (by kernel_rfl) (by kernel_rfl)
      ⟨h0, h0, h0, h0, h1, h2, h2, h2, h3, trivial⟩) rfl) (by simp only [v_laws_sameFloat, h0, h1, h2, h3, cond_true, cond_false]) rfl
    | false =>
     exact Fn.cast (CallSt.fn (callSt_of_evK (E := E0) E0Ok hMixed (c := bodyOf f17) (rows := []) (r := .b (fcmp .eql .f64 a_0 b_1)) (rows' := [])
      (ans := [.bo false, .bo false, .bo false, .bo false, .bo false, .bo true, .bo true, .bo true, .bo false, .keep []])
      (ps := [])
      (C := [(fcmp .neq .f64 a_0 a_0) = false,
       (fcmp .neq .f64 a_0 a_0) = false,
       (fcmp .neq .f64 a_0 a_0) = false,
       (fcmp .neq .f64 a_0 a_0) = false,
       (fcmp .neq .f64 b_1 b_1) = false,
       (fcmp .eql .f64 a_0 0) = true,
       (fcmp .eql .f64 a_0 0) = true,
       (fcmp .eql .f64 a_0 0) = true,
       (fcmp .eql .f64 b_1 0) = false])
      func17 rfl (by kernel_rfl) (by kernel_rfl)
      ⟨h0, h0, h0, h0, h1, h2, h2, h2, h3, trivial⟩) rfl) (by simp only [v_laws_sameFloat, h0, h1, h2, h3, cond_true, cond_false]) rfl
   | false =>
    exact Fn.cast (CallSt.fn (callSt_of_evK (E := E0) E0Ok hMixed (c := bodyOf f17) (rows := []) (r := .b (fcmp .eql .f64 a_0 b_1)) (rows' := [])
     (ans := [.bo false, .bo false, .bo false, .bo false, .bo false, .bo false, .bo false, .bo false, .bo false, .keep []])
     (ps := [])
     (C := [(fcmp .neq .f64 a_0 a_0) = false,
      (fcmp .neq .f64 a_0 a_0) = false,
      (fcmp .neq .f64 a_0 a_0) = false,
      (fcmp .neq .f64 a_0 a_0) = false,
      (fcmp .neq .f64 b_1 b_1) = false,
      (fcmp .eql .f64 a_0 0) = false,
      (fcmp .eql .f64 a_0 0) = false,
      (fcmp .eql .f64 a_0 0) = false,
      false = false])
     func17 rfl (by kernel_rfl) (by kernel_rfl)
     ⟨h0, h0, h0, h0, h1, h2, h2, h2, rfl, trivial⟩) rfl) (by simp only [v_laws_sameFloat, h0, h1, h2, cond_false]) rfl

theorem same_self (x : Nat) : v_laws_sameFloat x x = true := by
  unfold v_laws_sameFloat
  cases h : fcmp .neq .f64 x x
  · simp only [cond_false]
    have h2 : fcmp .eql .f64 x x = true := by
      unfold fcmp at h ⊢
      simpa using h
    cases fcmp .eql .f64 x 0 <;> simp [h2]
  · rfl

def lo_laws_eqFloat32S_1 (a_0 : (List Nat)) (b_1 : (List Nat)) : Nat → Int → (Unit) ⊕ (Unit)
  | 0, _ => .inl default
  | k + 1, i_l0 => (cond (decide (i_l0 < (a_0.length : Int)))
    (cond (v_laws_sameFloat (fcv .f32 .f64 (a_0.getD i_l0.toNat default)) (fcv .f32 .f64 (b_1.getD i_l0.toNat default)))
      (lo_laws_eqFloat32S_1 a_0 b_1 k (i_l0 + 1))
      (.inl ()))
    (.inr ()))

def ls_laws_eqFloat32S_1 (a_0 : (List Nat)) (b_1 : (List Nat)) : (Unit) ⊕ (Unit) → Ex × St
  | .inl r => (.ret, ⟨[.any, .any, .any, .any, .b false, .any, .any, .any, .any, .any, .any, .any, .any, .any, .any, .any, .any, .any, .any, .any, .any, .any, .any, .any, .any, .any, .any, .any, .any], []⟩)
  | .inr r => ((.exit 0), ⟨[.sl (a_0.map (cF .f32)), .sl (b_1.map (cF .f32)), .any, .any, .any, .any, .sl (a_0.map (cF .f32)), .i .i64 (a_0.length : Int), .sl (b_1.map (cF .f32)), .i .i64 (b_1.length : Int), .b ((a_0.length : Int) != (b_1.length : Int)), .any, .any, .any, .any, .any, .any, .any, .any, .any, .any, .any, .any, .any, .any, .any, .any, .any, .any], []⟩)

theorem lp_laws_eqFloat32S_1 (a_0 : (List Nat)) (b_1 : (List Nat)) (hp0 : a_0.length ≤ 1073741824) (hp1 : b_1.length ≤ 1073741824) (hf_laws_eqFloat32S_1_0 : ((a_0.length : Int) != (b_1.length : Int)) = false) : ∀ (k : Nat) (i_l0 : Int) (hv_laws_eqFloat32S_1_0 : 0 ≤ i_l0) (hk : ((a_0.length : Int) - i_l0).toNat < k), Lp prog 0 (sub (bodyOf f35) [1, 1, 0, 1, 0, 0]) ⟨[.sl (a_0.map (cF .f32)), .sl (b_1.map (cF .f32)), .any, .any, .any, .i .i64 i_l0, .sl (a_0.map (cF .f32)), .i .i64 (a_0.length : Int), .sl (b_1.map (cF .f32)), .i .i64 (b_1.length : Int), .b ((a_0.length : Int) != (b_1.length : Int)), .any, .any, .any, .any, .any, .any, .any, .any, .any, .any, .any, .any, .any, .any, .any, .any, .any, .any], []⟩ (ls_laws_eqFloat32S_1 a_0 b_1 (lo_laws_eqFloat32S_1 a_0 b_1 k i_l0)).1 (ls_laws_eqFloat32S_1 a_0 b_1 (lo_laws_eqFloat32S_1 a_0 b_1 k i_l0)).2 := by
 intro k
 induction k with
 | zero => intro i_l0 hv_laws_eqFloat32S_1_0 hk; exact absurd hk (Nat.not_lt_zero _)
 | succ k ih =>
  intro i_l0 hv_laws_eqFloat32S_1_0 hk
  cases h_0 : (decide (i_l0 < (a_0.length : Int))) with
  | true =>
   cases h_1 : (v_laws_sameFloat (fcv .f32 .f64 (a_0.getD i_l0.toNat default)) (fcv .f32 .f64 (b_1.getD i_l0.toNat default))) with
   | true =>
    have e : lo_laws_eqFloat32S_1 a_0 b_1 (k + 1) i_l0 = (lo_laws_eqFloat32S_1 a_0 b_1 k (i_l0 + 1)) := by simp only [lo_laws_eqFloat32S_1, h_0, h_1, cond_true]
    rw [e]
    exact stepK_next (E := E0) E0Ok hMixed (body := (sub (bodyOf f35) [1, 1, 0, 1, 0, 0])) (st := ⟨[.sl (a_0.map (cF .f32)), .sl (b_1.map (cF .f32)), .any, .any, .any, .i .i64 i_l0, .sl (a_0.map (cF .f32)), .i .i64 (a_0.length : Int), .sl (b_1.map (cF .f32)), .i .i64 (b_1.length : Int), .b ((a_0.length : Int) != (b_1.length : Int)), .any, .any, .any, .any, .any, .any, .any, .any, .any, .any, .any, .any, .any, .any, .any, .any, .any, .any], []⟩)
     (st2 := ⟨[.sl (a_0.map (cF .f32)), .sl (b_1.map (cF .f32)), .any, .any, .any, .i .i64 (i_l0 + 1), .sl (a_0.map (cF .f32)), .i .i64 (a_0.length : Int), .sl (b_1.map (cF .f32)), .i .i64 (b_1.length : Int), .b ((a_0.length : Int) != (b_1.length : Int)), .any, .any, .any, .any, .any, .any, .any, .any, .any, .any, .any, .any, .any, .any, .any, .any, .any, .any], []⟩)
     (ans := [.num (a_0.length : Int), .bo true, .keep [10, 10], .el [.f .f32 (a_0.getD i_l0.toNat default)], .el [.f .f32 (b_1.getD i_l0.toNat default)], .call (.b (v_laws_sameFloat (fcv .f32 .f64 (a_0.getD i_l0.toNat default)) (fcv .f32 .f64 (b_1.getD i_l0.toNat default)))) [], .bo false, .num (i_l0 + 1)])
     (ps := []) (mask := [true, true, false, false, false, true, true, true, true, true, true, false, false, false, false, false, false, false, false, false, false, false, false, false, false, false, false, false, false]) (ks := [])
     (C := [(((a_0.map (cF .f32)).length : Nat) : Int) = (a_0.length : Int),
      (decide (i_l0 < (a_0.length : Int))) = true,
      0 ≤ i_l0 ∧ (a_0.map (cF .f32))[Int.toNat i_l0]? = some [.f .f32 (a_0.getD i_l0.toNat default)],
      fcvOk .f32 .f64 (a_0.getD i_l0.toNat default) = true,
      0 ≤ i_l0 ∧ (b_1.map (cF .f32))[Int.toNat i_l0]? = some [.f .f32 (b_1.getD i_l0.toNat default)],
      fcvOk .f32 .f64 (b_1.getD i_l0.toNat default) = true,
      Fn prog 17 [.f .f64 (fcv .f32 .f64 (a_0.getD i_l0.toNat default)), .f .f64 (fcv .f32 .f64 (b_1.getD i_l0.toNat default))] (.b (v_laws_sameFloat (fcv .f32 .f64 (a_0.getD i_l0.toNat default)) (fcv .f32 .f64 (b_1.getD i_l0.toNat default)))) [],
      (!(v_laws_sameFloat (fcv .f32 .f64 (a_0.getD i_l0.toNat default)) (fcv .f32 .f64 (b_1.getD i_l0.toNat default)))) = false,
      IntKind.wrap .i64 (i_l0 + 1) = (i_l0 + 1)])
     (by kernel_rfl)
     ⟨len_ok, h_0, (get_ok (by first | assumption | omega | (simp_all <;> omega)) (by first | assumption | omega | (simp_all <;> omega))), (widenOk _), (get_ok (by first | assumption | omega | (simp_all <;> omega)) (by first | assumption | omega | (simp_all <;> omega))), (widenOk _), (t_laws_sameFloat (fcv .f32 .f64 (a_0.getD i_l0.toNat default)) (fcv .f32 .f64 (b_1.getD i_l0.toNat default))), (congrArg not h_1), (wrap_id (by first | assumption | omega | (simp_all <;> omega)) (by first | assumption | omega | (simp_all <;> omega))), trivial⟩
     rfl (ih (i_l0 + 1) (show 0 ≤ (i_l0 + 1) from (by first | assumption | omega | (simp_all <;> omega))) (by first | assumption | omega | (simp_all <;> omega)))
   | false =>
    have e : lo_laws_eqFloat32S_1 a_0 b_1 (k + 1) i_l0 = (.inl ()) := by simp only [lo_laws_eqFloat32S_1, h_0, h_1, cond_true, cond_false]
    rw [e]
    exact stepK_out (E := E0) E0Ok hMixed (e := .ret) (body := (sub (bodyOf f35) [1, 1, 0, 1, 0, 0])) (st := ⟨[.sl (a_0.map (cF .f32)), .sl (b_1.map (cF .f32)), .any, .any, .any, .i .i64 i_l0, .sl (a_0.map (cF .f32)), .i .i64 (a_0.length : Int), .sl (b_1.map (cF .f32)), .i .i64 (b_1.length : Int), .b ((a_0.length : Int) != (b_1.length : Int)), .any, .any, .any, .any, .any, .any, .any, .any, .any, .any, .any, .any, .any, .any, .any, .any, .any, .any], []⟩)
     (st2 := ⟨[.any, .any, .any, .any, .b false, .any, .any, .any, .any, .any, .any, .any, .any, .any, .any, .any, .any, .any, .any, .any, .any, .any, .any, .any, .any, .any, .any, .any, .any], []⟩)
     (ans := [.num (a_0.length : Int), .bo true, .keep [10, 10], .el [.f .f32 (a_0.getD i_l0.toNat default)], .el [.f .f32 (b_1.getD i_l0.toNat default)], .call (.b (v_laws_sameFloat (fcv .f32 .f64 (a_0.getD i_l0.toNat default)) (fcv .f32 .f64 (b_1.getD i_l0.toNat default)))) [], .bo true])
     (ps := []) (mask := [false, false, false, false, true, false, false, false, false, false, false, false, false, false, false, false, false, false, false, false, false, false, false, false, false, false, false, false, false]) (ks := [])
     (C := [(((a_0.map (cF .f32)).length : Nat) : Int) = (a_0.length : Int),
      (decide (i_l0 < (a_0.length : Int))) = true,
      0 ≤ i_l0 ∧ (a_0.map (cF .f32))[Int.toNat i_l0]? = some [.f .f32 (a_0.getD i_l0.toNat default)],
      fcvOk .f32 .f64 (a_0.getD i_l0.toNat default) = true,
      0 ≤ i_l0 ∧ (b_1.map (cF .f32))[Int.toNat i_l0]? = some [.f .f32 (b_1.getD i_l0.toNat default)],
      fcvOk .f32 .f64 (b_1.getD i_l0.toNat default) = true,
      Fn prog 17 [.f .f64 (fcv .f32 .f64 (a_0.getD i_l0.toNat default)), .f .f64 (fcv .f32 .f64 (b_1.getD i_l0.toNat default))] (.b (v_laws_sameFloat (fcv .f32 .f64 (a_0.getD i_l0.toNat default)) (fcv .f32 .f64 (b_1.getD i_l0.toNat default)))) [],
      (!(v_laws_sameFloat (fcv .f32 .f64 (a_0.getD i_l0.toNat default)) (fcv .f32 .f64 (b_1.getD i_l0.toNat default)))) = true])
     (by kernel_rfl)
     ⟨len_ok, h_0, (get_ok (by first | assumption | omega | (simp_all <;> omega)) (by first | assumption | omega | (simp_all <;> omega))), (widenOk _), (get_ok (by first | assumption | omega | (simp_all <;> omega)) (by first | assumption | omega | (simp_all <;> omega))), (widenOk _), (t_laws_sameFloat (fcv .f32 .f64 (a_0.getD i_l0.toNat default)) (fcv .f32 .f64 (b_1.getD i_l0.toNat default))), (congrArg not h_1), trivial⟩
     (by intro h; cases h) rfl
  | false =>
   have e : lo_laws_eqFloat32S_1 a_0 b_1 (k + 1) i_l0 = (.inr ()) := by simp only [lo_laws_eqFloat32S_1, h_0, cond_false]
   rw [e]
   exact stepK_out (E := E0) E0Ok hMixed (e := (.exit 0)) (body := (sub (bodyOf f35) [1, 1, 0, 1, 0, 0])) (st := ⟨[.sl (a_0.map (cF .f32)), .sl (b_1.map (cF .f32)), .any, .any, .any, .i .i64 i_l0, .sl (a_0.map (cF .f32)), .i .i64 (a_0.length : Int), .sl (b_1.map (cF .f32)), .i .i64 (b_1.length : Int), .b ((a_0.length : Int) != (b_1.length : Int)), .any, .any, .any, .any, .any, .any, .any, .any, .any, .any, .any, .any, .any, .any, .any, .any, .any, .any], []⟩)
    (st2 := ⟨[.sl (a_0.map (cF .f32)), .sl (b_1.map (cF .f32)), .any, .any, .any, .any, .sl (a_0.map (cF .f32)), .i .i64 (a_0.length : Int), .sl (b_1.map (cF .f32)), .i .i64 (b_1.length : Int), .b ((a_0.length : Int) != (b_1.length : Int)), .any, .any, .any, .any, .any, .any, .any, .any, .any, .any, .any, .any, .any, .any, .any, .any, .any, .any], []⟩)
    (ans := [.num (a_0.length : Int), .bo false])
    (ps := []) (mask := [true, true, false, false, false, false, true, true, true, true, true, false, false, false, false, false, false, false, false, false, false, false, false, false, false, false, false, false, false]) (ks := [])
    (C := [(((a_0.map (cF .f32)).length : Nat) : Int) = (a_0.length : Int),
     (decide (i_l0 < (a_0.length : Int))) = false])
    (by kernel_rfl)
    ⟨len_ok, h_0, trivial⟩
    (by intro h; cases h) rfl

def lr_laws_eqFloat32S_1_0 (a_0 : (List Nat)) (b_1 : (List Nat)) : (Unit) ⊕ (Unit) := (lo_laws_eqFloat32S_1 a_0 b_1 (((a_0.length : Int) - 0).toNat + 1) 0)

def v_laws_eqFloat32S (a_0 : (List Nat)) (b_1 : (List Nat)) : Bool := (cond ((a_0.length : Int) != (b_1.length : Int))
  false
  (match (lr_laws_eqFloat32S_1_0 a_0 b_1) with
    | .inl r2 => false
    | .inr r2 => true))

theorem t_laws_eqFloat32S (a_0 : (List Nat)) (b_1 : (List Nat)) (hp0 : a_0.length ≤ 1073741824) (hp1 : b_1.length ≤ 1073741824)  : Fn prog 35 [.sl (a_0.map (cF .f32)), .sl (b_1.map (cF .f32))] (.b (v_laws_eqFloat32S a_0 b_1)) [] := by
 cases h0 : ((a_0.length : Int) != (b_1.length : Int)) with
 | true =>
  exact Fn.cast (CallSt.fn (callSt_of_evK (E := E0) E0Ok hMixed (c := bodyOf f35) (rows := []) (r := .b false) (rows' := [])
   (ans := [.num (a_0.length : Int), .num (b_1.length : Int), .bo true, .keep []])
   (ps := [])
   (C := [(((a_0.map (cF .f32)).length : Nat) : Int) = (a_0.length : Int),
    (((b_1.map (cF .f32)).length : Nat) : Int) = (b_1.length : Int),
    ((a_0.length : Int) != (b_1.length : Int)) = true])
   func35 rfl (by kernel_rfl) (by kernel_rfl)
   ⟨len_ok, len_ok, h0, trivial⟩) rfl) (by simp only [v_laws_eqFloat32S, h0, cond_true]) rfl
 | false =>
  cases h1 : (lr_laws_eqFloat32S_1_0 a_0 b_1) with
  | inl r2 =>
   exact Fn.cast (CallSt.fn (callSt_of_evK (E := E0) E0Ok hMixed (c := bodyOf f35) (rows := []) (r := .b false) (rows' := [])
    (ans := [.num (a_0.length : Int), .num (b_1.length : Int), .bo false, .loop [true, true, false, false, false, true, true, true, true, true, true, false, false, false, false, false, false, false, false, false, false, false, false, false, false, false, false, false, false] 0 .ret ⟨[.any, .any, .any, .any, .b false, .any, .any, .any, .any, .any, .any, .any, .any, .any, .any, .any, .any, .any, .any, .any, .any, .any, .any, .any, .any, .any, .any, .any, .any], []⟩, .keep []])
    (ps := [])
    (C := [(((a_0.map (cF .f32)).length : Nat) : Int) = (a_0.length : Int),
     (((b_1.map (cF .f32)).length : Nat) : Int) = (b_1.length : Int),
     ((a_0.length : Int) != (b_1.length : Int)) = false,
     Lp prog 0 (sub (bodyOf f35) [1, 1, 0, 1, 0, 0]) ⟨[.sl (a_0.map (cF .f32)), .sl (b_1.map (cF .f32)), .any, .any, .any, .i .i64 0, .sl (a_0.map (cF .f32)), .i .i64 (a_0.length : Int), .sl (b_1.map (cF .f32)), .i .i64 (b_1.length : Int), .b ((a_0.length : Int) != (b_1.length : Int)), .any, .any, .any, .any, .any, .any, .any, .any, .any, .any, .any, .any, .any, .any, .any, .any, .any, .any], []⟩ .ret ⟨[.any, .any, .any, .any, .b false, .any, .any, .any, .any, .any, .any, .any, .any, .any, .any, .any, .any, .any, .any, .any, .any, .any, .any, .any, .any, .any, .any, .any, .any], []⟩])
    func35 rfl (by kernel_rfl) (by kernel_rfl)
    ⟨len_ok, len_ok, h0, (by have q := (lp_laws_eqFloat32S_1 a_0 b_1 hp0 hp1 h0 (((a_0.length : Int) - 0).toNat + 1) 0 (show 0 ≤ 0 from (by first | assumption | omega | (simp_all <;> omega))) (Nat.lt_succ_self _)); rw [show (lo_laws_eqFloat32S_1 a_0 b_1 (((a_0.length : Int) - 0).toNat + 1) 0) = _ from rfl] at q; rw [show (lo_laws_eqFloat32S_1 a_0 b_1 (((a_0.length : Int) - 0).toNat + 1) 0) = (lr_laws_eqFloat32S_1_0 a_0 b_1) from rfl, h1] at q; exact q), trivial⟩) rfl) (by simp only [v_laws_eqFloat32S, h0, h1, cond_false]) rfl
  | inr r2 =>
   exact Fn.cast (CallSt.fn (callSt_of_evK (E := E0) E0Ok hMixed (c := bodyOf f35) (rows := []) (r := .b true) (rows' := [])
    (ans := [.num (a_0.length : Int), .num (b_1.length : Int), .bo false, .loop [true, true, false, false, false, true, true, true, true, true, true, false, false, false, false, false, false, false, false, false, false, false, false, false, false, false, false, false, false] 0 (.exit 0) ⟨[.sl (a_0.map (cF .f32)), .sl (b_1.map (cF .f32)), .any, .any, .any, .any, .sl (a_0.map (cF .f32)), .i .i64 (a_0.length : Int), .sl (b_1.map (cF .f32)), .i .i64 (b_1.length : Int), .b ((a_0.length : Int) != (b_1.length : Int)), .any, .any, .any, .any, .any, .any, .any, .any, .any, .any, .any, .any, .any, .any, .any, .any, .any, .any], []⟩, .keep []])
    (ps := [])
    (C := [(((a_0.map (cF .f32)).length : Nat) : Int) = (a_0.length : Int),
     (((b_1.map (cF .f32)).length : Nat) : Int) = (b_1.length : Int),
     ((a_0.length : Int) != (b_1.length : Int)) = false,
     Lp prog 0 (sub (bodyOf f35) [1, 1, 0, 1, 0, 0]) ⟨[.sl (a_0.map (cF .f32)), .sl (b_1.map (cF .f32)), .any, .any, .any, .i .i64 0, .sl (a_0.map (cF .f32)), .i .i64 (a_0.length : Int), .sl (b_1.map (cF .f32)), .i .i64 (b_1.length : Int), .b ((a_0.length : Int) != (b_1.length : Int)), .any, .any, .any, .any, .any, .any, .any, .any, .any, .any, .any, .any, .any, .any, .any, .any, .any, .any], []⟩ (.exit 0) ⟨[.sl (a_0.map (cF .f32)), .sl (b_1.map (cF .f32)), .any, .any, .any, .any, .sl (a_0.map (cF .f32)), .i .i64 (a_0.length : Int), .sl (b_1.map (cF .f32)), .i .i64 (b_1.length : Int), .b ((a_0.length : Int) != (b_1.length : Int)), .any, .any, .any, .any, .any, .any, .any, .any, .any, .any, .any, .any, .any, .any, .any, .any, .any, .any], []⟩])
    func35 rfl (by kernel_rfl) (by kernel_rfl)
    ⟨len_ok, len_ok, h0, (by have q := (lp_laws_eqFloat32S_1 a_0 b_1 hp0 hp1 h0 (((a_0.length : Int) - 0).toNat + 1) 0 (show 0 ≤ 0 from (by first | assumption | omega | (simp_all <;> omega))) (Nat.lt_succ_self _)); rw [show (lo_laws_eqFloat32S_1 a_0 b_1 (((a_0.length : Int) - 0).toNat + 1) 0) = _ from rfl] at q; rw [show (lo_laws_eqFloat32S_1 a_0 b_1 (((a_0.length : Int) - 0).toNat + 1) 0) = (lr_laws_eqFloat32S_1_0 a_0 b_1) from rfl, h1] at q; exact q), trivial⟩) rfl) (by simp only [v_laws_eqFloat32S, h0, h1, cond_false]) rfl

theorem eqFloat32S_self (a : List Nat) : v_laws_eqFloat32S a a = true := by
  unfold v_laws_eqFloat32S lr_laws_eqFloat32S_1_0
  rw [all_from (a := a) (p := fun v => v_laws_sameFloat (fcv .f32 .f64 v) (fcv .f32 .f64 v)) (lo := lo_laws_eqFloat32S_1 a a) (x := ()) (y := ()) (fun k i => rfl)]
  rw [show (a.all fun v => v_laws_sameFloat (fcv .f32 .f64 v) (fcv .f32 .f64 v)) = true from by rw [List.all_eq_true]; intro v _; exact same_self _]
  simp

def v_laws_eqVector (a_0 : GVector) (b_1 : GVector) : Bool := (cond (v_laws_sameFloat (fcv .f32 .f64 a_0.X) (fcv .f32 .f64 b_1.X))
  (cond (v_laws_sameFloat (fcv .f32 .f64 a_0.Y) (fcv .f32 .f64 b_1.Y))
    (cond (v_laws_sameFloat (fcv .f32 .f64 a_0.Z) (fcv .f32 .f64 b_1.Z))
      true
      false)
    false)
  false)

theorem t_laws_eqVector (a_0 : GVector) (b_1 : GVector)   : Fn prog 29 [.agg [.f .f32 a_0.X, .f .f32 a_0.Y, .f .f32 a_0.Z], .agg [.f .f32 b_1.X, .f .f32 b_1.Y, .f .f32 b_1.Z]] (.b (v_laws_eqVector a_0 b_1)) [] := by
 cases h0 : (v_laws_sameFloat (fcv .f32 .f64 a_0.X) (fcv .f32 .f64 b_1.X)) with
 | true =>
  cases h1 : (v_laws_sameFloat (fcv .f32 .f64 a_0.Y) (fcv .f32 .f64 b_1.Y)) with
  | true =>
   cases h2 : (v_laws_sameFloat (fcv .f32 .f64 a_0.Z) (fcv .f32 .f64 b_1.Z)) with
   | true =>
    exact Fn.cast (CallSt.fn (callSt_of_evK (E := E0) E0Ok hMixed (c := bodyOf f29) (rows := []) (r := .b true) (rows' := [])
     (ans := [.call (.b (v_laws_sameFloat (fcv .f32 .f64 a_0.X) (fcv .f32 .f64 b_1.X))) [], .bo false, .call (.b (v_laws_sameFloat (fcv .f32 .f64 a_0.Y) (fcv .f32 .f64 b_1.Y))) [], .bo false, .call (.b (v_laws_sameFloat (fcv .f32 .f64 a_0.Z) (fcv .f32 .f64 b_1.Z))) [], .bo false, .keep []])
     (ps := [])
     (C := [fcvOk .f32 .f64 a_0.X = true,
      fcvOk .f32 .f64 b_1.X = true,
      Fn prog 17 [.f .f64 (fcv .f32 .f64 a_0.X), .f .f64 (fcv .f32 .f64 b_1.X)] (.b (v_laws_sameFloat (fcv .f32 .f64 a_0.X) (fcv .f32 .f64 b_1.X))) [],
      (!(v_laws_sameFloat (fcv .f32 .f64 a_0.X) (fcv .f32 .f64 b_1.X))) = false,
      fcvOk .f32 .f64 a_0.Y = true,
      fcvOk .f32 .f64 b_1.Y = true,
      Fn prog 17 [.f .f64 (fcv .f32 .f64 a_0.Y), .f .f64 (fcv .f32 .f64 b_1.Y)] (.b (v_laws_sameFloat (fcv .f32 .f64 a_0.Y) (fcv .f32 .f64 b_1.Y))) [],
      (!(v_laws_sameFloat (fcv .f32 .f64 a_0.Y) (fcv .f32 .f64 b_1.Y))) = false,
      fcvOk .f32 .f64 a_0.Z = true,
      fcvOk .f32 .f64 b_1.Z = true,
      Fn prog 17 [.f .f64 (fcv .f32 .f64 a_0.Z), .f .f64 (fcv .f32 .f64 b_1.Z)] (.b (v_laws_sameFloat (fcv .f32 .f64 a_0.Z) (fcv .f32 .f64 b_1.Z))) [],
      (!(v_laws_sameFloat (fcv .f32 .f64 a_0.Z) (fcv .f32 .f64 b_1.Z))) = false])
     func29 rfl (by kernel_rfl) (by kernel_rfl)
     ⟨(widenOk _), (widenOk _), (t_laws_sameFloat (fcv .f32 .f64 a_0.X) (fcv .f32 .f64 b_1.X)), (congrArg not h0), (widenOk _), (widenOk _), (t_laws_sameFloat (fcv .f32 .f64 a_0.Y) (fcv .f32 .f64 b_1.Y)), (congrArg not h1), (widenOk _), (widenOk _), (t_laws_sameFloat (fcv .f32 .f64 a_0.Z) (fcv .f32 .f64 b_1.Z)), (congrArg not h2), trivial⟩) rfl) (by simp only [v_laws_eqVector, h0, h1, h2, cond_true]) rfl
   | false =>
    exact Fn.cast (CallSt.fn (callSt_of_evK (E := E0) E0Ok hMixed (c := bodyOf f29) (rows := []) (r := .b false) (rows' := [])
     (ans := [.call (.b (v_laws_sameFloat (fcv .f32 .f64 a_0.X) (fcv .f32 .f64 b_1.X))) [], .bo false, .call (.b (v_laws_sameFloat (fcv .f32 .f64 a_0.Y) (fcv .f32 .f64 b_1.Y))) [], .bo false, .call (.b (v_laws_sameFloat (fcv .f32 .f64 a_0.Z) (fcv .f32 .f64 b_1.Z))) [], .bo true, .keep []])
     (ps := [])
     (C := [fcvOk .f32 .f64 a_0.X = true,
      fcvOk .f32 .f64 b_1.X = true,
      Fn prog 17 [.f .f64 (fcv .f32 .f64 a_0.X), .f .f64 (fcv .f32 .f64 b_1.X)] (.b (v_laws_sameFloat (fcv .f32 .f64 a_0.X) (fcv .f32 .f64 b_1.X))) [],
      (!(v_laws_sameFloat (fcv .f32 .f64 a_0.X) (fcv .f32 .f64 b_1.X))) = false,
      fcvOk .f32 .f64 a_0.Y = true,
      fcvOk .f32 .f64 b_1.Y = true,
      Fn prog 17 [.f .f64 (fcv .f32 .f64 a_0.Y), .f .f64 (fcv .f32 .f64 b_1.Y)] (.b (v_laws_sameFloat (fcv .f32 .f64 a_0.Y) (fcv .f32 .f64 b_1.Y))) [],
      (!(v_laws_sameFloat (fcv .f32 .f64 a_0.Y) (fcv .f32 .f64 b_1.Y))) = false,
      fcvOk .f32 .f64 a_0.Z = true,
      fcvOk .f32 .f64 b_1.Z = true,
      Fn prog 17 [.f .f64 (fcv .f32 .f64 a_0.Z), .f .f64 (fcv .f32 .f64 b_1.Z)] (.b (v_laws_sameFloat (fcv .f32 .f64 a_0.Z) (fcv .f32 .f64 b_1.Z))) [],
      (!(v_laws_sameFloat (fcv .f32 .f64 a_0.Z) (fcv .f32 .f64 b_1.Z))) = true])
     func29 rfl (by kernel_rfl) (by kernel_rfl)
     ⟨(widenOk _), (widenOk _), (t_laws_sameFloat (fcv .f32 .f64 a_0.X) (fcv .f32 .f64 b_1.X)), (congrArg not h0), (widenOk _), (widenOk _), (t_laws_sameFloat (fcv .f32 .f64 a_0.Y) (fcv .f32 .f64 b_1.Y)), (congrArg not h1), (widenOk _), (widenOk _), (t_laws_sameFloat (fcv .f32 .f64 a_0.Z) (fcv .f32 .f64 b_1.Z)), (congrArg not h2), trivial⟩) rfl) (by simp only [v_laws_eqVector, h0, h1, h2, cond_true, cond_false]) rfl
  | false =>
   exact Fn.cast (CallSt.fn (callSt_of_evK (E := E0) E0Ok hMixed (c := bodyOf f29) (rows := []) (r := .b false) (rows' := [])
    (ans := [.call (.b (v_laws_sameFloat (fcv .f32 .f64 a_0.X) (fcv .f32 .f64 b_1.X))) [], .bo false, .call (.b (v_laws_sameFloat (fcv .f32 .f64 a_0.Y) (fcv .f32 .f64 b_1.Y))) [], .bo true, .keep []])
    (ps := [])
    (C := [fcvOk .f32 .f64 a_0.X = true,
     fcvOk .f32 .f64 b_1.X = true,
     Fn prog 17 [.f .f64 (fcv .f32 .f64 a_0.X), .f .f64 (fcv .f32 .f64 b_1.X)] (.b (v_laws_sameFloat (fcv .f32 .f64 a_0.X) (fcv .f32 .f64 b_1.X))) [],
     (!(v_laws_sameFloat (fcv .f32 .f64 a_0.X) (fcv .f32 .f64 b_1.X))) = false,
     fcvOk .f32 .f64 a_0.Y = true,
     fcvOk .f32 .f64 b_1.Y = true,
     Fn prog 17 [.f .f64 (fcv .f32 .f64 a_0.Y), .f .f64 (fcv .f32 .f64 b_1.Y)] (.b (v_laws_sameFloat (fcv .f32 .f64 a_0.Y) (fcv .f32 .f64 b_1.Y))) [],
     (!(v_laws_sameFloat (fcv .f32 .f64 a_0.Y) (fcv .f32 .f64 b_1.Y))) = true])
    func29 rfl (by kernel_rfl) (by kernel_rfl)
    ⟨(widenOk _), (widenOk _), (t_laws_sameFloat (fcv .f32 .f64 a_0.X) (fcv .f32 .f64 b_1.X)), (congrArg not h0), (widenOk _), (widenOk _), (t_laws_sameFloat (fcv .f32 .f64 a_0.Y) (fcv .f32 .f64 b_1.Y)), (congrArg not h1), trivial⟩) rfl) (by simp only [v_laws_eqVector, h0, h1, cond_true, cond_false]) rfl
 | false =>
  exact Fn.cast (CallSt.fn (callSt_of_evK (E := E0) E0Ok hMixed (c := bodyOf f29) (rows := []) (r := .b false) (rows' := [])
   (ans := [.call (.b (v_laws_sameFloat (fcv .f32 .f64 a_0.X) (fcv .f32 .f64 b_1.X))) [], .bo true, .keep []])
   (ps := [])
   (C := [fcvOk .f32 .f64 a_0.X = true,
    fcvOk .f32 .f64 b_1.X = true,
    Fn prog 17 [.f .f64 (fcv .f32 .f64 a_0.X), .f .f64 (fcv .f32 .f64 b_1.X)] (.b (v_laws_sameFloat (fcv .f32 .f64 a_0.X) (fcv .f32 .f64 b_1.X))) [],
    (!(v_laws_sameFloat (fcv .f32 .f64 a_0.X) (fcv .f32 .f64 b_1.X))) = true])
   func29 rfl (by kernel_rfl) (by kernel_rfl)
   ⟨(widenOk _), (widenOk _), (t_laws_sameFloat (fcv .f32 .f64 a_0.X) (fcv .f32 .f64 b_1.X)), (congrArg not h0), trivial⟩) rfl) (by simp only [v_laws_eqVector, h0, cond_false]) rfl

theorem eqVector_self (a : GVector) : v_laws_eqVector a a = true := by
  simp [v_laws_eqVector, same_self]

def lo_laws_eqVectorS_1 (a_0 : (List GVector)) (b_1 : (List GVector)) : Nat → Int → (Unit) ⊕ (Unit)
  | 0, _ => .inl default
  | k + 1, i_l0 => (cond (decide (i_l0 < (a_0.length : Int)))
    (cond (v_laws_eqVector (a_0.getD i_l0.toNat default) (b_1.getD i_l0.toNat default))
      (lo_laws_eqVectorS_1 a_0 b_1 k (i_l0 + 1))
      (.inl ()))
    (.inr ()))

def ls_laws_eqVectorS_1 (a_0 : (List GVector)) (b_1 : (List GVector)) : (Unit) ⊕ (Unit) → Ex × St
  | .inl r => (.ret, ⟨[.any, .any, .any, .any, .b false, .any, .any, .any, .any, .any, .any, .any, .any, .any, .any, .any, .any, .any, .any, .any, .any, .any, .any, .any, .any, .any, .any], []⟩)
  | .inr r => ((.exit 0), ⟨[.sl (a_0.map GVector.cells), .sl (b_1.map GVector.cells), .any, .any, .any, .any, .sl (a_0.map GVector.cells), .i .i64 (a_0.length : Int), .sl (b_1.map GVector.cells), .i .i64 (b_1.length : Int), .b ((a_0.length : Int) != (b_1.length : Int)), .any, .any, .any, .any, .any, .any, .any, .any, .any, .any, .any, .any, .any, .any, .any, .any], []⟩)

theorem lp_laws_eqVectorS_1 (a_0 : (List GVector)) (b_1 : (List GVector)) (hp0 : a_0.length ≤ 1073741824) (hp1 : b_1.length ≤ 1073741824) (hf_laws_eqVectorS_1_0 : ((a_0.length : Int) != (b_1.length : Int)) = false) : ∀ (k : Nat) (i_l0 : Int) (hv_laws_eqVectorS_1_0 : 0 ≤ i_l0) (hk : ((a_0.length : Int) - i_l0).toNat < k), Lp prog 0 (sub (bodyOf f48) [1, 1, 0, 1, 0, 0]) ⟨[.sl (a_0.map GVector.cells), .sl (b_1.map GVector.cells), .any, .any, .any, .i .i64 i_l0, .sl (a_0.map GVector.cells), .i .i64 (a_0.length : Int), .sl (b_1.map GVector.cells), .i .i64 (b_1.length : Int), .b ((a_0.length : Int) != (b_1.length : Int)), .any, .any, .any, .any, .any, .any, .any, .any, .any, .any, .any, .any, .any, .any, .any, .any], []⟩ (ls_laws_eqVectorS_1 a_0 b_1 (lo_laws_eqVectorS_1 a_0 b_1 k i_l0)).1 (ls_laws_eqVectorS_1 a_0 b_1 (lo_laws_eqVectorS_1 a_0 b_1 k i_l0)).2 := by
 intro k
 induction k with
 | zero => intro i_l0 hv_laws_eqVectorS_1_0 hk; exact absurd hk (Nat.not_lt_zero _)
 | succ k ih =>
  intro i_l0 hv_laws_eqVectorS_1_0 hk
  cases h_0 : (decide (i_l0 < (a_0.length : Int))) with
  | true =>
   cases h_1 : (v_laws_eqVector (a_0.getD i_l0.toNat default) (b_1.getD i_l0.toNat default)) with
   | true =>
    have e : lo_laws_eqVectorS_1 a_0 b_1 (k + 1) i_l0 = (lo_laws_eqVectorS_1 a_0 b_1 k (i_l0 + 1)) := by simp only [lo_laws_eqVectorS_1, h_0, h_1, cond_true]
    rw [e]
    exact stepK_next (E := E0) E0Ok hMixed (body := (sub (bodyOf f48) [1, 1, 0, 1, 0, 0])) (st := ⟨[.sl (a_0.map GVector.cells), .sl (b_1.map GVector.cells), .any, .any, .any, .i .i64 i_l0, .sl (a_0.map GVector.cells), .i .i64 (a_0.length : Int), .sl (b_1.map GVector.cells), .i .i64 (b_1.length : Int), .b ((a_0.length : Int) != (b_1.length : Int)), .any, .any, .any, .any, .any, .any, .any, .any, .any, .any, .any, .any, .any, .any, .any, .any], []⟩)
     (st2 := ⟨[.sl (a_0.map GVector.cells), .sl (b_1.map GVector.cells), .any, .any, .any, .i .i64 (i_l0 + 1), .sl (a_0.map GVector.cells), .i .i64 (a_0.length : Int), .sl (b_1.map GVector.cells), .i .i64 (b_1.length : Int), .b ((a_0.length : Int) != (b_1.length : Int)), .any, .any, .any, .any, .any, .any, .any, .any, .any, .any, .any, .any, .any, .any, .any, .any], []⟩)
     (ans := [.num (a_0.length : Int), .bo true, .keep [8, 8], .el [.f .f32 ((a_0.getD i_l0.toNat default).X), .f .f32 ((a_0.getD i_l0.toNat default).Y), .f .f32 ((a_0.getD i_l0.toNat default).Z)], .el [.f .f32 ((b_1.getD i_l0.toNat default).X), .f .f32 ((b_1.getD i_l0.toNat default).Y), .f .f32 ((b_1.getD i_l0.toNat default).Z)], .call (.b (v_laws_eqVector (a_0.getD i_l0.toNat default) (b_1.getD i_l0.toNat default))) [], .bo false, .num (i_l0 + 1)])
     (ps := []) (mask := [true, true, false, false, false, true, true, true, true, true, true, false, false, false, false, false, false, false, false, false, false, false, false, false, false, false, false]) (ks := [])
     (C := [(((a_0.map GVector.cells).length : Nat) : Int) = (a_0.length : Int),
      (decide (i_l0 < (a_0.length : Int))) = true,
      0 ≤ i_l0 ∧ (a_0.map GVector.cells)[Int.toNat i_l0]? = some [.f .f32 ((a_0.getD i_l0.toNat default).X), .f .f32 ((a_0.getD i_l0.toNat default).Y), .f .f32 ((a_0.getD i_l0.toNat default).Z)],
      0 ≤ i_l0 ∧ (b_1.map GVector.cells)[Int.toNat i_l0]? = some [.f .f32 ((b_1.getD i_l0.toNat default).X), .f .f32 ((b_1.getD i_l0.toNat default).Y), .f .f32 ((b_1.getD i_l0.toNat default).Z)],
      Fn prog 29 [.agg [.f .f32 ((a_0.getD i_l0.toNat default).X), .f .f32 ((a_0.getD i_l0.toNat default).Y), .f .f32 ((a_0.getD i_l0.toNat default).Z)], .agg [.f .f32 ((b_1.getD i_l0.toNat default).X), .f .f32 ((b_1.getD i_l0.toNat default).Y), .f .f32 ((b_1.getD i_l0.toNat default).Z)]] (.b (v_laws_eqVector (a_0.getD i_l0.toNat default) (b_1.getD i_l0.toNat default))) [],
      (!(v_laws_eqVector (a_0.getD i_l0.toNat default) (b_1.getD i_l0.toNat default))) = false,
      IntKind.wrap .i64 (i_l0 + 1) = (i_l0 + 1)])
     (by kernel_rfl)
     ⟨len_ok, h_0, (get_ok (by first | assumption | omega | (simp_all <;> omega)) (by first | assumption | omega | (simp_all <;> omega))), (get_ok (by first | assumption | omega | (simp_all <;> omega)) (by first | assumption | omega | (simp_all <;> omega))), (t_laws_eqVector (a_0.getD i_l0.toNat default) (b_1.getD i_l0.toNat default)), (congrArg not h_1), (wrap_id (by first | assumption | omega | (simp_all <;> omega)) (by first | assumption | omega | (simp_all <;> omega))), trivial⟩
     rfl (ih (i_l0 + 1) (show 0 ≤ (i_l0 + 1) from (by first | assumption | omega | (simp_all <;> omega))) (by first | assumption | omega | (simp_all <;> omega)))
   | false =>
    have e : lo_laws_eqVectorS_1 a_0 b_1 (k + 1) i_l0 = (.inl ()) := by simp only [lo_laws_eqVectorS_1, h_0, h_1, cond_true, cond_false]
    rw [e]
    exact stepK_out (E := E0) E0Ok hMixed (e := .ret) (body := (sub (bodyOf f48) [1, 1, 0, 1, 0, 0])) (st := ⟨[.sl (a_0.map GVector.cells), .sl (b_1.map GVector.cells), .any, .any, .any, .i .i64 i_l0, .sl (a_0.map GVector.cells), .i .i64 (a_0.length : Int), .sl (b_1.map GVector.cells), .i .i64 (b_1.length : Int), .b ((a_0.length : Int) != (b_1.length : Int)), .any, .any, .any, .any, .any, .any, .any, .any, .any, .any, .any, .any, .any, .any, .any, .any], []⟩)
     (st2 := ⟨[.any, .any, .any, .any, .b false, .any, .any, .any, .any, .any, .any, .any, .any, .any, .any, .any, .any, .any, .any, .any, .any, .any, .any, .any, .any, .any, .any], []⟩)
     (ans := [.num (a_0.length : Int), .bo true, .keep [8, 8], .el [.f .f32 ((a_0.getD i_l0.toNat default).X), .f .f32 ((a_0.getD i_l0.toNat default).Y), .f .f32 ((a_0.getD i_l0.toNat default).Z)], .el [.f .f32 ((b_1.getD i_l0.toNat default).X), .f .f32 ((b_1.getD i_l0.toNat default).Y), .f .f32 ((b_1.getD i_l0.toNat default).Z)], .call (.b (v_laws_eqVector (a_0.getD i_l0.toNat default) (b_1.getD i_l0.toNat default))) [], .bo true])
     (ps := []) (mask := [false, false, false, false, true, false, false, false, false, false, false, false, false, false, false, false, false, false, false, false, false, false, false, false, false, false, false]) (ks := [])
     (C := [(((a_0.map GVector.cells).length : Nat) : Int) = (a_0.length : Int),
      (decide (i_l0 < (a_0.length : Int))) = true,
      0 ≤ i_l0 ∧ (a_0.map GVector.cells)[Int.toNat i_l0]? = some [.f .f32 ((a_0.getD i_l0.toNat default).X), .f .f32 ((a_0.getD i_l0.toNat default).Y), .f .f32 ((a_0.getD i_l0.toNat default).Z)],
      0 ≤ i_l0 ∧ (b_1.map GVector.cells)[Int.toNat i_l0]? = some [.f .f32 ((b_1.getD i_l0.toNat default).X), .f .f32 ((b_1.getD i_l0.toNat default).Y), .f .f32 ((b_1.getD i_l0.toNat default).Z)],
      Fn prog 29 [.agg [.f .f32 ((a_0.getD i_l0.toNat default).X), .f .f32 ((a_0.getD i_l0.toNat default).Y), .f .f32 ((a_0.getD i_l0.toNat default).Z)], .agg [.f .f32 ((b_1.getD i_l0.toNat default).X), .f .f32 ((b_1.getD i_l0.toNat default).Y), .f .f32 ((b_1.getD i_l0.toNat default).Z)]] (.b (v_laws_eqVector (a_0.getD i_l0.toNat default) (b_1.getD i_l0.toNat default))) [],
      (!(v_laws_eqVector (a_0.getD i_l0.toNat default) (b_1.getD i_l0.toNat default))) = true])
     (by kernel_rfl)
     ⟨len_ok, h_0, (get_ok (by first | assumption | omega | (simp_all <;> omega)) (by first | assumption | omega | (simp_all <;> omega))), (get_ok (by first | assumption | omega | (simp_all <;> omega)) (by first | assumption | omega | (simp_all <;> omega))), (t_laws_eqVector (a_0.getD i_l0.toNat default) (b_1.getD i_l0.toNat default)), (congrArg not h_1), trivial⟩
     (by intro h; cases h) rfl
  | false =>
   have e : lo_laws_eqVectorS_1 a_0 b_1 (k + 1) i_l0 = (.inr ()) := by simp only [lo_laws_eqVectorS_1, h_0, cond_false]
   rw [e]
   exact stepK_out (E := E0) E0Ok hMixed (e := (.exit 0)) (body := (sub (bodyOf f48) [1, 1, 0, 1, 0, 0])) (st := ⟨[.sl (a_0.map GVector.cells), .sl (b_1.map GVector.cells), .any, .any, .any, .i .i64 i_l0, .sl (a_0.map GVector.cells), .i .i64 (a_0.length : Int), .sl (b_1.map GVector.cells), .i .i64 (b_1.length : Int), .b ((a_0.length : Int) != (b_1.length : Int)), .any, .any, .any, .any, .any, .any, .any, .any, .any, .any, .any, .any, .any, .any, .any, .any], []⟩)
    (st2 := ⟨[.sl (a_0.map GVector.cells), .sl (b_1.map GVector.cells), .any, .any, .any, .any, .sl (a_0.map GVector.cells), .i .i64 (a_0.length : Int), .sl (b_1.map GVector.cells), .i .i64 (b_1.length : Int), .b ((a_0.length : Int) != (b_1.length : Int)), .any, .any, .any, .any, .any, .any, .any, .any, .any, .any, .any, .any, .any, .any, .any, .any], []⟩)
    (ans := [.num (a_0.length : Int), .bo false])
    (ps := []) (mask := [true, true, false, false, false, false, true, true, true, true, true, false, false, false, false, false, false, false, false, false, false, false, false, false, false, false, false]) (ks := [])
    (C := [(((a_0.map GVector.cells).length : Nat) : Int) = (a_0.length : Int),
     (decide (i_l0 < (a_0.length : Int))) = false])
    (by kernel_rfl)
    ⟨len_ok, h_0, trivial⟩
    (by intro h; cases h) rfl

def lr_laws_eqVectorS_1_0 (a_0 : (List GVector)) (b_1 : (List GVector)) : (Unit) ⊕ (Unit) := (lo_laws_eqVectorS_1 a_0 b_1 (((a_0.length : Int) - 0).toNat + 1) 0)

def v_laws_eqVectorS (a_0 : (List GVector)) (b_1 : (List GVector)) : Bool := (cond ((a_0.length : Int) != (b_1.length : Int))
  false
  (match (lr_laws_eqVectorS_1_0 a_0 b_1) with
    | .inl r2 => false
    | .inr r2 => true))

theorem t_laws_eqVectorS (a_0 : (List GVector)) (b_1 : (List GVector)) (hp0 : a_0.length ≤ 1073741824) (hp1 : b_1.length ≤ 1073741824)  : Fn prog 48 [.sl (a_0.map GVector.cells), .sl (b_1.map GVector.cells)] (.b (v_laws_eqVectorS a_0 b_1)) [] := by
 cases h0 : ((a_0.length : Int) != (b_1.length : Int)) with
 | true =>
  exact Fn.cast (CallSt.fn (callSt_of_evK (E := E0) E0Ok hMixed (c := bodyOf f48) (rows := []) (r := .b false) (rows' := [])
   (ans := [.num (a_0.length : Int), .num (b_1.length : Int), .bo true, .keep []])
   (ps := [])
   (C := [(((a_0.map GVector.cells).length : Nat) : Int) = (a_0.length : Int),
    (((b_1.map GVector.cells).length : Nat) : Int) = (b_1.length : Int),
    ((a_0.length : Int) != (b_1.length : Int)) = true])
   func48 rfl (by kernel_rfl) (by kernel_rfl)
   ⟨len_ok, len_ok, h0, trivial⟩) rfl) (by simp only [v_laws_eqVectorS, h0, cond_true]) rfl
 | false =>
  cases h1 : (lr_laws_eqVectorS_1_0 a_0 b_1) with
  | inl r2 =>
   exact Fn.cast (CallSt.fn (callSt_of_evK (E := E0) E0Ok hMixed (c := bodyOf f48) (rows := []) (r := .b false) (rows' := [])
    (ans := [.num (a_0.length : Int), .num (b_1.length : Int), .bo false, .loop [true, true, false, false, false, true, true, true, true, true, true, false, false, false, false, false, false, false, false, false, false, false, false, false, false, false, false] 0 .ret ⟨[.any, .any, .any, .any, .b false, .any, .any, .any, .any, .any, .any, .any, .any, .any, .any, .any, .any, .any, .any, .any, .any, .any, .any, .any, .any, .any, .any], []⟩, .keep []])
    (ps := [])
    (C := [(((a_0.map GVector.cells).length : Nat) : Int) = (a_0.length : Int),
     (((b_1.map GVector.cells).length : Nat) : Int) = (b_1.length : Int),
     ((a_0.length : Int) != (b_1.length : Int)) = false,
     Lp prog 0 (sub (bodyOf f48) [1, 1, 0, 1, 0, 0]) ⟨[.sl (a_0.map GVector.cells), .sl (b_1.map GVector.cells), .any, .any, .any, .i .i64 0, .sl (a_0.map GVector.cells), .i .i64 (a_0.length : Int), .sl (b_1.map GVector.cells), .i .i64 (b_1.length : Int), .b ((a_0.length : Int) != (b_1.length : Int)), .any, .any, .any, .any, .any, .any, .any, .any, .any, .any, .any, .any, .any, .any, .any, .any], []⟩ .ret ⟨[.any, .any, .any, .any, .b false, .any, .any, .any, .any, .any, .any, .any, .any, .any, .any, .any, .any, .any, .any, .any, .any, .any, .any, .any, .any, .any, .any], []⟩])
    func48 rfl (by kernel_rfl) (by kernel_rfl)
    ⟨len_ok, len_ok, h0, (by have q := (lp_laws_eqVectorS_1 a_0 b_1 hp0 hp1 h0 (((a_0.length : Int) - 0).toNat + 1) 0 (show 0 ≤ 0 from (by first | assumption | omega | (simp_all <;> omega))) (Nat.lt_succ_self _)); rw [show (lo_laws_eqVectorS_1 a_0 b_1 (((a_0.length : Int) - 0).toNat + 1) 0) = _ from rfl] at q; rw [show (lo_laws_eqVectorS_1 a_0 b_1 (((a_0.length : Int) - 0).toNat + 1) 0) = (lr_laws_eqVectorS_1_0 a_0 b_1) from rfl, h1] at q; exact q), trivial⟩) rfl) (by simp only [v_laws_eqVectorS, h0, h1, cond_false]) rfl
  | inr r2 =>
   exact Fn.cast (CallSt.fn (callSt_of_evK (E := E0) E0Ok hMixed (c := bodyOf f48) (rows := []) (r := .b true) (rows' := [])
    (ans := [.num (a_0.length : Int), .num (b_1.length : Int), .bo false, .loop [true, true, false, false, false, true, true, true, true, true, true, false, false, false, false, false, false, false, false, false, false, false, false, false, false, false, false] 0 (.exit 0) ⟨[.sl (a_0.map GVector.cells), .sl (b_1.map GVector.cells), .any, .any, .any, .any, .sl (a_0.map GVector.cells), .i .i64 (a_0.length : Int), .sl (b_1.map GVector.cells), .i .i64 (b_1.length : Int), .b ((a_0.length : Int) != (b_1.length : Int)), .any, .any, .any, .any, .any, .any, .any, .any, .any, .any, .any, .any, .any, .any, .any, .any], []⟩, .keep []])
    (ps := [])
    (C := [(((a_0.map GVector.cells).length : Nat) : Int) = (a_0.length : Int),
     (((b_1.map GVector.cells).length : Nat) : Int) = (b_1.length : Int),
     ((a_0.length : Int) != (b_1.length : Int)) = false,
     Lp prog 0 (sub (bodyOf f48) [1, 1, 0, 1, 0, 0]) ⟨[.sl (a_0.map GVector.cells), .sl (b_1.map GVector.cells), .any, .any, .any, .i .i64 0, .sl (a_0.map GVector.cells), .i .i64 (a_0.length : Int), .sl (b_1.map GVector.cells), .i .i64 (b_1.length : Int), .b ((a_0.length : Int) != (b_1.length : Int)), .any, .any, .any, .any, .any, .any, .any, .any, .any, .any, .any, .any, .any, .any, .any, .any], []⟩ (.exit 0) ⟨[.sl (a_0.map GVector.cells), .sl (b_1.map GVector.cells), .any, .any, .any, .any, .sl (a_0.map GVector.cells), .i .i64 (a_0.length : Int), .sl (b_1.map GVector.cells), .i .i64 (b_1.length : Int), .b ((a_0.length : Int) != (b_1.length : Int)), .any, .any, .any, .any, .any, .any, .any, .any, .any, .any, .any, .any, .any, .any, .any, .any], []⟩])
    func48 rfl (by kernel_rfl) (by kernel_rfl)
    ⟨len_ok, len_ok, h0, (by have q := (lp_laws_eqVectorS_1 a_0 b_1 hp0 hp1 h0 (((a_0.length : Int) - 0).toNat + 1) 0 (show 0 ≤ 0 from (by first | assumption | omega | (simp_all <;> omega))) (Nat.lt_succ_self _)); rw [show (lo_laws_eqVectorS_1 a_0 b_1 (((a_0.length : Int) - 0).toNat + 1) 0) = _ from rfl] at q; rw [show (lo_laws_eqVectorS_1 a_0 b_1 (((a_0.length : Int) - 0).toNat + 1) 0) = (lr_laws_eqVectorS_1_0 a_0 b_1) from rfl, h1] at q; exact q), trivial⟩) rfl) (by simp only [v_laws_eqVectorS, h0, h1, cond_false]) rfl

theorem eqVectorS_self (a : List GVector) : v_laws_eqVectorS a a = true := by
  unfold v_laws_eqVectorS lr_laws_eqVectorS_1_0
  rw [all_loop (a := a) (p := fun v => v_laws_eqVector v v) (lo := lo_laws_eqVectorS_1 a a) (x := ()) (y := ()) (fun k i => rfl) (fun v _ => eqVector_self v) _ _ (Int.le_refl 0) (Nat.lt_succ_self _)]
  simp

def lo_laws_eqInt64S_1 (a_0 : (List Int)) (b_1 : (List Int)) : Nat → Int → (Unit) ⊕ (Unit)
  | 0, _ => .inl default
  | k + 1, i_l0 => (cond (decide (i_l0 < (a_0.length : Int)))
    (cond ((a_0.getD i_l0.toNat default) != (b_1.getD i_l0.toNat default))
      (.inl ())
      (lo_laws_eqInt64S_1 a_0 b_1 k (i_l0 + 1)))
    (.inr ()))

def ls_laws_eqInt64S_1 (a_0 : (List Int)) (b_1 : (List Int)) : (Unit) ⊕ (Unit) → Ex × St
  | .inl r => (.ret, ⟨[.any, .any, .any, .any, .b false, .any, .any, .any, .any, .any, .any, .any, .any, .any, .any, .any, .any, .any, .any, .any, .any, .any, .any, .any, .any, .any], []⟩)
  | .inr r => ((.exit 0), ⟨[.sl (a_0.map (cI .i64)), .sl (b_1.map (cI .i64)), .any, .any, .any, .any, .sl (a_0.map (cI .i64)), .i .i64 (a_0.length : Int), .sl (b_1.map (cI .i64)), .i .i64 (b_1.length : Int), .b ((a_0.length : Int) != (b_1.length : Int)), .any, .any, .any, .any, .any, .any, .any, .any, .any, .any, .any, .any, .any, .any, .any], []⟩)

theorem lp_laws_eqInt64S_1 (a_0 : (List Int)) (b_1 : (List Int)) (hp0 : a_0.length ≤ 1073741824) (hp1 : b_1.length ≤ 1073741824) (hf_laws_eqInt64S_1_0 : ((a_0.length : Int) != (b_1.length : Int)) = false) : ∀ (k : Nat) (i_l0 : Int) (hv_laws_eqInt64S_1_0 : 0 ≤ i_l0) (hk : ((a_0.length : Int) - i_l0).toNat < k), Lp prog 0 (sub (bodyOf f125) [1, 1, 0, 1, 0, 0]) ⟨[.sl (a_0.map (cI .i64)), .sl (b_1.map (cI .i64)), .any, .any, .any, .i .i64 i_l0, .sl (a_0.map (cI .i64)), .i .i64 (a_0.length : Int), .sl (b_1.map (cI .i64)), .i .i64 (b_1.length : Int), .b ((a_0.length : Int) != (b_1.length : Int)), .any, .any, .any, .any, .any, .any, .any, .any, .any, .any, .any, .any, .any, .any, .any], []⟩ (ls_laws_eqInt64S_1 a_0 b_1 (lo_laws_eqInt64S_1 a_0 b_1 k i_l0)).1 (ls_laws_eqInt64S_1 a_0 b_1 (lo_laws_eqInt64S_1 a_0 b_1 k i_l0)).2 := by
 intro k
 induction k with
 | zero => intro i_l0 hv_laws_eqInt64S_1_0 hk; exact absurd hk (Nat.not_lt_zero _)
 | succ k ih =>
  intro i_l0 hv_laws_eqInt64S_1_0 hk
  cases h_0 : (decide (i_l0 < (a_0.length : Int))) with
  | true =>
   cases h_1 : ((a_0.getD i_l0.toNat default) != (b_1.getD i_l0.toNat default)) with
   | true =>
    have e : lo_laws_eqInt64S_1 a_0 b_1 (k + 1) i_l0 = (.inl ()) := by simp only [lo_laws_eqInt64S_1, h_0, h_1, cond_true]
    rw [e]
    exact stepK_out (E := E0) E0Ok hMixed (e := .ret) (body := (sub (bodyOf f125) [1, 1, 0, 1, 0, 0])) (st := ⟨[.sl (a_0.map (cI .i64)), .sl (b_1.map (cI .i64)), .any, .any, .any, .i .i64 i_l0, .sl (a_0.map (cI .i64)), .i .i64 (a_0.length : Int), .sl (b_1.map (cI .i64)), .i .i64 (b_1.length : Int), .b ((a_0.length : Int) != (b_1.length : Int)), .any, .any, .any, .any, .any, .any, .any, .any, .any, .any, .any, .any, .any, .any, .any], []⟩)
     (st2 := ⟨[.any, .any, .any, .any, .b false, .any, .any, .any, .any, .any, .any, .any, .any, .any, .any, .any, .any, .any, .any, .any, .any, .any, .any, .any, .any, .any], []⟩)
     (ans := [.num (a_0.length : Int), .bo true, .keep [8, 8], .el [.i .i64 (a_0.getD i_l0.toNat default)], .el [.i .i64 (b_1.getD i_l0.toNat default)], .bo true])
     (ps := []) (mask := [false, false, false, false, true, false, false, false, false, false, false, false, false, false, false, false, false, false, false, false, false, false, false, false, false, false]) (ks := [])
     (C := [(((a_0.map (cI .i64)).length : Nat) : Int) = (a_0.length : Int),
      (decide (i_l0 < (a_0.length : Int))) = true,
      0 ≤ i_l0 ∧ (a_0.map (cI .i64))[Int.toNat i_l0]? = some [.i .i64 (a_0.getD i_l0.toNat default)],
      0 ≤ i_l0 ∧ (b_1.map (cI .i64))[Int.toNat i_l0]? = some [.i .i64 (b_1.getD i_l0.toNat default)],
      ((a_0.getD i_l0.toNat default) != (b_1.getD i_l0.toNat default)) = true])
     (by kernel_rfl)
     ⟨len_ok, h_0, (get_ok (by first | assumption | omega | (simp_all <;> omega)) (by first | assumption | omega | (simp_all <;> omega))), (get_ok (by first | assumption | omega | (simp_all <;> omega)) (by first | assumption | omega | (simp_all <;> omega))), h_1, trivial⟩
     (by intro h; cases h) rfl
   | false =>
    have e : lo_laws_eqInt64S_1 a_0 b_1 (k + 1) i_l0 = (lo_laws_eqInt64S_1 a_0 b_1 k (i_l0 + 1)) := by simp only [lo_laws_eqInt64S_1, h_0, h_1, cond_true, cond_false]
    rw [e]
    exact stepK_next (E := E0) E0Ok hMixed (body := (sub (bodyOf f125) [1, 1, 0, 1, 0, 0])) (st := ⟨[.sl (a_0.map (cI .i64)), .sl (b_1.map (cI .i64)), .any, .any, .any, .i .i64 i_l0, .sl (a_0.map (cI .i64)), .i .i64 (a_0.length : Int), .sl (b_1.map (cI .i64)), .i .i64 (b_1.length : Int), .b ((a_0.length : Int) != (b_1.length : Int)), .any, .any, .any, .any, .any, .any, .any, .any, .any, .any, .any, .any, .any, .any, .any], []⟩)
     (st2 := ⟨[.sl (a_0.map (cI .i64)), .sl (b_1.map (cI .i64)), .any, .any, .any, .i .i64 (i_l0 + 1), .sl (a_0.map (cI .i64)), .i .i64 (a_0.length : Int), .sl (b_1.map (cI .i64)), .i .i64 (b_1.length : Int), .b ((a_0.length : Int) != (b_1.length : Int)), .any, .any, .any, .any, .any, .any, .any, .any, .any, .any, .any, .any, .any, .any, .any], []⟩)
     (ans := [.num (a_0.length : Int), .bo true, .keep [8, 8], .el [.i .i64 (a_0.getD i_l0.toNat default)], .el [.i .i64 (b_1.getD i_l0.toNat default)], .bo false, .num (i_l0 + 1)])
     (ps := []) (mask := [true, true, false, false, false, true, true, true, true, true, true, false, false, false, false, false, false, false, false, false, false, false, false, false, false, false]) (ks := [])
     (C := [(((a_0.map (cI .i64)).length : Nat) : Int) = (a_0.length : Int),
      (decide (i_l0 < (a_0.length : Int))) = true,
      0 ≤ i_l0 ∧ (a_0.map (cI .i64))[Int.toNat i_l0]? = some [.i .i64 (a_0.getD i_l0.toNat default)],
      0 ≤ i_l0 ∧ (b_1.map (cI .i64))[Int.toNat i_l0]? = some [.i .i64 (b_1.getD i_l0.toNat default)],
      ((a_0.getD i_l0.toNat default) != (b_1.getD i_l0.toNat default)) = false,
      IntKind.wrap .i64 (i_l0 + 1) = (i_l0 + 1)])
     (by kernel_rfl)
     ⟨len_ok, h_0, (get_ok (by first | assumption | omega | (simp_all <;> omega)) (by first | assumption | omega | (simp_all <;> omega))), (get_ok (by first | assumption | omega | (simp_all <;> omega)) (by first | assumption | omega | (simp_all <;> omega))), h_1, (wrap_id (by first | assumption | omega | (simp_all <;> omega)) (by first | assumption | omega | (simp_all <;> omega))), trivial⟩
     rfl (ih (i_l0 + 1) (show 0 ≤ (i_l0 + 1) from (by first | assumption | omega | (simp_all <;> omega))) (by first | assumption | omega | (simp_all <;> omega)))
  | false =>
   have e : lo_laws_eqInt64S_1 a_0 b_1 (k + 1) i_l0 = (.inr ()) := by simp only [lo_laws_eqInt64S_1, h_0, cond_false]
   rw [e]
   exact stepK_out (E := E0) E0Ok hMixed (e := (.exit 0)) (body := (sub (bodyOf f125) [1, 1, 0, 1, 0, 0])) (st := ⟨[.sl (a_0.map (cI .i64)), .sl (b_1.map (cI .i64)), .any, .any, .any, .i .i64 i_l0, .sl (a_0.map (cI .i64)), .i .i64 (a_0.length : Int), .sl (b_1.map (cI .i64)), .i .i64 (b_1.length : Int), .b ((a_0.length : Int) != (b_1.length : Int)), .any, .any, .any, .any, .any, .any, .any, .any, .any, .any, .any, .any, .any, .any, .any], []⟩)
    (st2 := ⟨[.sl (a_0.map (cI .i64)), .sl (b_1.map (cI .i64)), .any, .any, .any, .any, .sl (a_0.map (cI .i64)), .i .i64 (a_0.length : Int), .sl (b_1.map (cI .i64)), .i .i64 (b_1.length : Int), .b ((a_0.length : Int) != (b_1.length : Int)), .any, .any, .any, .any, .any, .any, .any, .any, .any, .any, .any, .any, .any, .any, .any], []⟩)
    (ans := [.num (a_0.length : Int), .bo false])
    (ps := []) (mask := [true, true, false, false, false, false, true, true, true, true, true, false, false, false, false, false, false, false, false, false, false, false, false, false, false, false]) (ks := [])
    (C := [(((a_0.map (cI .i64)).length : Nat) : Int) = (a_0.length : Int),
     (decide (i_l0 < (a_0.length : Int))) = false])
    (by kernel_rfl)
    ⟨len_ok, h_0, trivial⟩
    (by intro h; cases h) rfl

def lr_laws_eqInt64S_1_0 (a_0 : (List Int)) (b_1 : (List Int)) : (Unit) ⊕ (Unit) := (lo_laws_eqInt64S_1 a_0 b_1 (((a_0.length : Int) - 0).toNat + 1) 0)

def v_laws_eqInt64S (a_0 : (List Int)) (b_1 : (List Int)) : Bool := (cond ((a_0.length : Int) != (b_1.length : Int))
  false
  (match (lr_laws_eqInt64S_1_0 a_0 b_1) with
    | .inl r2 => false
    | .inr r2 => true))

theorem t_laws_eqInt64S (a_0 : (List Int)) (b_1 : (List Int)) (hp0 : a_0.length ≤ 1073741824) (hp1 : b_1.length ≤ 1073741824)  : Fn prog 125 [.sl (a_0.map (cI .i64)), .sl (b_1.map (cI .i64))] (.b (v_laws_eqInt64S a_0 b_1)) [] := by
 cases h0 : ((a_0.length : Int) != (b_1.length : Int)) with
 | true =>
  exact Fn.cast (CallSt.fn (callSt_of_evK (E := E0) E0Ok hMixed (c := bodyOf f125) (rows := []) (r := .b false) (rows' := [])
   (ans := [.num (a_0.length : Int), .num (b_1.length : Int), .bo true, .keep []])
   (ps := [])
   (C := [(((a_0.map (cI .i64)).length : Nat) : Int) = (a_0.length : Int),
    (((b_1.map (cI .i64)).length : Nat) : Int) = (b_1.length : Int),
    ((a_0.length : Int) != (b_1.length : Int)) = true])
   func125 rfl (by kernel_rfl) (by kernel_rfl)
   ⟨len_ok, len_ok, h0, trivial⟩) rfl) (by simp only [v_laws_eqInt64S, h0, cond_true]) rfl
 | false =>
  cases h1 : (lr_laws_eqInt64S_1_0 a_0 b_1) with
  | inl r2 =>
   exact Fn.cast (CallSt.fn (callSt_of_evK (E := E0) E0Ok hMixed (c := bodyOf f125) (rows := []) (r := .b false) (rows' := [])
    (ans := [.num (a_0.length : Int), .num (b_1.length : Int), .bo false, .loop [true, true, false, false, false, true, true, true, true, true, true, false, false, false, false, false, false, false, false, false, false, false, false, false, false, false] 0 .ret ⟨[.any, .any, .any, .any, .b false, .any, .any, .any, .any, .any, .any, .any, .any, .any, .any, .any, .any, .any, .any, .any, .any, .any, .any, .any, .any, .any], []⟩, .keep []])
    (ps := [])
    (C := [(((a_0.map (cI .i64)).length : Nat) : Int) = (a_0.length : Int),
     (((b_1.map (cI .i64)).length : Nat) : Int) = (b_1.length : Int),
     ((a_0.length : Int) != (b_1.length : Int)) = false,
     Lp prog 0 (sub (bodyOf f125) [1, 1, 0, 1, 0, 0]) ⟨[.sl (a_0.map (cI .i64)), .sl (b_1.map (cI .i64)), .any, .any, .any, .i .i64 0, .sl (a_0.map (cI .i64)), .i .i64 (a_0.length : Int), .sl (b_1.map (cI .i64)), .i .i64 (b_1.length : Int), .b ((a_0.length : Int) != (b_1.length : Int)), .any, .any, .any, .any, .any, .any, .any, .any, .any, .any, .any, .any, .any, .any, .any], []⟩ .ret ⟨[.any, .any, .any, .any, .b false, .any, .any, .any, .any, .any, .any, .any, .any, .any, .any, .any, .any, .any, .any, .any, .any, .any, .any, .any, .any, .any], []⟩])
    func125 rfl (by kernel_rfl) (by kernel_rfl)
    ⟨len_ok, len_ok, h0, (by have q := (lp_laws_eqInt64S_1 a_0 b_1 hp0 hp1 h0 (((a_0.length : Int) - 0).toNat + 1) 0 (show 0 ≤ 0 from (by first | assumption | omega | (simp_all <;> omega))) (Nat.lt_succ_self _)); rw [show (lo_laws_eqInt64S_1 a_0 b_1 (((a_0.length : Int) - 0).toNat + 1) 0) = _ from rfl] at q; rw [show (lo_laws_eqInt64S_1 a_0 b_1 (((a_0.length : Int) - 0).toNat + 1) 0) = (lr_laws_eqInt64S_1_0 a_0 b_1) from rfl, h1] at q; exact q), trivial⟩) rfl) (by simp only [v_laws_eqInt64S, h0, h1, cond_false]) rfl
  | inr r2 =>
   exact Fn.cast (CallSt.fn (callSt_of_evK (E := E0) E0Ok hMixed (c := bodyOf f125) (rows := []) (r := .b true) (rows' := [])
    (ans := [.num (a_0.length : Int), .num (b_1.length : Int), .bo false, .loop [true, true, false, false, false, true, true, true, true, true, true, false, false, false, false, false, false, false, false, false, false, false, false, false, false, false] 0 (.exit 0) ⟨[.sl (a_0.map (cI .i64)), .sl (b_1.map (cI .i64)), .any, .any, .any, .any, .sl (a_0.map (cI .i64)), .i .i64 (a_0.length : Int), .sl (b_1.map (cI .i64)), .i .i64 (b_1.length : Int), .b ((a_0.length : Int) != (b_1.length : Int)), .any, .any, .any, .any, .any, .any, .any, .any, .any, .any, .any, .any, .any, .any, .any], []⟩, .keep []])
    (ps := [])
    (C := [(((a_0.map (cI .i64)).length : Nat) : Int) = (a_0.length : Int),
     (((b_1.map (cI .i64)).length : Nat) : Int) = (b_1.length : Int),
     ((a_0.length : Int) != (b_1.length : Int)) = false,
     Lp prog 0 (sub (bodyOf f125) [1, 1, 0, 1, 0, 0]) ⟨[.sl (a_0.map (cI .i64)), .sl (b_1.map (cI .i64)), .any, .any, .any, .i .i64 0, .sl (a_0.map (cI .i64)), .i .i64 (a_0.length : Int), .sl (b_1.map (cI .i64)), .i .i64 (b_1.length : Int), .b ((a_0.length : Int) != (b_1.length : Int)), .any, .any, .any, .any, .any, .any, .any, .any, .any, .any, .any, .any, .any, .any, .any], []⟩ (.exit 0) ⟨[.sl (a_0.map (cI .i64)), .sl (b_1.map (cI .i64)), .any, .any, .any, .any, .sl (a_0.map (cI .i64)), .i .i64 (a_0.length : Int), .sl (b_1.map (cI .i64)), .i .i64 (b_1.length : Int), .b ((a_0.length : Int) != (b_1.length : Int)), .any, .any, .any, .any, .any, .any, .any, .any, .any, .any, .any, .any, .any, .any, .any], []⟩])
    func125 rfl (by kernel_rfl) (by kernel_rfl)
    ⟨len_ok, len_ok, h0, (by have q := (lp_laws_eqInt64S_1 a_0 b_1 hp0 hp1 h0 (((a_0.length : Int) - 0).toNat + 1) 0 (show 0 ≤ 0 from (by first | assumption | omega | (simp_all <;> omega))) (Nat.lt_succ_self _)); rw [show (lo_laws_eqInt64S_1 a_0 b_1 (((a_0.length : Int) - 0).toNat + 1) 0) = _ from rfl] at q; rw [show (lo_laws_eqInt64S_1 a_0 b_1 (((a_0.length : Int) - 0).toNat + 1) 0) = (lr_laws_eqInt64S_1_0 a_0 b_1) from rfl, h1] at q; exact q), trivial⟩) rfl) (by simp only [v_laws_eqInt64S, h0, h1, cond_false]) rfl

theorem eqInt64S_self (a : List Int) : v_laws_eqInt64S a a = true := by
  unfold v_laws_eqInt64S lr_laws_eqInt64S_1_0
  rw [all_from (a := a) (p := fun v => !(v != v)) (lo := lo_laws_eqInt64S_1 a a) (x := ()) (y := ()) (fun k i => by rw [lo_laws_eqInt64S_1]; cases (a.getD i.toNat default != a.getD i.toNat default) <;> rfl)]
  rw [show (a.all fun v => !(v != v)) = true from by rw [List.all_eq_true]; intro v _; simp]
  simp

def lo_laws_eqInt64SS_1 (a_0 : (List (List Int))) (b_1 : (List (List Int))) : Nat → Int → (Unit) ⊕ (Unit)
  | 0, _ => .inl default
  | k + 1, i_l0 => (cond (decide (i_l0 < (a_0.length : Int)))
    (cond (v_laws_eqInt64S (a_0.getD i_l0.toNat default) (b_1.getD i_l0.toNat default))
      (lo_laws_eqInt64SS_1 a_0 b_1 k (i_l0 + 1))
      (.inl ()))
    (.inr ()))

def ls_laws_eqInt64SS_1 (a_0 : (List (List Int))) (b_1 : (List (List Int))) : (Unit) ⊕ (Unit) → Ex × St
  | .inl r => (.ret, ⟨[.any, .any, .any, .any, .b false, .any, .any, .any, .any, .any, .any, .any, .any, .any, .any, .any, .any, .any, .any, .any, .any, .any, .any, .any, .any, .any, .any], []⟩)
  | .inr r => ((.exit 0), ⟨[.sl (a_0.map (cL (cI .i64))), .sl (b_1.map (cL (cI .i64))), .any, .any, .any, .any, .sl (a_0.map (cL (cI .i64))), .i .i64 (a_0.length : Int), .sl (b_1.map (cL (cI .i64))), .i .i64 (b_1.length : Int), .b ((a_0.length : Int) != (b_1.length : Int)), .any, .any, .any, .any, .any, .any, .any, .any, .any, .any, .any, .any, .any, .any, .any, .any], []⟩)

theorem lp_laws_eqInt64SS_1 (a_0 : (List (List Int))) (b_1 : (List (List Int))) (hp0 : a_0.length ≤ 1073741824) (hp1 : ∀ t ∈ a_0, t.length ≤ 1073741824) (hp2 : b_1.length ≤ 1073741824) (hp3 : ∀ t ∈ b_1, t.length ≤ 1073741824) (hf_laws_eqInt64SS_1_0 : ((a_0.length : Int) != (b_1.length : Int)) = false) : ∀ (k : Nat) (i_l0 : Int) (hv_laws_eqInt64SS_1_0 : 0 ≤ i_l0) (hk : ((a_0.length : Int) - i_l0).toNat < k), Lp prog 0 (sub (bodyOf f64) [1, 1, 0, 1, 0, 0]) ⟨[.sl (a_0.map (cL (cI .i64))), .sl (b_1.map (cL (cI .i64))), .any, .any, .any, .i .i64 i_l0, .sl (a_0.map (cL (cI .i64))), .i .i64 (a_0.length : Int), .sl (b_1.map (cL (cI .i64))), .i .i64 (b_1.length : Int), .b ((a_0.length : Int) != (b_1.length : Int)), .any, .any, .any, .any, .any, .any, .any, .any, .any, .any, .any, .any, .any, .any, .any, .any], []⟩ (ls_laws_eqInt64SS_1 a_0 b_1 (lo_laws_eqInt64SS_1 a_0 b_1 k i_l0)).1 (ls_laws_eqInt64SS_1 a_0 b_1 (lo_laws_eqInt64SS_1 a_0 b_1 k i_l0)).2 := by
 intro k
 induction k with
 | zero => intro i_l0 hv_laws_eqInt64SS_1_0 hk; exact absurd hk (Nat.not_lt_zero _)
 | succ k ih =>
  intro i_l0 hv_laws_eqInt64SS_1_0 hk
  cases h_0 : (decide (i_l0 < (a_0.length : Int))) with
  | true =>
   cases h_1 : (v_laws_eqInt64S (a_0.getD i_l0.toNat default) (b_1.getD i_l0.toNat default)) with
   | true =>
    have e : lo_laws_eqInt64SS_1 a_0 b_1 (k + 1) i_l0 = (lo_laws_eqInt64SS_1 a_0 b_1 k (i_l0 + 1)) := by simp only [lo_laws_eqInt64SS_1, h_0, h_1, cond_true]
    rw [e]
    exact stepK_next (E := E0) E0Ok hMixed (body := (sub (bodyOf f64) [1, 1, 0, 1, 0, 0])) (st := ⟨[.sl (a_0.map (cL (cI .i64))), .sl (b_1.map (cL (cI .i64))), .any, .any, .any, .i .i64 i_l0, .sl (a_0.map (cL (cI .i64))), .i .i64 (a_0.length : Int), .sl (b_1.map (cL (cI .i64))), .i .i64 (b_1.length : Int), .b ((a_0.length : Int) != (b_1.length : Int)), .any, .any, .any, .any, .any, .any, .any, .any, .any, .any, .any, .any, .any, .any, .any, .any], []⟩)
     (st2 := ⟨[.sl (a_0.map (cL (cI .i64))), .sl (b_1.map (cL (cI .i64))), .any, .any, .any, .i .i64 (i_l0 + 1), .sl (a_0.map (cL (cI .i64))), .i .i64 (a_0.length : Int), .sl (b_1.map (cL (cI .i64))), .i .i64 (b_1.length : Int), .b ((a_0.length : Int) != (b_1.length : Int)), .any, .any, .any, .any, .any, .any, .any, .any, .any, .any, .any, .any, .any, .any, .any, .any], []⟩)
     (ans := [.num (a_0.length : Int), .bo true, .keep [8, 8], .el [.sl ((a_0.getD i_l0.toNat default).map (cI .i64))], .el [.sl ((b_1.getD i_l0.toNat default).map (cI .i64))], .call (.b (v_laws_eqInt64S (a_0.getD i_l0.toNat default) (b_1.getD i_l0.toNat default))) [], .bo false, .num (i_l0 + 1)])
     (ps := []) (mask := [true, true, false, false, false, true, true, true, true, true, true, false, false, false, false, false, false, false, false, false, false, false, false, false, false, false, false]) (ks := [])
     (C := [(((a_0.map (cL (cI .i64))).length : Nat) : Int) = (a_0.length : Int),
      (decide (i_l0 < (a_0.length : Int))) = true,
      0 ≤ i_l0 ∧ (a_0.map (cL (cI .i64)))[Int.toNat i_l0]? = some [.sl ((a_0.getD i_l0.toNat default).map (cI .i64))],
      0 ≤ i_l0 ∧ (b_1.map (cL (cI .i64)))[Int.toNat i_l0]? = some [.sl ((b_1.getD i_l0.toNat default).map (cI .i64))],
      Fn prog 125 [.sl ((a_0.getD i_l0.toNat default).map (cI .i64)), .sl ((b_1.getD i_l0.toNat default).map (cI .i64))] (.b (v_laws_eqInt64S (a_0.getD i_l0.toNat default) (b_1.getD i_l0.toNat default))) [],
      (!(v_laws_eqInt64S (a_0.getD i_l0.toNat default) (b_1.getD i_l0.toNat default))) = false,
      IntKind.wrap .i64 (i_l0 + 1) = (i_l0 + 1)])
     (by kernel_rfl)
     ⟨len_ok, h_0, (get_ok (by first | assumption | omega | (simp_all <;> omega)) (by first | assumption | omega | (simp_all <;> omega))), (get_ok (by first | assumption | omega | (simp_all <;> omega)) (by first | assumption | omega | (simp_all <;> omega))), (t_laws_eqInt64S (a_0.getD i_l0.toNat default) (b_1.getD i_l0.toNat default) (show (a_0.getD i_l0.toNat default).length ≤ 1073741824 from (by first | assumption | omega | (simp_all <;> omega))) (show (b_1.getD i_l0.toNat default).length ≤ 1073741824 from (by first | assumption | omega | (simp_all <;> omega)))), (congrArg not h_1), (wrap_id (by first | assumption | omega | (simp_all <;> omega)) (by first | assumption | omega | (simp_all <;> omega))), trivial⟩
     rfl (ih (i_l0 + 1) (show 0 ≤ (i_l0 + 1) from (by first | assumption | omega | (simp_all <;> omega))) (by first | assumption | omega | (simp_all <;> omega)))
   | false =>
    have e : lo_laws_eqInt64SS_1 a_0 b_1 (k + 1) i_l0 = (.inl ()) := by simp only [lo_laws_eqInt64SS_1, h_0, h_1, cond_true, cond_false]
    rw [e]
    exact stepK_out (E := E0) E0Ok hMixed (e := .ret) (body := (sub (bodyOf f64) [1, 1, 0, 1, 0, 0])) (st := ⟨[.sl (a_0.map (cL (cI .i64))), .sl (b_1.map (cL (cI .i64))), .any, .any, .any, .i .i64 i_l0, .sl (a_0.map (cL (cI .i64))), .i .i64 (a_0.length : Int), .sl (b_1.map (cL (cI .i64))), .i .i64 (b_1.length : Int), .b ((a_0.length : Int) != (b_1.length : Int)), .any, .any, .any, .any, .any, .any, .any, .any, .any, .any, .any, .any, .any, .any, .any, .any], []⟩)
     (st2 := ⟨[.any, .any, .any, .any, .b false, .any, .any, .any, .any, .any, .any, .any, .any, .any, .any, .any, .any, .any, .any, .any, .any, .any, .any, .any, .any, .any, .any], []⟩)
     (ans := [.num (a_0.length : Int), .bo true, .keep [8, 8], .el [.sl ((a_0.getD i_l0.toNat default).map (cI .i64))], .el [.sl ((b_1.getD i_l0.toNat default).map (cI .i64))], .call (.b (v_laws_eqInt64S (a_0.getD i_l0.toNat default) (b_1.getD i_l0.toNat default))) [], .bo true])
     (ps := []) (mask := [false, false, false, false, true, false, false, false, false, false, false, false, false, false, false, false, false, false, false, false, false, false, false, false, false, false, false]) (ks := [])
     (C := [(((a_0.map (cL (cI .i64))).length : Nat) : Int) = (a_0.length : Int),
      (decide (i_l0 < (a_0.length : Int))) = true,
      0 ≤ i_l0 ∧ (a_0.map (cL (cI .i64)))[Int.toNat i_l0]? = some [.sl ((a_0.getD i_l0.toNat default).map (cI .i64))],
      0 ≤ i_l0 ∧ (b_1.map (cL (cI .i64)))[Int.toNat i_l0]? = some [.sl ((b_1.getD i_l0.toNat default).map (cI .i64))],
      Fn prog 125 [.sl ((a_0.getD i_l0.toNat default).map (cI .i64)), .sl ((b_1.getD i_l0.toNat default).map (cI .i64))] (.b (v_laws_eqInt64S (a_0.getD i_l0.toNat default) (b_1.getD i_l0.toNat default))) [],
      (!(v_laws_eqInt64S (a_0.getD i_l0.toNat default) (b_1.getD i_l0.toNat default))) = true])
     (by kernel_rfl)
     ⟨len_ok, h_0, (get_ok (by first | assumption | omega | (simp_all <;> omega)) (by first | assumption | omega | (simp_all <;> omega))), (get_ok (by first | assumption | omega | (simp_all <;> omega)) (by first | assumption | omega | (simp_all <;> omega))), (t_laws_eqInt64S (a_0.getD i_l0.toNat default) (b_1.getD i_l0.toNat default) (show (a_0.getD i_l0.toNat default).length ≤ 1073741824 from (by first | assumption | omega | (simp_all <;> omega))) (show (b_1.getD i_l0.toNat default).length ≤ 1073741824 from (by first | assumption | omega | (simp_all <;> omega)))), (congrArg not h_1), trivial⟩
     (by intro h; cases h) rfl
  | false =>
   have e : lo_laws_eqInt64SS_1 a_0 b_1 (k + 1) i_l0 = (.inr ()) := by simp only [lo_laws_eqInt64SS_1, h_0, cond_false]
   rw [e]
   exact stepK_out (E := E0) E0Ok hMixed (e := (.exit 0)) (body := (sub (bodyOf f64) [1, 1, 0, 1, 0, 0])) (st := ⟨[.sl (a_0.map (cL (cI .i64))), .sl (b_1.map (cL (cI .i64))), .any, .any, .any, .i .i64 i_l0, .sl (a_0.map (cL (cI .i64))), .i .i64 (a_0.length : Int), .sl (b_1.map (cL (cI .i64))), .i .i64 (b_1.length : Int), .b ((a_0.length : Int) != (b_1.length : Int)), .any, .any, .any, .any, .any, .any, .any, .any, .any, .any, .any, .any, .any, .any, .any, .any], []⟩)
    (st2 := ⟨[.sl (a_0.map (cL (cI .i64))), .sl (b_1.map (cL (cI .i64))), .any, .any, .any, .any, .sl (a_0.map (cL (cI .i64))), .i .i64 (a_0.length : Int), .sl (b_1.map (cL (cI .i64))), .i .i64 (b_1.length : Int), .b ((a_0.length : Int) != (b_1.length : Int)), .any, .any, .any, .any, .any, .any, .any, .any, .any, .any, .any, .any, .any, .any, .any, .any], []⟩)
    (ans := [.num (a_0.length : Int), .bo false])
    (ps := []) (mask := [true, true, false, false, false, false, true, true, true, true, true, false, false, false, false, false, false, false, false, false, false, false, false, false, false, false, false]) (ks := [])
    (C := [(((a_0.map (cL (cI .i64))).length : Nat) : Int) = (a_0.length : Int),
     (decide (i_l0 < (a_0.length : Int))) = false])
    (by kernel_rfl)
    ⟨len_ok, h_0, trivial⟩
    (by intro h; cases h) rfl

def lr_laws_eqInt64SS_1_0 (a_0 : (List (List Int))) (b_1 : (List (List Int))) : (Unit) ⊕ (Unit) := (lo_laws_eqInt64SS_1 a_0 b_1 (((a_0.length : Int) - 0).toNat + 1) 0)

def v_laws_eqInt64SS (a_0 : (List (List Int))) (b_1 : (List (List Int))) : Bool := (cond ((a_0.length : Int) != (b_1.length : Int))
  false
  (match (lr_laws_eqInt64SS_1_0 a_0 b_1) with
    | .inl r2 => false
    | .inr r2 => true))

theorem t_laws_eqInt64SS (a_0 : (List (List Int))) (b_1 : (List (List Int))) (hp0 : a_0.length ≤ 1073741824) (hp1 : ∀ t ∈ a_0, t.length ≤ 1073741824) (hp2 : b_1.length ≤ 1073741824) (hp3 : ∀ t ∈ b_1, t.length ≤ 1073741824)  : Fn prog 64 [.sl (a_0.map (cL (cI .i64))), .sl (b_1.map (cL (cI .i64)))] (.b (v_laws_eqInt64SS a_0 b_1)) [] := by
 cases h0 : ((a_0.length : Int) != (b_1.length : Int)) with
 | true =>
  exact Fn.cast (CallSt.fn (callSt_of_evK (E := E0) E0Ok hMixed (c := bodyOf f64) (rows := []) (r := .b false) (rows' := [])
   (ans := [.num (a_0.length : Int), .num (b_1.length : Int), .bo true, .keep []])
   (ps := [])
   (C := [(((a_0.map (cL (cI .i64))).length : Nat) : Int) = (a_0.length : Int),
    (((b_1.map (cL (cI .i64))).length : Nat) : Int) = (b_1.length : Int),
    ((a_0.length : Int) != (b_1.length : Int)) = true])
   func64 rfl (by kernel_rfl) (by kernel_rfl)
   ⟨len_ok, len_ok, h0, trivial⟩) rfl) (by simp only [v_laws_eqInt64SS, h0, cond_true]) rfl
 | false =>
  cases h1 : (lr_laws_eqInt64SS_1_0 a_0 b_1) with
  | inl r2 =>
   exact Fn.cast (CallSt.fn (callSt_of_evK (E := E0) E0Ok hMixed (c := bodyOf f64) (rows := []) (r := .b false) (rows' := [])
    (ans := [.num (a_0.length : Int), .num (b_1.length : Int), .bo false, .loop [true, true, false, false, false, true, true, true, true, true, true, false, false, false, false, false, false, false, false, false, false, false, false, false, false, false, false] 0 .ret ⟨[.any, .any, .any, .any, .b false, .any, .any, .any, .any, .any, .any, .any, .any, .any, .any, .any, .any, .any, .any, .any, .any, .any, .any, .any, .any, .any, .any], []⟩, .keep []])
    (ps := [])
    (C := [(((a_0.map (cL (cI .i64))).length : Nat) : Int) = (a_0.length : Int),
     (((b_1.map (cL (cI .i64))).length : Nat) : Int) = (b_1.length : Int),
     ((a_0.length : Int) != (b_1.length : Int)) = false,
     Lp prog 0 (sub (bodyOf f64) [1, 1, 0, 1, 0, 0]) ⟨[.sl (a_0.map (cL (cI .i64))), .sl (b_1.map (cL (cI .i64))), .any, .any, .any, .i .i64 0, .sl (a_0.map (cL (cI .i64))), .i .i64 (a_0.length : Int), .sl (b_1.map (cL (cI .i64))), .i .i64 (b_1.length : Int), .b ((a_0.length : Int) != (b_1.length : Int)), .any, .any, .any, .any, .any, .any, .any, .any, .any, .any, .any, .any, .any, .any, .any, .any], []⟩ .ret ⟨[.any, .any, .any, .any, .b false, .any, .any, .any, .any, .any, .any, .any, .any, .any, .any, .any, .any, .any, .any, .any, .any, .any, .any, .any, .any, .any, .any], []⟩])
    func64 rfl (by kernel_rfl) (by kernel_rfl)
    ⟨len_ok, len_ok, h0, (by have q := (lp_laws_eqInt64SS_1 a_0 b_1 hp0 hp1 hp2 hp3 h0 (((a_0.length : Int) - 0).toNat + 1) 0 (show 0 ≤ 0 from (by first | assumption | omega | (simp_all <;> omega))) (Nat.lt_succ_self _)); rw [show (lo_laws_eqInt64SS_1 a_0 b_1 (((a_0.length : Int) - 0).toNat + 1) 0) = _ from rfl] at q; rw [show (lo_laws_eqInt64SS_1 a_0 b_1 (((a_0.length : Int) - 0).toNat + 1) 0) = (lr_laws_eqInt64SS_1_0 a_0 b_1) from rfl, h1] at q; exact q), trivial⟩) rfl) (by simp only [v_laws_eqInt64SS, h0, h1, cond_false]) rfl
  | inr r2 =>
   exact Fn.cast (CallSt.fn (callSt_of_evK (E := E0) E0Ok hMixed (c := bodyOf f64) (rows := []) (r := .b true) (rows' := [])
    (ans := [.num (a_0.length : Int), .num (b_1.length : Int), .bo false, .loop [true, true, false, false, false, true, true, true, true, true, true, false, false, false, false, false, false, false, false, false, false, false, false, false, false, false, false] 0 (.exit 0) ⟨[.sl (a_0.map (cL (cI .i64))), .sl (b_1.map (cL (cI .i64))), .any, .any, .any, .any, .sl (a_0.map (cL (cI .i64))), .i .i64 (a_0.length : Int), .sl (b_1.map (cL (cI .i64))), .i .i64 (b_1.length : Int), .b ((a_0.length : Int) != (b_1.length : Int)), .any, .any, .any, .any, .any, .any, .any, .any, .any, .any, .any, .any, .any, .any, .any, .any], []⟩, .keep []])
    (ps := [])
    (C := [(((a_0.map (cL (cI .i64))).length : Nat) : Int) = (a_0.length : Int),
     (((b_1.map (cL (cI .i64))).length : Nat) : Int) = (b_1.length : Int),
     ((a_0.length : Int) != (b_1.length : Int)) = false,
     Lp prog 0 (sub (bodyOf f64) [1, 1, 0, 1, 0, 0]) ⟨[.sl (a_0.map (cL (cI .i64))), .sl (b_1.map (cL (cI .i64))), .any, .any, .any, .i .i64 0, .sl (a_0.map (cL (cI .i64))), .i .i64 (a_0.length : Int), .sl (b_1.map (cL (cI .i64))), .i .i64 (b_1.length : Int), .b ((a_0.length : Int) != (b_1.length : Int)), .any, .any, .any, .any, .any, .any, .any, .any, .any, .any, .any, .any, .any, .any, .any, .any], []⟩ (.exit 0) ⟨[.sl (a_0.map (cL (cI .i64))), .sl (b_1.map (cL (cI .i64))), .any, .any, .any, .any, .sl (a_0.map (cL (cI .i64))), .i .i64 (a_0.length : Int), .sl (b_1.map (cL (cI .i64))), .i .i64 (b_1.length : Int), .b ((a_0.length : Int) != (b_1.length : Int)), .any, .any, .any, .any, .any, .any, .any, .any, .any, .any, .any, .any, .any, .any, .any, .any], []⟩])
    func64 rfl (by kernel_rfl) (by kernel_rfl)
    ⟨len_ok, len_ok, h0, (by have q := (lp_laws_eqInt64SS_1 a_0 b_1 hp0 hp1 hp2 hp3 h0 (((a_0.length : Int) - 0).toNat + 1) 0 (show 0 ≤ 0 from (by first | assumption | omega | (simp_all <;> omega))) (Nat.lt_succ_self _)); rw [show (lo_laws_eqInt64SS_1 a_0 b_1 (((a_0.length : Int) - 0).toNat + 1) 0) = _ from rfl] at q; rw [show (lo_laws_eqInt64SS_1 a_0 b_1 (((a_0.length : Int) - 0).toNat + 1) 0) = (lr_laws_eqInt64SS_1_0 a_0 b_1) from rfl, h1] at q; exact q), trivial⟩) rfl) (by simp only [v_laws_eqInt64SS, h0, h1, cond_false]) rfl

theorem eqInt64SS_self (a : List (List Int)) : v_laws_eqInt64SS a a = true := by
  unfold v_laws_eqInt64SS lr_laws_eqInt64SS_1_0
  rw [all_from (a := a) (p := fun v => v_laws_eqInt64S v v) (lo := lo_laws_eqInt64SS_1 a a) (x := ()) (y := ()) (fun k i => rfl)]
  rw [show (a.all fun v => v_laws_eqInt64S v v) = true from by rw [List.all_eq_true]; intro v _; exact eqInt64S_self v]
  simp

def v_laws_eqMesh (a_0 : GMesh) (b_1 : GMesh) : Bool := (cond (v_laws_eqVectorS a_0.Places b_1.Places)
  (cond (v_laws_eqInt64SS a_0.Triangles b_1.Triangles)
    true
    false)
  false)

theorem t_laws_eqMesh (a_0 : GMesh) (b_1 : GMesh) (hp0 : a_0.Places.length ≤ 1073741824) (hp1 : a_0.Triangles.length ≤ 1073741824) (hp2 : ∀ t ∈ a_0.Triangles, t.length ≤ 1073741824) (hp3 : b_1.Places.length ≤ 1073741824) (hp4 : b_1.Triangles.length ≤ 1073741824) (hp5 : ∀ t ∈ b_1.Triangles, t.length ≤ 1073741824)  : Fn prog 18 [.agg [.sl (a_0.Places.map GVector.cells), .sl (a_0.Triangles.map (cL (cI .i64)))], .agg [.sl (b_1.Places.map GVector.cells), .sl (b_1.Triangles.map (cL (cI .i64)))]] (.b (v_laws_eqMesh a_0 b_1)) [] := by
 cases h0 : (v_laws_eqVectorS a_0.Places b_1.Places) with
 | true =>
  cases h1 : (v_laws_eqInt64SS a_0.Triangles b_1.Triangles) with
  | true =>
   exact Fn.cast (CallSt.fn (callSt_of_evK (E := E0) E0Ok hMixed (c := bodyOf f18) (rows := []) (r := .b true) (rows' := [])
    (ans := [.call (.b (v_laws_eqVectorS a_0.Places b_1.Places)) [], .bo false, .call (.b (v_laws_eqInt64SS a_0.Triangles b_1.Triangles)) [], .bo false, .keep []])
    (ps := [])
    (C := [Fn prog 48 [.sl (a_0.Places.map GVector.cells), .sl (b_1.Places.map GVector.cells)] (.b (v_laws_eqVectorS a_0.Places b_1.Places)) [],
     (!(v_laws_eqVectorS a_0.Places b_1.Places)) = false,
     Fn prog 64 [.sl (a_0.Triangles.map (cL (cI .i64))), .sl (b_1.Triangles.map (cL (cI .i64)))] (.b (v_laws_eqInt64SS a_0.Triangles b_1.Triangles)) [],
     (!(v_laws_eqInt64SS a_0.Triangles b_1.Triangles)) = false])
    func18 rfl (by kernel_rfl) (by kernel_rfl)
    ⟨(t_laws_eqVectorS a_0.Places b_1.Places (show a_0.Places.length ≤ 1073741824 from (by first | assumption | omega | (simp_all <;> omega))) (show b_1.Places.length ≤ 1073741824 from (by first | assumption | omega | (simp_all <;> omega)))), (congrArg not h0), (t_laws_eqInt64SS a_0.Triangles b_1.Triangles (show a_0.Triangles.length ≤ 1073741824 from (by first | assumption | omega | (simp_all <;> omega))) (show ∀ t ∈ a_0.Triangles, t.length ≤ 1073741824 from (by first | assumption | omega | (simp_all <;> omega))) (show b_1.Triangles.length ≤ 1073741824 from (by first | assumption | omega | (simp_all <;> omega))) (show ∀ t ∈ b_1.Triangles, t.length ≤ 1073741824 from (by first | assumption | omega | (simp_all <;> omega)))), (congrArg not h1), trivial⟩) rfl) (by simp only [v_laws_eqMesh, h0, h1, cond_true]) rfl
  | false =>
   exact Fn.cast (CallSt.fn (callSt_of_evK (E := E0) E0Ok hMixed (c := bodyOf f18) (rows := []) (r := .b false) (rows' := [])
    (ans := [.call (.b (v_laws_eqVectorS a_0.Places b_1.Places)) [], .bo false, .call (.b (v_laws_eqInt64SS a_0.Triangles b_1.Triangles)) [], .bo true, .keep []])
    (ps := [])
    (C := [Fn prog 48 [.sl (a_0.Places.map GVector.cells), .sl (b_1.Places.map GVector.cells)] (.b (v_laws_eqVectorS a_0.Places b_1.Places)) [],
     (!(v_laws_eqVectorS a_0.Places b_1.Places)) = false,
     Fn prog 64 [.sl (a_0.Triangles.map (cL (cI .i64))), .sl (b_1.Triangles.map (cL (cI .i64)))] (.b (v_laws_eqInt64SS a_0.Triangles b_1.Triangles)) [],
     (!(v_laws_eqInt64SS a_0.Triangles b_1.Triangles)) = true])
    func18 rfl (by kernel_rfl) (by kernel_rfl)
    ⟨(t_laws_eqVectorS a_0.Places b_1.Places (show a_0.Places.length ≤ 1073741824 from (by first | assumption | omega | (simp_all <;> omega))) (show b_1.Places.length ≤ 1073741824 from (by first | assumption | omega | (simp_all <;> omega)))), (congrArg not h0), (t_laws_eqInt64SS a_0.Triangles b_1.Triangles (show a_0.Triangles.length ≤ 1073741824 from (by first | assumption | omega | (simp_all <;> omega))) (show ∀ t ∈ a_0.Triangles, t.length ≤ 1073741824 from (by first | assumption | omega | (simp_all <;> omega))) (show b_1.Triangles.length ≤ 1073741824 from (by first | assumption | omega | (simp_all <;> omega))) (show ∀ t ∈ b_1.Triangles, t.length ≤ 1073741824 from (by first | assumption | omega | (simp_all <;> omega)))), (congrArg not h1), trivial⟩) rfl) (by simp only [v_laws_eqMesh, h0, h1, cond_true, cond_false]) rfl
 | false =>
  exact Fn.cast (CallSt.fn (callSt_of_evK (E := E0) E0Ok hMixed (c := bodyOf f18) (rows := []) (r := .b false) (rows' := [])
   (ans := [.call (.b (v_laws_eqVectorS a_0.Places b_1.Places)) [], .bo true, .keep []])
   (ps := [])
   (C := [Fn prog 48 [.sl (a_0.Places.map GVector.cells), .sl (b_1.Places.map GVector.cells)] (.b (v_laws_eqVectorS a_0.Places b_1.Places)) [],
    (!(v_laws_eqVectorS a_0.Places b_1.Places)) = true])
   func18 rfl (by kernel_rfl) (by kernel_rfl)
   ⟨(t_laws_eqVectorS a_0.Places b_1.Places (show a_0.Places.length ≤ 1073741824 from (by first | assumption | omega | (simp_all <;> omega))) (show b_1.Places.length ≤ 1073741824 from (by first | assumption | omega | (simp_all <;> omega)))), (congrArg not h0), trivial⟩) rfl) (by simp only [v_laws_eqMesh, h0, cond_false]) rfl

theorem eqMesh_self (a : GMesh) : v_laws_eqMesh a a = true := by
  simp [v_laws_eqMesh, eqVectorS_self, eqInt64SS_self]

def v_laws_eqSpring (a_0 : GSpring) (b_1 : GSpring) : Bool := (cond (a_0.A != b_1.A)
  false
  (cond (a_0.B != b_1.B)
    false
    (cond (v_laws_sameFloat (fcv .f32 .f64 a_0.Long) (fcv .f32 .f64 b_1.Long))
      (cond (v_laws_sameFloat (fcv .f32 .f64 a_0.Stiff) (fcv .f32 .f64 b_1.Stiff))
        true
        false)
      false)))

theorem t_laws_eqSpring (a_0 : GSpring) (b_1 : GSpring)   : Fn prog 131 [.agg [.i .i64 a_0.A, .i .i64 a_0.B, .f .f32 a_0.Long, .f .f32 a_0.Stiff], .agg [.i .i64 b_1.A, .i .i64 b_1.B, .f .f32 b_1.Long, .f .f32 b_1.Stiff]] (.b (v_laws_eqSpring a_0 b_1)) [] := by
 cases h0 : (a_0.A != b_1.A) with
 | true =>
  exact Fn.cast (CallSt.fn (callSt_of_evK (E := E0) E0Ok hMixed (c := bodyOf f131) (rows := []) (r := .b false) (rows' := [])
   (ans := [.bo true, .keep []])
   (ps := [])
   (C := [(a_0.A != b_1.A) = true])
   func131 rfl (by kernel_rfl) (by kernel_rfl)
   ⟨h0, trivial⟩) rfl) (by simp only [v_laws_eqSpring, h0, cond_true]) rfl
 | false =>
  cases h1 : (a_0.B != b_1.B) with
  | true =>
   exact Fn.cast (CallSt.fn (callSt_of_evK (E := E0) E0Ok hMixed (c := bodyOf f131) (rows := []) (r := .b false) (rows' := [])
    (ans := [.bo false, .bo true, .keep []])
    (ps := [])
    (C := [(a_0.A != b_1.A) = false,
     (a_0.B != b_1.B) = true])
    func131 rfl (by kernel_rfl) (by kernel_rfl)
    ⟨h0, h1, trivial⟩) rfl) (by simp only [v_laws_eqSpring, h0, h1, cond_true, cond_false]) rfl
  | false =>
   cases h2 : (v_laws_sameFloat (fcv .f32 .f64 a_0.Long) (fcv .f32 .f64 b_1.Long)) with
   | true =>
    cases h3 : (v_laws_sameFloat (fcv .f32 .f64 a_0.Stiff) (fcv .f32 .f64 b_1.Stiff)) with
    | true =>
     exact Fn.cast (CallSt.fn (callSt_of_evK (E := E0) E0Ok hMixed (c := bodyOf f131) (rows := []) (r := .b true) (rows' := [])
      (ans := [.bo false, .bo false, .call (.b (v_laws_sameFloat (fcv .f32 .f64 a_0.Long) (fcv .f32 .f64 b_1.Long))) [], .bo false, .call (.b (v_laws_sameFloat (fcv .f32 .f64 a_0.Stiff) (fcv .f32 .f64 b_1.Stiff))) [], .bo false, .keep []])
      (ps := [])
      (C := [(a_0.A != b_1.A) = false,
       (a_0.B != b_1.B) = false,
       fcvOk .f32 .f64 a_0.Long = true,
       fcvOk .f32 .f64 b_1.Long = true,
       Fn prog 17 [.f .f64 (fcv .f32 .f64 a_0.Long), .f .f64 (fcv .f32 .f64 b_1.Long)] (.b (v_laws_sameFloat (fcv .f32 .f64 a_0.Long) (fcv .f32 .f64 b_1.Long))) [],
       (!(v_laws_sameFloat (fcv .f32 .f64 a_0.Long) (fcv .f32 .f64 b_1.Long))) = false,
       fcvOk .f32 .f64 a_0.Stiff = true,
       fcvOk .f32 .f64 b_1.Stiff = true,
       Fn prog 17 [.f .f64 (fcv .f32 .f64 a_0.Stiff), .f .f64 (fcv .f32 .f64 b_1.Stiff)] (.b (v_laws_sameFloat (fcv .f32 .f64 a_0.Stiff) (fcv .f32 .f64 b_1.Stiff))) [],
       (!(v_laws_sameFloat (fcv .f32 .f64 a_0.Stiff) (fcv .f32 .f64 b_1.Stiff))) = false])
      func131 rfl (by kernel_rfl) (by kernel_rfl)
      ⟨h0, h1, (widenOk _), (widenOk _), (t_laws_sameFloat (fcv .f32 .f64 a_0.Long) (fcv .f32 .f64 b_1.Long)), (congrArg not h2), (widenOk _), (widenOk _), (t_laws_sameFloat (fcv .f32 .f64 a_0.Stiff) (fcv .f32 .f64 b_1.Stiff)), (congrArg not h3), trivial⟩) rfl) (by simp only [v_laws_eqSpring, h0, h1, h2, h3, cond_true, cond_false]) rfl
    | false =>
     exact Fn.cast (CallSt.fn (callSt_of_evK (E := E0) E0Ok hMixed (c := bodyOf f131) (rows := []) (r := .b false) (rows' := [])
      (ans := [.bo false, .bo false, .call (.b (v_laws_sameFloat (fcv .f32 .f64 a_0.Long) (fcv .f32 .f64 b_1.Long))) [], .bo false, .call (.b (v_laws_sameFloat (fcv .f32 .f64 a_0.Stiff) (fcv .f32 .f64 b_1.Stiff))) [], .bo true, .keep []])
      (ps := [])
      (C := [(a_0.A != b_1.A) = false,
       (a_0.B != b_1.B) = false,
       fcvOk .f32 .f64 a_0.Long = true,
       fcvOk .f32 .f64 b_1.Long = true,
       Fn prog 17 [.f .f64 (fcv .f32 .f64 a_0.Long), .f .f64 (fcv .f32 .f64 b_1.Long)] (.b (v_laws_sameFloat (fcv .f32 .f64 a_0.Long) (fcv .f32 .f64 b_1.Long))) [],
       (!(v_laws_sameFloat (fcv .f32 .f64 a_0.Long) (fcv .f32 .f64 b_1.Long))) = false,
       fcvOk .f32 .f64 a_0.Stiff = true,
       fcvOk .f32 .f64 b_1.Stiff = true,
       Fn prog 17 [.f .f64 (fcv .f32 .f64 a_0.Stiff), .f .f64 (fcv .f32 .f64 b_1.Stiff)] (.b (v_laws_sameFloat (fcv .f32 .f64 a_0.Stiff) (fcv .f32 .f64 b_1.Stiff))) [],
       (!(v_laws_sameFloat (fcv .f32 .f64 a_0.Stiff) (fcv .f32 .f64 b_1.Stiff))) = true])
      func131 rfl (by kernel_rfl) (by kernel_rfl)
      ⟨h0, h1, (widenOk _), (widenOk _), (t_laws_sameFloat (fcv .f32 .f64 a_0.Long) (fcv .f32 .f64 b_1.Long)), (congrArg not h2), (widenOk _), (widenOk _), (t_laws_sameFloat (fcv .f32 .f64 a_0.Stiff) (fcv .f32 .f64 b_1.Stiff)), (congrArg not h3), trivial⟩) rfl) (by simp only [v_laws_eqSpring, h0, h1, h2, h3, cond_true, cond_false]) rfl
   | false =>
    exact Fn.cast (CallSt.fn (callSt_of_evK (E := E0) E0Ok hMixed (c := bodyOf f131) (rows := []) (r := .b false) (rows' := [])
     (ans := [.bo false, .bo false, .call (.b (v_laws_sameFloat (fcv .f32 .f64 a_0.Long) (fcv .f32 .f64 b_1.Long))) [], .bo true, .keep []])
     (ps := [])
     (C := [(a_0.A != b_1.A) = false,
      (a_0.B != b_1.B) = false,
      fcvOk .f32 .f64 a_0.Long = true,
      fcvOk .f32 .f64 b_1.Long = true,
      Fn prog 17 [.f .f64 (fcv .f32 .f64 a_0.Long), .f .f64 (fcv .f32 .f64 b_1.Long)] (.b (v_laws_sameFloat (fcv .f32 .f64 a_0.Long) (fcv .f32 .f64 b_1.Long))) [],
      (!(v_laws_sameFloat (fcv .f32 .f64 a_0.Long) (fcv .f32 .f64 b_1.Long))) = true])
     func131 rfl (by kernel_rfl) (by kernel_rfl)
     ⟨h0, h1, (widenOk _), (widenOk _), (t_laws_sameFloat (fcv .f32 .f64 a_0.Long) (fcv .f32 .f64 b_1.Long)), (congrArg not h2), trivial⟩) rfl) (by simp only [v_laws_eqSpring, h0, h1, h2, cond_false]) rfl

theorem eqSpring_self (a : GSpring) : v_laws_eqSpring a a = true := by
  simp [v_laws_eqSpring, same_self]

def lo_laws_eqSpringS_1 (a_0 : (List GSpring)) (b_1 : (List GSpring)) : Nat → Int → (Unit) ⊕ (Unit)
  | 0, _ => .inl default
  | k + 1, i_l0 => (cond (decide (i_l0 < (a_0.length : Int)))
    (cond (v_laws_eqSpring (a_0.getD i_l0.toNat default) (b_1.getD i_l0.toNat default))
      (lo_laws_eqSpringS_1 a_0 b_1 k (i_l0 + 1))
      (.inl ()))
    (.inr ()))

def ls_laws_eqSpringS_1 (a_0 : (List GSpring)) (b_1 : (List GSpring)) : (Unit) ⊕ (Unit) → Ex × St
  | .inl r => (.ret, ⟨[.any, .any, .any, .any, .b false, .any, .any, .any, .any, .any, .any, .any, .any, .any, .any, .any, .any, .any, .any, .any, .any, .any, .any, .any, .any, .any, .any], []⟩)
  | .inr r => ((.exit 0), ⟨[.sl (a_0.map GSpring.cells), .sl (b_1.map GSpring.cells), .any, .any, .any, .any, .sl (a_0.map GSpring.cells), .i .i64 (a_0.length : Int), .sl (b_1.map GSpring.cells), .i .i64 (b_1.length : Int), .b ((a_0.length : Int) != (b_1.length : Int)), .any, .any, .any, .any, .any, .any, .any, .any, .any, .any, .any, .any, .any, .any, .any, .any], []⟩)

theorem lp_laws_eqSpringS_1 (a_0 : (List GSpring)) (b_1 : (List GSpring)) (hp0 : a_0.length ≤ 1073741824) (hp1 : b_1.length ≤ 1073741824) (hf_laws_eqSpringS_1_0 : ((a_0.length : Int) != (b_1.length : Int)) = false) : ∀ (k : Nat) (i_l0 : Int) (hv_laws_eqSpringS_1_0 : 0 ≤ i_l0) (hk : ((a_0.length : Int) - i_l0).toNat < k), Lp prog 0 (sub (bodyOf f84) [1, 1, 0, 1, 0, 0]) ⟨[.sl (a_0.map GSpring.cells), .sl (b_1.map GSpring.cells), .any, .any, .any, .i .i64 i_l0, .sl (a_0.map GSpring.cells), .i .i64 (a_0.length : Int), .sl (b_1.map GSpring.cells), .i .i64 (b_1.length : Int), .b ((a_0.length : Int) != (b_1.length : Int)), .any, .any, .any, .any, .any, .any, .any, .any, .any, .any, .any, .any, .any, .any, .any, .any], []⟩ (ls_laws_eqSpringS_1 a_0 b_1 (lo_laws_eqSpringS_1 a_0 b_1 k i_l0)).1 (ls_laws_eqSpringS_1 a_0 b_1 (lo_laws_eqSpringS_1 a_0 b_1 k i_l0)).2 := by
 intro k
 induction k with
 | zero => intro i_l0 hv_laws_eqSpringS_1_0 hk; exact absurd hk (Nat.not_lt_zero _)
 | succ k ih =>
  intro i_l0 hv_laws_eqSpringS_1_0 hk
  cases h_0 : (decide (i_l0 < (a_0.length : Int))) with
  | true =>
   cases h_1 : (v_laws_eqSpring (a_0.getD i_l0.toNat default) (b_1.getD i_l0.toNat default)) with
   | true =>
    have e : lo_laws_eqSpringS_1 a_0 b_1 (k + 1) i_l0 = (lo_laws_eqSpringS_1 a_0 b_1 k (i_l0 + 1)) := by simp only [lo_laws_eqSpringS_1, h_0, h_1, cond_true]
    rw [e]
    exact stepK_next (E := E0) E0Ok hMixed (body := (sub (bodyOf f84) [1, 1, 0, 1, 0, 0])) (st := ⟨[.sl (a_0.map GSpring.cells), .sl (b_1.map GSpring.cells), .any, .any, .any, .i .i64 i_l0, .sl (a_0.map GSpring.cells), .i .i64 (a_0.length : Int), .sl (b_1.map GSpring.cells), .i .i64 (b_1.length : Int), .b ((a_0.length : Int) != (b_1.length : Int)), .any, .any, .any, .any, .any, .any, .any, .any, .any, .any, .any, .any, .any, .any, .any, .any], []⟩)
     (st2 := ⟨[.sl (a_0.map GSpring.cells), .sl (b_1.map GSpring.cells), .any, .any, .any, .i .i64 (i_l0 + 1), .sl (a_0.map GSpring.cells), .i .i64 (a_0.length : Int), .sl (b_1.map GSpring.cells), .i .i64 (b_1.length : Int), .b ((a_0.length : Int) != (b_1.length : Int)), .any, .any, .any, .any, .any, .any, .any, .any, .any, .any, .any, .any, .any, .any, .any, .any], []⟩)
     (ans := [.num (a_0.length : Int), .bo true, .keep [8, 8], .el [.i .i64 ((a_0.getD i_l0.toNat default).A), .i .i64 ((a_0.getD i_l0.toNat default).B), .f .f32 ((a_0.getD i_l0.toNat default).Long), .f .f32 ((a_0.getD i_l0.toNat default).Stiff)], .el [.i .i64 ((b_1.getD i_l0.toNat default).A), .i .i64 ((b_1.getD i_l0.toNat default).B), .f .f32 ((b_1.getD i_l0.toNat default).Long), .f .f32 ((b_1.getD i_l0.toNat default).Stiff)], .call (.b (v_laws_eqSpring (a_0.getD i_l0.toNat default) (b_1.getD i_l0.toNat default))) [], .bo false, .num (i_l0 + 1)])
     (ps := []) (mask := [true, true, false, false, false, true, true, true, true, true, true, false, false, false, false, false, false, false, false, false, false, false, false, false, false, false, false]) (ks := [])
     (C := [(((a_0.map GSpring.cells).length : Nat) : Int) = (a_0.length : Int),
      (decide (i_l0 < (a_0.length : Int))) = true,
      0 ≤ i_l0 ∧ (a_0.map GSpring.cells)[Int.toNat i_l0]? = some [.i .i64 ((a_0.getD i_l0.toNat default).A), .i .i64 ((a_0.getD i_l0.toNat default).B), .f .f32 ((a_0.getD i_l0.toNat default).Long), .f .f32 ((a_0.getD i_l0.toNat default).Stiff)],
      0 ≤ i_l0 ∧ (b_1.map GSpring.cells)[Int.toNat i_l0]? = some [.i .i64 ((b_1.getD i_l0.toNat default).A), .i .i64 ((b_1.getD i_l0.toNat default).B), .f .f32 ((b_1.getD i_l0.toNat default).Long), .f .f32 ((b_1.getD i_l0.toNat default).Stiff)],
      Fn prog 131 [.agg [.i .i64 ((a_0.getD i_l0.toNat default).A), .i .i64 ((a_0.getD i_l0.toNat default).B), .f .f32 ((a_0.getD i_l0.toNat default).Long), .f .f32 ((a_0.getD i_l0.toNat default).Stiff)], .agg [.i .i64 ((b_1.getD i_l0.toNat default).A), .i .i64 ((b_1.getD i_l0.toNat default).B), .f .f32 ((b_1.getD i_l0.toNat default).Long), .f .f32 ((b_1.getD i_l0.toNat default).Stiff)]] (.b (v_laws_eqSpring (a_0.getD i_l0.toNat default) (b_1.getD i_l0.toNat default))) [],
      (!(v_laws_eqSpring (a_0.getD i_l0.toNat default) (b_1.getD i_l0.toNat default))) = false,
      IntKind.wrap .i64 (i_l0 + 1) = (i_l0 + 1)])
     (by kernel_rfl)
     ⟨len_ok, h_0, (get_ok (by first | assumption | omega | (simp_all <;> omega)) (by first | assumption | omega | (simp_all <;> omega))), (get_ok (by first | assumption | omega | (simp_all <;> omega)) (by first | assumption | omega | (simp_all <;> omega))), (t_laws_eqSpring (a_0.getD i_l0.toNat default) (b_1.getD i_l0.toNat default)), (congrArg not h_1), (wrap_id (by first | assumption | omega | (simp_all <;> omega)) (by first | assumption | omega | (simp_all <;> omega))), trivial⟩
     rfl (ih (i_l0 + 1) (show 0 ≤ (i_l0 + 1) from (by first | assumption | omega | (simp_all <;> omega))) (by first | assumption | omega | (simp_all <;> omega)))
   | false =>
    have e : lo_laws_eqSpringS_1 a_0 b_1 (k + 1) i_l0 = (.inl ()) := by simp only [lo_laws_eqSpringS_1, h_0, h_1, cond_true, cond_false]
    rw [e]
    exact stepK_out (E := E0) E0Ok hMixed (e := .ret) (body := (sub (bodyOf f84) [1, 1, 0, 1, 0, 0])) (st := ⟨[.sl (a_0.map GSpring.cells), .sl (b_1.map GSpring.cells), .any, .any, .any, .i .i64 i_l0, .sl (a_0.map GSpring.cells), .i .i64 (a_0.length : Int), .sl (b_1.map GSpring.cells), .i .i64 (b_1.length : Int), .b ((a_0.length : Int) != (b_1.length : Int)), .any, .any, .any, .any, .any, .any, .any, .any, .any, .any, .any, .any, .any, .any, .any, .any], []⟩)
     (st2 := ⟨[.any, .any, .any, .any, .b false, .any, .any, .any, .any, .any, .any, .any, .any, .any, .any, .any, .any, .any, .any, .any, .any, .any, .any, .any, .any, .any, .any], []⟩)
     (ans := [.num (a_0.length : Int), .bo true, .keep [8, 8], .el [.i .i64 ((a_0.getD i_l0.toNat default).A), .i .i64 ((a_0.getD i_l0.toNat default).B), .f .f32 ((a_0.getD i_l0.toNat default).Long), .f .f32 ((a_0.getD i_l0.toNat default).Stiff)], .el [.i .i64 ((b_1.getD i_l0.toNat default).A), .i .i64 ((b_1.getD i_l0.toNat default).B), .f .f32 ((b_1.getD i_l0.toNat default).Long), .f .f32 ((b_1.getD i_l0.toNat default).Stiff)], .call (.b (v_laws_eqSpring (a_0.getD i_l0.toNat default) (b_1.getD i_l0.toNat default))) [], .bo true])
     (ps := []) (mask := [false, false, false, false, true, false, false, false, false, false, false, false, false, false, false, false, false, false, false, false, false, false, false, false, false, false, false]) (ks := [])
     (C := [(((a_0.map GSpring.cells).length : Nat) : Int) = (a_0.length : Int),
      (decide (i_l0 < (a_0.length : Int))) = true,
      0 ≤ i_l0 ∧ (a_0.map GSpring.cells)[Int.toNat i_l0]? = some [.i .i64 ((a_0.getD i_l0.toNat default).A), .i .i64 ((a_0.getD i_l0.toNat default).B), .f .f32 ((a_0.getD i_l0.toNat default).Long), .f .f32 ((a_0.getD i_l0.toNat default).Stiff)],
      0 ≤ i_l0 ∧ (b_1.map GSpring.cells)[Int.toNat i_l0]? = some [.i .i64 ((b_1.getD i_l0.toNat default).A), .i .i64 ((b_1.getD i_l0.toNat default).B), .f .f32 ((b_1.getD i_l0.toNat default).Long), .f .f32 ((b_1.getD i_l0.toNat default).Stiff)],
      Fn prog 131 [.agg [.i .i64 ((a_0.getD i_l0.toNat default).A), .i .i64 ((a_0.getD i_l0.toNat default).B), .f .f32 ((a_0.getD i_l0.toNat default).Long), .f .f32 ((a_0.getD i_l0.toNat default).Stiff)], .agg [.i .i64 ((b_1.getD i_l0.toNat default).A), .i .i64 ((b_1.getD i_l0.toNat default).B), .f .f32 ((b_1.getD i_l0.toNat default).Long), .f .f32 ((b_1.getD i_l0.toNat default).Stiff)]] (.b (v_laws_eqSpring (a_0.getD i_l0.toNat default) (b_1.getD i_l0.toNat default))) [],
      (!(v_laws_eqSpring (a_0.getD i_l0.toNat default) (b_1.getD i_l0.toNat default))) = true])
     (by kernel_rfl)
     ⟨len_ok, h_0, (get_ok (by first | assumption | omega | (simp_all <;> omega)) (by first | assumption | omega | (simp_all <;> omega))), (get_ok (by first | assumption | omega | (simp_all <;> omega)) (by first | assumption | omega | (simp_all <;> omega))), (t_laws_eqSpring (a_0.getD i_l0.toNat default) (b_1.getD i_l0.toNat default)), (congrArg not h_1), trivial⟩
     (by intro h; cases h) rfl
  | false =>
   have e : lo_laws_eqSpringS_1 a_0 b_1 (k + 1) i_l0 = (.inr ()) := by simp only [lo_laws_eqSpringS_1, h_0, cond_false]
   rw [e]
   exact stepK_out (E := E0) E0Ok hMixed (e := (.exit 0)) (body := (sub (bodyOf f84) [1, 1, 0, 1, 0, 0])) (st := ⟨[.sl (a_0.map GSpring.cells), .sl (b_1.map GSpring.cells), .any, .any, .any, .i .i64 i_l0, .sl (a_0.map GSpring.cells), .i .i64 (a_0.length : Int), .sl (b_1.map GSpring.cells), .i .i64 (b_1.length : Int), .b ((a_0.length : Int) != (b_1.length : Int)), .any, .any, .any, .any, .any, .any, .any, .any, .any, .any, .any, .any, .any, .any, .any, .any], []⟩)
    (st2 := ⟨[.sl (a_0.map GSpring.cells), .sl (b_1.map GSpring.cells), .any, .any, .any, .any, .sl (a_0.map GSpring.cells), .i .i64 (a_0.length : Int), .sl (b_1.map GSpring.cells), .i .i64 (b_1.length : Int), .b ((a_0.length : Int) != (b_1.length : Int)), .any, .any, .any, .any, .any, .any, .any, .any, .any, .any, .any, .any, .any, .any, .any, .any], []⟩)
    (ans := [.num (a_0.length : Int), .bo false])
    (ps := []) (mask := [true, true, false, false, false, false, true, true, true, true, true, false, false, false, false, false, false, false, false, false, false, false, false, false, false, false, false]) (ks := [])
    (C := [(((a_0.map GSpring.cells).length : Nat) : Int) = (a_0.length : Int),
     (decide (i_l0 < (a_0.length : Int))) = false])
    (by kernel_rfl)
    ⟨len_ok, h_0, trivial⟩
    (by intro h; cases h) rfl

def lr_laws_eqSpringS_1_0 (a_0 : (List GSpring)) (b_1 : (List GSpring)) : (Unit) ⊕ (Unit) := (lo_laws_eqSpringS_1 a_0 b_1 (((a_0.length : Int) - 0).toNat + 1) 0)

def v_laws_eqSpringS (a_0 : (List GSpring)) (b_1 : (List GSpring)) : Bool := (cond ((a_0.length : Int) != (b_1.length : Int))
  false
  (match (lr_laws_eqSpringS_1_0 a_0 b_1) with
    | .inl r2 => false
    | .inr r2 => true))

theorem t_laws_eqSpringS (a_0 : (List GSpring)) (b_1 : (List GSpring)) (hp0 : a_0.length ≤ 1073741824) (hp1 : b_1.length ≤ 1073741824)  : Fn prog 84 [.sl (a_0.map GSpring.cells), .sl (b_1.map GSpring.cells)] (.b (v_laws_eqSpringS a_0 b_1)) [] := by
 cases h0 : ((a_0.length : Int) != (b_1.length : Int)) with
 | true =>
  exact Fn.cast (CallSt.fn (callSt_of_evK (E := E0) E0Ok hMixed (c := bodyOf f84) (rows := []) (r := .b false) (rows' := [])
   (ans := [.num (a_0.length : Int), .num (b_1.length : Int), .bo true, .keep []])
   (ps := [])
   (C := [(((a_0.map GSpring.cells).length : Nat) : Int) = (a_0.length : Int),
    (((b_1.map GSpring.cells).length : Nat) : Int) = (b_1.length : Int),
    ((a_0.length : Int) != (b_1.length : Int)) = true])
   func84 rfl (by kernel_rfl) (by kernel_rfl)
   ⟨len_ok, len_ok, h0, trivial⟩) rfl) (by simp only [v_laws_eqSpringS, h0, cond_true]) rfl
 | false =>
  cases h1 : (lr_laws_eqSpringS_1_0 a_0 b_1) with
  | inl r2 =>
   exact Fn.cast (CallSt.fn (callSt_of_evK (E := E0) E0Ok hMixed (c := bodyOf f84) (rows := []) (r := .b false) (rows' := [])
    (ans := [.num (a_0.length : Int), .num (b_1.length : Int), .bo false, .loop [true, true, false, false, false, true, true, true, true, true, true, false, false, false, false, false, false, false, false, false, false, false, false, false, false, false, false] 0 .ret ⟨[.any, .any, .any, .any, .b false, .any, .any, .any, .any, .any, .any, .any, .any, .any, .any, .any, .any, .any, .any, .any, .any, .any, .any, .any, .any, .any, .any], []⟩, .keep []])
    (ps := [])
    (C := [(((a_0.map GSpring.cells).length : Nat) : Int) = (a_0.length : Int),
     (((b_1.map GSpring.cells).length : Nat) : Int) = (b_1.length : Int),
     ((a_0.length : Int) != (b_1.length : Int)) = false,
     Lp prog 0 (sub (bodyOf f84) [1, 1, 0, 1, 0, 0]) ⟨[.sl (a_0.map GSpring.cells), .sl (b_1.map GSpring.cells), .any, .any, .any, .i .i64 0, .sl (a_0.map GSpring.cells), .i .i64 (a_0.length : Int), .sl (b_1.map GSpring.cells), .i .i64 (b_1.length : Int), .b ((a_0.length : Int) != (b_1.length : Int)), .any, .any, .any, .any, .any, .any, .any, .any, .any, .any, .any, .any, .any, .any, .any, .any], []⟩ .ret ⟨[.any, .any, .any, .any, .b false, .any, .any, .any, .any, .any, .any, .any, .any, .any, .any, .any, .any, .any, .any, .any, .any, .any, .any, .any, .any, .any, .any], []⟩])
    func84 rfl (by kernel_rfl) (by kernel_rfl)
    ⟨len_ok, len_ok, h0, (by have q := (lp_laws_eqSpringS_1 a_0 b_1 hp0 hp1 h0 (((a_0.length : Int) - 0).toNat + 1) 0 (show 0 ≤ 0 from (by first | assumption | omega | (simp_all <;> omega))) (Nat.lt_succ_self _)); rw [show (lo_laws_eqSpringS_1 a_0 b_1 (((a_0.length : Int) - 0).toNat + 1) 0) = _ from rfl] at q; rw [show (lo_laws_eqSpringS_1 a_0 b_1 (((a_0.length : Int) - 0).toNat + 1) 0) = (lr_laws_eqSpringS_1_0 a_0 b_1) from rfl, h1] at q; exact q), trivial⟩) rfl) (by simp only [v_laws_eqSpringS, h0, h1, cond_false]) rfl
  | inr r2 =>
   exact Fn.cast (CallSt.fn (callSt_of_evK (E := E0) E0Ok hMixed (c := bodyOf f84) (rows := []) (r := .b true) (rows' := [])
    (ans := [.num (a_0.length : Int), .num (b_1.length : Int), .bo false, .loop [true, true, false, false, false, true, true, true, true, true, true, false, false, false, false, false, false, false, false, false, false, false, false, false, false, false, false] 0 (.exit 0) ⟨[.sl (a_0.map GSpring.cells), .sl (b_1.map GSpring.cells), .any, .any, .any, .any, .sl (a_0.map GSpring.cells), .i .i64 (a_0.length : Int), .sl (b_1.map GSpring.cells), .i .i64 (b_1.length : Int), .b ((a_0.length : Int) != (b_1.length : Int)), .any, .any, .any, .any, .any, .any, .any, .any, .any, .any, .any, .any, .any, .any, .any, .any], []⟩, .keep []])
    (ps := [])
    (C := [(((a_0.map GSpring.cells).length : Nat) : Int) = (a_0.length : Int),
     (((b_1.map GSpring.cells).length : Nat) : Int) = (b_1.length : Int),
     ((a_0.length : Int) != (b_1.length : Int)) = false,
     Lp prog 0 (sub (bodyOf f84) [1, 1, 0, 1, 0, 0]) ⟨[.sl (a_0.map GSpring.cells), .sl (b_1.map GSpring.cells), .any, .any, .any, .i .i64 0, .sl (a_0.map GSpring.cells), .i .i64 (a_0.length : Int), .sl (b_1.map GSpring.cells), .i .i64 (b_1.length : Int), .b ((a_0.length : Int) != (b_1.length : Int)), .any, .any, .any, .any, .any, .any, .any, .any, .any, .any, .any, .any, .any, .any, .any, .any], []⟩ (.exit 0) ⟨[.sl (a_0.map GSpring.cells), .sl (b_1.map GSpring.cells), .any, .any, .any, .any, .sl (a_0.map GSpring.cells), .i .i64 (a_0.length : Int), .sl (b_1.map GSpring.cells), .i .i64 (b_1.length : Int), .b ((a_0.length : Int) != (b_1.length : Int)), .any, .any, .any, .any, .any, .any, .any, .any, .any, .any, .any, .any, .any, .any, .any, .any], []⟩])
    func84 rfl (by kernel_rfl) (by kernel_rfl)
    ⟨len_ok, len_ok, h0, (by have q := (lp_laws_eqSpringS_1 a_0 b_1 hp0 hp1 h0 (((a_0.length : Int) - 0).toNat + 1) 0 (show 0 ≤ 0 from (by first | assumption | omega | (simp_all <;> omega))) (Nat.lt_succ_self _)); rw [show (lo_laws_eqSpringS_1 a_0 b_1 (((a_0.length : Int) - 0).toNat + 1) 0) = _ from rfl] at q; rw [show (lo_laws_eqSpringS_1 a_0 b_1 (((a_0.length : Int) - 0).toNat + 1) 0) = (lr_laws_eqSpringS_1_0 a_0 b_1) from rfl, h1] at q; exact q), trivial⟩) rfl) (by simp only [v_laws_eqSpringS, h0, h1, cond_false]) rfl

theorem eqSpringS_self (a : List GSpring) : v_laws_eqSpringS a a = true := by
  unfold v_laws_eqSpringS lr_laws_eqSpringS_1_0
  rw [all_from (a := a) (p := fun v => v_laws_eqSpring v v) (lo := lo_laws_eqSpringS_1 a a) (x := ()) (y := ()) (fun k i => rfl)]
  rw [show (a.all fun v => v_laws_eqSpring v v) = true from by rw [List.all_eq_true]; intro v _; exact eqSpring_self v]
  simp

def v_laws_eqBody (a_0 : GBody) (b_1 : GBody) : Bool := (cond (v_laws_eqMesh a_0.Mesh b_1.Mesh)
  (cond (v_laws_eqSpringS a_0.Springs b_1.Springs)
    (cond (v_laws_sameFloat (fcv .f32 .f64 a_0.Film) (fcv .f32 .f64 b_1.Film))
      (cond (v_laws_sameFloat (fcv .f32 .f64 a_0.Bend) (fcv .f32 .f64 b_1.Bend))
        (cond (v_laws_eqFloat32S a_0.Weights b_1.Weights)
          (cond (v_laws_eqVector a_0.Fall b_1.Fall)
            true
            false)
          false)
        false)
      false)
    false)
  false)

theorem t_laws_eqBody (a_0 : GBody) (b_1 : GBody) (hp0 : a_0.Mesh.Places.length ≤ 1073741824) (hp1 : a_0.Mesh.Triangles.length ≤ 1073741824) (hp2 : ∀ t ∈ a_0.Mesh.Triangles, t.length ≤ 1073741824) (hp3 : a_0.Springs.length ≤ 1073741824) (hp4 : a_0.Weights.length ≤ 1073741824) (hp5 : b_1.Mesh.Places.length ≤ 1073741824) (hp6 : b_1.Mesh.Triangles.length ≤ 1073741824) (hp7 : ∀ t ∈ b_1.Mesh.Triangles, t.length ≤ 1073741824) (hp8 : b_1.Springs.length ≤ 1073741824) (hp9 : b_1.Weights.length ≤ 1073741824)  : Fn prog 30 [.agg [.sl (a_0.Mesh.Places.map GVector.cells), .sl (a_0.Mesh.Triangles.map (cL (cI .i64))), .sl (a_0.Springs.map GSpring.cells), .f .f32 a_0.Film, .f .f32 a_0.Bend, .sl (a_0.Weights.map (cF .f32)), .f .f32 a_0.Fall.X, .f .f32 a_0.Fall.Y, .f .f32 a_0.Fall.Z], .agg [.sl (b_1.Mesh.Places.map GVector.cells), .sl (b_1.Mesh.Triangles.map (cL (cI .i64))), .sl (b_1.Springs.map GSpring.cells), .f .f32 b_1.Film, .f .f32 b_1.Bend, .sl (b_1.Weights.map (cF .f32)), .f .f32 b_1.Fall.X, .f .f32 b_1.Fall.Y, .f .f32 b_1.Fall.Z]] (.b (v_laws_eqBody a_0 b_1)) [] := by
 cases h0 : (v_laws_eqMesh a_0.Mesh b_1.Mesh) with
 | true =>
  cases h1 : (v_laws_eqSpringS a_0.Springs b_1.Springs) with
  | true =>
   cases h2 : (v_laws_sameFloat (fcv .f32 .f64 a_0.Film) (fcv .f32 .f64 b_1.Film)) with
   | true =>
    cases h3 : (v_laws_sameFloat (fcv .f32 .f64 a_0.Bend) (fcv .f32 .f64 b_1.Bend)) with
    | true =>
     cases h4 : (v_laws_eqFloat32S a_0.Weights b_1.Weights) with
     | true =>
      cases h5 : (v_laws_eqVector a_0.Fall b_1.Fall) with
      | true =>
       exact Fn.cast (CallSt.fn (callSt_of_evK (E := E0) E0Ok hMixed (c := bodyOf f30) (rows := []) (r := .b true) (rows' := [])
        (ans := [.call (.b (v_laws_eqMesh a_0.Mesh b_1.Mesh)) [], .bo false, .call (.b (v_laws_eqSpringS a_0.Springs b_1.Springs)) [], .bo false, .call (.b (v_laws_sameFloat (fcv .f32 .f64 a_0.Film) (fcv .f32 .f64 b_1.Film))) [], .bo false, .call (.b (v_laws_sameFloat (fcv .f32 .f64 a_0.Bend) (fcv .f32 .f64 b_1.Bend))) [], .bo false, .call (.b (v_laws_eqFloat32S a_0.Weights b_1.Weights)) [], .bo false, .call (.b (v_laws_eqVector a_0.Fall b_1.Fall)) [], .bo false, .keep []])
        (ps := [])
        (C := [Fn prog 18 [.agg [.sl (a_0.Mesh.Places.map GVector.cells), .sl (a_0.Mesh.Triangles.map (cL (cI .i64)))], .agg [.sl (b_1.Mesh.Places.map GVector.cells), .sl (b_1.Mesh.Triangles.map (cL (cI .i64)))]] (.b (v_laws_eqMesh a_0.Mesh b_1.Mesh)) [],
         (!(v_laws_eqMesh a_0.Mesh b_1.Mesh)) = false,
         Fn prog 84 [.sl (a_0.Springs.map GSpring.cells), .sl (b_1.Springs.map GSpring.cells)] (.b (v_laws_eqSpringS a_0.Springs b_1.Springs)) [],
         (!(v_laws_eqSpringS a_0.Springs b_1.Springs)) = false,
         fcvOk .f32 .f64 a_0.Film = true,
         fcvOk .f32 .f64 b_1.Film = true,
         Fn prog 17 [.f .f64 (fcv .f32 .f64 a_0.Film), .f .f64 (fcv .f32 .f64 b_1.Film)] (.b (v_laws_sameFloat (fcv .f32 .f64 a_0.Film) (fcv .f32 .f64 b_1.Film))) [],
         (!(v_laws_sameFloat (fcv .f32 .f64 a_0.Film) (fcv .f32 .f64 b_1.Film))) = false,
         fcvOk .f32 .f64 a_0.Bend = true,
         fcvOk .f32 .f64 b_1.Bend = true,
         Fn prog 17 [.f .f64 (fcv .f32 .f64 a_0.Bend), .f .f64 (fcv .f32 .f64 b_1.Bend)] (.b (v_laws_sameFloat (fcv .f32 .f64 a_0.Bend) (fcv .f32 .f64 b_1.Bend))) [],
         (!(v_laws_sameFloat (fcv .f32 .f64 a_0.Bend) (fcv .f32 .f64 b_1.Bend))) = false,
         Fn prog 35 [.sl (a_0.Weights.map (cF .f32)), .sl (b_1.Weights.map (cF .f32))] (.b (v_laws_eqFloat32S a_0.Weights b_1.Weights)) [],
         (!(v_laws_eqFloat32S a_0.Weights b_1.Weights)) = false,
         Fn prog 29 [.agg [.f .f32 a_0.Fall.X, .f .f32 a_0.Fall.Y, .f .f32 a_0.Fall.Z], .agg [.f .f32 b_1.Fall.X, .f .f32 b_1.Fall.Y, .f .f32 b_1.Fall.Z]] (.b (v_laws_eqVector a_0.Fall b_1.Fall)) [],
         (!(v_laws_eqVector a_0.Fall b_1.Fall)) = false])
        func30 rfl (by kernel_rfl) (by kernel_rfl)
        ⟨(t_laws_eqMesh a_0.Mesh b_1.Mesh (show a_0.Mesh.Places.length ≤ 1073741824 from (by first | assumption | omega | (simp_all <;> omega))) (show a_0.Mesh.Triangles.length ≤ 1073741824 from (by first | assumption | omega | (simp_all <;> omega))) (show ∀ t ∈ a_0.Mesh.Triangles, t.length ≤ 1073741824 from (by first | assumption | omega | (simp_all <;> omega))) (show b_1.Mesh.Places.length ≤ 1073741824 from (by first | assumption | omega | (simp_all <;> omega))) (show b_1.Mesh.Triangles.length ≤ 1073741824 from (by first | assumption | omega | (simp_all <;> omega))) (show ∀ t ∈ b_1.Mesh.Triangles, t.length ≤ 1073741824 from (by first | assumption | omega | (simp_all <;> omega)))), (congrArg not h0), (t_laws_eqSpringS a_0.Springs b_1.Springs (show a_0.Springs.length ≤ 1073741824 from (by first | assumption | omega | (simp_all <;> omega))) (show b_1.Springs.length ≤ 1073741824 from (by first | assumption | omega | (simp_all <;> omega)))), (congrArg not h1), (widenOk _), (widenOk _), (t_laws_sameFloat (fcv .f32 .f64 a_0.Film) (fcv .f32 .f64 b_1.Film)), (congrArg not h2), (widenOk _), (widenOk _), (t_laws_sameFloat (fcv .f32 .f64 a_0.Bend) (fcv .f32 .f64 b_1.Bend)), (congrArg not h3), (t_laws_eqFloat32S a_0.Weights b_1.Weights (show a_0.Weights.length ≤ 1073741824 from (by first | assumption | omega | (simp_all <;> omega))) (show b_1.Weights.length ≤ 1073741824 from (by first | assumption | omega | (simp_all <;> omega)))), (congrArg not h4), (t_laws_eqVector a_0.Fall b_1.Fall), (congrArg not h5), trivial⟩) rfl) (by simp only [v_laws_eqBody, h0, h1, h2, h3, h4, h5, cond_true]) rfl
      | false =>
       exact Fn.cast (CallSt.fn (callSt_of_evK (E := E0) E0Ok hMixed (c := bodyOf f30) (rows := []) (r := .b false) (rows' := [])
        (ans := [.call (.b (v_laws_eqMesh a_0.Mesh b_1.Mesh)) [], .bo false, .call (.b (v_laws_eqSpringS a_0.Springs b_1.Springs)) [], .bo false, .call (.b (v_laws_sameFloat (fcv .f32 .f64 a_0.Film) (fcv .f32 .f64 b_1.Film))) [], .bo false, .call (.b (v_laws_sameFloat (fcv .f32 .f64 a_0.Bend) (fcv .f32 .f64 b_1.Bend))) [], .bo false, .call (.b (v_laws_eqFloat32S a_0.Weights b_1.Weights)) [], .bo false, .call (.b (v_laws_eqVector a_0.Fall b_1.Fall)) [], .bo true, .keep []])
        (ps := [])
        (C := [Fn prog 18 [.agg [.sl (a_0.Mesh.Places.map GVector.cells), .sl (a_0.Mesh.Triangles.map (cL (cI .i64)))], .agg [.sl (b_1.Mesh.Places.map GVector.cells), .sl (b_1.Mesh.Triangles.map (cL (cI .i64)))]] (.b (v_laws_eqMesh a_0.Mesh b_1.Mesh)) [],
         (!(v_laws_eqMesh a_0.Mesh b_1.Mesh)) = false,
         Fn prog 84 [.sl (a_0.Springs.map GSpring.cells), .sl (b_1.Springs.map GSpring.cells)] (.b (v_laws_eqSpringS a_0.Springs b_1.Springs)) [],
         (!(v_laws_eqSpringS a_0.Springs b_1.Springs)) = false,
         fcvOk .f32 .f64 a_0.Film = true,
         fcvOk .f32 .f64 b_1.Film = true,
         Fn prog 17 [.f .f64 (fcv .f32 .f64 a_0.Film), .f .f64 (fcv .f32 .f64 b_1.Film)] (.b (v_laws_sameFloat (fcv .f32 .f64 a_0.Film) (fcv .f32 .f64 b_1.Film))) [],
         (!(v_laws_sameFloat (fcv .f32 .f64 a_0.Film) (fcv .f32 .f64 b_1.Film))) = false,
         fcvOk .f32 .f64 a_0.Bend = true,
         fcvOk .f32 .f64 b_1.Bend = true,
         Fn prog 17 [.f .f64 (fcv .f32 .f64 a_0.Bend), .f .f64 (fcv .f32 .f64 b_1.Bend)] (.b (v_laws_sameFloat (fcv .f32 .f64 a_0.Bend) (fcv .f32 .f64 b_1.Bend))) [],
         (!(v_laws_sameFloat (fcv .f32 .f64 a_0.Bend) (fcv .f32 .f64 b_1.Bend))) = false,
         Fn prog 35 [.sl (a_0.Weights.map (cF .f32)), .sl (b_1.Weights.map (cF .f32))] (.b (v_laws_eqFloat32S a_0.Weights b_1.Weights)) [],
         (!(v_laws_eqFloat32S a_0.Weights b_1.Weights)) = false,
         Fn prog 29 [.agg [.f .f32 a_0.Fall.X, .f .f32 a_0.Fall.Y, .f .f32 a_0.Fall.Z], .agg [.f .f32 b_1.Fall.X, .f .f32 b_1.Fall.Y, .f .f32 b_1.Fall.Z]] (.b (v_laws_eqVector a_0.Fall b_1.Fall)) [],
         (!(v_laws_eqVector a_0.Fall b_1.Fall)) = true])
        func30 rfl (by kernel_rfl) (by kernel_rfl)
        ⟨(t_laws_eqMesh a_0.Mesh b_1.Mesh (show a_0.Mesh.Places.length ≤ 1073741824 from (by first | assumption | omega | (simp_all <;> omega))) (show a_0.Mesh.Triangles.length ≤ 1073741824 from (by first | assumption | omega | (simp_all <;> omega))) (show ∀ t ∈ a_0.Mesh.Triangles, t.length ≤ 1073741824 from (by first | assumption | omega | (simp_all <;> omega))) (show b_1.Mesh.Places.length ≤ 1073741824 from (by first | assumption | omega | (simp_all <;> omega))) (show b_1.Mesh.Triangles.length ≤ 1073741824 from (by first | assumption | omega | (simp_all <;> omega))) (show ∀ t ∈ b_1.Mesh.Triangles, t.length ≤ 1073741824 from (by first | assumption | omega | (simp_all <;> omega)))), (congrArg not h0), (t_laws_eqSpringS a_0.Springs b_1.Springs (show a_0.Springs.length ≤ 1073741824 from (by first | assumption | omega | (simp_all <;> omega))) (show b_1.Springs.length ≤ 1073741824 from (by first | assumption | omega | (simp_all <;> omega)))), (congrArg not h1), (widenOk _), (widenOk _), (t_laws_sameFloat (fcv .f32 .f64 a_0.Film) (fcv .f32 .f64 b_1.Film)), (congrArg not h2), (widenOk _), (widenOk _), (t_laws_sameFloat (fcv .f32 .f64 a_0.Bend) (fcv .f32 .f64 b_1.Bend)), (congrArg not h3), (t_laws_eqFloat32S a_0.Weights b_1.Weights (show a_0.Weights.length ≤ 1073741824 from (by first | assumption | omega | (simp_all <;> omega))) (show b_1.Weights.length ≤ 1073741824 from (by first | assumption | omega | (simp_all <;> omega)))), (congrArg not h4), (t_laws_eqVector a_0.Fall b_1.Fall), (congrArg not h5), trivial⟩) rfl) (by simp only [v_laws_eqBody, h0, h1, h2, h3, h4, h5, cond_true, cond_false]) rfl
     | false =>
      exact Fn.cast (CallSt.fn (callSt_of_evK (E := E0) E0Ok hMixed (c := bodyOf f30) (rows := []) (r := .b false) (rows' := [])
       (ans := [.call (.b (v_laws_eqMesh a_0.Mesh b_1.Mesh)) [], .bo false, .call (.b (v_laws_eqSpringS a_0.Springs b_1.Springs)) [], .bo false, .call (.b (v_laws_sameFloat (fcv .f32 .f64 a_0.Film) (fcv .f32 .f64 b_1.Film))) [], .bo false, .call (.b (v_laws_sameFloat (fcv .f32 .f64 a_0.Bend) (fcv .f32 .f64 b_1.Bend))) [], .bo false, .call (.b (v_laws_eqFloat32S a_0.Weights b_1.Weights)) [], .bo true, .keep []])
       (ps := [])
       (C := [Fn prog 18 [.agg [.sl (a_0.Mesh.Places.map GVector.cells), .sl (a_0.Mesh.Triangles.map (cL (cI .i64)))], .agg [.sl (b_1.Mesh.Places.map GVector.cells), .sl (b_1.Mesh.Triangles.map (cL (cI .i64)))]] (.b (v_laws_eqMesh a_0.Mesh b_1.Mesh)) [],
        (!(v_laws_eqMesh a_0.Mesh b_1.Mesh)) = false,
        Fn prog 84 [.sl (a_0.Springs.map GSpring.cells), .sl (b_1.Springs.map GSpring.cells)] (.b (v_laws_eqSpringS a_0.Springs b_1.Springs)) [],
        (!(v_laws_eqSpringS a_0.Springs b_1.Springs)) = false,
        fcvOk .f32 .f64 a_0.Film = true,
        fcvOk .f32 .f64 b_1.Film = true,
        Fn prog 17 [.f .f64 (fcv .f32 .f64 a_0.Film), .f .f64 (fcv .f32 .f64 b_1.Film)] (.b (v_laws_sameFloat (fcv .f32 .f64 a_0.Film) (fcv .f32 .f64 b_1.Film))) [],
        (!(v_laws_sameFloat (fcv .f32 .f64 a_0.Film) (fcv .f32 .f64 b_1.Film))) = false,
        fcvOk .f32 .f64 a_0.Bend = true,
        fcvOk .f32 .f64 b_1.Bend = true,
        Fn prog 17 [.f .f64 (fcv .f32 .f64 a_0.Bend), .f .f64 (fcv .f32 .f64 b_1.Bend)] (.b (v_laws_sameFloat (fcv .f32 .f64 a_0.Bend) (fcv .f32 .f64 b_1.Bend))) [],
        (!(v_laws_sameFloat (fcv .f32 .f64 a_0.Bend) (fcv .f32 .f64 b_1.Bend))) = false,
        Fn prog 35 [.sl (a_0.Weights.map (cF .f32)), .sl (b_1.Weights.map (cF .f32))] (.b (v_laws_eqFloat32S a_0.Weights b_1.Weights)) [],
        (!(v_laws_eqFloat32S a_0.Weights b_1.Weights)) = true])
       func30 rfl (by kernel_rfl) (by kernel_rfl)
       ⟨(t_laws_eqMesh a_0.Mesh b_1.Mesh (show a_0.Mesh.Places.length ≤ 1073741824 from (by first | assumption | omega | (simp_all <;> omega))) (show a_0.Mesh.Triangles.length ≤ 1073741824 from (by first | assumption | omega | (simp_all <;> omega))) (show ∀ t ∈ a_0.Mesh.Triangles, t.length ≤ 1073741824 from (by first | assumption | omega | (simp_all <;> omega))) (show b_1.Mesh.Places.length ≤ 1073741824 from (by first | assumption | omega | (simp_all <;> omega))) (show b_1.Mesh.Triangles.length ≤ 1073741824 from (by first | assumption | omega | (simp_all <;> omega))) (show ∀ t ∈ b_1.Mesh.Triangles, t.length ≤ 1073741824 from (by first | assumption | omega | (simp_all <;> omega)))), (congrArg not h0), (t_laws_eqSpringS a_0.Springs b_1.Springs (show a_0.Springs.length ≤ 1073741824 from (by first | assumption | omega | (simp_all <;> omega))) (show b_1.Springs.length ≤ 1073741824 from (by first | assumption | omega | (simp_all <;> omega)))), (congrArg not h1), (widenOk _), (widenOk _), (t_laws_sameFloat (fcv .f32 .f64 a_0.Film) (fcv .f32 .f64 b_1.Film)), (congrArg not h2), (widenOk _), (widenOk _), (t_laws_sameFloat (fcv .f32 .f64 a_0.Bend) (fcv .f32 .f64 b_1.Bend)), (congrArg not h3), (t_laws_eqFloat32S a_0.Weights b_1.Weights (show a_0.Weights.length ≤ 1073741824 from (by first | assumption | omega | (simp_all <;> omega))) (show b_1.Weights.length ≤ 1073741824 from (by first | assumption | omega | (simp_all <;> omega)))), (congrArg not h4), trivial⟩) rfl) (by simp only [v_laws_eqBody, h0, h1, h2, h3, h4, cond_true, cond_false]) rfl
    | false =>
     exact Fn.cast (CallSt.fn (callSt_of_evK (E := E0) E0Ok hMixed (c := bodyOf f30) (rows := []) (r := .b false) (rows' := [])
      (ans := [.call (.b (v_laws_eqMesh a_0.Mesh b_1.Mesh)) [], .bo false, .call (.b (v_laws_eqSpringS a_0.Springs b_1.Springs)) [], .bo false, .call (.b (v_laws_sameFloat (fcv .f32 .f64 a_0.Film) (fcv .f32 .f64 b_1.Film))) [], .bo false, .call (.b (v_laws_sameFloat (fcv .f32 .f64 a_0.Bend) (fcv .f32 .f64 b_1.Bend))) [], .bo true, .keep []])
      (ps := [])
      (C := [Fn prog 18 [.agg [.sl (a_0.Mesh.Places.map GVector.cells), .sl (a_0.Mesh.Triangles.map (cL (cI .i64)))], .agg [.sl (b_1.Mesh.Places.map GVector.cells), .sl (b_1.Mesh.Triangles.map (cL (cI .i64)))]] (.b (v_laws_eqMesh a_0.Mesh b_1.Mesh)) [],
       (!(v_laws_eqMesh a_0.Mesh b_1.Mesh)) = false,
       Fn prog 84 [.sl (a_0.Springs.map GSpring.cells), .sl (b_1.Springs.map GSpring.cells)] (.b (v_laws_eqSpringS a_0.Springs b_1.Springs)) [],
       (!(v_laws_eqSpringS a_0.Springs b_1.Springs)) = false,
       fcvOk .f32 .f64 a_0.Film = true,
       fcvOk .f32 .f64 b_1.Film = true,
       Fn prog 17 [.f .f64 (fcv .f32 .f64 a_0.Film), .f .f64 (fcv .f32 .f64 b_1.Film)] (.b (v_laws_sameFloat (fcv .f32 .f64 a_0.Film) (fcv .f32 .f64 b_1.Film))) [],
       (!(v_laws_sameFloat (fcv .f32 .f64 a_0.Film) (fcv .f32 .f64 b_1.Film))) = false,
       fcvOk .f32 .f64 a_0.Bend = true,
       fcvOk .f32 .f64 b_1.Bend = true,
       Fn prog 17 [.f .f64 (fcv .f32 .f64 a_0.Bend), .f .f64 (fcv .f32 .f64 b_1.Bend)] (.b (v_laws_sameFloat (fcv .f32 .f64 a_0.Bend) (fcv .f32 .f64 b_1.Bend))) [],
       (!(v_laws_sameFloat (fcv .f32 .f64 a_0.Bend) (fcv .f32 .f64 b_1.Bend))) = true])
      func30 rfl (by kernel_rfl) (by kernel_rfl)
      ⟨(t_laws_eqMesh a_0.Mesh b_1.Mesh (show a_0.Mesh.Places.length ≤ 1073741824 from (by first | assumption | omega | (simp_all <;> omega))) (show a_0.Mesh.Triangles.length ≤ 1073741824 from (by first | assumption | omega | (simp_all <;> omega))) (show ∀ t ∈ a_0.Mesh.Triangles, t.length ≤ 1073741824 from (by first | assumption | omega | (simp_all <;> omega))) (show b_1.Mesh.Places.length ≤ 1073741824 from (by first | assumption | omega | (simp_all <;> omega))) (show b_1.Mesh.Triangles.length ≤ 1073741824 from (by first | assumption | omega | (simp_all <;> omega))) (show ∀ t ∈ b_1.Mesh.Triangles, t.length ≤ 1073741824 from (by first | assumption | omega | (simp_all <;> omega)))), (congrArg not h0), (t_laws_eqSpringS a_0.Springs b_1.Springs (show a_0.Springs.length ≤ 1073741824 from (by first | assumption | omega | (simp_all <;> omega))) (show b_1.Springs.length ≤ 1073741824 from (by first | assumption | omega | (simp_all <;> omega)))), (congrArg not h1), (widenOk _), (widenOk _), (t_laws_sameFloat (fcv .f32 .f64 a_0.Film) (fcv .f32 .f64 b_1.Film)), (congrArg not h2), (widenOk _), (widenOk _), (t_laws_sameFloat (fcv .f32 .f64 a_0.Bend) (fcv .f32 .f64 b_1.Bend)), (congrArg not h3), trivial⟩) rfl) (by simp only [v_laws_eqBody, h0, h1, h2, h3, cond_true, cond_false]) rfl
   | false =>
    exact Fn.cast (CallSt.fn (callSt_of_evK (E := E0) E0Ok hMixed (c := bodyOf f30) (rows := []) (r := .b false) (rows' := [])
     (ans := [.call (.b (v_laws_eqMesh a_0.Mesh b_1.Mesh)) [], .bo false, .call (.b (v_laws_eqSpringS a_0.Springs b_1.Springs)) [], .bo false, .call (.b (v_laws_sameFloat (fcv .f32 .f64 a_0.Film) (fcv .f32 .f64 b_1.Film))) [], .bo true, .keep []])
     (ps := [])
     (C := [Fn prog 18 [.agg [.sl (a_0.Mesh.Places.map GVector.cells), .sl (a_0.Mesh.Triangles.map (cL (cI .i64)))], .agg [.sl (b_1.Mesh.Places.map GVector.cells), .sl (b_1.Mesh.Triangles.map (cL (cI .i64)))]] (.b (v_laws_eqMesh a_0.Mesh b_1.Mesh)) [],
      (!(v_laws_eqMesh a_0.Mesh b_1.Mesh)) = false,
      Fn prog 84 [.sl (a_0.Springs.map GSpring.cells), .sl (b_1.Springs.map GSpring.cells)] (.b (v_laws_eqSpringS a_0.Springs b_1.Springs)) [],
      (!(v_laws_eqSpringS a_0.Springs b_1.Springs)) = false,
      fcvOk .f32 .f64 a_0.Film = true,
      fcvOk .f32 .f64 b_1.Film = true,
      Fn prog 17 [.f .f64 (fcv .f32 .f64 a_0.Film), .f .f64 (fcv .f32 .f64 b_1.Film)] (.b (v_laws_sameFloat (fcv .f32 .f64 a_0.Film) (fcv .f32 .f64 b_1.Film))) [],
      (!(v_laws_sameFloat (fcv .f32 .f64 a_0.Film) (fcv .f32 .f64 b_1.Film))) = true])
     func30 rfl (by kernel_rfl) (by kernel_rfl)
     ⟨(t_laws_eqMesh a_0.Mesh b_1.Mesh (show a_0.Mesh.Places.length ≤ 1073741824 from (by first | assumption | omega | (simp_all <;> omega))) (show a_0.Mesh.Triangles.length ≤ 1073741824 from (by first | assumption | omega | (simp_all <;> omega))) (show ∀ t ∈ a_0.Mesh.Triangles, t.length ≤ 1073741824 from (by first | assumption | omega | (simp_all <;> omega))) (show b_1.Mesh.Places.length ≤ 1073741824 from (by first | assumption | omega | (simp_all <;> omega))) (show b_1.Mesh.Triangles.length ≤ 1073741824 from (by first | assumption | omega | (simp_all <;> omega))) (show ∀ t ∈ b_1.Mesh.Triangles, t.length ≤ 1073741824 from (by first | assumption | omega | (simp_all <;> omega)))), (congrArg not h0), (t_laws_eqSpringS a_0.Springs b_1.Springs (show a_0.Springs.length ≤ 1073741824 from (by first | assumption | omega | (simp_all <;> omega))) (show b_1.Springs.length ≤ 1073741824 from (by first | assumption | omega | (simp_all <;> omega)))), (congrArg not h1), (widenOk _), (widenOk _), (t_laws_sameFloat (fcv .f32 .f64 a_0.Film) (fcv .f32 .f64 b_1.Film)), (congrArg not h2), trivial⟩) rfl) (by simp only [v_laws_eqBody, h0, h1, h2, cond_true, cond_false]) rfl
  | false =>
   exact Fn.cast (CallSt.fn (callSt_of_evK (E := E0) E0Ok hMixed (c := bodyOf f30) (rows := []) (r := .b false) (rows' := [])
    (ans := [.call (.b (v_laws_eqMesh a_0.Mesh b_1.Mesh)) [], .bo false, .call (.b (v_laws_eqSpringS a_0.Springs b_1.Springs)) [], .bo true, .keep []])
    (ps := [])
    (C := [Fn prog 18 [.agg [.sl (a_0.Mesh.Places.map GVector.cells), .sl (a_0.Mesh.Triangles.map (cL (cI .i64)))], .agg [.sl (b_1.Mesh.Places.map GVector.cells), .sl (b_1.Mesh.Triangles.map (cL (cI .i64)))]] (.b (v_laws_eqMesh a_0.Mesh b_1.Mesh)) [],
     (!(v_laws_eqMesh a_0.Mesh b_1.Mesh)) = false,
     Fn prog 84 [.sl (a_0.Springs.map GSpring.cells), .sl (b_1.Springs.map GSpring.cells)] (.b (v_laws_eqSpringS a_0.Springs b_1.Springs)) [],
     (!(v_laws_eqSpringS a_0.Springs b_1.Springs)) = true])
    func30 rfl (by kernel_rfl) (by kernel_rfl)
    ⟨(t_laws_eqMesh a_0.Mesh b_1.Mesh (show a_0.Mesh.Places.length ≤ 1073741824 from (by first | assumption | omega | (simp_all <;> omega))) (show a_0.Mesh.Triangles.length ≤ 1073741824 from (by first | assumption | omega | (simp_all <;> omega))) (show ∀ t ∈ a_0.Mesh.Triangles, t.length ≤ 1073741824 from (by first | assumption | omega | (simp_all <;> omega))) (show b_1.Mesh.Places.length ≤ 1073741824 from (by first | assumption | omega | (simp_all <;> omega))) (show b_1.Mesh.Triangles.length ≤ 1073741824 from (by first | assumption | omega | (simp_all <;> omega))) (show ∀ t ∈ b_1.Mesh.Triangles, t.length ≤ 1073741824 from (by first | assumption | omega | (simp_all <;> omega)))), (congrArg not h0), (t_laws_eqSpringS a_0.Springs b_1.Springs (show a_0.Springs.length ≤ 1073741824 from (by first | assumption | omega | (simp_all <;> omega))) (show b_1.Springs.length ≤ 1073741824 from (by first | assumption | omega | (simp_all <;> omega)))), (congrArg not h1), trivial⟩) rfl) (by simp only [v_laws_eqBody, h0, h1, cond_true, cond_false]) rfl
 | false =>
  exact Fn.cast (CallSt.fn (callSt_of_evK (E := E0) E0Ok hMixed (c := bodyOf f30) (rows := []) (r := .b false) (rows' := [])
   (ans := [.call (.b (v_laws_eqMesh a_0.Mesh b_1.Mesh)) [], .bo true, .keep []])
   (ps := [])
   (C := [Fn prog 18 [.agg [.sl (a_0.Mesh.Places.map GVector.cells), .sl (a_0.Mesh.Triangles.map (cL (cI .i64)))], .agg [.sl (b_1.Mesh.Places.map GVector.cells), .sl (b_1.Mesh.Triangles.map (cL (cI .i64)))]] (.b (v_laws_eqMesh a_0.Mesh b_1.Mesh)) [],
    (!(v_laws_eqMesh a_0.Mesh b_1.Mesh)) = true])
   func30 rfl (by kernel_rfl) (by kernel_rfl)
   ⟨(t_laws_eqMesh a_0.Mesh b_1.Mesh (show a_0.Mesh.Places.length ≤ 1073741824 from (by first | assumption | omega | (simp_all <;> omega))) (show a_0.Mesh.Triangles.length ≤ 1073741824 from (by first | assumption | omega | (simp_all <;> omega))) (show ∀ t ∈ a_0.Mesh.Triangles, t.length ≤ 1073741824 from (by first | assumption | omega | (simp_all <;> omega))) (show b_1.Mesh.Places.length ≤ 1073741824 from (by first | assumption | omega | (simp_all <;> omega))) (show b_1.Mesh.Triangles.length ≤ 1073741824 from (by first | assumption | omega | (simp_all <;> omega))) (show ∀ t ∈ b_1.Mesh.Triangles, t.length ≤ 1073741824 from (by first | assumption | omega | (simp_all <;> omega)))), (congrArg not h0), trivial⟩) rfl) (by simp only [v_laws_eqBody, h0, cond_false]) rfl

end Go.Ab
