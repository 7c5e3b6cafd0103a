/- The functions of this seat as plain Lean, and that the program's are these. Printed by a program of the prover's own. -/
import Derived.Test.YtceihfmhaojohaaB0
set_option linter.unusedVariables false
set_option maxRecDepth 100000
namespace Go.Ab
open Go.Proofs.Try
open Go.RowKit

def v_laws_szVectorS (a_0 : (List GVector)) (left_1 : Int) : Int := (cond (decide ((IntKind.wrap .i64 (left_1 - (a_0.length : Int))) < 0))
  (-1)
  (IntKind.wrap .i64 (left_1 - (a_0.length : Int))))

theorem t_laws_szVectorS (a_0 : (List GVector)) (left_1 : Int) (hp0 : a_0.length ≤ 9223372036854775807)  : Fn prog 44 [.sl (a_0.map GVector.cells), .i .i64 left_1] (.i .i64 (v_laws_szVectorS a_0 left_1)) [] := by
 cases h0 : (decide ((IntKind.wrap .i64 (left_1 - (a_0.length : Int))) < 0)) with
 | true =>
  exact Fn.cast (CallSt.fn (callSt_of_evK (E := E0) E0Ok hMixed (c := bodyOf f44) (rows := []) (r := .i .i64 (-1)) (rows' := [])
   (ans := [.num (a_0.length : Int), .num (IntKind.wrap .i64 (left_1 - (a_0.length : Int))), .bo true, .keep []])
   (ps := [])
   (C := [(((a_0.map GVector.cells).length : Nat) : Int) = (a_0.length : Int),
    IntKind.wrap .i64 (left_1 - (a_0.length : Int)) = (IntKind.wrap .i64 (left_1 - (a_0.length : Int))),
    (decide ((IntKind.wrap .i64 (left_1 - (a_0.length : Int))) < 0)) = true])
   func44 rfl (by kernel_rfl) (by kernel_rfl)
   ⟨len_ok, rfl, h0, trivial⟩) rfl) (by simp only [v_laws_szVectorS, h0, cond_true]) rfl
 | false =>
  exact Fn.cast (CallSt.fn (callSt_of_evK (E := E0) E0Ok hMixed (c := bodyOf f44) (rows := []) (r := .i .i64 (IntKind.wrap .i64 (left_1 - (a_0.length : Int)))) (rows' := [])
   (ans := [.num (a_0.length : Int), .num (IntKind.wrap .i64 (left_1 - (a_0.length : Int))), .bo false, .keep []])
   (ps := [])
   (C := [(((a_0.map GVector.cells).length : Nat) : Int) = (a_0.length : Int),
    IntKind.wrap .i64 (left_1 - (a_0.length : Int)) = (IntKind.wrap .i64 (left_1 - (a_0.length : Int))),
    (decide ((IntKind.wrap .i64 (left_1 - (a_0.length : Int))) < 0)) = false])
   func44 rfl (by kernel_rfl) (by kernel_rfl)
   ⟨len_ok, rfl, h0, trivial⟩) rfl) (by simp only [v_laws_szVectorS, h0, cond_false]) rfl

theorem ok_laws_szVectorS (a : List GVector) (left : Int) (h0 : a.length ≤ 9223372036854775807) (h1 : -1 ≤ left) (h2 : left ≤ 1048576) : -1 ≤ v_laws_szVectorS a left ∧ v_laws_szVectorS a left ≤ left ∧ (v_laws_szVectorS a left < 0 ∨ (a.length : Int) ≤ left) := by
  unfold v_laws_szVectorS
  rw [wrap_sub (by omega) (by omega)]
  by_cases h : left - (a.length : Int) < 0
  · simp [h]; omega
  · simp [h]; omega

def v_laws_szInt64S (a_0 : (List Int)) (left_1 : Int) : Int := (cond (decide ((IntKind.wrap .i64 (left_1 - (a_0.length : Int))) < 0))
  (-1)
  (IntKind.wrap .i64 (left_1 - (a_0.length : Int))))

theorem t_laws_szInt64S (a_0 : (List Int)) (left_1 : Int) (hp0 : a_0.length ≤ 9223372036854775807)  : Fn prog 112 [.sl (a_0.map (cI .i64)), .i .i64 left_1] (.i .i64 (v_laws_szInt64S a_0 left_1)) [] := by
 cases h0 : (decide ((IntKind.wrap .i64 (left_1 - (a_0.length : Int))) < 0)) with
 | true =>
  exact Fn.cast (CallSt.fn (callSt_of_evK (E := E0) E0Ok hMixed (c := bodyOf f112) (rows := []) (r := .i .i64 (-1)) (rows' := [])
   (ans := [.num (a_0.length : Int), .num (IntKind.wrap .i64 (left_1 - (a_0.length : Int))), .bo true, .keep []])
   (ps := [])
   (C := [(((a_0.map (cI .i64)).length : Nat) : Int) = (a_0.length : Int),
    IntKind.wrap .i64 (left_1 - (a_0.length : Int)) = (IntKind.wrap .i64 (left_1 - (a_0.length : Int))),
    (decide ((IntKind.wrap .i64 (left_1 - (a_0.length : Int))) < 0)) = true])
   func112 rfl (by kernel_rfl) (by kernel_rfl)
   ⟨len_ok, rfl, h0, trivial⟩) rfl) (by simp only [v_laws_szInt64S, h0, cond_true]) rfl
 | false =>
  exact Fn.cast (CallSt.fn (callSt_of_evK (E := E0) E0Ok hMixed (c := bodyOf f112) (rows := []) (r := .i .i64 (IntKind.wrap .i64 (left_1 - (a_0.length : Int)))) (rows' := [])
   (ans := [.num (a_0.length : Int), .num (IntKind.wrap .i64 (left_1 - (a_0.length : Int))), .bo false, .keep []])
   (ps := [])
   (C := [(((a_0.map (cI .i64)).length : Nat) : Int) = (a_0.length : Int),
    IntKind.wrap .i64 (left_1 - (a_0.length : Int)) = (IntKind.wrap .i64 (left_1 - (a_0.length : Int))),
    (decide ((IntKind.wrap .i64 (left_1 - (a_0.length : Int))) < 0)) = false])
   func112 rfl (by kernel_rfl) (by kernel_rfl)
   ⟨len_ok, rfl, h0, trivial⟩) rfl) (by simp only [v_laws_szInt64S, h0, cond_false]) rfl

theorem ok_laws_szInt64S (a : List Int) (left : Int) (h0 : a.length ≤ 9223372036854775807) (h1 : -1 ≤ left) (h2 : left ≤ 1048576) : -1 ≤ v_laws_szInt64S a left ∧ v_laws_szInt64S a left ≤ left ∧ (v_laws_szInt64S a left < 0 ∨ (a.length : Int) ≤ left) := by
  unfold v_laws_szInt64S
  rw [wrap_sub (by omega) (by omega)]
  by_cases h : left - (a.length : Int) < 0
  · simp [h]; omega
  · simp [h]; omega

def lo_laws_szInt64SS_1 (a_0 : (List (List Int))) (left_1 : Int) : Nat → Int → Int → (Unit) ⊕ (Int)
  | 0, _, _ => .inl default
  | k + 1, left_l0, i_l1 => (cond (decide (i_l1 < (a_0.length : Int)))
    (cond (decide ((v_laws_szInt64S (a_0.getD i_l1.toNat default) left_l0) < 0))
      (.inl ())
      (lo_laws_szInt64SS_1 a_0 left_1 k (v_laws_szInt64S (a_0.getD i_l1.toNat default) left_l0) (i_l1 + 1)))
    (.inr left_l0))

def ls_laws_szInt64SS_1 (a_0 : (List (List Int))) (left_1 : Int) : (Unit) ⊕ (Int) → Ex × St
  | .inl r => (.ret, ⟨[.any, .any, .any, .any, .i .i64 (-1), .any, .any, .any, .any, .any, .any, .any, .any, .any, .any, .any, .any, .any, .any, .any, .any, .any, .any, .any, .any, .any, .any], []⟩)
  | .inr r => ((.exit 0), ⟨[.sl (a_0.map (cL (cI .i64))), .i .i64 r, .any, .any, .any, .any, .i .i64 left_1, .sl (a_0.map (cL (cI .i64))), .i .i64 (a_0.length : Int), .i .i64 (IntKind.wrap .i64 (left_1 - (a_0.length : Int))), .i .i64 (IntKind.wrap .i64 (left_1 - (a_0.length : Int))), .b (decide ((IntKind.wrap .i64 (left_1 - (a_0.length : Int))) < 0)), .any, .any, .any, .any, .any, .any, .any, .any, .any, .any, .any, .any, .any, .any, .any], []⟩)

theorem lp_laws_szInt64SS_1 (a_0 : (List (List Int))) (left_1 : Int) (hp0 : a_0.length ≤ 9223372036854775807) (hp1 : ∀ t ∈ a_0, t.length ≤ 9223372036854775807) (hf_laws_szInt64SS_1_0 : (decide ((IntKind.wrap .i64 (left_1 - (a_0.length : Int))) < 0)) = false) : ∀ (k : Nat) (left_l0 : Int) (i_l1 : Int) (hv_laws_szInt64SS_1_0 : 0 ≤ i_l1) (hk : ((a_0.length : Int) - i_l1).toNat < k), Lp prog 0 (sub (bodyOf f53) [1, 1, 1, 0, 1, 0, 0]) ⟨[.sl (a_0.map (cL (cI .i64))), .i .i64 left_l0, .any, .any, .any, .i .i64 i_l1, .i .i64 left_1, .sl (a_0.map (cL (cI .i64))), .i .i64 (a_0.length : Int), .i .i64 (IntKind.wrap .i64 (left_1 - (a_0.length : Int))), .i .i64 (IntKind.wrap .i64 (left_1 - (a_0.length : Int))), .b (decide ((IntKind.wrap .i64 (left_1 - (a_0.length : Int))) < 0)), .any, .any, .any, .any, .any, .any, .any, .any, .any, .any, .any, .any, .any, .any, .any], []⟩ (ls_laws_szInt64SS_1 a_0 left_1 (lo_laws_szInt64SS_1 a_0 left_1 k left_l0 i_l1)).1 (ls_laws_szInt64SS_1 a_0 left_1 (lo_laws_szInt64SS_1 a_0 left_1 k left_l0 i_l1)).2 := by
 intro k
 induction k with
 | zero => intro left_l0 i_l1 hv_laws_szInt64SS_1_0 hk; exact absurd hk (Nat.not_lt_zero _)
 | succ k ih =>
  intro left_l0 i_l1 hv_laws_szInt64SS_1_0 hk
  cases h_0 : (decide (i_l1 < (a_0.length : Int))) with
  | true =>
   cases h_1 : (decide ((v_laws_szInt64S (a_0.getD i_l1.toNat default) left_l0) < 0)) with
   | true =>
    have e : lo_laws_szInt64SS_1 a_0 left_1 (k + 1) left_l0 i_l1 = (.inl ()) := by simp only [lo_laws_szInt64SS_1, h_0, h_1, cond_true]
    rw [e]
    exact stepK_out (E := E0) E0Ok hMixed (e := .ret) (body := (sub (bodyOf f53) [1, 1, 1, 0, 1, 0, 0])) (st := ⟨[.sl (a_0.map (cL (cI .i64))), .i .i64 left_l0, .any, .any, .any, .i .i64 i_l1, .i .i64 left_1, .sl (a_0.map (cL (cI .i64))), .i .i64 (a_0.length : Int), .i .i64 (IntKind.wrap .i64 (left_1 - (a_0.length : Int))), .i .i64 (IntKind.wrap .i64 (left_1 - (a_0.length : Int))), .b (decide ((IntKind.wrap .i64 (left_1 - (a_0.length : Int))) < 0)), .any, .any, .any, .any, .any, .any, .any, .any, .any, .any, .any, .any, .any, .any, .any], []⟩)
     (st2 := ⟨[.any, .any, .any, .any, .i .i64 (-1), .any, .any, .any, .any, .any, .any, .any, .any, .any, .any, .any, .any, .any, .any, .any, .any, .any, .any, .any, .any, .any, .any], []⟩)
     (ans := [.num (a_0.length : Int), .bo true, .el [.sl ((a_0.getD i_l1.toNat default).map (cI .i64))], .call (.i .i64 (v_laws_szInt64S (a_0.getD i_l1.toNat default) left_l0)) [], .bo true])
     (ps := []) (mask := [false, false, false, false, true, false, false, false, false, false, false, false, false, false, false, false, false, false, false, false, false, false, false, false, false, false, false]) (ks := [])
     (C := [(((a_0.map (cL (cI .i64))).length : Nat) : Int) = (a_0.length : Int),
      (decide (i_l1 < (a_0.length : Int))) = true,
      0 ≤ i_l1 ∧ (a_0.map (cL (cI .i64)))[Int.toNat i_l1]? = some [.sl ((a_0.getD i_l1.toNat default).map (cI .i64))],
      Fn prog 112 [.sl ((a_0.getD i_l1.toNat default).map (cI .i64)), .i .i64 left_l0] (.i .i64 (v_laws_szInt64S (a_0.getD i_l1.toNat default) left_l0)) [],
      (decide ((v_laws_szInt64S (a_0.getD i_l1.toNat default) left_l0) < 0)) = true])
     (by kernel_rfl)
     ⟨len_ok, h_0, (get_ok (by first | assumption | omega | (simp_all <;> omega)) (by first | assumption | omega | (simp_all <;> omega))), (t_laws_szInt64S (a_0.getD i_l1.toNat default) left_l0 (show (a_0.getD i_l1.toNat default).length ≤ 9223372036854775807 from (by first | assumption | omega | (simp_all <;> omega)))), h_1, trivial⟩
     (by intro h; cases h) rfl
   | false =>
    have e : lo_laws_szInt64SS_1 a_0 left_1 (k + 1) left_l0 i_l1 = (lo_laws_szInt64SS_1 a_0 left_1 k (v_laws_szInt64S (a_0.getD i_l1.toNat default) left_l0) (i_l1 + 1)) := by simp only [lo_laws_szInt64SS_1, h_0, h_1, cond_true, cond_false]
    rw [e]
    exact stepK_next (E := E0) E0Ok hMixed (body := (sub (bodyOf f53) [1, 1, 1, 0, 1, 0, 0])) (st := ⟨[.sl (a_0.map (cL (cI .i64))), .i .i64 left_l0, .any, .any, .any, .i .i64 i_l1, .i .i64 left_1, .sl (a_0.map (cL (cI .i64))), .i .i64 (a_0.length : Int), .i .i64 (IntKind.wrap .i64 (left_1 - (a_0.length : Int))), .i .i64 (IntKind.wrap .i64 (left_1 - (a_0.length : Int))), .b (decide ((IntKind.wrap .i64 (left_1 - (a_0.length : Int))) < 0)), .any, .any, .any, .any, .any, .any, .any, .any, .any, .any, .any, .any, .any, .any, .any], []⟩)
     (st2 := ⟨[.sl (a_0.map (cL (cI .i64))), .i .i64 (v_laws_szInt64S (a_0.getD i_l1.toNat default) left_l0), .any, .any, .any, .i .i64 (i_l1 + 1), .i .i64 left_1, .sl (a_0.map (cL (cI .i64))), .i .i64 (a_0.length : Int), .i .i64 (IntKind.wrap .i64 (left_1 - (a_0.length : Int))), .i .i64 (IntKind.wrap .i64 (left_1 - (a_0.length : Int))), .b (decide ((IntKind.wrap .i64 (left_1 - (a_0.length : Int))) < 0)), .any, .any, .any, .any, .any, .any, .any, .any, .any, .any, .any, .any, .any, .any, .any], []⟩)
     (ans := [.num (a_0.length : Int), .bo true, .el [.sl ((a_0.getD i_l1.toNat default).map (cI .i64))], .call (.i .i64 (v_laws_szInt64S (a_0.getD i_l1.toNat default) left_l0)) [], .bo false, .num (i_l1 + 1)])
     (ps := []) (mask := [true, true, false, false, false, true, true, true, true, true, true, true, false, false, false, false, false, false, false, false, false, false, false, false, false, false, false]) (ks := [])
     (C := [(((a_0.map (cL (cI .i64))).length : Nat) : Int) = (a_0.length : Int),
      (decide (i_l1 < (a_0.length : Int))) = true,
      0 ≤ i_l1 ∧ (a_0.map (cL (cI .i64)))[Int.toNat i_l1]? = some [.sl ((a_0.getD i_l1.toNat default).map (cI .i64))],
      Fn prog 112 [.sl ((a_0.getD i_l1.toNat default).map (cI .i64)), .i .i64 left_l0] (.i .i64 (v_laws_szInt64S (a_0.getD i_l1.toNat default) left_l0)) [],
      (decide ((v_laws_szInt64S (a_0.getD i_l1.toNat default) left_l0) < 0)) = false,
      IntKind.wrap .i64 (i_l1 + 1) = (i_l1 + 1)])
     (by kernel_rfl)
     ⟨len_ok, h_0, (get_ok (by first | assumption | omega | (simp_all <;> omega)) (by first | assumption | omega | (simp_all <;> omega))), (t_laws_szInt64S (a_0.getD i_l1.toNat default) left_l0 (show (a_0.getD i_l1.toNat default).length ≤ 9223372036854775807 from (by first | assumption | omega | (simp_all <;> omega)))), h_1, (wrap_id (by first | assumption | omega | (simp_all <;> omega)) (by first | assumption | omega | (simp_all <;> omega))), trivial⟩
     rfl (ih (v_laws_szInt64S (a_0.getD i_l1.toNat default) left_l0) (i_l1 + 1) (show 0 ≤ (i_l1 + 1) from (by first | assumption | omega | (simp_all <;> omega))) (by first | assumption | omega | (simp_all <;> omega)))
  | false =>
   have e : lo_laws_szInt64SS_1 a_0 left_1 (k + 1) left_l0 i_l1 = (.inr left_l0) := by simp only [lo_laws_szInt64SS_1, h_0, cond_false]
   rw [e]
   exact stepK_out (E := E0) E0Ok hMixed (e := (.exit 0)) (body := (sub (bodyOf f53) [1, 1, 1, 0, 1, 0, 0])) (st := ⟨[.sl (a_0.map (cL (cI .i64))), .i .i64 left_l0, .any, .any, .any, .i .i64 i_l1, .i .i64 left_1, .sl (a_0.map (cL (cI .i64))), .i .i64 (a_0.length : Int), .i .i64 (IntKind.wrap .i64 (left_1 - (a_0.length : Int))), .i .i64 (IntKind.wrap .i64 (left_1 - (a_0.length : Int))), .b (decide ((IntKind.wrap .i64 (left_1 - (a_0.length : Int))) < 0)), .any, .any, .any, .any, .any, .any, .any, .any, .any, .any, .any, .any, .any, .any, .any], []⟩)
    (st2 := ⟨[.sl (a_0.map (cL (cI .i64))), .i .i64 left_l0, .any, .any, .any, .any, .i .i64 left_1, .sl (a_0.map (cL (cI .i64))), .i .i64 (a_0.length : Int), .i .i64 (IntKind.wrap .i64 (left_1 - (a_0.length : Int))), .i .i64 (IntKind.wrap .i64 (left_1 - (a_0.length : Int))), .b (decide ((IntKind.wrap .i64 (left_1 - (a_0.length : Int))) < 0)), .any, .any, .any, .any, .any, .any, .any, .any, .any, .any, .any, .any, .any, .any, .any], []⟩)
    (ans := [.num (a_0.length : Int), .bo false])
    (ps := []) (mask := [true, true, false, false, false, false, true, true, true, true, true, true, false, false, false, false, false, false, false, false, false, false, false, false, false, false, false]) (ks := [])
    (C := [(((a_0.map (cL (cI .i64))).length : Nat) : Int) = (a_0.length : Int),
     (decide (i_l1 < (a_0.length : Int))) = false])
    (by kernel_rfl)
    ⟨len_ok, h_0, trivial⟩
    (by intro h; cases h) rfl

def lr_laws_szInt64SS_1_0 (a_0 : (List (List Int))) (left_1 : Int) : (Unit) ⊕ (Int) := (lo_laws_szInt64SS_1 a_0 left_1 (((a_0.length : Int) - 0).toNat + 1) (IntKind.wrap .i64 (left_1 - (a_0.length : Int))) 0)

def v_laws_szInt64SS (a_0 : (List (List Int))) (left_1 : Int) : Int := (cond (decide ((IntKind.wrap .i64 (left_1 - (a_0.length : Int))) < 0))
  (-1)
  (match (lr_laws_szInt64SS_1_0 a_0 left_1) with
    | .inl r2 => (-1)
    | .inr r2 => r2))

theorem t_laws_szInt64SS (a_0 : (List (List Int))) (left_1 : Int) (hp0 : a_0.length ≤ 9223372036854775807) (hp1 : ∀ t ∈ a_0, t.length ≤ 9223372036854775807)  : Fn prog 53 [.sl (a_0.map (cL (cI .i64))), .i .i64 left_1] (.i .i64 (v_laws_szInt64SS a_0 left_1)) [] := by
 cases h0 : (decide ((IntKind.wrap .i64 (left_1 - (a_0.length : Int))) < 0)) with
 | true =>
  exact Fn.cast (CallSt.fn (callSt_of_evK (E := E0) E0Ok hMixed (c := bodyOf f53) (rows := []) (r := .i .i64 (-1)) (rows' := [])
   (ans := [.num (a_0.length : Int), .num (IntKind.wrap .i64 (left_1 - (a_0.length : Int))), .bo true, .keep []])
   (ps := [])
   (C := [(((a_0.map (cL (cI .i64))).length : Nat) : Int) = (a_0.length : Int),
    IntKind.wrap .i64 (left_1 - (a_0.length : Int)) = (IntKind.wrap .i64 (left_1 - (a_0.length : Int))),
    (decide ((IntKind.wrap .i64 (left_1 - (a_0.length : Int))) < 0)) = true])
   func53 rfl (by kernel_rfl) (by kernel_rfl)
   ⟨len_ok, rfl, h0, trivial⟩) rfl) (by simp only [v_laws_szInt64SS, h0, cond_true]) rfl
 | false =>
  cases h1 : (lr_laws_szInt64SS_1_0 a_0 left_1) with
  | inl r2 =>
   exact Fn.cast (CallSt.fn (callSt_of_evK (E := E0) E0Ok hMixed (c := bodyOf f53) (rows := []) (r := .i .i64 (-1)) (rows' := [])
    (ans := [.num (a_0.length : Int), .num (IntKind.wrap .i64 (left_1 - (a_0.length : Int))), .bo false, .loop [true, true, false, false, false, true, true, true, true, true, true, true, false, false, false, false, false, false, false, false, false, false, false, false, false, false, false] 0 .ret ⟨[.any, .any, .any, .any, .i .i64 (-1), .any, .any, .any, .any, .any, .any, .any, .any, .any, .any, .any, .any, .any, .any, .any, .any, .any, .any, .any, .any, .any, .any], []⟩, .keep []])
    (ps := [])
    (C := [(((a_0.map (cL (cI .i64))).length : Nat) : Int) = (a_0.length : Int),
     IntKind.wrap .i64 (left_1 - (a_0.length : Int)) = (IntKind.wrap .i64 (left_1 - (a_0.length : Int))),
     (decide ((IntKind.wrap .i64 (left_1 - (a_0.length : Int))) < 0)) = false,
     Lp prog 0 (sub (bodyOf f53) [1, 1, 1, 0, 1, 0, 0]) ⟨[.sl (a_0.map (cL (cI .i64))), .i .i64 (IntKind.wrap .i64 (left_1 - (a_0.length : Int))), .any, .any, .any, .i .i64 0, .i .i64 left_1, .sl (a_0.map (cL (cI .i64))), .i .i64 (a_0.length : Int), .i .i64 (IntKind.wrap .i64 (left_1 - (a_0.length : Int))), .i .i64 (IntKind.wrap .i64 (left_1 - (a_0.length : Int))), .b (decide ((IntKind.wrap .i64 (left_1 - (a_0.length : Int))) < 0)), .any, .any, .any, .any, .any, .any, .any, .any, .any, .any, .any, .any, .any, .any, .any], []⟩ .ret ⟨[.any, .any, .any, .any, .i .i64 (-1), .any, .any, .any, .any, .any, .any, .any, .any, .any, .any, .any, .any, .any, .any, .any, .any, .any, .any, .any, .any, .any, .any], []⟩])
    func53 rfl (by kernel_rfl) (by kernel_rfl)
    ⟨len_ok, rfl, h0, (by have q := (lp_laws_szInt64SS_1 a_0 left_1 hp0 hp1 h0 (((a_0.length : Int) - 0).toNat + 1) (IntKind.wrap .i64 (left_1 - (a_0.length : Int))) 0 (show 0 ≤ 0 from (by first | assumption | omega | (simp_all <;> omega))) (Nat.lt_succ_self _)); rw [show (lo_laws_szInt64SS_1 a_0 left_1 (((a_0.length : Int) - 0).toNat + 1) (IntKind.wrap .i64 (left_1 - (a_0.length : Int))) 0) = _ from rfl] at q; rw [show (lo_laws_szInt64SS_1 a_0 left_1 (((a_0.length : Int) - 0).toNat + 1) (IntKind.wrap .i64 (left_1 - (a_0.length : Int))) 0) = (lr_laws_szInt64SS_1_0 a_0 left_1) from rfl, h1] at q; exact q), trivial⟩) rfl) (by simp only [v_laws_szInt64SS, h0, h1, cond_false]) rfl
  | inr r2 =>
   exact Fn.cast (CallSt.fn (callSt_of_evK (E := E0) E0Ok hMixed (c := bodyOf f53) (rows := []) (r := .i .i64 r2) (rows' := [])
    (ans := [.num (a_0.length : Int), .num (IntKind.wrap .i64 (left_1 - (a_0.length : Int))), .bo false, .loop [true, true, false, false, false, true, true, true, true, true, true, true, false, false, false, false, false, false, false, false, false, false, false, false, false, false, false] 0 (.exit 0) ⟨[.sl (a_0.map (cL (cI .i64))), .i .i64 r2, .any, .any, .any, .any, .i .i64 left_1, .sl (a_0.map (cL (cI .i64))), .i .i64 (a_0.length : Int), .i .i64 (IntKind.wrap .i64 (left_1 - (a_0.length : Int))), .i .i64 (IntKind.wrap .i64 (left_1 - (a_0.length : Int))), .b (decide ((IntKind.wrap .i64 (left_1 - (a_0.length : Int))) < 0)), .any, .any, .any, .any, .any, .any, .any, .any, .any, .any, .any, .any, .any, .any, .any], []⟩, .keep []])
    (ps := [])
    (C := [(((a_0.map (cL (cI .i64))).length : Nat) : Int) = (a_0.length : Int),
     IntKind.wrap .i64 (left_1 - (a_0.length : Int)) = (IntKind.wrap .i64 (left_1 - (a_0.length : Int))),
     (decide ((IntKind.wrap .i64 (left_1 - (a_0.length : Int))) < 0)) = false,
     Lp prog 0 (sub (bodyOf f53) [1, 1, 1, 0, 1, 0, 0]) ⟨[.sl (a_0.map (cL (cI .i64))), .i .i64 (IntKind.wrap .i64 (left_1 - (a_0.length : Int))), .any, .any, .any, .i .i64 0, .i .i64 left_1, .sl (a_0.map (cL (cI .i64))), .i .i64 (a_0.length : Int), .i .i64 (IntKind.wrap .i64 (left_1 - (a_0.length : Int))), .i .i64 (IntKind.wrap .i64 (left_1 - (a_0.length : Int))), .b (decide ((IntKind.wrap .i64 (left_1 - (a_0.length : Int))) < 0)), .any, .any, .any, .any, .any, .any, .any, .any, .any, .any, .any, .any, .any, .any, .any], []⟩ (.exit 0) ⟨[.sl (a_0.map (cL (cI .i64))), .i .i64 r2, .any, .any, .any, .any, .i .i64 left_1, .sl (a_0.map (cL (cI .i64))), .i .i64 (a_0.length : Int), .i .i64 (IntKind.wrap .i64 (left_1 - (a_0.length : Int))), .i .i64 (IntKind.wrap .i64 (left_1 - (a_0.length : Int))), .b (decide ((IntKind.wrap .i64 (left_1 - (a_0.length : Int))) < 0)), .any, .any, .any, .any, .any, .any, .any, .any, .any, .any, .any, .any, .any, .any, .any], []⟩])
    func53 rfl (by kernel_rfl) (by kernel_rfl)
    ⟨len_ok, rfl, h0, (by have q := (lp_laws_szInt64SS_1 a_0 left_1 hp0 hp1 h0 (((a_0.length : Int) - 0).toNat + 1) (IntKind.wrap .i64 (left_1 - (a_0.length : Int))) 0 (show 0 ≤ 0 from (by first | assumption | omega | (simp_all <;> omega))) (Nat.lt_succ_self _)); rw [show (lo_laws_szInt64SS_1 a_0 left_1 (((a_0.length : Int) - 0).toNat + 1) (IntKind.wrap .i64 (left_1 - (a_0.length : Int))) 0) = _ from rfl] at q; rw [show (lo_laws_szInt64SS_1 a_0 left_1 (((a_0.length : Int) - 0).toNat + 1) (IntKind.wrap .i64 (left_1 - (a_0.length : Int))) 0) = (lr_laws_szInt64SS_1_0 a_0 left_1) from rfl, h1] at q; exact q), trivial⟩) rfl) (by simp only [v_laws_szInt64SS, h0, h1, cond_false]) rfl

theorem lo_szInt64SS (a : List (List Int)) (left : Int) (hb : ∀ t ∈ a, t.length ≤ 9223372036854775807) : ∀ (k : Nat) (l i : Int), 0 ≤ i → ((a.length : Int) - i).toNat < k → -1 ≤ l → l ≤ 1048576 →
    lo_laws_szInt64SS_1 a left k l i = .inl () ∨ ∃ r, lo_laws_szInt64SS_1 a left k l i = .inr r ∧ -1 ≤ r ∧ r ≤ l ∧ ∀ j, i.toNat ≤ j → j < a.length → ((a.getD j default).length : Int) ≤ l := by
  intro k
  induction k with
  | zero => intro l i h0 hk; exact absurd hk (Nat.not_lt_zero _)
  | succ k ih =>
    intro l i h0 hk h1 h2
    rw [lo_laws_szInt64SS_1]
    by_cases hi : i < (a.length : Int)
    · have hn : i.toNat < a.length := by omega
      rw [decide_eq_true hi, cond_true]
      have hm : (a.getD i.toNat default) ∈ a := by rw [List.getD_eq_getElem?_getD, List.getElem?_eq_getElem hn]; exact List.getElem_mem hn
      obtain ⟨q1, q2, q3⟩ := ok_laws_szInt64S (a.getD i.toNat default) l (hb _ hm) h1 h2
      cases hc : decide (v_laws_szInt64S (a.getD i.toNat default) l < 0) with
      | true => left; rfl
      | false =>
        simp only [decide_eq_false_iff_not] at hc
        rw [cond_false]
        rcases ih (v_laws_szInt64S (a.getD i.toNat default) l) (i + 1) (by omega) (by omega) q1 (by omega) with e | ⟨r, e, r1, r2, r3⟩
        · left; exact e
        · right
          refine ⟨r, e, r1, by omega, fun j hj hjl => ?_⟩
          by_cases hji : j = i.toNat
          · subst hji; omega
          · have := r3 j (by omega) hjl; omega
    · rw [decide_eq_false hi, cond_false]
      exact .inr ⟨l, rfl, h1, Int.le_refl _, fun j hj hjl => by omega⟩
theorem ok_laws_szInt64SS (a : List (List Int)) (left : Int) (h0 : a.length ≤ 9223372036854775807) (hb : ∀ t ∈ a, t.length ≤ 9223372036854775807) (h1 : -1 ≤ left) (h2 : left ≤ 1048576) :
    -1 ≤ v_laws_szInt64SS a left ∧ v_laws_szInt64SS a left ≤ left ∧ (v_laws_szInt64SS a left < 0 ∨ ((a.length : Int) ≤ left ∧ ∀ t ∈ a, (t.length : Int) ≤ left)) := by
  unfold v_laws_szInt64SS lr_laws_szInt64SS_1_0
  rw [wrap_sub (by omega) (by omega)]
  cases h : decide (left - (a.length : Int) < 0) with
  | true => simp only [decide_eq_true_eq] at h; rw [cond_true]; omega
  | false =>
    simp only [decide_eq_false_iff_not] at h
    rw [cond_false]
    rcases lo_szInt64SS a left hb _ (left - (a.length : Int)) 0 (Int.le_refl _) (Nat.lt_succ_self _) (by omega) (by omega) with e | ⟨r, e, r1, r2, r3⟩
    · rw [e]; simp only; omega
    · rw [e]; simp only
      refine ⟨r1, by omega, .inr ⟨by omega, fun t ht => ?_⟩⟩
      obtain ⟨j, hj, rfl⟩ := List.getElem_of_mem ht
      have := r3 j (by simp) hj
      rw [List.getD_eq_getElem?_getD, List.getElem?_eq_getElem hj, Option.getD_some] at this
      omega

def v_laws_szMesh (a_0 : GMesh) (left_1 : Int) : Int := (cond (decide ((v_laws_szVectorS a_0.Places left_1) < 0))
  (-1)
  (cond (decide ((v_laws_szInt64SS a_0.Triangles (v_laws_szVectorS a_0.Places left_1)) < 0))
    (-1)
    (v_laws_szInt64SS a_0.Triangles (v_laws_szVectorS a_0.Places left_1))))

theorem t_laws_szMesh (a_0 : GMesh) (left_1 : Int) (hp0 : a_0.Places.length ≤ 9223372036854775807) (hp1 : a_0.Triangles.length ≤ 9223372036854775807) (hp2 : ∀ t ∈ a_0.Triangles, t.length ≤ 9223372036854775807)  : Fn prog 11 [.agg [.sl (a_0.Places.map GVector.cells), .sl (a_0.Triangles.map (cL (cI .i64)))], .i .i64 left_1] (.i .i64 (v_laws_szMesh a_0 left_1)) [] := by
 cases h0 : (decide ((v_laws_szVectorS a_0.Places left_1) < 0)) with
 | true =>
  exact Fn.cast (CallSt.fn (callSt_of_evK (E := E0) E0Ok hMixed (c := bodyOf f11) (rows := []) (r := .i .i64 (-1)) (rows' := [])
   (ans := [.call (.i .i64 (v_laws_szVectorS a_0.Places left_1)) [], .bo true, .keep []])
   (ps := [])
   (C := [Fn prog 44 [.sl (a_0.Places.map GVector.cells), .i .i64 left_1] (.i .i64 (v_laws_szVectorS a_0.Places left_1)) [],
    (decide ((v_laws_szVectorS a_0.Places left_1) < 0)) = true])
   func11 rfl (by kernel_rfl) (by kernel_rfl)
   ⟨(t_laws_szVectorS a_0.Places left_1 (show a_0.Places.length ≤ 9223372036854775807 from (by first | assumption | omega | (simp_all <;> omega)))), h0, trivial⟩) rfl) (by simp only [v_laws_szMesh, h0, cond_true]) rfl
 | false =>
  cases h1 : (decide ((v_laws_szInt64SS a_0.Triangles (v_laws_szVectorS a_0.Places left_1)) < 0)) with
  | true =>
   exact Fn.cast (CallSt.fn (callSt_of_evK (E := E0) E0Ok hMixed (c := bodyOf f11) (rows := []) (r := .i .i64 (-1)) (rows' := [])
    (ans := [.call (.i .i64 (v_laws_szVectorS a_0.Places left_1)) [], .bo false, .call (.i .i64 (v_laws_szInt64SS a_0.Triangles (v_laws_szVectorS a_0.Places left_1))) [], .bo true, .keep []])
    (ps := [])
    (C := [Fn prog 44 [.sl (a_0.Places.map GVector.cells), .i .i64 left_1] (.i .i64 (v_laws_szVectorS a_0.Places left_1)) [],
     (decide ((v_laws_szVectorS a_0.Places left_1) < 0)) = false,
     Fn prog 53 [.sl (a_0.Triangles.map (cL (cI .i64))), .i .i64 (v_laws_szVectorS a_0.Places left_1)] (.i .i64 (v_laws_szInt64SS a_0.Triangles (v_laws_szVectorS a_0.Places left_1))) [],
     (decide ((v_laws_szInt64SS a_0.Triangles (v_laws_szVectorS a_0.Places left_1)) < 0)) = true])
    func11 rfl (by kernel_rfl) (by kernel_rfl)
    ⟨(t_laws_szVectorS a_0.Places left_1 (show a_0.Places.length ≤ 9223372036854775807 from (by first | assumption | omega | (simp_all <;> omega)))), h0, (t_laws_szInt64SS a_0.Triangles (v_laws_szVectorS a_0.Places left_1) (show a_0.Triangles.length ≤ 9223372036854775807 from (by first | assumption | omega | (simp_all <;> omega))) (show ∀ t ∈ a_0.Triangles, t.length ≤ 9223372036854775807 from (by first | assumption | omega | (simp_all <;> omega)))), h1, trivial⟩) rfl) (by simp only [v_laws_szMesh, h0, h1, cond_true, cond_false]) rfl
  | false =>
   exact Fn.cast (CallSt.fn (callSt_of_evK (E := E0) E0Ok hMixed (c := bodyOf f11) (rows := []) (r := .i .i64 (v_laws_szInt64SS a_0.Triangles (v_laws_szVectorS a_0.Places left_1))) (rows' := [])
    (ans := [.call (.i .i64 (v_laws_szVectorS a_0.Places left_1)) [], .bo false, .call (.i .i64 (v_laws_szInt64SS a_0.Triangles (v_laws_szVectorS a_0.Places left_1))) [], .bo false, .keep []])
    (ps := [])
    (C := [Fn prog 44 [.sl (a_0.Places.map GVector.cells), .i .i64 left_1] (.i .i64 (v_laws_szVectorS a_0.Places left_1)) [],
     (decide ((v_laws_szVectorS a_0.Places left_1) < 0)) = false,
     Fn prog 53 [.sl (a_0.Triangles.map (cL (cI .i64))), .i .i64 (v_laws_szVectorS a_0.Places left_1)] (.i .i64 (v_laws_szInt64SS a_0.Triangles (v_laws_szVectorS a_0.Places left_1))) [],
     (decide ((v_laws_szInt64SS a_0.Triangles (v_laws_szVectorS a_0.Places left_1)) < 0)) = false])
    func11 rfl (by kernel_rfl) (by kernel_rfl)
    ⟨(t_laws_szVectorS a_0.Places left_1 (show a_0.Places.length ≤ 9223372036854775807 from (by first | assumption | omega | (simp_all <;> omega)))), h0, (t_laws_szInt64SS a_0.Triangles (v_laws_szVectorS a_0.Places left_1) (show a_0.Triangles.length ≤ 9223372036854775807 from (by first | assumption | omega | (simp_all <;> omega))) (show ∀ t ∈ a_0.Triangles, t.length ≤ 9223372036854775807 from (by first | assumption | omega | (simp_all <;> omega)))), h1, trivial⟩) rfl) (by simp only [v_laws_szMesh, h0, h1, cond_false]) rfl

theorem ok_laws_szMesh (a : GMesh) (left : Int) (h0 : a.Places.length ≤ 9223372036854775807) (h3 : a.Triangles.length ≤ 9223372036854775807) (hb : ∀ t ∈ a.Triangles, t.length ≤ 9223372036854775807) (h1 : -1 ≤ left) (h2 : left ≤ 1048576) :
    -1 ≤ v_laws_szMesh a left ∧ v_laws_szMesh a left ≤ left ∧ (v_laws_szMesh a left < 0 ∨ (a.Places.length : Int) ≤ left) ∧ (v_laws_szMesh a left < 0 ∨ (a.Triangles.length : Int) ≤ left) ∧ ∀ t ∈ a.Triangles, v_laws_szMesh a left < 0 ∨ (t.length : Int) ≤ left := by
  have key : -1 ≤ v_laws_szMesh a left ∧ v_laws_szMesh a left ≤ left ∧ (v_laws_szMesh a left < 0 ∨ ((a.Places.length : Int) ≤ left ∧ (a.Triangles.length : Int) ≤ left ∧ ∀ t ∈ a.Triangles, (t.length : Int) ≤ left)) := by
    unfold v_laws_szMesh
    obtain ⟨p1, p2, p3⟩ := ok_laws_szVectorS a.Places left h0 h1 h2
    cases h : decide (v_laws_szVectorS a.Places left < 0) with
    | true => simp only [decide_eq_true_eq] at h; rw [cond_true]; refine ⟨by omega, by omega, .inl (by omega)⟩
    | false =>
      simp only [decide_eq_false_iff_not] at h
      rw [cond_false]
      obtain ⟨q1, q2, q3⟩ := ok_laws_szInt64SS a.Triangles (v_laws_szVectorS a.Places left) h3 hb p1 (by omega)
      cases h' : decide (v_laws_szInt64SS a.Triangles (v_laws_szVectorS a.Places left) < 0) with
      | true => rw [cond_true]; exact ⟨by omega, by omega, .inl (by omega)⟩
      | false =>
        simp only [decide_eq_false_iff_not] at h'
        rw [cond_false]
        rcases q3 with q | ⟨qa, qb⟩
        · omega
        · exact ⟨q1, by omega, .inr ⟨by omega, by omega, fun t ht => by have := qb t ht; omega⟩⟩
  obtain ⟨k1, k2, k3⟩ := key
  rcases k3 with k3 | ⟨ka, kb, kc⟩
  · exact ⟨k1, k2, .inl k3, .inl k3, fun t ht => .inl k3⟩
  · exact ⟨k1, k2, .inr ka, .inr kb, fun t ht => .inr (kc t ht)⟩

def v_laws_szSpringS (a_0 : (List GSpring)) (left_1 : Int) : Int := (cond (decide ((IntKind.wrap .i64 (left_1 - (a_0.length : Int))) < 0))
  (-1)
  (IntKind.wrap .i64 (left_1 - (a_0.length : Int))))

theorem t_laws_szSpringS (a_0 : (List GSpring)) (left_1 : Int) (hp0 : a_0.length ≤ 9223372036854775807)  : Fn prog 71 [.sl (a_0.map GSpring.cells), .i .i64 left_1] (.i .i64 (v_laws_szSpringS a_0 left_1)) [] := by
 cases h0 : (decide ((IntKind.wrap .i64 (left_1 - (a_0.length : Int))) < 0)) with
 | true =>
  exact Fn.cast (CallSt.fn (callSt_of_evK (E := E0) E0Ok hMixed (c := bodyOf f71) (rows := []) (r := .i .i64 (-1)) (rows' := [])
   (ans := [.num (a_0.length : Int), .num (IntKind.wrap .i64 (left_1 - (a_0.length : Int))), .bo true, .keep []])
   (ps := [])
   (C := [(((a_0.map GSpring.cells).length : Nat) : Int) = (a_0.length : Int),
    IntKind.wrap .i64 (left_1 - (a_0.length : Int)) = (IntKind.wrap .i64 (left_1 - (a_0.length : Int))),
    (decide ((IntKind.wrap .i64 (left_1 - (a_0.length : Int))) < 0)) = true])
   func71 rfl (by kernel_rfl) (by kernel_rfl)
   ⟨len_ok, rfl, h0, trivial⟩) rfl) (by simp only [v_laws_szSpringS, h0, cond_true]) rfl
 | false =>
  exact Fn.cast (CallSt.fn (callSt_of_evK (E := E0) E0Ok hMixed (c := bodyOf f71) (rows := []) (r := .i .i64 (IntKind.wrap .i64 (left_1 - (a_0.length : Int)))) (rows' := [])
   (ans := [.num (a_0.length : Int), .num (IntKind.wrap .i64 (left_1 - (a_0.length : Int))), .bo false, .keep []])
   (ps := [])
   (C := [(((a_0.map GSpring.cells).length : Nat) : Int) = (a_0.length : Int),
    IntKind.wrap .i64 (left_1 - (a_0.length : Int)) = (IntKind.wrap .i64 (left_1 - (a_0.length : Int))),
    (decide ((IntKind.wrap .i64 (left_1 - (a_0.length : Int))) < 0)) = false])
   func71 rfl (by kernel_rfl) (by kernel_rfl)
   ⟨len_ok, rfl, h0, trivial⟩) rfl) (by simp only [v_laws_szSpringS, h0, cond_false]) rfl

theorem ok_laws_szSpringS (a : List GSpring) (left : Int) (h0 : a.length ≤ 9223372036854775807) (h1 : -1 ≤ left) (h2 : left ≤ 1048576) : -1 ≤ v_laws_szSpringS a left ∧ v_laws_szSpringS a left ≤ left ∧ (v_laws_szSpringS a left < 0 ∨ (a.length : Int) ≤ left) := by
  unfold v_laws_szSpringS
  rw [wrap_sub (by omega) (by omega)]
  by_cases h : left - (a.length : Int) < 0
  · simp [h]; omega
  · simp [h]; omega

def v_laws_szFloat32S (a_0 : (List Nat)) (left_1 : Int) : Int := (cond (decide ((IntKind.wrap .i64 (left_1 - (a_0.length : Int))) < 0))
  (-1)
  (IntKind.wrap .i64 (left_1 - (a_0.length : Int))))

theorem t_laws_szFloat32S (a_0 : (List Nat)) (left_1 : Int) (hp0 : a_0.length ≤ 9223372036854775807)  : Fn prog 72 [.sl (a_0.map (cF .f32)), .i .i64 left_1] (.i .i64 (v_laws_szFloat32S a_0 left_1)) [] := by
 cases h0 : (decide ((IntKind.wrap .i64 (left_1 - (a_0.length : Int))) < 0)) with
 | true =>
  exact Fn.cast (CallSt.fn (callSt_of_evK (E := E0) E0Ok hMixed (c := bodyOf f72) (rows := []) (r := .i .i64 (-1)) (rows' := [])
   (ans := [.num (a_0.length : Int), .num (IntKind.wrap .i64 (left_1 - (a_0.length : Int))), .bo true, .keep []])
   (ps := [])
   (C := [(((a_0.map (cF .f32)).length : Nat) : Int) = (a_0.length : Int),
    IntKind.wrap .i64 (left_1 - (a_0.length : Int)) = (IntKind.wrap .i64 (left_1 - (a_0.length : Int))),
    (decide ((IntKind.wrap .i64 (left_1 - (a_0.length : Int))) < 0)) = true])
   func72 rfl (by kernel_rfl) (by kernel_rfl)
   ⟨len_ok, rfl, h0, trivial⟩) rfl) (by simp only [v_laws_szFloat32S, h0, cond_true]) rfl
 | false =>
  exact Fn.cast (CallSt.fn (callSt_of_evK (E := E0) E0Ok hMixed (c := bodyOf f72) (rows := []) (r := .i .i64 (IntKind.wrap .i64 (left_1 - (a_0.length : Int)))) (rows' := [])
   (ans := [.num (a_0.length : Int), .num (IntKind.wrap .i64 (left_1 - (a_0.length : Int))), .bo false, .keep []])
   (ps := [])
   (C := [(((a_0.map (cF .f32)).length : Nat) : Int) = (a_0.length : Int),
    IntKind.wrap .i64 (left_1 - (a_0.length : Int)) = (IntKind.wrap .i64 (left_1 - (a_0.length : Int))),
    (decide ((IntKind.wrap .i64 (left_1 - (a_0.length : Int))) < 0)) = false])
   func72 rfl (by kernel_rfl) (by kernel_rfl)
   ⟨len_ok, rfl, h0, trivial⟩) rfl) (by simp only [v_laws_szFloat32S, h0, cond_false]) rfl

theorem ok_laws_szFloat32S (a : List Nat) (left : Int) (h0 : a.length ≤ 9223372036854775807) (h1 : -1 ≤ left) (h2 : left ≤ 1048576) : -1 ≤ v_laws_szFloat32S a left ∧ v_laws_szFloat32S a left ≤ left ∧ (v_laws_szFloat32S a left < 0 ∨ (a.length : Int) ≤ left) := by
  unfold v_laws_szFloat32S
  rw [wrap_sub (by omega) (by omega)]
  by_cases h : left - (a.length : Int) < 0
  · simp [h]; omega
  · simp [h]; omega

def v_laws_szBody (a_0 : GBody) (left_1 : Int) : Int := (cond (decide ((v_laws_szMesh a_0.Mesh left_1) < 0))
  (-1)
  (cond (decide ((v_laws_szSpringS a_0.Springs (v_laws_szMesh a_0.Mesh left_1)) < 0))
    (-1)
    (cond (decide ((v_laws_szFloat32S a_0.Weights (v_laws_szSpringS a_0.Springs (v_laws_szMesh a_0.Mesh left_1))) < 0))
      (-1)
      (v_laws_szFloat32S a_0.Weights (v_laws_szSpringS a_0.Springs (v_laws_szMesh a_0.Mesh left_1))))))

theorem t_laws_szBody (a_0 : GBody) (left_1 : Int) (hp0 : a_0.Mesh.Places.length ≤ 9223372036854775807) (hp1 : a_0.Mesh.Triangles.length ≤ 9223372036854775807) (hp2 : ∀ t ∈ a_0.Mesh.Triangles, t.length ≤ 9223372036854775807) (hp3 : a_0.Springs.length ≤ 9223372036854775807) (hp4 : a_0.Weights.length ≤ 9223372036854775807)  : Fn prog 25 [.agg [.sl (a_0.Mesh.Places.map GVector.cells), .sl (a_0.Mesh.Triangles.map (cL (cI .i64))), .sl (a_0.Springs.map GSpring.cells), .f .f32 a_0.Film, .f .f32 a_0.Bend, .sl (a_0.Weights.map (cF .f32)), .f .f32 a_0.Fall.X, .f .f32 a_0.Fall.Y, .f .f32 a_0.Fall.Z], .i .i64 left_1] (.i .i64 (v_laws_szBody a_0 left_1)) [] := by
 cases h0 : (decide ((v_laws_szMesh a_0.Mesh left_1) < 0)) with
 | true =>
  exact Fn.cast (CallSt.fn (callSt_of_evK (E := E0) E0Ok hMixed (c := bodyOf f25) (rows := []) (r := .i .i64 (-1)) (rows' := [])
   (ans := [.call (.i .i64 (v_laws_szMesh a_0.Mesh left_1)) [], .bo true, .keep []])
   (ps := [])
   (C := [Fn prog 11 [.agg [.sl (a_0.Mesh.Places.map GVector.cells), .sl (a_0.Mesh.Triangles.map (cL (cI .i64)))], .i .i64 left_1] (.i .i64 (v_laws_szMesh a_0.Mesh left_1)) [],
    (decide ((v_laws_szMesh a_0.Mesh left_1) < 0)) = true])
   func25 rfl (by kernel_rfl) (by kernel_rfl)
   ⟨(t_laws_szMesh a_0.Mesh left_1 (show a_0.Mesh.Places.length ≤ 9223372036854775807 from (by first | assumption | omega | (simp_all <;> omega))) (show a_0.Mesh.Triangles.length ≤ 9223372036854775807 from (by first | assumption | omega | (simp_all <;> omega))) (show ∀ t ∈ a_0.Mesh.Triangles, t.length ≤ 9223372036854775807 from (by first | assumption | omega | (simp_all <;> omega)))), h0, trivial⟩) rfl) (by simp only [v_laws_szBody, h0, cond_true]) rfl
 | false =>
  cases h1 : (decide ((v_laws_szSpringS a_0.Springs (v_laws_szMesh a_0.Mesh left_1)) < 0)) with
  | true =>
   exact Fn.cast (CallSt.fn (callSt_of_evK (E := E0) E0Ok hMixed (c := bodyOf f25) (rows := []) (r := .i .i64 (-1)) (rows' := [])
    (ans := [.call (.i .i64 (v_laws_szMesh a_0.Mesh left_1)) [], .bo false, .call (.i .i64 (v_laws_szSpringS a_0.Springs (v_laws_szMesh a_0.Mesh left_1))) [], .bo true, .keep []])
    (ps := [])
    (C := [Fn prog 11 [.agg [.sl (a_0.Mesh.Places.map GVector.cells), .sl (a_0.Mesh.Triangles.map (cL (cI .i64)))], .i .i64 left_1] (.i .i64 (v_laws_szMesh a_0.Mesh left_1)) [],
     (decide ((v_laws_szMesh a_0.Mesh left_1) < 0)) = false,
     Fn prog 71 [.sl (a_0.Springs.map GSpring.cells), .i .i64 (v_laws_szMesh a_0.Mesh left_1)] (.i .i64 (v_laws_szSpringS a_0.Springs (v_laws_szMesh a_0.Mesh left_1))) [],
     (decide ((v_laws_szSpringS a_0.Springs (v_laws_szMesh a_0.Mesh left_1)) < 0)) = true])
    func25 rfl (by kernel_rfl) (by kernel_rfl)
    ⟨(t_laws_szMesh a_0.Mesh left_1 (show a_0.Mesh.Places.length ≤ 9223372036854775807 from (by first | assumption | omega | (simp_all <;> omega))) (show a_0.Mesh.Triangles.length ≤ 9223372036854775807 from (by first | assumption | omega | (simp_all <;> omega))) (show ∀ t ∈ a_0.Mesh.Triangles, t.length ≤ 9223372036854775807 from (by first | assumption | omega | (simp_all <;> omega)))), h0, (t_laws_szSpringS a_0.Springs (v_laws_szMesh a_0.Mesh left_1) (show a_0.Springs.length ≤ 9223372036854775807 from (by first | assumption | omega | (simp_all <;> omega)))), h1, trivial⟩) rfl) (by simp only [v_laws_szBody, h0, h1, cond_true, cond_false]) rfl
  | false =>
   cases h2 : (decide ((v_laws_szFloat32S a_0.Weights (v_laws_szSpringS a_0.Springs (v_laws_szMesh a_0.Mesh left_1))) < 0)) with
   | true =>
    exact Fn.cast (CallSt.fn (callSt_of_evK (E := E0) E0Ok hMixed (c := bodyOf f25) (rows := []) (r := .i .i64 (-1)) (rows' := [])
     (ans := [.call (.i .i64 (v_laws_szMesh a_0.Mesh left_1)) [], .bo false, .call (.i .i64 (v_laws_szSpringS a_0.Springs (v_laws_szMesh a_0.Mesh left_1))) [], .bo false, .call (.i .i64 (v_laws_szFloat32S a_0.Weights (v_laws_szSpringS a_0.Springs (v_laws_szMesh a_0.Mesh left_1)))) [], .bo true, .keep []])
     (ps := [])
     (C := [Fn prog 11 [.agg [.sl (a_0.Mesh.Places.map GVector.cells), .sl (a_0.Mesh.Triangles.map (cL (cI .i64)))], .i .i64 left_1] (.i .i64 (v_laws_szMesh a_0.Mesh left_1)) [],
      (decide ((v_laws_szMesh a_0.Mesh left_1) < 0)) = false,
      Fn prog 71 [.sl (a_0.Springs.map GSpring.cells), .i .i64 (v_laws_szMesh a_0.Mesh left_1)] (.i .i64 (v_laws_szSpringS a_0.Springs (v_laws_szMesh a_0.Mesh left_1))) [],
      (decide ((v_laws_szSpringS a_0.Springs (v_laws_szMesh a_0.Mesh left_1)) < 0)) = false,
      Fn prog 72 [.sl (a_0.Weights.map (cF .f32)), .i .i64 (v_laws_szSpringS a_0.Springs (v_laws_szMesh a_0.Mesh left_1))] (.i .i64 (v_laws_szFloat32S a_0.Weights (v_laws_szSpringS a_0.Springs (v_laws_szMesh a_0.Mesh left_1)))) [],
      (decide ((v_laws_szFloat32S a_0.Weights (v_laws_szSpringS a_0.Springs (v_laws_szMesh a_0.Mesh left_1))) < 0)) = true])
     func25 rfl (by kernel_rfl) (by kernel_rfl)
     ⟨(t_laws_szMesh a_0.Mesh left_1 (show a_0.Mesh.Places.length ≤ 9223372036854775807 from (by first | assumption | omega | (simp_all <;> omega))) (show a_0.Mesh.Triangles.length ≤ 9223372036854775807 from (by first | assumption | omega | (simp_all <;> omega))) (show ∀ t ∈ a_0.Mesh.Triangles, t.length ≤ 9223372036854775807 from (by first | assumption | omega | (simp_all <;> omega)))), h0, (t_laws_szSpringS a_0.Springs (v_laws_szMesh a_0.Mesh left_1) (show a_0.Springs.length ≤ 9223372036854775807 from (by first | assumption | omega | (simp_all <;> omega)))), h1, (t_laws_szFloat32S a_0.Weights (v_laws_szSpringS a_0.Springs (v_laws_szMesh a_0.Mesh left_1)) (show a_0.Weights.length ≤ 9223372036854775807 from (by first | assumption | omega | (simp_all <;> omega)))), h2, trivial⟩) rfl) (by simp only [v_laws_szBody, h0, h1, h2, cond_true, cond_false]) rfl
   | false =>
    exact Fn.cast (CallSt.fn (callSt_of_evK (E := E0) E0Ok hMixed (c := bodyOf f25) (rows := []) (r := .i .i64 (v_laws_szFloat32S a_0.Weights (v_laws_szSpringS a_0.Springs (v_laws_szMesh a_0.Mesh left_1)))) (rows' := [])
     (ans := [.call (.i .i64 (v_laws_szMesh a_0.Mesh left_1)) [], .bo false, .call (.i .i64 (v_laws_szSpringS a_0.Springs (v_laws_szMesh a_0.Mesh left_1))) [], .bo false, .call (.i .i64 (v_laws_szFloat32S a_0.Weights (v_laws_szSpringS a_0.Springs (v_laws_szMesh a_0.Mesh left_1)))) [], .bo false, .keep []])
     (ps := [])
     (C := [Fn prog 11 [.agg [.sl (a_0.Mesh.Places.map GVector.cells), .sl (a_0.Mesh.Triangles.map (cL (cI .i64)))], .i .i64 left_1] (.i .i64 (v_laws_szMesh a_0.Mesh left_1)) [],
      (decide ((v_laws_szMesh a_0.Mesh left_1) < 0)) = false,
      Fn prog 71 [.sl (a_0.Springs.map GSpring.cells), .i .i64 (v_laws_szMesh a_0.Mesh left_1)] (.i .i64 (v_laws_szSpringS a_0.Springs (v_laws_szMesh a_0.Mesh left_1))) [],
      (decide ((v_laws_szSpringS a_0.Springs (v_laws_szMesh a_0.Mesh left_1)) < 0)) = false,
      Fn prog 72 [.sl (a_0.Weights.map (cF .f32)), .i .i64 (v_laws_szSpringS a_0.Springs (v_laws_szMesh a_0.Mesh left_1))] (.i .i64 (v_laws_szFloat32S a_0.Weights (v_laws_szSpringS a_0.Springs (v_laws_szMesh a_0.Mesh left_1)))) [],
      (decide ((v_laws_szFloat32S a_0.Weights (v_laws_szSpringS a_0.Springs (v_laws_szMesh a_0.Mesh left_1))) < 0)) = false])
     func25 rfl (by kernel_rfl) (by kernel_rfl)
     ⟨(t_laws_szMesh a_0.Mesh left_1 (show a_0.Mesh.Places.length ≤ 9223372036854775807 from (by first | assumption | omega | (simp_all <;> omega))) (show a_0.Mesh.Triangles.length ≤ 9223372036854775807 from (by first | assumption | omega | (simp_all <;> omega))) (show ∀ t ∈ a_0.Mesh.Triangles, t.length ≤ 9223372036854775807 from (by first | assumption | omega | (simp_all <;> omega)))), h0, (t_laws_szSpringS a_0.Springs (v_laws_szMesh a_0.Mesh left_1) (show a_0.Springs.length ≤ 9223372036854775807 from (by first | assumption | omega | (simp_all <;> omega)))), h1, (t_laws_szFloat32S a_0.Weights (v_laws_szSpringS a_0.Springs (v_laws_szMesh a_0.Mesh left_1)) (show a_0.Weights.length ≤ 9223372036854775807 from (by first | assumption | omega | (simp_all <;> omega)))), h2, trivial⟩) rfl) (by simp only [v_laws_szBody, h0, h1, h2, cond_false]) rfl

theorem ok_laws_szBody (a : GBody) (left : Int) (g0 : a.Mesh.Places.length ≤ 9223372036854775807) (g1 : a.Mesh.Triangles.length ≤ 9223372036854775807) (g2 : ∀ t ∈ a.Mesh.Triangles, t.length ≤ 9223372036854775807) (g3 : a.Springs.length ≤ 9223372036854775807) (g4 : a.Weights.length ≤ 9223372036854775807) (h1 : -1 ≤ left) (h2 : left ≤ 1048576) : -1 ≤ v_laws_szBody a left ∧ v_laws_szBody a left ≤ left ∧ (v_laws_szBody a left < 0 ∨ (a.Mesh.Places.length : Int) ≤ left) ∧ (v_laws_szBody a left < 0 ∨ (a.Mesh.Triangles.length : Int) ≤ left) ∧ (v_laws_szBody a left < 0 ∨ (a.Springs.length : Int) ≤ left) ∧ (v_laws_szBody a left < 0 ∨ (a.Weights.length : Int) ≤ left) ∧ ∀ t ∈ a.Mesh.Triangles, v_laws_szBody a left < 0 ∨ (t.length : Int) ≤ left := by
  unfold v_laws_szBody
  have p0 := ok_laws_szMesh a.Mesh left g0 g1 g2 (by omega) (by omega)
  cases hc0 : decide (v_laws_szMesh a.Mesh left < 0) with
  | true =>
    simp only [decide_eq_true_eq] at hc0; rw [cond_true]; refine ⟨by omega, by omega, .inl (by omega), .inl (by omega), .inl (by omega), .inl (by omega), fun t ht => .inl (by omega)⟩
  | false =>
    simp only [decide_eq_false_iff_not] at hc0; rw [cond_false]
    have p1 := ok_laws_szSpringS a.Springs (v_laws_szMesh a.Mesh left) g3 (by omega) (by omega)
    cases hc1 : decide (v_laws_szSpringS a.Springs (v_laws_szMesh a.Mesh left) < 0) with
    | true =>
      simp only [decide_eq_true_eq] at hc1; rw [cond_true]; refine ⟨by omega, by omega, .inl (by omega), .inl (by omega), .inl (by omega), .inl (by omega), fun t ht => .inl (by omega)⟩
    | false =>
      simp only [decide_eq_false_iff_not] at hc1; rw [cond_false]
      have p2 := ok_laws_szFloat32S a.Weights (v_laws_szSpringS a.Springs (v_laws_szMesh a.Mesh left)) g4 (by omega) (by omega)
      cases hc2 : decide (v_laws_szFloat32S a.Weights (v_laws_szSpringS a.Springs (v_laws_szMesh a.Mesh left)) < 0) with
      | true =>
        simp only [decide_eq_true_eq] at hc2; rw [cond_true]; refine ⟨by omega, by omega, .inl (by omega), .inl (by omega), .inl (by omega), .inl (by omega), fun t ht => .inl (by omega)⟩
      | false =>
        simp only [decide_eq_false_iff_not] at hc2; rw [cond_false]
        refine ⟨by omega, by omega, .inr (by omega), .inr (by omega), .inr (by omega), .inr (by omega), fun t ht => .inr (by have q := p0.2.2.2.2 t ht; omega)⟩

def v_laws_toVector (a_0 : GVector) : GVector := a_0

theorem t_laws_toVector (a_0 : GVector)   : Fn prog 79 [.agg [.f .f32 a_0.X, .f .f32 a_0.Y, .f .f32 a_0.Z]] (.agg [.f .f32 ((v_laws_toVector a_0).X), .f .f32 ((v_laws_toVector a_0).Y), .f .f32 ((v_laws_toVector a_0).Z)]) [] := by
 exact Fn.cast (CallSt.fn (callSt_of_evK (E := E0) E0Ok hMixed (c := bodyOf f79) (rows := []) (r := .agg [.f .f32 a_0.X, .f .f32 a_0.Y, .f .f32 a_0.Z]) (rows' := [])
  (ans := [.keep []])
  (ps := [])
  (C := [])
  func79 rfl (by kernel_rfl) (by kernel_rfl)
  trivial) rfl) rfl rfl

@[simp] theorem eq_laws_toVector (a : GVector) : v_laws_toVector a = a := rfl

def lo_laws_toVectorS_1 (a_0 : (List GVector)) : Nat → Int → (List GVector) → (List GVector)
  | 0, _, _ => default
  | k + 1, i_l0, r0_l1 => (cond (decide (i_l0 < (a_0.length : Int)))
    (lo_laws_toVectorS_1 a_0 k (i_l0 + 1) (r0_l1.set i_l0.toNat (v_laws_toVector (a_0.getD i_l0.toNat default))))
    r0_l1)

def ls_laws_toVectorS_1 (a_0 : (List GVector)) (r : (List GVector)) : Ex × St := ((.exit 0), ⟨[.sl (a_0.map GVector.cells), .any, .nils, .own 0, .any, .sl (a_0.map GVector.cells), .i .i64 (a_0.length : Int), .own 0, .any, .any, .any, .any, .any, .any, .any, .any, .any, .any, .any, .any, .any, .any, .any], [.vec 54 3 (r.map GVector.cells) false]⟩)

theorem lp_laws_toVectorS_1 (a_0 : (List GVector)) (hp0 : a_0.length ≤ 1073741824) : ∀ (k : Nat) (i_l0 : Int) (r0_l1 : (List GVector)) (hv_laws_toVectorS_1_0 : 0 ≤ i_l0) (hv_laws_toVectorS_1_1 : r0_l1.length = a_0.length) (hk : ((a_0.length : Int) - i_l0).toNat < k), Lp prog 0 (sub (bodyOf f46) [1, 1, 0, 1, 0, 0]) ⟨[.sl (a_0.map GVector.cells), .any, .nils, .own 0, .i .i64 i_l0, .sl (a_0.map GVector.cells), .i .i64 (a_0.length : Int), .own 0, .any, .any, .any, .any, .any, .any, .any, .any, .any, .any, .any, .any, .any, .any, .any], [.vec 54 3 (r0_l1.map GVector.cells) false]⟩ (ls_laws_toVectorS_1 a_0 (lo_laws_toVectorS_1 a_0 k i_l0 r0_l1)).1 (ls_laws_toVectorS_1 a_0 (lo_laws_toVectorS_1 a_0 k i_l0 r0_l1)).2 := by
 intro k
 induction k with
 | zero => intro i_l0 r0_l1 hv_laws_toVectorS_1_0 hv_laws_toVectorS_1_1 hk; exact absurd hk (Nat.not_lt_zero _)
 | succ k ih =>
  intro i_l0 r0_l1 hv_laws_toVectorS_1_0 hv_laws_toVectorS_1_1 hk
  cases h_0 : (decide (i_l0 < (a_0.length : Int))) with
  | true =>
   have e : lo_laws_toVectorS_1 a_0 (k + 1) i_l0 r0_l1 = (lo_laws_toVectorS_1 a_0 k (i_l0 + 1) (r0_l1.set i_l0.toNat (v_laws_toVector (a_0.getD i_l0.toNat default)))) := by simp only [lo_laws_toVectorS_1, h_0, cond_true]
   rw [e]
   exact stepK_next (E := E0) E0Ok hMixed (body := (sub (bodyOf f46) [1, 1, 0, 1, 0, 0])) (st := ⟨[.sl (a_0.map GVector.cells), .any, .nils, .own 0, .i .i64 i_l0, .sl (a_0.map GVector.cells), .i .i64 (a_0.length : Int), .own 0, .any, .any, .any, .any, .any, .any, .any, .any, .any, .any, .any, .any, .any, .any, .any], [.vec 54 3 (r0_l1.map GVector.cells) false]⟩)
    (st2 := ⟨[.sl (a_0.map GVector.cells), .any, .nils, .own 0, .i .i64 (i_l0 + 1), .sl (a_0.map GVector.cells), .i .i64 (a_0.length : Int), .own 0, .any, .any, .any, .any, .any, .any, .any, .any, .any, .any, .any, .any, .any, .any, .any], [.vec 54 3 ((r0_l1.map GVector.cells).set i_l0.toNat [.f .f32 ((v_laws_toVector (a_0.getD i_l0.toNat default)).X), .f .f32 ((v_laws_toVector (a_0.getD i_l0.toNat default)).Y), .f .f32 ((v_laws_toVector (a_0.getD i_l0.toNat default)).Z)]) false]⟩)
    (ans := [.num (a_0.length : Int), .bo true, .el [.f .f32 ((a_0.getD i_l0.toNat default).X), .f .f32 ((a_0.getD i_l0.toNat default).Y), .f .f32 ((a_0.getD i_l0.toNat default).Z)], .call (.agg [.f .f32 ((v_laws_toVector (a_0.getD i_l0.toNat default)).X), .f .f32 ((v_laws_toVector (a_0.getD i_l0.toNat default)).Y), .f .f32 ((v_laws_toVector (a_0.getD i_l0.toNat default)).Z)]) [], .num (i_l0 + 1)])
    (ps := []) (mask := [true, false, true, true, true, true, true, true, false, false, false, false, false, false, false, false, false, false, false, false, false, false, false]) (ks := [0])
    (C := [(((a_0.map GVector.cells).length : Nat) : Int) = (a_0.length : Int),
     (decide (i_l0 < (a_0.length : Int))) = true,
     0 ≤ i_l0 ∧ (a_0.map GVector.cells)[Int.toNat i_l0]? = some [.f .f32 ((a_0.getD i_l0.toNat default).X), .f .f32 ((a_0.getD i_l0.toNat default).Y), .f .f32 ((a_0.getD i_l0.toNat default).Z)],
     Fn prog 79 [.agg [.f .f32 ((a_0.getD i_l0.toNat default).X), .f .f32 ((a_0.getD i_l0.toNat default).Y), .f .f32 ((a_0.getD i_l0.toNat default).Z)]] (.agg [.f .f32 ((v_laws_toVector (a_0.getD i_l0.toNat default)).X), .f .f32 ((v_laws_toVector (a_0.getD i_l0.toNat default)).Y), .f .f32 ((v_laws_toVector (a_0.getD i_l0.toNat default)).Z)]) [],
     0 ≤ i_l0 ∧ Int.toNat i_l0 < (r0_l1.map GVector.cells).length,
     i_l0.toNat < (r0_l1.map GVector.cells).length,
     IntKind.wrap .i64 (i_l0 + 1) = (i_l0 + 1)])
    (by kernel_rfl)
    ⟨len_ok, h_0, (get_ok (by first | assumption | omega | (simp_all <;> omega)) (by first | assumption | omega | (simp_all <;> omega))), (t_laws_toVector (a_0.getD i_l0.toNat default)), (idx_ok (by first | assumption | omega | (simp_all <;> omega)) (by first | assumption | omega | (simp_all <;> omega))), (by have q : i_l0.toNat < r0_l1.length := (by first | assumption | omega | (simp_all <;> omega)); simpa using q), (wrap_id (by first | assumption | omega | (simp_all <;> omega)) (by first | assumption | omega | (simp_all <;> omega))), trivial⟩
    (by simp [List.map_set, GVector.cells]) (ih (i_l0 + 1) (r0_l1.set i_l0.toNat (v_laws_toVector (a_0.getD i_l0.toNat default))) (show 0 ≤ (i_l0 + 1) from (by first | assumption | omega | (simp_all <;> omega))) (show (r0_l1.set i_l0.toNat (v_laws_toVector (a_0.getD i_l0.toNat default))).length = a_0.length from (by first | assumption | omega | (simp_all <;> omega))) (by first | assumption | omega | (simp_all <;> omega)))
  | false =>
   have e : lo_laws_toVectorS_1 a_0 (k + 1) i_l0 r0_l1 = r0_l1 := by simp only [lo_laws_toVectorS_1, h_0, cond_false]
   rw [e]
   exact stepK_out (E := E0) E0Ok hMixed (e := (.exit 0)) (body := (sub (bodyOf f46) [1, 1, 0, 1, 0, 0])) (st := ⟨[.sl (a_0.map GVector.cells), .any, .nils, .own 0, .i .i64 i_l0, .sl (a_0.map GVector.cells), .i .i64 (a_0.length : Int), .own 0, .any, .any, .any, .any, .any, .any, .any, .any, .any, .any, .any, .any, .any, .any, .any], [.vec 54 3 (r0_l1.map GVector.cells) false]⟩)
    (st2 := ⟨[.sl (a_0.map GVector.cells), .any, .nils, .own 0, .any, .sl (a_0.map GVector.cells), .i .i64 (a_0.length : Int), .own 0, .any, .any, .any, .any, .any, .any, .any, .any, .any, .any, .any, .any, .any, .any, .any], [.vec 54 3 (r0_l1.map GVector.cells) false]⟩)
    (ans := [.num (a_0.length : Int), .bo false])
    (ps := []) (mask := [true, false, true, true, false, true, true, true, false, false, false, false, false, false, false, false, false, false, false, false, false, false, false]) (ks := [0])
    (C := [(((a_0.map GVector.cells).length : Nat) : Int) = (a_0.length : Int),
     (decide (i_l0 < (a_0.length : Int))) = false])
    (by kernel_rfl)
    ⟨len_ok, h_0, trivial⟩
    (by intro h; cases h) rfl

theorem ln_laws_toVectorS_1_0 (a_0 : (List GVector)) : ∀ (k : Nat) (i_l0 : Int) (r0_l1 : (List GVector)) (hk : ((a_0.length : Int) - i_l0).toNat < k), (lo_laws_toVectorS_1 a_0 k i_l0 r0_l1).length = r0_l1.length := by
  intro k
  induction k with
  | zero => intro i_l0 r0_l1 hk; exact absurd hk (Nat.not_lt_zero _)
  | succ k ih =>
    intro i_l0 r0_l1 hk
    cases h_0 : (decide (i_l0 < (a_0.length : Int))) with
    | true =>
      have e : lo_laws_toVectorS_1 a_0 (k + 1) i_l0 r0_l1 = (lo_laws_toVectorS_1 a_0 k (i_l0 + 1) (r0_l1.set i_l0.toNat (v_laws_toVector (a_0.getD i_l0.toNat default)))) := by simp only [lo_laws_toVectorS_1, h_0, cond_true]
      rw [e, ih (i_l0 + 1) (r0_l1.set i_l0.toNat (v_laws_toVector (a_0.getD i_l0.toNat default))) (by first | assumption | omega | (simp_all <;> omega))]; simp
    | false =>
      have e : lo_laws_toVectorS_1 a_0 (k + 1) i_l0 r0_l1 = r0_l1 := by simp only [lo_laws_toVectorS_1, h_0, cond_false]
      first | (rw [e]; done) | (rw [e]; rfl)

def lr_laws_toVectorS_1_0 (a_0 : (List GVector)) : (List GVector) := (lo_laws_toVectorS_1 a_0 (((a_0.length : Int) - 0).toNat + 1) 0 (List.replicate (a_0.length : Int).toNat (⟨0, 0, 0⟩ : GVector)))

@[simp] theorem len_lr_laws_toVectorS_1_0_0 (a_0 : (List GVector)) : (lr_laws_toVectorS_1_0 a_0).length = ((List.replicate (a_0.length : Int).toNat (⟨0, 0, 0⟩ : GVector)) : (List GVector)).length := ln_laws_toVectorS_1_0 a_0 (((a_0.length : Int) - 0).toNat + 1) 0 (List.replicate (a_0.length : Int).toNat (⟨0, 0, 0⟩ : GVector)) (by first | exact Nat.lt_succ_self _ | simp)

def v_laws_toVectorS (a_0 : (List GVector)) : (List GVector) := (lr_laws_toVectorS_1_0 a_0)

@[simp] theorem len_v_laws_toVectorS_0 (a_0 : (List GVector)) : (v_laws_toVectorS a_0).length = a_0.length := by
  first | (simp [v_laws_toVectorS]; done)

theorem t_laws_toVectorS (a_0 : (List GVector)) (hp0 : a_0.length ≤ 1073741824)  : Fn prog 46 [.sl (a_0.map GVector.cells)] (.own 0) [.vec 54 3 ((v_laws_toVectorS a_0).map GVector.cells) false] := by
 exact Fn.cast (CallSt.fn (callSt_of_evK (E := E0) E0Ok hMixed (c := bodyOf f46) (rows := []) (r := .own 0) (rows' := [.vec 54 3 ((lr_laws_toVectorS_1_0 a_0).map GVector.cells) false])
  (ans := [.num (a_0.length : Int), .loop [true, false, true, true, true, true, true, true, false, false, false, false, false, false, false, false, false, false, false, false, false, false, false] 1 (.exit 0) ⟨[.sl (a_0.map GVector.cells), .any, .nils, .own 0, .any, .sl (a_0.map GVector.cells), .i .i64 (a_0.length : Int), .own 0, .any, .any, .any, .any, .any, .any, .any, .any, .any, .any, .any, .any, .any, .any, .any], [.vec 54 3 ((lr_laws_toVectorS_1_0 a_0).map GVector.cells) false]⟩, .keep [0]])
  (ps := [])
  (C := [(((a_0.map GVector.cells).length : Nat) : Int) = (a_0.length : Int),
   (a_0.length : Int) = (a_0.length : Int),
   0 ≤ (a_0.length : Int),
   (a_0.length : Int) ≤ 2147483648,
   Lp prog 0 (sub (bodyOf f46) [1, 1, 0, 1, 0, 0]) ⟨[.sl (a_0.map GVector.cells), .any, .nils, .own 0, .i .i64 0, .sl (a_0.map GVector.cells), .i .i64 (a_0.length : Int), .own 0, .any, .any, .any, .any, .any, .any, .any, .any, .any, .any, .any, .any, .any, .any, .any], [.vec 54 3 (List.replicate (Int.toNat (a_0.length : Int)) [.f .f32 0, .f .f32 0, .f .f32 0]) false]⟩ (.exit 0) ⟨[.sl (a_0.map GVector.cells), .any, .nils, .own 0, .any, .sl (a_0.map GVector.cells), .i .i64 (a_0.length : Int), .own 0, .any, .any, .any, .any, .any, .any, .any, .any, .any, .any, .any, .any, .any, .any, .any], [.vec 54 3 ((lr_laws_toVectorS_1_0 a_0).map GVector.cells) false]⟩])
  func46 rfl (by kernel_rfl) (by kernel_rfl)
  ⟨len_ok, rfl, (by first | assumption | omega | (simp_all <;> omega)), (by first | assumption | omega | (simp_all <;> omega)), (lp_cast (lp_laws_toVectorS_1 a_0 hp0 (((a_0.length : Int) - 0).toNat + 1) 0 (List.replicate (a_0.length : Int).toNat (⟨0, 0, 0⟩ : GVector)) (show 0 ≤ 0 from (by first | assumption | omega | (simp_all <;> omega))) (show (List.replicate (a_0.length : Int).toNat (⟨0, 0, 0⟩ : GVector)).length = a_0.length from (by simp)) (Nat.lt_succ_self _)) (by simp [GVector.cells])), trivial⟩) rfl) rfl (by simp [v_laws_toVectorS])

@[simp] theorem eq_laws_toVectorS (a : List GVector) : v_laws_toVectorS a = a := by
  unfold v_laws_toVectorS lr_laws_toVectorS_1_0
  rw [copy_all (f := v_laws_toVector) (a := a) (lo := lo_laws_toVectorS_1 a) (fun k i r => rfl)]
  exact List.map_id a

def lo_laws_toInt64S_1 (a_0 : (List Int)) : Nat → Int → (List Int) → (List Int)
  | 0, _, _ => default
  | k + 1, i_l0, r0_l1 => (cond (decide (i_l0 < (a_0.length : Int)))
    (lo_laws_toInt64S_1 a_0 k (i_l0 + 1) (r0_l1.set i_l0.toNat (a_0.getD i_l0.toNat default)))
    r0_l1)

def ls_laws_toInt64S_1 (a_0 : (List Int)) (r : (List Int)) : Ex × St := ((.exit 0), ⟨[.sl (a_0.map (cI .i64)), .any, .nils, .own 0, .any, .sl (a_0.map (cI .i64)), .i .i64 (a_0.length : Int), .own 0, .any, .any, .any, .any, .any, .any, .any, .any, .any, .any, .any, .any, .any, .any], [.vec 2 1 (r.map (cI .i64)) false]⟩)

theorem lp_laws_toInt64S_1 (a_0 : (List Int)) (hp0 : a_0.length ≤ 1073741824) : ∀ (k : Nat) (i_l0 : Int) (r0_l1 : (List Int)) (hv_laws_toInt64S_1_0 : 0 ≤ i_l0) (hv_laws_toInt64S_1_1 : r0_l1.length = a_0.length) (hk : ((a_0.length : Int) - i_l0).toNat < k), Lp prog 0 (sub (bodyOf f118) [1, 1, 0, 1, 0, 0]) ⟨[.sl (a_0.map (cI .i64)), .any, .nils, .own 0, .i .i64 i_l0, .sl (a_0.map (cI .i64)), .i .i64 (a_0.length : Int), .own 0, .any, .any, .any, .any, .any, .any, .any, .any, .any, .any, .any, .any, .any, .any], [.vec 2 1 (r0_l1.map (cI .i64)) false]⟩ (ls_laws_toInt64S_1 a_0 (lo_laws_toInt64S_1 a_0 k i_l0 r0_l1)).1 (ls_laws_toInt64S_1 a_0 (lo_laws_toInt64S_1 a_0 k i_l0 r0_l1)).2 := by
 intro k
 induction k with
 | zero => intro i_l0 r0_l1 hv_laws_toInt64S_1_0 hv_laws_toInt64S_1_1 hk; exact absurd hk (Nat.not_lt_zero _)
 | succ k ih =>
  intro i_l0 r0_l1 hv_laws_toInt64S_1_0 hv_laws_toInt64S_1_1 hk
  cases h_0 : (decide (i_l0 < (a_0.length : Int))) with
  | true =>
   have e : lo_laws_toInt64S_1 a_0 (k + 1) i_l0 r0_l1 = (lo_laws_toInt64S_1 a_0 k (i_l0 + 1) (r0_l1.set i_l0.toNat (a_0.getD i_l0.toNat default))) := by simp only [lo_laws_toInt64S_1, h_0, cond_true]
   rw [e]
   exact stepK_next (E := E0) E0Ok hMixed (body := (sub (bodyOf f118) [1, 1, 0, 1, 0, 0])) (st := ⟨[.sl (a_0.map (cI .i64)), .any, .nils, .own 0, .i .i64 i_l0, .sl (a_0.map (cI .i64)), .i .i64 (a_0.length : Int), .own 0, .any, .any, .any, .any, .any, .any, .any, .any, .any, .any, .any, .any, .any, .any], [.vec 2 1 (r0_l1.map (cI .i64)) false]⟩)
    (st2 := ⟨[.sl (a_0.map (cI .i64)), .any, .nils, .own 0, .i .i64 (i_l0 + 1), .sl (a_0.map (cI .i64)), .i .i64 (a_0.length : Int), .own 0, .any, .any, .any, .any, .any, .any, .any, .any, .any, .any, .any, .any, .any, .any], [.vec 2 1 ((r0_l1.map (cI .i64)).set i_l0.toNat [.i .i64 (a_0.getD i_l0.toNat default)]) false]⟩)
    (ans := [.num (a_0.length : Int), .bo true, .el [.i .i64 (a_0.getD i_l0.toNat default)], .num (i_l0 + 1)])
    (ps := []) (mask := [true, false, true, true, true, true, true, true, false, false, false, false, false, false, false, false, false, false, false, false, false, false]) (ks := [0])
    (C := [(((a_0.map (cI .i64)).length : Nat) : Int) = (a_0.length : Int),
     (decide (i_l0 < (a_0.length : Int))) = true,
     0 ≤ i_l0 ∧ (a_0.map (cI .i64))[Int.toNat i_l0]? = some [.i .i64 (a_0.getD i_l0.toNat default)],
     0 ≤ i_l0 ∧ Int.toNat i_l0 < (r0_l1.map (cI .i64)).length,
     i_l0.toNat < (r0_l1.map (cI .i64)).length,
     IntKind.wrap .i64 (i_l0 + 1) = (i_l0 + 1)])
    (by kernel_rfl)
    ⟨len_ok, h_0, (get_ok (by first | assumption | omega | (simp_all <;> omega)) (by first | assumption | omega | (simp_all <;> omega))), (idx_ok (by first | assumption | omega | (simp_all <;> omega)) (by first | assumption | omega | (simp_all <;> omega))), (by have q : i_l0.toNat < r0_l1.length := (by first | assumption | omega | (simp_all <;> omega)); simpa using q), (wrap_id (by first | assumption | omega | (simp_all <;> omega)) (by first | assumption | omega | (simp_all <;> omega))), trivial⟩
    (by simp [List.map_set, cI]) (ih (i_l0 + 1) (r0_l1.set i_l0.toNat (a_0.getD i_l0.toNat default)) (show 0 ≤ (i_l0 + 1) from (by first | assumption | omega | (simp_all <;> omega))) (show (r0_l1.set i_l0.toNat (a_0.getD i_l0.toNat default)).length = a_0.length from (by first | assumption | omega | (simp_all <;> omega))) (by first | assumption | omega | (simp_all <;> omega)))
  | false =>
   have e : lo_laws_toInt64S_1 a_0 (k + 1) i_l0 r0_l1 = r0_l1 := by simp only [lo_laws_toInt64S_1, h_0, cond_false]
   rw [e]
   exact stepK_out (E := E0) E0Ok hMixed (e := (.exit 0)) (body := (sub (bodyOf f118) [1, 1, 0, 1, 0, 0])) (st := ⟨[.sl (a_0.map (cI .i64)), .any, .nils, .own 0, .i .i64 i_l0, .sl (a_0.map (cI .i64)), .i .i64 (a_0.length : Int), .own 0, .any, .any, .any, .any, .any, .any, .any, .any, .any, .any, .any, .any, .any, .any], [.vec 2 1 (r0_l1.map (cI .i64)) false]⟩)
    (st2 := ⟨[.sl (a_0.map (cI .i64)), .any, .nils, .own 0, .any, .sl (a_0.map (cI .i64)), .i .i64 (a_0.length : Int), .own 0, .any, .any, .any, .any, .any, .any, .any, .any, .any, .any, .any, .any, .any, .any], [.vec 2 1 (r0_l1.map (cI .i64)) false]⟩)
    (ans := [.num (a_0.length : Int), .bo false])
    (ps := []) (mask := [true, false, true, true, false, true, true, true, false, false, false, false, false, false, false, false, false, false, false, false, false, false]) (ks := [0])
    (C := [(((a_0.map (cI .i64)).length : Nat) : Int) = (a_0.length : Int),
     (decide (i_l0 < (a_0.length : Int))) = false])
    (by kernel_rfl)
    ⟨len_ok, h_0, trivial⟩
    (by intro h; cases h) rfl

theorem ln_laws_toInt64S_1_0 (a_0 : (List Int)) : ∀ (k : Nat) (i_l0 : Int) (r0_l1 : (List Int)) (hk : ((a_0.length : Int) - i_l0).toNat < k), (lo_laws_toInt64S_1 a_0 k i_l0 r0_l1).length = r0_l1.length := by
  intro k
  induction k with
  | zero => intro i_l0 r0_l1 hk; exact absurd hk (Nat.not_lt_zero _)
  | succ k ih =>
    intro i_l0 r0_l1 hk
    cases h_0 : (decide (i_l0 < (a_0.length : Int))) with
    | true =>
      have e : lo_laws_toInt64S_1 a_0 (k + 1) i_l0 r0_l1 = (lo_laws_toInt64S_1 a_0 k (i_l0 + 1) (r0_l1.set i_l0.toNat (a_0.getD i_l0.toNat default))) := by simp only [lo_laws_toInt64S_1, h_0, cond_true]
      rw [e, ih (i_l0 + 1) (r0_l1.set i_l0.toNat (a_0.getD i_l0.toNat default)) (by first | assumption | omega | (simp_all <;> omega))]; simp
    | false =>
      have e : lo_laws_toInt64S_1 a_0 (k + 1) i_l0 r0_l1 = r0_l1 := by simp only [lo_laws_toInt64S_1, h_0, cond_false]
      first | (rw [e]; done) | (rw [e]; rfl)

def lr_laws_toInt64S_1_0 (a_0 : (List Int)) : (List Int) := (lo_laws_toInt64S_1 a_0 (((a_0.length : Int) - 0).toNat + 1) 0 (List.replicate (a_0.length : Int).toNat 0))

@[simp] theorem len_lr_laws_toInt64S_1_0_0 (a_0 : (List Int)) : (lr_laws_toInt64S_1_0 a_0).length = ((List.replicate (a_0.length : Int).toNat 0) : (List Int)).length := ln_laws_toInt64S_1_0 a_0 (((a_0.length : Int) - 0).toNat + 1) 0 (List.replicate (a_0.length : Int).toNat 0) (by first | exact Nat.lt_succ_self _ | simp)

def v_laws_toInt64S (a_0 : (List Int)) : (List Int) := (lr_laws_toInt64S_1_0 a_0)

@[simp] theorem len_v_laws_toInt64S_0 (a_0 : (List Int)) : (v_laws_toInt64S a_0).length = a_0.length := by
  first | (simp [v_laws_toInt64S]; done)

theorem t_laws_toInt64S (a_0 : (List Int)) (hp0 : a_0.length ≤ 1073741824)  : Fn prog 118 [.sl (a_0.map (cI .i64))] (.own 0) [.vec 2 1 ((v_laws_toInt64S a_0).map (cI .i64)) false] := by
 exact Fn.cast (CallSt.fn (callSt_of_evK (E := E0) E0Ok hMixed (c := bodyOf f118) (rows := []) (r := .own 0) (rows' := [.vec 2 1 ((lr_laws_toInt64S_1_0 a_0).map (cI .i64)) false])
  (ans := [.num (a_0.length : Int), .loop [true, false, true, true, true, true, true, true, false, false, false, false, false, false, false, false, false, false, false, false, false, false] 1 (.exit 0) ⟨[.sl (a_0.map (cI .i64)), .any, .nils, .own 0, .any, .sl (a_0.map (cI .i64)), .i .i64 (a_0.length : Int), .own 0, .any, .any, .any, .any, .any, .any, .any, .any, .any, .any, .any, .any, .any, .any], [.vec 2 1 ((lr_laws_toInt64S_1_0 a_0).map (cI .i64)) false]⟩, .keep [0]])
  (ps := [])
  (C := [(((a_0.map (cI .i64)).length : Nat) : Int) = (a_0.length : Int),
   (a_0.length : Int) = (a_0.length : Int),
   0 ≤ (a_0.length : Int),
   (a_0.length : Int) ≤ 2147483648,
   Lp prog 0 (sub (bodyOf f118) [1, 1, 0, 1, 0, 0]) ⟨[.sl (a_0.map (cI .i64)), .any, .nils, .own 0, .i .i64 0, .sl (a_0.map (cI .i64)), .i .i64 (a_0.length : Int), .own 0, .any, .any, .any, .any, .any, .any, .any, .any, .any, .any, .any, .any, .any, .any], [.vec 2 1 (List.replicate (Int.toNat (a_0.length : Int)) [.i .i64 0]) false]⟩ (.exit 0) ⟨[.sl (a_0.map (cI .i64)), .any, .nils, .own 0, .any, .sl (a_0.map (cI .i64)), .i .i64 (a_0.length : Int), .own 0, .any, .any, .any, .any, .any, .any, .any, .any, .any, .any, .any, .any, .any, .any], [.vec 2 1 ((lr_laws_toInt64S_1_0 a_0).map (cI .i64)) false]⟩])
  func118 rfl (by kernel_rfl) (by kernel_rfl)
  ⟨len_ok, rfl, (by first | assumption | omega | (simp_all <;> omega)), (by first | assumption | omega | (simp_all <;> omega)), (lp_cast (lp_laws_toInt64S_1 a_0 hp0 (((a_0.length : Int) - 0).toNat + 1) 0 (List.replicate (a_0.length : Int).toNat 0) (show 0 ≤ 0 from (by first | assumption | omega | (simp_all <;> omega))) (show (List.replicate (a_0.length : Int).toNat 0).length = a_0.length from (by simp)) (Nat.lt_succ_self _)) (by simp [cI])), trivial⟩) rfl) rfl (by simp [v_laws_toInt64S])

@[simp] theorem eq_laws_toInt64S (a : List Int) : v_laws_toInt64S a = a := by
  unfold v_laws_toInt64S lr_laws_toInt64S_1_0
  rw [copy_all (f := id) (a := a) (lo := lo_laws_toInt64S_1 a) (fun k i r => rfl)]
  exact List.map_id a

def lo_laws_toInt64SS_1 (a_0 : (List (List Int))) : Nat → Int → (List (List Int)) → (List (List Int))
  | 0, _, _ => default
  | k + 1, i_l0, r0_l1 => (cond (decide (i_l0 < (a_0.length : Int)))
    (lo_laws_toInt64SS_1 a_0 k (i_l0 + 1) (r0_l1.set i_l0.toNat (v_laws_toInt64S (a_0.getD i_l0.toNat default))))
    r0_l1)

def ls_laws_toInt64SS_1 (a_0 : (List (List Int))) (r : (List (List Int))) : Ex × St := ((.exit 0), ⟨[.sl (a_0.map (cL (cI .i64))), .any, .nils, .own 0, .any, .sl (a_0.map (cL (cI .i64))), .i .i64 (a_0.length : Int), .own 0, .any, .any, .any, .any, .any, .any, .any, .any, .any, .any, .any, .any, .any, .any, .any], [.nest 141 (r.map fun l => l.map (cI .i64)) false]⟩)

theorem lp_laws_toInt64SS_1 (a_0 : (List (List Int))) (hp0 : a_0.length ≤ 1073741824) (hp1 : ∀ t ∈ a_0, t.length ≤ 1073741824) : ∀ (k : Nat) (i_l0 : Int) (r0_l1 : (List (List Int))) (hv_laws_toInt64SS_1_0 : 0 ≤ i_l0) (hv_laws_toInt64SS_1_1 : r0_l1.length = a_0.length) (hk : ((a_0.length : Int) - i_l0).toNat < k), Lp prog 0 (sub (bodyOf f58) [1, 1, 0, 1, 0, 0]) ⟨[.sl (a_0.map (cL (cI .i64))), .any, .nils, .own 0, .i .i64 i_l0, .sl (a_0.map (cL (cI .i64))), .i .i64 (a_0.length : Int), .own 0, .any, .any, .any, .any, .any, .any, .any, .any, .any, .any, .any, .any, .any, .any, .any], [.nest 141 (r0_l1.map fun l => l.map (cI .i64)) false]⟩ (ls_laws_toInt64SS_1 a_0 (lo_laws_toInt64SS_1 a_0 k i_l0 r0_l1)).1 (ls_laws_toInt64SS_1 a_0 (lo_laws_toInt64SS_1 a_0 k i_l0 r0_l1)).2 := by
 intro k
 induction k with
 | zero => intro i_l0 r0_l1 hv_laws_toInt64SS_1_0 hv_laws_toInt64SS_1_1 hk; exact absurd hk (Nat.not_lt_zero _)
 | succ k ih =>
  intro i_l0 r0_l1 hv_laws_toInt64SS_1_0 hv_laws_toInt64SS_1_1 hk
  cases h_0 : (decide (i_l0 < (a_0.length : Int))) with
  | true =>
   have e : lo_laws_toInt64SS_1 a_0 (k + 1) i_l0 r0_l1 = (lo_laws_toInt64SS_1 a_0 k (i_l0 + 1) (r0_l1.set i_l0.toNat (v_laws_toInt64S (a_0.getD i_l0.toNat default)))) := by simp only [lo_laws_toInt64SS_1, h_0, cond_true]
   rw [e]
   exact stepK_next (E := E0) E0Ok hMixed (body := (sub (bodyOf f58) [1, 1, 0, 1, 0, 0])) (st := ⟨[.sl (a_0.map (cL (cI .i64))), .any, .nils, .own 0, .i .i64 i_l0, .sl (a_0.map (cL (cI .i64))), .i .i64 (a_0.length : Int), .own 0, .any, .any, .any, .any, .any, .any, .any, .any, .any, .any, .any, .any, .any, .any, .any], [.nest 141 (r0_l1.map fun l => l.map (cI .i64)) false]⟩)
    (st2 := ⟨[.sl (a_0.map (cL (cI .i64))), .any, .nils, .own 0, .i .i64 (i_l0 + 1), .sl (a_0.map (cL (cI .i64))), .i .i64 (a_0.length : Int), .own 0, .any, .any, .any, .any, .any, .any, .any, .any, .any, .any, .any, .any, .any, .any, .any], [.nest 141 ((r0_l1.map fun l => l.map (cI .i64)).set i_l0.toNat ((v_laws_toInt64S (a_0.getD i_l0.toNat default)).map (cI .i64))) false]⟩)
    (ans := [.num (a_0.length : Int), .bo true, .el [.sl ((a_0.getD i_l0.toNat default).map (cI .i64))], .call (.own 0) [.vec 2 1 ((v_laws_toInt64S (a_0.getD i_l0.toNat default)).map (cI .i64)) false], .num (i_l0 + 1)])
    (ps := []) (mask := [true, false, true, true, true, true, true, true, false, false, false, false, false, false, false, false, false, false, false, false, false, false, false]) (ks := [0])
    (C := [(((a_0.map (cL (cI .i64))).length : Nat) : Int) = (a_0.length : Int),
     (decide (i_l0 < (a_0.length : Int))) = true,
     0 ≤ i_l0 ∧ (a_0.map (cL (cI .i64)))[Int.toNat i_l0]? = some [.sl ((a_0.getD i_l0.toNat default).map (cI .i64))],
     Fn prog 118 [.sl ((a_0.getD i_l0.toNat default).map (cI .i64))] (.own 0) [.vec 2 1 ((v_laws_toInt64S (a_0.getD i_l0.toNat default)).map (cI .i64)) false],
     0 ≤ i_l0 ∧ Int.toNat i_l0 < (r0_l1.map fun l => l.map (cI .i64)).length,
     i_l0.toNat < (r0_l1.map fun l => l.map (cI .i64)).length,
     IntKind.wrap .i64 (i_l0 + 1) = (i_l0 + 1)])
    (by kernel_rfl)
    ⟨len_ok, h_0, (get_ok (by first | assumption | omega | (simp_all <;> omega)) (by first | assumption | omega | (simp_all <;> omega))), (t_laws_toInt64S (a_0.getD i_l0.toNat default) (show (a_0.getD i_l0.toNat default).length ≤ 1073741824 from (by first | assumption | omega | (simp_all <;> omega)))), (by have q : 0 ≤ i_l0 ∧ Int.toNat i_l0 < r0_l1.length := ⟨(by first | assumption | omega | (simp_all <;> omega)), (by first | assumption | omega | (simp_all <;> omega))⟩; simpa using q), (by have q : i_l0.toNat < r0_l1.length := (by first | assumption | omega | (simp_all <;> omega)); simpa using q), (wrap_id (by first | assumption | omega | (simp_all <;> omega)) (by first | assumption | omega | (simp_all <;> omega))), trivial⟩
    (by simp [List.map_set, cL]) (ih (i_l0 + 1) (r0_l1.set i_l0.toNat (v_laws_toInt64S (a_0.getD i_l0.toNat default))) (show 0 ≤ (i_l0 + 1) from (by first | assumption | omega | (simp_all <;> omega))) (show (r0_l1.set i_l0.toNat (v_laws_toInt64S (a_0.getD i_l0.toNat default))).length = a_0.length from (by first | assumption | omega | (simp_all <;> omega))) (by first | assumption | omega | (simp_all <;> omega)))
  | false =>
   have e : lo_laws_toInt64SS_1 a_0 (k + 1) i_l0 r0_l1 = r0_l1 := by simp only [lo_laws_toInt64SS_1, h_0, cond_false]
   rw [e]
   exact stepK_out (E := E0) E0Ok hMixed (e := (.exit 0)) (body := (sub (bodyOf f58) [1, 1, 0, 1, 0, 0])) (st := ⟨[.sl (a_0.map (cL (cI .i64))), .any, .nils, .own 0, .i .i64 i_l0, .sl (a_0.map (cL (cI .i64))), .i .i64 (a_0.length : Int), .own 0, .any, .any, .any, .any, .any, .any, .any, .any, .any, .any, .any, .any, .any, .any, .any], [.nest 141 (r0_l1.map fun l => l.map (cI .i64)) false]⟩)
    (st2 := ⟨[.sl (a_0.map (cL (cI .i64))), .any, .nils, .own 0, .any, .sl (a_0.map (cL (cI .i64))), .i .i64 (a_0.length : Int), .own 0, .any, .any, .any, .any, .any, .any, .any, .any, .any, .any, .any, .any, .any, .any, .any], [.nest 141 (r0_l1.map fun l => l.map (cI .i64)) false]⟩)
    (ans := [.num (a_0.length : Int), .bo false])
    (ps := []) (mask := [true, false, true, true, false, true, true, true, false, false, false, false, false, false, false, false, false, false, false, false, false, false, false]) (ks := [0])
    (C := [(((a_0.map (cL (cI .i64))).length : Nat) : Int) = (a_0.length : Int),
     (decide (i_l0 < (a_0.length : Int))) = false])
    (by kernel_rfl)
    ⟨len_ok, h_0, trivial⟩
    (by intro h; cases h) rfl

theorem ln_laws_toInt64SS_1_0 (a_0 : (List (List Int))) : ∀ (k : Nat) (i_l0 : Int) (r0_l1 : (List (List Int))) (hk : ((a_0.length : Int) - i_l0).toNat < k), (lo_laws_toInt64SS_1 a_0 k i_l0 r0_l1).length = r0_l1.length := by
  intro k
  induction k with
  | zero => intro i_l0 r0_l1 hk; exact absurd hk (Nat.not_lt_zero _)
  | succ k ih =>
    intro i_l0 r0_l1 hk
    cases h_0 : (decide (i_l0 < (a_0.length : Int))) with
    | true =>
      have e : lo_laws_toInt64SS_1 a_0 (k + 1) i_l0 r0_l1 = (lo_laws_toInt64SS_1 a_0 k (i_l0 + 1) (r0_l1.set i_l0.toNat (v_laws_toInt64S (a_0.getD i_l0.toNat default)))) := by simp only [lo_laws_toInt64SS_1, h_0, cond_true]
      rw [e, ih (i_l0 + 1) (r0_l1.set i_l0.toNat (v_laws_toInt64S (a_0.getD i_l0.toNat default))) (by first | assumption | omega | (simp_all <;> omega))]; simp
    | false =>
      have e : lo_laws_toInt64SS_1 a_0 (k + 1) i_l0 r0_l1 = r0_l1 := by simp only [lo_laws_toInt64SS_1, h_0, cond_false]
      first | (rw [e]; done) | (rw [e]; rfl)

def lr_laws_toInt64SS_1_0 (a_0 : (List (List Int))) : (List (List Int)) := (lo_laws_toInt64SS_1 a_0 (((a_0.length : Int) - 0).toNat + 1) 0 (List.replicate (a_0.length : Int).toNat ([] : (List Int))))

@[simp] theorem len_lr_laws_toInt64SS_1_0_0 (a_0 : (List (List Int))) : (lr_laws_toInt64SS_1_0 a_0).length = ((List.replicate (a_0.length : Int).toNat ([] : (List Int))) : (List (List Int))).length := ln_laws_toInt64SS_1_0 a_0 (((a_0.length : Int) - 0).toNat + 1) 0 (List.replicate (a_0.length : Int).toNat ([] : (List Int))) (by first | exact Nat.lt_succ_self _ | simp)

def v_laws_toInt64SS (a_0 : (List (List Int))) : (List (List Int)) := (lr_laws_toInt64SS_1_0 a_0)

@[simp] theorem len_v_laws_toInt64SS_0 (a_0 : (List (List Int))) : (v_laws_toInt64SS a_0).length = a_0.length := by
  first | (simp [v_laws_toInt64SS]; done)

theorem t_laws_toInt64SS (a_0 : (List (List Int))) (hp0 : a_0.length ≤ 1073741824) (hp1 : ∀ t ∈ a_0, t.length ≤ 1073741824)  : Fn prog 58 [.sl (a_0.map (cL (cI .i64)))] (.own 0) [.nest 141 ((v_laws_toInt64SS a_0).map fun l => l.map (cI .i64)) false] := by
 exact Fn.cast (CallSt.fn (callSt_of_evK (E := E0) E0Ok hMixed (c := bodyOf f58) (rows := []) (r := .own 0) (rows' := [.nest 141 ((lr_laws_toInt64SS_1_0 a_0).map fun l => l.map (cI .i64)) false])
  (ans := [.num (a_0.length : Int), .loop [true, false, true, true, true, true, true, true, false, false, false, false, false, false, false, false, false, false, false, false, false, false, false] 1 (.exit 0) ⟨[.sl (a_0.map (cL (cI .i64))), .any, .nils, .own 0, .any, .sl (a_0.map (cL (cI .i64))), .i .i64 (a_0.length : Int), .own 0, .any, .any, .any, .any, .any, .any, .any, .any, .any, .any, .any, .any, .any, .any, .any], [.nest 141 ((lr_laws_toInt64SS_1_0 a_0).map fun l => l.map (cI .i64)) false]⟩, .keep [0]])
  (ps := [])
  (C := [(((a_0.map (cL (cI .i64))).length : Nat) : Int) = (a_0.length : Int),
   (a_0.length : Int) = (a_0.length : Int),
   0 ≤ (a_0.length : Int),
   (a_0.length : Int) ≤ 2147483648,
   Lp prog 0 (sub (bodyOf f58) [1, 1, 0, 1, 0, 0]) ⟨[.sl (a_0.map (cL (cI .i64))), .any, .nils, .own 0, .i .i64 0, .sl (a_0.map (cL (cI .i64))), .i .i64 (a_0.length : Int), .own 0, .any, .any, .any, .any, .any, .any, .any, .any, .any, .any, .any, .any, .any, .any, .any], [.nest 141 (List.replicate (a_0.length : Int).toNat []) false]⟩ (.exit 0) ⟨[.sl (a_0.map (cL (cI .i64))), .any, .nils, .own 0, .any, .sl (a_0.map (cL (cI .i64))), .i .i64 (a_0.length : Int), .own 0, .any, .any, .any, .any, .any, .any, .any, .any, .any, .any, .any, .any, .any, .any, .any], [.nest 141 ((lr_laws_toInt64SS_1_0 a_0).map fun l => l.map (cI .i64)) false]⟩])
  func58 rfl (by kernel_rfl) (by kernel_rfl)
  ⟨len_ok, rfl, (by first | assumption | omega | (simp_all <;> omega)), (by first | assumption | omega | (simp_all <;> omega)), (lp_cast (lp_laws_toInt64SS_1 a_0 hp0 hp1 (((a_0.length : Int) - 0).toNat + 1) 0 (List.replicate (a_0.length : Int).toNat ([] : (List Int))) (show 0 ≤ 0 from (by first | assumption | omega | (simp_all <;> omega))) (show (List.replicate (a_0.length : Int).toNat ([] : (List Int))).length = a_0.length from (by simp)) (Nat.lt_succ_self _)) (by simp [cL])), trivial⟩) rfl) rfl (by simp [v_laws_toInt64SS])

@[simp] theorem eq_laws_toInt64SS (a : List (List Int)) : v_laws_toInt64SS a = a := by
  unfold v_laws_toInt64SS lr_laws_toInt64SS_1_0
  rw [copy_all (f := v_laws_toInt64S) (a := a) (lo := lo_laws_toInt64SS_1 a) (fun k i r => rfl)]
  rw [show v_laws_toInt64S = id from funext eq_laws_toInt64S]
  exact List.map_id a

def v_laws_toMesh (a_0 : GMesh) : GMesh := (⟨(v_laws_toVectorS a_0.Places), (v_laws_toInt64SS a_0.Triangles)⟩ : GMesh)

theorem t_laws_toMesh (a_0 : GMesh) (hp0 : a_0.Places.length ≤ 1073741824) (hp1 : a_0.Triangles.length ≤ 1073741824) (hp2 : ∀ t ∈ a_0.Triangles, t.length ≤ 1073741824)  : Fn prog 14 [.agg [.sl (a_0.Places.map GVector.cells), .sl (a_0.Triangles.map (cL (cI .i64)))]] (.agg [.own 0, .own 1]) [.vec 54 3 (((v_laws_toMesh a_0).Places).map GVector.cells) false, .nest 141 (((v_laws_toMesh a_0).Triangles).map fun l => l.map (cI .i64)) false] := by
 exact Fn.cast (CallSt.fn (callSt_of_evK (E := E0) E0Ok hMixed (c := bodyOf f14) (rows := []) (r := .agg [.own 0, .own 1]) (rows' := [.vec 54 3 ((v_laws_toVectorS a_0.Places).map GVector.cells) false, .nest 141 ((v_laws_toInt64SS a_0.Triangles).map fun l => l.map (cI .i64)) false])
  (ans := [.call (.own 0) [.vec 54 3 ((v_laws_toVectorS a_0.Places).map GVector.cells) false], .call (.own 0) [.nest 141 ((v_laws_toInt64SS a_0.Triangles).map fun l => l.map (cI .i64)) false], .keep [3, 4]])
  (ps := [])
  (C := [Fn prog 46 [.sl (a_0.Places.map GVector.cells)] (.own 0) [.vec 54 3 ((v_laws_toVectorS a_0.Places).map GVector.cells) false],
   Fn prog 58 [.sl (a_0.Triangles.map (cL (cI .i64)))] (.own 0) [.nest 141 ((v_laws_toInt64SS a_0.Triangles).map fun l => l.map (cI .i64)) false]])
  func14 rfl (by kernel_rfl) (by kernel_rfl)
  ⟨(t_laws_toVectorS a_0.Places (show a_0.Places.length ≤ 1073741824 from (by first | assumption | omega | (simp_all <;> omega)))), (t_laws_toInt64SS a_0.Triangles (show a_0.Triangles.length ≤ 1073741824 from (by first | assumption | omega | (simp_all <;> omega))) (show ∀ t ∈ a_0.Triangles, t.length ≤ 1073741824 from (by first | assumption | omega | (simp_all <;> omega)))), trivial⟩) rfl) rfl (by simp [v_laws_toMesh])

@[simp] theorem eq_laws_toMesh (a : GMesh) : v_laws_toMesh a = a := by
  simp [v_laws_toMesh]

def v_laws_toSpring (a_0 : GSpring) : GSpring := a_0

theorem t_laws_toSpring (a_0 : GSpring)   : Fn prog 130 [.agg [.i .i64 a_0.A, .i .i64 a_0.B, .f .f32 a_0.Long, .f .f32 a_0.Stiff]] (.agg [.i .i64 ((v_laws_toSpring a_0).A), .i .i64 ((v_laws_toSpring a_0).B), .f .f32 ((v_laws_toSpring a_0).Long), .f .f32 ((v_laws_toSpring a_0).Stiff)]) [] := by
 exact Fn.cast (CallSt.fn (callSt_of_evK (E := E0) E0Ok hMixed (c := bodyOf f130) (rows := []) (r := .agg [.i .i64 a_0.A, .i .i64 a_0.B, .f .f32 a_0.Long, .f .f32 a_0.Stiff]) (rows' := [])
  (ans := [.keep []])
  (ps := [])
  (C := [])
  func130 rfl (by kernel_rfl) (by kernel_rfl)
  trivial) rfl) rfl rfl

@[simp] theorem eq_laws_toSpring (a : GSpring) : v_laws_toSpring a = a := rfl

def lo_laws_toSpringS_1 (a_0 : (List GSpring)) : Nat → Int → (List GSpring) → (List GSpring)
  | 0, _, _ => default
  | k + 1, i_l0, r0_l1 => (cond (decide (i_l0 < (a_0.length : Int)))
    (lo_laws_toSpringS_1 a_0 k (i_l0 + 1) (r0_l1.set i_l0.toNat (v_laws_toSpring (a_0.getD i_l0.toNat default))))
    r0_l1)

def ls_laws_toSpringS_1 (a_0 : (List GSpring)) (r : (List GSpring)) : Ex × St := ((.exit 0), ⟨[.sl (a_0.map GSpring.cells), .any, .nils, .own 0, .any, .sl (a_0.map GSpring.cells), .i .i64 (a_0.length : Int), .own 0, .any, .any, .any, .any, .any, .any, .any, .any, .any, .any, .any, .any, .any, .any, .any], [.vec 113 4 (r.map GSpring.cells) false]⟩)

theorem lp_laws_toSpringS_1 (a_0 : (List GSpring)) (hp0 : a_0.length ≤ 1073741824) : ∀ (k : Nat) (i_l0 : Int) (r0_l1 : (List GSpring)) (hv_laws_toSpringS_1_0 : 0 ≤ i_l0) (hv_laws_toSpringS_1_1 : r0_l1.length = a_0.length) (hk : ((a_0.length : Int) - i_l0).toNat < k), Lp prog 0 (sub (bodyOf f77) [1, 1, 0, 1, 0, 0]) ⟨[.sl (a_0.map GSpring.cells), .any, .nils, .own 0, .i .i64 i_l0, .sl (a_0.map GSpring.cells), .i .i64 (a_0.length : Int), .own 0, .any, .any, .any, .any, .any, .any, .any, .any, .any, .any, .any, .any, .any, .any, .any], [.vec 113 4 (r0_l1.map GSpring.cells) false]⟩ (ls_laws_toSpringS_1 a_0 (lo_laws_toSpringS_1 a_0 k i_l0 r0_l1)).1 (ls_laws_toSpringS_1 a_0 (lo_laws_toSpringS_1 a_0 k i_l0 r0_l1)).2 := by
 intro k
 induction k with
 | zero => intro i_l0 r0_l1 hv_laws_toSpringS_1_0 hv_laws_toSpringS_1_1 hk; exact absurd hk (Nat.not_lt_zero _)
 | succ k ih =>
  intro i_l0 r0_l1 hv_laws_toSpringS_1_0 hv_laws_toSpringS_1_1 hk
  cases h_0 : (decide (i_l0 < (a_0.length : Int))) with
  | true =>
   have e : lo_laws_toSpringS_1 a_0 (k + 1) i_l0 r0_l1 = (lo_laws_toSpringS_1 a_0 k (i_l0 + 1) (r0_l1.set i_l0.toNat (v_laws_toSpring (a_0.getD i_l0.toNat default)))) := by simp only [lo_laws_toSpringS_1, h_0, cond_true]
   rw [e]
   exact stepK_next (E := E0) E0Ok hMixed (body := (sub (bodyOf f77) [1, 1, 0, 1, 0, 0])) (st := ⟨[.sl (a_0.map GSpring.cells), .any, .nils, .own 0, .i .i64 i_l0, .sl (a_0.map GSpring.cells), .i .i64 (a_0.length : Int), .own 0, .any, .any, .any, .any, .any, .any, .any, .any, .any, .any, .any, .any, .any, .any, .any], [.vec 113 4 (r0_l1.map GSpring.cells) false]⟩)
    (st2 := ⟨[.sl (a_0.map GSpring.cells), .any, .nils, .own 0, .i .i64 (i_l0 + 1), .sl (a_0.map GSpring.cells), .i .i64 (a_0.length : Int), .own 0, .any, .any, .any, .any, .any, .any, .any, .any, .any, .any, .any, .any, .any, .any, .any], [.vec 113 4 ((r0_l1.map GSpring.cells).set i_l0.toNat [.i .i64 ((v_laws_toSpring (a_0.getD i_l0.toNat default)).A), .i .i64 ((v_laws_toSpring (a_0.getD i_l0.toNat default)).B), .f .f32 ((v_laws_toSpring (a_0.getD i_l0.toNat default)).Long), .f .f32 ((v_laws_toSpring (a_0.getD i_l0.toNat default)).Stiff)]) false]⟩)
    (ans := [.num (a_0.length : Int), .bo true, .el [.i .i64 ((a_0.getD i_l0.toNat default).A), .i .i64 ((a_0.getD i_l0.toNat default).B), .f .f32 ((a_0.getD i_l0.toNat default).Long), .f .f32 ((a_0.getD i_l0.toNat default).Stiff)], .call (.agg [.i .i64 ((v_laws_toSpring (a_0.getD i_l0.toNat default)).A), .i .i64 ((v_laws_toSpring (a_0.getD i_l0.toNat default)).B), .f .f32 ((v_laws_toSpring (a_0.getD i_l0.toNat default)).Long), .f .f32 ((v_laws_toSpring (a_0.getD i_l0.toNat default)).Stiff)]) [], .num (i_l0 + 1)])
    (ps := []) (mask := [true, false, true, true, true, true, true, true, false, false, false, false, false, false, false, false, false, false, false, false, false, false, false]) (ks := [0])
    (C := [(((a_0.map GSpring.cells).length : Nat) : Int) = (a_0.length : Int),
     (decide (i_l0 < (a_0.length : Int))) = true,
     0 ≤ i_l0 ∧ (a_0.map GSpring.cells)[Int.toNat i_l0]? = some [.i .i64 ((a_0.getD i_l0.toNat default).A), .i .i64 ((a_0.getD i_l0.toNat default).B), .f .f32 ((a_0.getD i_l0.toNat default).Long), .f .f32 ((a_0.getD i_l0.toNat default).Stiff)],
     Fn prog 130 [.agg [.i .i64 ((a_0.getD i_l0.toNat default).A), .i .i64 ((a_0.getD i_l0.toNat default).B), .f .f32 ((a_0.getD i_l0.toNat default).Long), .f .f32 ((a_0.getD i_l0.toNat default).Stiff)]] (.agg [.i .i64 ((v_laws_toSpring (a_0.getD i_l0.toNat default)).A), .i .i64 ((v_laws_toSpring (a_0.getD i_l0.toNat default)).B), .f .f32 ((v_laws_toSpring (a_0.getD i_l0.toNat default)).Long), .f .f32 ((v_laws_toSpring (a_0.getD i_l0.toNat default)).Stiff)]) [],
     0 ≤ i_l0 ∧ Int.toNat i_l0 < (r0_l1.map GSpring.cells).length,
     i_l0.toNat < (r0_l1.map GSpring.cells).length,
     IntKind.wrap .i64 (i_l0 + 1) = (i_l0 + 1)])
    (by kernel_rfl)
    ⟨len_ok, h_0, (get_ok (by first | assumption | omega | (simp_all <;> omega)) (by first | assumption | omega | (simp_all <;> omega))), (t_laws_toSpring (a_0.getD i_l0.toNat default)), (idx_ok (by first | assumption | omega | (simp_all <;> omega)) (by first | assumption | omega | (simp_all <;> omega))), (by have q : i_l0.toNat < r0_l1.length := (by first | assumption | omega | (simp_all <;> omega)); simpa using q), (wrap_id (by first | assumption | omega | (simp_all <;> omega)) (by first | assumption | omega | (simp_all <;> omega))), trivial⟩
    (by simp [List.map_set, GSpring.cells]) (ih (i_l0 + 1) (r0_l1.set i_l0.toNat (v_laws_toSpring (a_0.getD i_l0.toNat default))) (show 0 ≤ (i_l0 + 1) from (by first | assumption | omega | (simp_all <;> omega))) (show (r0_l1.set i_l0.toNat (v_laws_toSpring (a_0.getD i_l0.toNat default))).length = a_0.length from (by first | assumption | omega | (simp_all <;> omega))) (by first | assumption | omega | (simp_all <;> omega)))
  | false =>
   have e : lo_laws_toSpringS_1 a_0 (k + 1) i_l0 r0_l1 = r0_l1 := by simp only [lo_laws_toSpringS_1, h_0, cond_false]
   rw [e]
   exact stepK_out (E := E0) E0Ok hMixed (e := (.exit 0)) (body := (sub (bodyOf f77) [1, 1, 0, 1, 0, 0])) (st := ⟨[.sl (a_0.map GSpring.cells), .any, .nils, .own 0, .i .i64 i_l0, .sl (a_0.map GSpring.cells), .i .i64 (a_0.length : Int), .own 0, .any, .any, .any, .any, .any, .any, .any, .any, .any, .any, .any, .any, .any, .any, .any], [.vec 113 4 (r0_l1.map GSpring.cells) false]⟩)
    (st2 := ⟨[.sl (a_0.map GSpring.cells), .any, .nils, .own 0, .any, .sl (a_0.map GSpring.cells), .i .i64 (a_0.length : Int), .own 0, .any, .any, .any, .any, .any, .any, .any, .any, .any, .any, .any, .any, .any, .any, .any], [.vec 113 4 (r0_l1.map GSpring.cells) false]⟩)
    (ans := [.num (a_0.length : Int), .bo false])
    (ps := []) (mask := [true, false, true, true, false, true, true, true, false, false, false, false, false, false, false, false, false, false, false, false, false, false, false]) (ks := [0])
    (C := [(((a_0.map GSpring.cells).length : Nat) : Int) = (a_0.length : Int),
     (decide (i_l0 < (a_0.length : Int))) = false])
    (by kernel_rfl)
    ⟨len_ok, h_0, trivial⟩
    (by intro h; cases h) rfl

theorem ln_laws_toSpringS_1_0 (a_0 : (List GSpring)) : ∀ (k : Nat) (i_l0 : Int) (r0_l1 : (List GSpring)) (hk : ((a_0.length : Int) - i_l0).toNat < k), (lo_laws_toSpringS_1 a_0 k i_l0 r0_l1).length = r0_l1.length := by
  intro k
  induction k with
  | zero => intro i_l0 r0_l1 hk; exact absurd hk (Nat.not_lt_zero _)
  | succ k ih =>
    intro i_l0 r0_l1 hk
    cases h_0 : (decide (i_l0 < (a_0.length : Int))) with
    | true =>
      have e : lo_laws_toSpringS_1 a_0 (k + 1) i_l0 r0_l1 = (lo_laws_toSpringS_1 a_0 k (i_l0 + 1) (r0_l1.set i_l0.toNat (v_laws_toSpring (a_0.getD i_l0.toNat default)))) := by simp only [lo_laws_toSpringS_1, h_0, cond_true]
      rw [e, ih (i_l0 + 1) (r0_l1.set i_l0.toNat (v_laws_toSpring (a_0.getD i_l0.toNat default))) (by first | assumption | omega | (simp_all <;> omega))]; simp
    | false =>
      have e : lo_laws_toSpringS_1 a_0 (k + 1) i_l0 r0_l1 = r0_l1 := by simp only [lo_laws_toSpringS_1, h_0, cond_false]
      first | (rw [e]; done) | (rw [e]; rfl)

def lr_laws_toSpringS_1_0 (a_0 : (List GSpring)) : (List GSpring) := (lo_laws_toSpringS_1 a_0 (((a_0.length : Int) - 0).toNat + 1) 0 (List.replicate (a_0.length : Int).toNat (⟨0, 0, 0, 0⟩ : GSpring)))

@[simp] theorem len_lr_laws_toSpringS_1_0_0 (a_0 : (List GSpring)) : (lr_laws_toSpringS_1_0 a_0).length = ((List.replicate (a_0.length : Int).toNat (⟨0, 0, 0, 0⟩ : GSpring)) : (List GSpring)).length := ln_laws_toSpringS_1_0 a_0 (((a_0.length : Int) - 0).toNat + 1) 0 (List.replicate (a_0.length : Int).toNat (⟨0, 0, 0, 0⟩ : GSpring)) (by first | exact Nat.lt_succ_self _ | simp)

def v_laws_toSpringS (a_0 : (List GSpring)) : (List GSpring) := (lr_laws_toSpringS_1_0 a_0)

@[simp] theorem len_v_laws_toSpringS_0 (a_0 : (List GSpring)) : (v_laws_toSpringS a_0).length = a_0.length := by
  first | (simp [v_laws_toSpringS]; done)

theorem t_laws_toSpringS (a_0 : (List GSpring)) (hp0 : a_0.length ≤ 1073741824)  : Fn prog 77 [.sl (a_0.map GSpring.cells)] (.own 0) [.vec 113 4 ((v_laws_toSpringS a_0).map GSpring.cells) false] := by
 exact Fn.cast (CallSt.fn (callSt_of_evK (E := E0) E0Ok hMixed (c := bodyOf f77) (rows := []) (r := .own 0) (rows' := [.vec 113 4 ((lr_laws_toSpringS_1_0 a_0).map GSpring.cells) false])
  (ans := [.num (a_0.length : Int), .loop [true, false, true, true, true, true, true, true, false, false, false, false, false, false, false, false, false, false, false, false, false, false, false] 1 (.exit 0) ⟨[.sl (a_0.map GSpring.cells), .any, .nils, .own 0, .any, .sl (a_0.map GSpring.cells), .i .i64 (a_0.length : Int), .own 0, .any, .any, .any, .any, .any, .any, .any, .any, .any, .any, .any, .any, .any, .any, .any], [.vec 113 4 ((lr_laws_toSpringS_1_0 a_0).map GSpring.cells) false]⟩, .keep [0]])
  (ps := [])
  (C := [(((a_0.map GSpring.cells).length : Nat) : Int) = (a_0.length : Int),
   (a_0.length : Int) = (a_0.length : Int),
   0 ≤ (a_0.length : Int),
   (a_0.length : Int) ≤ 2147483648,
   Lp prog 0 (sub (bodyOf f77) [1, 1, 0, 1, 0, 0]) ⟨[.sl (a_0.map GSpring.cells), .any, .nils, .own 0, .i .i64 0, .sl (a_0.map GSpring.cells), .i .i64 (a_0.length : Int), .own 0, .any, .any, .any, .any, .any, .any, .any, .any, .any, .any, .any, .any, .any, .any, .any], [.vec 113 4 (List.replicate (Int.toNat (a_0.length : Int)) [.i .i64 0, .i .i64 0, .f .f32 0, .f .f32 0]) false]⟩ (.exit 0) ⟨[.sl (a_0.map GSpring.cells), .any, .nils, .own 0, .any, .sl (a_0.map GSpring.cells), .i .i64 (a_0.length : Int), .own 0, .any, .any, .any, .any, .any, .any, .any, .any, .any, .any, .any, .any, .any, .any, .any], [.vec 113 4 ((lr_laws_toSpringS_1_0 a_0).map GSpring.cells) false]⟩])
  func77 rfl (by kernel_rfl) (by kernel_rfl)
  ⟨len_ok, rfl, (by first | assumption | omega | (simp_all <;> omega)), (by first | assumption | omega | (simp_all <;> omega)), (lp_cast (lp_laws_toSpringS_1 a_0 hp0 (((a_0.length : Int) - 0).toNat + 1) 0 (List.replicate (a_0.length : Int).toNat (⟨0, 0, 0, 0⟩ : GSpring)) (show 0 ≤ 0 from (by first | assumption | omega | (simp_all <;> omega))) (show (List.replicate (a_0.length : Int).toNat (⟨0, 0, 0, 0⟩ : GSpring)).length = a_0.length from (by simp)) (Nat.lt_succ_self _)) (by simp [GSpring.cells])), trivial⟩) rfl) rfl (by simp [v_laws_toSpringS])

@[simp] theorem eq_laws_toSpringS (a : List GSpring) : v_laws_toSpringS a = a := by
  unfold v_laws_toSpringS lr_laws_toSpringS_1_0
  rw [copy_all (f := v_laws_toSpring) (a := a) (lo := lo_laws_toSpringS_1 a) (fun k i r => rfl)]
  exact List.map_id a

def lo_laws_toFloat32S_1 (a_0 : (List Nat)) : Nat → Int → (List Nat) → (List Nat)
  | 0, _, _ => default
  | k + 1, i_l0, r0_l1 => (cond (decide (i_l0 < (a_0.length : Int)))
    (lo_laws_toFloat32S_1 a_0 k (i_l0 + 1) (r0_l1.set i_l0.toNat (a_0.getD i_l0.toNat default)))
    r0_l1)

def ls_laws_toFloat32S_1 (a_0 : (List Nat)) (r : (List Nat)) : Ex × St := ((.exit 0), ⟨[.sl (a_0.map (cF .f32)), .any, .nils, .own 0, .any, .sl (a_0.map (cF .f32)), .i .i64 (a_0.length : Int), .own 0, .any, .any, .any, .any, .any, .any, .any, .any, .any, .any, .any, .any, .any, .any], [.vec 29 1 (r.map (cF .f32)) false]⟩)

theorem lp_laws_toFloat32S_1 (a_0 : (List Nat)) (hp0 : a_0.length ≤ 1073741824) : ∀ (k : Nat) (i_l0 : Int) (r0_l1 : (List Nat)) (hv_laws_toFloat32S_1_0 : 0 ≤ i_l0) (hv_laws_toFloat32S_1_1 : r0_l1.length = a_0.length) (hk : ((a_0.length : Int) - i_l0).toNat < k), Lp prog 0 (sub (bodyOf f78) [1, 1, 0, 1, 0, 0]) ⟨[.sl (a_0.map (cF .f32)), .any, .nils, .own 0, .i .i64 i_l0, .sl (a_0.map (cF .f32)), .i .i64 (a_0.length : Int), .own 0, .any, .any, .any, .any, .any, .any, .any, .any, .any, .any, .any, .any, .any, .any], [.vec 29 1 (r0_l1.map (cF .f32)) false]⟩ (ls_laws_toFloat32S_1 a_0 (lo_laws_toFloat32S_1 a_0 k i_l0 r0_l1)).1 (ls_laws_toFloat32S_1 a_0 (lo_laws_toFloat32S_1 a_0 k i_l0 r0_l1)).2 := by
 intro k
 induction k with
 | zero => intro i_l0 r0_l1 hv_laws_toFloat32S_1_0 hv_laws_toFloat32S_1_1 hk; exact absurd hk (Nat.not_lt_zero _)
 | succ k ih =>
  intro i_l0 r0_l1 hv_laws_toFloat32S_1_0 hv_laws_toFloat32S_1_1 hk
  cases h_0 : (decide (i_l0 < (a_0.length : Int))) with
  | true =>
   have e : lo_laws_toFloat32S_1 a_0 (k + 1) i_l0 r0_l1 = (lo_laws_toFloat32S_1 a_0 k (i_l0 + 1) (r0_l1.set i_l0.toNat (a_0.getD i_l0.toNat default))) := by simp only [lo_laws_toFloat32S_1, h_0, cond_true]
   rw [e]
   exact stepK_next (E := E0) E0Ok hMixed (body := (sub (bodyOf f78) [1, 1, 0, 1, 0, 0])) (st := ⟨[.sl (a_0.map (cF .f32)), .any, .nils, .own 0, .i .i64 i_l0, .sl (a_0.map (cF .f32)), .i .i64 (a_0.length : Int), .own 0, .any, .any, .any, .any, .any, .any, .any, .any, .any, .any, .any, .any, .any, .any], [.vec 29 1 (r0_l1.map (cF .f32)) false]⟩)
    (st2 := ⟨[.sl (a_0.map (cF .f32)), .any, .nils, .own 0, .i .i64 (i_l0 + 1), .sl (a_0.map (cF .f32)), .i .i64 (a_0.length : Int), .own 0, .any, .any, .any, .any, .any, .any, .any, .any, .any, .any, .any, .any, .any, .any], [.vec 29 1 ((r0_l1.map (cF .f32)).set i_l0.toNat [.f .f32 (a_0.getD i_l0.toNat default)]) false]⟩)
    (ans := [.num (a_0.length : Int), .bo true, .el [.f .f32 (a_0.getD i_l0.toNat default)], .num (i_l0 + 1)])
    (ps := []) (mask := [true, false, true, true, true, true, true, true, false, false, false, false, false, false, false, false, false, false, false, false, false, false]) (ks := [0])
    (C := [(((a_0.map (cF .f32)).length : Nat) : Int) = (a_0.length : Int),
     (decide (i_l0 < (a_0.length : Int))) = true,
     0 ≤ i_l0 ∧ (a_0.map (cF .f32))[Int.toNat i_l0]? = some [.f .f32 (a_0.getD i_l0.toNat default)],
     0 ≤ i_l0 ∧ Int.toNat i_l0 < (r0_l1.map (cF .f32)).length,
     i_l0.toNat < (r0_l1.map (cF .f32)).length,
     IntKind.wrap .i64 (i_l0 + 1) = (i_l0 + 1)])
    (by kernel_rfl)
    ⟨len_ok, h_0, (get_ok (by first | assumption | omega | (simp_all <;> omega)) (by first | assumption | omega | (simp_all <;> omega))), (idx_ok (by first | assumption | omega | (simp_all <;> omega)) (by first | assumption | omega | (simp_all <;> omega))), (by have q : i_l0.toNat < r0_l1.length := (by first | assumption | omega | (simp_all <;> omega)); simpa using q), (wrap_id (by first | assumption | omega | (simp_all <;> omega)) (by first | assumption | omega | (simp_all <;> omega))), trivial⟩
    (by simp [List.map_set, cF]) (ih (i_l0 + 1) (r0_l1.set i_l0.toNat (a_0.getD i_l0.toNat default)) (show 0 ≤ (i_l0 + 1) from (by first | assumption | omega | (simp_all <;> omega))) (show (r0_l1.set i_l0.toNat (a_0.getD i_l0.toNat default)).length = a_0.length from (by first | assumption | omega | (simp_all <;> omega))) (by first | assumption | omega | (simp_all <;> omega)))
  | false =>
   have e : lo_laws_toFloat32S_1 a_0 (k + 1) i_l0 r0_l1 = r0_l1 := by simp only [lo_laws_toFloat32S_1, h_0, cond_false]
   rw [e]
   exact stepK_out (E := E0) E0Ok hMixed (e := (.exit 0)) (body := (sub (bodyOf f78) [1, 1, 0, 1, 0, 0])) (st := ⟨[.sl (a_0.map (cF .f32)), .any, .nils, .own 0, .i .i64 i_l0, .sl (a_0.map (cF .f32)), .i .i64 (a_0.length : Int), .own 0, .any, .any, .any, .any, .any, .any, .any, .any, .any, .any, .any, .any, .any, .any], [.vec 29 1 (r0_l1.map (cF .f32)) false]⟩)
    (st2 := ⟨[.sl (a_0.map (cF .f32)), .any, .nils, .own 0, .any, .sl (a_0.map (cF .f32)), .i .i64 (a_0.length : Int), .own 0, .any, .any, .any, .any, .any, .any, .any, .any, .any, .any, .any, .any, .any, .any], [.vec 29 1 (r0_l1.map (cF .f32)) false]⟩)
    (ans := [.num (a_0.length : Int), .bo false])
    (ps := []) (mask := [true, false, true, true, false, true, true, true, false, false, false, false, false, false, false, false, false, false, false, false, false, false]) (ks := [0])
    (C := [(((a_0.map (cF .f32)).length : Nat) : Int) = (a_0.length : Int),
     (decide (i_l0 < (a_0.length : Int))) = false])
    (by kernel_rfl)
    ⟨len_ok, h_0, trivial⟩
    (by intro h; cases h) rfl

theorem ln_laws_toFloat32S_1_0 (a_0 : (List Nat)) : ∀ (k : Nat) (i_l0 : Int) (r0_l1 : (List Nat)) (hk : ((a_0.length : Int) - i_l0).toNat < k), (lo_laws_toFloat32S_1 a_0 k i_l0 r0_l1).length = r0_l1.length := by
  intro k
  induction k with
  | zero => intro i_l0 r0_l1 hk; exact absurd hk (Nat.not_lt_zero _)
  | succ k ih =>
    intro i_l0 r0_l1 hk
    cases h_0 : (decide (i_l0 < (a_0.length : Int))) with
    | true =>
      have e : lo_laws_toFloat32S_1 a_0 (k + 1) i_l0 r0_l1 = (lo_laws_toFloat32S_1 a_0 k (i_l0 + 1) (r0_l1.set i_l0.toNat (a_0.getD i_l0.toNat default))) := by simp only [lo_laws_toFloat32S_1, h_0, cond_true]
      rw [e, ih (i_l0 + 1) (r0_l1.set i_l0.toNat (a_0.getD i_l0.toNat default)) (by first | assumption | omega | (simp_all <;> omega))]; simp
    | false =>
      have e : lo_laws_toFloat32S_1 a_0 (k + 1) i_l0 r0_l1 = r0_l1 := by simp only [lo_laws_toFloat32S_1, h_0, cond_false]
      first | (rw [e]; done) | (rw [e]; rfl)

def lr_laws_toFloat32S_1_0 (a_0 : (List Nat)) : (List Nat) := (lo_laws_toFloat32S_1 a_0 (((a_0.length : Int) - 0).toNat + 1) 0 (List.replicate (a_0.length : Int).toNat 0))

@[simp] theorem len_lr_laws_toFloat32S_1_0_0 (a_0 : (List Nat)) : (lr_laws_toFloat32S_1_0 a_0).length = ((List.replicate (a_0.length : Int).toNat 0) : (List Nat)).length := ln_laws_toFloat32S_1_0 a_0 (((a_0.length : Int) - 0).toNat + 1) 0 (List.replicate (a_0.length : Int).toNat 0) (by first | exact Nat.lt_succ_self _ | simp)

def v_laws_toFloat32S (a_0 : (List Nat)) : (List Nat) := (lr_laws_toFloat32S_1_0 a_0)

@[simp] theorem len_v_laws_toFloat32S_0 (a_0 : (List Nat)) : (v_laws_toFloat32S a_0).length = a_0.length := by
  first | (simp [v_laws_toFloat32S]; done)

theorem t_laws_toFloat32S (a_0 : (List Nat)) (hp0 : a_0.length ≤ 1073741824)  : Fn prog 78 [.sl (a_0.map (cF .f32))] (.own 0) [.vec 29 1 ((v_laws_toFloat32S a_0).map (cF .f32)) false] := by
 exact Fn.cast (CallSt.fn (callSt_of_evK (E := E0) E0Ok hMixed (c := bodyOf f78) (rows := []) (r := .own 0) (rows' := [.vec 29 1 ((lr_laws_toFloat32S_1_0 a_0).map (cF .f32)) false])
  (ans := [.num (a_0.length : Int), .loop [true, false, true, true, true, true, true, true, false, false, false, false, false, false, false, false, false, false, false, false, false, false] 1 (.exit 0) ⟨[.sl (a_0.map (cF .f32)), .any, .nils, .own 0, .any, .sl (a_0.map (cF .f32)), .i .i64 (a_0.length : Int), .own 0, .any, .any, .any, .any, .any, .any, .any, .any, .any, .any, .any, .any, .any, .any], [.vec 29 1 ((lr_laws_toFloat32S_1_0 a_0).map (cF .f32)) false]⟩, .keep [0]])
  (ps := [])
  (C := [(((a_0.map (cF .f32)).length : Nat) : Int) = (a_0.length : Int),
   (a_0.length : Int) = (a_0.length : Int),
   0 ≤ (a_0.length : Int),
   (a_0.length : Int) ≤ 2147483648,
   Lp prog 0 (sub (bodyOf f78) [1, 1, 0, 1, 0, 0]) ⟨[.sl (a_0.map (cF .f32)), .any, .nils, .own 0, .i .i64 0, .sl (a_0.map (cF .f32)), .i .i64 (a_0.length : Int), .own 0, .any, .any, .any, .any, .any, .any, .any, .any, .any, .any, .any, .any, .any, .any], [.vec 29 1 (List.replicate (Int.toNat (a_0.length : Int)) [.f .f32 0]) false]⟩ (.exit 0) ⟨[.sl (a_0.map (cF .f32)), .any, .nils, .own 0, .any, .sl (a_0.map (cF .f32)), .i .i64 (a_0.length : Int), .own 0, .any, .any, .any, .any, .any, .any, .any, .any, .any, .any, .any, .any, .any, .any], [.vec 29 1 ((lr_laws_toFloat32S_1_0 a_0).map (cF .f32)) false]⟩])
  func78 rfl (by kernel_rfl) (by kernel_rfl)
  ⟨len_ok, rfl, (by first | assumption | omega | (simp_all <;> omega)), (by first | assumption | omega | (simp_all <;> omega)), (lp_cast (lp_laws_toFloat32S_1 a_0 hp0 (((a_0.length : Int) - 0).toNat + 1) 0 (List.replicate (a_0.length : Int).toNat 0) (show 0 ≤ 0 from (by first | assumption | omega | (simp_all <;> omega))) (show (List.replicate (a_0.length : Int).toNat 0).length = a_0.length from (by simp)) (Nat.lt_succ_self _)) (by simp [cF])), trivial⟩) rfl) rfl (by simp [v_laws_toFloat32S])

@[simp] theorem eq_laws_toFloat32S (a : List Nat) : v_laws_toFloat32S a = a := by
  unfold v_laws_toFloat32S lr_laws_toFloat32S_1_0
  rw [copy_all (f := id) (a := a) (lo := lo_laws_toFloat32S_1 a) (fun k i r => rfl)]
  exact List.map_id a

def v_laws_toBody (a_0 : GBody) : GBody := (⟨(v_laws_toMesh a_0.Mesh), (v_laws_toSpringS a_0.Springs), a_0.Film, a_0.Bend, (v_laws_toFloat32S a_0.Weights), (v_laws_toVector a_0.Fall)⟩ : GBody)

theorem t_laws_toBody (a_0 : GBody) (hp0 : a_0.Mesh.Places.length ≤ 1073741824) (hp1 : a_0.Mesh.Triangles.length ≤ 1073741824) (hp2 : ∀ t ∈ a_0.Mesh.Triangles, t.length ≤ 1073741824) (hp3 : a_0.Springs.length ≤ 1073741824) (hp4 : a_0.Weights.length ≤ 1073741824)  : Fn prog 27 [.agg [.sl (a_0.Mesh.Places.map GVector.cells), .sl (a_0.Mesh.Triangles.map (cL (cI .i64))), .sl (a_0.Springs.map GSpring.cells), .f .f32 a_0.Film, .f .f32 a_0.Bend, .sl (a_0.Weights.map (cF .f32)), .f .f32 a_0.Fall.X, .f .f32 a_0.Fall.Y, .f .f32 a_0.Fall.Z]] (.agg [.own 0, .own 1, .own 2, .f .f32 ((v_laws_toBody a_0).Film), .f .f32 ((v_laws_toBody a_0).Bend), .own 3, .f .f32 ((v_laws_toBody a_0).Fall.X), .f .f32 ((v_laws_toBody a_0).Fall.Y), .f .f32 ((v_laws_toBody a_0).Fall.Z)]) [.vec 54 3 (((v_laws_toBody a_0).Mesh.Places).map GVector.cells) false, .nest 141 (((v_laws_toBody a_0).Mesh.Triangles).map fun l => l.map (cI .i64)) false, .vec 113 4 (((v_laws_toBody a_0).Springs).map GSpring.cells) false, .vec 29 1 (((v_laws_toBody a_0).Weights).map (cF .f32)) false] := by
 exact Fn.cast (CallSt.fn (callSt_of_evK (E := E0) E0Ok hMixed (c := bodyOf f27) (rows := []) (r := .agg [.own 0, .own 1, .own 2, .f .f32 a_0.Film, .f .f32 a_0.Bend, .own 3, .f .f32 ((v_laws_toVector a_0.Fall).X), .f .f32 ((v_laws_toVector a_0.Fall).Y), .f .f32 ((v_laws_toVector a_0.Fall).Z)]) (rows' := [.vec 54 3 (((v_laws_toMesh a_0.Mesh).Places).map GVector.cells) false, .nest 141 (((v_laws_toMesh a_0.Mesh).Triangles).map fun l => l.map (cI .i64)) false, .vec 113 4 ((v_laws_toSpringS a_0.Springs).map GSpring.cells) false, .vec 29 1 ((v_laws_toFloat32S a_0.Weights).map (cF .f32)) false])
  (ans := [.call (.agg [.own 0, .own 1]) [.vec 54 3 (((v_laws_toMesh a_0.Mesh).Places).map GVector.cells) false, .nest 141 (((v_laws_toMesh a_0.Mesh).Triangles).map fun l => l.map (cI .i64)) false], .call (.own 0) [.vec 113 4 ((v_laws_toSpringS a_0.Springs).map GSpring.cells) false], .call (.own 0) [.vec 29 1 ((v_laws_toFloat32S a_0.Weights).map (cF .f32)) false], .call (.agg [.f .f32 ((v_laws_toVector a_0.Fall).X), .f .f32 ((v_laws_toVector a_0.Fall).Y), .f .f32 ((v_laws_toVector a_0.Fall).Z)]) [], .keep [3, 4, 5, 6]])
  (ps := [])
  (C := [Fn prog 14 [.agg [.sl (a_0.Mesh.Places.map GVector.cells), .sl (a_0.Mesh.Triangles.map (cL (cI .i64)))]] (.agg [.own 0, .own 1]) [.vec 54 3 (((v_laws_toMesh a_0.Mesh).Places).map GVector.cells) false, .nest 141 (((v_laws_toMesh a_0.Mesh).Triangles).map fun l => l.map (cI .i64)) false],
   Fn prog 77 [.sl (a_0.Springs.map GSpring.cells)] (.own 0) [.vec 113 4 ((v_laws_toSpringS a_0.Springs).map GSpring.cells) false],
   Fn prog 78 [.sl (a_0.Weights.map (cF .f32))] (.own 0) [.vec 29 1 ((v_laws_toFloat32S a_0.Weights).map (cF .f32)) false],
   Fn prog 79 [.agg [.f .f32 a_0.Fall.X, .f .f32 a_0.Fall.Y, .f .f32 a_0.Fall.Z]] (.agg [.f .f32 ((v_laws_toVector a_0.Fall).X), .f .f32 ((v_laws_toVector a_0.Fall).Y), .f .f32 ((v_laws_toVector a_0.Fall).Z)]) []])
  func27 rfl (by kernel_rfl) (by kernel_rfl)
  ⟨(t_laws_toMesh a_0.Mesh (show a_0.Mesh.Places.length ≤ 1073741824 from (by first | assumption | omega | (simp_all <;> omega))) (show a_0.Mesh.Triangles.length ≤ 1073741824 from (by first | assumption | omega | (simp_all <;> omega))) (show ∀ t ∈ a_0.Mesh.Triangles, t.length ≤ 1073741824 from (by first | assumption | omega | (simp_all <;> omega)))), (t_laws_toSpringS a_0.Springs (show a_0.Springs.length ≤ 1073741824 from (by first | assumption | omega | (simp_all <;> omega)))), (t_laws_toFloat32S a_0.Weights (show a_0.Weights.length ≤ 1073741824 from (by first | assumption | omega | (simp_all <;> omega)))), (t_laws_toVector a_0.Fall), trivial⟩) rfl) rfl (by simp [v_laws_toBody])

@[simp] theorem eq_laws_toBody (a : GBody) : v_laws_toBody a = a := by
  simp [v_laws_toBody]

def v_spec_l00In (n_0 : Int) (low_1 : Int) (high_2 : Int) : Bool := (cond (decide (n_0 ≥ low_1))
  (decide (n_0 ≤ high_2))
  false)

theorem t_spec_l00In (n_0 : Int) (low_1 : Int) (high_2 : Int)   : Fn prog 74 [.i .i64 n_0, .i .i64 low_1, .i .i64 high_2] (.b (v_spec_l00In n_0 low_1 high_2)) [] := by
 cases h0 : (decide (n_0 ≥ low_1)) with
 | true =>
  exact Fn.cast (CallSt.fn (callSt_of_evK (E := E0) E0Ok hMixed (c := bodyOf f74) (rows := []) (r := .b (decide (n_0 ≤ high_2))) (rows' := [])
   (ans := [.bo true, .bo true, .bo true, .bo true, .keep []])
   (ps := [])
   (C := [(decide (n_0 ≥ low_1)) = true,
    (decide (n_0 ≥ low_1)) = true,
    (decide (n_0 ≥ low_1)) = true,
    (decide (n_0 ≥ low_1)) = true])
   func74 rfl (by kernel_rfl) (by kernel_rfl)
   ⟨h0, h0, h0, h0, trivial⟩) rfl) (by simp only [v_spec_l00In, h0, cond_true]) rfl
 | false =>
  exact Fn.cast (CallSt.fn (callSt_of_evK (E := E0) E0Ok hMixed (c := bodyOf f74) (rows := []) (r := .b false) (rows' := [])
   (ans := [.bo false, .bo false, .bo false, .bo false, .keep []])
   (ps := [])
   (C := [(decide (n_0 ≥ low_1)) = false,
    (decide (n_0 ≥ low_1)) = false,
    (decide (n_0 ≥ low_1)) = false,
    (decide (n_0 ≥ low_1)) = false])
   func74 rfl (by kernel_rfl) (by kernel_rfl)
   ⟨h0, h0, h0, h0, trivial⟩) rfl) (by simp only [v_spec_l00In, h0, cond_false]) rfl

theorem in_ok {x : Int} {n : Nat} (hn : n ≤ 9223372036854775807) (h : v_spec_l00In x 0 (IntKind.wrap .i64 ((n : Int) - 1)) = true) : 0 ≤ x ∧ x < (n : Int) := by
  unfold v_spec_l00In at h
  rw [wrap_id (n := (n : Int) - 1) (by omega) (by omega)] at h
  by_cases h1 : x ≥ 0 <;> simp [h1] at h
  omega

def v_spec_l02Triangle (t_0 : (List Int)) (n_1 : Int) : Bool := (cond ((t_0.length : Int) != 3)
  false
  (cond ((t_0.getD 0 default) == (t_0.getD 1 default))
    false
    (cond ((t_0.getD 1 default) == (t_0.getD 2 default))
      false
      (cond ((t_0.getD 0 default) == (t_0.getD 2 default))
        false
        (cond (v_spec_l00In (t_0.getD 0 default) 0 (IntKind.wrap .i64 (n_1 - 1)))
          (cond (v_spec_l00In (t_0.getD 1 default) 0 (IntKind.wrap .i64 (n_1 - 1)))
            (v_spec_l00In (t_0.getD 2 default) 0 (IntKind.wrap .i64 (n_1 - 1)))
            false)
          false)))))

theorem t_spec_l02Triangle (t_0 : (List Int)) (n_1 : Int) (hp0 : t_0.length ≤ 1073741824)  : Fn prog 132 [.sl (t_0.map (cI .i64)), .i .i64 n_1] (.b (v_spec_l02Triangle t_0 n_1)) [] := by
 cases h0 : ((t_0.length : Int) != 3) with
 | true =>
  exact Fn.cast (CallSt.fn (callSt_of_evK (E := E0) E0Ok hMixed (c := bodyOf f132) (rows := []) (r := .b false) (rows' := [])
   (ans := [.keep [28, 28], .num (t_0.length : Int), .bo true, .bo true, .bo true, .bo true, .bo true, .bo true, .bo true, .bo true, .bo true, .bo true, .bo true, .bo true, .bo true, .bo true, .bo true, .bo true, .bo true, .bo true, .bo true, .bo true, .bo true, .bo true, .bo true, .bo true, .bo true, .keep []])
   (ps := [])
   (C := [(((t_0.map (cI .i64)).length : Nat) : Int) = (t_0.length : Int),
    ((t_0.length : Int) != 3) = true,
    ((t_0.length : Int) != 3) = true,
    ((t_0.length : Int) != 3) = true,
    ((t_0.length : Int) != 3) = true,
    ((t_0.length : Int) != 3) = true,
    ((t_0.length : Int) != 3) = true,
    ((t_0.length : Int) != 3) = true,
    ((t_0.length : Int) != 3) = true,
    true = true,
    true = true,
    true = true,
    true = true,
    true = true,
    true = true,
    true = true,
    true = true,
    true = true,
    true = true,
    true = true,
    true = true,
    true = true,
    true = true,
    true = true,
    true = true,
    true = true])
   func132 rfl (by kernel_rfl) (by kernel_rfl)
   ⟨len_ok, h0, h0, h0, h0, h0, h0, h0, h0, rfl, rfl, rfl, rfl, rfl, rfl, rfl, rfl, rfl, rfl, rfl, rfl, rfl, rfl, rfl, rfl, rfl, trivial⟩) rfl) (by simp only [v_spec_l02Triangle, h0, cond_true]) rfl
 | false =>
  cases h1 : ((t_0.getD 0 default) == (t_0.getD 1 default)) with
  | true =>
   exact Fn.cast (CallSt.fn (callSt_of_evK (E := E0) E0Ok hMixed (c := bodyOf f132) (rows := []) (r := .b false) (rows' := [])
    (ans := [.keep [28, 28], .num (t_0.length : Int), .bo false, .bo false, .el [.i .i64 (t_0.getD 0 default)], .bo false, .bo false, .bo false, .el [.i .i64 (t_0.getD 1 default)], .bo false, .bo false, .bo false, .bo true, .bo true, .bo true, .bo true, .bo true, .bo true, .bo true, .bo true, .bo true, .bo true, .bo true, .bo true, .bo true, .bo true, .bo true, .bo true, .bo true, .keep []])
    (ps := [])
    (C := [(((t_0.map (cI .i64)).length : Nat) : Int) = (t_0.length : Int),
     ((t_0.length : Int) != 3) = false,
     ((t_0.length : Int) != 3) = false,
     0 ≤ 0 ∧ (t_0.map (cI .i64))[Int.toNat 0]? = some [.i .i64 (t_0.getD 0 default)],
     ((t_0.length : Int) != 3) = false,
     ((t_0.length : Int) != 3) = false,
     ((t_0.length : Int) != 3) = false,
     0 ≤ 1 ∧ (t_0.map (cI .i64))[Int.toNat 1]? = some [.i .i64 (t_0.getD 1 default)],
     ((t_0.length : Int) != 3) = false,
     ((t_0.length : Int) != 3) = false,
     ((t_0.length : Int) != 3) = false,
     ((t_0.getD 0 default) == (t_0.getD 1 default)) = true,
     ((t_0.getD 0 default) == (t_0.getD 1 default)) = true,
     ((t_0.getD 0 default) == (t_0.getD 1 default)) = true,
     ((t_0.getD 0 default) == (t_0.getD 1 default)) = true,
     ((t_0.getD 0 default) == (t_0.getD 1 default)) = true,
     ((t_0.getD 0 default) == (t_0.getD 1 default)) = true,
     ((t_0.getD 0 default) == (t_0.getD 1 default)) = true,
     ((t_0.getD 0 default) == (t_0.getD 1 default)) = true,
     true = true,
     true = true,
     true = true,
     true = true,
     true = true,
     true = true,
     true = true,
     true = true,
     true = true])
    func132 rfl (by kernel_rfl) (by kernel_rfl)
    ⟨len_ok, h0, h0, (get_ok (by first | assumption | omega | (simp_all <;> omega)) (by first | assumption | omega | (simp_all <;> omega))), h0, h0, h0, (get_ok (by first | assumption | omega | (simp_all <;> omega)) (by first | assumption | omega | (simp_all <;> omega))), h0, h0, h0, h1, h1, h1, h1, h1, h1, h1, h1, rfl, rfl, rfl, rfl, rfl, rfl, rfl, rfl, rfl, trivial⟩) rfl) (by simp only [v_spec_l02Triangle, h0, h1, cond_true, cond_false]) rfl
  | false =>
   cases h2 : ((t_0.getD 1 default) == (t_0.getD 2 default)) with
   | true =>
    exact Fn.cast (CallSt.fn (callSt_of_evK (E := E0) E0Ok hMixed (c := bodyOf f132) (rows := []) (r := .b false) (rows' := [])
     (ans := [.keep [28, 28], .num (t_0.length : Int), .bo false, .bo false, .el [.i .i64 (t_0.getD 0 default)], .bo false, .bo false, .bo false, .el [.i .i64 (t_0.getD 1 default)], .bo false, .bo false, .bo false, .bo false, .bo false, .el [.i .i64 (t_0.getD 1 default)], .bo false, .bo false, .bo false, .el [.i .i64 (t_0.getD 2 default)], .bo false, .bo false, .bo false, .bo true, .bo true, .bo true, .bo true, .bo true, .bo true, .bo true, .bo true, .bo true, .keep []])
     (ps := [])
     (C := [(((t_0.map (cI .i64)).length : Nat) : Int) = (t_0.length : Int),
      ((t_0.length : Int) != 3) = false,
      ((t_0.length : Int) != 3) = false,
      0 ≤ 0 ∧ (t_0.map (cI .i64))[Int.toNat 0]? = some [.i .i64 (t_0.getD 0 default)],
      ((t_0.length : Int) != 3) = false,
      ((t_0.length : Int) != 3) = false,
      ((t_0.length : Int) != 3) = false,
      0 ≤ 1 ∧ (t_0.map (cI .i64))[Int.toNat 1]? = some [.i .i64 (t_0.getD 1 default)],
      ((t_0.length : Int) != 3) = false,
      ((t_0.length : Int) != 3) = false,
      ((t_0.length : Int) != 3) = false,
      ((t_0.getD 0 default) == (t_0.getD 1 default)) = false,
      ((t_0.getD 0 default) == (t_0.getD 1 default)) = false,
      0 ≤ 1 ∧ (t_0.map (cI .i64))[Int.toNat 1]? = some [.i .i64 (t_0.getD 1 default)],
      ((t_0.getD 0 default) == (t_0.getD 1 default)) = false,
      ((t_0.getD 0 default) == (t_0.getD 1 default)) = false,
      ((t_0.getD 0 default) == (t_0.getD 1 default)) = false,
      0 ≤ 2 ∧ (t_0.map (cI .i64))[Int.toNat 2]? = some [.i .i64 (t_0.getD 2 default)],
      ((t_0.getD 0 default) == (t_0.getD 1 default)) = false,
      ((t_0.getD 0 default) == (t_0.getD 1 default)) = false,
      ((t_0.getD 0 default) == (t_0.getD 1 default)) = false,
      ((t_0.getD 1 default) == (t_0.getD 2 default)) = true,
      ((t_0.getD 1 default) == (t_0.getD 2 default)) = true,
      ((t_0.getD 1 default) == (t_0.getD 2 default)) = true,
      ((t_0.getD 1 default) == (t_0.getD 2 default)) = true,
      ((t_0.getD 1 default) == (t_0.getD 2 default)) = true,
      ((t_0.getD 1 default) == (t_0.getD 2 default)) = true,
      ((t_0.getD 1 default) == (t_0.getD 2 default)) = true,
      ((t_0.getD 1 default) == (t_0.getD 2 default)) = true,
      true = true])
     func132 rfl (by kernel_rfl) (by kernel_rfl)
     ⟨len_ok, h0, h0, (get_ok (by first | assumption | omega | (simp_all <;> omega)) (by first | assumption | omega | (simp_all <;> omega))), h0, h0, h0, (get_ok (by first | assumption | omega | (simp_all <;> omega)) (by first | assumption | omega | (simp_all <;> omega))), h0, h0, h0, h1, h1, (get_ok (by first | assumption | omega | (simp_all <;> omega)) (by first | assumption | omega | (simp_all <;> omega))), h1, h1, h1, (get_ok (by first | assumption | omega | (simp_all <;> omega)) (by first | assumption | omega | (simp_all <;> omega))), h1, h1, h1, h2, h2, h2, h2, h2, h2, h2, h2, rfl, trivial⟩) rfl) (by simp only [v_spec_l02Triangle, h0, h1, h2, cond_true, cond_false]) rfl
   | false =>
    cases h3 : ((t_0.getD 0 default) == (t_0.getD 2 default)) with
    | true =>
     exact Fn.cast (CallSt.fn (callSt_of_evK (E := E0) E0Ok hMixed (c := bodyOf f132) (rows := []) (r := .b false) (rows' := [])
      (ans := [.keep [28, 28], .num (t_0.length : Int), .bo false, .bo false, .el [.i .i64 (t_0.getD 0 default)], .bo false, .bo false, .bo false, .el [.i .i64 (t_0.getD 1 default)], .bo false, .bo false, .bo false, .bo false, .bo false, .el [.i .i64 (t_0.getD 1 default)], .bo false, .bo false, .bo false, .el [.i .i64 (t_0.getD 2 default)], .bo false, .bo false, .bo false, .bo false, .bo false, .el [.i .i64 (t_0.getD 0 default)], .bo false, .bo false, .bo false, .el [.i .i64 (t_0.getD 2 default)], .bo false, .bo false, .bo false, .bo true, .keep []])
      (ps := [])
      (C := [(((t_0.map (cI .i64)).length : Nat) : Int) = (t_0.length : Int),
       ((t_0.length : Int) != 3) = false,
       ((t_0.length : Int) != 3) = false,
       0 ≤ 0 ∧ (t_0.map (cI .i64))[Int.toNat 0]? = some [.i .i64 (t_0.getD 0 default)],
       ((t_0.length : Int) != 3) = false,
       ((t_0.length : Int) != 3) = false,
       ((t_0.length : Int) != 3) = false,
       0 ≤ 1 ∧ (t_0.map (cI .i64))[Int.toNat 1]? = some [.i .i64 (t_0.getD 1 default)],
       ((t_0.length : Int) != 3) = false,
       ((t_0.length : Int) != 3) = false,
       ((t_0.length : Int) != 3) = false,
       ((t_0.getD 0 default) == (t_0.getD 1 default)) = false,
       ((t_0.getD 0 default) == (t_0.getD 1 default)) = false,
       0 ≤ 1 ∧ (t_0.map (cI .i64))[Int.toNat 1]? = some [.i .i64 (t_0.getD 1 default)],
       ((t_0.getD 0 default) == (t_0.getD 1 default)) = false,
       ((t_0.getD 0 default) == (t_0.getD 1 default)) = false,
       ((t_0.getD 0 default) == (t_0.getD 1 default)) = false,
       0 ≤ 2 ∧ (t_0.map (cI .i64))[Int.toNat 2]? = some [.i .i64 (t_0.getD 2 default)],
       ((t_0.getD 0 default) == (t_0.getD 1 default)) = false,
       ((t_0.getD 0 default) == (t_0.getD 1 default)) = false,
       ((t_0.getD 0 default) == (t_0.getD 1 default)) = false,
       ((t_0.getD 1 default) == (t_0.getD 2 default)) = false,
       ((t_0.getD 1 default) == (t_0.getD 2 default)) = false,
       0 ≤ 0 ∧ (t_0.map (cI .i64))[Int.toNat 0]? = some [.i .i64 (t_0.getD 0 default)],
       ((t_0.getD 1 default) == (t_0.getD 2 default)) = false,
       ((t_0.getD 1 default) == (t_0.getD 2 default)) = false,
       ((t_0.getD 1 default) == (t_0.getD 2 default)) = false,
       0 ≤ 2 ∧ (t_0.map (cI .i64))[Int.toNat 2]? = some [.i .i64 (t_0.getD 2 default)],
       ((t_0.getD 1 default) == (t_0.getD 2 default)) = false,
       ((t_0.getD 1 default) == (t_0.getD 2 default)) = false,
       ((t_0.getD 1 default) == (t_0.getD 2 default)) = false,
       ((t_0.getD 0 default) == (t_0.getD 2 default)) = true])
      func132 rfl (by kernel_rfl) (by kernel_rfl)
      ⟨len_ok, h0, h0, (get_ok (by first | assumption | omega | (simp_all <;> omega)) (by first | assumption | omega | (simp_all <;> omega))), h0, h0, h0, (get_ok (by first | assumption | omega | (simp_all <;> omega)) (by first | assumption | omega | (simp_all <;> omega))), h0, h0, h0, h1, h1, (get_ok (by first | assumption | omega | (simp_all <;> omega)) (by first | assumption | omega | (simp_all <;> omega))), h1, h1, h1, (get_ok (by first | assumption | omega | (simp_all <;> omega)) (by first | assumption | omega | (simp_all <;> omega))), h1, h1, h1, h2, h2, (get_ok (by first | assumption | omega | (simp_all <;> omega)) (by first | assumption | omega | (simp_all <;> omega))), h2, h2, h2, (get_ok (by first | assumption | omega | (simp_all <;> omega)) (by first | assumption | omega | (simp_all <;> omega))), h2, h2, h2, h3, trivial⟩) rfl) (by simp only [v_spec_l02Triangle, h0, h1, h2, h3, cond_true, cond_false]) rfl
    | false =>
     cases h4 : (v_spec_l00In (t_0.getD 0 default) 0 (IntKind.wrap .i64 (n_1 - 1))) with
     | true =>
      cases h5 : (v_spec_l00In (t_0.getD 1 default) 0 (IntKind.wrap .i64 (n_1 - 1))) with
      | true =>
       exact Fn.cast (CallSt.fn (callSt_of_evK (E := E0) E0Ok hMixed (c := bodyOf f132) (rows := []) (r := .b (v_spec_l00In (t_0.getD 2 default) 0 (IntKind.wrap .i64 (n_1 - 1)))) (rows' := [])
        (ans := [.keep [28, 28], .num (t_0.length : Int), .bo false, .bo false, .el [.i .i64 (t_0.getD 0 default)], .bo false, .bo false, .bo false, .el [.i .i64 (t_0.getD 1 default)], .bo false, .bo false, .bo false, .bo false, .bo false, .el [.i .i64 (t_0.getD 1 default)], .bo false, .bo false, .bo false, .el [.i .i64 (t_0.getD 2 default)], .bo false, .bo false, .bo false, .bo false, .bo false, .el [.i .i64 (t_0.getD 0 default)], .bo false, .bo false, .bo false, .el [.i .i64 (t_0.getD 2 default)], .bo false, .bo false, .bo false, .bo false, .el [.i .i64 (t_0.getD 0 default)], .num (IntKind.wrap .i64 (n_1 - 1)), .call (.b (v_spec_l00In (t_0.getD 0 default) 0 (IntKind.wrap .i64 (n_1 - 1)))) [], .bo true, .bo true, .el [.i .i64 (t_0.getD 1 default)], .bo true, .bo true, .bo true, .num (IntKind.wrap .i64 (n_1 - 1)), .bo true, .call (.b (v_spec_l00In (t_0.getD 1 default) 0 (IntKind.wrap .i64 (n_1 - 1)))) [], .bo true, .bo true, .bo true, .el [.i .i64 (t_0.getD 2 default)], .bo true, .bo true, .bo true, .num (IntKind.wrap .i64 (n_1 - 1)), .bo true, .call (.b (v_spec_l00In (t_0.getD 2 default) 0 (IntKind.wrap .i64 (n_1 - 1)))) [], .bo true, .keep []])
        (ps := [])
        (C := [(((t_0.map (cI .i64)).length : Nat) : Int) = (t_0.length : Int),
         ((t_0.length : Int) != 3) = false,
         ((t_0.length : Int) != 3) = false,
         0 ≤ 0 ∧ (t_0.map (cI .i64))[Int.toNat 0]? = some [.i .i64 (t_0.getD 0 default)],
         ((t_0.length : Int) != 3) = false,
         ((t_0.length : Int) != 3) = false,
         ((t_0.length : Int) != 3) = false,
         0 ≤ 1 ∧ (t_0.map (cI .i64))[Int.toNat 1]? = some [.i .i64 (t_0.getD 1 default)],
         ((t_0.length : Int) != 3) = false,
         ((t_0.length : Int) != 3) = false,
         ((t_0.length : Int) != 3) = false,
         ((t_0.getD 0 default) == (t_0.getD 1 default)) = false,
         ((t_0.getD 0 default) == (t_0.getD 1 default)) = false,
         0 ≤ 1 ∧ (t_0.map (cI .i64))[Int.toNat 1]? = some [.i .i64 (t_0.getD 1 default)],
         ((t_0.getD 0 default) == (t_0.getD 1 default)) = false,
         ((t_0.getD 0 default) == (t_0.getD 1 default)) = false,
         ((t_0.getD 0 default) == (t_0.getD 1 default)) = false,
         0 ≤ 2 ∧ (t_0.map (cI .i64))[Int.toNat 2]? = some [.i .i64 (t_0.getD 2 default)],
         ((t_0.getD 0 default) == (t_0.getD 1 default)) = false,
         ((t_0.getD 0 default) == (t_0.getD 1 default)) = false,
         ((t_0.getD 0 default) == (t_0.getD 1 default)) = false,
         ((t_0.getD 1 default) == (t_0.getD 2 default)) = false,
         ((t_0.getD 1 default) == (t_0.getD 2 default)) = false,
         0 ≤ 0 ∧ (t_0.map (cI .i64))[Int.toNat 0]? = some [.i .i64 (t_0.getD 0 default)],
         ((t_0.getD 1 default) == (t_0.getD 2 default)) = false,
         ((t_0.getD 1 default) == (t_0.getD 2 default)) = false,
         ((t_0.getD 1 default) == (t_0.getD 2 default)) = false,
         0 ≤ 2 ∧ (t_0.map (cI .i64))[Int.toNat 2]? = some [.i .i64 (t_0.getD 2 default)],
         ((t_0.getD 1 default) == (t_0.getD 2 default)) = false,
         ((t_0.getD 1 default) == (t_0.getD 2 default)) = false,
         ((t_0.getD 1 default) == (t_0.getD 2 default)) = false,
         ((t_0.getD 0 default) == (t_0.getD 2 default)) = false,
         0 ≤ 0 ∧ (t_0.map (cI .i64))[Int.toNat 0]? = some [.i .i64 (t_0.getD 0 default)],
         IntKind.wrap .i64 (n_1 - 1) = (IntKind.wrap .i64 (n_1 - 1)),
         Fn prog 74 [.i .i64 (t_0.getD 0 default), .i .i64 0, .i .i64 (IntKind.wrap .i64 (n_1 - 1))] (.b (v_spec_l00In (t_0.getD 0 default) 0 (IntKind.wrap .i64 (n_1 - 1)))) [],
         (v_spec_l00In (t_0.getD 0 default) 0 (IntKind.wrap .i64 (n_1 - 1))) = true,
         (v_spec_l00In (t_0.getD 0 default) 0 (IntKind.wrap .i64 (n_1 - 1))) = true,
         0 ≤ 1 ∧ (t_0.map (cI .i64))[Int.toNat 1]? = some [.i .i64 (t_0.getD 1 default)],
         (v_spec_l00In (t_0.getD 0 default) 0 (IntKind.wrap .i64 (n_1 - 1))) = true,
         (v_spec_l00In (t_0.getD 0 default) 0 (IntKind.wrap .i64 (n_1 - 1))) = true,
         (v_spec_l00In (t_0.getD 0 default) 0 (IntKind.wrap .i64 (n_1 - 1))) = true,
         IntKind.wrap .i64 (n_1 - 1) = (IntKind.wrap .i64 (n_1 - 1)),
         (v_spec_l00In (t_0.getD 0 default) 0 (IntKind.wrap .i64 (n_1 - 1))) = true,
         Fn prog 74 [.i .i64 (t_0.getD 1 default), .i .i64 0, .i .i64 (IntKind.wrap .i64 (n_1 - 1))] (.b (v_spec_l00In (t_0.getD 1 default) 0 (IntKind.wrap .i64 (n_1 - 1)))) [],
         (v_spec_l00In (t_0.getD 0 default) 0 (IntKind.wrap .i64 (n_1 - 1))) = true,
         (v_spec_l00In (t_0.getD 1 default) 0 (IntKind.wrap .i64 (n_1 - 1))) = true,
         (v_spec_l00In (t_0.getD 1 default) 0 (IntKind.wrap .i64 (n_1 - 1))) = true,
         0 ≤ 2 ∧ (t_0.map (cI .i64))[Int.toNat 2]? = some [.i .i64 (t_0.getD 2 default)],
         (v_spec_l00In (t_0.getD 1 default) 0 (IntKind.wrap .i64 (n_1 - 1))) = true,
         (v_spec_l00In (t_0.getD 1 default) 0 (IntKind.wrap .i64 (n_1 - 1))) = true,
         (v_spec_l00In (t_0.getD 1 default) 0 (IntKind.wrap .i64 (n_1 - 1))) = true,
         IntKind.wrap .i64 (n_1 - 1) = (IntKind.wrap .i64 (n_1 - 1)),
         (v_spec_l00In (t_0.getD 1 default) 0 (IntKind.wrap .i64 (n_1 - 1))) = true,
         Fn prog 74 [.i .i64 (t_0.getD 2 default), .i .i64 0, .i .i64 (IntKind.wrap .i64 (n_1 - 1))] (.b (v_spec_l00In (t_0.getD 2 default) 0 (IntKind.wrap .i64 (n_1 - 1)))) [],
         (v_spec_l00In (t_0.getD 1 default) 0 (IntKind.wrap .i64 (n_1 - 1))) = true])
        func132 rfl (by kernel_rfl) (by kernel_rfl)
        ⟨len_ok, h0, h0, (get_ok (by first | assumption | omega | (simp_all <;> omega)) (by first | assumption | omega | (simp_all <;> omega))), h0, h0, h0, (get_ok (by first | assumption | omega | (simp_all <;> omega)) (by first | assumption | omega | (simp_all <;> omega))), h0, h0, h0, h1, h1, (get_ok (by first | assumption | omega | (simp_all <;> omega)) (by first | assumption | omega | (simp_all <;> omega))), h1, h1, h1, (get_ok (by first | assumption | omega | (simp_all <;> omega)) (by first | assumption | omega | (simp_all <;> omega))), h1, h1, h1, h2, h2, (get_ok (by first | assumption | omega | (simp_all <;> omega)) (by first | assumption | omega | (simp_all <;> omega))), h2, h2, h2, (get_ok (by first | assumption | omega | (simp_all <;> omega)) (by first | assumption | omega | (simp_all <;> omega))), h2, h2, h2, h3, (get_ok (by first | assumption | omega | (simp_all <;> omega)) (by first | assumption | omega | (simp_all <;> omega))), rfl, (t_spec_l00In (t_0.getD 0 default) 0 (IntKind.wrap .i64 (n_1 - 1))), h4, h4, (get_ok (by first | assumption | omega | (simp_all <;> omega)) (by first | assumption | omega | (simp_all <;> omega))), h4, h4, h4, rfl, h4, (t_spec_l00In (t_0.getD 1 default) 0 (IntKind.wrap .i64 (n_1 - 1))), h4, h5, h5, (get_ok (by first | assumption | omega | (simp_all <;> omega)) (by first | assumption | omega | (simp_all <;> omega))), h5, h5, h5, rfl, h5, (t_spec_l00In (t_0.getD 2 default) 0 (IntKind.wrap .i64 (n_1 - 1))), h5, trivial⟩) rfl) (by simp only [v_spec_l02Triangle, h0, h1, h2, h3, h4, h5, cond_true, cond_false]) rfl
      | false =>
       exact Fn.cast (CallSt.fn (callSt_of_evK (E := E0) E0Ok hMixed (c := bodyOf f132) (rows := []) (r := .b false) (rows' := [])
        (ans := [.keep [28, 28], .num (t_0.length : Int), .bo false, .bo false, .el [.i .i64 (t_0.getD 0 default)], .bo false, .bo false, .bo false, .el [.i .i64 (t_0.getD 1 default)], .bo false, .bo false, .bo false, .bo false, .bo false, .el [.i .i64 (t_0.getD 1 default)], .bo false, .bo false, .bo false, .el [.i .i64 (t_0.getD 2 default)], .bo false, .bo false, .bo false, .bo false, .bo false, .el [.i .i64 (t_0.getD 0 default)], .bo false, .bo false, .bo false, .el [.i .i64 (t_0.getD 2 default)], .bo false, .bo false, .bo false, .bo false, .el [.i .i64 (t_0.getD 0 default)], .num (IntKind.wrap .i64 (n_1 - 1)), .call (.b (v_spec_l00In (t_0.getD 0 default) 0 (IntKind.wrap .i64 (n_1 - 1)))) [], .bo true, .bo true, .el [.i .i64 (t_0.getD 1 default)], .bo true, .bo true, .bo true, .num (IntKind.wrap .i64 (n_1 - 1)), .bo true, .call (.b (v_spec_l00In (t_0.getD 1 default) 0 (IntKind.wrap .i64 (n_1 - 1)))) [], .bo true, .bo false, .bo false, .bo false, .bo false, .bo false, .bo false, .bo false, .keep []])
        (ps := [])
        (C := [(((t_0.map (cI .i64)).length : Nat) : Int) = (t_0.length : Int),
         ((t_0.length : Int) != 3) = false,
         ((t_0.length : Int) != 3) = false,
         0 ≤ 0 ∧ (t_0.map (cI .i64))[Int.toNat 0]? = some [.i .i64 (t_0.getD 0 default)],
         ((t_0.length : Int) != 3) = false,
         ((t_0.length : Int) != 3) = false,
         ((t_0.length : Int) != 3) = false,
         0 ≤ 1 ∧ (t_0.map (cI .i64))[Int.toNat 1]? = some [.i .i64 (t_0.getD 1 default)],
         ((t_0.length : Int) != 3) = false,
         ((t_0.length : Int) != 3) = false,
         ((t_0.length : Int) != 3) = false,
         ((t_0.getD 0 default) == (t_0.getD 1 default)) = false,
         ((t_0.getD 0 default) == (t_0.getD 1 default)) = false,
         0 ≤ 1 ∧ (t_0.map (cI .i64))[Int.toNat 1]? = some [.i .i64 (t_0.getD 1 default)],
         ((t_0.getD 0 default) == (t_0.getD 1 default)) = false,
         ((t_0.getD 0 default) == (t_0.getD 1 default)) = false,
         ((t_0.getD 0 default) == (t_0.getD 1 default)) = false,
         0 ≤ 2 ∧ (t_0.map (cI .i64))[Int.toNat 2]? = some [.i .i64 (t_0.getD 2 default)],
         ((t_0.getD 0 default) == (t_0.getD 1 default)) = false,
         ((t_0.getD 0 default) == (t_0.getD 1 default)) = false,
         ((t_0.getD 0 default) == (t_0.getD 1 default)) = false,
         ((t_0.getD 1 default) == (t_0.getD 2 default)) = false,
         ((t_0.getD 1 default) == (t_0.getD 2 default)) = false,
         0 ≤ 0 ∧ (t_0.map (cI .i64))[Int.toNat 0]? = some [.i .i64 (t_0.getD 0 default)],
         ((t_0.getD 1 default) == (t_0.getD 2 default)) = false,
         ((t_0.getD 1 default) == (t_0.getD 2 default)) = false,
         ((t_0.getD 1 default) == (t_0.getD 2 default)) = false,
         0 ≤ 2 ∧ (t_0.map (cI .i64))[Int.toNat 2]? = some [.i .i64 (t_0.getD 2 default)],
         ((t_0.getD 1 default) == (t_0.getD 2 default)) = false,
         ((t_0.getD 1 default) == (t_0.getD 2 default)) = false,
         ((t_0.getD 1 default) == (t_0.getD 2 default)) = false,
         ((t_0.getD 0 default) == (t_0.getD 2 default)) = false,
         0 ≤ 0 ∧ (t_0.map (cI .i64))[Int.toNat 0]? = some [.i .i64 (t_0.getD 0 default)],
         IntKind.wrap .i64 (n_1 - 1) = (IntKind.wrap .i64 (n_1 - 1)),
         Fn prog 74 [.i .i64 (t_0.getD 0 default), .i .i64 0, .i .i64 (IntKind.wrap .i64 (n_1 - 1))] (.b (v_spec_l00In (t_0.getD 0 default) 0 (IntKind.wrap .i64 (n_1 - 1)))) [],
         (v_spec_l00In (t_0.getD 0 default) 0 (IntKind.wrap .i64 (n_1 - 1))) = true,
         (v_spec_l00In (t_0.getD 0 default) 0 (IntKind.wrap .i64 (n_1 - 1))) = true,
         0 ≤ 1 ∧ (t_0.map (cI .i64))[Int.toNat 1]? = some [.i .i64 (t_0.getD 1 default)],
         (v_spec_l00In (t_0.getD 0 default) 0 (IntKind.wrap .i64 (n_1 - 1))) = true,
         (v_spec_l00In (t_0.getD 0 default) 0 (IntKind.wrap .i64 (n_1 - 1))) = true,
         (v_spec_l00In (t_0.getD 0 default) 0 (IntKind.wrap .i64 (n_1 - 1))) = true,
         IntKind.wrap .i64 (n_1 - 1) = (IntKind.wrap .i64 (n_1 - 1)),
         (v_spec_l00In (t_0.getD 0 default) 0 (IntKind.wrap .i64 (n_1 - 1))) = true,
         Fn prog 74 [.i .i64 (t_0.getD 1 default), .i .i64 0, .i .i64 (IntKind.wrap .i64 (n_1 - 1))] (.b (v_spec_l00In (t_0.getD 1 default) 0 (IntKind.wrap .i64 (n_1 - 1)))) [],
         (v_spec_l00In (t_0.getD 0 default) 0 (IntKind.wrap .i64 (n_1 - 1))) = true,
         (v_spec_l00In (t_0.getD 1 default) 0 (IntKind.wrap .i64 (n_1 - 1))) = false,
         (v_spec_l00In (t_0.getD 1 default) 0 (IntKind.wrap .i64 (n_1 - 1))) = false,
         (v_spec_l00In (t_0.getD 1 default) 0 (IntKind.wrap .i64 (n_1 - 1))) = false,
         (v_spec_l00In (t_0.getD 1 default) 0 (IntKind.wrap .i64 (n_1 - 1))) = false,
         (v_spec_l00In (t_0.getD 1 default) 0 (IntKind.wrap .i64 (n_1 - 1))) = false,
         (v_spec_l00In (t_0.getD 1 default) 0 (IntKind.wrap .i64 (n_1 - 1))) = false,
         (v_spec_l00In (t_0.getD 1 default) 0 (IntKind.wrap .i64 (n_1 - 1))) = false])
        func132 rfl (by kernel_rfl) (by kernel_rfl)
        ⟨len_ok, h0, h0, (get_ok (by first | assumption | omega | (simp_all <;> omega)) (by first | assumption | omega | (simp_all <;> omega))), h0, h0, h0, (get_ok (by first | assumption | omega | (simp_all <;> omega)) (by first | assumption | omega | (simp_all <;> omega))), h0, h0, h0, h1, h1, (get_ok (by first | assumption | omega | (simp_all <;> omega)) (by first | assumption | omega | (simp_all <;> omega))), h1, h1, h1, (get_ok (by first | assumption | omega | (simp_all <;> omega)) (by first | assumption | omega | (simp_all <;> omega))), h1, h1, h1, h2, h2, (get_ok (by first | assumption | omega | (simp_all <;> omega)) (by first | assumption | omega | (simp_all <;> omega))), h2, h2, h2, (get_ok (by first | assumption | omega | (simp_all <;> omega)) (by first | assumption | omega | (simp_all <;> omega))), h2, h2, h2, h3, (get_ok (by first | assumption | omega | (simp_all <;> omega)) (by first | assumption | omega | (simp_all <;> omega))), rfl, (t_spec_l00In (t_0.getD 0 default) 0 (IntKind.wrap .i64 (n_1 - 1))), h4, h4, (get_ok (by first | assumption | omega | (simp_all <;> omega)) (by first | assumption | omega | (simp_all <;> omega))), h4, h4, h4, rfl, h4, (t_spec_l00In (t_0.getD 1 default) 0 (IntKind.wrap .i64 (n_1 - 1))), h4, h5, h5, h5, h5, h5, h5, h5, trivial⟩) rfl) (by simp only [v_spec_l02Triangle, h0, h1, h2, h3, h4, h5, cond_true, cond_false]) rfl
     | false =>
      exact Fn.cast (CallSt.fn (callSt_of_evK (E := E0) E0Ok hMixed (c := bodyOf f132) (rows := []) (r := .b false) (rows' := [])
       (ans := [.keep [28, 28], .num (t_0.length : Int), .bo false, .bo false, .el [.i .i64 (t_0.getD 0 default)], .bo false, .bo false, .bo false, .el [.i .i64 (t_0.getD 1 default)], .bo false, .bo false, .bo false, .bo false, .bo false, .el [.i .i64 (t_0.getD 1 default)], .bo false, .bo false, .bo false, .el [.i .i64 (t_0.getD 2 default)], .bo false, .bo false, .bo false, .bo false, .bo false, .el [.i .i64 (t_0.getD 0 default)], .bo false, .bo false, .bo false, .el [.i .i64 (t_0.getD 2 default)], .bo false, .bo false, .bo false, .bo false, .el [.i .i64 (t_0.getD 0 default)], .num (IntKind.wrap .i64 (n_1 - 1)), .call (.b (v_spec_l00In (t_0.getD 0 default) 0 (IntKind.wrap .i64 (n_1 - 1)))) [], .bo false, .bo false, .bo false, .bo false, .bo false, .bo false, .bo false, .bo false, .bo false, .bo false, .bo false, .bo false, .bo false, .bo false, .keep []])
       (ps := [])
       (C := [(((t_0.map (cI .i64)).length : Nat) : Int) = (t_0.length : Int),
        ((t_0.length : Int) != 3) = false,
        ((t_0.length : Int) != 3) = false,
        0 ≤ 0 ∧ (t_0.map (cI .i64))[Int.toNat 0]? = some [.i .i64 (t_0.getD 0 default)],
        ((t_0.length : Int) != 3) = false,
        ((t_0.length : Int) != 3) = false,
        ((t_0.length : Int) != 3) = false,
        0 ≤ 1 ∧ (t_0.map (cI .i64))[Int.toNat 1]? = some [.i .i64 (t_0.getD 1 default)],
        ((t_0.length : Int) != 3) = false,
        ((t_0.length : Int) != 3) = false,
        ((t_0.length : Int) != 3) = false,
        ((t_0.getD 0 default) == (t_0.getD 1 default)) = false,
        ((t_0.getD 0 default) == (t_0.getD 1 default)) = false,
        0 ≤ 1 ∧ (t_0.map (cI .i64))[Int.toNat 1]? = some [.i .i64 (t_0.getD 1 default)],
        ((t_0.getD 0 default) == (t_0.getD 1 default)) = false,
        ((t_0.getD 0 default) == (t_0.getD 1 default)) = false,
        ((t_0.getD 0 default) == (t_0.getD 1 default)) = false,
        0 ≤ 2 ∧ (t_0.map (cI .i64))[Int.toNat 2]? = some [.i .i64 (t_0.getD 2 default)],
        ((t_0.getD 0 default) == (t_0.getD 1 default)) = false,
        ((t_0.getD 0 default) == (t_0.getD 1 default)) = false,
        ((t_0.getD 0 default) == (t_0.getD 1 default)) = false,
        ((t_0.getD 1 default) == (t_0.getD 2 default)) = false,
        ((t_0.getD 1 default) == (t_0.getD 2 default)) = false,
        0 ≤ 0 ∧ (t_0.map (cI .i64))[Int.toNat 0]? = some [.i .i64 (t_0.getD 0 default)],
        ((t_0.getD 1 default) == (t_0.getD 2 default)) = false,
        ((t_0.getD 1 default) == (t_0.getD 2 default)) = false,
        ((t_0.getD 1 default) == (t_0.getD 2 default)) = false,
        0 ≤ 2 ∧ (t_0.map (cI .i64))[Int.toNat 2]? = some [.i .i64 (t_0.getD 2 default)],
        ((t_0.getD 1 default) == (t_0.getD 2 default)) = false,
        ((t_0.getD 1 default) == (t_0.getD 2 default)) = false,
        ((t_0.getD 1 default) == (t_0.getD 2 default)) = false,
        ((t_0.getD 0 default) == (t_0.getD 2 default)) = false,
        0 ≤ 0 ∧ (t_0.map (cI .i64))[Int.toNat 0]? = some [.i .i64 (t_0.getD 0 default)],
        IntKind.wrap .i64 (n_1 - 1) = (IntKind.wrap .i64 (n_1 - 1)),
        Fn prog 74 [.i .i64 (t_0.getD 0 default), .i .i64 0, .i .i64 (IntKind.wrap .i64 (n_1 - 1))] (.b (v_spec_l00In (t_0.getD 0 default) 0 (IntKind.wrap .i64 (n_1 - 1)))) [],
        (v_spec_l00In (t_0.getD 0 default) 0 (IntKind.wrap .i64 (n_1 - 1))) = false,
        (v_spec_l00In (t_0.getD 0 default) 0 (IntKind.wrap .i64 (n_1 - 1))) = false,
        (v_spec_l00In (t_0.getD 0 default) 0 (IntKind.wrap .i64 (n_1 - 1))) = false,
        (v_spec_l00In (t_0.getD 0 default) 0 (IntKind.wrap .i64 (n_1 - 1))) = false,
        (v_spec_l00In (t_0.getD 0 default) 0 (IntKind.wrap .i64 (n_1 - 1))) = false,
        (v_spec_l00In (t_0.getD 0 default) 0 (IntKind.wrap .i64 (n_1 - 1))) = false,
        (v_spec_l00In (t_0.getD 0 default) 0 (IntKind.wrap .i64 (n_1 - 1))) = false,
        false = false,
        false = false,
        false = false,
        false = false,
        false = false,
        false = false,
        false = false])
       func132 rfl (by kernel_rfl) (by kernel_rfl)
       ⟨len_ok, h0, h0, (get_ok (by first | assumption | omega | (simp_all <;> omega)) (by first | assumption | omega | (simp_all <;> omega))), h0, h0, h0, (get_ok (by first | assumption | omega | (simp_all <;> omega)) (by first | assumption | omega | (simp_all <;> omega))), h0, h0, h0, h1, h1, (get_ok (by first | assumption | omega | (simp_all <;> omega)) (by first | assumption | omega | (simp_all <;> omega))), h1, h1, h1, (get_ok (by first | assumption | omega | (simp_all <;> omega)) (by first | assumption | omega | (simp_all <;> omega))), h1, h1, h1, h2, h2, (get_ok (by first | assumption | omega | (simp_all <;> omega)) (by first | assumption | omega | (simp_all <;> omega))), h2, h2, h2, (get_ok (by first | assumption | omega | (simp_all <;> omega)) (by first | assumption | omega | (simp_all <;> omega))), h2, h2, h2, h3, (get_ok (by first | assumption | omega | (simp_all <;> omega)) (by first | assumption | omega | (simp_all <;> omega))), rfl, (t_spec_l00In (t_0.getD 0 default) 0 (IntKind.wrap .i64 (n_1 - 1))), h4, h4, h4, h4, h4, h4, h4, rfl, rfl, rfl, rfl, rfl, rfl, rfl, trivial⟩) rfl) (by simp only [v_spec_l02Triangle, h0, h1, h2, h3, h4, cond_false]) rfl

end Go.Ab
