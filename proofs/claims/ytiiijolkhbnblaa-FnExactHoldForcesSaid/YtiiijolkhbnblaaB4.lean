/- The functions of this seat as plain Lean, and that the program's are these. Printed by a program of the prover's own. -/
import Derived.Test.YtiiijolkhbnblaaB3
set_option linter.unusedVariables false
set_option maxRecDepth 100000
namespace Go.Ab
open Go.RowKit Go.Proofs.Try

theorem ln_impl_HoldForces_1_0 (m_0 : GMesh) (holds_1 : (List GHold)) (forces_2 : (List GVector)) : ∀ (k : Nat) (x_l0 : Int) (r1_l1 : (List GVector)) (hk : ((holds_1.length : Int) - x_l0).toNat < k), (lo_impl_HoldForces_1 m_0 holds_1 forces_2 k x_l0 r1_l1).length = r1_l1.length := by
  intro k
  induction k with
  | zero => intro x_l0 r1_l1 hk; exact absurd hk (Nat.not_lt_zero _)
  | succ k ih =>
    intro x_l0 r1_l1 hk
    cases h_0 : (decide (x_l0 < (holds_1.length : Int))) with
    | true =>
      have e : lo_impl_HoldForces_1 m_0 holds_1 forces_2 (k + 1) x_l0 r1_l1 = (lo_impl_HoldForces_1 m_0 holds_1 forces_2 k (x_l0 + 1) (r1_l1.set (((holds_1.getD x_l0.toNat default).Place).toNat) (v_impl_holdForce (holds_1.getD x_l0.toNat default) (r1_l1.getD (((holds_1.getD x_l0.toNat default).Place).toNat) default)))) := by simp only [lo_impl_HoldForces_1, h_0, cond_true]
      rw [e, ih (x_l0 + 1) (r1_l1.set (((holds_1.getD x_l0.toNat default).Place).toNat) (v_impl_holdForce (holds_1.getD x_l0.toNat default) (r1_l1.getD (((holds_1.getD x_l0.toNat default).Place).toNat) default))) (by first | assumption | omega | (first | (have hi : x_l0 < (holds_1.length : Int) := of_decide_eq_true (by assumption); have h0 : 0 ≤ x_l0 := (by assumption); have q := OkIx.at (okH_is m_0 holds_1 (by rw [← eq_AreHolds]; assumption)).2.1 h0 hi; have e : forces_2.length = m_0.Places.length := (by simp at *; omega); simp only [List.nil_append] at *; omega)) | (simp at * <;> omega) | (simp_all <;> omega))]; simp
    | false =>
      have e : lo_impl_HoldForces_1 m_0 holds_1 forces_2 (k + 1) x_l0 r1_l1 = r1_l1 := by simp only [lo_impl_HoldForces_1, h_0, cond_false]
      first | (rw [e]; done) | (rw [e]; rfl)

def lr_impl_HoldForces_1_0 (m_0 : GMesh) (holds_1 : (List GHold)) (forces_2 : (List GVector)) : (List GVector) := (lo_impl_HoldForces_1 m_0 holds_1 forces_2 (((holds_1.length : Int) - 0).toNat + 1) 0 (([] : List GVector) ++ forces_2))

@[simp] theorem len_lr_impl_HoldForces_1_0_0 (m_0 : GMesh) (holds_1 : (List GHold)) (forces_2 : (List GVector)) : (lr_impl_HoldForces_1_0 m_0 holds_1 forces_2).length = ((([] : List GVector) ++ forces_2) : (List GVector)).length := ln_impl_HoldForces_1_0 m_0 holds_1 forces_2 (((holds_1.length : Int) - 0).toNat + 1) 0 (([] : List GVector) ++ forces_2) (by first | exact Nat.lt_succ_self _ | simp)

def v_impl_HoldForces (m_0 : GMesh) (holds_1 : (List GHold)) (forces_2 : (List GVector)) : (List GVector) × Bool := (cond (v_impl_AreHolds m_0 holds_1)
  (cond ((forces_2.length : Int) != (m_0.Places.length : Int))
    (([] : List GVector), false)
    ((lr_impl_HoldForces_1_0 m_0 holds_1 forces_2), true))
  (([] : List GVector), false))

theorem le_v_impl_HoldForces_0 (m_0 : GMesh) (holds_1 : (List GHold)) (forces_2 : (List GVector)) : (v_impl_HoldForces m_0 holds_1 forces_2).1.length ≤ (([] : List GVector) ++ forces_2).length := by
  cases h0 : (v_impl_AreHolds m_0 holds_1) with
  | true =>
    cases h1 : ((forces_2.length : Int) != (m_0.Places.length : Int)) with
    | true =>
      first | (simp [v_impl_HoldForces, h0, h1]; done)
    | false =>
      first | (simp [v_impl_HoldForces, h0, h1]; done)
  | false =>
    first | (simp [v_impl_HoldForces, h0]; done)

theorem t_impl_HoldForces (m_0 : GMesh) (holds_1 : (List GHold)) (forces_2 : (List GVector)) (hp0 : m_0.Places.length ≤ 1073741824) (hp1 : m_0.Triangles.length ≤ 1073741824) (hp2 : ∀ t ∈ m_0.Triangles, t.length ≤ 1073741824) (hp3 : holds_1.length ≤ 1073741824) (hp4 : forces_2.length ≤ 1073741824)  : Fn prog 39 [.agg [.sl (m_0.Places.map GVector.cells), .sl (m_0.Triangles.map (cL (cI .i64)))], .sl (holds_1.map GHold.cells), .sl (forces_2.map GVector.cells)] (.tup [.own 0, .b ((v_impl_HoldForces m_0 holds_1 forces_2).2)]) [.vec 44 3 (((v_impl_HoldForces m_0 holds_1 forces_2).1).map GVector.cells) false] := by
 have p {a C} (s : Scr a C) := sF (t_impl_AreHolds m_0 holds_1 hp0 hp1 hp2 hp3) <| s
 cases h0 : (v_impl_AreHolds m_0 holds_1) with
 | true =>
  have q {a C} (s : Scr a C) := p (sB' h0 <| sB' h0 <| sZ GVector.cells forces_2 <| sB' h0 <| sB' h0 <| sB' h0 <| sZ GVector.cells m_0.Places <| sB' h0 <| sB' h0 <| s)
  clear p
  cases h1 : ((forces_2.length : Int) != (m_0.Places.length : Int)) with
  | true =>
   refine fnS E0Ok hMixed (c := bodyOf f39) [(.tm 6, .vec 44 3 [] false)] (.tup [.own 0, .b false]) [.vec 44 3 [] false] func39 (q (sB h1 <| sK [1] sN)) rfl (by kernel_rfl) (by kernel_rfl) rfl ?_ ?_
   · simp only [v_impl_HoldForces, h0, h1, cond_true]
   · simp [v_impl_HoldForces, h0, h1, GVector.cells]
  | false =>
   have y0 : ([] : List GVector).length + forces_2.length ≤ 1073741824 := by clear q; exact (by first | assumption | omega | (first | (have hi : x_l0 < (holds_1.length : Int) := of_decide_eq_true (by assumption); have h0 : 0 ≤ x_l0 := (by assumption); have q := OkIx.at (okH_is m_0 holds_1 (by rw [← eq_AreHolds]; assumption)).2.1 h0 hi; have e : forces_2.length = m_0.Places.length := (by simp at *; omega); simp only [List.nil_append] at *; omega)) | (simp at * <;> omega) | (simp_all <;> omega))
   refine fnS E0Ok hMixed (c := bodyOf f39) [] (.tup [.own 0, .b true]) [.vec 44 3 ((lr_impl_HoldForces_1_0 m_0 holds_1 forces_2).map GVector.cells) false] func39 (q (sB h1 <| sC (show ([] : List (List AV)).length + (forces_2.map GVector.cells).length ≤ 1073741824 from (by simpa using y0)) <| sC (show (forces_2.map GVector.cells).all (fun cs => cs.length == 3 && cs.all isS) = true from (src_ok (fun _ => rfl))) <| sZ GHold.cells holds_1 <| sL mk_impl_HoldForces_1_0 2 (lp_cast (st2 := ⟨[.agg [.sl (m_0.Places.map GVector.cells), .sl (m_0.Triangles.map (cL (cI .i64)))], .sl (holds_1.map GHold.cells), .sl (forces_2.map GVector.cells), .ptr 0 0 0, .any, .any, .nils, .b false, .own 1, .any, .any, .agg [.sl (m_0.Places.map GVector.cells), .sl (m_0.Triangles.map (cL (cI .i64)))], .sl (holds_1.map GHold.cells), .b (v_impl_AreHolds m_0 holds_1), .b (!(v_impl_AreHolds m_0 holds_1)), .b (!(v_impl_AreHolds m_0 holds_1)), .sl (forces_2.map GVector.cells), .i .i64 (forces_2.length : Int), .ptr 0 0 0, .sl (m_0.Places.map GVector.cells), .i .i64 (m_0.Places.length : Int), .b ((forces_2.length : Int) != (m_0.Places.length : Int)), .b ((forces_2.length : Int) != (m_0.Places.length : Int)), .any, .sl (forces_2.map GVector.cells), .own 1, .sl (holds_1.map GHold.cells), .i .i64 (holds_1.length : Int), .i .i64 0, .any, .any, .any, .any, .any, .any, .any, .any, .any, .any, .any, .any, .any, .any, .any, .any], [.box 42 [.sl (m_0.Places.map GVector.cells), .sl (m_0.Triangles.map (cL (cI .i64)))], .vec 44 3 (([] : List (List AV)) ++ (forces_2.map GVector.cells)) false]⟩) (lp_val (ls_impl_HoldForces_1 m_0 holds_1 forces_2) (x := (lr_impl_HoldForces_1_0 m_0 holds_1 forces_2)) (lp_impl_HoldForces_1 m_0 holds_1 forces_2 hp0 hp1 hp2 hp3 hp4 h1 h0 (((holds_1.length : Int) - 0).toNat + 1) 0 (([] : List GVector) ++ forces_2) (show 0 ≤ 0 from (by first | assumption | omega | (first | (have hi : x_l0 < (holds_1.length : Int) := of_decide_eq_true (by assumption); have h0 : 0 ≤ x_l0 := (by assumption); have q := OkIx.at (okH_is m_0 holds_1 (by rw [← eq_AreHolds]; assumption)).2.1 h0 hi; have e : forces_2.length = m_0.Places.length := (by simp at *; omega); simp only [List.nil_append] at *; omega)) | (simp at * <;> omega) | (simp_all <;> omega))) (show (([] : List GVector) ++ forces_2).length = (([] : List GVector) ++ forces_2).length from (by simp)) (Nat.lt_succ_self _)) rfl) (by simp [hd_impl_HoldForces_1, GVector.cells])) <| sK [1] sN)) rfl (by kernel_rfl) (by kernel_rfl) rfl ?_ ?_
   · simp only [v_impl_HoldForces, h0, h1, cond_true, cond_false]
   · simp [v_impl_HoldForces, h0, h1]
 | false =>
  refine fnS E0Ok hMixed (c := bodyOf f39) [(.tm 6, .vec 44 3 [] false)] (.tup [.own 0, .b false]) [.vec 44 3 [] false] func39 (p (sB' h0 <| sB' h0 <| sB' h0 <| sB' h0 <| sB' h0 <| sB' h0 <| sB' h0 <| sB (show true = true from rfl) <| sK [1] sN)) rfl (by kernel_rfl) (by kernel_rfl) rfl ?_ ?_
  · simp only [v_impl_HoldForces, h0, cond_false]
  · simp [v_impl_HoldForces, h0, GVector.cells]

def v_laws_sameFloat (a_0 : Nat) (b_1 : Nat) : Bool := (cond (fcmp .neq .f64 a_0 a_0)
  (fcmp .neq .f64 b_1 b_1)
  (cond (fcmp .neq .f64 b_1 b_1)
    false
    (cond (fcmp .eql .f64 a_0 0)
      (cond (fcmp .eql .f64 b_1 0)
        ((fcmp .gtr .f64 (fop .quo .f64 4607182418800017408 a_0) 0) == (fcmp .gtr .f64 (fop .quo .f64 4607182418800017408 b_1) 0))
        (fcmp .eql .f64 a_0 b_1))
      (fcmp .eql .f64 a_0 b_1))))

theorem t_laws_sameFloat (a_0 : Nat) (b_1 : Nat)   : Fn prog 17 [.f .f64 a_0, .f .f64 b_1] (.b (v_laws_sameFloat a_0 b_1)) [] := by
 cases h0 : (fcmp .neq .f64 a_0 a_0) with
 | true =>
  refine fnS E0Ok hMixed (c := bodyOf f17) [] (.b (fcmp .neq .f64 b_1 b_1)) [] func17 (sB h0 <| sB h0 <| sB h0 <| sB h0 <| sB (show true = true from rfl) <| sB h0 <| sB h0 <| sB h0 <| sB h0 <| sK [] sN) rfl (by kernel_rfl) (by kernel_rfl) rfl ?_ ?_
  · simp only [v_laws_sameFloat, h0, cond_true]
  · rfl
 | false =>
  have p {a C} (s : Scr a C) := sB h0 <| sB h0 <| sB h0 <| sB h0 <| s
  cases h1 : (fcmp .neq .f64 b_1 b_1) with
  | true =>
   refine fnS E0Ok hMixed (c := bodyOf f17) [] (.b false) [] func17 (p (sB h1 <| sB h0 <| sB h0 <| sB h0 <| sB h0 <| sK [] sN)) rfl (by kernel_rfl) (by kernel_rfl) rfl ?_ ?_
   · simp only [v_laws_sameFloat, h0, h1, cond_true, cond_false]
   · rfl
  | false =>
   have q {a C} (s : Scr a C) := p (sB h1 <| s)
   clear p
   cases h2 : (fcmp .eql .f64 a_0 0) with
   | true =>
    have p {a C} (s : Scr a C) := q (sB h2 <| sB h2 <| sB h2 <| s)
    clear q
    cases h3 : (fcmp .eql .f64 b_1 0) with
    | true =>
     refine fnS E0Ok hMixed (c := bodyOf f17) [] (.b ((fcmp .gtr .f64 (fop .quo .f64 4607182418800017408 a_0) 0) == (fcmp .gtr .f64 (fop .quo .f64 4607182418800017408 b_1) 0))) [] func17 (p (sB h3 <| sK [] sN)) rfl (by kernel_rfl) (by kernel_rfl) rfl ?_ ?_
     · simp only [v_laws_sameFloat, h0, h1, h2, h3, cond_true, cond_false]
     · rfl
    | false =>
     refine fnS E0Ok hMixed (c := bodyOf f17) [] (.b (fcmp .eql .f64 a_0 b_1)) [] func17 (p (sB h3 <| sK [] sN)) rfl (by kernel_rfl) (by kernel_rfl) rfl ?_ ?_
     · simp only [v_laws_sameFloat, h0, h1, h2, h3, cond_true, cond_false]
     · rfl
   | false =>
    refine fnS E0Ok hMixed (c := bodyOf f17) [] (.b (fcmp .eql .f64 a_0 b_1)) [] func17 (q (sB h2 <| sB h2 <| sB h2 <| sB (show false = false from rfl) <| sK [] sN)) rfl (by kernel_rfl) (by kernel_rfl) rfl ?_ ?_
    · simp only [v_laws_sameFloat, h0, h1, h2, cond_false]
    · rfl

theorem same_self (x : Nat) : v_laws_sameFloat x x = true := by
  unfold v_laws_sameFloat
  cases h : fcmp .neq .f64 x x
  · simp only [cond_false]
    have h2 : fcmp .eql .f64 x x = true := by
      unfold fcmp at h ⊢
      simpa using h
    cases fcmp .eql .f64 x 0 <;> simp [h2]
  · rfl

def v_laws_eqVector (a_0 : GVector) (b_1 : GVector) : Bool := (cond (v_laws_sameFloat (fcv .f32 .f64 a_0.X) (fcv .f32 .f64 b_1.X))
  (cond (v_laws_sameFloat (fcv .f32 .f64 a_0.Y) (fcv .f32 .f64 b_1.Y))
    (cond (v_laws_sameFloat (fcv .f32 .f64 a_0.Z) (fcv .f32 .f64 b_1.Z))
      true
      false)
    false)
  false)

theorem t_laws_eqVector (a_0 : GVector) (b_1 : GVector)   : Fn prog 87 [.agg [.f .f32 a_0.X, .f .f32 a_0.Y, .f .f32 a_0.Z], .agg [.f .f32 b_1.X, .f .f32 b_1.Y, .f .f32 b_1.Z]] (.b (v_laws_eqVector a_0 b_1)) [] := by
 have p {a C} (s : Scr a C) := sC (widenOk a_0.X) <| sC (widenOk b_1.X) <| sF (t_laws_sameFloat (fcv .f32 .f64 a_0.X) (fcv .f32 .f64 b_1.X)) <| s
 cases h0 : (v_laws_sameFloat (fcv .f32 .f64 a_0.X) (fcv .f32 .f64 b_1.X)) with
 | true =>
  have q {a C} (s : Scr a C) := p (sB' h0 <| sC (widenOk a_0.Y) <| sC (widenOk b_1.Y) <| sF (t_laws_sameFloat (fcv .f32 .f64 a_0.Y) (fcv .f32 .f64 b_1.Y)) <| s)
  clear p
  cases h1 : (v_laws_sameFloat (fcv .f32 .f64 a_0.Y) (fcv .f32 .f64 b_1.Y)) with
  | true =>
   have p {a C} (s : Scr a C) := q (sB' h1 <| sC (widenOk a_0.Z) <| sC (widenOk b_1.Z) <| sF (t_laws_sameFloat (fcv .f32 .f64 a_0.Z) (fcv .f32 .f64 b_1.Z)) <| s)
   clear q
   cases h2 : (v_laws_sameFloat (fcv .f32 .f64 a_0.Z) (fcv .f32 .f64 b_1.Z)) with
   | true =>
    refine fnS E0Ok hMixed (c := bodyOf f87) [] (.b true) [] func87 (p (sB' h2 <| sK [] sN)) rfl (by kernel_rfl) (by kernel_rfl) rfl ?_ ?_
    · simp only [v_laws_eqVector, h0, h1, h2, cond_true]
    · rfl
   | false =>
    refine fnS E0Ok hMixed (c := bodyOf f87) [] (.b false) [] func87 (p (sB' h2 <| sK [] sN)) rfl (by kernel_rfl) (by kernel_rfl) rfl ?_ ?_
    · simp only [v_laws_eqVector, h0, h1, h2, cond_true, cond_false]
    · rfl
  | false =>
   refine fnS E0Ok hMixed (c := bodyOf f87) [] (.b false) [] func87 (q (sB' h1 <| sK [] sN)) rfl (by kernel_rfl) (by kernel_rfl) rfl ?_ ?_
   · simp only [v_laws_eqVector, h0, h1, cond_true, cond_false]
   · rfl
 | false =>
  refine fnS E0Ok hMixed (c := bodyOf f87) [] (.b false) [] func87 (p (sB' h0 <| sK [] sN)) rfl (by kernel_rfl) (by kernel_rfl) rfl ?_ ?_
  · simp only [v_laws_eqVector, h0, cond_false]
  · rfl

theorem eqVector_self (a : GVector) : v_laws_eqVector a a = true := by
  simp [v_laws_eqVector, same_self]

def lo_laws_eqVectorS_1 (a_0 : (List GVector)) (b_1 : (List GVector)) : Nat → Int → (Unit) ⊕ (Unit)
  | 0, _ => .inl default
  | k + 1, i_l0 => (cond (decide (i_l0 < (a_0.length : Int)))
    (cond (v_laws_eqVector (a_0.getD i_l0.toNat default) (b_1.getD i_l0.toNat default))
      (lo_laws_eqVectorS_1 a_0 b_1 k (i_l0 + 1))
      (.inl ()))
    (.inr ()))

def ls_laws_eqVectorS_1 (a_0 : (List GVector)) (b_1 : (List GVector)) : (Unit) ⊕ (Unit) → Ex × St
  | .inl r => (.ret, ⟨[.any, .any, .any, .any, .b false, .any, .any, .any, .any, .any, .any, .any, .any, .any, .any, .any, .any, .any, .any, .any, .any, .any, .any, .any, .any, .any, .any], []⟩)
  | .inr r => ((.exit 0), ⟨[.sl (a_0.map GVector.cells), .sl (b_1.map GVector.cells), .any, .any, .any, .any, .sl (a_0.map GVector.cells), .i .i64 (a_0.length : Int), .sl (b_1.map GVector.cells), .i .i64 (b_1.length : Int), .b ((a_0.length : Int) != (b_1.length : Int)), .any, .any, .any, .any, .any, .any, .any, .any, .any, .any, .any, .any, .any, .any, .any, .any], []⟩)

def hd_laws_eqVectorS_1 (a_0 : (List GVector)) (b_1 : (List GVector)) (i_l0 : Int) : St := ⟨[.sl (a_0.map GVector.cells), .sl (b_1.map GVector.cells), .any, .any, .any, .i .i64 i_l0, .sl (a_0.map GVector.cells), .i .i64 (a_0.length : Int), .sl (b_1.map GVector.cells), .i .i64 (b_1.length : Int), .b ((a_0.length : Int) != (b_1.length : Int)), .any, .any, .any, .any, .any, .any, .any, .any, .any, .any, .any, .any, .any, .any, .any, .any], []⟩

def mk_laws_eqVectorS_1_0 : List Bool := [true, true, false, false, false, true, true, true, true, true, true, false, false, false, false, false, false, false, false, false, false, false, false, false, false, false, false]

def mk_laws_eqVectorS_1_1 : List Bool := [false, false, false, false, true, false, false, false, false, false, false, false, false, false, false, false, false, false, false, false, false, false, false, false, false, false, false]

def mk_laws_eqVectorS_1_2 : List Bool := [true, true, false, false, false, false, true, true, true, true, true, false, false, false, false, false, false, false, false, false, false, false, false, false, false, false, false]

theorem lp_laws_eqVectorS_1 (a_0 : (List GVector)) (b_1 : (List GVector)) (hp0 : a_0.length ≤ 1073741824) (hp1 : b_1.length ≤ 1073741824) (hf_laws_eqVectorS_1_0 : ((a_0.length : Int) != (b_1.length : Int)) = false) : ∀ (k : Nat) (i_l0 : Int) (hv_laws_eqVectorS_1_0 : 0 ≤ i_l0) (hk : ((a_0.length : Int) - i_l0).toNat < k), Lp prog 0 (sub (bodyOf f40) [1, 1, 0, 1, 0, 0]) (hd_laws_eqVectorS_1 a_0 b_1 i_l0) (ls_laws_eqVectorS_1 a_0 b_1 (lo_laws_eqVectorS_1 a_0 b_1 k i_l0)).1 (ls_laws_eqVectorS_1 a_0 b_1 (lo_laws_eqVectorS_1 a_0 b_1 k i_l0)).2 := by
 intro k
 induction k with
 | zero => intro i_l0 hv_laws_eqVectorS_1_0 hk; exact absurd hk (Nat.not_lt_zero _)
 | succ k ih =>
  intro i_l0 hv_laws_eqVectorS_1_0 hk
  have p {a C} (s : Scr a C) := sZ GVector.cells a_0 <| s
  cases h_0 : (decide (i_l0 < (a_0.length : Int))) with
  | true =>
   have y_0 : (0 : Int) ≤ i_l0 := by clear p; exact (by first | assumption | omega | (simp at * <;> omega) | (simp_all <;> omega))
   have y_1 : i_l0 < (a_0.length : Int) := by clear p; exact (by first | assumption | omega | (simp at * <;> omega) | (simp_all <;> omega))
   have y_2 : i_l0 < (b_1.length : Int) := by clear p; exact (by first | assumption | omega | (simp at * <;> omega) | (simp_all <;> omega))
   have q {a C} (s : Scr a C) := p (sB h_0 <| sK [8, 8] <| sG GVector.cells a_0 i_l0 y_0 y_1 <| sG GVector.cells b_1 i_l0 y_0 y_2 <| sF (t_laws_eqVector (a_0.getD i_l0.toNat default) (b_1.getD i_l0.toNat default)) <| s)
   clear p
   cases h_1 : (v_laws_eqVector (a_0.getD i_l0.toNat default) (b_1.getD i_l0.toNat default)) with
   | true =>
    have y_3 : (-9223372036854775808 : Int) ≤ (i_l0 + 1) := by clear q; exact (by first | assumption | omega | (simp at * <;> omega) | (simp_all <;> omega))
    have y_4 : (i_l0 + 1) ≤ (9223372036854775807 : Int) := by clear q; exact (by first | assumption | omega | (simp at * <;> omega) | (simp_all <;> omega))
    have e : lo_laws_eqVectorS_1 a_0 b_1 (k + 1) i_l0 = (lo_laws_eqVectorS_1 a_0 b_1 k (i_l0 + 1)) := by simp only [lo_laws_eqVectorS_1, h_0, h_1, cond_true]
    rw [e]
    exact nextR E0Ok hMixed [] mk_laws_eqVectorS_1_0 [] (ih (i_l0 + 1) (show 0 ≤ (i_l0 + 1) from (by first | assumption | omega | (simp at * <;> omega) | (simp_all <;> omega))) (by first | assumption | omega | (simp at * <;> omega) | (simp_all <;> omega))) (q (sB' h_1 <| sI (i_l0 + 1) y_3 y_4 <| sN)) (by kernel_rfl)
   | false =>
    have e : lo_laws_eqVectorS_1 a_0 b_1 (k + 1) i_l0 = (.inl ()) := by simp only [lo_laws_eqVectorS_1, h_0, h_1, cond_true, cond_false]
    rw [e]
    exact outR (e := .ret) E0Ok hMixed [] mk_laws_eqVectorS_1_1 [] (q (sB' h_1 <| sN)) (by kernel_rfl) (by intro h; cases h)
  | false =>
   have e : lo_laws_eqVectorS_1 a_0 b_1 (k + 1) i_l0 = (.inr ()) := by simp only [lo_laws_eqVectorS_1, h_0, cond_false]
   rw [e]
   exact outR (e := (.exit 0)) E0Ok hMixed [] mk_laws_eqVectorS_1_2 [] (p (sB h_0 <| sN)) (by kernel_rfl) (by intro h; cases h)

def lr_laws_eqVectorS_1_0 (a_0 : (List GVector)) (b_1 : (List GVector)) : (Unit) ⊕ (Unit) := (lo_laws_eqVectorS_1 a_0 b_1 (((a_0.length : Int) - 0).toNat + 1) 0)

def v_laws_eqVectorS (a_0 : (List GVector)) (b_1 : (List GVector)) : Bool := (cond ((a_0.length : Int) != (b_1.length : Int))
  false
  (match (lr_laws_eqVectorS_1_0 a_0 b_1) with
    | .inl r2 => false
    | .inr r2 => true))

theorem t_laws_eqVectorS (a_0 : (List GVector)) (b_1 : (List GVector)) (hp0 : a_0.length ≤ 1073741824) (hp1 : b_1.length ≤ 1073741824)  : Fn prog 40 [.sl (a_0.map GVector.cells), .sl (b_1.map GVector.cells)] (.b (v_laws_eqVectorS a_0 b_1)) [] := by
 have p {a C} (s : Scr a C) := sZ GVector.cells a_0 <| sZ GVector.cells b_1 <| s
 cases h0 : ((a_0.length : Int) != (b_1.length : Int)) with
 | true =>
  refine fnS E0Ok hMixed (c := bodyOf f40) [] (.b false) [] func40 (p (sB h0 <| sK [] sN)) rfl (by kernel_rfl) (by kernel_rfl) rfl ?_ ?_
  · simp only [v_laws_eqVectorS, h0, cond_true]
  · rfl
 | false =>
  have q {a C} (s : Scr a C) := p (sB h0 <| s)
  clear p
  cases h1 : (lr_laws_eqVectorS_1_0 a_0 b_1) with
  | inl r2 =>
   refine fnS E0Ok hMixed (c := bodyOf f40) [] (.b false) [] func40 (q (sL mk_laws_eqVectorS_1_0 0 (lp_val (ls_laws_eqVectorS_1 a_0 b_1) (x := (lr_laws_eqVectorS_1_0 a_0 b_1)) (lp_laws_eqVectorS_1 a_0 b_1 hp0 hp1 h0 (((a_0.length : Int) - 0).toNat + 1) 0 (show 0 ≤ 0 from (by first | assumption | omega | (simp at * <;> omega) | (simp_all <;> omega))) (Nat.lt_succ_self _)) h1) <| sK [] sN)) rfl (by kernel_rfl) (by kernel_rfl) rfl ?_ ?_
   · simp only [v_laws_eqVectorS, h0, h1, cond_false]
   · rfl
  | inr r2 =>
   refine fnS E0Ok hMixed (c := bodyOf f40) [] (.b true) [] func40 (q (sL mk_laws_eqVectorS_1_0 0 (lp_val (ls_laws_eqVectorS_1 a_0 b_1) (x := (lr_laws_eqVectorS_1_0 a_0 b_1)) (lp_laws_eqVectorS_1 a_0 b_1 hp0 hp1 h0 (((a_0.length : Int) - 0).toNat + 1) 0 (show 0 ≤ 0 from (by first | assumption | omega | (simp at * <;> omega) | (simp_all <;> omega))) (Nat.lt_succ_self _)) h1) <| sK [] sN)) rfl (by kernel_rfl) (by kernel_rfl) rfl ?_ ?_
   · simp only [v_laws_eqVectorS, h0, h1, cond_false]
   · rfl

theorem eqVectorS_self (a : List GVector) : v_laws_eqVectorS a a = true := by
  unfold v_laws_eqVectorS lr_laws_eqVectorS_1_0
  rw [all_loop (a := a) (p := fun v => v_laws_eqVector v v) (lo := lo_laws_eqVectorS_1 a a) (x := ()) (y := ()) (fun k i => rfl) (fun v _ => eqVector_self v) _ _ (Int.le_refl 0) (Nat.lt_succ_self _)]
  simp

def lo_laws_eqInt64S_1 (a_0 : (List Int)) (b_1 : (List Int)) : Nat → Int → (Unit) ⊕ (Unit)
  | 0, _ => .inl default
  | k + 1, i_l0 => (cond (decide (i_l0 < (a_0.length : Int)))
    (cond ((a_0.getD i_l0.toNat default) != (b_1.getD i_l0.toNat default))
      (.inl ())
      (lo_laws_eqInt64S_1 a_0 b_1 k (i_l0 + 1)))
    (.inr ()))

def ls_laws_eqInt64S_1 (a_0 : (List Int)) (b_1 : (List Int)) : (Unit) ⊕ (Unit) → Ex × St
  | .inl r => (.ret, ⟨[.any, .any, .any, .any, .b false, .any, .any, .any, .any, .any, .any, .any, .any, .any, .any, .any, .any, .any, .any, .any, .any, .any, .any, .any, .any, .any], []⟩)
  | .inr r => ((.exit 0), ⟨[.sl (a_0.map (cI .i64)), .sl (b_1.map (cI .i64)), .any, .any, .any, .any, .sl (a_0.map (cI .i64)), .i .i64 (a_0.length : Int), .sl (b_1.map (cI .i64)), .i .i64 (b_1.length : Int), .b ((a_0.length : Int) != (b_1.length : Int)), .any, .any, .any, .any, .any, .any, .any, .any, .any, .any, .any, .any, .any, .any, .any], []⟩)

def hd_laws_eqInt64S_1 (a_0 : (List Int)) (b_1 : (List Int)) (i_l0 : Int) : St := ⟨[.sl (a_0.map (cI .i64)), .sl (b_1.map (cI .i64)), .any, .any, .any, .i .i64 i_l0, .sl (a_0.map (cI .i64)), .i .i64 (a_0.length : Int), .sl (b_1.map (cI .i64)), .i .i64 (b_1.length : Int), .b ((a_0.length : Int) != (b_1.length : Int)), .any, .any, .any, .any, .any, .any, .any, .any, .any, .any, .any, .any, .any, .any, .any], []⟩

def mk_laws_eqInt64S_1_0 : List Bool := [true, true, false, false, false, true, true, true, true, true, true, false, false, false, false, false, false, false, false, false, false, false, false, false, false, false]

def mk_laws_eqInt64S_1_1 : List Bool := [false, false, false, false, true, false, false, false, false, false, false, false, false, false, false, false, false, false, false, false, false, false, false, false, false, false]

def mk_laws_eqInt64S_1_2 : List Bool := [true, true, false, false, false, false, true, true, true, true, true, false, false, false, false, false, false, false, false, false, false, false, false, false, false, false]

theorem lp_laws_eqInt64S_1 (a_0 : (List Int)) (b_1 : (List Int)) (hp0 : a_0.length ≤ 1073741824) (hp1 : b_1.length ≤ 1073741824) (hf_laws_eqInt64S_1_0 : ((a_0.length : Int) != (b_1.length : Int)) = false) : ∀ (k : Nat) (i_l0 : Int) (hv_laws_eqInt64S_1_0 : 0 ≤ i_l0) (hk : ((a_0.length : Int) - i_l0).toNat < k), Lp prog 0 (sub (bodyOf f29) [1, 1, 0, 1, 0, 0]) (hd_laws_eqInt64S_1 a_0 b_1 i_l0) (ls_laws_eqInt64S_1 a_0 b_1 (lo_laws_eqInt64S_1 a_0 b_1 k i_l0)).1 (ls_laws_eqInt64S_1 a_0 b_1 (lo_laws_eqInt64S_1 a_0 b_1 k i_l0)).2 := by
 intro k
 induction k with
 | zero => intro i_l0 hv_laws_eqInt64S_1_0 hk; exact absurd hk (Nat.not_lt_zero _)
 | succ k ih =>
  intro i_l0 hv_laws_eqInt64S_1_0 hk
  have p {a C} (s : Scr a C) := sZ (cI .i64) a_0 <| s
  cases h_0 : (decide (i_l0 < (a_0.length : Int))) with
  | true =>
   have y_0 : (0 : Int) ≤ i_l0 := by clear p; exact (by first | assumption | omega | (simp at * <;> omega) | (simp_all <;> omega))
   have y_1 : i_l0 < (a_0.length : Int) := by clear p; exact (by first | assumption | omega | (simp at * <;> omega) | (simp_all <;> omega))
   have y_2 : i_l0 < (b_1.length : Int) := by clear p; exact (by first | assumption | omega | (simp at * <;> omega) | (simp_all <;> omega))
   have q {a C} (s : Scr a C) := p (sB h_0 <| sK [8, 8] <| sG (cI .i64) a_0 i_l0 y_0 y_1 <| sG (cI .i64) b_1 i_l0 y_0 y_2 <| s)
   clear p
   cases h_1 : ((a_0.getD i_l0.toNat default) != (b_1.getD i_l0.toNat default)) with
   | true =>
    have e : lo_laws_eqInt64S_1 a_0 b_1 (k + 1) i_l0 = (.inl ()) := by simp only [lo_laws_eqInt64S_1, h_0, h_1, cond_true]
    rw [e]
    exact outR (e := .ret) E0Ok hMixed [] mk_laws_eqInt64S_1_1 [] (q (sB h_1 <| sN)) (by kernel_rfl) (by intro h; cases h)
   | false =>
    have y_3 : (-9223372036854775808 : Int) ≤ (i_l0 + 1) := by clear q; exact (by first | assumption | omega | (simp at * <;> omega) | (simp_all <;> omega))
    have y_4 : (i_l0 + 1) ≤ (9223372036854775807 : Int) := by clear q; exact (by first | assumption | omega | (simp at * <;> omega) | (simp_all <;> omega))
    have e : lo_laws_eqInt64S_1 a_0 b_1 (k + 1) i_l0 = (lo_laws_eqInt64S_1 a_0 b_1 k (i_l0 + 1)) := by simp only [lo_laws_eqInt64S_1, h_0, h_1, cond_true, cond_false]
    rw [e]
    exact nextR E0Ok hMixed [] mk_laws_eqInt64S_1_0 [] (ih (i_l0 + 1) (show 0 ≤ (i_l0 + 1) from (by first | assumption | omega | (simp at * <;> omega) | (simp_all <;> omega))) (by first | assumption | omega | (simp at * <;> omega) | (simp_all <;> omega))) (q (sB h_1 <| sI (i_l0 + 1) y_3 y_4 <| sN)) (by kernel_rfl)
  | false =>
   have e : lo_laws_eqInt64S_1 a_0 b_1 (k + 1) i_l0 = (.inr ()) := by simp only [lo_laws_eqInt64S_1, h_0, cond_false]
   rw [e]
   exact outR (e := (.exit 0)) E0Ok hMixed [] mk_laws_eqInt64S_1_2 [] (p (sB h_0 <| sN)) (by kernel_rfl) (by intro h; cases h)

def lr_laws_eqInt64S_1_0 (a_0 : (List Int)) (b_1 : (List Int)) : (Unit) ⊕ (Unit) := (lo_laws_eqInt64S_1 a_0 b_1 (((a_0.length : Int) - 0).toNat + 1) 0)

def v_laws_eqInt64S (a_0 : (List Int)) (b_1 : (List Int)) : Bool := (cond ((a_0.length : Int) != (b_1.length : Int))
  false
  (match (lr_laws_eqInt64S_1_0 a_0 b_1) with
    | .inl r2 => false
    | .inr r2 => true))

theorem t_laws_eqInt64S (a_0 : (List Int)) (b_1 : (List Int)) (hp0 : a_0.length ≤ 1073741824) (hp1 : b_1.length ≤ 1073741824)  : Fn prog 29 [.sl (a_0.map (cI .i64)), .sl (b_1.map (cI .i64))] (.b (v_laws_eqInt64S a_0 b_1)) [] := by
 have p {a C} (s : Scr a C) := sZ (cI .i64) a_0 <| sZ (cI .i64) b_1 <| s
 cases h0 : ((a_0.length : Int) != (b_1.length : Int)) with
 | true =>
  refine fnS E0Ok hMixed (c := bodyOf f29) [] (.b false) [] func29 (p (sB h0 <| sK [] sN)) rfl (by kernel_rfl) (by kernel_rfl) rfl ?_ ?_
  · simp only [v_laws_eqInt64S, h0, cond_true]
  · rfl
 | false =>
  have q {a C} (s : Scr a C) := p (sB h0 <| s)
  clear p
  cases h1 : (lr_laws_eqInt64S_1_0 a_0 b_1) with
  | inl r2 =>
   refine fnS E0Ok hMixed (c := bodyOf f29) [] (.b false) [] func29 (q (sL mk_laws_eqInt64S_1_0 0 (lp_val (ls_laws_eqInt64S_1 a_0 b_1) (x := (lr_laws_eqInt64S_1_0 a_0 b_1)) (lp_laws_eqInt64S_1 a_0 b_1 hp0 hp1 h0 (((a_0.length : Int) - 0).toNat + 1) 0 (show 0 ≤ 0 from (by first | assumption | omega | (simp at * <;> omega) | (simp_all <;> omega))) (Nat.lt_succ_self _)) h1) <| sK [] sN)) rfl (by kernel_rfl) (by kernel_rfl) rfl ?_ ?_
   · simp only [v_laws_eqInt64S, h0, h1, cond_false]
   · rfl
  | inr r2 =>
   refine fnS E0Ok hMixed (c := bodyOf f29) [] (.b true) [] func29 (q (sL mk_laws_eqInt64S_1_0 0 (lp_val (ls_laws_eqInt64S_1 a_0 b_1) (x := (lr_laws_eqInt64S_1_0 a_0 b_1)) (lp_laws_eqInt64S_1 a_0 b_1 hp0 hp1 h0 (((a_0.length : Int) - 0).toNat + 1) 0 (show 0 ≤ 0 from (by first | assumption | omega | (simp at * <;> omega) | (simp_all <;> omega))) (Nat.lt_succ_self _)) h1) <| sK [] sN)) rfl (by kernel_rfl) (by kernel_rfl) rfl ?_ ?_
   · simp only [v_laws_eqInt64S, h0, h1, cond_false]
   · rfl

theorem eqInt64S_self (a : List Int) : v_laws_eqInt64S a a = true := by
  unfold v_laws_eqInt64S lr_laws_eqInt64S_1_0
  rw [all_from (a := a) (p := fun v => !(v != v)) (lo := lo_laws_eqInt64S_1 a a) (x := ()) (y := ()) (fun k i => by rw [lo_laws_eqInt64S_1]; cases (a.getD i.toNat default != a.getD i.toNat default) <;> rfl)]
  rw [show (a.all fun v => !(v != v)) = true from by rw [List.all_eq_true]; intro v _; simp]
  simp

def lo_laws_eqInt64SS_1 (a_0 : (List (List Int))) (b_1 : (List (List Int))) : Nat → Int → (Unit) ⊕ (Unit)
  | 0, _ => .inl default
  | k + 1, i_l0 => (cond (decide (i_l0 < (a_0.length : Int)))
    (cond (v_laws_eqInt64S (a_0.getD i_l0.toNat default) (b_1.getD i_l0.toNat default))
      (lo_laws_eqInt64SS_1 a_0 b_1 k (i_l0 + 1))
      (.inl ()))
    (.inr ()))

def ls_laws_eqInt64SS_1 (a_0 : (List (List Int))) (b_1 : (List (List Int))) : (Unit) ⊕ (Unit) → Ex × St
  | .inl r => (.ret, ⟨[.any, .any, .any, .any, .b false, .any, .any, .any, .any, .any, .any, .any, .any, .any, .any, .any, .any, .any, .any, .any, .any, .any, .any, .any, .any, .any, .any], []⟩)
  | .inr r => ((.exit 0), ⟨[.sl (a_0.map (cL (cI .i64))), .sl (b_1.map (cL (cI .i64))), .any, .any, .any, .any, .sl (a_0.map (cL (cI .i64))), .i .i64 (a_0.length : Int), .sl (b_1.map (cL (cI .i64))), .i .i64 (b_1.length : Int), .b ((a_0.length : Int) != (b_1.length : Int)), .any, .any, .any, .any, .any, .any, .any, .any, .any, .any, .any, .any, .any, .any, .any, .any], []⟩)

def hd_laws_eqInt64SS_1 (a_0 : (List (List Int))) (b_1 : (List (List Int))) (i_l0 : Int) : St := ⟨[.sl (a_0.map (cL (cI .i64))), .sl (b_1.map (cL (cI .i64))), .any, .any, .any, .i .i64 i_l0, .sl (a_0.map (cL (cI .i64))), .i .i64 (a_0.length : Int), .sl (b_1.map (cL (cI .i64))), .i .i64 (b_1.length : Int), .b ((a_0.length : Int) != (b_1.length : Int)), .any, .any, .any, .any, .any, .any, .any, .any, .any, .any, .any, .any, .any, .any, .any, .any], []⟩

def mk_laws_eqInt64SS_1_0 : List Bool := [true, true, false, false, false, true, true, true, true, true, true, false, false, false, false, false, false, false, false, false, false, false, false, false, false, false, false]

def mk_laws_eqInt64SS_1_1 : List Bool := [false, false, false, false, true, false, false, false, false, false, false, false, false, false, false, false, false, false, false, false, false, false, false, false, false, false, false]

def mk_laws_eqInt64SS_1_2 : List Bool := [true, true, false, false, false, false, true, true, true, true, true, false, false, false, false, false, false, false, false, false, false, false, false, false, false, false, false]

theorem lp_laws_eqInt64SS_1 (a_0 : (List (List Int))) (b_1 : (List (List Int))) (hp0 : a_0.length ≤ 1073741824) (hp1 : ∀ t ∈ a_0, t.length ≤ 1073741824) (hp2 : b_1.length ≤ 1073741824) (hp3 : ∀ t ∈ b_1, t.length ≤ 1073741824) (hf_laws_eqInt64SS_1_0 : ((a_0.length : Int) != (b_1.length : Int)) = false) : ∀ (k : Nat) (i_l0 : Int) (hv_laws_eqInt64SS_1_0 : 0 ≤ i_l0) (hk : ((a_0.length : Int) - i_l0).toNat < k), Lp prog 0 (sub (bodyOf f61) [1, 1, 0, 1, 0, 0]) (hd_laws_eqInt64SS_1 a_0 b_1 i_l0) (ls_laws_eqInt64SS_1 a_0 b_1 (lo_laws_eqInt64SS_1 a_0 b_1 k i_l0)).1 (ls_laws_eqInt64SS_1 a_0 b_1 (lo_laws_eqInt64SS_1 a_0 b_1 k i_l0)).2 := by
 intro k
 induction k with
 | zero => intro i_l0 hv_laws_eqInt64SS_1_0 hk; exact absurd hk (Nat.not_lt_zero _)
 | succ k ih =>
  intro i_l0 hv_laws_eqInt64SS_1_0 hk
  have p {a C} (s : Scr a C) := sZ (cL (cI .i64)) a_0 <| s
  cases h_0 : (decide (i_l0 < (a_0.length : Int))) with
  | true =>
   have y_0 : (0 : Int) ≤ i_l0 := by clear p; exact (by first | assumption | omega | (simp at * <;> omega) | (simp_all <;> omega))
   have y_1 : i_l0 < (a_0.length : Int) := by clear p; exact (by first | assumption | omega | (simp at * <;> omega) | (simp_all <;> omega))
   have y_2 : i_l0 < (b_1.length : Int) := by clear p; exact (by first | assumption | omega | (simp at * <;> omega) | (simp_all <;> omega))
   have y_3 : (a_0.getD i_l0.toNat default).length ≤ 1073741824 := by clear p; exact (by first | assumption | omega | (simp at * <;> omega) | (simp_all <;> omega))
   have y_4 : (b_1.getD i_l0.toNat default).length ≤ 1073741824 := by clear p; exact (by first | assumption | omega | (simp at * <;> omega) | (simp_all <;> omega))
   have q {a C} (s : Scr a C) := p (sB h_0 <| sK [8, 8] <| sG (cL (cI .i64)) a_0 i_l0 y_0 y_1 <| sG (cL (cI .i64)) b_1 i_l0 y_0 y_2 <| sF (t_laws_eqInt64S (a_0.getD i_l0.toNat default) (b_1.getD i_l0.toNat default) y_3 y_4) <| s)
   clear p
   cases h_1 : (v_laws_eqInt64S (a_0.getD i_l0.toNat default) (b_1.getD i_l0.toNat default)) with
   | true =>
    have y_5 : (-9223372036854775808 : Int) ≤ (i_l0 + 1) := by clear q; exact (by first | assumption | omega | (simp at * <;> omega) | (simp_all <;> omega))
    have y_6 : (i_l0 + 1) ≤ (9223372036854775807 : Int) := by clear q; exact (by first | assumption | omega | (simp at * <;> omega) | (simp_all <;> omega))
    have e : lo_laws_eqInt64SS_1 a_0 b_1 (k + 1) i_l0 = (lo_laws_eqInt64SS_1 a_0 b_1 k (i_l0 + 1)) := by simp only [lo_laws_eqInt64SS_1, h_0, h_1, cond_true]
    rw [e]
    exact nextR E0Ok hMixed [] mk_laws_eqInt64SS_1_0 [] (ih (i_l0 + 1) (show 0 ≤ (i_l0 + 1) from (by first | assumption | omega | (simp at * <;> omega) | (simp_all <;> omega))) (by first | assumption | omega | (simp at * <;> omega) | (simp_all <;> omega))) (q (sB' h_1 <| sI (i_l0 + 1) y_5 y_6 <| sN)) (by kernel_rfl)
   | false =>
    have e : lo_laws_eqInt64SS_1 a_0 b_1 (k + 1) i_l0 = (.inl ()) := by simp only [lo_laws_eqInt64SS_1, h_0, h_1, cond_true, cond_false]
    rw [e]
    exact outR (e := .ret) E0Ok hMixed [] mk_laws_eqInt64SS_1_1 [] (q (sB' h_1 <| sN)) (by kernel_rfl) (by intro h; cases h)
  | false =>
   have e : lo_laws_eqInt64SS_1 a_0 b_1 (k + 1) i_l0 = (.inr ()) := by simp only [lo_laws_eqInt64SS_1, h_0, cond_false]
   rw [e]
   exact outR (e := (.exit 0)) E0Ok hMixed [] mk_laws_eqInt64SS_1_2 [] (p (sB h_0 <| sN)) (by kernel_rfl) (by intro h; cases h)

def lr_laws_eqInt64SS_1_0 (a_0 : (List (List Int))) (b_1 : (List (List Int))) : (Unit) ⊕ (Unit) := (lo_laws_eqInt64SS_1 a_0 b_1 (((a_0.length : Int) - 0).toNat + 1) 0)

def v_laws_eqInt64SS (a_0 : (List (List Int))) (b_1 : (List (List Int))) : Bool := (cond ((a_0.length : Int) != (b_1.length : Int))
  false
  (match (lr_laws_eqInt64SS_1_0 a_0 b_1) with
    | .inl r2 => false
    | .inr r2 => true))

theorem t_laws_eqInt64SS (a_0 : (List (List Int))) (b_1 : (List (List Int))) (hp0 : a_0.length ≤ 1073741824) (hp1 : ∀ t ∈ a_0, t.length ≤ 1073741824) (hp2 : b_1.length ≤ 1073741824) (hp3 : ∀ t ∈ b_1, t.length ≤ 1073741824)  : Fn prog 61 [.sl (a_0.map (cL (cI .i64))), .sl (b_1.map (cL (cI .i64)))] (.b (v_laws_eqInt64SS a_0 b_1)) [] := by
 have p {a C} (s : Scr a C) := sZ (cL (cI .i64)) a_0 <| sZ (cL (cI .i64)) b_1 <| s
 cases h0 : ((a_0.length : Int) != (b_1.length : Int)) with
 | true =>
  refine fnS E0Ok hMixed (c := bodyOf f61) [] (.b false) [] func61 (p (sB h0 <| sK [] sN)) rfl (by kernel_rfl) (by kernel_rfl) rfl ?_ ?_
  · simp only [v_laws_eqInt64SS, h0, cond_true]
  · rfl
 | false =>
  have q {a C} (s : Scr a C) := p (sB h0 <| s)
  clear p
  cases h1 : (lr_laws_eqInt64SS_1_0 a_0 b_1) with
  | inl r2 =>
   refine fnS E0Ok hMixed (c := bodyOf f61) [] (.b false) [] func61 (q (sL mk_laws_eqInt64SS_1_0 0 (lp_val (ls_laws_eqInt64SS_1 a_0 b_1) (x := (lr_laws_eqInt64SS_1_0 a_0 b_1)) (lp_laws_eqInt64SS_1 a_0 b_1 hp0 hp1 hp2 hp3 h0 (((a_0.length : Int) - 0).toNat + 1) 0 (show 0 ≤ 0 from (by first | assumption | omega | (simp at * <;> omega) | (simp_all <;> omega))) (Nat.lt_succ_self _)) h1) <| sK [] sN)) rfl (by kernel_rfl) (by kernel_rfl) rfl ?_ ?_
   · simp only [v_laws_eqInt64SS, h0, h1, cond_false]
   · rfl
  | inr r2 =>
   refine fnS E0Ok hMixed (c := bodyOf f61) [] (.b true) [] func61 (q (sL mk_laws_eqInt64SS_1_0 0 (lp_val (ls_laws_eqInt64SS_1 a_0 b_1) (x := (lr_laws_eqInt64SS_1_0 a_0 b_1)) (lp_laws_eqInt64SS_1 a_0 b_1 hp0 hp1 hp2 hp3 h0 (((a_0.length : Int) - 0).toNat + 1) 0 (show 0 ≤ 0 from (by first | assumption | omega | (simp at * <;> omega) | (simp_all <;> omega))) (Nat.lt_succ_self _)) h1) <| sK [] sN)) rfl (by kernel_rfl) (by kernel_rfl) rfl ?_ ?_
   · simp only [v_laws_eqInt64SS, h0, h1, cond_false]
   · rfl

theorem eqInt64SS_self (a : List (List Int)) : v_laws_eqInt64SS a a = true := by
  unfold v_laws_eqInt64SS lr_laws_eqInt64SS_1_0
  rw [all_from (a := a) (p := fun v => v_laws_eqInt64S v v) (lo := lo_laws_eqInt64SS_1 a a) (x := ()) (y := ()) (fun k i => rfl)]
  rw [show (a.all fun v => v_laws_eqInt64S v v) = true from by rw [List.all_eq_true]; intro v _; exact eqInt64S_self v]
  simp

def v_laws_eqMesh (a_0 : GMesh) (b_1 : GMesh) : Bool := (cond (v_laws_eqVectorS a_0.Places b_1.Places)
  (cond (v_laws_eqInt64SS a_0.Triangles b_1.Triangles)
    true
    false)
  false)

theorem t_laws_eqMesh (a_0 : GMesh) (b_1 : GMesh) (hp0 : a_0.Places.length ≤ 1073741824) (hp1 : a_0.Triangles.length ≤ 1073741824) (hp2 : ∀ t ∈ a_0.Triangles, t.length ≤ 1073741824) (hp3 : b_1.Places.length ≤ 1073741824) (hp4 : b_1.Triangles.length ≤ 1073741824) (hp5 : ∀ t ∈ b_1.Triangles, t.length ≤ 1073741824)  : Fn prog 30 [.agg [.sl (a_0.Places.map GVector.cells), .sl (a_0.Triangles.map (cL (cI .i64)))], .agg [.sl (b_1.Places.map GVector.cells), .sl (b_1.Triangles.map (cL (cI .i64)))]] (.b (v_laws_eqMesh a_0 b_1)) [] := by
 have p {a C} (s : Scr a C) := sF (t_laws_eqVectorS a_0.Places b_1.Places hp0 hp3) <| s
 cases h0 : (v_laws_eqVectorS a_0.Places b_1.Places) with
 | true =>
  have q {a C} (s : Scr a C) := p (sB' h0 <| sF (t_laws_eqInt64SS a_0.Triangles b_1.Triangles hp1 hp2 hp4 hp5) <| s)
  clear p
  cases h1 : (v_laws_eqInt64SS a_0.Triangles b_1.Triangles) with
  | true =>
   refine fnS E0Ok hMixed (c := bodyOf f30) [] (.b true) [] func30 (q (sB' h1 <| sK [] sN)) rfl (by kernel_rfl) (by kernel_rfl) rfl ?_ ?_
   · simp only [v_laws_eqMesh, h0, h1, cond_true]
   · rfl
  | false =>
   refine fnS E0Ok hMixed (c := bodyOf f30) [] (.b false) [] func30 (q (sB' h1 <| sK [] sN)) rfl (by kernel_rfl) (by kernel_rfl) rfl ?_ ?_
   · simp only [v_laws_eqMesh, h0, h1, cond_true, cond_false]
   · rfl
 | false =>
  refine fnS E0Ok hMixed (c := bodyOf f30) [] (.b false) [] func30 (p (sB' h0 <| sK [] sN)) rfl (by kernel_rfl) (by kernel_rfl) rfl ?_ ?_
  · simp only [v_laws_eqMesh, h0, cond_false]
  · rfl

theorem eqMesh_self (a : GMesh) : v_laws_eqMesh a a = true := by
  simp [v_laws_eqMesh, eqVectorS_self, eqInt64SS_self]

def v_laws_eqHold (a_0 : GHold) (b_1 : GHold) : Bool := (cond (a_0.Place != b_1.Place)
  false
  (cond (a_0.Kind != b_1.Kind)
    false
    (cond (v_laws_eqVector a_0.At b_1.At)
      (cond (v_laws_eqVector a_0.Way b_1.Way)
        true
        false)
      false)))

theorem t_laws_eqHold (a_0 : GHold) (b_1 : GHold)   : Fn prog 94 [.agg [.i .i64 a_0.Place, .i .i64 a_0.Kind, .f .f32 a_0.At.X, .f .f32 a_0.At.Y, .f .f32 a_0.At.Z, .f .f32 a_0.Way.X, .f .f32 a_0.Way.Y, .f .f32 a_0.Way.Z], .agg [.i .i64 b_1.Place, .i .i64 b_1.Kind, .f .f32 b_1.At.X, .f .f32 b_1.At.Y, .f .f32 b_1.At.Z, .f .f32 b_1.Way.X, .f .f32 b_1.Way.Y, .f .f32 b_1.Way.Z]] (.b (v_laws_eqHold a_0 b_1)) [] := by
 cases h0 : (a_0.Place != b_1.Place) with
 | true =>
  refine fnS E0Ok hMixed (c := bodyOf f94) [] (.b false) [] func94 (sB h0 <| sK [] sN) rfl (by kernel_rfl) (by kernel_rfl) rfl ?_ ?_
  · simp only [v_laws_eqHold, h0, cond_true]
  · rfl
 | false =>
  have p {a C} (s : Scr a C) := sB h0 <| s
  cases h1 : (a_0.Kind != b_1.Kind) with
  | true =>
   refine fnS E0Ok hMixed (c := bodyOf f94) [] (.b false) [] func94 (p (sB h1 <| sK [] sN)) rfl (by kernel_rfl) (by kernel_rfl) rfl ?_ ?_
   · simp only [v_laws_eqHold, h0, h1, cond_true, cond_false]
   · rfl
  | false =>
   have q {a C} (s : Scr a C) := p (sB h1 <| sF (t_laws_eqVector a_0.At b_1.At) <| s)
   clear p
   cases h2 : (v_laws_eqVector a_0.At b_1.At) with
   | true =>
    have p {a C} (s : Scr a C) := q (sB' h2 <| sF (t_laws_eqVector a_0.Way b_1.Way) <| s)
    clear q
    cases h3 : (v_laws_eqVector a_0.Way b_1.Way) with
    | true =>
     refine fnS E0Ok hMixed (c := bodyOf f94) [] (.b true) [] func94 (p (sB' h3 <| sK [] sN)) rfl (by kernel_rfl) (by kernel_rfl) rfl ?_ ?_
     · simp only [v_laws_eqHold, h0, h1, h2, h3, cond_true, cond_false]
     · rfl
    | false =>
     refine fnS E0Ok hMixed (c := bodyOf f94) [] (.b false) [] func94 (p (sB' h3 <| sK [] sN)) rfl (by kernel_rfl) (by kernel_rfl) rfl ?_ ?_
     · simp only [v_laws_eqHold, h0, h1, h2, h3, cond_true, cond_false]
     · rfl
   | false =>
    refine fnS E0Ok hMixed (c := bodyOf f94) [] (.b false) [] func94 (q (sB' h2 <| sK [] sN)) rfl (by kernel_rfl) (by kernel_rfl) rfl ?_ ?_
    · simp only [v_laws_eqHold, h0, h1, h2, cond_false]
    · rfl

theorem eqHold_self (a : GHold) : v_laws_eqHold a a = true := by
  simp [v_laws_eqHold, same_self, eqVector_self]

def lo_laws_eqHoldS_1 (a_0 : (List GHold)) (b_1 : (List GHold)) : Nat → Int → (Unit) ⊕ (Unit)
  | 0, _ => .inl default
  | k + 1, i_l0 => (cond (decide (i_l0 < (a_0.length : Int)))
    (cond (v_laws_eqHold (a_0.getD i_l0.toNat default) (b_1.getD i_l0.toNat default))
      (lo_laws_eqHoldS_1 a_0 b_1 k (i_l0 + 1))
      (.inl ()))
    (.inr ()))

def ls_laws_eqHoldS_1 (a_0 : (List GHold)) (b_1 : (List GHold)) : (Unit) ⊕ (Unit) → Ex × St
  | .inl r => (.ret, ⟨[.any, .any, .any, .any, .b false, .any, .any, .any, .any, .any, .any, .any, .any, .any, .any, .any, .any, .any, .any, .any, .any, .any, .any, .any, .any, .any, .any], []⟩)
  | .inr r => ((.exit 0), ⟨[.sl (a_0.map GHold.cells), .sl (b_1.map GHold.cells), .any, .any, .any, .any, .sl (a_0.map GHold.cells), .i .i64 (a_0.length : Int), .sl (b_1.map GHold.cells), .i .i64 (b_1.length : Int), .b ((a_0.length : Int) != (b_1.length : Int)), .any, .any, .any, .any, .any, .any, .any, .any, .any, .any, .any, .any, .any, .any, .any, .any], []⟩)

def hd_laws_eqHoldS_1 (a_0 : (List GHold)) (b_1 : (List GHold)) (i_l0 : Int) : St := ⟨[.sl (a_0.map GHold.cells), .sl (b_1.map GHold.cells), .any, .any, .any, .i .i64 i_l0, .sl (a_0.map GHold.cells), .i .i64 (a_0.length : Int), .sl (b_1.map GHold.cells), .i .i64 (b_1.length : Int), .b ((a_0.length : Int) != (b_1.length : Int)), .any, .any, .any, .any, .any, .any, .any, .any, .any, .any, .any, .any, .any, .any, .any, .any], []⟩

def mk_laws_eqHoldS_1_0 : List Bool := [true, true, false, false, false, true, true, true, true, true, true, false, false, false, false, false, false, false, false, false, false, false, false, false, false, false, false]

def mk_laws_eqHoldS_1_1 : List Bool := [false, false, false, false, true, false, false, false, false, false, false, false, false, false, false, false, false, false, false, false, false, false, false, false, false, false, false]

def mk_laws_eqHoldS_1_2 : List Bool := [true, true, false, false, false, false, true, true, true, true, true, false, false, false, false, false, false, false, false, false, false, false, false, false, false, false, false]

theorem lp_laws_eqHoldS_1 (a_0 : (List GHold)) (b_1 : (List GHold)) (hp0 : a_0.length ≤ 1073741824) (hp1 : b_1.length ≤ 1073741824) (hf_laws_eqHoldS_1_0 : ((a_0.length : Int) != (b_1.length : Int)) = false) : ∀ (k : Nat) (i_l0 : Int) (hv_laws_eqHoldS_1_0 : 0 ≤ i_l0) (hk : ((a_0.length : Int) - i_l0).toNat < k), Lp prog 0 (sub (bodyOf f31) [1, 1, 0, 1, 0, 0]) (hd_laws_eqHoldS_1 a_0 b_1 i_l0) (ls_laws_eqHoldS_1 a_0 b_1 (lo_laws_eqHoldS_1 a_0 b_1 k i_l0)).1 (ls_laws_eqHoldS_1 a_0 b_1 (lo_laws_eqHoldS_1 a_0 b_1 k i_l0)).2 := by
 intro k
 induction k with
 | zero => intro i_l0 hv_laws_eqHoldS_1_0 hk; exact absurd hk (Nat.not_lt_zero _)
 | succ k ih =>
  intro i_l0 hv_laws_eqHoldS_1_0 hk
  have p {a C} (s : Scr a C) := sZ GHold.cells a_0 <| s
  cases h_0 : (decide (i_l0 < (a_0.length : Int))) with
  | true =>
   have y_0 : (0 : Int) ≤ i_l0 := by clear p; exact (by first | assumption | omega | (simp at * <;> omega) | (simp_all <;> omega))
   have y_1 : i_l0 < (a_0.length : Int) := by clear p; exact (by first | assumption | omega | (simp at * <;> omega) | (simp_all <;> omega))
   have y_2 : i_l0 < (b_1.length : Int) := by clear p; exact (by first | assumption | omega | (simp at * <;> omega) | (simp_all <;> omega))
   have q {a C} (s : Scr a C) := p (sB h_0 <| sK [8, 8] <| sG GHold.cells a_0 i_l0 y_0 y_1 <| sG GHold.cells b_1 i_l0 y_0 y_2 <| sF (t_laws_eqHold (a_0.getD i_l0.toNat default) (b_1.getD i_l0.toNat default)) <| s)
   clear p
   cases h_1 : (v_laws_eqHold (a_0.getD i_l0.toNat default) (b_1.getD i_l0.toNat default)) with
   | true =>
    have y_3 : (-9223372036854775808 : Int) ≤ (i_l0 + 1) := by clear q; exact (by first | assumption | omega | (simp at * <;> omega) | (simp_all <;> omega))
    have y_4 : (i_l0 + 1) ≤ (9223372036854775807 : Int) := by clear q; exact (by first | assumption | omega | (simp at * <;> omega) | (simp_all <;> omega))
    have e : lo_laws_eqHoldS_1 a_0 b_1 (k + 1) i_l0 = (lo_laws_eqHoldS_1 a_0 b_1 k (i_l0 + 1)) := by simp only [lo_laws_eqHoldS_1, h_0, h_1, cond_true]
    rw [e]
    exact nextR E0Ok hMixed [] mk_laws_eqHoldS_1_0 [] (ih (i_l0 + 1) (show 0 ≤ (i_l0 + 1) from (by first | assumption | omega | (simp at * <;> omega) | (simp_all <;> omega))) (by first | assumption | omega | (simp at * <;> omega) | (simp_all <;> omega))) (q (sB' h_1 <| sI (i_l0 + 1) y_3 y_4 <| sN)) (by kernel_rfl)
   | false =>
    have e : lo_laws_eqHoldS_1 a_0 b_1 (k + 1) i_l0 = (.inl ()) := by simp only [lo_laws_eqHoldS_1, h_0, h_1, cond_true, cond_false]
    rw [e]
    exact outR (e := .ret) E0Ok hMixed [] mk_laws_eqHoldS_1_1 [] (q (sB' h_1 <| sN)) (by kernel_rfl) (by intro h; cases h)
  | false =>
   have e : lo_laws_eqHoldS_1 a_0 b_1 (k + 1) i_l0 = (.inr ()) := by simp only [lo_laws_eqHoldS_1, h_0, cond_false]
   rw [e]
   exact outR (e := (.exit 0)) E0Ok hMixed [] mk_laws_eqHoldS_1_2 [] (p (sB h_0 <| sN)) (by kernel_rfl) (by intro h; cases h)

def lr_laws_eqHoldS_1_0 (a_0 : (List GHold)) (b_1 : (List GHold)) : (Unit) ⊕ (Unit) := (lo_laws_eqHoldS_1 a_0 b_1 (((a_0.length : Int) - 0).toNat + 1) 0)

def v_laws_eqHoldS (a_0 : (List GHold)) (b_1 : (List GHold)) : Bool := (cond ((a_0.length : Int) != (b_1.length : Int))
  false
  (match (lr_laws_eqHoldS_1_0 a_0 b_1) with
    | .inl r2 => false
    | .inr r2 => true))

theorem t_laws_eqHoldS (a_0 : (List GHold)) (b_1 : (List GHold)) (hp0 : a_0.length ≤ 1073741824) (hp1 : b_1.length ≤ 1073741824)  : Fn prog 31 [.sl (a_0.map GHold.cells), .sl (b_1.map GHold.cells)] (.b (v_laws_eqHoldS a_0 b_1)) [] := by
 have p {a C} (s : Scr a C) := sZ GHold.cells a_0 <| sZ GHold.cells b_1 <| s
 cases h0 : ((a_0.length : Int) != (b_1.length : Int)) with
 | true =>
  refine fnS E0Ok hMixed (c := bodyOf f31) [] (.b false) [] func31 (p (sB h0 <| sK [] sN)) rfl (by kernel_rfl) (by kernel_rfl) rfl ?_ ?_
  · simp only [v_laws_eqHoldS, h0, cond_true]
  · rfl
 | false =>
  have q {a C} (s : Scr a C) := p (sB h0 <| s)
  clear p
  cases h1 : (lr_laws_eqHoldS_1_0 a_0 b_1) with
  | inl r2 =>
   refine fnS E0Ok hMixed (c := bodyOf f31) [] (.b false) [] func31 (q (sL mk_laws_eqHoldS_1_0 0 (lp_val (ls_laws_eqHoldS_1 a_0 b_1) (x := (lr_laws_eqHoldS_1_0 a_0 b_1)) (lp_laws_eqHoldS_1 a_0 b_1 hp0 hp1 h0 (((a_0.length : Int) - 0).toNat + 1) 0 (show 0 ≤ 0 from (by first | assumption | omega | (simp at * <;> omega) | (simp_all <;> omega))) (Nat.lt_succ_self _)) h1) <| sK [] sN)) rfl (by kernel_rfl) (by kernel_rfl) rfl ?_ ?_
   · simp only [v_laws_eqHoldS, h0, h1, cond_false]
   · rfl
  | inr r2 =>
   refine fnS E0Ok hMixed (c := bodyOf f31) [] (.b true) [] func31 (q (sL mk_laws_eqHoldS_1_0 0 (lp_val (ls_laws_eqHoldS_1 a_0 b_1) (x := (lr_laws_eqHoldS_1_0 a_0 b_1)) (lp_laws_eqHoldS_1 a_0 b_1 hp0 hp1 h0 (((a_0.length : Int) - 0).toNat + 1) 0 (show 0 ≤ 0 from (by first | assumption | omega | (simp at * <;> omega) | (simp_all <;> omega))) (Nat.lt_succ_self _)) h1) <| sK [] sN)) rfl (by kernel_rfl) (by kernel_rfl) rfl ?_ ?_
   · simp only [v_laws_eqHoldS, h0, h1, cond_false]
   · rfl

theorem eqHoldS_self (a : List GHold) : v_laws_eqHoldS a a = true := by
  unfold v_laws_eqHoldS lr_laws_eqHoldS_1_0
  rw [all_from (a := a) (p := fun v => v_laws_eqHold v v) (lo := lo_laws_eqHoldS_1 a a) (x := ()) (y := ()) (fun k i => rfl)]
  rw [show (a.all fun v => v_laws_eqHold v v) = true from by rw [List.all_eq_true]; intro v _; exact eqHold_self v]
  simp

def lo_laws_markVectorS_mon_1 (a_0 : (List GVector)) (k_1 : Int) : Nat → Int → Int → (List GVector) → Int × (List GVector)
  | 0, _, _, _ => default
  | k + 1, k_l0, i_l1, r0_l2 => (cond (decide (i_l1 < (r0_l2.length : Int)))
    (lo_laws_markVectorS_mon_1 a_0 k_1 k (IntKind.wrap .i64 ((IntKind.wrap .i64 ((IntKind.wrap .i64 (k_l0 + 1)) + 1)) + 1)) (i_l1 + 1) (r0_l2.set i_l1.toNat (⟨(ofInt .f32 k_l0), (ofInt .f32 (IntKind.wrap .i64 (k_l0 + 1))), (ofInt .f32 (IntKind.wrap .i64 ((IntKind.wrap .i64 (k_l0 + 1)) + 1)))⟩ : GVector)))
    (k_l0, r0_l2))

def ls_laws_markVectorS_mon_1 (a_0 : (List GVector)) (k_1 : Int) (r : Int × (List GVector)) : Ex × St := ((.exit 0), ⟨[.any, .i .i64 r.1, .any, .any, .i .i64 0, .any, .any, .any, .any, .any, .any, .any, .any, .any, .any, .any, .any, .any, .any, .any, .any, .any, .any, .any, .any, .any, .any, .any, .any, .any, .any, .any, .any, .any, .any, .any, .any], [.vec 44 3 (r.2.map GVector.cells) false]⟩)

def hd_laws_markVectorS_mon_1 (a_0 : (List GVector)) (k_1 : Int) (k_l0 : Int) (i_l1 : Int) (r0_l2 : (List GVector)) : St := ⟨[.own 0, .i .i64 k_l0, .any, .any, .i .i64 0, .i .i64 i_l1, .any, .any, .any, .any, .any, .any, .any, .any, .any, .any, .any, .any, .any, .any, .any, .any, .any, .any, .any, .any, .any, .any, .any, .any, .any, .any, .any, .any, .any, .any, .any], [.vec 44 3 (r0_l2.map GVector.cells) false]⟩

def mk_laws_markVectorS_mon_1_0 : List Bool := [true, true, false, false, true, true, false, false, false, false, false, false, false, false, false, false, false, false, false, false, false, false, false, false, false, false, false, false, false, false, false, false, false, false, false, false, false]

def mk_laws_markVectorS_mon_1_1 : List Bool := [false, true, false, false, true, false, false, false, false, false, false, false, false, false, false, false, false, false, false, false, false, false, false, false, false, false, false, false, false, false, false, false, false, false, false, false, false]

theorem lp_laws_markVectorS_mon_1 (a_0 : (List GVector)) (k_1 : Int) (hp0 : a_0.length ≤ 1073741824) : ∀ (k : Nat) (k_l0 : Int) (i_l1 : Int) (r0_l2 : (List GVector)) (hv_laws_markVectorS_mon_1_0 : 0 ≤ i_l1) (hv_laws_markVectorS_mon_1_1 : r0_l2.length = a_0.length) (hk : ((a_0.length : Int) - i_l1).toNat < k), Lp prog 1 (sub (bodyOf f41) [1, 0, 1, 0, 0]) (hd_laws_markVectorS_mon_1 a_0 k_1 k_l0 i_l1 r0_l2) (ls_laws_markVectorS_mon_1 a_0 k_1 (lo_laws_markVectorS_mon_1 a_0 k_1 k k_l0 i_l1 r0_l2)).1 (ls_laws_markVectorS_mon_1 a_0 k_1 (lo_laws_markVectorS_mon_1 a_0 k_1 k k_l0 i_l1 r0_l2)).2 := by
 intro k
 induction k with
 | zero => intro k_l0 i_l1 r0_l2 hv_laws_markVectorS_mon_1_0 hv_laws_markVectorS_mon_1_1 hk; exact absurd hk (Nat.not_lt_zero _)
 | succ k ih =>
  intro k_l0 i_l1 r0_l2 hv_laws_markVectorS_mon_1_0 hv_laws_markVectorS_mon_1_1 hk
  have p {a C} (s : Scr a C) := sZ GVector.cells r0_l2 <| s
  cases h_0 : (decide (i_l1 < (r0_l2.length : Int))) with
  | true =>
   have y_0 : (0 : Int) ≤ i_l1 := by clear p; exact (by first | assumption | omega | (simp at * <;> omega) | (simp_all <;> omega))
   have y_1 : i_l1 < (r0_l2.length : Int) := by clear p; exact (by first | assumption | omega | (simp at * <;> omega) | (simp_all <;> omega))
   have y_2 : i_l1.toNat < r0_l2.length := by clear p; exact (by first | assumption | omega | (simp at * <;> omega) | (simp_all <;> omega))
   have y_3 : i_l1 < ((r0_l2.set i_l1.toNat (⟨(ofInt .f32 k_l0), (r0_l2.getD i_l1.toNat default).Y, (r0_l2.getD i_l1.toNat default).Z⟩ : GVector)).length : Int) := by clear p; exact (by first | assumption | omega | (simp at * <;> omega) | (simp_all <;> omega))
   have y_4 : i_l1 < ((r0_l2.set i_l1.toNat (⟨(ofInt .f32 k_l0), (ofInt .f32 (IntKind.wrap .i64 (k_l0 + 1))), (r0_l2.getD i_l1.toNat default).Z⟩ : GVector)).length : Int) := by clear p; exact (by first | assumption | omega | (simp at * <;> omega) | (simp_all <;> omega))
   have y_5 : (-9223372036854775808 : Int) ≤ (i_l1 + 1) := by clear p; exact (by first | assumption | omega | (simp at * <;> omega) | (simp_all <;> omega))
   have y_6 : (i_l1 + 1) ≤ (9223372036854775807 : Int) := by clear p; exact (by first | assumption | omega | (simp at * <;> omega) | (simp_all <;> omega))
   have e : lo_laws_markVectorS_mon_1 a_0 k_1 (k + 1) k_l0 i_l1 r0_l2 = (lo_laws_markVectorS_mon_1 a_0 k_1 k (IntKind.wrap .i64 ((IntKind.wrap .i64 ((IntKind.wrap .i64 (k_l0 + 1)) + 1)) + 1)) (i_l1 + 1) (r0_l2.set i_l1.toNat (⟨(ofInt .f32 k_l0), (ofInt .f32 (IntKind.wrap .i64 (k_l0 + 1))), (ofInt .f32 (IntKind.wrap .i64 ((IntKind.wrap .i64 (k_l0 + 1)) + 1)))⟩ : GVector))) := by simp only [lo_laws_markVectorS_mon_1, h_0, cond_true]
   rw [e]
   exact nextS (EpOk 1) hMixed [] mk_laws_markVectorS_mon_1_0 [] (⟨[.own 0, .i .i64 (IntKind.wrap .i64 ((IntKind.wrap .i64 ((IntKind.wrap .i64 (k_l0 + 1)) + 1)) + 1)), .any, .any, .i .i64 0, .i .i64 (i_l1 + 1), .any, .any, .any, .any, .any, .any, .any, .any, .any, .any, .any, .any, .any, .any, .any, .any, .any, .any, .any, .any, .any, .any, .any, .any, .any, .any, .any, .any, .any, .any, .any], [.vec 44 3 ((((r0_l2.map GVector.cells).set i_l1.toNat [.f .f32 (ofInt .f32 k_l0), .f .f32 ((r0_l2.getD i_l1.toNat default).Y), .f .f32 ((r0_l2.getD i_l1.toNat default).Z)]).set i_l1.toNat [.f .f32 (ofInt .f32 k_l0), .f .f32 (ofInt .f32 (IntKind.wrap .i64 (k_l0 + 1))), .f .f32 ((r0_l2.getD i_l1.toNat default).Z)]).set i_l1.toNat [.f .f32 (ofInt .f32 k_l0), .f .f32 (ofInt .f32 (IntKind.wrap .i64 (k_l0 + 1))), .f .f32 (ofInt .f32 (IntKind.wrap .i64 ((IntKind.wrap .i64 (k_l0 + 1)) + 1)))]) false]⟩) (p (sB h_0 <| sX GVector.cells r0_l2 i_l1 y_0 y_1 <| sV GVector.cells r0_l2 i_l1.toNat y_2 <| sW .i64 (k_l0 + 1) <| sC (show 0 ≤ i_l1 ∧ Int.toNat i_l1 < ((r0_l2.map GVector.cells).set i_l1.toNat [.f .f32 (ofInt .f32 k_l0), .f .f32 ((r0_l2.getD i_l1.toNat default).Y), .f .f32 ((r0_l2.getD i_l1.toNat default).Z)]).length from (by simpa using idx_ok (c := GVector.cells) (l := (r0_l2.set i_l1.toNat (⟨(ofInt .f32 k_l0), (r0_l2.getD i_l1.toNat default).Y, (r0_l2.getD i_l1.toNat default).Z⟩ : GVector))) (i := i_l1) y_0 y_3)) <| sE (show ((r0_l2.map GVector.cells).set i_l1.toNat [.f .f32 (ofInt .f32 k_l0), .f .f32 ((r0_l2.getD i_l1.toNat default).Y), .f .f32 ((r0_l2.getD i_l1.toNat default).Z)])[i_l1.toNat]? = some [.f .f32 (ofInt .f32 k_l0), .f .f32 ((r0_l2.getD i_l1.toNat default).Y), .f .f32 ((r0_l2.getD i_l1.toNat default).Z)] from List.getElem?_set_self (by simpa using y_2)) <| sW .i64 ((IntKind.wrap .i64 (k_l0 + 1)) + 1) <| sC (show 0 ≤ i_l1 ∧ Int.toNat i_l1 < (((r0_l2.map GVector.cells).set i_l1.toNat [.f .f32 (ofInt .f32 k_l0), .f .f32 ((r0_l2.getD i_l1.toNat default).Y), .f .f32 ((r0_l2.getD i_l1.toNat default).Z)]).set i_l1.toNat [.f .f32 (ofInt .f32 k_l0), .f .f32 (ofInt .f32 (IntKind.wrap .i64 (k_l0 + 1))), .f .f32 ((r0_l2.getD i_l1.toNat default).Z)]).length from (by simpa using idx_ok (c := GVector.cells) (l := (r0_l2.set i_l1.toNat (⟨(ofInt .f32 k_l0), (ofInt .f32 (IntKind.wrap .i64 (k_l0 + 1))), (r0_l2.getD i_l1.toNat default).Z⟩ : GVector))) (i := i_l1) y_0 y_4)) <| sE (show (((r0_l2.map GVector.cells).set i_l1.toNat [.f .f32 (ofInt .f32 k_l0), .f .f32 ((r0_l2.getD i_l1.toNat default).Y), .f .f32 ((r0_l2.getD i_l1.toNat default).Z)]).set i_l1.toNat [.f .f32 (ofInt .f32 k_l0), .f .f32 (ofInt .f32 (IntKind.wrap .i64 (k_l0 + 1))), .f .f32 ((r0_l2.getD i_l1.toNat default).Z)])[i_l1.toNat]? = some [.f .f32 (ofInt .f32 k_l0), .f .f32 (ofInt .f32 (IntKind.wrap .i64 (k_l0 + 1))), .f .f32 ((r0_l2.getD i_l1.toNat default).Z)] from List.getElem?_set_self (by simpa using y_2)) <| sW .i64 ((IntKind.wrap .i64 ((IntKind.wrap .i64 (k_l0 + 1)) + 1)) + 1) <| sI (i_l1 + 1) y_5 y_6 <| sN)) (by kernel_rfl) (show _ = ⟨[.own 0, .i .i64 (IntKind.wrap .i64 ((IntKind.wrap .i64 ((IntKind.wrap .i64 (k_l0 + 1)) + 1)) + 1)), .any, .any, .i .i64 0, .i .i64 (i_l1 + 1), .any, .any, .any, .any, .any, .any, .any, .any, .any, .any, .any, .any, .any, .any, .any, .any, .any, .any, .any, .any, .any, .any, .any, .any, .any, .any, .any, .any, .any, .any, .any], [.vec 44 3 ((r0_l2.set i_l1.toNat (⟨(ofInt .f32 k_l0), (ofInt .f32 (IntKind.wrap .i64 (k_l0 + 1))), (ofInt .f32 (IntKind.wrap .i64 ((IntKind.wrap .i64 (k_l0 + 1)) + 1)))⟩ : GVector)).map GVector.cells) false]⟩ from (by simp [List.map_set, GVector.cells])) (ih (IntKind.wrap .i64 ((IntKind.wrap .i64 ((IntKind.wrap .i64 (k_l0 + 1)) + 1)) + 1)) (i_l1 + 1) (r0_l2.set i_l1.toNat (⟨(ofInt .f32 k_l0), (ofInt .f32 (IntKind.wrap .i64 (k_l0 + 1))), (ofInt .f32 (IntKind.wrap .i64 ((IntKind.wrap .i64 (k_l0 + 1)) + 1)))⟩ : GVector)) (show 0 ≤ (i_l1 + 1) from (by first | assumption | omega | (simp at * <;> omega) | (simp_all <;> omega))) (show (r0_l2.set i_l1.toNat (⟨(ofInt .f32 k_l0), (ofInt .f32 (IntKind.wrap .i64 (k_l0 + 1))), (ofInt .f32 (IntKind.wrap .i64 ((IntKind.wrap .i64 (k_l0 + 1)) + 1)))⟩ : GVector)).length = a_0.length from (by first | assumption | omega | (simp at * <;> omega) | (simp_all <;> omega))) (by first | assumption | omega | (simp at * <;> omega) | (simp_all <;> omega)))
  | false =>
   have e : lo_laws_markVectorS_mon_1 a_0 k_1 (k + 1) k_l0 i_l1 r0_l2 = (k_l0, r0_l2) := by simp only [lo_laws_markVectorS_mon_1, h_0, cond_false]
   rw [e]
   exact outR (e := (.exit 0)) (EpOk 1) hMixed [] mk_laws_markVectorS_mon_1_1 [] (p (sB h_0 <| sN)) (by kernel_rfl) (by intro h; cases h)

theorem ln_laws_markVectorS_mon_1_1 (a_0 : (List GVector)) (k_1 : Int) : ∀ (k : Nat) (k_l0 : Int) (i_l1 : Int) (r0_l2 : (List GVector)) (hk : ((r0_l2.length : Int) - i_l1).toNat < k), (lo_laws_markVectorS_mon_1 a_0 k_1 k k_l0 i_l1 r0_l2).2.length = r0_l2.length := by
  intro k
  induction k with
  | zero => intro k_l0 i_l1 r0_l2 hk; exact absurd hk (Nat.not_lt_zero _)
  | succ k ih =>
    intro k_l0 i_l1 r0_l2 hk
    cases h_0 : (decide (i_l1 < (r0_l2.length : Int))) with
    | true =>
      have e : lo_laws_markVectorS_mon_1 a_0 k_1 (k + 1) k_l0 i_l1 r0_l2 = (lo_laws_markVectorS_mon_1 a_0 k_1 k (IntKind.wrap .i64 ((IntKind.wrap .i64 ((IntKind.wrap .i64 (k_l0 + 1)) + 1)) + 1)) (i_l1 + 1) (r0_l2.set i_l1.toNat (⟨(ofInt .f32 k_l0), (ofInt .f32 (IntKind.wrap .i64 (k_l0 + 1))), (ofInt .f32 (IntKind.wrap .i64 ((IntKind.wrap .i64 (k_l0 + 1)) + 1)))⟩ : GVector))) := by simp only [lo_laws_markVectorS_mon_1, h_0, cond_true]
      rw [e, ih (IntKind.wrap .i64 ((IntKind.wrap .i64 ((IntKind.wrap .i64 (k_l0 + 1)) + 1)) + 1)) (i_l1 + 1) (r0_l2.set i_l1.toNat (⟨(ofInt .f32 k_l0), (ofInt .f32 (IntKind.wrap .i64 (k_l0 + 1))), (ofInt .f32 (IntKind.wrap .i64 ((IntKind.wrap .i64 (k_l0 + 1)) + 1)))⟩ : GVector)) (by first | assumption | omega | (simp at * <;> omega) | (simp_all <;> omega))]; simp
    | false =>
      have e : lo_laws_markVectorS_mon_1 a_0 k_1 (k + 1) k_l0 i_l1 r0_l2 = (k_l0, r0_l2) := by simp only [lo_laws_markVectorS_mon_1, h_0, cond_false]
      first | (rw [e]; done) | (rw [e]; rfl)

def lr_laws_markVectorS_mon_1_0 (a_0 : (List GVector)) (k_1 : Int) : Int × (List GVector) := (lo_laws_markVectorS_mon_1 a_0 k_1 (((a_0.length : Int) - 0).toNat + 1) k_1 0 a_0)

@[simp] theorem len_lr_laws_markVectorS_mon_1_0_1 (a_0 : (List GVector)) (k_1 : Int) : (lr_laws_markVectorS_mon_1_0 a_0 k_1).2.length = (a_0 : (List GVector)).length := ln_laws_markVectorS_mon_1_1 a_0 k_1 (((a_0.length : Int) - 0).toNat + 1) k_1 0 a_0 (by first | exact Nat.lt_succ_self _ | simp)

def v_laws_markVectorS_mon (a_0 : (List GVector)) (k_1 : Int) : Int × (List GVector) := ((lr_laws_markVectorS_mon_1_0 a_0 k_1).1, (lr_laws_markVectorS_mon_1_0 a_0 k_1).2)

@[simp] theorem len_v_laws_markVectorS_mon_1 (a_0 : (List GVector)) (k_1 : Int) : (v_laws_markVectorS_mon a_0 k_1).2.length = a_0.length := by
  first | (simp [v_laws_markVectorS_mon]; done)

end Go.Ab
