/- The functions of this seat as plain Lean, and that the program's are these. Printed by a program of the prover's own. -/
import Derived.Test.YtiihcpcabmamiaaB6
set_option linter.unusedVariables false
set_option linter.unusedSimpArgs false
set_option maxRecDepth 100000
namespace Go.Ab
open Go.RowKit Go.Proofs.Try

theorem eqMesh_self (a : GMesh) : v_laws_eqMesh a a = true := by
  simp [v_laws_eqMesh, eqVectorS_self, eqInt64SS_self]

def v_laws_eqSpring (a_0 : GSpring) (b_1 : GSpring) : Bool := (cond (a_0.A != b_1.A)
  false
  (cond (a_0.B != b_1.B)
    false
    (cond (v_laws_sameFloat (fcv .f32 .f64 a_0.Long) (fcv .f32 .f64 b_1.Long))
      (cond (v_laws_sameFloat (fcv .f32 .f64 a_0.Stiff) (fcv .f32 .f64 b_1.Stiff))
        true
        false)
      false)))

theorem t_laws_eqSpring (a_0 : GSpring) (b_1 : GSpring)   : Fn prog 131 [.agg [.i .i64 a_0.A, .i .i64 a_0.B, .f .f32 a_0.Long, .f .f32 a_0.Stiff], .agg [.i .i64 b_1.A, .i .i64 b_1.B, .f .f32 b_1.Long, .f .f32 b_1.Stiff]] (.b (v_laws_eqSpring a_0 b_1)) [] := by
 cases h0 : (a_0.A != b_1.A) with
 | true =>
  have gh0 := bne_iff_ne.1 h0
  refine fnS E0Ok hMixed (c := bodyOf f131) [] (.b false) [] func131 (sB h0 <| sK [] sN) rfl (by kernel_rfl) (by kernel_rfl) rfl ?_ ?_
  · simp only [v_laws_eqSpring, h0, cond_true]
  · rfl
 | false =>
  have gh0 := bne_eq_false_iff_eq.1 h0
  have p {a C} (s : Scr a C) := sB h0 <| s
  cases h1 : (a_0.B != b_1.B) with
  | true =>
   have gh1 := bne_iff_ne.1 h1
   refine fnS E0Ok hMixed (c := bodyOf f131) [] (.b false) [] func131 (p (sB h1 <| sK [] sN)) rfl (by kernel_rfl) (by kernel_rfl) rfl ?_ ?_
   · simp only [v_laws_eqSpring, h0, h1, cond_true, cond_false]
   · rfl
  | false =>
   have gh1 := bne_eq_false_iff_eq.1 h1
   have q {a C} (s : Scr a C) := p (sB h1 <| sC (widenOk a_0.Long) <| sC (widenOk b_1.Long) <| sF (t_laws_sameFloat (fcv .f32 .f64 a_0.Long) (fcv .f32 .f64 b_1.Long)) <| s)
   clear p
   cases h2 : (v_laws_sameFloat (fcv .f32 .f64 a_0.Long) (fcv .f32 .f64 b_1.Long)) with
   | true =>
    have p {a C} (s : Scr a C) := q (sB' h2 <| sC (widenOk a_0.Stiff) <| sC (widenOk b_1.Stiff) <| sF (t_laws_sameFloat (fcv .f32 .f64 a_0.Stiff) (fcv .f32 .f64 b_1.Stiff)) <| s)
    clear q
    cases h3 : (v_laws_sameFloat (fcv .f32 .f64 a_0.Stiff) (fcv .f32 .f64 b_1.Stiff)) with
    | true =>
     refine fnS E0Ok hMixed (c := bodyOf f131) [] (.b true) [] func131 (p (sB' h3 <| sK [] sN)) rfl (by kernel_rfl) (by kernel_rfl) rfl ?_ ?_
     · simp only [v_laws_eqSpring, h0, h1, h2, h3, cond_true, cond_false]
     · rfl
    | false =>
     refine fnS E0Ok hMixed (c := bodyOf f131) [] (.b false) [] func131 (p (sB' h3 <| sK [] sN)) rfl (by kernel_rfl) (by kernel_rfl) rfl ?_ ?_
     · simp only [v_laws_eqSpring, h0, h1, h2, h3, cond_true, cond_false]
     · rfl
   | false =>
    refine fnS E0Ok hMixed (c := bodyOf f131) [] (.b false) [] func131 (q (sB' h2 <| sK [] sN)) rfl (by kernel_rfl) (by kernel_rfl) rfl ?_ ?_
    · simp only [v_laws_eqSpring, h0, h1, h2, cond_false]
    · rfl

theorem eqSpring_self (a : GSpring) : v_laws_eqSpring a a = true := by
  simp [v_laws_eqSpring, same_self]

def lo_laws_eqSpringS_1 (a_0 : (List GSpring)) (b_1 : (List GSpring)) : Nat → Int → (Unit) ⊕ (Unit)
  | 0, _ => .inl default
  | k + 1, i_l0 => (cond (decide (i_l0 < (a_0.length : Int)))
    (cond (v_laws_eqSpring (a_0.getD i_l0.toNat default) (b_1.getD i_l0.toNat default))
      (lo_laws_eqSpringS_1 a_0 b_1 k (i_l0 + 1))
      (.inl ()))
    (.inr ()))

def ls_laws_eqSpringS_1 (a_0 : (List GSpring)) (b_1 : (List GSpring)) : (Unit) ⊕ (Unit) → Ex × St
  | .inl r => (.ret, ⟨[.any, .any, .any, .any, .b false, .any, .any, .any, .any, .any, .any, .any, .any, .any, .any, .any, .any, .any, .any, .any, .any, .any, .any, .any, .any, .any, .any], []⟩)
  | .inr r => ((.exit 0), ⟨[.sl (a_0.map GSpring.cells), .sl (b_1.map GSpring.cells), .any, .any, .any, .any, .sl (a_0.map GSpring.cells), .i .i64 (a_0.length : Int), .sl (b_1.map GSpring.cells), .i .i64 (b_1.length : Int), .b ((a_0.length : Int) != (b_1.length : Int)), .any, .any, .any, .any, .any, .any, .any, .any, .any, .any, .any, .any, .any, .any, .any, .any], []⟩)

def hd_laws_eqSpringS_1 (a_0 : (List GSpring)) (b_1 : (List GSpring)) (i_l0 : Int) : St := ⟨[.sl (a_0.map GSpring.cells), .sl (b_1.map GSpring.cells), .any, .any, .any, .i .i64 i_l0, .sl (a_0.map GSpring.cells), .i .i64 (a_0.length : Int), .sl (b_1.map GSpring.cells), .i .i64 (b_1.length : Int), .b ((a_0.length : Int) != (b_1.length : Int)), .any, .any, .any, .any, .any, .any, .any, .any, .any, .any, .any, .any, .any, .any, .any, .any], []⟩

def mk_laws_eqSpringS_1_0 : List Bool := [true, true, false, false, false, true, true, true, true, true, true, false, false, false, false, false, false, false, false, false, false, false, false, false, false, false, false]

def mk_laws_eqSpringS_1_1 : List Bool := [false, false, false, false, true, false, false, false, false, false, false, false, false, false, false, false, false, false, false, false, false, false, false, false, false, false, false]

def mk_laws_eqSpringS_1_2 : List Bool := [true, true, false, false, false, false, true, true, true, true, true, false, false, false, false, false, false, false, false, false, false, false, false, false, false, false, false]

theorem lp_laws_eqSpringS_1 (a_0 : (List GSpring)) (b_1 : (List GSpring)) (hp0 : a_0.length ≤ 1073741824) (hp1 : b_1.length ≤ 1073741824) (hf_laws_eqSpringS_1_0 : ((a_0.length : Int) != (b_1.length : Int)) = false) : ∀ (k : Nat) (i_l0 : Int) (hv_laws_eqSpringS_1_0 : 0 ≤ i_l0) (hk : ((a_0.length : Int) - i_l0).toNat < k), Lp prog 0 (sub (bodyOf f95) [1, 1, 0, 1, 0, 0]) (hd_laws_eqSpringS_1 a_0 b_1 i_l0) (ls_laws_eqSpringS_1 a_0 b_1 (lo_laws_eqSpringS_1 a_0 b_1 k i_l0)).1 (ls_laws_eqSpringS_1 a_0 b_1 (lo_laws_eqSpringS_1 a_0 b_1 k i_l0)).2 := by
 intro k
 induction k with
 | zero => intro i_l0 hv_laws_eqSpringS_1_0 hk; exact absurd hk (Nat.not_lt_zero _)
 | succ k ih =>
  intro i_l0 hv_laws_eqSpringS_1_0 hk
  have p {a C} (s : Scr a C) := sZ GSpring.cells a_0 <| s
  cases h_0 : (decide (i_l0 < (a_0.length : Int))) with
  | true =>
   have gh_0 := of_decide_eq_true h_0
   have y_0 : (0 : Int) ≤ i_l0 := by clear p; exact (by first | assumption | omega | (simp_all <;> omega))
   have y_1 : i_l0 < (a_0.length : Int) := by clear p; exact (by first | assumption | omega | (simp_all <;> omega))
   have y_2 : i_l0 < (b_1.length : Int) := by clear p; exact (by first | assumption | omega | (simp_all <;> omega))
   have q {a C} (s : Scr a C) := p (sB h_0 <| sK [8, 8] <| sG GSpring.cells a_0 i_l0 y_0 y_1 <| sG GSpring.cells b_1 i_l0 y_0 y_2 <| sF (t_laws_eqSpring (a_0.getD i_l0.toNat default) (b_1.getD i_l0.toNat default)) <| s)
   clear p
   cases h_1 : (v_laws_eqSpring (a_0.getD i_l0.toNat default) (b_1.getD i_l0.toNat default)) with
   | true =>
    have y_3 : (-9223372036854775808 : Int) ≤ (i_l0 + 1) := by clear q; exact (by first | assumption | omega | (simp_all <;> omega))
    have y_4 : (i_l0 + 1) ≤ (9223372036854775807 : Int) := by clear q; exact (by first | assumption | omega | (simp_all <;> omega))
    have e : lo_laws_eqSpringS_1 a_0 b_1 (k + 1) i_l0 = (lo_laws_eqSpringS_1 a_0 b_1 k (i_l0 + 1)) := by simp only [lo_laws_eqSpringS_1, h_0, h_1, cond_true]
    rw [e]
    exact nextR E0Ok hMixed [] mk_laws_eqSpringS_1_0 [] (ih (i_l0 + 1) (show 0 ≤ (i_l0 + 1) from (by first | assumption | omega | (simp_all <;> omega))) (by first | assumption | omega | (simp_all <;> omega))) (q (sB' h_1 <| sI (i_l0 + 1) y_3 y_4 <| sN)) (by kernel_rfl)
   | false =>
    have e : lo_laws_eqSpringS_1 a_0 b_1 (k + 1) i_l0 = (.inl ()) := by simp only [lo_laws_eqSpringS_1, h_0, h_1, cond_true, cond_false]
    rw [e]
    exact outR (e := .ret) E0Ok hMixed [] mk_laws_eqSpringS_1_1 [] (q (sB' h_1 <| sN)) (by kernel_rfl) (by intro h; cases h)
  | false =>
   have gh_0 := of_decide_eq_false h_0
   have e : lo_laws_eqSpringS_1 a_0 b_1 (k + 1) i_l0 = (.inr ()) := by simp only [lo_laws_eqSpringS_1, h_0, cond_false]
   rw [e]
   exact outR (e := (.exit 0)) E0Ok hMixed [] mk_laws_eqSpringS_1_2 [] (p (sB h_0 <| sN)) (by kernel_rfl) (by intro h; cases h)

def lr_laws_eqSpringS_1_0 (a_0 : (List GSpring)) (b_1 : (List GSpring)) : (Unit) ⊕ (Unit) := (lo_laws_eqSpringS_1 a_0 b_1 (((a_0.length : Int) - 0).toNat + 1) 0)

def v_laws_eqSpringS (a_0 : (List GSpring)) (b_1 : (List GSpring)) : Bool := (cond ((a_0.length : Int) != (b_1.length : Int))
  false
  (match (lr_laws_eqSpringS_1_0 a_0 b_1) with
    | .inl r2 => false
    | .inr r2 => true))

theorem t_laws_eqSpringS (a_0 : (List GSpring)) (b_1 : (List GSpring)) (hp0 : a_0.length ≤ 1073741824) (hp1 : b_1.length ≤ 1073741824)  : Fn prog 95 [.sl (a_0.map GSpring.cells), .sl (b_1.map GSpring.cells)] (.b (v_laws_eqSpringS a_0 b_1)) [] := by
 have p {a C} (s : Scr a C) := sZ GSpring.cells a_0 <| sZ GSpring.cells b_1 <| s
 cases h0 : ((a_0.length : Int) != (b_1.length : Int)) with
 | true =>
  have gh0 := bne_iff_ne.1 h0
  refine fnS E0Ok hMixed (c := bodyOf f95) [] (.b false) [] func95 (p (sB h0 <| sK [] sN)) rfl (by kernel_rfl) (by kernel_rfl) rfl ?_ ?_
  · simp only [v_laws_eqSpringS, h0, cond_true]
  · rfl
 | false =>
  have gh0 := bne_eq_false_iff_eq.1 h0
  have q {a C} (s : Scr a C) := p (sB h0 <| s)
  clear p
  cases h1 : (lr_laws_eqSpringS_1_0 a_0 b_1) with
  | inl r2 =>
   refine fnS E0Ok hMixed (c := bodyOf f95) [] (.b false) [] func95 (q (sL mk_laws_eqSpringS_1_0 0 (lp_val (ls_laws_eqSpringS_1 a_0 b_1) (x := (lr_laws_eqSpringS_1_0 a_0 b_1)) (lp_laws_eqSpringS_1 a_0 b_1 hp0 hp1 h0 (((a_0.length : Int) - 0).toNat + 1) 0 (show 0 ≤ 0 from (by first | assumption | omega | (simp_all <;> omega))) (Nat.lt_succ_self _)) h1) <| sK [] sN)) rfl (by kernel_rfl) (by kernel_rfl) rfl ?_ ?_
   · simp only [v_laws_eqSpringS, h0, h1, cond_false]
   · rfl
  | inr r2 =>
   refine fnS E0Ok hMixed (c := bodyOf f95) [] (.b true) [] func95 (q (sL mk_laws_eqSpringS_1_0 0 (lp_val (ls_laws_eqSpringS_1 a_0 b_1) (x := (lr_laws_eqSpringS_1_0 a_0 b_1)) (lp_laws_eqSpringS_1 a_0 b_1 hp0 hp1 h0 (((a_0.length : Int) - 0).toNat + 1) 0 (show 0 ≤ 0 from (by first | assumption | omega | (simp_all <;> omega))) (Nat.lt_succ_self _)) h1) <| sK [] sN)) rfl (by kernel_rfl) (by kernel_rfl) rfl ?_ ?_
   · simp only [v_laws_eqSpringS, h0, h1, cond_false]
   · rfl

theorem eqSpringS_self (a : List GSpring) : v_laws_eqSpringS a a = true := by
  unfold v_laws_eqSpringS lr_laws_eqSpringS_1_0
  rw [all_from (a := a) (p := fun v => v_laws_eqSpring v v) (lo := lo_laws_eqSpringS_1 a a) (x := ()) (y := ()) (fun k i => rfl)]
  rw [show (a.all fun v => v_laws_eqSpring v v) = true from by rw [List.all_eq_true]; intro v _; exact eqSpring_self v]
  simp

def lo_laws_eqFloat32S_1 (a_0 : (List Nat)) (b_1 : (List Nat)) : Nat → Int → (Unit) ⊕ (Unit)
  | 0, _ => .inl default
  | k + 1, i_l0 => (cond (decide (i_l0 < (a_0.length : Int)))
    (cond (v_laws_sameFloat (fcv .f32 .f64 (a_0.getD i_l0.toNat default)) (fcv .f32 .f64 (b_1.getD i_l0.toNat default)))
      (lo_laws_eqFloat32S_1 a_0 b_1 k (i_l0 + 1))
      (.inl ()))
    (.inr ()))

def ls_laws_eqFloat32S_1 (a_0 : (List Nat)) (b_1 : (List Nat)) : (Unit) ⊕ (Unit) → Ex × St
  | .inl r => (.ret, ⟨[.any, .any, .any, .any, .b false, .any, .any, .any, .any, .any, .any, .any, .any, .any, .any, .any, .any, .any, .any, .any, .any, .any, .any, .any, .any, .any, .any, .any, .any], []⟩)
  | .inr r => ((.exit 0), ⟨[.sl (a_0.map (cF .f32)), .sl (b_1.map (cF .f32)), .any, .any, .any, .any, .sl (a_0.map (cF .f32)), .i .i64 (a_0.length : Int), .sl (b_1.map (cF .f32)), .i .i64 (b_1.length : Int), .b ((a_0.length : Int) != (b_1.length : Int)), .any, .any, .any, .any, .any, .any, .any, .any, .any, .any, .any, .any, .any, .any, .any, .any, .any, .any], []⟩)

def hd_laws_eqFloat32S_1 (a_0 : (List Nat)) (b_1 : (List Nat)) (i_l0 : Int) : St := ⟨[.sl (a_0.map (cF .f32)), .sl (b_1.map (cF .f32)), .any, .any, .any, .i .i64 i_l0, .sl (a_0.map (cF .f32)), .i .i64 (a_0.length : Int), .sl (b_1.map (cF .f32)), .i .i64 (b_1.length : Int), .b ((a_0.length : Int) != (b_1.length : Int)), .any, .any, .any, .any, .any, .any, .any, .any, .any, .any, .any, .any, .any, .any, .any, .any, .any, .any], []⟩

def mk_laws_eqFloat32S_1_0 : List Bool := [true, true, false, false, false, true, true, true, true, true, true, false, false, false, false, false, false, false, false, false, false, false, false, false, false, false, false, false, false]

def mk_laws_eqFloat32S_1_1 : List Bool := [false, false, false, false, true, false, false, false, false, false, false, false, false, false, false, false, false, false, false, false, false, false, false, false, false, false, false, false, false]

def mk_laws_eqFloat32S_1_2 : List Bool := [true, true, false, false, false, false, true, true, true, true, true, false, false, false, false, false, false, false, false, false, false, false, false, false, false, false, false, false, false]

theorem lp_laws_eqFloat32S_1 (a_0 : (List Nat)) (b_1 : (List Nat)) (hp0 : a_0.length ≤ 1073741824) (hp1 : b_1.length ≤ 1073741824) (hf_laws_eqFloat32S_1_0 : ((a_0.length : Int) != (b_1.length : Int)) = false) : ∀ (k : Nat) (i_l0 : Int) (hv_laws_eqFloat32S_1_0 : 0 ≤ i_l0) (hk : ((a_0.length : Int) - i_l0).toNat < k), Lp prog 0 (sub (bodyOf f25) [1, 1, 0, 1, 0, 0]) (hd_laws_eqFloat32S_1 a_0 b_1 i_l0) (ls_laws_eqFloat32S_1 a_0 b_1 (lo_laws_eqFloat32S_1 a_0 b_1 k i_l0)).1 (ls_laws_eqFloat32S_1 a_0 b_1 (lo_laws_eqFloat32S_1 a_0 b_1 k i_l0)).2 := by
 intro k
 induction k with
 | zero => intro i_l0 hv_laws_eqFloat32S_1_0 hk; exact absurd hk (Nat.not_lt_zero _)
 | succ k ih =>
  intro i_l0 hv_laws_eqFloat32S_1_0 hk
  have p {a C} (s : Scr a C) := sZ (cF .f32) a_0 <| s
  cases h_0 : (decide (i_l0 < (a_0.length : Int))) with
  | true =>
   have gh_0 := of_decide_eq_true h_0
   have y_0 : (0 : Int) ≤ i_l0 := by clear p; exact (by first | assumption | omega | (simp_all <;> omega))
   have y_1 : i_l0 < (a_0.length : Int) := by clear p; exact (by first | assumption | omega | (simp_all <;> omega))
   have y_2 : i_l0 < (b_1.length : Int) := by clear p; exact (by first | assumption | omega | (simp_all <;> omega))
   have q {a C} (s : Scr a C) := p (sB h_0 <| sK [10, 10] <| sG (cF .f32) a_0 i_l0 y_0 y_1 <| sC (widenOk (a_0.getD i_l0.toNat default)) <| sG (cF .f32) b_1 i_l0 y_0 y_2 <| sC (widenOk (b_1.getD i_l0.toNat default)) <| sF (t_laws_sameFloat (fcv .f32 .f64 (a_0.getD i_l0.toNat default)) (fcv .f32 .f64 (b_1.getD i_l0.toNat default))) <| s)
   clear p
   cases h_1 : (v_laws_sameFloat (fcv .f32 .f64 (a_0.getD i_l0.toNat default)) (fcv .f32 .f64 (b_1.getD i_l0.toNat default))) with
   | true =>
    have y_3 : (-9223372036854775808 : Int) ≤ (i_l0 + 1) := by clear q; exact (by first | assumption | omega | (simp_all <;> omega))
    have y_4 : (i_l0 + 1) ≤ (9223372036854775807 : Int) := by clear q; exact (by first | assumption | omega | (simp_all <;> omega))
    have e : lo_laws_eqFloat32S_1 a_0 b_1 (k + 1) i_l0 = (lo_laws_eqFloat32S_1 a_0 b_1 k (i_l0 + 1)) := by simp only [lo_laws_eqFloat32S_1, h_0, h_1, cond_true]
    rw [e]
    exact nextR E0Ok hMixed [] mk_laws_eqFloat32S_1_0 [] (ih (i_l0 + 1) (show 0 ≤ (i_l0 + 1) from (by first | assumption | omega | (simp_all <;> omega))) (by first | assumption | omega | (simp_all <;> omega))) (q (sB' h_1 <| sI (i_l0 + 1) y_3 y_4 <| sN)) (by kernel_rfl)
   | false =>
    have e : lo_laws_eqFloat32S_1 a_0 b_1 (k + 1) i_l0 = (.inl ()) := by simp only [lo_laws_eqFloat32S_1, h_0, h_1, cond_true, cond_false]
    rw [e]
    exact outR (e := .ret) E0Ok hMixed [] mk_laws_eqFloat32S_1_1 [] (q (sB' h_1 <| sN)) (by kernel_rfl) (by intro h; cases h)
  | false =>
   have gh_0 := of_decide_eq_false h_0
   have e : lo_laws_eqFloat32S_1 a_0 b_1 (k + 1) i_l0 = (.inr ()) := by simp only [lo_laws_eqFloat32S_1, h_0, cond_false]
   rw [e]
   exact outR (e := (.exit 0)) E0Ok hMixed [] mk_laws_eqFloat32S_1_2 [] (p (sB h_0 <| sN)) (by kernel_rfl) (by intro h; cases h)

def lr_laws_eqFloat32S_1_0 (a_0 : (List Nat)) (b_1 : (List Nat)) : (Unit) ⊕ (Unit) := (lo_laws_eqFloat32S_1 a_0 b_1 (((a_0.length : Int) - 0).toNat + 1) 0)

def v_laws_eqFloat32S (a_0 : (List Nat)) (b_1 : (List Nat)) : Bool := (cond ((a_0.length : Int) != (b_1.length : Int))
  false
  (match (lr_laws_eqFloat32S_1_0 a_0 b_1) with
    | .inl r2 => false
    | .inr r2 => true))

theorem t_laws_eqFloat32S (a_0 : (List Nat)) (b_1 : (List Nat)) (hp0 : a_0.length ≤ 1073741824) (hp1 : b_1.length ≤ 1073741824)  : Fn prog 25 [.sl (a_0.map (cF .f32)), .sl (b_1.map (cF .f32))] (.b (v_laws_eqFloat32S a_0 b_1)) [] := by
 have p {a C} (s : Scr a C) := sZ (cF .f32) a_0 <| sZ (cF .f32) b_1 <| s
 cases h0 : ((a_0.length : Int) != (b_1.length : Int)) with
 | true =>
  have gh0 := bne_iff_ne.1 h0
  refine fnS E0Ok hMixed (c := bodyOf f25) [] (.b false) [] func25 (p (sB h0 <| sK [] sN)) rfl (by kernel_rfl) (by kernel_rfl) rfl ?_ ?_
  · simp only [v_laws_eqFloat32S, h0, cond_true]
  · rfl
 | false =>
  have gh0 := bne_eq_false_iff_eq.1 h0
  have q {a C} (s : Scr a C) := p (sB h0 <| s)
  clear p
  cases h1 : (lr_laws_eqFloat32S_1_0 a_0 b_1) with
  | inl r2 =>
   refine fnS E0Ok hMixed (c := bodyOf f25) [] (.b false) [] func25 (q (sL mk_laws_eqFloat32S_1_0 0 (lp_val (ls_laws_eqFloat32S_1 a_0 b_1) (x := (lr_laws_eqFloat32S_1_0 a_0 b_1)) (lp_laws_eqFloat32S_1 a_0 b_1 hp0 hp1 h0 (((a_0.length : Int) - 0).toNat + 1) 0 (show 0 ≤ 0 from (by first | assumption | omega | (simp_all <;> omega))) (Nat.lt_succ_self _)) h1) <| sK [] sN)) rfl (by kernel_rfl) (by kernel_rfl) rfl ?_ ?_
   · simp only [v_laws_eqFloat32S, h0, h1, cond_false]
   · rfl
  | inr r2 =>
   refine fnS E0Ok hMixed (c := bodyOf f25) [] (.b true) [] func25 (q (sL mk_laws_eqFloat32S_1_0 0 (lp_val (ls_laws_eqFloat32S_1 a_0 b_1) (x := (lr_laws_eqFloat32S_1_0 a_0 b_1)) (lp_laws_eqFloat32S_1 a_0 b_1 hp0 hp1 h0 (((a_0.length : Int) - 0).toNat + 1) 0 (show 0 ≤ 0 from (by first | assumption | omega | (simp_all <;> omega))) (Nat.lt_succ_self _)) h1) <| sK [] sN)) rfl (by kernel_rfl) (by kernel_rfl) rfl ?_ ?_
   · simp only [v_laws_eqFloat32S, h0, h1, cond_false]
   · rfl

theorem eqFloat32S_self (a : List Nat) : v_laws_eqFloat32S a a = true := by
  unfold v_laws_eqFloat32S lr_laws_eqFloat32S_1_0
  rw [all_from (a := a) (p := fun v => v_laws_sameFloat (fcv .f32 .f64 v) (fcv .f32 .f64 v)) (lo := lo_laws_eqFloat32S_1 a a) (x := ()) (y := ()) (fun k i => rfl)]
  rw [show (a.all fun v => v_laws_sameFloat (fcv .f32 .f64 v) (fcv .f32 .f64 v)) = true from by rw [List.all_eq_true]; intro v _; exact same_self _]
  simp

def v_laws_eqBody (a_0 : GBody) (b_1 : GBody) : Bool := (cond (v_laws_eqMesh a_0.Mesh b_1.Mesh)
  (cond (v_laws_eqSpringS a_0.Springs b_1.Springs)
    (cond (v_laws_sameFloat (fcv .f32 .f64 a_0.Film) (fcv .f32 .f64 b_1.Film))
      (cond (v_laws_sameFloat (fcv .f32 .f64 a_0.Bend) (fcv .f32 .f64 b_1.Bend))
        (cond (v_laws_eqFloat32S a_0.Weights b_1.Weights)
          (cond (v_laws_eqVector a_0.Fall b_1.Fall)
            true
            false)
          false)
        false)
      false)
    false)
  false)

theorem t_laws_eqBody (a_0 : GBody) (b_1 : GBody) (hp0 : a_0.Mesh.Places.length ≤ 1073741824) (hp1 : a_0.Mesh.Triangles.length ≤ 1073741824) (hp2 : ∀ t ∈ a_0.Mesh.Triangles, t.length ≤ 1073741824) (hp3 : a_0.Springs.length ≤ 1073741824) (hp4 : a_0.Weights.length ≤ 1073741824) (hp5 : b_1.Mesh.Places.length ≤ 1073741824) (hp6 : b_1.Mesh.Triangles.length ≤ 1073741824) (hp7 : ∀ t ∈ b_1.Mesh.Triangles, t.length ≤ 1073741824) (hp8 : b_1.Springs.length ≤ 1073741824) (hp9 : b_1.Weights.length ≤ 1073741824)  : Fn prog 43 [.agg [.sl (a_0.Mesh.Places.map GVector.cells), .sl (a_0.Mesh.Triangles.map (cL (cI .i64))), .sl (a_0.Springs.map GSpring.cells), .f .f32 a_0.Film, .f .f32 a_0.Bend, .sl (a_0.Weights.map (cF .f32)), .f .f32 a_0.Fall.X, .f .f32 a_0.Fall.Y, .f .f32 a_0.Fall.Z], .agg [.sl (b_1.Mesh.Places.map GVector.cells), .sl (b_1.Mesh.Triangles.map (cL (cI .i64))), .sl (b_1.Springs.map GSpring.cells), .f .f32 b_1.Film, .f .f32 b_1.Bend, .sl (b_1.Weights.map (cF .f32)), .f .f32 b_1.Fall.X, .f .f32 b_1.Fall.Y, .f .f32 b_1.Fall.Z]] (.b (v_laws_eqBody a_0 b_1)) [] := by
 have p {a C} (s : Scr a C) := sF (t_laws_eqMesh a_0.Mesh b_1.Mesh hp0 hp1 hp2 hp5 hp6 hp7) <| s
 cases h0 : (v_laws_eqMesh a_0.Mesh b_1.Mesh) with
 | true =>
  have q {a C} (s : Scr a C) := p (sB' h0 <| sF (t_laws_eqSpringS a_0.Springs b_1.Springs hp3 hp8) <| s)
  clear p
  cases h1 : (v_laws_eqSpringS a_0.Springs b_1.Springs) with
  | true =>
   have p {a C} (s : Scr a C) := q (sB' h1 <| sC (widenOk a_0.Film) <| sC (widenOk b_1.Film) <| sF (t_laws_sameFloat (fcv .f32 .f64 a_0.Film) (fcv .f32 .f64 b_1.Film)) <| s)
   clear q
   cases h2 : (v_laws_sameFloat (fcv .f32 .f64 a_0.Film) (fcv .f32 .f64 b_1.Film)) with
   | true =>
    have q {a C} (s : Scr a C) := p (sB' h2 <| sC (widenOk a_0.Bend) <| sC (widenOk b_1.Bend) <| sF (t_laws_sameFloat (fcv .f32 .f64 a_0.Bend) (fcv .f32 .f64 b_1.Bend)) <| s)
    clear p
    cases h3 : (v_laws_sameFloat (fcv .f32 .f64 a_0.Bend) (fcv .f32 .f64 b_1.Bend)) with
    | true =>
     have p {a C} (s : Scr a C) := q (sB' h3 <| sF (t_laws_eqFloat32S a_0.Weights b_1.Weights hp4 hp9) <| s)
     clear q
     cases h4 : (v_laws_eqFloat32S a_0.Weights b_1.Weights) with
     | true =>
      have q {a C} (s : Scr a C) := p (sB' h4 <| sF (t_laws_eqVector a_0.Fall b_1.Fall) <| s)
      clear p
      cases h5 : (v_laws_eqVector a_0.Fall b_1.Fall) with
      | true =>
       refine fnS E0Ok hMixed (c := bodyOf f43) [] (.b true) [] func43 (q (sB' h5 <| sK [] sN)) rfl (by kernel_rfl) (by kernel_rfl) rfl ?_ ?_
       · simp only [v_laws_eqBody, h0, h1, h2, h3, h4, h5, cond_true]
       · rfl
      | false =>
       refine fnS E0Ok hMixed (c := bodyOf f43) [] (.b false) [] func43 (q (sB' h5 <| sK [] sN)) rfl (by kernel_rfl) (by kernel_rfl) rfl ?_ ?_
       · simp only [v_laws_eqBody, h0, h1, h2, h3, h4, h5, cond_true, cond_false]
       · rfl
     | false =>
      refine fnS E0Ok hMixed (c := bodyOf f43) [] (.b false) [] func43 (p (sB' h4 <| sK [] sN)) rfl (by kernel_rfl) (by kernel_rfl) rfl ?_ ?_
      · simp only [v_laws_eqBody, h0, h1, h2, h3, h4, cond_true, cond_false]
      · rfl
    | false =>
     refine fnS E0Ok hMixed (c := bodyOf f43) [] (.b false) [] func43 (q (sB' h3 <| sK [] sN)) rfl (by kernel_rfl) (by kernel_rfl) rfl ?_ ?_
     · simp only [v_laws_eqBody, h0, h1, h2, h3, cond_true, cond_false]
     · rfl
   | false =>
    refine fnS E0Ok hMixed (c := bodyOf f43) [] (.b false) [] func43 (p (sB' h2 <| sK [] sN)) rfl (by kernel_rfl) (by kernel_rfl) rfl ?_ ?_
    · simp only [v_laws_eqBody, h0, h1, h2, cond_true, cond_false]
    · rfl
  | false =>
   refine fnS E0Ok hMixed (c := bodyOf f43) [] (.b false) [] func43 (q (sB' h1 <| sK [] sN)) rfl (by kernel_rfl) (by kernel_rfl) rfl ?_ ?_
   · simp only [v_laws_eqBody, h0, h1, cond_true, cond_false]
   · rfl
 | false =>
  refine fnS E0Ok hMixed (c := bodyOf f43) [] (.b false) [] func43 (p (sB' h0 <| sK [] sN)) rfl (by kernel_rfl) (by kernel_rfl) rfl ?_ ?_
  · simp only [v_laws_eqBody, h0, cond_false]
  · rfl

theorem eqBody_self (a : GBody) : v_laws_eqBody a a = true := by
  simp [v_laws_eqBody, same_self, eqVector_self, eqMesh_self, eqSpringS_self, eqFloat32S_self]

def v_laws_FnExactEnergyOf (aB_0 : GBody) : Bool := (cond (decide ((v_laws_szBody aB_0 1048576) < 0))
  true
  (cond (v_laws_sameFloat (fcv .f32 .f64 ((v_impl_EnergyOf aB_0).1)) (fcv .f32 .f64 ((v_spec_EnergyOf aB_0).1)))
    (cond ((v_impl_EnergyOf aB_0).2 == (v_spec_EnergyOf aB_0).2)
      (cond (v_laws_eqBody aB_0 aB_0)
        true
        false)
      false)
    false))

set_option maxHeartbeats 1000000 in
theorem t_laws_FnExactEnergyOf (aB_0 : GBody) (hp0 : aB_0.Mesh.Places.length ≤ 9223372036854775807) (hp1 : aB_0.Mesh.Triangles.length ≤ 9223372036854775807) (hp2 : ∀ t ∈ aB_0.Mesh.Triangles, t.length ≤ 9223372036854775807) (hp3 : aB_0.Springs.length ≤ 9223372036854775807) (hp4 : aB_0.Weights.length ≤ 9223372036854775807)  : Fn prog 8 [.agg [.sl (aB_0.Mesh.Places.map GVector.cells), .sl (aB_0.Mesh.Triangles.map (cL (cI .i64))), .sl (aB_0.Springs.map GSpring.cells), .f .f32 aB_0.Film, .f .f32 aB_0.Bend, .sl (aB_0.Weights.map (cF .f32)), .f .f32 aB_0.Fall.X, .f .f32 aB_0.Fall.Y, .f .f32 aB_0.Fall.Z]] (.b (v_laws_FnExactEnergyOf aB_0)) [] := by
 have z0 := (ok_laws_szBody aB_0 1048576 (by omega) (by omega) (by assumption) (by omega) (by omega) (by omega) (by omega))
 have p {a C} (s : Scr a C) := sF (t_laws_szBody aB_0 1048576 hp0 hp1 hp2 hp3 hp4) <| s
 cases h0 : (decide ((v_laws_szBody aB_0 1048576) < 0)) with
 | true =>
  have gh0 := of_decide_eq_true h0
  refine fnS E0Ok hMixed (c := bodyOf f8) [] (.b true) [] func8 (p (sB h0 <| sK [] sN)) rfl (by kernel_rfl) (by kernel_rfl) rfl ?_ ?_
  · simp only [v_laws_FnExactEnergyOf, h0, cond_true]
  · rfl
 | false =>
  have gh0 := of_decide_eq_false h0
  have y0 : aB_0.Mesh.Places.length ≤ 1073741824 := by clear p; exact (by first | assumption | omega | (simp_all <;> omega))
  have y1 : aB_0.Mesh.Triangles.length ≤ 1073741824 := by clear p; exact (by first | assumption | omega | (simp_all <;> omega))
  have y2 : ∀ t ∈ aB_0.Mesh.Triangles, t.length ≤ 1073741824 := by clear p; exact (by first | assumption | (intro t ht; first | (have q := z0.2.2.2.2.2.2 t ht; omega)) | omega | (simp_all <;> omega))
  have y3 : aB_0.Springs.length ≤ 1073741824 := by clear p; exact (by first | assumption | omega | (simp_all <;> omega))
  have y4 : aB_0.Weights.length ≤ 1073741824 := by clear p; exact (by first | assumption | omega | (simp_all <;> omega))
  have q {a C} (s : Scr a C) := p (sB h0 <| sF (i_laws_toBody aB_0 y0 y1 y2 y3 y4) <| sF (Fn.castA (args' := [.agg [.sl (aB_0.Mesh.Places.map GVector.cells), .sl ((aB_0.Mesh.Triangles.map fun l => l.map (cI .i64)).map fun l => [.sl l]), .sl (aB_0.Springs.map GSpring.cells), .f .f32 aB_0.Film, .f .f32 aB_0.Bend, .sl (aB_0.Weights.map (cF .f32)), .f .f32 aB_0.Fall.X, .f .f32 aB_0.Fall.Y, .f .f32 aB_0.Fall.Z]]) (t_spec_EnergyOf aB_0 y0 y1 y2 y3 y4) (by first | (simp [cL, Function.comp_def]; done) | (simp [cL, Function.comp_def]; rfl))) <| sF (i_laws_toBody aB_0 y0 y1 y2 y3 y4) <| sF (Fn.castA (args' := [.agg [.sl (aB_0.Mesh.Places.map GVector.cells), .sl ((aB_0.Mesh.Triangles.map fun l => l.map (cI .i64)).map fun l => [.sl l]), .sl (aB_0.Springs.map GSpring.cells), .f .f32 aB_0.Film, .f .f32 aB_0.Bend, .sl (aB_0.Weights.map (cF .f32)), .f .f32 aB_0.Fall.X, .f .f32 aB_0.Fall.Y, .f .f32 aB_0.Fall.Z]]) (t_impl_EnergyOf aB_0 y0 y1 y2 y3 y4) (by first | (simp [cL, Function.comp_def]; done) | (simp [cL, Function.comp_def]; rfl))) <| sC (widenOk ((v_impl_EnergyOf aB_0).1)) <| sC (widenOk ((v_spec_EnergyOf aB_0).1)) <| sF (t_laws_sameFloat (fcv .f32 .f64 ((v_impl_EnergyOf aB_0).1)) (fcv .f32 .f64 ((v_spec_EnergyOf aB_0).1))) <| s)
  clear p
  cases h1 : (v_laws_sameFloat (fcv .f32 .f64 ((v_impl_EnergyOf aB_0).1)) (fcv .f32 .f64 ((v_spec_EnergyOf aB_0).1))) with
  | true =>
   have p {a C} (s : Scr a C) := q (sB' h1 <| sB' h1 <| sB' h1 <| sB' h1 <| s)
   clear q
   cases h2 : ((v_impl_EnergyOf aB_0).2 == (v_spec_EnergyOf aB_0).2) with
   | true =>
    have gh2 := eq_of_beq h2
    have q {a C} (s : Scr a C) := p (sB' h2 <| sK [3, 3] <| sF (i_laws_toBody aB_0 y0 y1 y2 y3 y4) <| sF (Fn.castA (args' := [.agg [.sl (aB_0.Mesh.Places.map GVector.cells), .sl ((aB_0.Mesh.Triangles.map fun l => l.map (cI .i64)).map fun l => [.sl l]), .sl (aB_0.Springs.map GSpring.cells), .f .f32 aB_0.Film, .f .f32 aB_0.Bend, .sl (aB_0.Weights.map (cF .f32)), .f .f32 aB_0.Fall.X, .f .f32 aB_0.Fall.Y, .f .f32 aB_0.Fall.Z], .agg [.sl (aB_0.Mesh.Places.map GVector.cells), .sl ((aB_0.Mesh.Triangles.map fun l => l.map (cI .i64)).map fun l => [.sl l]), .sl (aB_0.Springs.map GSpring.cells), .f .f32 aB_0.Film, .f .f32 aB_0.Bend, .sl (aB_0.Weights.map (cF .f32)), .f .f32 aB_0.Fall.X, .f .f32 aB_0.Fall.Y, .f .f32 aB_0.Fall.Z]]) (t_laws_eqBody aB_0 aB_0 y0 y1 y2 y3 y4 y0 y1 y2 y3 y4) (by first | (simp [cL, Function.comp_def]; done) | (simp [cL, Function.comp_def]; rfl))) <| s)
    clear p
    cases h3 : (v_laws_eqBody aB_0 aB_0) with
    | true =>
     refine fnS E0Ok hMixed (c := bodyOf f8) [] (.b true) [] func8 (q (sB' h3 <| sK [] sN)) rfl (by kernel_rfl) (by kernel_rfl) rfl ?_ ?_
     · simp only [v_laws_FnExactEnergyOf, h0, h1, h2, h3, cond_true, cond_false]
     · rfl
    | false =>
     refine fnS E0Ok hMixed (c := bodyOf f8) [] (.b false) [] func8 (q (sB' h3 <| sK [] sN)) rfl (by kernel_rfl) (by kernel_rfl) rfl ?_ ?_
     · simp only [v_laws_FnExactEnergyOf, h0, h1, h2, h3, cond_true, cond_false]
     · rfl
   | false =>
    have gh2 := ne_of_beq_false h2
    refine fnS E0Ok hMixed (c := bodyOf f8) [] (.b false) [] func8 (p (sB' h2 <| sK [] sN)) rfl (by kernel_rfl) (by kernel_rfl) rfl ?_ ?_
    · simp only [v_laws_FnExactEnergyOf, h0, h1, h2, cond_true, cond_false]
    · rfl
  | false =>
   refine fnS E0Ok hMixed (c := bodyOf f8) [] (.b false) [] func8 (q (sB' h1 <| sB' h1 <| sB' h1 <| sB' h1 <| sB (show true = true from rfl) <| sK [] sN)) rfl (by kernel_rfl) (by kernel_rfl) rfl ?_ ?_
   · simp only [v_laws_FnExactEnergyOf, h0, h1, cond_false]
   · rfl

theorem eq_EnergyOf (b : GBody) : v_impl_EnergyOf b = v_spec_EnergyOf b := by
  unfold v_impl_EnergyOf v_spec_EnergyOf
  rw [eq_ValidBody]
  cases h : v_spec_l03Is b with
  | false => rfl
  | true => rw [cond_true, cond_true, eq_energyOf b (okBd_is b h)]
theorem true_laws_FnExactEnergyOf (a : GBody) (h0_0 : a.Mesh.Places.length ≤ 9223372036854775807) (h0_1 : a.Mesh.Triangles.length ≤ 9223372036854775807) (h0_2 : ∀ t ∈ a.Mesh.Triangles, t.length ≤ 9223372036854775807) (h0_3 : a.Springs.length ≤ 9223372036854775807) (h0_4 : a.Weights.length ≤ 9223372036854775807) : v_laws_FnExactEnergyOf a = true := by
  unfold v_laws_FnExactEnergyOf
  simp [eqBody_self, eq_EnergyOf, same_self]

end Go.Ab
