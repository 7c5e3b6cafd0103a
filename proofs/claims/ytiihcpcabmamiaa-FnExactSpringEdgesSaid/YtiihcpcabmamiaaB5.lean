/- The functions of this seat as plain Lean, and that the program's are these. Printed by a program of the prover's own. -/
import Derived.Test.YtiihcpcabmamiaaB4
set_option linter.unusedVariables false
set_option linter.unusedSimpArgs false
set_option maxRecDepth 100000
namespace Go.Ab
open Go.RowKit Go.Proofs.Try

def v_laws_eqMesh (a_0 : GMesh) (b_1 : GMesh) : Bool := (cond (v_laws_eqVectorS a_0.Places b_1.Places)
  (cond (v_laws_eqInt64SS a_0.Triangles b_1.Triangles)
    true
    false)
  false)

theorem t_laws_eqMesh (a_0 : GMesh) (b_1 : GMesh) (hp0 : a_0.Places.length ≤ 1073741824) (hp1 : a_0.Triangles.length ≤ 1073741824) (hp2 : ∀ t ∈ a_0.Triangles, t.length ≤ 1073741824) (hp3 : b_1.Places.length ≤ 1073741824) (hp4 : b_1.Triangles.length ≤ 1073741824) (hp5 : ∀ t ∈ b_1.Triangles, t.length ≤ 1073741824)  : Fn prog 16 [.agg [.sl (a_0.Places.map GVector.cells), .sl (a_0.Triangles.map (cL (cI .i64)))], .agg [.sl (b_1.Places.map GVector.cells), .sl (b_1.Triangles.map (cL (cI .i64)))]] (.b (v_laws_eqMesh a_0 b_1)) [] := by
 have p {a C} (s : Scr a C) := sF (t_laws_eqVectorS a_0.Places b_1.Places hp0 hp3) <| s
 cases h0 : (v_laws_eqVectorS a_0.Places b_1.Places) with
 | true =>
  have q {a C} (s : Scr a C) := p (sB' h0 <| sF (t_laws_eqInt64SS a_0.Triangles b_1.Triangles hp1 hp2 hp4 hp5) <| s)
  clear p
  cases h1 : (v_laws_eqInt64SS a_0.Triangles b_1.Triangles) with
  | true =>
   refine fnS E0Ok hMixed (c := bodyOf f16) [] (.b true) [] func16 (q (sB' h1 <| sK [] sN)) rfl (by kernel_rfl) (by kernel_rfl) rfl ?_ ?_
   · simp only [v_laws_eqMesh, h0, h1, cond_true]
   · rfl
  | false =>
   refine fnS E0Ok hMixed (c := bodyOf f16) [] (.b false) [] func16 (q (sB' h1 <| sK [] sN)) rfl (by kernel_rfl) (by kernel_rfl) rfl ?_ ?_
   · simp only [v_laws_eqMesh, h0, h1, cond_true, cond_false]
   · rfl
 | false =>
  refine fnS E0Ok hMixed (c := bodyOf f16) [] (.b false) [] func16 (p (sB' h0 <| sK [] sN)) rfl (by kernel_rfl) (by kernel_rfl) rfl ?_ ?_
  · simp only [v_laws_eqMesh, h0, cond_false]
  · rfl

theorem eqMesh_self (a : GMesh) : v_laws_eqMesh a a = true := by
  simp [v_laws_eqMesh, eqVectorS_self, eqInt64SS_self]

def v_laws_eqSpring (a_0 : GSpring) (b_1 : GSpring) : Bool := (cond (a_0.A != b_1.A)
  false
  (cond (a_0.B != b_1.B)
    false
    (cond (v_laws_sameFloat (fcv .f32 .f64 a_0.Long) (fcv .f32 .f64 b_1.Long))
      (cond (v_laws_sameFloat (fcv .f32 .f64 a_0.Stiff) (fcv .f32 .f64 b_1.Stiff))
        true
        false)
      false)))

theorem t_laws_eqSpring (a_0 : GSpring) (b_1 : GSpring)   : Fn prog 131 [.agg [.i .i64 a_0.A, .i .i64 a_0.B, .f .f32 a_0.Long, .f .f32 a_0.Stiff], .agg [.i .i64 b_1.A, .i .i64 b_1.B, .f .f32 b_1.Long, .f .f32 b_1.Stiff]] (.b (v_laws_eqSpring a_0 b_1)) [] := by
 cases h0 : (a_0.A != b_1.A) with
 | true =>
  have gh0 := bne_iff_ne.1 h0
  refine fnS E0Ok hMixed (c := bodyOf f131) [] (.b false) [] func131 (sB h0 <| sK [] sN) rfl (by kernel_rfl) (by kernel_rfl) rfl ?_ ?_
  · simp only [v_laws_eqSpring, h0, cond_true]
  · rfl
 | false =>
  have gh0 := bne_eq_false_iff_eq.1 h0
  have p {a C} (s : Scr a C) := sB h0 <| s
  cases h1 : (a_0.B != b_1.B) with
  | true =>
   have gh1 := bne_iff_ne.1 h1
   refine fnS E0Ok hMixed (c := bodyOf f131) [] (.b false) [] func131 (p (sB h1 <| sK [] sN)) rfl (by kernel_rfl) (by kernel_rfl) rfl ?_ ?_
   · simp only [v_laws_eqSpring, h0, h1, cond_true, cond_false]
   · rfl
  | false =>
   have gh1 := bne_eq_false_iff_eq.1 h1
   have q {a C} (s : Scr a C) := p (sB h1 <| sC (widenOk a_0.Long) <| sC (widenOk b_1.Long) <| sF (t_laws_sameFloat (fcv .f32 .f64 a_0.Long) (fcv .f32 .f64 b_1.Long)) <| s)
   clear p
   cases h2 : (v_laws_sameFloat (fcv .f32 .f64 a_0.Long) (fcv .f32 .f64 b_1.Long)) with
   | true =>
    have p {a C} (s : Scr a C) := q (sB' h2 <| sC (widenOk a_0.Stiff) <| sC (widenOk b_1.Stiff) <| sF (t_laws_sameFloat (fcv .f32 .f64 a_0.Stiff) (fcv .f32 .f64 b_1.Stiff)) <| s)
    clear q
    cases h3 : (v_laws_sameFloat (fcv .f32 .f64 a_0.Stiff) (fcv .f32 .f64 b_1.Stiff)) with
    | true =>
     refine fnS E0Ok hMixed (c := bodyOf f131) [] (.b true) [] func131 (p (sB' h3 <| sK [] sN)) rfl (by kernel_rfl) (by kernel_rfl) rfl ?_ ?_
     · simp only [v_laws_eqSpring, h0, h1, h2, h3, cond_true, cond_false]
     · rfl
    | false =>
     refine fnS E0Ok hMixed (c := bodyOf f131) [] (.b false) [] func131 (p (sB' h3 <| sK [] sN)) rfl (by kernel_rfl) (by kernel_rfl) rfl ?_ ?_
     · simp only [v_laws_eqSpring, h0, h1, h2, h3, cond_true, cond_false]
     · rfl
   | false =>
    refine fnS E0Ok hMixed (c := bodyOf f131) [] (.b false) [] func131 (q (sB' h2 <| sK [] sN)) rfl (by kernel_rfl) (by kernel_rfl) rfl ?_ ?_
    · simp only [v_laws_eqSpring, h0, h1, h2, cond_false]
    · rfl

theorem eqSpring_self (a : GSpring) : v_laws_eqSpring a a = true := by
  simp [v_laws_eqSpring, same_self]

def lo_laws_eqSpringS_1 (a_0 : (List GSpring)) (b_1 : (List GSpring)) : Nat → Int → (Unit) ⊕ (Unit)
  | 0, _ => .inl default
  | k + 1, i_l0 => (cond (decide (i_l0 < (a_0.length : Int)))
    (cond (v_laws_eqSpring (a_0.getD i_l0.toNat default) (b_1.getD i_l0.toNat default))
      (lo_laws_eqSpringS_1 a_0 b_1 k (i_l0 + 1))
      (.inl ()))
    (.inr ()))

def ls_laws_eqSpringS_1 (a_0 : (List GSpring)) (b_1 : (List GSpring)) : (Unit) ⊕ (Unit) → Ex × St
  | .inl r => (.ret, ⟨[.any, .any, .any, .any, .b false, .any, .any, .any, .any, .any, .any, .any, .any, .any, .any, .any, .any, .any, .any, .any, .any, .any, .any, .any, .any, .any, .any], []⟩)
  | .inr r => ((.exit 0), ⟨[.sl (a_0.map GSpring.cells), .sl (b_1.map GSpring.cells), .any, .any, .any, .any, .sl (a_0.map GSpring.cells), .i .i64 (a_0.length : Int), .sl (b_1.map GSpring.cells), .i .i64 (b_1.length : Int), .b ((a_0.length : Int) != (b_1.length : Int)), .any, .any, .any, .any, .any, .any, .any, .any, .any, .any, .any, .any, .any, .any, .any, .any], []⟩)

def hd_laws_eqSpringS_1 (a_0 : (List GSpring)) (b_1 : (List GSpring)) (i_l0 : Int) : St := ⟨[.sl (a_0.map GSpring.cells), .sl (b_1.map GSpring.cells), .any, .any, .any, .i .i64 i_l0, .sl (a_0.map GSpring.cells), .i .i64 (a_0.length : Int), .sl (b_1.map GSpring.cells), .i .i64 (b_1.length : Int), .b ((a_0.length : Int) != (b_1.length : Int)), .any, .any, .any, .any, .any, .any, .any, .any, .any, .any, .any, .any, .any, .any, .any, .any], []⟩

def mk_laws_eqSpringS_1_0 : List Bool := [true, true, false, false, false, true, true, true, true, true, true, false, false, false, false, false, false, false, false, false, false, false, false, false, false, false, false]

def mk_laws_eqSpringS_1_1 : List Bool := [false, false, false, false, true, false, false, false, false, false, false, false, false, false, false, false, false, false, false, false, false, false, false, false, false, false, false]

def mk_laws_eqSpringS_1_2 : List Bool := [true, true, false, false, false, false, true, true, true, true, true, false, false, false, false, false, false, false, false, false, false, false, false, false, false, false, false]

theorem lp_laws_eqSpringS_1 (a_0 : (List GSpring)) (b_1 : (List GSpring)) (hp0 : a_0.length ≤ 1073741824) (hp1 : b_1.length ≤ 1073741824) (hf_laws_eqSpringS_1_0 : ((a_0.length : Int) != (b_1.length : Int)) = false) : ∀ (k : Nat) (i_l0 : Int) (hv_laws_eqSpringS_1_0 : 0 ≤ i_l0) (hk : ((a_0.length : Int) - i_l0).toNat < k), Lp prog 0 (sub (bodyOf f95) [1, 1, 0, 1, 0, 0]) (hd_laws_eqSpringS_1 a_0 b_1 i_l0) (ls_laws_eqSpringS_1 a_0 b_1 (lo_laws_eqSpringS_1 a_0 b_1 k i_l0)).1 (ls_laws_eqSpringS_1 a_0 b_1 (lo_laws_eqSpringS_1 a_0 b_1 k i_l0)).2 := by
 intro k
 induction k with
 | zero => intro i_l0 hv_laws_eqSpringS_1_0 hk; exact absurd hk (Nat.not_lt_zero _)
 | succ k ih =>
  intro i_l0 hv_laws_eqSpringS_1_0 hk
  have p {a C} (s : Scr a C) := sZ GSpring.cells a_0 <| s
  cases h_0 : (decide (i_l0 < (a_0.length : Int))) with
  | true =>
   have gh_0 := of_decide_eq_true h_0
   have y_0 : (0 : Int) ≤ i_l0 := by clear p; exact (by first | assumption | omega | (simp_all <;> omega))
   have y_1 : i_l0 < (a_0.length : Int) := by clear p; exact (by first | assumption | omega | (simp_all <;> omega))
   have y_2 : i_l0 < (b_1.length : Int) := by clear p; exact (by first | assumption | omega | (simp_all <;> omega))
   have q {a C} (s : Scr a C) := p (sB h_0 <| sK [8, 8] <| sG GSpring.cells a_0 i_l0 y_0 y_1 <| sG GSpring.cells b_1 i_l0 y_0 y_2 <| sF (t_laws_eqSpring (a_0.getD i_l0.toNat default) (b_1.getD i_l0.toNat default)) <| s)
   clear p
   cases h_1 : (v_laws_eqSpring (a_0.getD i_l0.toNat default) (b_1.getD i_l0.toNat default)) with
   | true =>
    have y_3 : (-9223372036854775808 : Int) ≤ (i_l0 + 1) := by clear q; exact (by first | assumption | omega | (simp_all <;> omega))
    have y_4 : (i_l0 + 1) ≤ (9223372036854775807 : Int) := by clear q; exact (by first | assumption | omega | (simp_all <;> omega))
    have e : lo_laws_eqSpringS_1 a_0 b_1 (k + 1) i_l0 = (lo_laws_eqSpringS_1 a_0 b_1 k (i_l0 + 1)) := by simp only [lo_laws_eqSpringS_1, h_0, h_1, cond_true]
    rw [e]
    exact nextR E0Ok hMixed [] mk_laws_eqSpringS_1_0 [] (ih (i_l0 + 1) (show 0 ≤ (i_l0 + 1) from (by first | assumption | omega | (simp_all <;> omega))) (by first | assumption | omega | (simp_all <;> omega))) (q (sB' h_1 <| sI (i_l0 + 1) y_3 y_4 <| sN)) (by kernel_rfl)
   | false =>
    have e : lo_laws_eqSpringS_1 a_0 b_1 (k + 1) i_l0 = (.inl ()) := by simp only [lo_laws_eqSpringS_1, h_0, h_1, cond_true, cond_false]
    rw [e]
    exact outR (e := .ret) E0Ok hMixed [] mk_laws_eqSpringS_1_1 [] (q (sB' h_1 <| sN)) (by kernel_rfl) (by intro h; cases h)
  | false =>
   have gh_0 := of_decide_eq_false h_0
   have e : lo_laws_eqSpringS_1 a_0 b_1 (k + 1) i_l0 = (.inr ()) := by simp only [lo_laws_eqSpringS_1, h_0, cond_false]
   rw [e]
   exact outR (e := (.exit 0)) E0Ok hMixed [] mk_laws_eqSpringS_1_2 [] (p (sB h_0 <| sN)) (by kernel_rfl) (by intro h; cases h)

def lr_laws_eqSpringS_1_0 (a_0 : (List GSpring)) (b_1 : (List GSpring)) : (Unit) ⊕ (Unit) := (lo_laws_eqSpringS_1 a_0 b_1 (((a_0.length : Int) - 0).toNat + 1) 0)

def v_laws_eqSpringS (a_0 : (List GSpring)) (b_1 : (List GSpring)) : Bool := (cond ((a_0.length : Int) != (b_1.length : Int))
  false
  (match (lr_laws_eqSpringS_1_0 a_0 b_1) with
    | .inl r2 => false
    | .inr r2 => true))

theorem t_laws_eqSpringS (a_0 : (List GSpring)) (b_1 : (List GSpring)) (hp0 : a_0.length ≤ 1073741824) (hp1 : b_1.length ≤ 1073741824)  : Fn prog 95 [.sl (a_0.map GSpring.cells), .sl (b_1.map GSpring.cells)] (.b (v_laws_eqSpringS a_0 b_1)) [] := by
 have p {a C} (s : Scr a C) := sZ GSpring.cells a_0 <| sZ GSpring.cells b_1 <| s
 cases h0 : ((a_0.length : Int) != (b_1.length : Int)) with
 | true =>
  have gh0 := bne_iff_ne.1 h0
  refine fnS E0Ok hMixed (c := bodyOf f95) [] (.b false) [] func95 (p (sB h0 <| sK [] sN)) rfl (by kernel_rfl) (by kernel_rfl) rfl ?_ ?_
  · simp only [v_laws_eqSpringS, h0, cond_true]
  · rfl
 | false =>
  have gh0 := bne_eq_false_iff_eq.1 h0
  have q {a C} (s : Scr a C) := p (sB h0 <| s)
  clear p
  cases h1 : (lr_laws_eqSpringS_1_0 a_0 b_1) with
  | inl r2 =>
   refine fnS E0Ok hMixed (c := bodyOf f95) [] (.b false) [] func95 (q (sL mk_laws_eqSpringS_1_0 0 (lp_val (ls_laws_eqSpringS_1 a_0 b_1) (x := (lr_laws_eqSpringS_1_0 a_0 b_1)) (lp_laws_eqSpringS_1 a_0 b_1 hp0 hp1 h0 (((a_0.length : Int) - 0).toNat + 1) 0 (show 0 ≤ 0 from (by first | assumption | omega | (simp_all <;> omega))) (Nat.lt_succ_self _)) h1) <| sK [] sN)) rfl (by kernel_rfl) (by kernel_rfl) rfl ?_ ?_
   · simp only [v_laws_eqSpringS, h0, h1, cond_false]
   · rfl
  | inr r2 =>
   refine fnS E0Ok hMixed (c := bodyOf f95) [] (.b true) [] func95 (q (sL mk_laws_eqSpringS_1_0 0 (lp_val (ls_laws_eqSpringS_1 a_0 b_1) (x := (lr_laws_eqSpringS_1_0 a_0 b_1)) (lp_laws_eqSpringS_1 a_0 b_1 hp0 hp1 h0 (((a_0.length : Int) - 0).toNat + 1) 0 (show 0 ≤ 0 from (by first | assumption | omega | (simp_all <;> omega))) (Nat.lt_succ_self _)) h1) <| sK [] sN)) rfl (by kernel_rfl) (by kernel_rfl) rfl ?_ ?_
   · simp only [v_laws_eqSpringS, h0, h1, cond_false]
   · rfl

theorem eqSpringS_self (a : List GSpring) : v_laws_eqSpringS a a = true := by
  unfold v_laws_eqSpringS lr_laws_eqSpringS_1_0
  rw [all_from (a := a) (p := fun v => v_laws_eqSpring v v) (lo := lo_laws_eqSpringS_1 a a) (x := ()) (y := ()) (fun k i => rfl)]
  rw [show (a.all fun v => v_laws_eqSpring v v) = true from by rw [List.all_eq_true]; intro v _; exact eqSpring_self v]
  simp

def lo_laws_eqFloat32S_1 (a_0 : (List Nat)) (b_1 : (List Nat)) : Nat → Int → (Unit) ⊕ (Unit)
  | 0, _ => .inl default
  | k + 1, i_l0 => (cond (decide (i_l0 < (a_0.length : Int)))
    (cond (v_laws_sameFloat (fcv .f32 .f64 (a_0.getD i_l0.toNat default)) (fcv .f32 .f64 (b_1.getD i_l0.toNat default)))
      (lo_laws_eqFloat32S_1 a_0 b_1 k (i_l0 + 1))
      (.inl ()))
    (.inr ()))

def ls_laws_eqFloat32S_1 (a_0 : (List Nat)) (b_1 : (List Nat)) : (Unit) ⊕ (Unit) → Ex × St
  | .inl r => (.ret, ⟨[.any, .any, .any, .any, .b false, .any, .any, .any, .any, .any, .any, .any, .any, .any, .any, .any, .any, .any, .any, .any, .any, .any, .any, .any, .any, .any, .any, .any, .any], []⟩)
  | .inr r => ((.exit 0), ⟨[.sl (a_0.map (cF .f32)), .sl (b_1.map (cF .f32)), .any, .any, .any, .any, .sl (a_0.map (cF .f32)), .i .i64 (a_0.length : Int), .sl (b_1.map (cF .f32)), .i .i64 (b_1.length : Int), .b ((a_0.length : Int) != (b_1.length : Int)), .any, .any, .any, .any, .any, .any, .any, .any, .any, .any, .any, .any, .any, .any, .any, .any, .any, .any], []⟩)

def hd_laws_eqFloat32S_1 (a_0 : (List Nat)) (b_1 : (List Nat)) (i_l0 : Int) : St := ⟨[.sl (a_0.map (cF .f32)), .sl (b_1.map (cF .f32)), .any, .any, .any, .i .i64 i_l0, .sl (a_0.map (cF .f32)), .i .i64 (a_0.length : Int), .sl (b_1.map (cF .f32)), .i .i64 (b_1.length : Int), .b ((a_0.length : Int) != (b_1.length : Int)), .any, .any, .any, .any, .any, .any, .any, .any, .any, .any, .any, .any, .any, .any, .any, .any, .any, .any], []⟩

def mk_laws_eqFloat32S_1_0 : List Bool := [true, true, false, false, false, true, true, true, true, true, true, false, false, false, false, false, false, false, false, false, false, false, false, false, false, false, false, false, false]

def mk_laws_eqFloat32S_1_1 : List Bool := [false, false, false, false, true, false, false, false, false, false, false, false, false, false, false, false, false, false, false, false, false, false, false, false, false, false, false, false, false]

def mk_laws_eqFloat32S_1_2 : List Bool := [true, true, false, false, false, false, true, true, true, true, true, false, false, false, false, false, false, false, false, false, false, false, false, false, false, false, false, false, false]

theorem lp_laws_eqFloat32S_1 (a_0 : (List Nat)) (b_1 : (List Nat)) (hp0 : a_0.length ≤ 1073741824) (hp1 : b_1.length ≤ 1073741824) (hf_laws_eqFloat32S_1_0 : ((a_0.length : Int) != (b_1.length : Int)) = false) : ∀ (k : Nat) (i_l0 : Int) (hv_laws_eqFloat32S_1_0 : 0 ≤ i_l0) (hk : ((a_0.length : Int) - i_l0).toNat < k), Lp prog 0 (sub (bodyOf f25) [1, 1, 0, 1, 0, 0]) (hd_laws_eqFloat32S_1 a_0 b_1 i_l0) (ls_laws_eqFloat32S_1 a_0 b_1 (lo_laws_eqFloat32S_1 a_0 b_1 k i_l0)).1 (ls_laws_eqFloat32S_1 a_0 b_1 (lo_laws_eqFloat32S_1 a_0 b_1 k i_l0)).2 := by
 intro k
 induction k with
 | zero => intro i_l0 hv_laws_eqFloat32S_1_0 hk; exact absurd hk (Nat.not_lt_zero _)
 | succ k ih =>
  intro i_l0 hv_laws_eqFloat32S_1_0 hk
  have p {a C} (s : Scr a C) := sZ (cF .f32) a_0 <| s
  cases h_0 : (decide (i_l0 < (a_0.length : Int))) with
  | true =>
   have gh_0 := of_decide_eq_true h_0
   have y_0 : (0 : Int) ≤ i_l0 := by clear p; exact (by first | assumption | omega | (simp_all <;> omega))
   have y_1 : i_l0 < (a_0.length : Int) := by clear p; exact (by first | assumption | omega | (simp_all <;> omega))
   have y_2 : i_l0 < (b_1.length : Int) := by clear p; exact (by first | assumption | omega | (simp_all <;> omega))
   have q {a C} (s : Scr a C) := p (sB h_0 <| sK [10, 10] <| sG (cF .f32) a_0 i_l0 y_0 y_1 <| sC (widenOk (a_0.getD i_l0.toNat default)) <| sG (cF .f32) b_1 i_l0 y_0 y_2 <| sC (widenOk (b_1.getD i_l0.toNat default)) <| sF (t_laws_sameFloat (fcv .f32 .f64 (a_0.getD i_l0.toNat default)) (fcv .f32 .f64 (b_1.getD i_l0.toNat default))) <| s)
   clear p
   cases h_1 : (v_laws_sameFloat (fcv .f32 .f64 (a_0.getD i_l0.toNat default)) (fcv .f32 .f64 (b_1.getD i_l0.toNat default))) with
   | true =>
    have y_3 : (-9223372036854775808 : Int) ≤ (i_l0 + 1) := by clear q; exact (by first | assumption | omega | (simp_all <;> omega))
    have y_4 : (i_l0 + 1) ≤ (9223372036854775807 : Int) := by clear q; exact (by first | assumption | omega | (simp_all <;> omega))
    have e : lo_laws_eqFloat32S_1 a_0 b_1 (k + 1) i_l0 = (lo_laws_eqFloat32S_1 a_0 b_1 k (i_l0 + 1)) := by simp only [lo_laws_eqFloat32S_1, h_0, h_1, cond_true]
    rw [e]
    exact nextR E0Ok hMixed [] mk_laws_eqFloat32S_1_0 [] (ih (i_l0 + 1) (show 0 ≤ (i_l0 + 1) from (by first | assumption | omega | (simp_all <;> omega))) (by first | assumption | omega | (simp_all <;> omega))) (q (sB' h_1 <| sI (i_l0 + 1) y_3 y_4 <| sN)) (by kernel_rfl)
   | false =>
    have e : lo_laws_eqFloat32S_1 a_0 b_1 (k + 1) i_l0 = (.inl ()) := by simp only [lo_laws_eqFloat32S_1, h_0, h_1, cond_true, cond_false]
    rw [e]
    exact outR (e := .ret) E0Ok hMixed [] mk_laws_eqFloat32S_1_1 [] (q (sB' h_1 <| sN)) (by kernel_rfl) (by intro h; cases h)
  | false =>
   have gh_0 := of_decide_eq_false h_0
   have e : lo_laws_eqFloat32S_1 a_0 b_1 (k + 1) i_l0 = (.inr ()) := by simp only [lo_laws_eqFloat32S_1, h_0, cond_false]
   rw [e]
   exact outR (e := (.exit 0)) E0Ok hMixed [] mk_laws_eqFloat32S_1_2 [] (p (sB h_0 <| sN)) (by kernel_rfl) (by intro h; cases h)

def lr_laws_eqFloat32S_1_0 (a_0 : (List Nat)) (b_1 : (List Nat)) : (Unit) ⊕ (Unit) := (lo_laws_eqFloat32S_1 a_0 b_1 (((a_0.length : Int) - 0).toNat + 1) 0)

def v_laws_eqFloat32S (a_0 : (List Nat)) (b_1 : (List Nat)) : Bool := (cond ((a_0.length : Int) != (b_1.length : Int))
  false
  (match (lr_laws_eqFloat32S_1_0 a_0 b_1) with
    | .inl r2 => false
    | .inr r2 => true))

theorem t_laws_eqFloat32S (a_0 : (List Nat)) (b_1 : (List Nat)) (hp0 : a_0.length ≤ 1073741824) (hp1 : b_1.length ≤ 1073741824)  : Fn prog 25 [.sl (a_0.map (cF .f32)), .sl (b_1.map (cF .f32))] (.b (v_laws_eqFloat32S a_0 b_1)) [] := by
 have p {a C} (s : Scr a C) := sZ (cF .f32) a_0 <| sZ (cF .f32) b_1 <| s
 cases h0 : ((a_0.length : Int) != (b_1.length : Int)) with
 | true =>
  have gh0 := bne_iff_ne.1 h0
  refine fnS E0Ok hMixed (c := bodyOf f25) [] (.b false) [] func25 (p (sB h0 <| sK [] sN)) rfl (by kernel_rfl) (by kernel_rfl) rfl ?_ ?_
  · simp only [v_laws_eqFloat32S, h0, cond_true]
  · rfl
 | false =>
  have gh0 := bne_eq_false_iff_eq.1 h0
  have q {a C} (s : Scr a C) := p (sB h0 <| s)
  clear p
  cases h1 : (lr_laws_eqFloat32S_1_0 a_0 b_1) with
  | inl r2 =>
   refine fnS E0Ok hMixed (c := bodyOf f25) [] (.b false) [] func25 (q (sL mk_laws_eqFloat32S_1_0 0 (lp_val (ls_laws_eqFloat32S_1 a_0 b_1) (x := (lr_laws_eqFloat32S_1_0 a_0 b_1)) (lp_laws_eqFloat32S_1 a_0 b_1 hp0 hp1 h0 (((a_0.length : Int) - 0).toNat + 1) 0 (show 0 ≤ 0 from (by first | assumption | omega | (simp_all <;> omega))) (Nat.lt_succ_self _)) h1) <| sK [] sN)) rfl (by kernel_rfl) (by kernel_rfl) rfl ?_ ?_
   · simp only [v_laws_eqFloat32S, h0, h1, cond_false]
   · rfl
  | inr r2 =>
   refine fnS E0Ok hMixed (c := bodyOf f25) [] (.b true) [] func25 (q (sL mk_laws_eqFloat32S_1_0 0 (lp_val (ls_laws_eqFloat32S_1 a_0 b_1) (x := (lr_laws_eqFloat32S_1_0 a_0 b_1)) (lp_laws_eqFloat32S_1 a_0 b_1 hp0 hp1 h0 (((a_0.length : Int) - 0).toNat + 1) 0 (show 0 ≤ 0 from (by first | assumption | omega | (simp_all <;> omega))) (Nat.lt_succ_self _)) h1) <| sK [] sN)) rfl (by kernel_rfl) (by kernel_rfl) rfl ?_ ?_
   · simp only [v_laws_eqFloat32S, h0, h1, cond_false]
   · rfl

theorem eqFloat32S_self (a : List Nat) : v_laws_eqFloat32S a a = true := by
  unfold v_laws_eqFloat32S lr_laws_eqFloat32S_1_0
  rw [all_from (a := a) (p := fun v => v_laws_sameFloat (fcv .f32 .f64 v) (fcv .f32 .f64 v)) (lo := lo_laws_eqFloat32S_1 a a) (x := ()) (y := ()) (fun k i => rfl)]
  rw [show (a.all fun v => v_laws_sameFloat (fcv .f32 .f64 v) (fcv .f32 .f64 v)) = true from by rw [List.all_eq_true]; intro v _; exact same_self _]
  simp

def v_laws_eqBody (a_0 : GBody) (b_1 : GBody) : Bool := (cond (v_laws_eqMesh a_0.Mesh b_1.Mesh)
  (cond (v_laws_eqSpringS a_0.Springs b_1.Springs)
    (cond (v_laws_sameFloat (fcv .f32 .f64 a_0.Film) (fcv .f32 .f64 b_1.Film))
      (cond (v_laws_sameFloat (fcv .f32 .f64 a_0.Bend) (fcv .f32 .f64 b_1.Bend))
        (cond (v_laws_eqFloat32S a_0.Weights b_1.Weights)
          (cond (v_laws_eqVector a_0.Fall b_1.Fall)
            true
            false)
          false)
        false)
      false)
    false)
  false)

theorem t_laws_eqBody (a_0 : GBody) (b_1 : GBody) (hp0 : a_0.Mesh.Places.length ≤ 1073741824) (hp1 : a_0.Mesh.Triangles.length ≤ 1073741824) (hp2 : ∀ t ∈ a_0.Mesh.Triangles, t.length ≤ 1073741824) (hp3 : a_0.Springs.length ≤ 1073741824) (hp4 : a_0.Weights.length ≤ 1073741824) (hp5 : b_1.Mesh.Places.length ≤ 1073741824) (hp6 : b_1.Mesh.Triangles.length ≤ 1073741824) (hp7 : ∀ t ∈ b_1.Mesh.Triangles, t.length ≤ 1073741824) (hp8 : b_1.Springs.length ≤ 1073741824) (hp9 : b_1.Weights.length ≤ 1073741824)  : Fn prog 43 [.agg [.sl (a_0.Mesh.Places.map GVector.cells), .sl (a_0.Mesh.Triangles.map (cL (cI .i64))), .sl (a_0.Springs.map GSpring.cells), .f .f32 a_0.Film, .f .f32 a_0.Bend, .sl (a_0.Weights.map (cF .f32)), .f .f32 a_0.Fall.X, .f .f32 a_0.Fall.Y, .f .f32 a_0.Fall.Z], .agg [.sl (b_1.Mesh.Places.map GVector.cells), .sl (b_1.Mesh.Triangles.map (cL (cI .i64))), .sl (b_1.Springs.map GSpring.cells), .f .f32 b_1.Film, .f .f32 b_1.Bend, .sl (b_1.Weights.map (cF .f32)), .f .f32 b_1.Fall.X, .f .f32 b_1.Fall.Y, .f .f32 b_1.Fall.Z]] (.b (v_laws_eqBody a_0 b_1)) [] := by
 have p {a C} (s : Scr a C) := sF (t_laws_eqMesh a_0.Mesh b_1.Mesh hp0 hp1 hp2 hp5 hp6 hp7) <| s
 cases h0 : (v_laws_eqMesh a_0.Mesh b_1.Mesh) with
 | true =>
  have q {a C} (s : Scr a C) := p (sB' h0 <| sF (t_laws_eqSpringS a_0.Springs b_1.Springs hp3 hp8) <| s)
  clear p
  cases h1 : (v_laws_eqSpringS a_0.Springs b_1.Springs) with
  | true =>
   have p {a C} (s : Scr a C) := q (sB' h1 <| sC (widenOk a_0.Film) <| sC (widenOk b_1.Film) <| sF (t_laws_sameFloat (fcv .f32 .f64 a_0.Film) (fcv .f32 .f64 b_1.Film)) <| s)
   clear q
   cases h2 : (v_laws_sameFloat (fcv .f32 .f64 a_0.Film) (fcv .f32 .f64 b_1.Film)) with
   | true =>
    have q {a C} (s : Scr a C) := p (sB' h2 <| sC (widenOk a_0.Bend) <| sC (widenOk b_1.Bend) <| sF (t_laws_sameFloat (fcv .f32 .f64 a_0.Bend) (fcv .f32 .f64 b_1.Bend)) <| s)
    clear p
    cases h3 : (v_laws_sameFloat (fcv .f32 .f64 a_0.Bend) (fcv .f32 .f64 b_1.Bend)) with
    | true =>
     have p {a C} (s : Scr a C) := q (sB' h3 <| sF (t_laws_eqFloat32S a_0.Weights b_1.Weights hp4 hp9) <| s)
     clear q
     cases h4 : (v_laws_eqFloat32S a_0.Weights b_1.Weights) with
     | true =>
      have q {a C} (s : Scr a C) := p (sB' h4 <| sF (t_laws_eqVector a_0.Fall b_1.Fall) <| s)
      clear p
      cases h5 : (v_laws_eqVector a_0.Fall b_1.Fall) with
      | true =>
       refine fnS E0Ok hMixed (c := bodyOf f43) [] (.b true) [] func43 (q (sB' h5 <| sK [] sN)) rfl (by kernel_rfl) (by kernel_rfl) rfl ?_ ?_
       · simp only [v_laws_eqBody, h0, h1, h2, h3, h4, h5, cond_true]
       · rfl
      | false =>
       refine fnS E0Ok hMixed (c := bodyOf f43) [] (.b false) [] func43 (q (sB' h5 <| sK [] sN)) rfl (by kernel_rfl) (by kernel_rfl) rfl ?_ ?_
       · simp only [v_laws_eqBody, h0, h1, h2, h3, h4, h5, cond_true, cond_false]
       · rfl
     | false =>
      refine fnS E0Ok hMixed (c := bodyOf f43) [] (.b false) [] func43 (p (sB' h4 <| sK [] sN)) rfl (by kernel_rfl) (by kernel_rfl) rfl ?_ ?_
      · simp only [v_laws_eqBody, h0, h1, h2, h3, h4, cond_true, cond_false]
      · rfl
    | false =>
     refine fnS E0Ok hMixed (c := bodyOf f43) [] (.b false) [] func43 (q (sB' h3 <| sK [] sN)) rfl (by kernel_rfl) (by kernel_rfl) rfl ?_ ?_
     · simp only [v_laws_eqBody, h0, h1, h2, h3, cond_true, cond_false]
     · rfl
   | false =>
    refine fnS E0Ok hMixed (c := bodyOf f43) [] (.b false) [] func43 (p (sB' h2 <| sK [] sN)) rfl (by kernel_rfl) (by kernel_rfl) rfl ?_ ?_
    · simp only [v_laws_eqBody, h0, h1, h2, cond_true, cond_false]
    · rfl
  | false =>
   refine fnS E0Ok hMixed (c := bodyOf f43) [] (.b false) [] func43 (q (sB' h1 <| sK [] sN)) rfl (by kernel_rfl) (by kernel_rfl) rfl ?_ ?_
   · simp only [v_laws_eqBody, h0, h1, cond_true, cond_false]
   · rfl
 | false =>
  refine fnS E0Ok hMixed (c := bodyOf f43) [] (.b false) [] func43 (p (sB' h0 <| sK [] sN)) rfl (by kernel_rfl) (by kernel_rfl) rfl ?_ ?_
  · simp only [v_laws_eqBody, h0, cond_false]
  · rfl

theorem eqBody_self (a : GBody) : v_laws_eqBody a a = true := by
  simp [v_laws_eqBody, same_self, eqVector_self, eqMesh_self, eqSpringS_self, eqFloat32S_self]

def lo_laws_markVectorS_mon_1 (a_0 : (List GVector)) (k_1 : Int) : Nat → Int → Int → (List GVector) → Int × (List GVector)
  | 0, _, _, _ => default
  | k + 1, k_l0, i_l1, r0_l2 => (cond (decide (i_l1 < (r0_l2.length : Int)))
    (lo_laws_markVectorS_mon_1 a_0 k_1 k (IntKind.wrap .i64 ((IntKind.wrap .i64 ((IntKind.wrap .i64 (k_l0 + 1)) + 1)) + 1)) (i_l1 + 1) (r0_l2.set i_l1.toNat (⟨(ofInt .f32 k_l0), (ofInt .f32 (IntKind.wrap .i64 (k_l0 + 1))), (ofInt .f32 (IntKind.wrap .i64 ((IntKind.wrap .i64 (k_l0 + 1)) + 1)))⟩ : GVector)))
    (k_l0, r0_l2))

def ls_laws_markVectorS_mon_1 (a_0 : (List GVector)) (k_1 : Int) (r : Int × (List GVector)) : Ex × St := ((.exit 0), ⟨[.any, .i .i64 r.1, .any, .any, .i .i64 0, .any, .any, .any, .any, .any, .any, .any, .any, .any, .any, .any, .any, .any, .any, .any, .any, .any, .any, .any, .any, .any, .any, .any, .any, .any, .any, .any, .any, .any, .any, .any, .any], [.vec 67 3 (r.2.map GVector.cells) false]⟩)

def hd_laws_markVectorS_mon_1 (a_0 : (List GVector)) (k_1 : Int) (k_l0 : Int) (i_l1 : Int) (r0_l2 : (List GVector)) : St := ⟨[.own 0, .i .i64 k_l0, .any, .any, .i .i64 0, .i .i64 i_l1, .any, .any, .any, .any, .any, .any, .any, .any, .any, .any, .any, .any, .any, .any, .any, .any, .any, .any, .any, .any, .any, .any, .any, .any, .any, .any, .any, .any, .any, .any, .any], [.vec 67 3 (r0_l2.map GVector.cells) false]⟩

def mk_laws_markVectorS_mon_1_0 : List Bool := [true, true, false, false, true, true, false, false, false, false, false, false, false, false, false, false, false, false, false, false, false, false, false, false, false, false, false, false, false, false, false, false, false, false, false, false, false]

def mk_laws_markVectorS_mon_1_1 : List Bool := [false, true, false, false, true, false, false, false, false, false, false, false, false, false, false, false, false, false, false, false, false, false, false, false, false, false, false, false, false, false, false, false, false, false, false, false, false]

theorem lp_laws_markVectorS_mon_1 (a_0 : (List GVector)) (k_1 : Int) (hp0 : a_0.length ≤ 1073741824) : ∀ (k : Nat) (k_l0 : Int) (i_l1 : Int) (r0_l2 : (List GVector)) (hv_laws_markVectorS_mon_1_0 : 0 ≤ i_l1) (hv_laws_markVectorS_mon_1_1 : r0_l2.length = a_0.length) (hk : ((a_0.length : Int) - i_l1).toNat < k), Lp prog 1 (sub (bodyOf f59) [1, 0, 1, 0, 0]) (hd_laws_markVectorS_mon_1 a_0 k_1 k_l0 i_l1 r0_l2) (ls_laws_markVectorS_mon_1 a_0 k_1 (lo_laws_markVectorS_mon_1 a_0 k_1 k k_l0 i_l1 r0_l2)).1 (ls_laws_markVectorS_mon_1 a_0 k_1 (lo_laws_markVectorS_mon_1 a_0 k_1 k k_l0 i_l1 r0_l2)).2 := by
 intro k
 induction k with
 | zero => intro k_l0 i_l1 r0_l2 hv_laws_markVectorS_mon_1_0 hv_laws_markVectorS_mon_1_1 hk; exact absurd hk (Nat.not_lt_zero _)
 | succ k ih =>
  intro k_l0 i_l1 r0_l2 hv_laws_markVectorS_mon_1_0 hv_laws_markVectorS_mon_1_1 hk
  have p {a C} (s : Scr a C) := sZ GVector.cells r0_l2 <| s
  cases h_0 : (decide (i_l1 < (r0_l2.length : Int))) with
  | true =>
   have gh_0 := of_decide_eq_true h_0
   have y_0 : (0 : Int) ≤ i_l1 := by clear p; exact (by first | assumption | omega | (simp_all <;> omega))
   have y_1 : i_l1 < (r0_l2.length : Int) := by clear p; exact (by first | assumption | omega | (simp_all <;> omega))
   have y_2 : i_l1.toNat < r0_l2.length := by clear p; exact (by first | assumption | omega | (simp_all <;> omega))
   have y_3 : i_l1 < ((r0_l2.set i_l1.toNat (⟨(ofInt .f32 k_l0), (r0_l2.getD i_l1.toNat default).Y, (r0_l2.getD i_l1.toNat default).Z⟩ : GVector)).length : Int) := by clear p; exact (by first | assumption | omega | (simp_all <;> omega))
   have y_4 : i_l1 < ((r0_l2.set i_l1.toNat (⟨(ofInt .f32 k_l0), (ofInt .f32 (IntKind.wrap .i64 (k_l0 + 1))), (r0_l2.getD i_l1.toNat default).Z⟩ : GVector)).length : Int) := by clear p; exact (by first | assumption | omega | (simp_all <;> omega))
   have y_5 : (-9223372036854775808 : Int) ≤ (i_l1 + 1) := by clear p; exact (by first | assumption | omega | (simp_all <;> omega))
   have y_6 : (i_l1 + 1) ≤ (9223372036854775807 : Int) := by clear p; exact (by first | assumption | omega | (simp_all <;> omega))
   have e : lo_laws_markVectorS_mon_1 a_0 k_1 (k + 1) k_l0 i_l1 r0_l2 = (lo_laws_markVectorS_mon_1 a_0 k_1 k (IntKind.wrap .i64 ((IntKind.wrap .i64 ((IntKind.wrap .i64 (k_l0 + 1)) + 1)) + 1)) (i_l1 + 1) (r0_l2.set i_l1.toNat (⟨(ofInt .f32 k_l0), (ofInt .f32 (IntKind.wrap .i64 (k_l0 + 1))), (ofInt .f32 (IntKind.wrap .i64 ((IntKind.wrap .i64 (k_l0 + 1)) + 1)))⟩ : GVector))) := by simp only [lo_laws_markVectorS_mon_1, h_0, cond_true]
   rw [e]
   exact nextS (EpOk 1) hMixed [] mk_laws_markVectorS_mon_1_0 [] (⟨[.own 0, .i .i64 (IntKind.wrap .i64 ((IntKind.wrap .i64 ((IntKind.wrap .i64 (k_l0 + 1)) + 1)) + 1)), .any, .any, .i .i64 0, .i .i64 (i_l1 + 1), .any, .any, .any, .any, .any, .any, .any, .any, .any, .any, .any, .any, .any, .any, .any, .any, .any, .any, .any, .any, .any, .any, .any, .any, .any, .any, .any, .any, .any, .any, .any], [.vec 67 3 ((((r0_l2.map GVector.cells).set i_l1.toNat [.f .f32 (ofInt .f32 k_l0), .f .f32 ((r0_l2.getD i_l1.toNat default).Y), .f .f32 ((r0_l2.getD i_l1.toNat default).Z)]).set i_l1.toNat [.f .f32 (ofInt .f32 k_l0), .f .f32 (ofInt .f32 (IntKind.wrap .i64 (k_l0 + 1))), .f .f32 ((r0_l2.getD i_l1.toNat default).Z)]).set i_l1.toNat [.f .f32 (ofInt .f32 k_l0), .f .f32 (ofInt .f32 (IntKind.wrap .i64 (k_l0 + 1))), .f .f32 (ofInt .f32 (IntKind.wrap .i64 ((IntKind.wrap .i64 (k_l0 + 1)) + 1)))]) false]⟩) (p (sB h_0 <| sX GVector.cells r0_l2 i_l1 y_0 y_1 <| sV GVector.cells r0_l2 i_l1.toNat y_2 <| sW .i64 (k_l0 + 1) <| sC (show 0 ≤ i_l1 ∧ Int.toNat i_l1 < ((r0_l2.map GVector.cells).set i_l1.toNat [.f .f32 (ofInt .f32 k_l0), .f .f32 ((r0_l2.getD i_l1.toNat default).Y), .f .f32 ((r0_l2.getD i_l1.toNat default).Z)]).length from (by simpa using idx_ok (c := GVector.cells) (l := (r0_l2.set i_l1.toNat (⟨(ofInt .f32 k_l0), (r0_l2.getD i_l1.toNat default).Y, (r0_l2.getD i_l1.toNat default).Z⟩ : GVector))) (i := i_l1) y_0 y_3)) <| sE (show ((r0_l2.map GVector.cells).set i_l1.toNat [.f .f32 (ofInt .f32 k_l0), .f .f32 ((r0_l2.getD i_l1.toNat default).Y), .f .f32 ((r0_l2.getD i_l1.toNat default).Z)])[i_l1.toNat]? = some [.f .f32 (ofInt .f32 k_l0), .f .f32 ((r0_l2.getD i_l1.toNat default).Y), .f .f32 ((r0_l2.getD i_l1.toNat default).Z)] from List.getElem?_set_self (by simpa using y_2)) <| sW .i64 ((IntKind.wrap .i64 (k_l0 + 1)) + 1) <| sC (show 0 ≤ i_l1 ∧ Int.toNat i_l1 < (((r0_l2.map GVector.cells).set i_l1.toNat [.f .f32 (ofInt .f32 k_l0), .f .f32 ((r0_l2.getD i_l1.toNat default).Y), .f .f32 ((r0_l2.getD i_l1.toNat default).Z)]).set i_l1.toNat [.f .f32 (ofInt .f32 k_l0), .f .f32 (ofInt .f32 (IntKind.wrap .i64 (k_l0 + 1))), .f .f32 ((r0_l2.getD i_l1.toNat default).Z)]).length from (by simpa using idx_ok (c := GVector.cells) (l := (r0_l2.set i_l1.toNat (⟨(ofInt .f32 k_l0), (ofInt .f32 (IntKind.wrap .i64 (k_l0 + 1))), (r0_l2.getD i_l1.toNat default).Z⟩ : GVector))) (i := i_l1) y_0 y_4)) <| sE (show (((r0_l2.map GVector.cells).set i_l1.toNat [.f .f32 (ofInt .f32 k_l0), .f .f32 ((r0_l2.getD i_l1.toNat default).Y), .f .f32 ((r0_l2.getD i_l1.toNat default).Z)]).set i_l1.toNat [.f .f32 (ofInt .f32 k_l0), .f .f32 (ofInt .f32 (IntKind.wrap .i64 (k_l0 + 1))), .f .f32 ((r0_l2.getD i_l1.toNat default).Z)])[i_l1.toNat]? = some [.f .f32 (ofInt .f32 k_l0), .f .f32 (ofInt .f32 (IntKind.wrap .i64 (k_l0 + 1))), .f .f32 ((r0_l2.getD i_l1.toNat default).Z)] from List.getElem?_set_self (by simpa using y_2)) <| sW .i64 ((IntKind.wrap .i64 ((IntKind.wrap .i64 (k_l0 + 1)) + 1)) + 1) <| sI (i_l1 + 1) y_5 y_6 <| sN)) (by kernel_rfl) (show _ = ⟨[.own 0, .i .i64 (IntKind.wrap .i64 ((IntKind.wrap .i64 ((IntKind.wrap .i64 (k_l0 + 1)) + 1)) + 1)), .any, .any, .i .i64 0, .i .i64 (i_l1 + 1), .any, .any, .any, .any, .any, .any, .any, .any, .any, .any, .any, .any, .any, .any, .any, .any, .any, .any, .any, .any, .any, .any, .any, .any, .any, .any, .any, .any, .any, .any, .any], [.vec 67 3 ((r0_l2.set i_l1.toNat (⟨(ofInt .f32 k_l0), (ofInt .f32 (IntKind.wrap .i64 (k_l0 + 1))), (ofInt .f32 (IntKind.wrap .i64 ((IntKind.wrap .i64 (k_l0 + 1)) + 1)))⟩ : GVector)).map GVector.cells) false]⟩ from (by simp [List.map_set, GVector.cells])) (ih (IntKind.wrap .i64 ((IntKind.wrap .i64 ((IntKind.wrap .i64 (k_l0 + 1)) + 1)) + 1)) (i_l1 + 1) (r0_l2.set i_l1.toNat (⟨(ofInt .f32 k_l0), (ofInt .f32 (IntKind.wrap .i64 (k_l0 + 1))), (ofInt .f32 (IntKind.wrap .i64 ((IntKind.wrap .i64 (k_l0 + 1)) + 1)))⟩ : GVector)) (show 0 ≤ (i_l1 + 1) from (by first | assumption | omega | (simp_all <;> omega))) (show (r0_l2.set i_l1.toNat (⟨(ofInt .f32 k_l0), (ofInt .f32 (IntKind.wrap .i64 (k_l0 + 1))), (ofInt .f32 (IntKind.wrap .i64 ((IntKind.wrap .i64 (k_l0 + 1)) + 1)))⟩ : GVector)).length = a_0.length from (by first | assumption | omega | (simp_all <;> omega))) (by first | assumption | omega | (simp_all <;> omega)))
  | false =>
   have gh_0 := of_decide_eq_false h_0
   have e : lo_laws_markVectorS_mon_1 a_0 k_1 (k + 1) k_l0 i_l1 r0_l2 = (k_l0, r0_l2) := by simp only [lo_laws_markVectorS_mon_1, h_0, cond_false]
   rw [e]
   exact outR (e := (.exit 0)) (EpOk 1) hMixed [] mk_laws_markVectorS_mon_1_1 [] (p (sB h_0 <| sN)) (by kernel_rfl) (by intro h; cases h)

theorem ln_laws_markVectorS_mon_1_1 (a_0 : (List GVector)) (k_1 : Int) : ∀ (k : Nat) (k_l0 : Int) (i_l1 : Int) (r0_l2 : (List GVector)) (hk : ((r0_l2.length : Int) - i_l1).toNat < k), (lo_laws_markVectorS_mon_1 a_0 k_1 k k_l0 i_l1 r0_l2).2.length = r0_l2.length := by
  intro k
  induction k with
  | zero => intro k_l0 i_l1 r0_l2 hk; exact absurd hk (Nat.not_lt_zero _)
  | succ k ih =>
    intro k_l0 i_l1 r0_l2 hk
    cases h_0 : (decide (i_l1 < (r0_l2.length : Int))) with
    | true =>
      have e : lo_laws_markVectorS_mon_1 a_0 k_1 (k + 1) k_l0 i_l1 r0_l2 = (lo_laws_markVectorS_mon_1 a_0 k_1 k (IntKind.wrap .i64 ((IntKind.wrap .i64 ((IntKind.wrap .i64 (k_l0 + 1)) + 1)) + 1)) (i_l1 + 1) (r0_l2.set i_l1.toNat (⟨(ofInt .f32 k_l0), (ofInt .f32 (IntKind.wrap .i64 (k_l0 + 1))), (ofInt .f32 (IntKind.wrap .i64 ((IntKind.wrap .i64 (k_l0 + 1)) + 1)))⟩ : GVector))) := by simp only [lo_laws_markVectorS_mon_1, h_0, cond_true]
      rw [e, ih (IntKind.wrap .i64 ((IntKind.wrap .i64 ((IntKind.wrap .i64 (k_l0 + 1)) + 1)) + 1)) (i_l1 + 1) (r0_l2.set i_l1.toNat (⟨(ofInt .f32 k_l0), (ofInt .f32 (IntKind.wrap .i64 (k_l0 + 1))), (ofInt .f32 (IntKind.wrap .i64 ((IntKind.wrap .i64 (k_l0 + 1)) + 1)))⟩ : GVector)) (by first | assumption | omega | (simp_all <;> omega))]; simp
    | false =>
      have e : lo_laws_markVectorS_mon_1 a_0 k_1 (k + 1) k_l0 i_l1 r0_l2 = (k_l0, r0_l2) := by simp only [lo_laws_markVectorS_mon_1, h_0, cond_false]
      first | (rw [e]; done) | (rw [e]; rfl)

def lr_laws_markVectorS_mon_1_0 (a_0 : (List GVector)) (k_1 : Int) : Int × (List GVector) := (lo_laws_markVectorS_mon_1 a_0 k_1 (((a_0.length : Int) - 0).toNat + 1) k_1 0 a_0)

@[simp] theorem len_lr_laws_markVectorS_mon_1_0_1 (a_0 : (List GVector)) (k_1 : Int) : (lr_laws_markVectorS_mon_1_0 a_0 k_1).2.length = (a_0 : (List GVector)).length := ln_laws_markVectorS_mon_1_1 a_0 k_1 (((a_0.length : Int) - 0).toNat + 1) k_1 0 a_0 (by first | exact Nat.lt_succ_self _ | simp)

def v_laws_markVectorS_mon (a_0 : (List GVector)) (k_1 : Int) : Int × (List GVector) := ((lr_laws_markVectorS_mon_1_0 a_0 k_1).1, (lr_laws_markVectorS_mon_1_0 a_0 k_1).2)

@[simp] theorem len_v_laws_markVectorS_mon_1 (a_0 : (List GVector)) (k_1 : Int) : (v_laws_markVectorS_mon a_0 k_1).2.length = a_0.length := by
  first | (simp [v_laws_markVectorS_mon]; done)

theorem t_laws_markVectorS_mon (a_0 : (List GVector)) (k_1 : Int) (hp0 : a_0.length ≤ 1073741824)  : CallSt prog 59 [.vec 67 3 (a_0.map GVector.cells) false] [.own 0, .i .i64 k_1] (.i .i64 ((v_laws_markVectorS_mon a_0 k_1).1)) [.vec 67 3 (((v_laws_markVectorS_mon a_0 k_1).2).map GVector.cells) false] := by
 refine callS (EpOk 1) hMixed (c := bodyOf f59) [.vec 67 3 (a_0.map GVector.cells) false] [] (.i .i64 ((lr_laws_markVectorS_mon_1_0 a_0 k_1).1)) [.vec 67 3 (((lr_laws_markVectorS_mon_1_0 a_0 k_1).2).map GVector.cells) false] func59 (sL mk_laws_markVectorS_mon_1_0 1 (lp_val (ls_laws_markVectorS_mon_1 a_0 k_1) (x := (lr_laws_markVectorS_mon_1_0 a_0 k_1)) (lp_laws_markVectorS_mon_1 a_0 k_1 hp0 (((a_0.length : Int) - 0).toNat + 1) k_1 0 a_0 (show 0 ≤ 0 from (by first | assumption | omega | (simp_all <;> omega))) (show a_0.length = a_0.length from (by simp)) (Nat.lt_succ_self _)) rfl) <| sK [] sN) rfl (by kernel_rfl) (by kernel_rfl) ?_ ?_
 · rfl
 · simp [v_laws_markVectorS_mon]

def mk_Vector_mon (_ : GVector) (c : Int) : Int × GVector := ((IntKind.wrap .i64 ((IntKind.wrap .i64 ((IntKind.wrap .i64 (c + 1)) + 1)) + 1)), ⟨ofInt .f32 c, ofInt .f32 (IntKind.wrap .i64 (c + 1)), ofInt .f32 (IntKind.wrap .i64 ((IntKind.wrap .i64 (c + 1)) + 1))⟩)
theorem mkeq_Vector_mon (a : List GVector) (c : Int) : v_laws_markVectorS_mon a c = mkL mk_Vector_mon a c := by
  unfold v_laws_markVectorS_mon lr_laws_markVectorS_mon_1_0
  rw [mark_loop (f := mk_Vector_mon) (lo := lo_laws_markVectorS_mon_1 a c) (fun k c i r => rfl) _ _ _ _ (Int.le_refl 0) (Nat.lt_succ_self _)]
  simp
theorem markge_Vector_mon (a : List GVector) (c : Int) (g0 : a.length ≤ 1073741824) (h0 : 0 ≤ c) (h1 : c ≤ 4611686018427387904) : c ≤ (v_laws_markVectorS_mon a c).1 ∧ (v_laws_markVectorS_mon a c).1 ≤ c + 3221225472 := by
  rw [mkeq_Vector_mon]
  have q := mkL_ge (f := mk_Vector_mon) (W := 3) a c (fun x _ c k0 k1 => by simp only [mk_Vector_mon]; rw [wrap_id (n := c + 1) (by omega) (by omega), show c + 1 + 1 = c + 2 from by omega, wrap_id (n := c + 2) (by omega) (by omega), show c + 2 + 1 = c + 3 from by omega, wrap_id (n := c + 3) (by omega) (by omega)]; omega) h0 (by omega)
  omega

def lo_laws_markInt64S_min_1 (a_0 : (List Int)) (k_1 : Int) : Nat → Int → Int → (List Int) → Int × (List Int)
  | 0, _, _, _ => default
  | k + 1, k_l0, i_l1, r0_l2 => (cond (decide (i_l1 < (r0_l2.length : Int)))
    (lo_laws_markInt64S_min_1 a_0 k_1 k (IntKind.wrap .i64 (k_l0 + 1)) (i_l1 + 1) (r0_l2.set i_l1.toNat k_l0))
    (k_l0, r0_l2))

def ls_laws_markInt64S_min_1 (ty : Nat) (a_0 : (List Int)) (k_1 : Int) (r : Int × (List Int)) : Ex × St := ((.exit 0), ⟨[.any, .i .i64 r.1, .any, .any, .i .i64 0, .any, .any, .any, .any, .any, .any, .any, .any, .any, .any, .any, .any, .any, .any], [.vec ty 1 (r.2.map (cI .i64)) false]⟩)

def hd_laws_markInt64S_min_1 (ty : Nat) (a_0 : (List Int)) (k_1 : Int) (k_l0 : Int) (i_l1 : Int) (r0_l2 : (List Int)) : St := ⟨[.own 0, .i .i64 k_l0, .any, .any, .i .i64 0, .i .i64 i_l1, .any, .any, .any, .any, .any, .any, .any, .any, .any, .any, .any, .any, .any], [.vec ty 1 (r0_l2.map (cI .i64)) false]⟩

def mk_laws_markInt64S_min_1_0 : List Bool := [true, true, false, false, true, true, false, false, false, false, false, false, false, false, false, false, false, false, false]

def mk_laws_markInt64S_min_1_1 : List Bool := [false, true, false, false, true, false, false, false, false, false, false, false, false, false, false, false, false, false, false]

theorem lp_laws_markInt64S_min_1 (ty : Nat) (a_0 : (List Int)) (k_1 : Int) (hp0 : a_0.length ≤ 1073741824) : ∀ (k : Nat) (k_l0 : Int) (i_l1 : Int) (r0_l2 : (List Int)) (hv_laws_markInt64S_min_1_0 : 0 ≤ i_l1) (hv_laws_markInt64S_min_1_1 : r0_l2.length = a_0.length) (hk : ((a_0.length : Int) - i_l1).toNat < k), Lp prog 1 (sub (bodyOf f36) [1, 0, 1, 0, 0]) (hd_laws_markInt64S_min_1 ty a_0 k_1 k_l0 i_l1 r0_l2) (ls_laws_markInt64S_min_1 ty a_0 k_1 (lo_laws_markInt64S_min_1 a_0 k_1 k k_l0 i_l1 r0_l2)).1 (ls_laws_markInt64S_min_1 ty a_0 k_1 (lo_laws_markInt64S_min_1 a_0 k_1 k k_l0 i_l1 r0_l2)).2 := by
 intro k
 induction k with
 | zero => intro k_l0 i_l1 r0_l2 hv_laws_markInt64S_min_1_0 hv_laws_markInt64S_min_1_1 hk; exact absurd hk (Nat.not_lt_zero _)
 | succ k ih =>
  intro k_l0 i_l1 r0_l2 hv_laws_markInt64S_min_1_0 hv_laws_markInt64S_min_1_1 hk
  have p {a C} (s : Scr a C) := sZ (cI .i64) r0_l2 <| s
  cases h_0 : (decide (i_l1 < (r0_l2.length : Int))) with
  | true =>
   have gh_0 := of_decide_eq_true h_0
   have y_0 : (0 : Int) ≤ i_l1 := by clear p; exact (by first | assumption | omega | (simp_all <;> omega))
   have y_1 : i_l1 < (r0_l2.length : Int) := by clear p; exact (by first | assumption | omega | (simp_all <;> omega))
   have y_2 : i_l1.toNat < r0_l2.length := by clear p; exact (by first | assumption | omega | (simp_all <;> omega))
   have y_3 : (-9223372036854775808 : Int) ≤ (i_l1 + 1) := by clear p; exact (by first | assumption | omega | (simp_all <;> omega))
   have y_4 : (i_l1 + 1) ≤ (9223372036854775807 : Int) := by clear p; exact (by first | assumption | omega | (simp_all <;> omega))
   have e : lo_laws_markInt64S_min_1 a_0 k_1 (k + 1) k_l0 i_l1 r0_l2 = (lo_laws_markInt64S_min_1 a_0 k_1 k (IntKind.wrap .i64 (k_l0 + 1)) (i_l1 + 1) (r0_l2.set i_l1.toNat k_l0)) := by simp only [lo_laws_markInt64S_min_1, h_0, cond_true]
   rw [e]
   exact nextS (EpOk 1) hMixed [] mk_laws_markInt64S_min_1_0 [] (⟨[.own 0, .i .i64 (IntKind.wrap .i64 (k_l0 + 1)), .any, .any, .i .i64 0, .i .i64 (i_l1 + 1), .any, .any, .any, .any, .any, .any, .any, .any, .any, .any, .any, .any, .any], [.vec ty 1 ((r0_l2.map (cI .i64)).set i_l1.toNat [.i .i64 k_l0]) false]⟩) (p (sB h_0 <| sX (cI .i64) r0_l2 i_l1 y_0 y_1 <| sC (maplt (c := (cI .i64)) (l := r0_l2) y_2) <| sW .i64 (k_l0 + 1) <| sI (i_l1 + 1) y_3 y_4 <| sN)) (by kernel_rfl) (show _ = ⟨[.own 0, .i .i64 (IntKind.wrap .i64 (k_l0 + 1)), .any, .any, .i .i64 0, .i .i64 (i_l1 + 1), .any, .any, .any, .any, .any, .any, .any, .any, .any, .any, .any, .any, .any], [.vec ty 1 ((r0_l2.set i_l1.toNat k_l0).map (cI .i64)) false]⟩ from (by simp [List.map_set, cI])) (ih (IntKind.wrap .i64 (k_l0 + 1)) (i_l1 + 1) (r0_l2.set i_l1.toNat k_l0) (show 0 ≤ (i_l1 + 1) from (by first | assumption | omega | (simp_all <;> omega))) (show (r0_l2.set i_l1.toNat k_l0).length = a_0.length from (by first | assumption | omega | (simp_all <;> omega))) (by first | assumption | omega | (simp_all <;> omega)))
  | false =>
   have gh_0 := of_decide_eq_false h_0
   have e : lo_laws_markInt64S_min_1 a_0 k_1 (k + 1) k_l0 i_l1 r0_l2 = (k_l0, r0_l2) := by simp only [lo_laws_markInt64S_min_1, h_0, cond_false]
   rw [e]
   exact outR (e := (.exit 0)) (EpOk 1) hMixed [] mk_laws_markInt64S_min_1_1 [] (p (sB h_0 <| sN)) (by kernel_rfl) (by intro h; cases h)

theorem ln_laws_markInt64S_min_1_1 (a_0 : (List Int)) (k_1 : Int) : ∀ (k : Nat) (k_l0 : Int) (i_l1 : Int) (r0_l2 : (List Int)) (hk : ((r0_l2.length : Int) - i_l1).toNat < k), (lo_laws_markInt64S_min_1 a_0 k_1 k k_l0 i_l1 r0_l2).2.length = r0_l2.length := by
  intro k
  induction k with
  | zero => intro k_l0 i_l1 r0_l2 hk; exact absurd hk (Nat.not_lt_zero _)
  | succ k ih =>
    intro k_l0 i_l1 r0_l2 hk
    cases h_0 : (decide (i_l1 < (r0_l2.length : Int))) with
    | true =>
      have e : lo_laws_markInt64S_min_1 a_0 k_1 (k + 1) k_l0 i_l1 r0_l2 = (lo_laws_markInt64S_min_1 a_0 k_1 k (IntKind.wrap .i64 (k_l0 + 1)) (i_l1 + 1) (r0_l2.set i_l1.toNat k_l0)) := by simp only [lo_laws_markInt64S_min_1, h_0, cond_true]
      rw [e, ih (IntKind.wrap .i64 (k_l0 + 1)) (i_l1 + 1) (r0_l2.set i_l1.toNat k_l0) (by first | assumption | omega | (simp_all <;> omega))]; simp
    | false =>
      have e : lo_laws_markInt64S_min_1 a_0 k_1 (k + 1) k_l0 i_l1 r0_l2 = (k_l0, r0_l2) := by simp only [lo_laws_markInt64S_min_1, h_0, cond_false]
      first | (rw [e]; done) | (rw [e]; rfl)

def lr_laws_markInt64S_min_1_0 (a_0 : (List Int)) (k_1 : Int) : Int × (List Int) := (lo_laws_markInt64S_min_1 a_0 k_1 (((a_0.length : Int) - 0).toNat + 1) k_1 0 a_0)

@[simp] theorem len_lr_laws_markInt64S_min_1_0_1 (a_0 : (List Int)) (k_1 : Int) : (lr_laws_markInt64S_min_1_0 a_0 k_1).2.length = (a_0 : (List Int)).length := ln_laws_markInt64S_min_1_1 a_0 k_1 (((a_0.length : Int) - 0).toNat + 1) k_1 0 a_0 (by first | exact Nat.lt_succ_self _ | simp)

def v_laws_markInt64S_min (a_0 : (List Int)) (k_1 : Int) : Int × (List Int) := ((lr_laws_markInt64S_min_1_0 a_0 k_1).1, (lr_laws_markInt64S_min_1_0 a_0 k_1).2)

@[simp] theorem len_v_laws_markInt64S_min_1 (a_0 : (List Int)) (k_1 : Int) : (v_laws_markInt64S_min a_0 k_1).2.length = a_0.length := by
  first | (simp [v_laws_markInt64S_min]; done)

theorem t_laws_markInt64S_min (ty : Nat) (a_0 : (List Int)) (k_1 : Int) (hp0 : a_0.length ≤ 1073741824)  : CallSt prog 36 [.vec ty 1 (a_0.map (cI .i64)) false] [.own 0, .i .i64 k_1] (.i .i64 ((v_laws_markInt64S_min a_0 k_1).1)) [.vec ty 1 (((v_laws_markInt64S_min a_0 k_1).2).map (cI .i64)) false] := by
 refine callS (EpOk 1) hMixed (c := bodyOf f36) [.vec ty 1 (a_0.map (cI .i64)) false] [] (.i .i64 ((lr_laws_markInt64S_min_1_0 a_0 k_1).1)) [.vec ty 1 (((lr_laws_markInt64S_min_1_0 a_0 k_1).2).map (cI .i64)) false] func36 (sL mk_laws_markInt64S_min_1_0 1 (lp_val (ls_laws_markInt64S_min_1 ty a_0 k_1) (x := (lr_laws_markInt64S_min_1_0 a_0 k_1)) (lp_laws_markInt64S_min_1 ty a_0 k_1 hp0 (((a_0.length : Int) - 0).toNat + 1) k_1 0 a_0 (show 0 ≤ 0 from (by first | assumption | omega | (simp_all <;> omega))) (show a_0.length = a_0.length from (by simp)) (Nat.lt_succ_self _)) rfl) <| sK [] sN) rfl (by kernel_rfl) (by kernel_rfl) ?_ ?_
 · rfl
 · simp [v_laws_markInt64S_min]

def mk_Int64_min (_ : Int) (c : Int) : Int × Int := ((IntKind.wrap .i64 (c + 1)), c)
theorem mkeq_Int64_min (a : List Int) (c : Int) : v_laws_markInt64S_min a c = mkL mk_Int64_min a c := by
  unfold v_laws_markInt64S_min lr_laws_markInt64S_min_1_0
  rw [mark_loop (f := mk_Int64_min) (lo := lo_laws_markInt64S_min_1 a c) (fun k c i r => rfl) _ _ _ _ (Int.le_refl 0) (Nat.lt_succ_self _)]
  simp
theorem markge_Int64_min (a : List Int) (c : Int) (g0 : a.length ≤ 1073741824) (h0 : 0 ≤ c) (h1 : c ≤ 4611686018427387904) : c ≤ (v_laws_markInt64S_min a c).1 ∧ (v_laws_markInt64S_min a c).1 ≤ c + 1073741824 := by
  rw [mkeq_Int64_min]
  have q := mkL_ge (f := mk_Int64_min) (W := 1) a c (fun x _ c k0 k1 => by simp only [mk_Int64_min]; rw [wrap_id (n := c + 1) (by omega) (by omega)]; omega) h0 (by omega)
  omega

def lo_laws_markInt64SS_mon_1 (a_0 : (List (List Int))) (k_1 : Int) : Nat → Int → Int → (List (List Int)) → Int × (List (List Int))
  | 0, _, _, _ => default
  | k + 1, k_l0, i_l1, r0_l2 => (cond (decide (i_l1 < (r0_l2.length : Int)))
    (lo_laws_markInt64SS_mon_1 a_0 k_1 k ((v_laws_markInt64S_min (r0_l2.getD i_l1.toNat default) k_l0).1) (i_l1 + 1) (r0_l2.set i_l1.toNat ((v_laws_markInt64S_min (r0_l2.getD i_l1.toNat default) k_l0).2)))
    (k_l0, r0_l2))

def ls_laws_markInt64SS_mon_1 (a_0 : (List (List Int))) (k_1 : Int) (r : Int × (List (List Int))) : Ex × St := ((.exit 0), ⟨[.any, .i .i64 r.1, .any, .any, .i .i64 0, .any, .any, .any, .any, .any, .any, .any, .any, .any, .any, .any, .any, .any, .any], [.nest 52 (r.2.map fun l => l.map (cI .i64)) false]⟩)

def hd_laws_markInt64SS_mon_1 (a_0 : (List (List Int))) (k_1 : Int) (k_l0 : Int) (i_l1 : Int) (r0_l2 : (List (List Int))) : St := ⟨[.own 0, .i .i64 k_l0, .any, .any, .i .i64 0, .i .i64 i_l1, .any, .any, .any, .any, .any, .any, .any, .any, .any, .any, .any, .any, .any], [.nest 52 (r0_l2.map fun l => l.map (cI .i64)) false]⟩

def mk_laws_markInt64SS_mon_1_0 : List Bool := [true, true, false, false, true, true, false, false, false, false, false, false, false, false, false, false, false, false, false]

def mk_laws_markInt64SS_mon_1_1 : List Bool := [false, true, false, false, true, false, false, false, false, false, false, false, false, false, false, false, false, false, false]

theorem lp_laws_markInt64SS_mon_1 (a_0 : (List (List Int))) (k_1 : Int) (hp0 : a_0.length ≤ 1073741824) (hp1 : ∀ t ∈ a_0, t.length ≤ 1073741824) : ∀ (k : Nat) (k_l0 : Int) (i_l1 : Int) (r0_l2 : (List (List Int))) (hv_laws_markInt64SS_mon_1_0 : 0 ≤ i_l1) (hv_laws_markInt64SS_mon_1_1 : r0_l2.length = a_0.length) (hv_laws_markInt64SS_mon_1_2 : ∀ t ∈ r0_l2, t.length ≤ 1073741824) (hk : ((a_0.length : Int) - i_l1).toNat < k), Lp prog 1 (sub (bodyOf f18) [1, 0, 1, 0, 0]) (hd_laws_markInt64SS_mon_1 a_0 k_1 k_l0 i_l1 r0_l2) (ls_laws_markInt64SS_mon_1 a_0 k_1 (lo_laws_markInt64SS_mon_1 a_0 k_1 k k_l0 i_l1 r0_l2)).1 (ls_laws_markInt64SS_mon_1 a_0 k_1 (lo_laws_markInt64SS_mon_1 a_0 k_1 k k_l0 i_l1 r0_l2)).2 := by
 intro k
 induction k with
 | zero => intro k_l0 i_l1 r0_l2 hv_laws_markInt64SS_mon_1_0 hv_laws_markInt64SS_mon_1_1 hv_laws_markInt64SS_mon_1_2 hk; exact absurd hk (Nat.not_lt_zero _)
 | succ k ih =>
  intro k_l0 i_l1 r0_l2 hv_laws_markInt64SS_mon_1_0 hv_laws_markInt64SS_mon_1_1 hv_laws_markInt64SS_mon_1_2 hk
  have p {a C} (s : Scr a C) := sM (nlen_ok (l := r0_l2) (f := fun l => l.map (cI .i64))) <| s
  cases h_0 : (decide (i_l1 < (r0_l2.length : Int))) with
  | true =>
   have gh_0 := of_decide_eq_true h_0
   have y_0 : (0 : Int) ≤ i_l1 := by clear p; exact (by first | assumption | omega | (exact mem_le hv_laws_markInt64SS_mon_1_2) | (simp_all <;> omega))
   have y_1 : Int.toNat i_l1 < r0_l2.length := by clear p; exact (by first | assumption | omega | (exact mem_le hv_laws_markInt64SS_mon_1_2) | (simp_all <;> omega))
   have y_2 : i_l1.toNat < r0_l2.length := by clear p; exact (by first | assumption | omega | (exact mem_le hv_laws_markInt64SS_mon_1_2) | (simp_all <;> omega))
   have y_3 : (r0_l2.getD i_l1.toNat default).length ≤ 1073741824 := by clear p; exact (by first | assumption | omega | (exact mem_le hv_laws_markInt64SS_mon_1_2) | (simp_all <;> omega))
   have y_4 : (-9223372036854775808 : Int) ≤ (i_l1 + 1) := by clear p; exact (by first | assumption | omega | (exact mem_le hv_laws_markInt64SS_mon_1_2) | (simp_all <;> omega))
   have y_5 : (i_l1 + 1) ≤ (9223372036854775807 : Int) := by clear p; exact (by first | assumption | omega | (exact mem_le hv_laws_markInt64SS_mon_1_2) | (simp_all <;> omega))
   have e : lo_laws_markInt64SS_mon_1 a_0 k_1 (k + 1) k_l0 i_l1 r0_l2 = (lo_laws_markInt64SS_mon_1 a_0 k_1 k ((v_laws_markInt64S_min (r0_l2.getD i_l1.toNat default) k_l0).1) (i_l1 + 1) (r0_l2.set i_l1.toNat ((v_laws_markInt64S_min (r0_l2.getD i_l1.toNat default) k_l0).2))) := by simp only [lo_laws_markInt64SS_mon_1, h_0, cond_true]
   rw [e]
   exact nextS (EpOk 1) hMixed [] mk_laws_markInt64SS_mon_1_0 [] (⟨[.own 0, .i .i64 ((v_laws_markInt64S_min (r0_l2.getD i_l1.toNat default) k_l0).1), .any, .any, .i .i64 0, .i .i64 (i_l1 + 1), .any, .any, .any, .any, .any, .any, .any, .any, .any, .any, .any, .any, .any], [.nest 52 ((r0_l2.map fun l => l.map (cI .i64)).set i_l1.toNat (((v_laws_markInt64S_min (r0_l2.getD i_l1.toNat default) k_l0).2).map (cI .i64))) false]⟩) (p (sB h_0 <| sC (nestix (c := (cI .i64)) (l := r0_l2) (i := i_l1) y_0 y_1) <| sC (nestlt (c := (cI .i64)) (l := r0_l2) y_2) <| sS (CallSt.frameInn (R := [.nest 52 (r0_l2.map fun l => l.map (cI .i64)) false]) (q := 0) (j := i_l1.toNat) (args := [.i .i64 k_l0]) (fun ty => t_laws_markInt64S_min ty (r0_l2.getD i_l1.toNat default) k_l0 y_3) rfl rfl (by simp) rfl (nestget_ok y_2)) <| sI (i_l1 + 1) y_4 y_5 <| sN)) (by kernel_rfl) (show _ = ⟨[.own 0, .i .i64 ((v_laws_markInt64S_min (r0_l2.getD i_l1.toNat default) k_l0).1), .any, .any, .i .i64 0, .i .i64 (i_l1 + 1), .any, .any, .any, .any, .any, .any, .any, .any, .any, .any, .any, .any, .any], [.nest 52 ((r0_l2.set i_l1.toNat ((v_laws_markInt64S_min (r0_l2.getD i_l1.toNat default) k_l0).2)).map fun l => l.map (cI .i64)) false]⟩ from (by simp [List.map_set, cL, cI])) (ih ((v_laws_markInt64S_min (r0_l2.getD i_l1.toNat default) k_l0).1) (i_l1 + 1) (r0_l2.set i_l1.toNat ((v_laws_markInt64S_min (r0_l2.getD i_l1.toNat default) k_l0).2)) (show 0 ≤ (i_l1 + 1) from (by first | assumption | omega | (simp; done) | (simp; assumption) | (simp; omega) | (intro t ht; rcases List.mem_or_eq_of_mem_set ht with h | h; (exact hv_laws_markInt64SS_mon_1_2 t h); (rw [h]; simp only [len_v_laws_markInt64S_min_1]; exact mem_le hv_laws_markInt64SS_mon_1_2)))) (show (r0_l2.set i_l1.toNat ((v_laws_markInt64S_min (r0_l2.getD i_l1.toNat default) k_l0).2)).length = a_0.length from (by first | assumption | omega | (simp; done) | (simp; assumption) | (simp; omega) | (intro t ht; rcases List.mem_or_eq_of_mem_set ht with h | h; (exact hv_laws_markInt64SS_mon_1_2 t h); (rw [h]; simp only [len_v_laws_markInt64S_min_1]; exact mem_le hv_laws_markInt64SS_mon_1_2)))) (show ∀ t ∈ (r0_l2.set i_l1.toNat ((v_laws_markInt64S_min (r0_l2.getD i_l1.toNat default) k_l0).2)), t.length ≤ 1073741824 from (by first | assumption | omega | (simp; done) | (simp; assumption) | (simp; omega) | (intro t ht; rcases List.mem_or_eq_of_mem_set ht with h | h; (exact hv_laws_markInt64SS_mon_1_2 t h); (rw [h]; simp only [len_v_laws_markInt64S_min_1]; exact mem_le hv_laws_markInt64SS_mon_1_2)))) (by first | assumption | omega | (exact mem_le hv_laws_markInt64SS_mon_1_2) | (simp_all <;> omega)))
  | false =>
   have gh_0 := of_decide_eq_false h_0
   have e : lo_laws_markInt64SS_mon_1 a_0 k_1 (k + 1) k_l0 i_l1 r0_l2 = (k_l0, r0_l2) := by simp only [lo_laws_markInt64SS_mon_1, h_0, cond_false]
   rw [e]
   exact outR (e := (.exit 0)) (EpOk 1) hMixed [] mk_laws_markInt64SS_mon_1_1 [] (p (sB h_0 <| sN)) (by kernel_rfl) (by intro h; cases h)

theorem ln_laws_markInt64SS_mon_1_1 (a_0 : (List (List Int))) (k_1 : Int) : ∀ (k : Nat) (k_l0 : Int) (i_l1 : Int) (r0_l2 : (List (List Int))) (hk : ((r0_l2.length : Int) - i_l1).toNat < k), (lo_laws_markInt64SS_mon_1 a_0 k_1 k k_l0 i_l1 r0_l2).2.length = r0_l2.length := by
  intro k
  induction k with
  | zero => intro k_l0 i_l1 r0_l2 hk; exact absurd hk (Nat.not_lt_zero _)
  | succ k ih =>
    intro k_l0 i_l1 r0_l2 hk
    cases h_0 : (decide (i_l1 < (r0_l2.length : Int))) with
    | true =>
      have e : lo_laws_markInt64SS_mon_1 a_0 k_1 (k + 1) k_l0 i_l1 r0_l2 = (lo_laws_markInt64SS_mon_1 a_0 k_1 k ((v_laws_markInt64S_min (r0_l2.getD i_l1.toNat default) k_l0).1) (i_l1 + 1) (r0_l2.set i_l1.toNat ((v_laws_markInt64S_min (r0_l2.getD i_l1.toNat default) k_l0).2))) := by simp only [lo_laws_markInt64SS_mon_1, h_0, cond_true]
      rw [e, ih ((v_laws_markInt64S_min (r0_l2.getD i_l1.toNat default) k_l0).1) (i_l1 + 1) (r0_l2.set i_l1.toNat ((v_laws_markInt64S_min (r0_l2.getD i_l1.toNat default) k_l0).2)) (by first | assumption | omega | (exact mem_le hv_laws_markInt64SS_mon_1_2) | (simp_all <;> omega))]; simp
    | false =>
      have e : lo_laws_markInt64SS_mon_1 a_0 k_1 (k + 1) k_l0 i_l1 r0_l2 = (k_l0, r0_l2) := by simp only [lo_laws_markInt64SS_mon_1, h_0, cond_false]
      first | (rw [e]; done) | (rw [e]; rfl)

def lr_laws_markInt64SS_mon_1_0 (a_0 : (List (List Int))) (k_1 : Int) : Int × (List (List Int)) := (lo_laws_markInt64SS_mon_1 a_0 k_1 (((a_0.length : Int) - 0).toNat + 1) k_1 0 a_0)

@[simp] theorem len_lr_laws_markInt64SS_mon_1_0_1 (a_0 : (List (List Int))) (k_1 : Int) : (lr_laws_markInt64SS_mon_1_0 a_0 k_1).2.length = (a_0 : (List (List Int))).length := ln_laws_markInt64SS_mon_1_1 a_0 k_1 (((a_0.length : Int) - 0).toNat + 1) k_1 0 a_0 (by first | exact Nat.lt_succ_self _ | simp)

def v_laws_markInt64SS_mon (a_0 : (List (List Int))) (k_1 : Int) : Int × (List (List Int)) := ((lr_laws_markInt64SS_mon_1_0 a_0 k_1).1, (lr_laws_markInt64SS_mon_1_0 a_0 k_1).2)

@[simp] theorem len_v_laws_markInt64SS_mon_1 (a_0 : (List (List Int))) (k_1 : Int) : (v_laws_markInt64SS_mon a_0 k_1).2.length = a_0.length := by
  first | (simp [v_laws_markInt64SS_mon]; done)

theorem t_laws_markInt64SS_mon (a_0 : (List (List Int))) (k_1 : Int) (hp0 : a_0.length ≤ 1073741824) (hp1 : ∀ t ∈ a_0, t.length ≤ 1073741824)  : CallSt prog 18 [.nest 52 (a_0.map fun l => l.map (cI .i64)) false] [.own 0, .i .i64 k_1] (.i .i64 ((v_laws_markInt64SS_mon a_0 k_1).1)) [.nest 52 (((v_laws_markInt64SS_mon a_0 k_1).2).map fun l => l.map (cI .i64)) false] := by
 refine callS (EpOk 1) hMixed (c := bodyOf f18) [.nest 52 (a_0.map fun l => l.map (cI .i64)) false] [] (.i .i64 ((lr_laws_markInt64SS_mon_1_0 a_0 k_1).1)) [.nest 52 (((lr_laws_markInt64SS_mon_1_0 a_0 k_1).2).map fun l => l.map (cI .i64)) false] func18 (sL mk_laws_markInt64SS_mon_1_0 1 (lp_val (ls_laws_markInt64SS_mon_1 a_0 k_1) (x := (lr_laws_markInt64SS_mon_1_0 a_0 k_1)) (lp_laws_markInt64SS_mon_1 a_0 k_1 hp0 hp1 (((a_0.length : Int) - 0).toNat + 1) k_1 0 a_0 (show 0 ≤ 0 from (by first | assumption | simp)) (show a_0.length = a_0.length from (by first | assumption | simp)) (show ∀ t ∈ a_0, t.length ≤ 1073741824 from (by first | assumption | simp)) (Nat.lt_succ_self _)) rfl) <| sK [] sN) rfl (by kernel_rfl) (by kernel_rfl) ?_ ?_
 · rfl
 · simp [v_laws_markInt64SS_mon]

theorem mkeq_Int64SS (a : List (List Int)) (c : Int) : v_laws_markInt64SS_mon a c = mkL v_laws_markInt64S_min a c := by
  unfold v_laws_markInt64SS_mon lr_laws_markInt64SS_mon_1_0
  rw [mark_loop (f := v_laws_markInt64S_min) (lo := lo_laws_markInt64SS_mon_1 a c) (fun k c i r => rfl) _ _ _ _ (Int.le_refl 0) (Nat.lt_succ_self _)]
  simp
theorem mlen_Int64SS_mon (a : List (List Int)) (c : Int) (N : Nat) (h : ∀ t ∈ a, t.length ≤ N) : ∀ t ∈ (v_laws_markInt64SS_mon a c).2, t.length ≤ N := by
  rw [mkeq_Int64SS]
  exact mkL_mem (p := fun t : List Int => t.length ≤ N) (fun x c hx => by rw [len_v_laws_markInt64S_min_1]; exact hx) a c h
theorem markge_Int64SS_mon (a : List (List Int)) (c : Int) (g0 : a.length ≤ 1073741824) (g1 : ∀ t ∈ a, t.length ≤ 1073741824) (h0 : 0 ≤ c) (h1 : c ≤ 3458764513820540928) : c ≤ (v_laws_markInt64SS_mon a c).1 ∧ (v_laws_markInt64SS_mon a c).1 ≤ c + 1152921504606846976 := by
  rw [mkeq_Int64SS]
  have hm : (a.length : Int) * 1073741824 ≤ 1152921504606846976 := by omega
  have q := mkL_ge_b (f := v_laws_markInt64S_min) (W := 1073741824) (M := 4611686018427387904) a c (fun x hx c k0 k1 => by have q := markge_Int64_min x c (g1 x hx) k0 (by omega); omega) h0 (by omega)
  omega

def v_laws_markMesh_mAooZn (a_0 : GMesh) (k_1 : Int) : Int × (List GVector) × (List (List Int)) := ((v_laws_markInt64SS_mon a_0.Triangles ((v_laws_markVectorS_mon a_0.Places k_1).1)).1, (v_laws_markVectorS_mon a_0.Places k_1).2, (v_laws_markInt64SS_mon a_0.Triangles ((v_laws_markVectorS_mon a_0.Places k_1).1)).2)

@[simp] theorem len_v_laws_markMesh_mAooZn_1 (a_0 : GMesh) (k_1 : Int) : (v_laws_markMesh_mAooZn a_0 k_1).2.1.length = a_0.Places.length := by
  first | (simp [v_laws_markMesh_mAooZn]; done)

@[simp] theorem len_v_laws_markMesh_mAooZn_2 (a_0 : GMesh) (k_1 : Int) : (v_laws_markMesh_mAooZn a_0 k_1).2.2.length = a_0.Triangles.length := by
  first | (simp [v_laws_markMesh_mAooZn]; done)

theorem t_laws_markMesh_mAooZn (a_0 : GMesh) (k_1 : Int) (hp0 : a_0.Places.length ≤ 1073741824) (hp1 : a_0.Triangles.length ≤ 1073741824) (hp2 : ∀ t ∈ a_0.Triangles, t.length ≤ 1073741824)  : CallSt prog 17 [.vec 67 3 (a_0.Places.map GVector.cells) false, .nest 52 (a_0.Triangles.map fun l => l.map (cI .i64)) false] [.agg [.own 0, .own 1], .i .i64 k_1] (.i .i64 ((v_laws_markMesh_mAooZn a_0 k_1).1)) [.vec 67 3 (((v_laws_markMesh_mAooZn a_0 k_1).2.1).map GVector.cells) false, .nest 52 (((v_laws_markMesh_mAooZn a_0 k_1).2.2).map fun l => l.map (cI .i64)) false] := by
 refine callS (EpOk 2) hMixed (c := bodyOf f17) [.vec 67 3 (a_0.Places.map GVector.cells) false, .nest 52 (a_0.Triangles.map fun l => l.map (cI .i64)) false] [] (.i .i64 ((v_laws_markInt64SS_mon a_0.Triangles ((v_laws_markVectorS_mon a_0.Places k_1).1)).1)) [.vec 67 3 (((v_laws_markVectorS_mon a_0.Places k_1).2).map GVector.cells) false, .nest 52 (((v_laws_markInt64SS_mon a_0.Triangles ((v_laws_markVectorS_mon a_0.Places k_1).1)).2).map fun l => l.map (cI .i64)) false] func17 (sS (CallSt.frame (t_laws_markVectorS_mon a_0.Places k_1 hp0) [0] (R := [.vec 67 3 (a_0.Places.map GVector.cells) false, .nest 52 (a_0.Triangles.map fun l => l.map (cI .i64)) false, .box 31 [.own 0, .own 1]]) (args' := [.own 0, .i .i64 k_1]) rfl rfl rfl rfl rfl rfl) <| sS (CallSt.frame (t_laws_markInt64SS_mon a_0.Triangles ((v_laws_markVectorS_mon a_0.Places k_1).1) hp1 hp2) [1] (R := [.vec 67 3 (((v_laws_markVectorS_mon a_0.Places k_1).2).map GVector.cells) false, .nest 52 (a_0.Triangles.map fun l => l.map (cI .i64)) false, .box 31 [.own 0, .own 1]]) (args' := [.own 1, .i .i64 ((v_laws_markVectorS_mon a_0.Places k_1).1)]) rfl rfl rfl rfl rfl rfl) <| sK [] sN) rfl (by kernel_rfl) (by kernel_rfl) ?_ ?_
 · rfl
 · simp [v_laws_markMesh_mAooZn]

theorem markge_Mesh_mAooZn (a : GMesh) (c : Int) (g0 : a.Places.length ≤ 1073741824) (g1 : a.Triangles.length ≤ 1073741824) (g2 : ∀ t ∈ a.Triangles, t.length ≤ 1073741824) (h0 : 0 ≤ c) (h1 : c ≤ 2305843009213693952) : c ≤ (v_laws_markMesh_mAooZn a c).1 ∧ (v_laws_markMesh_mAooZn a c).1 ≤ c + 1152921507828072448 := by
  unfold v_laws_markMesh_mAooZn
  have p0 := markge_Vector_mon a.Places c g0 (by omega) (by omega)
  have p1 := markge_Int64SS_mon a.Triangles ((v_laws_markVectorS_mon a.Places c).1) g1 g2 (by omega) (by omega)
  simp only
  omega

theorem mlen_Mesh_mAooZn (a : GMesh) (c : Int) (N : Nat) (h : ∀ t ∈ a.Triangles, t.length ≤ N) : ∀ t ∈ (v_laws_markMesh_mAooZn a c).2.2, t.length ≤ N := by
  unfold v_laws_markMesh_mAooZn
  exact mlen_Int64SS_mon _ _ N h

def lo_laws_markSpringS_mon_1 (a_0 : (List GSpring)) (k_1 : Int) : Nat → Int → Int → (List GSpring) → Int × (List GSpring)
  | 0, _, _, _ => default
  | k + 1, k_l0, i_l1, r0_l2 => (cond (decide (i_l1 < (r0_l2.length : Int)))
    (lo_laws_markSpringS_mon_1 a_0 k_1 k (IntKind.wrap .i64 ((IntKind.wrap .i64 ((IntKind.wrap .i64 ((IntKind.wrap .i64 (k_l0 + 1)) + 1)) + 1)) + 1)) (i_l1 + 1) (r0_l2.set i_l1.toNat (⟨k_l0, (IntKind.wrap .i64 (k_l0 + 1)), (ofInt .f32 (IntKind.wrap .i64 ((IntKind.wrap .i64 (k_l0 + 1)) + 1))), (ofInt .f32 (IntKind.wrap .i64 ((IntKind.wrap .i64 ((IntKind.wrap .i64 (k_l0 + 1)) + 1)) + 1)))⟩ : GSpring)))
    (k_l0, r0_l2))

def ls_laws_markSpringS_mon_1 (a_0 : (List GSpring)) (k_1 : Int) (r : Int × (List GSpring)) : Ex × St := ((.exit 0), ⟨[.any, .i .i64 r.1, .any, .any, .i .i64 0, .any, .any, .any, .any, .any, .any, .any, .any, .any, .any, .any, .any, .any, .any, .any, .any, .any, .any, .any, .any, .any, .any, .any, .any, .any, .any, .any, .any, .any, .any, .any, .any, .any, .any, .any, .any, .any, .any], [.vec 132 4 (r.2.map GSpring.cells) false]⟩)

def hd_laws_markSpringS_mon_1 (a_0 : (List GSpring)) (k_1 : Int) (k_l0 : Int) (i_l1 : Int) (r0_l2 : (List GSpring)) : St := ⟨[.own 0, .i .i64 k_l0, .any, .any, .i .i64 0, .i .i64 i_l1, .any, .any, .any, .any, .any, .any, .any, .any, .any, .any, .any, .any, .any, .any, .any, .any, .any, .any, .any, .any, .any, .any, .any, .any, .any, .any, .any, .any, .any, .any, .any, .any, .any, .any, .any, .any, .any], [.vec 132 4 (r0_l2.map GSpring.cells) false]⟩

def mk_laws_markSpringS_mon_1_0 : List Bool := [true, true, false, false, true, true, false, false, false, false, false, false, false, false, false, false, false, false, false, false, false, false, false, false, false, false, false, false, false, false, false, false, false, false, false, false, false, false, false, false, false, false, false]

def mk_laws_markSpringS_mon_1_1 : List Bool := [false, true, false, false, true, false, false, false, false, false, false, false, false, false, false, false, false, false, false, false, false, false, false, false, false, false, false, false, false, false, false, false, false, false, false, false, false, false, false, false, false, false, false]

theorem lp_laws_markSpringS_mon_1 (a_0 : (List GSpring)) (k_1 : Int) (hp0 : a_0.length ≤ 1073741824) : ∀ (k : Nat) (k_l0 : Int) (i_l1 : Int) (r0_l2 : (List GSpring)) (hv_laws_markSpringS_mon_1_0 : 0 ≤ i_l1) (hv_laws_markSpringS_mon_1_1 : r0_l2.length = a_0.length) (hk : ((a_0.length : Int) - i_l1).toNat < k), Lp prog 1 (sub (bodyOf f99) [1, 0, 1, 0, 0]) (hd_laws_markSpringS_mon_1 a_0 k_1 k_l0 i_l1 r0_l2) (ls_laws_markSpringS_mon_1 a_0 k_1 (lo_laws_markSpringS_mon_1 a_0 k_1 k k_l0 i_l1 r0_l2)).1 (ls_laws_markSpringS_mon_1 a_0 k_1 (lo_laws_markSpringS_mon_1 a_0 k_1 k k_l0 i_l1 r0_l2)).2 := by
 intro k
 induction k with
 | zero => intro k_l0 i_l1 r0_l2 hv_laws_markSpringS_mon_1_0 hv_laws_markSpringS_mon_1_1 hk; exact absurd hk (Nat.not_lt_zero _)
 | succ k ih =>
  intro k_l0 i_l1 r0_l2 hv_laws_markSpringS_mon_1_0 hv_laws_markSpringS_mon_1_1 hk
  have p {a C} (s : Scr a C) := sZ GSpring.cells r0_l2 <| s
  cases h_0 : (decide (i_l1 < (r0_l2.length : Int))) with
  | true =>
   have gh_0 := of_decide_eq_true h_0
   have y_0 : (0 : Int) ≤ i_l1 := by clear p; exact (by first | assumption | omega | (simp_all <;> omega))
   have y_1 : i_l1 < (r0_l2.length : Int) := by clear p; exact (by first | assumption | omega | (simp_all <;> omega))
   have y_2 : i_l1.toNat < r0_l2.length := by clear p; exact (by first | assumption | omega | (simp_all <;> omega))
   have y_3 : i_l1 < ((r0_l2.set i_l1.toNat (⟨k_l0, (r0_l2.getD i_l1.toNat default).B, (r0_l2.getD i_l1.toNat default).Long, (r0_l2.getD i_l1.toNat default).Stiff⟩ : GSpring)).length : Int) := by clear p; exact (by first | assumption | omega | (simp_all <;> omega))
   have y_4 : i_l1 < ((r0_l2.set i_l1.toNat (⟨k_l0, (IntKind.wrap .i64 (k_l0 + 1)), (r0_l2.getD i_l1.toNat default).Long, (r0_l2.getD i_l1.toNat default).Stiff⟩ : GSpring)).length : Int) := by clear p; exact (by first | assumption | omega | (simp_all <;> omega))
   have y_5 : i_l1 < ((r0_l2.set i_l1.toNat (⟨k_l0, (IntKind.wrap .i64 (k_l0 + 1)), (ofInt .f32 (IntKind.wrap .i64 ((IntKind.wrap .i64 (k_l0 + 1)) + 1))), (r0_l2.getD i_l1.toNat default).Stiff⟩ : GSpring)).length : Int) := by clear p; exact (by first | assumption | omega | (simp_all <;> omega))
   have y_6 : (-9223372036854775808 : Int) ≤ (i_l1 + 1) := by clear p; exact (by first | assumption | omega | (simp_all <;> omega))
   have y_7 : (i_l1 + 1) ≤ (9223372036854775807 : Int) := by clear p; exact (by first | assumption | omega | (simp_all <;> omega))
   have e : lo_laws_markSpringS_mon_1 a_0 k_1 (k + 1) k_l0 i_l1 r0_l2 = (lo_laws_markSpringS_mon_1 a_0 k_1 k (IntKind.wrap .i64 ((IntKind.wrap .i64 ((IntKind.wrap .i64 ((IntKind.wrap .i64 (k_l0 + 1)) + 1)) + 1)) + 1)) (i_l1 + 1) (r0_l2.set i_l1.toNat (⟨k_l0, (IntKind.wrap .i64 (k_l0 + 1)), (ofInt .f32 (IntKind.wrap .i64 ((IntKind.wrap .i64 (k_l0 + 1)) + 1))), (ofInt .f32 (IntKind.wrap .i64 ((IntKind.wrap .i64 ((IntKind.wrap .i64 (k_l0 + 1)) + 1)) + 1)))⟩ : GSpring))) := by simp only [lo_laws_markSpringS_mon_1, h_0, cond_true]
   rw [e]
   exact nextS (EpOk 1) hMixed [] mk_laws_markSpringS_mon_1_0 [] (⟨[.own 0, .i .i64 (IntKind.wrap .i64 ((IntKind.wrap .i64 ((IntKind.wrap .i64 ((IntKind.wrap .i64 (k_l0 + 1)) + 1)) + 1)) + 1)), .any, .any, .i .i64 0, .i .i64 (i_l1 + 1), .any, .any, .any, .any, .any, .any, .any, .any, .any, .any, .any, .any, .any, .any, .any, .any, .any, .any, .any, .any, .any, .any, .any, .any, .any, .any, .any, .any, .any, .any, .any, .any, .any, .any, .any, .any, .any], [.vec 132 4 (((((r0_l2.map GSpring.cells).set i_l1.toNat [.i .i64 k_l0, .i .i64 ((r0_l2.getD i_l1.toNat default).B), .f .f32 ((r0_l2.getD i_l1.toNat default).Long), .f .f32 ((r0_l2.getD i_l1.toNat default).Stiff)]).set i_l1.toNat [.i .i64 k_l0, .i .i64 (IntKind.wrap .i64 (k_l0 + 1)), .f .f32 ((r0_l2.getD i_l1.toNat default).Long), .f .f32 ((r0_l2.getD i_l1.toNat default).Stiff)]).set i_l1.toNat [.i .i64 k_l0, .i .i64 (IntKind.wrap .i64 (k_l0 + 1)), .f .f32 (ofInt .f32 (IntKind.wrap .i64 ((IntKind.wrap .i64 (k_l0 + 1)) + 1))), .f .f32 ((r0_l2.getD i_l1.toNat default).Stiff)]).set i_l1.toNat [.i .i64 k_l0, .i .i64 (IntKind.wrap .i64 (k_l0 + 1)), .f .f32 (ofInt .f32 (IntKind.wrap .i64 ((IntKind.wrap .i64 (k_l0 + 1)) + 1))), .f .f32 (ofInt .f32 (IntKind.wrap .i64 ((IntKind.wrap .i64 ((IntKind.wrap .i64 (k_l0 + 1)) + 1)) + 1)))]) false]⟩) (p (sB h_0 <| sX GSpring.cells r0_l2 i_l1 y_0 y_1 <| sV GSpring.cells r0_l2 i_l1.toNat y_2 <| sW .i64 (k_l0 + 1) <| sC (show 0 ≤ i_l1 ∧ Int.toNat i_l1 < ((r0_l2.map GSpring.cells).set i_l1.toNat [.i .i64 k_l0, .i .i64 ((r0_l2.getD i_l1.toNat default).B), .f .f32 ((r0_l2.getD i_l1.toNat default).Long), .f .f32 ((r0_l2.getD i_l1.toNat default).Stiff)]).length from (by simpa using idx_ok (c := GSpring.cells) (l := (r0_l2.set i_l1.toNat (⟨k_l0, (r0_l2.getD i_l1.toNat default).B, (r0_l2.getD i_l1.toNat default).Long, (r0_l2.getD i_l1.toNat default).Stiff⟩ : GSpring))) (i := i_l1) y_0 y_3)) <| sE (show ((r0_l2.map GSpring.cells).set i_l1.toNat [.i .i64 k_l0, .i .i64 ((r0_l2.getD i_l1.toNat default).B), .f .f32 ((r0_l2.getD i_l1.toNat default).Long), .f .f32 ((r0_l2.getD i_l1.toNat default).Stiff)])[i_l1.toNat]? = some [.i .i64 k_l0, .i .i64 ((r0_l2.getD i_l1.toNat default).B), .f .f32 ((r0_l2.getD i_l1.toNat default).Long), .f .f32 ((r0_l2.getD i_l1.toNat default).Stiff)] from List.getElem?_set_self (by simpa using y_2)) <| sW .i64 ((IntKind.wrap .i64 (k_l0 + 1)) + 1) <| sC (show 0 ≤ i_l1 ∧ Int.toNat i_l1 < (((r0_l2.map GSpring.cells).set i_l1.toNat [.i .i64 k_l0, .i .i64 ((r0_l2.getD i_l1.toNat default).B), .f .f32 ((r0_l2.getD i_l1.toNat default).Long), .f .f32 ((r0_l2.getD i_l1.toNat default).Stiff)]).set i_l1.toNat [.i .i64 k_l0, .i .i64 (IntKind.wrap .i64 (k_l0 + 1)), .f .f32 ((r0_l2.getD i_l1.toNat default).Long), .f .f32 ((r0_l2.getD i_l1.toNat default).Stiff)]).length from (by simpa using idx_ok (c := GSpring.cells) (l := (r0_l2.set i_l1.toNat (⟨k_l0, (IntKind.wrap .i64 (k_l0 + 1)), (r0_l2.getD i_l1.toNat default).Long, (r0_l2.getD i_l1.toNat default).Stiff⟩ : GSpring))) (i := i_l1) y_0 y_4)) <| sE (show (((r0_l2.map GSpring.cells).set i_l1.toNat [.i .i64 k_l0, .i .i64 ((r0_l2.getD i_l1.toNat default).B), .f .f32 ((r0_l2.getD i_l1.toNat default).Long), .f .f32 ((r0_l2.getD i_l1.toNat default).Stiff)]).set i_l1.toNat [.i .i64 k_l0, .i .i64 (IntKind.wrap .i64 (k_l0 + 1)), .f .f32 ((r0_l2.getD i_l1.toNat default).Long), .f .f32 ((r0_l2.getD i_l1.toNat default).Stiff)])[i_l1.toNat]? = some [.i .i64 k_l0, .i .i64 (IntKind.wrap .i64 (k_l0 + 1)), .f .f32 ((r0_l2.getD i_l1.toNat default).Long), .f .f32 ((r0_l2.getD i_l1.toNat default).Stiff)] from List.getElem?_set_self (by simpa using y_2)) <| sW .i64 ((IntKind.wrap .i64 ((IntKind.wrap .i64 (k_l0 + 1)) + 1)) + 1) <| sC (show 0 ≤ i_l1 ∧ Int.toNat i_l1 < ((((r0_l2.map GSpring.cells).set i_l1.toNat [.i .i64 k_l0, .i .i64 ((r0_l2.getD i_l1.toNat default).B), .f .f32 ((r0_l2.getD i_l1.toNat default).Long), .f .f32 ((r0_l2.getD i_l1.toNat default).Stiff)]).set i_l1.toNat [.i .i64 k_l0, .i .i64 (IntKind.wrap .i64 (k_l0 + 1)), .f .f32 ((r0_l2.getD i_l1.toNat default).Long), .f .f32 ((r0_l2.getD i_l1.toNat default).Stiff)]).set i_l1.toNat [.i .i64 k_l0, .i .i64 (IntKind.wrap .i64 (k_l0 + 1)), .f .f32 (ofInt .f32 (IntKind.wrap .i64 ((IntKind.wrap .i64 (k_l0 + 1)) + 1))), .f .f32 ((r0_l2.getD i_l1.toNat default).Stiff)]).length from (by simpa using idx_ok (c := GSpring.cells) (l := (r0_l2.set i_l1.toNat (⟨k_l0, (IntKind.wrap .i64 (k_l0 + 1)), (ofInt .f32 (IntKind.wrap .i64 ((IntKind.wrap .i64 (k_l0 + 1)) + 1))), (r0_l2.getD i_l1.toNat default).Stiff⟩ : GSpring))) (i := i_l1) y_0 y_5)) <| sE (show ((((r0_l2.map GSpring.cells).set i_l1.toNat [.i .i64 k_l0, .i .i64 ((r0_l2.getD i_l1.toNat default).B), .f .f32 ((r0_l2.getD i_l1.toNat default).Long), .f .f32 ((r0_l2.getD i_l1.toNat default).Stiff)]).set i_l1.toNat [.i .i64 k_l0, .i .i64 (IntKind.wrap .i64 (k_l0 + 1)), .f .f32 ((r0_l2.getD i_l1.toNat default).Long), .f .f32 ((r0_l2.getD i_l1.toNat default).Stiff)]).set i_l1.toNat [.i .i64 k_l0, .i .i64 (IntKind.wrap .i64 (k_l0 + 1)), .f .f32 (ofInt .f32 (IntKind.wrap .i64 ((IntKind.wrap .i64 (k_l0 + 1)) + 1))), .f .f32 ((r0_l2.getD i_l1.toNat default).Stiff)])[i_l1.toNat]? = some [.i .i64 k_l0, .i .i64 (IntKind.wrap .i64 (k_l0 + 1)), .f .f32 (ofInt .f32 (IntKind.wrap .i64 ((IntKind.wrap .i64 (k_l0 + 1)) + 1))), .f .f32 ((r0_l2.getD i_l1.toNat default).Stiff)] from List.getElem?_set_self (by simpa using y_2)) <| sW .i64 ((IntKind.wrap .i64 ((IntKind.wrap .i64 ((IntKind.wrap .i64 (k_l0 + 1)) + 1)) + 1)) + 1) <| sI (i_l1 + 1) y_6 y_7 <| sN)) (by kernel_rfl) (show _ = ⟨[.own 0, .i .i64 (IntKind.wrap .i64 ((IntKind.wrap .i64 ((IntKind.wrap .i64 ((IntKind.wrap .i64 (k_l0 + 1)) + 1)) + 1)) + 1)), .any, .any, .i .i64 0, .i .i64 (i_l1 + 1), .any, .any, .any, .any, .any, .any, .any, .any, .any, .any, .any, .any, .any, .any, .any, .any, .any, .any, .any, .any, .any, .any, .any, .any, .any, .any, .any, .any, .any, .any, .any, .any, .any, .any, .any, .any, .any], [.vec 132 4 ((r0_l2.set i_l1.toNat (⟨k_l0, (IntKind.wrap .i64 (k_l0 + 1)), (ofInt .f32 (IntKind.wrap .i64 ((IntKind.wrap .i64 (k_l0 + 1)) + 1))), (ofInt .f32 (IntKind.wrap .i64 ((IntKind.wrap .i64 ((IntKind.wrap .i64 (k_l0 + 1)) + 1)) + 1)))⟩ : GSpring)).map GSpring.cells) false]⟩ from (by simp [List.map_set, GSpring.cells])) (ih (IntKind.wrap .i64 ((IntKind.wrap .i64 ((IntKind.wrap .i64 ((IntKind.wrap .i64 (k_l0 + 1)) + 1)) + 1)) + 1)) (i_l1 + 1) (r0_l2.set i_l1.toNat (⟨k_l0, (IntKind.wrap .i64 (k_l0 + 1)), (ofInt .f32 (IntKind.wrap .i64 ((IntKind.wrap .i64 (k_l0 + 1)) + 1))), (ofInt .f32 (IntKind.wrap .i64 ((IntKind.wrap .i64 ((IntKind.wrap .i64 (k_l0 + 1)) + 1)) + 1)))⟩ : GSpring)) (show 0 ≤ (i_l1 + 1) from (by first | assumption | omega | (simp_all <;> omega))) (show (r0_l2.set i_l1.toNat (⟨k_l0, (IntKind.wrap .i64 (k_l0 + 1)), (ofInt .f32 (IntKind.wrap .i64 ((IntKind.wrap .i64 (k_l0 + 1)) + 1))), (ofInt .f32 (IntKind.wrap .i64 ((IntKind.wrap .i64 ((IntKind.wrap .i64 (k_l0 + 1)) + 1)) + 1)))⟩ : GSpring)).length = a_0.length from (by first | assumption | omega | (simp_all <;> omega))) (by first | assumption | omega | (simp_all <;> omega)))
  | false =>
   have gh_0 := of_decide_eq_false h_0
   have e : lo_laws_markSpringS_mon_1 a_0 k_1 (k + 1) k_l0 i_l1 r0_l2 = (k_l0, r0_l2) := by simp only [lo_laws_markSpringS_mon_1, h_0, cond_false]
   rw [e]
   exact outR (e := (.exit 0)) (EpOk 1) hMixed [] mk_laws_markSpringS_mon_1_1 [] (p (sB h_0 <| sN)) (by kernel_rfl) (by intro h; cases h)

theorem ln_laws_markSpringS_mon_1_1 (a_0 : (List GSpring)) (k_1 : Int) : ∀ (k : Nat) (k_l0 : Int) (i_l1 : Int) (r0_l2 : (List GSpring)) (hk : ((r0_l2.length : Int) - i_l1).toNat < k), (lo_laws_markSpringS_mon_1 a_0 k_1 k k_l0 i_l1 r0_l2).2.length = r0_l2.length := by
  intro k
  induction k with
  | zero => intro k_l0 i_l1 r0_l2 hk; exact absurd hk (Nat.not_lt_zero _)
  | succ k ih =>
    intro k_l0 i_l1 r0_l2 hk
    cases h_0 : (decide (i_l1 < (r0_l2.length : Int))) with
    | true =>
      have e : lo_laws_markSpringS_mon_1 a_0 k_1 (k + 1) k_l0 i_l1 r0_l2 = (lo_laws_markSpringS_mon_1 a_0 k_1 k (IntKind.wrap .i64 ((IntKind.wrap .i64 ((IntKind.wrap .i64 ((IntKind.wrap .i64 (k_l0 + 1)) + 1)) + 1)) + 1)) (i_l1 + 1) (r0_l2.set i_l1.toNat (⟨k_l0, (IntKind.wrap .i64 (k_l0 + 1)), (ofInt .f32 (IntKind.wrap .i64 ((IntKind.wrap .i64 (k_l0 + 1)) + 1))), (ofInt .f32 (IntKind.wrap .i64 ((IntKind.wrap .i64 ((IntKind.wrap .i64 (k_l0 + 1)) + 1)) + 1)))⟩ : GSpring))) := by simp only [lo_laws_markSpringS_mon_1, h_0, cond_true]
      rw [e, ih (IntKind.wrap .i64 ((IntKind.wrap .i64 ((IntKind.wrap .i64 ((IntKind.wrap .i64 (k_l0 + 1)) + 1)) + 1)) + 1)) (i_l1 + 1) (r0_l2.set i_l1.toNat (⟨k_l0, (IntKind.wrap .i64 (k_l0 + 1)), (ofInt .f32 (IntKind.wrap .i64 ((IntKind.wrap .i64 (k_l0 + 1)) + 1))), (ofInt .f32 (IntKind.wrap .i64 ((IntKind.wrap .i64 ((IntKind.wrap .i64 (k_l0 + 1)) + 1)) + 1)))⟩ : GSpring)) (by first | assumption | omega | (simp_all <;> omega))]; simp
    | false =>
      have e : lo_laws_markSpringS_mon_1 a_0 k_1 (k + 1) k_l0 i_l1 r0_l2 = (k_l0, r0_l2) := by simp only [lo_laws_markSpringS_mon_1, h_0, cond_false]
      first | (rw [e]; done) | (rw [e]; rfl)

def lr_laws_markSpringS_mon_1_0 (a_0 : (List GSpring)) (k_1 : Int) : Int × (List GSpring) := (lo_laws_markSpringS_mon_1 a_0 k_1 (((a_0.length : Int) - 0).toNat + 1) k_1 0 a_0)

@[simp] theorem len_lr_laws_markSpringS_mon_1_0_1 (a_0 : (List GSpring)) (k_1 : Int) : (lr_laws_markSpringS_mon_1_0 a_0 k_1).2.length = (a_0 : (List GSpring)).length := ln_laws_markSpringS_mon_1_1 a_0 k_1 (((a_0.length : Int) - 0).toNat + 1) k_1 0 a_0 (by first | exact Nat.lt_succ_self _ | simp)

def v_laws_markSpringS_mon (a_0 : (List GSpring)) (k_1 : Int) : Int × (List GSpring) := ((lr_laws_markSpringS_mon_1_0 a_0 k_1).1, (lr_laws_markSpringS_mon_1_0 a_0 k_1).2)

@[simp] theorem len_v_laws_markSpringS_mon_1 (a_0 : (List GSpring)) (k_1 : Int) : (v_laws_markSpringS_mon a_0 k_1).2.length = a_0.length := by
  first | (simp [v_laws_markSpringS_mon]; done)

theorem t_laws_markSpringS_mon (a_0 : (List GSpring)) (k_1 : Int) (hp0 : a_0.length ≤ 1073741824)  : CallSt prog 99 [.vec 132 4 (a_0.map GSpring.cells) false] [.own 0, .i .i64 k_1] (.i .i64 ((v_laws_markSpringS_mon a_0 k_1).1)) [.vec 132 4 (((v_laws_markSpringS_mon a_0 k_1).2).map GSpring.cells) false] := by
 refine callS (EpOk 1) hMixed (c := bodyOf f99) [.vec 132 4 (a_0.map GSpring.cells) false] [] (.i .i64 ((lr_laws_markSpringS_mon_1_0 a_0 k_1).1)) [.vec 132 4 (((lr_laws_markSpringS_mon_1_0 a_0 k_1).2).map GSpring.cells) false] func99 (sL mk_laws_markSpringS_mon_1_0 1 (lp_val (ls_laws_markSpringS_mon_1 a_0 k_1) (x := (lr_laws_markSpringS_mon_1_0 a_0 k_1)) (lp_laws_markSpringS_mon_1 a_0 k_1 hp0 (((a_0.length : Int) - 0).toNat + 1) k_1 0 a_0 (show 0 ≤ 0 from (by first | assumption | omega | (simp_all <;> omega))) (show a_0.length = a_0.length from (by simp)) (Nat.lt_succ_self _)) rfl) <| sK [] sN) rfl (by kernel_rfl) (by kernel_rfl) ?_ ?_
 · rfl
 · simp [v_laws_markSpringS_mon]

def mk_Spring_mon (_ : GSpring) (c : Int) : Int × GSpring := ((IntKind.wrap .i64 ((IntKind.wrap .i64 ((IntKind.wrap .i64 ((IntKind.wrap .i64 (c + 1)) + 1)) + 1)) + 1)), ⟨c, (IntKind.wrap .i64 (c + 1)), ofInt .f32 (IntKind.wrap .i64 ((IntKind.wrap .i64 (c + 1)) + 1)), ofInt .f32 (IntKind.wrap .i64 ((IntKind.wrap .i64 ((IntKind.wrap .i64 (c + 1)) + 1)) + 1))⟩)
theorem mkeq_Spring_mon (a : List GSpring) (c : Int) : v_laws_markSpringS_mon a c = mkL mk_Spring_mon a c := by
  unfold v_laws_markSpringS_mon lr_laws_markSpringS_mon_1_0
  rw [mark_loop (f := mk_Spring_mon) (lo := lo_laws_markSpringS_mon_1 a c) (fun k c i r => rfl) _ _ _ _ (Int.le_refl 0) (Nat.lt_succ_self _)]
  simp
theorem markge_Spring_mon (a : List GSpring) (c : Int) (g0 : a.length ≤ 1073741824) (h0 : 0 ≤ c) (h1 : c ≤ 4611686018427387904) : c ≤ (v_laws_markSpringS_mon a c).1 ∧ (v_laws_markSpringS_mon a c).1 ≤ c + 4294967296 := by
  rw [mkeq_Spring_mon]
  have q := mkL_ge (f := mk_Spring_mon) (W := 4) a c (fun x _ c k0 k1 => by simp only [mk_Spring_mon]; rw [wrap_id (n := c + 1) (by omega) (by omega), show c + 1 + 1 = c + 2 from by omega, wrap_id (n := c + 2) (by omega) (by omega), show c + 2 + 1 = c + 3 from by omega, wrap_id (n := c + 3) (by omega) (by omega), show c + 3 + 1 = c + 4 from by omega, wrap_id (n := c + 4) (by omega) (by omega)]; omega) h0 (by omega)
  omega

def lo_laws_markFloat32S_mon_1 (a_0 : (List Nat)) (k_1 : Int) : Nat → Int → Int → (List Nat) → Int × (List Nat)
  | 0, _, _, _ => default
  | k + 1, k_l0, i_l1, r0_l2 => (cond (decide (i_l1 < (r0_l2.length : Int)))
    (lo_laws_markFloat32S_mon_1 a_0 k_1 k (IntKind.wrap .i64 (k_l0 + 1)) (i_l1 + 1) (r0_l2.set i_l1.toNat (ofInt .f32 k_l0)))
    (k_l0, r0_l2))

def ls_laws_markFloat32S_mon_1 (a_0 : (List Nat)) (k_1 : Int) (r : Int × (List Nat)) : Ex × St := ((.exit 0), ⟨[.any, .i .i64 r.1, .any, .any, .i .i64 0, .any, .any, .any, .any, .any, .any, .any, .any, .any, .any, .any, .any, .any, .any, .any], [.vec 38 1 (r.2.map (cF .f32)) false]⟩)

def hd_laws_markFloat32S_mon_1 (a_0 : (List Nat)) (k_1 : Int) (k_l0 : Int) (i_l1 : Int) (r0_l2 : (List Nat)) : St := ⟨[.own 0, .i .i64 k_l0, .any, .any, .i .i64 0, .i .i64 i_l1, .any, .any, .any, .any, .any, .any, .any, .any, .any, .any, .any, .any, .any, .any], [.vec 38 1 (r0_l2.map (cF .f32)) false]⟩

def mk_laws_markFloat32S_mon_1_0 : List Bool := [true, true, false, false, true, true, false, false, false, false, false, false, false, false, false, false, false, false, false, false]

def mk_laws_markFloat32S_mon_1_1 : List Bool := [false, true, false, false, true, false, false, false, false, false, false, false, false, false, false, false, false, false, false, false]

theorem lp_laws_markFloat32S_mon_1 (a_0 : (List Nat)) (k_1 : Int) (hp0 : a_0.length ≤ 1073741824) : ∀ (k : Nat) (k_l0 : Int) (i_l1 : Int) (r0_l2 : (List Nat)) (hv_laws_markFloat32S_mon_1_0 : 0 ≤ i_l1) (hv_laws_markFloat32S_mon_1_1 : r0_l2.length = a_0.length) (hk : ((a_0.length : Int) - i_l1).toNat < k), Lp prog 1 (sub (bodyOf f26) [1, 0, 1, 0, 0]) (hd_laws_markFloat32S_mon_1 a_0 k_1 k_l0 i_l1 r0_l2) (ls_laws_markFloat32S_mon_1 a_0 k_1 (lo_laws_markFloat32S_mon_1 a_0 k_1 k k_l0 i_l1 r0_l2)).1 (ls_laws_markFloat32S_mon_1 a_0 k_1 (lo_laws_markFloat32S_mon_1 a_0 k_1 k k_l0 i_l1 r0_l2)).2 := by
 intro k
 induction k with
 | zero => intro k_l0 i_l1 r0_l2 hv_laws_markFloat32S_mon_1_0 hv_laws_markFloat32S_mon_1_1 hk; exact absurd hk (Nat.not_lt_zero _)
 | succ k ih =>
  intro k_l0 i_l1 r0_l2 hv_laws_markFloat32S_mon_1_0 hv_laws_markFloat32S_mon_1_1 hk
  have p {a C} (s : Scr a C) := sZ (cF .f32) r0_l2 <| s
  cases h_0 : (decide (i_l1 < (r0_l2.length : Int))) with
  | true =>
   have gh_0 := of_decide_eq_true h_0
   have y_0 : (0 : Int) ≤ i_l1 := by clear p; exact (by first | assumption | omega | (simp_all <;> omega))
   have y_1 : i_l1 < (r0_l2.length : Int) := by clear p; exact (by first | assumption | omega | (simp_all <;> omega))
   have y_2 : i_l1.toNat < r0_l2.length := by clear p; exact (by first | assumption | omega | (simp_all <;> omega))
   have y_3 : (-9223372036854775808 : Int) ≤ (i_l1 + 1) := by clear p; exact (by first | assumption | omega | (simp_all <;> omega))
   have y_4 : (i_l1 + 1) ≤ (9223372036854775807 : Int) := by clear p; exact (by first | assumption | omega | (simp_all <;> omega))
   have e : lo_laws_markFloat32S_mon_1 a_0 k_1 (k + 1) k_l0 i_l1 r0_l2 = (lo_laws_markFloat32S_mon_1 a_0 k_1 k (IntKind.wrap .i64 (k_l0 + 1)) (i_l1 + 1) (r0_l2.set i_l1.toNat (ofInt .f32 k_l0))) := by simp only [lo_laws_markFloat32S_mon_1, h_0, cond_true]
   rw [e]
   exact nextS (EpOk 1) hMixed [] mk_laws_markFloat32S_mon_1_0 [] (⟨[.own 0, .i .i64 (IntKind.wrap .i64 (k_l0 + 1)), .any, .any, .i .i64 0, .i .i64 (i_l1 + 1), .any, .any, .any, .any, .any, .any, .any, .any, .any, .any, .any, .any, .any, .any], [.vec 38 1 ((r0_l2.map (cF .f32)).set i_l1.toNat [.f .f32 (ofInt .f32 k_l0)]) false]⟩) (p (sB h_0 <| sX (cF .f32) r0_l2 i_l1 y_0 y_1 <| sC (maplt (c := (cF .f32)) (l := r0_l2) y_2) <| sW .i64 (k_l0 + 1) <| sI (i_l1 + 1) y_3 y_4 <| sN)) (by kernel_rfl) (show _ = ⟨[.own 0, .i .i64 (IntKind.wrap .i64 (k_l0 + 1)), .any, .any, .i .i64 0, .i .i64 (i_l1 + 1), .any, .any, .any, .any, .any, .any, .any, .any, .any, .any, .any, .any, .any, .any], [.vec 38 1 ((r0_l2.set i_l1.toNat (ofInt .f32 k_l0)).map (cF .f32)) false]⟩ from (by simp [List.map_set, cF])) (ih (IntKind.wrap .i64 (k_l0 + 1)) (i_l1 + 1) (r0_l2.set i_l1.toNat (ofInt .f32 k_l0)) (show 0 ≤ (i_l1 + 1) from (by first | assumption | omega | (simp_all <;> omega))) (show (r0_l2.set i_l1.toNat (ofInt .f32 k_l0)).length = a_0.length from (by first | assumption | omega | (simp_all <;> omega))) (by first | assumption | omega | (simp_all <;> omega)))
  | false =>
   have gh_0 := of_decide_eq_false h_0
   have e : lo_laws_markFloat32S_mon_1 a_0 k_1 (k + 1) k_l0 i_l1 r0_l2 = (k_l0, r0_l2) := by simp only [lo_laws_markFloat32S_mon_1, h_0, cond_false]
   rw [e]
   exact outR (e := (.exit 0)) (EpOk 1) hMixed [] mk_laws_markFloat32S_mon_1_1 [] (p (sB h_0 <| sN)) (by kernel_rfl) (by intro h; cases h)

theorem ln_laws_markFloat32S_mon_1_1 (a_0 : (List Nat)) (k_1 : Int) : ∀ (k : Nat) (k_l0 : Int) (i_l1 : Int) (r0_l2 : (List Nat)) (hk : ((r0_l2.length : Int) - i_l1).toNat < k), (lo_laws_markFloat32S_mon_1 a_0 k_1 k k_l0 i_l1 r0_l2).2.length = r0_l2.length := by
  intro k
  induction k with
  | zero => intro k_l0 i_l1 r0_l2 hk; exact absurd hk (Nat.not_lt_zero _)
  | succ k ih =>
    intro k_l0 i_l1 r0_l2 hk
    cases h_0 : (decide (i_l1 < (r0_l2.length : Int))) with
    | true =>
      have e : lo_laws_markFloat32S_mon_1 a_0 k_1 (k + 1) k_l0 i_l1 r0_l2 = (lo_laws_markFloat32S_mon_1 a_0 k_1 k (IntKind.wrap .i64 (k_l0 + 1)) (i_l1 + 1) (r0_l2.set i_l1.toNat (ofInt .f32 k_l0))) := by simp only [lo_laws_markFloat32S_mon_1, h_0, cond_true]
      rw [e, ih (IntKind.wrap .i64 (k_l0 + 1)) (i_l1 + 1) (r0_l2.set i_l1.toNat (ofInt .f32 k_l0)) (by first | assumption | omega | (simp_all <;> omega))]; simp
    | false =>
      have e : lo_laws_markFloat32S_mon_1 a_0 k_1 (k + 1) k_l0 i_l1 r0_l2 = (k_l0, r0_l2) := by simp only [lo_laws_markFloat32S_mon_1, h_0, cond_false]
      first | (rw [e]; done) | (rw [e]; rfl)

def lr_laws_markFloat32S_mon_1_0 (a_0 : (List Nat)) (k_1 : Int) : Int × (List Nat) := (lo_laws_markFloat32S_mon_1 a_0 k_1 (((a_0.length : Int) - 0).toNat + 1) k_1 0 a_0)

@[simp] theorem len_lr_laws_markFloat32S_mon_1_0_1 (a_0 : (List Nat)) (k_1 : Int) : (lr_laws_markFloat32S_mon_1_0 a_0 k_1).2.length = (a_0 : (List Nat)).length := ln_laws_markFloat32S_mon_1_1 a_0 k_1 (((a_0.length : Int) - 0).toNat + 1) k_1 0 a_0 (by first | exact Nat.lt_succ_self _ | simp)

def v_laws_markFloat32S_mon (a_0 : (List Nat)) (k_1 : Int) : Int × (List Nat) := ((lr_laws_markFloat32S_mon_1_0 a_0 k_1).1, (lr_laws_markFloat32S_mon_1_0 a_0 k_1).2)

@[simp] theorem len_v_laws_markFloat32S_mon_1 (a_0 : (List Nat)) (k_1 : Int) : (v_laws_markFloat32S_mon a_0 k_1).2.length = a_0.length := by
  first | (simp [v_laws_markFloat32S_mon]; done)

theorem t_laws_markFloat32S_mon (a_0 : (List Nat)) (k_1 : Int) (hp0 : a_0.length ≤ 1073741824)  : CallSt prog 26 [.vec 38 1 (a_0.map (cF .f32)) false] [.own 0, .i .i64 k_1] (.i .i64 ((v_laws_markFloat32S_mon a_0 k_1).1)) [.vec 38 1 (((v_laws_markFloat32S_mon a_0 k_1).2).map (cF .f32)) false] := by
 refine callS (EpOk 1) hMixed (c := bodyOf f26) [.vec 38 1 (a_0.map (cF .f32)) false] [] (.i .i64 ((lr_laws_markFloat32S_mon_1_0 a_0 k_1).1)) [.vec 38 1 (((lr_laws_markFloat32S_mon_1_0 a_0 k_1).2).map (cF .f32)) false] func26 (sL mk_laws_markFloat32S_mon_1_0 1 (lp_val (ls_laws_markFloat32S_mon_1 a_0 k_1) (x := (lr_laws_markFloat32S_mon_1_0 a_0 k_1)) (lp_laws_markFloat32S_mon_1 a_0 k_1 hp0 (((a_0.length : Int) - 0).toNat + 1) k_1 0 a_0 (show 0 ≤ 0 from (by first | assumption | omega | (simp_all <;> omega))) (show a_0.length = a_0.length from (by simp)) (Nat.lt_succ_self _)) rfl) <| sK [] sN) rfl (by kernel_rfl) (by kernel_rfl) ?_ ?_
 · rfl
 · simp [v_laws_markFloat32S_mon]

def mk_Float32_mon (_ : Nat) (c : Int) : Int × Nat := ((IntKind.wrap .i64 (c + 1)), ofInt .f32 c)
theorem mkeq_Float32_mon (a : List Nat) (c : Int) : v_laws_markFloat32S_mon a c = mkL mk_Float32_mon a c := by
  unfold v_laws_markFloat32S_mon lr_laws_markFloat32S_mon_1_0
  rw [mark_loop (f := mk_Float32_mon) (lo := lo_laws_markFloat32S_mon_1 a c) (fun k c i r => rfl) _ _ _ _ (Int.le_refl 0) (Nat.lt_succ_self _)]
  simp
theorem markge_Float32_mon (a : List Nat) (c : Int) (g0 : a.length ≤ 1073741824) (h0 : 0 ≤ c) (h1 : c ≤ 4611686018427387904) : c ≤ (v_laws_markFloat32S_mon a c).1 ∧ (v_laws_markFloat32S_mon a c).1 ≤ c + 1073741824 := by
  rw [mkeq_Float32_mon]
  have q := mkL_ge (f := mk_Float32_mon) (W := 1) a c (fun x _ c k0 k1 => by simp only [mk_Float32_mon]; rw [wrap_id (n := c + 1) (by omega) (by omega)]; omega) h0 (by omega)
  omega

def v_laws_markBody_mAooonnonnnZn (a_0 : GBody) (k_1 : Int) : Int × (List GVector) × (List (List Int)) × (List GSpring) × (List Nat) := ((v_laws_markFloat32S_mon a_0.Weights ((v_laws_markSpringS_mon a_0.Springs ((v_laws_markMesh_mAooZn a_0.Mesh k_1).1)).1)).1, (v_laws_markMesh_mAooZn a_0.Mesh k_1).2.1, (v_laws_markMesh_mAooZn a_0.Mesh k_1).2.2, (v_laws_markSpringS_mon a_0.Springs ((v_laws_markMesh_mAooZn a_0.Mesh k_1).1)).2, (v_laws_markFloat32S_mon a_0.Weights ((v_laws_markSpringS_mon a_0.Springs ((v_laws_markMesh_mAooZn a_0.Mesh k_1).1)).1)).2)

@[simp] theorem len_v_laws_markBody_mAooonnonnnZn_1 (a_0 : GBody) (k_1 : Int) : (v_laws_markBody_mAooonnonnnZn a_0 k_1).2.1.length = a_0.Mesh.Places.length := by
  first | (simp [v_laws_markBody_mAooonnonnnZn]; done)

@[simp] theorem len_v_laws_markBody_mAooonnonnnZn_2 (a_0 : GBody) (k_1 : Int) : (v_laws_markBody_mAooonnonnnZn a_0 k_1).2.2.1.length = a_0.Mesh.Triangles.length := by
  first | (simp [v_laws_markBody_mAooonnonnnZn]; done)

@[simp] theorem len_v_laws_markBody_mAooonnonnnZn_3 (a_0 : GBody) (k_1 : Int) : (v_laws_markBody_mAooonnonnnZn a_0 k_1).2.2.2.1.length = a_0.Springs.length := by
  first | (simp [v_laws_markBody_mAooonnonnnZn]; done)

@[simp] theorem len_v_laws_markBody_mAooonnonnnZn_4 (a_0 : GBody) (k_1 : Int) : (v_laws_markBody_mAooonnonnnZn a_0 k_1).2.2.2.2.length = a_0.Weights.length := by
  first | (simp [v_laws_markBody_mAooonnonnnZn]; done)

theorem t_laws_markBody_mAooonnonnnZn (a_0 : GBody) (k_1 : Int) (hp0 : a_0.Mesh.Places.length ≤ 1073741824) (hp1 : a_0.Mesh.Triangles.length ≤ 1073741824) (hp2 : ∀ t ∈ a_0.Mesh.Triangles, t.length ≤ 1073741824) (hp3 : a_0.Springs.length ≤ 1073741824) (hp4 : a_0.Weights.length ≤ 1073741824)  : CallSt prog 46 [.vec 67 3 (a_0.Mesh.Places.map GVector.cells) false, .nest 52 (a_0.Mesh.Triangles.map fun l => l.map (cI .i64)) false, .vec 132 4 (a_0.Springs.map GSpring.cells) false, .vec 38 1 (a_0.Weights.map (cF .f32)) false] [.agg [.own 0, .own 1, .own 2, .f .f32 a_0.Film, .f .f32 a_0.Bend, .own 3, .f .f32 a_0.Fall.X, .f .f32 a_0.Fall.Y, .f .f32 a_0.Fall.Z], .i .i64 k_1] (.i .i64 ((v_laws_markBody_mAooonnonnnZn a_0 k_1).1)) [.vec 67 3 (((v_laws_markBody_mAooonnonnnZn a_0 k_1).2.1).map GVector.cells) false, .nest 52 (((v_laws_markBody_mAooonnonnnZn a_0 k_1).2.2.1).map fun l => l.map (cI .i64)) false, .vec 132 4 (((v_laws_markBody_mAooonnonnnZn a_0 k_1).2.2.2.1).map GSpring.cells) false, .vec 38 1 (((v_laws_markBody_mAooonnonnnZn a_0 k_1).2.2.2.2).map (cF .f32)) false] := by
 refine callS (EpOk 4) hMixed (c := bodyOf f46) [.vec 67 3 (a_0.Mesh.Places.map GVector.cells) false, .nest 52 (a_0.Mesh.Triangles.map fun l => l.map (cI .i64)) false, .vec 132 4 (a_0.Springs.map GSpring.cells) false, .vec 38 1 (a_0.Weights.map (cF .f32)) false] [] (.i .i64 ((v_laws_markFloat32S_mon a_0.Weights ((v_laws_markSpringS_mon a_0.Springs ((v_laws_markMesh_mAooZn a_0.Mesh k_1).1)).1)).1)) [.vec 67 3 (((v_laws_markMesh_mAooZn a_0.Mesh k_1).2.1).map GVector.cells) false, .nest 52 (((v_laws_markMesh_mAooZn a_0.Mesh k_1).2.2).map fun l => l.map (cI .i64)) false, .vec 132 4 (((v_laws_markSpringS_mon a_0.Springs ((v_laws_markMesh_mAooZn a_0.Mesh k_1).1)).2).map GSpring.cells) false, .vec 38 1 (((v_laws_markFloat32S_mon a_0.Weights ((v_laws_markSpringS_mon a_0.Springs ((v_laws_markMesh_mAooZn a_0.Mesh k_1).1)).1)).2).map (cF .f32)) false] func46 (sS (CallSt.frame (t_laws_markMesh_mAooZn a_0.Mesh k_1 hp0 hp1 hp2) [0, 1] (R := [.vec 67 3 (a_0.Mesh.Places.map GVector.cells) false, .nest 52 (a_0.Mesh.Triangles.map fun l => l.map (cI .i64)) false, .vec 132 4 (a_0.Springs.map GSpring.cells) false, .vec 38 1 (a_0.Weights.map (cF .f32)) false, .box 69 [.own 0, .own 1, .own 2, .f .f32 a_0.Film, .f .f32 a_0.Bend, .own 3, .f .f32 a_0.Fall.X, .f .f32 a_0.Fall.Y, .f .f32 a_0.Fall.Z]]) (args' := [.agg [.own 0, .own 1], .i .i64 k_1]) rfl rfl rfl rfl rfl rfl) <| sS (CallSt.frame (t_laws_markSpringS_mon a_0.Springs ((v_laws_markMesh_mAooZn a_0.Mesh k_1).1) hp3) [2] (R := [.vec 67 3 (((v_laws_markMesh_mAooZn a_0.Mesh k_1).2.1).map GVector.cells) false, .nest 52 (((v_laws_markMesh_mAooZn a_0.Mesh k_1).2.2).map fun l => l.map (cI .i64)) false, .vec 132 4 (a_0.Springs.map GSpring.cells) false, .vec 38 1 (a_0.Weights.map (cF .f32)) false, .box 69 [.own 0, .own 1, .own 2, .f .f32 a_0.Film, .f .f32 a_0.Bend, .own 3, .f .f32 a_0.Fall.X, .f .f32 a_0.Fall.Y, .f .f32 a_0.Fall.Z]]) (args' := [.own 2, .i .i64 ((v_laws_markMesh_mAooZn a_0.Mesh k_1).1)]) rfl rfl rfl rfl rfl rfl) <| sS (CallSt.frame (t_laws_markFloat32S_mon a_0.Weights ((v_laws_markSpringS_mon a_0.Springs ((v_laws_markMesh_mAooZn a_0.Mesh k_1).1)).1) hp4) [3] (R := [.vec 67 3 (((v_laws_markMesh_mAooZn a_0.Mesh k_1).2.1).map GVector.cells) false, .nest 52 (((v_laws_markMesh_mAooZn a_0.Mesh k_1).2.2).map fun l => l.map (cI .i64)) false, .vec 132 4 (((v_laws_markSpringS_mon a_0.Springs ((v_laws_markMesh_mAooZn a_0.Mesh k_1).1)).2).map GSpring.cells) false, .vec 38 1 (a_0.Weights.map (cF .f32)) false, .box 69 [.own 0, .own 1, .own 2, .f .f32 a_0.Film, .f .f32 a_0.Bend, .own 3, .f .f32 a_0.Fall.X, .f .f32 a_0.Fall.Y, .f .f32 a_0.Fall.Z]]) (args' := [.own 3, .i .i64 ((v_laws_markSpringS_mon a_0.Springs ((v_laws_markMesh_mAooZn a_0.Mesh k_1).1)).1)]) rfl rfl rfl rfl rfl rfl) <| sK [] sN) rfl (by kernel_rfl) (by kernel_rfl) ?_ ?_
 · rfl
 · simp [v_laws_markBody_mAooonnonnnZn]

theorem markge_Body_mAooonnonnnZn (a : GBody) (c : Int) (g0 : a.Mesh.Places.length ≤ 1073741824) (g1 : a.Mesh.Triangles.length ≤ 1073741824) (g2 : ∀ t ∈ a.Mesh.Triangles, t.length ≤ 1073741824) (g3 : a.Springs.length ≤ 1073741824) (g4 : a.Weights.length ≤ 1073741824) (h0 : 0 ≤ c) (h1 : c ≤ 2305843009213693952) : c ≤ (v_laws_markBody_mAooonnonnnZn a c).1 ∧ (v_laws_markBody_mAooonnonnnZn a c).1 ≤ c + 1152921513196781568 := by
  unfold v_laws_markBody_mAooonnonnnZn
  have p0 := markge_Mesh_mAooZn a.Mesh c g0 g1 g2 (by omega) (by omega)
  have p1 := markge_Spring_mon a.Springs ((v_laws_markMesh_mAooZn a.Mesh c).1) g3 (by omega) (by omega)
  have p2 := markge_Float32_mon a.Weights ((v_laws_markSpringS_mon a.Springs ((v_laws_markMesh_mAooZn a.Mesh c).1)).1) g4 (by omega) (by omega)
  simp only
  omega

theorem mlen_Body_mAooonnonnnZn (a : GBody) (c : Int) (N : Nat) (h : ∀ t ∈ a.Mesh.Triangles, t.length ≤ N) : ∀ t ∈ (v_laws_markBody_mAooonnonnnZn a c).2.2.1, t.length ≤ N := by
  unfold v_laws_markBody_mAooonnonnnZn
  exact mlen_Mesh_mAooZn _ _ N h

def lo_laws_heldVectorS_1 (a_0 : (List GVector)) (k_1 : Int) : Nat → Int → Int → (Unit) ⊕ (Int)
  | 0, _, _ => .inl default
  | k + 1, k_l0, i_l1 => (cond (decide (i_l1 < (a_0.length : Int)))
    (cond (fcmp .neq .f32 ((a_0.getD i_l1.toNat default).X) (ofInt .f32 k_l0))
      (.inl ())
      (cond (fcmp .neq .f32 ((a_0.getD i_l1.toNat default).Y) (ofInt .f32 (IntKind.wrap .i64 (k_l0 + 1))))
        (.inl ())
        (cond (fcmp .neq .f32 ((a_0.getD i_l1.toNat default).Z) (ofInt .f32 (IntKind.wrap .i64 ((IntKind.wrap .i64 (k_l0 + 1)) + 1))))
          (.inl ())
          (lo_laws_heldVectorS_1 a_0 k_1 k (IntKind.wrap .i64 ((IntKind.wrap .i64 ((IntKind.wrap .i64 (k_l0 + 1)) + 1)) + 1)) (i_l1 + 1)))))
    (.inr k_l0))

def ls_laws_heldVectorS_1 (a_0 : (List GVector)) (k_1 : Int) : (Unit) ⊕ (Int) → Ex × St
  | .inl r => (.ret, ⟨[.any, .any, .any, .any, .i .i64 (-1), .any, .any, .any, .any, .any, .any, .any, .any, .any, .any, .any, .any, .any, .any, .any, .any, .any, .any, .any, .any, .any, .any, .any, .any, .any, .any, .any, .any, .any, .any, .any, .any, .any, .any, .any, .any, .any, .any], []⟩)
  | .inr r => ((.exit 0), ⟨[.any, .i .i64 r, .any, .any, .any, .any, .any, .any, .any, .any, .any, .any, .any, .any, .any, .any, .any, .any, .any, .any, .any, .any, .any, .any, .any, .any, .any, .any, .any, .any, .any, .any, .any, .any, .any, .any, .any, .any, .any, .any, .any, .any, .any], []⟩)

def hd_laws_heldVectorS_1 (a_0 : (List GVector)) (k_1 : Int) (k_l0 : Int) (i_l1 : Int) : St := ⟨[.sl (a_0.map GVector.cells), .i .i64 k_l0, .any, .any, .any, .i .i64 i_l1, .any, .any, .any, .any, .any, .any, .any, .any, .any, .any, .any, .any, .any, .any, .any, .any, .any, .any, .any, .any, .any, .any, .any, .any, .any, .any, .any, .any, .any, .any, .any, .any, .any, .any, .any, .any, .any], []⟩

def mk_laws_heldVectorS_1_0 : List Bool := [true, true, false, false, false, true, false, false, false, false, false, false, false, false, false, false, false, false, false, false, false, false, false, false, false, false, false, false, false, false, false, false, false, false, false, false, false, false, false, false, false, false, false]

def mk_laws_heldVectorS_1_1 : List Bool := [false, false, false, false, true, false, false, false, false, false, false, false, false, false, false, false, false, false, false, false, false, false, false, false, false, false, false, false, false, false, false, false, false, false, false, false, false, false, false, false, false, false, false]

def mk_laws_heldVectorS_1_2 : List Bool := [false, true, false, false, false, false, false, false, false, false, false, false, false, false, false, false, false, false, false, false, false, false, false, false, false, false, false, false, false, false, false, false, false, false, false, false, false, false, false, false, false, false, false]

theorem lp_laws_heldVectorS_1 (a_0 : (List GVector)) (k_1 : Int) (hp0 : a_0.length ≤ 1073741824) : ∀ (k : Nat) (k_l0 : Int) (i_l1 : Int) (hv_laws_heldVectorS_1_0 : 0 ≤ i_l1) (hk : ((a_0.length : Int) - i_l1).toNat < k), Lp prog 0 (sub (bodyOf f72) [1, 0, 1, 0, 0]) (hd_laws_heldVectorS_1 a_0 k_1 k_l0 i_l1) (ls_laws_heldVectorS_1 a_0 k_1 (lo_laws_heldVectorS_1 a_0 k_1 k k_l0 i_l1)).1 (ls_laws_heldVectorS_1 a_0 k_1 (lo_laws_heldVectorS_1 a_0 k_1 k k_l0 i_l1)).2 := by
 intro k
 induction k with
 | zero => intro k_l0 i_l1 hv_laws_heldVectorS_1_0 hk; exact absurd hk (Nat.not_lt_zero _)
 | succ k ih =>
  intro k_l0 i_l1 hv_laws_heldVectorS_1_0 hk
  have p {a C} (s : Scr a C) := sZ GVector.cells a_0 <| s
  cases h_0 : (decide (i_l1 < (a_0.length : Int))) with
  | true =>
   have gh_0 := of_decide_eq_true h_0
   have y_0 : (0 : Int) ≤ i_l1 := by clear p; exact (by first | assumption | omega | (simp_all <;> omega))
   have y_1 : i_l1 < (a_0.length : Int) := by clear p; exact (by first | assumption | omega | (simp_all <;> omega))
   have q {a C} (s : Scr a C) := p (sB h_0 <| sG GVector.cells a_0 i_l1 y_0 y_1 <| s)
   clear p
   cases h_1 : (fcmp .neq .f32 ((a_0.getD i_l1.toNat default).X) (ofInt .f32 k_l0)) with
   | true =>
    have e : lo_laws_heldVectorS_1 a_0 k_1 (k + 1) k_l0 i_l1 = (.inl ()) := by simp only [lo_laws_heldVectorS_1, h_0, h_1, cond_true]
    rw [e]
    exact outR (e := .ret) E0Ok hMixed [] mk_laws_heldVectorS_1_1 [] (q (sB h_1 <| sN)) (by kernel_rfl) (by intro h; cases h)
   | false =>
    have p {a C} (s : Scr a C) := q (sB h_1 <| sW .i64 (k_l0 + 1) <| sG GVector.cells a_0 i_l1 y_0 y_1 <| s)
    clear q
    cases h_2 : (fcmp .neq .f32 ((a_0.getD i_l1.toNat default).Y) (ofInt .f32 (IntKind.wrap .i64 (k_l0 + 1)))) with
    | true =>
     have e : lo_laws_heldVectorS_1 a_0 k_1 (k + 1) k_l0 i_l1 = (.inl ()) := by simp only [lo_laws_heldVectorS_1, h_0, h_1, h_2, cond_true, cond_false]
     rw [e]
     exact outR (e := .ret) E0Ok hMixed [] mk_laws_heldVectorS_1_1 [] (p (sB h_2 <| sN)) (by kernel_rfl) (by intro h; cases h)
    | false =>
     have q {a C} (s : Scr a C) := p (sB h_2 <| sW .i64 ((IntKind.wrap .i64 (k_l0 + 1)) + 1) <| sG GVector.cells a_0 i_l1 y_0 y_1 <| s)
     clear p
     cases h_3 : (fcmp .neq .f32 ((a_0.getD i_l1.toNat default).Z) (ofInt .f32 (IntKind.wrap .i64 ((IntKind.wrap .i64 (k_l0 + 1)) + 1)))) with
     | true =>
      have e : lo_laws_heldVectorS_1 a_0 k_1 (k + 1) k_l0 i_l1 = (.inl ()) := by simp only [lo_laws_heldVectorS_1, h_0, h_1, h_2, h_3, cond_true, cond_false]
      rw [e]
      exact outR (e := .ret) E0Ok hMixed [] mk_laws_heldVectorS_1_1 [] (q (sB h_3 <| sN)) (by kernel_rfl) (by intro h; cases h)
     | false =>
      have y_2 : (-9223372036854775808 : Int) ≤ (i_l1 + 1) := by clear q; exact (by first | assumption | omega | (simp_all <;> omega))
      have y_3 : (i_l1 + 1) ≤ (9223372036854775807 : Int) := by clear q; exact (by first | assumption | omega | (simp_all <;> omega))
      have e : lo_laws_heldVectorS_1 a_0 k_1 (k + 1) k_l0 i_l1 = (lo_laws_heldVectorS_1 a_0 k_1 k (IntKind.wrap .i64 ((IntKind.wrap .i64 ((IntKind.wrap .i64 (k_l0 + 1)) + 1)) + 1)) (i_l1 + 1)) := by simp only [lo_laws_heldVectorS_1, h_0, h_1, h_2, h_3, cond_true, cond_false]
      rw [e]
      exact nextR E0Ok hMixed [] mk_laws_heldVectorS_1_0 [] (ih (IntKind.wrap .i64 ((IntKind.wrap .i64 ((IntKind.wrap .i64 (k_l0 + 1)) + 1)) + 1)) (i_l1 + 1) (show 0 ≤ (i_l1 + 1) from (by first | assumption | omega | (simp_all <;> omega))) (by first | assumption | omega | (simp_all <;> omega))) (q (sB h_3 <| sW .i64 ((IntKind.wrap .i64 ((IntKind.wrap .i64 (k_l0 + 1)) + 1)) + 1) <| sI (i_l1 + 1) y_2 y_3 <| sN)) (by kernel_rfl)
  | false =>
   have gh_0 := of_decide_eq_false h_0
   have e : lo_laws_heldVectorS_1 a_0 k_1 (k + 1) k_l0 i_l1 = (.inr k_l0) := by simp only [lo_laws_heldVectorS_1, h_0, cond_false]
   rw [e]
   exact outR (e := (.exit 0)) E0Ok hMixed [] mk_laws_heldVectorS_1_2 [] (p (sB h_0 <| sN)) (by kernel_rfl) (by intro h; cases h)

def lr_laws_heldVectorS_1_0 (a_0 : (List GVector)) (k_1 : Int) : (Unit) ⊕ (Int) := (lo_laws_heldVectorS_1 a_0 k_1 (((a_0.length : Int) - 0).toNat + 1) k_1 0)

def v_laws_heldVectorS (a_0 : (List GVector)) (k_1 : Int) : Int := (match (lr_laws_heldVectorS_1_0 a_0 k_1) with
  | .inl r1 => (-1)
  | .inr r1 => r1)

theorem t_laws_heldVectorS (a_0 : (List GVector)) (k_1 : Int) (hp0 : a_0.length ≤ 1073741824)  : Fn prog 72 [.sl (a_0.map GVector.cells), .i .i64 k_1] (.i .i64 (v_laws_heldVectorS a_0 k_1)) [] := by
 cases h0 : (lr_laws_heldVectorS_1_0 a_0 k_1) with
 | inl r1 =>
  refine fnS E0Ok hMixed (c := bodyOf f72) [] (.i .i64 (-1)) [] func72 (sL mk_laws_heldVectorS_1_0 0 (lp_val (ls_laws_heldVectorS_1 a_0 k_1) (x := (lr_laws_heldVectorS_1_0 a_0 k_1)) (lp_laws_heldVectorS_1 a_0 k_1 hp0 (((a_0.length : Int) - 0).toNat + 1) k_1 0 (show 0 ≤ 0 from (by first | assumption | omega | (simp_all <;> omega))) (Nat.lt_succ_self _)) h0) <| sK [] sN) rfl (by kernel_rfl) (by kernel_rfl) rfl ?_ ?_
  · simp only [v_laws_heldVectorS, h0]
  · rfl
 | inr r1 =>
  refine fnS E0Ok hMixed (c := bodyOf f72) [] (.i .i64 r1) [] func72 (sL mk_laws_heldVectorS_1_0 0 (lp_val (ls_laws_heldVectorS_1 a_0 k_1) (x := (lr_laws_heldVectorS_1_0 a_0 k_1)) (lp_laws_heldVectorS_1 a_0 k_1 hp0 (((a_0.length : Int) - 0).toNat + 1) k_1 0 (show 0 ≤ 0 from (by first | assumption | omega | (simp_all <;> omega))) (Nat.lt_succ_self _)) h0) <| sK [] sN) rfl (by kernel_rfl) (by kernel_rfl) rfl ?_ ?_
  · simp only [v_laws_heldVectorS, h0]
  · rfl

def hp_Vector (x : GVector) (c : Int) : Bool := (!(fcmp .neq .f32 x.X (ofInt .f32 c))) && (!(fcmp .neq .f32 x.Y (ofInt .f32 (IntKind.wrap .i64 (c + 1))))) && (!(fcmp .neq .f32 x.Z (ofInt .f32 (IntKind.wrap .i64 ((IntKind.wrap .i64 (c + 1)) + 1)))))
def hq_Vector (_ : GVector) (c : Int) : Int := (IntKind.wrap .i64 ((IntKind.wrap .i64 ((IntKind.wrap .i64 (c + 1)) + 1)) + 1))
theorem hdeq_Vector (a : List GVector) (c : Int) : v_laws_heldVectorS a c = match hdL hp_Vector hq_Vector a c with
    | some c' => c'
    | none => -1 := by
  unfold v_laws_heldVectorS lr_laws_heldVectorS_1_0
  rw [held_loop (p := hp_Vector) (q := hq_Vector) (a := a) (x := ()) (lo := lo_laws_heldVectorS_1 a c) (fun k c i => by
    rw [lo_laws_heldVectorS_1]
    unfold hp_Vector hq_Vector
    generalize a.getD i.toNat default = x
    cases decide (i < (a.length : Int)) <;> cases fcmp .neq .f32 x.X (ofInt .f32 c) <;> cases fcmp .neq .f32 x.Y (ofInt .f32 (IntKind.wrap .i64 (c + 1))) <;> cases fcmp .neq .f32 x.Z (ofInt .f32 (IntKind.wrap .i64 ((IntKind.wrap .i64 (c + 1)) + 1))) <;> rfl) _ _ _ (Int.le_refl 0) (Nat.lt_succ_self _)]
  simp only [Int.toNat_zero, List.drop_zero]
  cases hdL hp_Vector hq_Vector a c <;> rfl

def lo_laws_heldInt64S_1 (a_0 : (List Int)) (k_1 : Int) : Nat → Int → Int → (Unit) ⊕ (Int)
  | 0, _, _ => .inl default
  | k + 1, k_l0, i_l1 => (cond (decide (i_l1 < (a_0.length : Int)))
    (cond ((a_0.getD i_l1.toNat default) != k_l0)
      (.inl ())
      (lo_laws_heldInt64S_1 a_0 k_1 k (IntKind.wrap .i64 (k_l0 + 1)) (i_l1 + 1)))
    (.inr k_l0))

def ls_laws_heldInt64S_1 (a_0 : (List Int)) (k_1 : Int) : (Unit) ⊕ (Int) → Ex × St
  | .inl r => (.ret, ⟨[.any, .any, .any, .any, .i .i64 (-1), .any, .any, .any, .any, .any, .any, .any, .any, .any, .any, .any, .any, .any, .any, .any, .any], []⟩)
  | .inr r => ((.exit 0), ⟨[.any, .i .i64 r, .any, .any, .any, .any, .any, .any, .any, .any, .any, .any, .any, .any, .any, .any, .any, .any, .any, .any, .any], []⟩)

def hd_laws_heldInt64S_1 (a_0 : (List Int)) (k_1 : Int) (k_l0 : Int) (i_l1 : Int) : St := ⟨[.sl (a_0.map (cI .i64)), .i .i64 k_l0, .any, .any, .any, .i .i64 i_l1, .any, .any, .any, .any, .any, .any, .any, .any, .any, .any, .any, .any, .any, .any, .any], []⟩

def mk_laws_heldInt64S_1_0 : List Bool := [true, true, false, false, false, true, false, false, false, false, false, false, false, false, false, false, false, false, false, false, false]

def mk_laws_heldInt64S_1_1 : List Bool := [false, false, false, false, true, false, false, false, false, false, false, false, false, false, false, false, false, false, false, false, false]

def mk_laws_heldInt64S_1_2 : List Bool := [false, true, false, false, false, false, false, false, false, false, false, false, false, false, false, false, false, false, false, false, false]

theorem lp_laws_heldInt64S_1 (a_0 : (List Int)) (k_1 : Int) (hp0 : a_0.length ≤ 1073741824) : ∀ (k : Nat) (k_l0 : Int) (i_l1 : Int) (hv_laws_heldInt64S_1_0 : 0 ≤ i_l1) (hk : ((a_0.length : Int) - i_l1).toNat < k), Lp prog 0 (sub (bodyOf f37) [1, 0, 1, 0, 0]) (hd_laws_heldInt64S_1 a_0 k_1 k_l0 i_l1) (ls_laws_heldInt64S_1 a_0 k_1 (lo_laws_heldInt64S_1 a_0 k_1 k k_l0 i_l1)).1 (ls_laws_heldInt64S_1 a_0 k_1 (lo_laws_heldInt64S_1 a_0 k_1 k k_l0 i_l1)).2 := by
 intro k
 induction k with
 | zero => intro k_l0 i_l1 hv_laws_heldInt64S_1_0 hk; exact absurd hk (Nat.not_lt_zero _)
 | succ k ih =>
  intro k_l0 i_l1 hv_laws_heldInt64S_1_0 hk
  have p {a C} (s : Scr a C) := sZ (cI .i64) a_0 <| s
  cases h_0 : (decide (i_l1 < (a_0.length : Int))) with
  | true =>
   have gh_0 := of_decide_eq_true h_0
   have y_0 : (0 : Int) ≤ i_l1 := by clear p; exact (by first | assumption | omega | (simp_all <;> omega))
   have y_1 : i_l1 < (a_0.length : Int) := by clear p; exact (by first | assumption | omega | (simp_all <;> omega))
   have q {a C} (s : Scr a C) := p (sB h_0 <| sG (cI .i64) a_0 i_l1 y_0 y_1 <| s)
   clear p
   cases h_1 : ((a_0.getD i_l1.toNat default) != k_l0) with
   | true =>
    have gh_1 := bne_iff_ne.1 h_1
    have e : lo_laws_heldInt64S_1 a_0 k_1 (k + 1) k_l0 i_l1 = (.inl ()) := by simp only [lo_laws_heldInt64S_1, h_0, h_1, cond_true]
    rw [e]
    exact outR (e := .ret) E0Ok hMixed [] mk_laws_heldInt64S_1_1 [] (q (sB h_1 <| sN)) (by kernel_rfl) (by intro h; cases h)
   | false =>
    have gh_1 := bne_eq_false_iff_eq.1 h_1
    have y_2 : (-9223372036854775808 : Int) ≤ (i_l1 + 1) := by clear q; exact (by first | assumption | omega | (simp_all <;> omega))
    have y_3 : (i_l1 + 1) ≤ (9223372036854775807 : Int) := by clear q; exact (by first | assumption | omega | (simp_all <;> omega))
    have e : lo_laws_heldInt64S_1 a_0 k_1 (k + 1) k_l0 i_l1 = (lo_laws_heldInt64S_1 a_0 k_1 k (IntKind.wrap .i64 (k_l0 + 1)) (i_l1 + 1)) := by simp only [lo_laws_heldInt64S_1, h_0, h_1, cond_true, cond_false]
    rw [e]
    exact nextR E0Ok hMixed [] mk_laws_heldInt64S_1_0 [] (ih (IntKind.wrap .i64 (k_l0 + 1)) (i_l1 + 1) (show 0 ≤ (i_l1 + 1) from (by first | assumption | omega | (simp_all <;> omega))) (by first | assumption | omega | (simp_all <;> omega))) (q (sB h_1 <| sW .i64 (k_l0 + 1) <| sI (i_l1 + 1) y_2 y_3 <| sN)) (by kernel_rfl)
  | false =>
   have gh_0 := of_decide_eq_false h_0
   have e : lo_laws_heldInt64S_1 a_0 k_1 (k + 1) k_l0 i_l1 = (.inr k_l0) := by simp only [lo_laws_heldInt64S_1, h_0, cond_false]
   rw [e]
   exact outR (e := (.exit 0)) E0Ok hMixed [] mk_laws_heldInt64S_1_2 [] (p (sB h_0 <| sN)) (by kernel_rfl) (by intro h; cases h)

def lr_laws_heldInt64S_1_0 (a_0 : (List Int)) (k_1 : Int) : (Unit) ⊕ (Int) := (lo_laws_heldInt64S_1 a_0 k_1 (((a_0.length : Int) - 0).toNat + 1) k_1 0)

def v_laws_heldInt64S (a_0 : (List Int)) (k_1 : Int) : Int := (match (lr_laws_heldInt64S_1_0 a_0 k_1) with
  | .inl r1 => (-1)
  | .inr r1 => r1)

theorem t_laws_heldInt64S (a_0 : (List Int)) (k_1 : Int) (hp0 : a_0.length ≤ 1073741824)  : Fn prog 37 [.sl (a_0.map (cI .i64)), .i .i64 k_1] (.i .i64 (v_laws_heldInt64S a_0 k_1)) [] := by
 cases h0 : (lr_laws_heldInt64S_1_0 a_0 k_1) with
 | inl r1 =>
  refine fnS E0Ok hMixed (c := bodyOf f37) [] (.i .i64 (-1)) [] func37 (sL mk_laws_heldInt64S_1_0 0 (lp_val (ls_laws_heldInt64S_1 a_0 k_1) (x := (lr_laws_heldInt64S_1_0 a_0 k_1)) (lp_laws_heldInt64S_1 a_0 k_1 hp0 (((a_0.length : Int) - 0).toNat + 1) k_1 0 (show 0 ≤ 0 from (by first | assumption | omega | (simp_all <;> omega))) (Nat.lt_succ_self _)) h0) <| sK [] sN) rfl (by kernel_rfl) (by kernel_rfl) rfl ?_ ?_
  · simp only [v_laws_heldInt64S, h0]
  · rfl
 | inr r1 =>
  refine fnS E0Ok hMixed (c := bodyOf f37) [] (.i .i64 r1) [] func37 (sL mk_laws_heldInt64S_1_0 0 (lp_val (ls_laws_heldInt64S_1 a_0 k_1) (x := (lr_laws_heldInt64S_1_0 a_0 k_1)) (lp_laws_heldInt64S_1 a_0 k_1 hp0 (((a_0.length : Int) - 0).toNat + 1) k_1 0 (show 0 ≤ 0 from (by first | assumption | omega | (simp_all <;> omega))) (Nat.lt_succ_self _)) h0) <| sK [] sN) rfl (by kernel_rfl) (by kernel_rfl) rfl ?_ ?_
  · simp only [v_laws_heldInt64S, h0]
  · rfl

end Go.Ab
