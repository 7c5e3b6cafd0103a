/- The functions of this seat as plain Lean, and that the program's are these. Printed by a program of the prover's own. -/
import Derived.Test.YtiiijolkhbnblaaB2
set_option linter.unusedVariables false
set_option linter.unusedSimpArgs false
set_option maxRecDepth 100000
namespace Go.Ab
open Go.RowKit Go.Proofs.Try

def lr_laws_eqInt64S_1_0 (a_0 : (List Int)) (b_1 : (List Int)) : (Unit) ⊕ (Unit) := (lo_laws_eqInt64S_1 a_0 b_1 (((a_0.length : Int) - 0).toNat + 1) 0)

def v_laws_eqInt64S (a_0 : (List Int)) (b_1 : (List Int)) : Bool := (cond ((a_0.length : Int) != (b_1.length : Int))
  false
  (match (lr_laws_eqInt64S_1_0 a_0 b_1) with
    | .inl r2 => false
    | .inr r2 => true))

theorem t_laws_eqInt64S (a_0 : (List Int)) (b_1 : (List Int)) (hp0 : a_0.length ≤ 1073741824) (hp1 : b_1.length ≤ 1073741824)  : Fn prog 29 [.sl (a_0.map (cI .i64)), .sl (b_1.map (cI .i64))] (.b (v_laws_eqInt64S a_0 b_1)) [] := by
 have p {a C} (s : Scr a C) := sZ (cI .i64) a_0 <| sZ (cI .i64) b_1 <| s
 cases h0 : ((a_0.length : Int) != (b_1.length : Int)) with
 | true =>
  have gh0 := bne_iff_ne.1 h0
  refine fnS E0Ok hMixed (c := bodyOf f29) [] (.b false) [] func29 (p (sB h0 <| sK [] sN)) rfl (by kernel_rfl) (by kernel_rfl) rfl ?_ ?_
  · simp only [v_laws_eqInt64S, h0, cond_true]
  · rfl
 | false =>
  have gh0 := bne_eq_false_iff_eq.1 h0
  have q {a C} (s : Scr a C) := p (sB h0 <| s)
  clear p
  cases h1 : (lr_laws_eqInt64S_1_0 a_0 b_1) with
  | inl r2 =>
   refine fnS E0Ok hMixed (c := bodyOf f29) [] (.b false) [] func29 (q (sL mk_laws_eqInt64S_1_0 0 (lp_val (ls_laws_eqInt64S_1 a_0 b_1) (x := (lr_laws_eqInt64S_1_0 a_0 b_1)) (lp_laws_eqInt64S_1 a_0 b_1 hp0 hp1 h0 (((a_0.length : Int) - 0).toNat + 1) 0 (show 0 ≤ 0 from (by first | assumption | omega | (simp_all <;> omega))) (Nat.lt_succ_self _)) h1) <| sK [] sN)) rfl (by kernel_rfl) (by kernel_rfl) rfl ?_ ?_
   · simp only [v_laws_eqInt64S, h0, h1, cond_false]
   · rfl
  | inr r2 =>
   refine fnS E0Ok hMixed (c := bodyOf f29) [] (.b true) [] func29 (q (sL mk_laws_eqInt64S_1_0 0 (lp_val (ls_laws_eqInt64S_1 a_0 b_1) (x := (lr_laws_eqInt64S_1_0 a_0 b_1)) (lp_laws_eqInt64S_1 a_0 b_1 hp0 hp1 h0 (((a_0.length : Int) - 0).toNat + 1) 0 (show 0 ≤ 0 from (by first | assumption | omega | (simp_all <;> omega))) (Nat.lt_succ_self _)) h1) <| sK [] sN)) rfl (by kernel_rfl) (by kernel_rfl) rfl ?_ ?_
   · simp only [v_laws_eqInt64S, h0, h1, cond_false]
   · rfl

theorem eqInt64S_self (a : List Int) : v_laws_eqInt64S a a = true := by
  unfold v_laws_eqInt64S lr_laws_eqInt64S_1_0
  rw [all_from (a := a) (p := fun v => !(v != v)) (lo := lo_laws_eqInt64S_1 a a) (x := ()) (y := ()) (fun k i => by rw [lo_laws_eqInt64S_1]; cases (a.getD i.toNat default != a.getD i.toNat default) <;> rfl)]
  rw [show (a.all fun v => !(v != v)) = true from by rw [List.all_eq_true]; intro v _; simp]
  simp

def lo_laws_eqInt64SS_1 (a_0 : (List (List Int))) (b_1 : (List (List Int))) : Nat → Int → (Unit) ⊕ (Unit)
  | 0, _ => .inl default
  | k + 1, i_l0 => (cond (decide (i_l0 < (a_0.length : Int)))
    (cond (v_laws_eqInt64S (a_0.getD i_l0.toNat default) (b_1.getD i_l0.toNat default))
      (lo_laws_eqInt64SS_1 a_0 b_1 k (i_l0 + 1))
      (.inl ()))
    (.inr ()))

def ls_laws_eqInt64SS_1 (a_0 : (List (List Int))) (b_1 : (List (List Int))) : (Unit) ⊕ (Unit) → Ex × St
  | .inl r => (.ret, ⟨[.any, .any, .any, .any, .b false, .any, .any, .any, .any, .any, .any, .any, .any, .any, .any, .any, .any, .any, .any, .any, .any, .any, .any, .any, .any, .any, .any], []⟩)
  | .inr r => ((.exit 0), ⟨[.sl (a_0.map (cL (cI .i64))), .sl (b_1.map (cL (cI .i64))), .any, .any, .any, .any, .sl (a_0.map (cL (cI .i64))), .i .i64 (a_0.length : Int), .sl (b_1.map (cL (cI .i64))), .i .i64 (b_1.length : Int), .b ((a_0.length : Int) != (b_1.length : Int)), .any, .any, .any, .any, .any, .any, .any, .any, .any, .any, .any, .any, .any, .any, .any, .any], []⟩)

def hd_laws_eqInt64SS_1 (a_0 : (List (List Int))) (b_1 : (List (List Int))) (i_l0 : Int) : St := ⟨[.sl (a_0.map (cL (cI .i64))), .sl (b_1.map (cL (cI .i64))), .any, .any, .any, .i .i64 i_l0, .sl (a_0.map (cL (cI .i64))), .i .i64 (a_0.length : Int), .sl (b_1.map (cL (cI .i64))), .i .i64 (b_1.length : Int), .b ((a_0.length : Int) != (b_1.length : Int)), .any, .any, .any, .any, .any, .any, .any, .any, .any, .any, .any, .any, .any, .any, .any, .any], []⟩

def mk_laws_eqInt64SS_1_0 : List Bool := [true, true, false, false, false, true, true, true, true, true, true, false, false, false, false, false, false, false, false, false, false, false, false, false, false, false, false]

def mk_laws_eqInt64SS_1_1 : List Bool := [false, false, false, false, true, false, false, false, false, false, false, false, false, false, false, false, false, false, false, false, false, false, false, false, false, false, false]

def mk_laws_eqInt64SS_1_2 : List Bool := [true, true, false, false, false, false, true, true, true, true, true, false, false, false, false, false, false, false, false, false, false, false, false, false, false, false, false]

theorem lp_laws_eqInt64SS_1 (a_0 : (List (List Int))) (b_1 : (List (List Int))) (hp0 : a_0.length ≤ 1073741824) (hp1 : ∀ t ∈ a_0, t.length ≤ 1073741824) (hp2 : b_1.length ≤ 1073741824) (hp3 : ∀ t ∈ b_1, t.length ≤ 1073741824) (hf_laws_eqInt64SS_1_0 : ((a_0.length : Int) != (b_1.length : Int)) = false) : ∀ (k : Nat) (i_l0 : Int) (hv_laws_eqInt64SS_1_0 : 0 ≤ i_l0) (hk : ((a_0.length : Int) - i_l0).toNat < k), Lp prog 0 (sub (bodyOf f61) [1, 1, 0, 1, 0, 0]) (hd_laws_eqInt64SS_1 a_0 b_1 i_l0) (ls_laws_eqInt64SS_1 a_0 b_1 (lo_laws_eqInt64SS_1 a_0 b_1 k i_l0)).1 (ls_laws_eqInt64SS_1 a_0 b_1 (lo_laws_eqInt64SS_1 a_0 b_1 k i_l0)).2 := by
 intro k
 induction k with
 | zero => intro i_l0 hv_laws_eqInt64SS_1_0 hk; exact absurd hk (Nat.not_lt_zero _)
 | succ k ih =>
  intro i_l0 hv_laws_eqInt64SS_1_0 hk
  have p {a C} (s : Scr a C) := sZ (cL (cI .i64)) a_0 <| s
  cases h_0 : (decide (i_l0 < (a_0.length : Int))) with
  | true =>
   have gh_0 := of_decide_eq_true h_0
   have y_0 : (0 : Int) ≤ i_l0 := by clear p; exact (by first | assumption | omega | (simp_all <;> omega))
   have y_1 : i_l0 < (a_0.length : Int) := by clear p; exact (by first | assumption | omega | (simp_all <;> omega))
   have y_2 : i_l0 < (b_1.length : Int) := by clear p; exact (by first | assumption | omega | (simp_all <;> omega))
   have y_3 : (a_0.getD i_l0.toNat default).length ≤ 1073741824 := by clear p; exact (by first | assumption | omega | (simp_all <;> omega))
   have y_4 : (b_1.getD i_l0.toNat default).length ≤ 1073741824 := by clear p; exact (by first | assumption | omega | (simp_all <;> omega))
   have q {a C} (s : Scr a C) := p (sB h_0 <| sK [8, 8] <| sG (cL (cI .i64)) a_0 i_l0 y_0 y_1 <| sG (cL (cI .i64)) b_1 i_l0 y_0 y_2 <| sF (t_laws_eqInt64S (a_0.getD i_l0.toNat default) (b_1.getD i_l0.toNat default) y_3 y_4) <| s)
   clear p
   cases h_1 : (v_laws_eqInt64S (a_0.getD i_l0.toNat default) (b_1.getD i_l0.toNat default)) with
   | true =>
    have y_5 : (-9223372036854775808 : Int) ≤ (i_l0 + 1) := by clear q; exact (by first | assumption | omega | (simp_all <;> omega))
    have y_6 : (i_l0 + 1) ≤ (9223372036854775807 : Int) := by clear q; exact (by first | assumption | omega | (simp_all <;> omega))
    have e : lo_laws_eqInt64SS_1 a_0 b_1 (k + 1) i_l0 = (lo_laws_eqInt64SS_1 a_0 b_1 k (i_l0 + 1)) := by simp only [lo_laws_eqInt64SS_1, h_0, h_1, cond_true]
    rw [e]
    exact nextR E0Ok hMixed [] mk_laws_eqInt64SS_1_0 [] (ih (i_l0 + 1) (show 0 ≤ (i_l0 + 1) from (by first | assumption | omega | (simp_all <;> omega))) (by first | assumption | omega | (simp_all <;> omega))) (q (sB' h_1 <| sI (i_l0 + 1) y_5 y_6 <| sN)) (by kernel_rfl)
   | false =>
    have e : lo_laws_eqInt64SS_1 a_0 b_1 (k + 1) i_l0 = (.inl ()) := by simp only [lo_laws_eqInt64SS_1, h_0, h_1, cond_true, cond_false]
    rw [e]
    exact outR (e := .ret) E0Ok hMixed [] mk_laws_eqInt64SS_1_1 [] (q (sB' h_1 <| sN)) (by kernel_rfl) (by intro h; cases h)
  | false =>
   have gh_0 := of_decide_eq_false h_0
   have e : lo_laws_eqInt64SS_1 a_0 b_1 (k + 1) i_l0 = (.inr ()) := by simp only [lo_laws_eqInt64SS_1, h_0, cond_false]
   rw [e]
   exact outR (e := (.exit 0)) E0Ok hMixed [] mk_laws_eqInt64SS_1_2 [] (p (sB h_0 <| sN)) (by kernel_rfl) (by intro h; cases h)

def lr_laws_eqInt64SS_1_0 (a_0 : (List (List Int))) (b_1 : (List (List Int))) : (Unit) ⊕ (Unit) := (lo_laws_eqInt64SS_1 a_0 b_1 (((a_0.length : Int) - 0).toNat + 1) 0)

def v_laws_eqInt64SS (a_0 : (List (List Int))) (b_1 : (List (List Int))) : Bool := (cond ((a_0.length : Int) != (b_1.length : Int))
  false
  (match (lr_laws_eqInt64SS_1_0 a_0 b_1) with
    | .inl r2 => false
    | .inr r2 => true))

theorem t_laws_eqInt64SS (a_0 : (List (List Int))) (b_1 : (List (List Int))) (hp0 : a_0.length ≤ 1073741824) (hp1 : ∀ t ∈ a_0, t.length ≤ 1073741824) (hp2 : b_1.length ≤ 1073741824) (hp3 : ∀ t ∈ b_1, t.length ≤ 1073741824)  : Fn prog 61 [.sl (a_0.map (cL (cI .i64))), .sl (b_1.map (cL (cI .i64)))] (.b (v_laws_eqInt64SS a_0 b_1)) [] := by
 have p {a C} (s : Scr a C) := sZ (cL (cI .i64)) a_0 <| sZ (cL (cI .i64)) b_1 <| s
 cases h0 : ((a_0.length : Int) != (b_1.length : Int)) with
 | true =>
  have gh0 := bne_iff_ne.1 h0
  refine fnS E0Ok hMixed (c := bodyOf f61) [] (.b false) [] func61 (p (sB h0 <| sK [] sN)) rfl (by kernel_rfl) (by kernel_rfl) rfl ?_ ?_
  · simp only [v_laws_eqInt64SS, h0, cond_true]
  · rfl
 | false =>
  have gh0 := bne_eq_false_iff_eq.1 h0
  have q {a C} (s : Scr a C) := p (sB h0 <| s)
  clear p
  cases h1 : (lr_laws_eqInt64SS_1_0 a_0 b_1) with
  | inl r2 =>
   refine fnS E0Ok hMixed (c := bodyOf f61) [] (.b false) [] func61 (q (sL mk_laws_eqInt64SS_1_0 0 (lp_val (ls_laws_eqInt64SS_1 a_0 b_1) (x := (lr_laws_eqInt64SS_1_0 a_0 b_1)) (lp_laws_eqInt64SS_1 a_0 b_1 hp0 hp1 hp2 hp3 h0 (((a_0.length : Int) - 0).toNat + 1) 0 (show 0 ≤ 0 from (by first | assumption | omega | (simp_all <;> omega))) (Nat.lt_succ_self _)) h1) <| sK [] sN)) rfl (by kernel_rfl) (by kernel_rfl) rfl ?_ ?_
   · simp only [v_laws_eqInt64SS, h0, h1, cond_false]
   · rfl
  | inr r2 =>
   refine fnS E0Ok hMixed (c := bodyOf f61) [] (.b true) [] func61 (q (sL mk_laws_eqInt64SS_1_0 0 (lp_val (ls_laws_eqInt64SS_1 a_0 b_1) (x := (lr_laws_eqInt64SS_1_0 a_0 b_1)) (lp_laws_eqInt64SS_1 a_0 b_1 hp0 hp1 hp2 hp3 h0 (((a_0.length : Int) - 0).toNat + 1) 0 (show 0 ≤ 0 from (by first | assumption | omega | (simp_all <;> omega))) (Nat.lt_succ_self _)) h1) <| sK [] sN)) rfl (by kernel_rfl) (by kernel_rfl) rfl ?_ ?_
   · simp only [v_laws_eqInt64SS, h0, h1, cond_false]
   · rfl

theorem eqInt64SS_self (a : List (List Int)) : v_laws_eqInt64SS a a = true := by
  unfold v_laws_eqInt64SS lr_laws_eqInt64SS_1_0
  rw [all_from (a := a) (p := fun v => v_laws_eqInt64S v v) (lo := lo_laws_eqInt64SS_1 a a) (x := ()) (y := ()) (fun k i => rfl)]
  rw [show (a.all fun v => v_laws_eqInt64S v v) = true from by rw [List.all_eq_true]; intro v _; exact eqInt64S_self v]
  simp

def v_laws_eqMesh (a_0 : GMesh) (b_1 : GMesh) : Bool := (cond (v_laws_eqVectorS a_0.Places b_1.Places)
  (cond (v_laws_eqInt64SS a_0.Triangles b_1.Triangles)
    true
    false)
  false)

theorem t_laws_eqMesh (a_0 : GMesh) (b_1 : GMesh) (hp0 : a_0.Places.length ≤ 1073741824) (hp1 : a_0.Triangles.length ≤ 1073741824) (hp2 : ∀ t ∈ a_0.Triangles, t.length ≤ 1073741824) (hp3 : b_1.Places.length ≤ 1073741824) (hp4 : b_1.Triangles.length ≤ 1073741824) (hp5 : ∀ t ∈ b_1.Triangles, t.length ≤ 1073741824)  : Fn prog 30 [.agg [.sl (a_0.Places.map GVector.cells), .sl (a_0.Triangles.map (cL (cI .i64)))], .agg [.sl (b_1.Places.map GVector.cells), .sl (b_1.Triangles.map (cL (cI .i64)))]] (.b (v_laws_eqMesh a_0 b_1)) [] := by
 have p {a C} (s : Scr a C) := sF (t_laws_eqVectorS a_0.Places b_1.Places hp0 hp3) <| s
 cases h0 : (v_laws_eqVectorS a_0.Places b_1.Places) with
 | true =>
  have q {a C} (s : Scr a C) := p (sB' h0 <| sF (t_laws_eqInt64SS a_0.Triangles b_1.Triangles hp1 hp2 hp4 hp5) <| s)
  clear p
  cases h1 : (v_laws_eqInt64SS a_0.Triangles b_1.Triangles) with
  | true =>
   refine fnS E0Ok hMixed (c := bodyOf f30) [] (.b true) [] func30 (q (sB' h1 <| sK [] sN)) rfl (by kernel_rfl) (by kernel_rfl) rfl ?_ ?_
   · simp only [v_laws_eqMesh, h0, h1, cond_true]
   · rfl
  | false =>
   refine fnS E0Ok hMixed (c := bodyOf f30) [] (.b false) [] func30 (q (sB' h1 <| sK [] sN)) rfl (by kernel_rfl) (by kernel_rfl) rfl ?_ ?_
   · simp only [v_laws_eqMesh, h0, h1, cond_true, cond_false]
   · rfl
 | false =>
  refine fnS E0Ok hMixed (c := bodyOf f30) [] (.b false) [] func30 (p (sB' h0 <| sK [] sN)) rfl (by kernel_rfl) (by kernel_rfl) rfl ?_ ?_
  · simp only [v_laws_eqMesh, h0, cond_false]
  · rfl

theorem eqMesh_self (a : GMesh) : v_laws_eqMesh a a = true := by
  simp [v_laws_eqMesh, eqVectorS_self, eqInt64SS_self]

def v_laws_eqSpring (a_0 : GSpring) (b_1 : GSpring) : Bool := (cond (a_0.A != b_1.A)
  false
  (cond (a_0.B != b_1.B)
    false
    (cond (v_laws_sameFloat (fcv .f32 .f64 a_0.Long) (fcv .f32 .f64 b_1.Long))
      (cond (v_laws_sameFloat (fcv .f32 .f64 a_0.Stiff) (fcv .f32 .f64 b_1.Stiff))
        true
        false)
      false)))

theorem t_laws_eqSpring (a_0 : GSpring) (b_1 : GSpring)   : Fn prog 150 [.agg [.i .i64 a_0.A, .i .i64 a_0.B, .f .f32 a_0.Long, .f .f32 a_0.Stiff], .agg [.i .i64 b_1.A, .i .i64 b_1.B, .f .f32 b_1.Long, .f .f32 b_1.Stiff]] (.b (v_laws_eqSpring a_0 b_1)) [] := by
 cases h0 : (a_0.A != b_1.A) with
 | true =>
  have gh0 := bne_iff_ne.1 h0
  refine fnS E0Ok hMixed (c := bodyOf f150) [] (.b false) [] func150 (sB h0 <| sK [] sN) rfl (by kernel_rfl) (by kernel_rfl) rfl ?_ ?_
  · simp only [v_laws_eqSpring, h0, cond_true]
  · rfl
 | false =>
  have gh0 := bne_eq_false_iff_eq.1 h0
  have p {a C} (s : Scr a C) := sB h0 <| s
  cases h1 : (a_0.B != b_1.B) with
  | true =>
   have gh1 := bne_iff_ne.1 h1
   refine fnS E0Ok hMixed (c := bodyOf f150) [] (.b false) [] func150 (p (sB h1 <| sK [] sN)) rfl (by kernel_rfl) (by kernel_rfl) rfl ?_ ?_
   · simp only [v_laws_eqSpring, h0, h1, cond_true, cond_false]
   · rfl
  | false =>
   have gh1 := bne_eq_false_iff_eq.1 h1
   have q {a C} (s : Scr a C) := p (sB h1 <| sC (widenOk a_0.Long) <| sC (widenOk b_1.Long) <| sF (t_laws_sameFloat (fcv .f32 .f64 a_0.Long) (fcv .f32 .f64 b_1.Long)) <| s)
   clear p
   cases h2 : (v_laws_sameFloat (fcv .f32 .f64 a_0.Long) (fcv .f32 .f64 b_1.Long)) with
   | true =>
    have p {a C} (s : Scr a C) := q (sB' h2 <| sC (widenOk a_0.Stiff) <| sC (widenOk b_1.Stiff) <| sF (t_laws_sameFloat (fcv .f32 .f64 a_0.Stiff) (fcv .f32 .f64 b_1.Stiff)) <| s)
    clear q
    cases h3 : (v_laws_sameFloat (fcv .f32 .f64 a_0.Stiff) (fcv .f32 .f64 b_1.Stiff)) with
    | true =>
     refine fnS E0Ok hMixed (c := bodyOf f150) [] (.b true) [] func150 (p (sB' h3 <| sK [] sN)) rfl (by kernel_rfl) (by kernel_rfl) rfl ?_ ?_
     · simp only [v_laws_eqSpring, h0, h1, h2, h3, cond_true, cond_false]
     · rfl
    | false =>
     refine fnS E0Ok hMixed (c := bodyOf f150) [] (.b false) [] func150 (p (sB' h3 <| sK [] sN)) rfl (by kernel_rfl) (by kernel_rfl) rfl ?_ ?_
     · simp only [v_laws_eqSpring, h0, h1, h2, h3, cond_true, cond_false]
     · rfl
   | false =>
    refine fnS E0Ok hMixed (c := bodyOf f150) [] (.b false) [] func150 (q (sB' h2 <| sK [] sN)) rfl (by kernel_rfl) (by kernel_rfl) rfl ?_ ?_
    · simp only [v_laws_eqSpring, h0, h1, h2, cond_false]
    · rfl

theorem eqSpring_self (a : GSpring) : v_laws_eqSpring a a = true := by
  simp [v_laws_eqSpring, same_self]

def lo_laws_eqSpringS_1 (a_0 : (List GSpring)) (b_1 : (List GSpring)) : Nat → Int → (Unit) ⊕ (Unit)
  | 0, _ => .inl default
  | k + 1, i_l0 => (cond (decide (i_l0 < (a_0.length : Int)))
    (cond (v_laws_eqSpring (a_0.getD i_l0.toNat default) (b_1.getD i_l0.toNat default))
      (lo_laws_eqSpringS_1 a_0 b_1 k (i_l0 + 1))
      (.inl ()))
    (.inr ()))

def ls_laws_eqSpringS_1 (a_0 : (List GSpring)) (b_1 : (List GSpring)) : (Unit) ⊕ (Unit) → Ex × St
  | .inl r => (.ret, ⟨[.any, .any, .any, .any, .b false, .any, .any, .any, .any, .any, .any, .any, .any, .any, .any, .any, .any, .any, .any, .any, .any, .any, .any, .any, .any, .any, .any], []⟩)
  | .inr r => ((.exit 0), ⟨[.sl (a_0.map GSpring.cells), .sl (b_1.map GSpring.cells), .any, .any, .any, .any, .sl (a_0.map GSpring.cells), .i .i64 (a_0.length : Int), .sl (b_1.map GSpring.cells), .i .i64 (b_1.length : Int), .b ((a_0.length : Int) != (b_1.length : Int)), .any, .any, .any, .any, .any, .any, .any, .any, .any, .any, .any, .any, .any, .any, .any, .any], []⟩)

def hd_laws_eqSpringS_1 (a_0 : (List GSpring)) (b_1 : (List GSpring)) (i_l0 : Int) : St := ⟨[.sl (a_0.map GSpring.cells), .sl (b_1.map GSpring.cells), .any, .any, .any, .i .i64 i_l0, .sl (a_0.map GSpring.cells), .i .i64 (a_0.length : Int), .sl (b_1.map GSpring.cells), .i .i64 (b_1.length : Int), .b ((a_0.length : Int) != (b_1.length : Int)), .any, .any, .any, .any, .any, .any, .any, .any, .any, .any, .any, .any, .any, .any, .any, .any], []⟩

def mk_laws_eqSpringS_1_0 : List Bool := [true, true, false, false, false, true, true, true, true, true, true, false, false, false, false, false, false, false, false, false, false, false, false, false, false, false, false]

def mk_laws_eqSpringS_1_1 : List Bool := [false, false, false, false, true, false, false, false, false, false, false, false, false, false, false, false, false, false, false, false, false, false, false, false, false, false, false]

def mk_laws_eqSpringS_1_2 : List Bool := [true, true, false, false, false, false, true, true, true, true, true, false, false, false, false, false, false, false, false, false, false, false, false, false, false, false, false]

theorem lp_laws_eqSpringS_1 (a_0 : (List GSpring)) (b_1 : (List GSpring)) (hp0 : a_0.length ≤ 1073741824) (hp1 : b_1.length ≤ 1073741824) (hf_laws_eqSpringS_1_0 : ((a_0.length : Int) != (b_1.length : Int)) = false) : ∀ (k : Nat) (i_l0 : Int) (hv_laws_eqSpringS_1_0 : 0 ≤ i_l0) (hk : ((a_0.length : Int) - i_l0).toNat < k), Lp prog 0 (sub (bodyOf f85) [1, 1, 0, 1, 0, 0]) (hd_laws_eqSpringS_1 a_0 b_1 i_l0) (ls_laws_eqSpringS_1 a_0 b_1 (lo_laws_eqSpringS_1 a_0 b_1 k i_l0)).1 (ls_laws_eqSpringS_1 a_0 b_1 (lo_laws_eqSpringS_1 a_0 b_1 k i_l0)).2 := by
 intro k
 induction k with
 | zero => intro i_l0 hv_laws_eqSpringS_1_0 hk; exact absurd hk (Nat.not_lt_zero _)
 | succ k ih =>
  intro i_l0 hv_laws_eqSpringS_1_0 hk
  have p {a C} (s : Scr a C) := sZ GSpring.cells a_0 <| s
  cases h_0 : (decide (i_l0 < (a_0.length : Int))) with
  | true =>
   have gh_0 := of_decide_eq_true h_0
   have y_0 : (0 : Int) ≤ i_l0 := by clear p; exact (by first | assumption | omega | (simp_all <;> omega))
   have y_1 : i_l0 < (a_0.length : Int) := by clear p; exact (by first | assumption | omega | (simp_all <;> omega))
   have y_2 : i_l0 < (b_1.length : Int) := by clear p; exact (by first | assumption | omega | (simp_all <;> omega))
   have q {a C} (s : Scr a C) := p (sB h_0 <| sK [8, 8] <| sG GSpring.cells a_0 i_l0 y_0 y_1 <| sG GSpring.cells b_1 i_l0 y_0 y_2 <| sF (t_laws_eqSpring (a_0.getD i_l0.toNat default) (b_1.getD i_l0.toNat default)) <| s)
   clear p
   cases h_1 : (v_laws_eqSpring (a_0.getD i_l0.toNat default) (b_1.getD i_l0.toNat default)) with
   | true =>
    have y_3 : (-9223372036854775808 : Int) ≤ (i_l0 + 1) := by clear q; exact (by first | assumption | omega | (simp_all <;> omega))
    have y_4 : (i_l0 + 1) ≤ (9223372036854775807 : Int) := by clear q; exact (by first | assumption | omega | (simp_all <;> omega))
    have e : lo_laws_eqSpringS_1 a_0 b_1 (k + 1) i_l0 = (lo_laws_eqSpringS_1 a_0 b_1 k (i_l0 + 1)) := by simp only [lo_laws_eqSpringS_1, h_0, h_1, cond_true]
    rw [e]
    exact nextR E0Ok hMixed [] mk_laws_eqSpringS_1_0 [] (ih (i_l0 + 1) (show 0 ≤ (i_l0 + 1) from (by first | assumption | omega | (simp_all <;> omega))) (by first | assumption | omega | (simp_all <;> omega))) (q (sB' h_1 <| sI (i_l0 + 1) y_3 y_4 <| sN)) (by kernel_rfl)
   | false =>
    have e : lo_laws_eqSpringS_1 a_0 b_1 (k + 1) i_l0 = (.inl ()) := by simp only [lo_laws_eqSpringS_1, h_0, h_1, cond_true, cond_false]
    rw [e]
    exact outR (e := .ret) E0Ok hMixed [] mk_laws_eqSpringS_1_1 [] (q (sB' h_1 <| sN)) (by kernel_rfl) (by intro h; cases h)
  | false =>
   have gh_0 := of_decide_eq_false h_0
   have e : lo_laws_eqSpringS_1 a_0 b_1 (k + 1) i_l0 = (.inr ()) := by simp only [lo_laws_eqSpringS_1, h_0, cond_false]
   rw [e]
   exact outR (e := (.exit 0)) E0Ok hMixed [] mk_laws_eqSpringS_1_2 [] (p (sB h_0 <| sN)) (by kernel_rfl) (by intro h; cases h)

def lr_laws_eqSpringS_1_0 (a_0 : (List GSpring)) (b_1 : (List GSpring)) : (Unit) ⊕ (Unit) := (lo_laws_eqSpringS_1 a_0 b_1 (((a_0.length : Int) - 0).toNat + 1) 0)

def v_laws_eqSpringS (a_0 : (List GSpring)) (b_1 : (List GSpring)) : Bool := (cond ((a_0.length : Int) != (b_1.length : Int))
  false
  (match (lr_laws_eqSpringS_1_0 a_0 b_1) with
    | .inl r2 => false
    | .inr r2 => true))

theorem t_laws_eqSpringS (a_0 : (List GSpring)) (b_1 : (List GSpring)) (hp0 : a_0.length ≤ 1073741824) (hp1 : b_1.length ≤ 1073741824)  : Fn prog 85 [.sl (a_0.map GSpring.cells), .sl (b_1.map GSpring.cells)] (.b (v_laws_eqSpringS a_0 b_1)) [] := by
 have p {a C} (s : Scr a C) := sZ GSpring.cells a_0 <| sZ GSpring.cells b_1 <| s
 cases h0 : ((a_0.length : Int) != (b_1.length : Int)) with
 | true =>
  have gh0 := bne_iff_ne.1 h0
  refine fnS E0Ok hMixed (c := bodyOf f85) [] (.b false) [] func85 (p (sB h0 <| sK [] sN)) rfl (by kernel_rfl) (by kernel_rfl) rfl ?_ ?_
  · simp only [v_laws_eqSpringS, h0, cond_true]
  · rfl
 | false =>
  have gh0 := bne_eq_false_iff_eq.1 h0
  have q {a C} (s : Scr a C) := p (sB h0 <| s)
  clear p
  cases h1 : (lr_laws_eqSpringS_1_0 a_0 b_1) with
  | inl r2 =>
   refine fnS E0Ok hMixed (c := bodyOf f85) [] (.b false) [] func85 (q (sL mk_laws_eqSpringS_1_0 0 (lp_val (ls_laws_eqSpringS_1 a_0 b_1) (x := (lr_laws_eqSpringS_1_0 a_0 b_1)) (lp_laws_eqSpringS_1 a_0 b_1 hp0 hp1 h0 (((a_0.length : Int) - 0).toNat + 1) 0 (show 0 ≤ 0 from (by first | assumption | omega | (simp_all <;> omega))) (Nat.lt_succ_self _)) h1) <| sK [] sN)) rfl (by kernel_rfl) (by kernel_rfl) rfl ?_ ?_
   · simp only [v_laws_eqSpringS, h0, h1, cond_false]
   · rfl
  | inr r2 =>
   refine fnS E0Ok hMixed (c := bodyOf f85) [] (.b true) [] func85 (q (sL mk_laws_eqSpringS_1_0 0 (lp_val (ls_laws_eqSpringS_1 a_0 b_1) (x := (lr_laws_eqSpringS_1_0 a_0 b_1)) (lp_laws_eqSpringS_1 a_0 b_1 hp0 hp1 h0 (((a_0.length : Int) - 0).toNat + 1) 0 (show 0 ≤ 0 from (by first | assumption | omega | (simp_all <;> omega))) (Nat.lt_succ_self _)) h1) <| sK [] sN)) rfl (by kernel_rfl) (by kernel_rfl) rfl ?_ ?_
   · simp only [v_laws_eqSpringS, h0, h1, cond_false]
   · rfl

theorem eqSpringS_self (a : List GSpring) : v_laws_eqSpringS a a = true := by
  unfold v_laws_eqSpringS lr_laws_eqSpringS_1_0
  rw [all_from (a := a) (p := fun v => v_laws_eqSpring v v) (lo := lo_laws_eqSpringS_1 a a) (x := ()) (y := ()) (fun k i => rfl)]
  rw [show (a.all fun v => v_laws_eqSpring v v) = true from by rw [List.all_eq_true]; intro v _; exact eqSpring_self v]
  simp

def lo_laws_eqFloat32S_1 (a_0 : (List Nat)) (b_1 : (List Nat)) : Nat → Int → (Unit) ⊕ (Unit)
  | 0, _ => .inl default
  | k + 1, i_l0 => (cond (decide (i_l0 < (a_0.length : Int)))
    (cond (v_laws_sameFloat (fcv .f32 .f64 (a_0.getD i_l0.toNat default)) (fcv .f32 .f64 (b_1.getD i_l0.toNat default)))
      (lo_laws_eqFloat32S_1 a_0 b_1 k (i_l0 + 1))
      (.inl ()))
    (.inr ()))

def ls_laws_eqFloat32S_1 (a_0 : (List Nat)) (b_1 : (List Nat)) : (Unit) ⊕ (Unit) → Ex × St
  | .inl r => (.ret, ⟨[.any, .any, .any, .any, .b false, .any, .any, .any, .any, .any, .any, .any, .any, .any, .any, .any, .any, .any, .any, .any, .any, .any, .any, .any, .any, .any, .any, .any, .any], []⟩)
  | .inr r => ((.exit 0), ⟨[.sl (a_0.map (cF .f32)), .sl (b_1.map (cF .f32)), .any, .any, .any, .any, .sl (a_0.map (cF .f32)), .i .i64 (a_0.length : Int), .sl (b_1.map (cF .f32)), .i .i64 (b_1.length : Int), .b ((a_0.length : Int) != (b_1.length : Int)), .any, .any, .any, .any, .any, .any, .any, .any, .any, .any, .any, .any, .any, .any, .any, .any, .any, .any], []⟩)

def hd_laws_eqFloat32S_1 (a_0 : (List Nat)) (b_1 : (List Nat)) (i_l0 : Int) : St := ⟨[.sl (a_0.map (cF .f32)), .sl (b_1.map (cF .f32)), .any, .any, .any, .i .i64 i_l0, .sl (a_0.map (cF .f32)), .i .i64 (a_0.length : Int), .sl (b_1.map (cF .f32)), .i .i64 (b_1.length : Int), .b ((a_0.length : Int) != (b_1.length : Int)), .any, .any, .any, .any, .any, .any, .any, .any, .any, .any, .any, .any, .any, .any, .any, .any, .any, .any], []⟩

def mk_laws_eqFloat32S_1_0 : List Bool := [true, true, false, false, false, true, true, true, true, true, true, false, false, false, false, false, false, false, false, false, false, false, false, false, false, false, false, false, false]

def mk_laws_eqFloat32S_1_1 : List Bool := [false, false, false, false, true, false, false, false, false, false, false, false, false, false, false, false, false, false, false, false, false, false, false, false, false, false, false, false, false]

def mk_laws_eqFloat32S_1_2 : List Bool := [true, true, false, false, false, false, true, true, true, true, true, false, false, false, false, false, false, false, false, false, false, false, false, false, false, false, false, false, false]

theorem lp_laws_eqFloat32S_1 (a_0 : (List Nat)) (b_1 : (List Nat)) (hp0 : a_0.length ≤ 1073741824) (hp1 : b_1.length ≤ 1073741824) (hf_laws_eqFloat32S_1_0 : ((a_0.length : Int) != (b_1.length : Int)) = false) : ∀ (k : Nat) (i_l0 : Int) (hv_laws_eqFloat32S_1_0 : 0 ≤ i_l0) (hk : ((a_0.length : Int) - i_l0).toNat < k), Lp prog 0 (sub (bodyOf f86) [1, 1, 0, 1, 0, 0]) (hd_laws_eqFloat32S_1 a_0 b_1 i_l0) (ls_laws_eqFloat32S_1 a_0 b_1 (lo_laws_eqFloat32S_1 a_0 b_1 k i_l0)).1 (ls_laws_eqFloat32S_1 a_0 b_1 (lo_laws_eqFloat32S_1 a_0 b_1 k i_l0)).2 := by
 intro k
 induction k with
 | zero => intro i_l0 hv_laws_eqFloat32S_1_0 hk; exact absurd hk (Nat.not_lt_zero _)
 | succ k ih =>
  intro i_l0 hv_laws_eqFloat32S_1_0 hk
  have p {a C} (s : Scr a C) := sZ (cF .f32) a_0 <| s
  cases h_0 : (decide (i_l0 < (a_0.length : Int))) with
  | true =>
   have gh_0 := of_decide_eq_true h_0
   have y_0 : (0 : Int) ≤ i_l0 := by clear p; exact (by first | assumption | omega | (simp_all <;> omega))
   have y_1 : i_l0 < (a_0.length : Int) := by clear p; exact (by first | assumption | omega | (simp_all <;> omega))
   have y_2 : i_l0 < (b_1.length : Int) := by clear p; exact (by first | assumption | omega | (simp_all <;> omega))
   have q {a C} (s : Scr a C) := p (sB h_0 <| sK [10, 10] <| sG (cF .f32) a_0 i_l0 y_0 y_1 <| sC (widenOk (a_0.getD i_l0.toNat default)) <| sG (cF .f32) b_1 i_l0 y_0 y_2 <| sC (widenOk (b_1.getD i_l0.toNat default)) <| sF (t_laws_sameFloat (fcv .f32 .f64 (a_0.getD i_l0.toNat default)) (fcv .f32 .f64 (b_1.getD i_l0.toNat default))) <| s)
   clear p
   cases h_1 : (v_laws_sameFloat (fcv .f32 .f64 (a_0.getD i_l0.toNat default)) (fcv .f32 .f64 (b_1.getD i_l0.toNat default))) with
   | true =>
    have y_3 : (-9223372036854775808 : Int) ≤ (i_l0 + 1) := by clear q; exact (by first | assumption | omega | (simp_all <;> omega))
    have y_4 : (i_l0 + 1) ≤ (9223372036854775807 : Int) := by clear q; exact (by first | assumption | omega | (simp_all <;> omega))
    have e : lo_laws_eqFloat32S_1 a_0 b_1 (k + 1) i_l0 = (lo_laws_eqFloat32S_1 a_0 b_1 k (i_l0 + 1)) := by simp only [lo_laws_eqFloat32S_1, h_0, h_1, cond_true]
    rw [e]
    exact nextR E0Ok hMixed [] mk_laws_eqFloat32S_1_0 [] (ih (i_l0 + 1) (show 0 ≤ (i_l0 + 1) from (by first | assumption | omega | (simp_all <;> omega))) (by first | assumption | omega | (simp_all <;> omega))) (q (sB' h_1 <| sI (i_l0 + 1) y_3 y_4 <| sN)) (by kernel_rfl)
   | false =>
    have e : lo_laws_eqFloat32S_1 a_0 b_1 (k + 1) i_l0 = (.inl ()) := by simp only [lo_laws_eqFloat32S_1, h_0, h_1, cond_true, cond_false]
    rw [e]
    exact outR (e := .ret) E0Ok hMixed [] mk_laws_eqFloat32S_1_1 [] (q (sB' h_1 <| sN)) (by kernel_rfl) (by intro h; cases h)
  | false =>
   have gh_0 := of_decide_eq_false h_0
   have e : lo_laws_eqFloat32S_1 a_0 b_1 (k + 1) i_l0 = (.inr ()) := by simp only [lo_laws_eqFloat32S_1, h_0, cond_false]
   rw [e]
   exact outR (e := (.exit 0)) E0Ok hMixed [] mk_laws_eqFloat32S_1_2 [] (p (sB h_0 <| sN)) (by kernel_rfl) (by intro h; cases h)

def lr_laws_eqFloat32S_1_0 (a_0 : (List Nat)) (b_1 : (List Nat)) : (Unit) ⊕ (Unit) := (lo_laws_eqFloat32S_1 a_0 b_1 (((a_0.length : Int) - 0).toNat + 1) 0)

def v_laws_eqFloat32S (a_0 : (List Nat)) (b_1 : (List Nat)) : Bool := (cond ((a_0.length : Int) != (b_1.length : Int))
  false
  (match (lr_laws_eqFloat32S_1_0 a_0 b_1) with
    | .inl r2 => false
    | .inr r2 => true))

theorem t_laws_eqFloat32S (a_0 : (List Nat)) (b_1 : (List Nat)) (hp0 : a_0.length ≤ 1073741824) (hp1 : b_1.length ≤ 1073741824)  : Fn prog 86 [.sl (a_0.map (cF .f32)), .sl (b_1.map (cF .f32))] (.b (v_laws_eqFloat32S a_0 b_1)) [] := by
 have p {a C} (s : Scr a C) := sZ (cF .f32) a_0 <| sZ (cF .f32) b_1 <| s
 cases h0 : ((a_0.length : Int) != (b_1.length : Int)) with
 | true =>
  have gh0 := bne_iff_ne.1 h0
  refine fnS E0Ok hMixed (c := bodyOf f86) [] (.b false) [] func86 (p (sB h0 <| sK [] sN)) rfl (by kernel_rfl) (by kernel_rfl) rfl ?_ ?_
  · simp only [v_laws_eqFloat32S, h0, cond_true]
  · rfl
 | false =>
  have gh0 := bne_eq_false_iff_eq.1 h0
  have q {a C} (s : Scr a C) := p (sB h0 <| s)
  clear p
  cases h1 : (lr_laws_eqFloat32S_1_0 a_0 b_1) with
  | inl r2 =>
   refine fnS E0Ok hMixed (c := bodyOf f86) [] (.b false) [] func86 (q (sL mk_laws_eqFloat32S_1_0 0 (lp_val (ls_laws_eqFloat32S_1 a_0 b_1) (x := (lr_laws_eqFloat32S_1_0 a_0 b_1)) (lp_laws_eqFloat32S_1 a_0 b_1 hp0 hp1 h0 (((a_0.length : Int) - 0).toNat + 1) 0 (show 0 ≤ 0 from (by first | assumption | omega | (simp_all <;> omega))) (Nat.lt_succ_self _)) h1) <| sK [] sN)) rfl (by kernel_rfl) (by kernel_rfl) rfl ?_ ?_
   · simp only [v_laws_eqFloat32S, h0, h1, cond_false]
   · rfl
  | inr r2 =>
   refine fnS E0Ok hMixed (c := bodyOf f86) [] (.b true) [] func86 (q (sL mk_laws_eqFloat32S_1_0 0 (lp_val (ls_laws_eqFloat32S_1 a_0 b_1) (x := (lr_laws_eqFloat32S_1_0 a_0 b_1)) (lp_laws_eqFloat32S_1 a_0 b_1 hp0 hp1 h0 (((a_0.length : Int) - 0).toNat + 1) 0 (show 0 ≤ 0 from (by first | assumption | omega | (simp_all <;> omega))) (Nat.lt_succ_self _)) h1) <| sK [] sN)) rfl (by kernel_rfl) (by kernel_rfl) rfl ?_ ?_
   · simp only [v_laws_eqFloat32S, h0, h1, cond_false]
   · rfl

theorem eqFloat32S_self (a : List Nat) : v_laws_eqFloat32S a a = true := by
  unfold v_laws_eqFloat32S lr_laws_eqFloat32S_1_0
  rw [all_from (a := a) (p := fun v => v_laws_sameFloat (fcv .f32 .f64 v) (fcv .f32 .f64 v)) (lo := lo_laws_eqFloat32S_1 a a) (x := ()) (y := ()) (fun k i => rfl)]
  rw [show (a.all fun v => v_laws_sameFloat (fcv .f32 .f64 v) (fcv .f32 .f64 v)) = true from by rw [List.all_eq_true]; intro v _; exact same_self _]
  simp

def v_laws_eqBody (a_0 : GBody) (b_1 : GBody) : Bool := (cond (v_laws_eqMesh a_0.Mesh b_1.Mesh)
  (cond (v_laws_eqSpringS a_0.Springs b_1.Springs)
    (cond (v_laws_sameFloat (fcv .f32 .f64 a_0.Film) (fcv .f32 .f64 b_1.Film))
      (cond (v_laws_sameFloat (fcv .f32 .f64 a_0.Bend) (fcv .f32 .f64 b_1.Bend))
        (cond (v_laws_eqFloat32S a_0.Weights b_1.Weights)
          (cond (v_laws_eqVector a_0.Fall b_1.Fall)
            true
            false)
          false)
        false)
      false)
    false)
  false)

theorem t_laws_eqBody (a_0 : GBody) (b_1 : GBody) (hp0 : a_0.Mesh.Places.length ≤ 1073741824) (hp1 : a_0.Mesh.Triangles.length ≤ 1073741824) (hp2 : ∀ t ∈ a_0.Mesh.Triangles, t.length ≤ 1073741824) (hp3 : a_0.Springs.length ≤ 1073741824) (hp4 : a_0.Weights.length ≤ 1073741824) (hp5 : b_1.Mesh.Places.length ≤ 1073741824) (hp6 : b_1.Mesh.Triangles.length ≤ 1073741824) (hp7 : ∀ t ∈ b_1.Mesh.Triangles, t.length ≤ 1073741824) (hp8 : b_1.Springs.length ≤ 1073741824) (hp9 : b_1.Weights.length ≤ 1073741824)  : Fn prog 22 [.agg [.sl (a_0.Mesh.Places.map GVector.cells), .sl (a_0.Mesh.Triangles.map (cL (cI .i64))), .sl (a_0.Springs.map GSpring.cells), .f .f32 a_0.Film, .f .f32 a_0.Bend, .sl (a_0.Weights.map (cF .f32)), .f .f32 a_0.Fall.X, .f .f32 a_0.Fall.Y, .f .f32 a_0.Fall.Z], .agg [.sl (b_1.Mesh.Places.map GVector.cells), .sl (b_1.Mesh.Triangles.map (cL (cI .i64))), .sl (b_1.Springs.map GSpring.cells), .f .f32 b_1.Film, .f .f32 b_1.Bend, .sl (b_1.Weights.map (cF .f32)), .f .f32 b_1.Fall.X, .f .f32 b_1.Fall.Y, .f .f32 b_1.Fall.Z]] (.b (v_laws_eqBody a_0 b_1)) [] := by
 have p {a C} (s : Scr a C) := sF (t_laws_eqMesh a_0.Mesh b_1.Mesh hp0 hp1 hp2 hp5 hp6 hp7) <| s
 cases h0 : (v_laws_eqMesh a_0.Mesh b_1.Mesh) with
 | true =>
  have q {a C} (s : Scr a C) := p (sB' h0 <| sF (t_laws_eqSpringS a_0.Springs b_1.Springs hp3 hp8) <| s)
  clear p
  cases h1 : (v_laws_eqSpringS a_0.Springs b_1.Springs) with
  | true =>
   have p {a C} (s : Scr a C) := q (sB' h1 <| sC (widenOk a_0.Film) <| sC (widenOk b_1.Film) <| sF (t_laws_sameFloat (fcv .f32 .f64 a_0.Film) (fcv .f32 .f64 b_1.Film)) <| s)
   clear q
   cases h2 : (v_laws_sameFloat (fcv .f32 .f64 a_0.Film) (fcv .f32 .f64 b_1.Film)) with
   | true =>
    have q {a C} (s : Scr a C) := p (sB' h2 <| sC (widenOk a_0.Bend) <| sC (widenOk b_1.Bend) <| sF (t_laws_sameFloat (fcv .f32 .f64 a_0.Bend) (fcv .f32 .f64 b_1.Bend)) <| s)
    clear p
    cases h3 : (v_laws_sameFloat (fcv .f32 .f64 a_0.Bend) (fcv .f32 .f64 b_1.Bend)) with
    | true =>
     have p {a C} (s : Scr a C) := q (sB' h3 <| sF (t_laws_eqFloat32S a_0.Weights b_1.Weights hp4 hp9) <| s)
     clear q
     cases h4 : (v_laws_eqFloat32S a_0.Weights b_1.Weights) with
     | true =>
      have q {a C} (s : Scr a C) := p (sB' h4 <| sF (t_laws_eqVector a_0.Fall b_1.Fall) <| s)
      clear p
      cases h5 : (v_laws_eqVector a_0.Fall b_1.Fall) with
      | true =>
       refine fnS E0Ok hMixed (c := bodyOf f22) [] (.b true) [] func22 (q (sB' h5 <| sK [] sN)) rfl (by kernel_rfl) (by kernel_rfl) rfl ?_ ?_
       · simp only [v_laws_eqBody, h0, h1, h2, h3, h4, h5, cond_true]
       · rfl
      | false =>
       refine fnS E0Ok hMixed (c := bodyOf f22) [] (.b false) [] func22 (q (sB' h5 <| sK [] sN)) rfl (by kernel_rfl) (by kernel_rfl) rfl ?_ ?_
       · simp only [v_laws_eqBody, h0, h1, h2, h3, h4, h5, cond_true, cond_false]
       · rfl
     | false =>
      refine fnS E0Ok hMixed (c := bodyOf f22) [] (.b false) [] func22 (p (sB' h4 <| sK [] sN)) rfl (by kernel_rfl) (by kernel_rfl) rfl ?_ ?_
      · simp only [v_laws_eqBody, h0, h1, h2, h3, h4, cond_true, cond_false]
      · rfl
    | false =>
     refine fnS E0Ok hMixed (c := bodyOf f22) [] (.b false) [] func22 (q (sB' h3 <| sK [] sN)) rfl (by kernel_rfl) (by kernel_rfl) rfl ?_ ?_
     · simp only [v_laws_eqBody, h0, h1, h2, h3, cond_true, cond_false]
     · rfl
   | false =>
    refine fnS E0Ok hMixed (c := bodyOf f22) [] (.b false) [] func22 (p (sB' h2 <| sK [] sN)) rfl (by kernel_rfl) (by kernel_rfl) rfl ?_ ?_
    · simp only [v_laws_eqBody, h0, h1, h2, cond_true, cond_false]
    · rfl
  | false =>
   refine fnS E0Ok hMixed (c := bodyOf f22) [] (.b false) [] func22 (q (sB' h1 <| sK [] sN)) rfl (by kernel_rfl) (by kernel_rfl) rfl ?_ ?_
   · simp only [v_laws_eqBody, h0, h1, cond_true, cond_false]
   · rfl
 | false =>
  refine fnS E0Ok hMixed (c := bodyOf f22) [] (.b false) [] func22 (p (sB' h0 <| sK [] sN)) rfl (by kernel_rfl) (by kernel_rfl) rfl ?_ ?_
  · simp only [v_laws_eqBody, h0, cond_false]
  · rfl

theorem eqBody_self (a : GBody) : v_laws_eqBody a a = true := by
  simp [v_laws_eqBody, same_self, eqVector_self, eqMesh_self, eqSpringS_self, eqFloat32S_self]

def v_laws_FnExactSameBody (aA_0 : GBody) (aB_1 : GBody) : Bool := (cond (decide ((v_laws_szBody aA_0 1048576) < 0))
  true
  (cond (decide ((v_laws_szBody aB_1 (v_laws_szBody aA_0 1048576)) < 0))
    true
    (cond ((v_impl_SameBody aA_0 aB_1) == (v_spec_SameBody aA_0 aB_1))
      (cond (v_laws_eqBody aA_0 aA_0)
        (cond (v_laws_eqBody aB_1 aB_1)
          true
          false)
        false)
      false)))

set_option maxHeartbeats 1000000 in
theorem t_laws_FnExactSameBody (aA_0 : GBody) (aB_1 : GBody) (hp0 : aA_0.Mesh.Places.length ≤ 9223372036854775807) (hp1 : aA_0.Mesh.Triangles.length ≤ 9223372036854775807) (hp2 : ∀ t ∈ aA_0.Mesh.Triangles, t.length ≤ 9223372036854775807) (hp3 : aA_0.Springs.length ≤ 9223372036854775807) (hp4 : aA_0.Weights.length ≤ 9223372036854775807) (hp5 : aB_1.Mesh.Places.length ≤ 9223372036854775807) (hp6 : aB_1.Mesh.Triangles.length ≤ 9223372036854775807) (hp7 : ∀ t ∈ aB_1.Mesh.Triangles, t.length ≤ 9223372036854775807) (hp8 : aB_1.Springs.length ≤ 9223372036854775807) (hp9 : aB_1.Weights.length ≤ 9223372036854775807)  : Fn prog 4 [.agg [.sl (aA_0.Mesh.Places.map GVector.cells), .sl (aA_0.Mesh.Triangles.map (cL (cI .i64))), .sl (aA_0.Springs.map GSpring.cells), .f .f32 aA_0.Film, .f .f32 aA_0.Bend, .sl (aA_0.Weights.map (cF .f32)), .f .f32 aA_0.Fall.X, .f .f32 aA_0.Fall.Y, .f .f32 aA_0.Fall.Z], .agg [.sl (aB_1.Mesh.Places.map GVector.cells), .sl (aB_1.Mesh.Triangles.map (cL (cI .i64))), .sl (aB_1.Springs.map GSpring.cells), .f .f32 aB_1.Film, .f .f32 aB_1.Bend, .sl (aB_1.Weights.map (cF .f32)), .f .f32 aB_1.Fall.X, .f .f32 aB_1.Fall.Y, .f .f32 aB_1.Fall.Z]] (.b (v_laws_FnExactSameBody aA_0 aB_1)) [] := by
 have z0 := (ok_laws_szBody aA_0 1048576 (by omega) (by omega) (by assumption) (by omega) (by omega) (by omega) (by omega))
 have z1 := (ok_laws_szBody aB_1 (v_laws_szBody aA_0 1048576) (by omega) (by omega) (by assumption) (by omega) (by omega) (by omega) (by omega))
 have p {a C} (s : Scr a C) := sF (t_laws_szBody aA_0 1048576 hp0 hp1 hp2 hp3 hp4) <| s
 cases h0 : (decide ((v_laws_szBody aA_0 1048576) < 0)) with
 | true =>
  have gh0 := of_decide_eq_true h0
  refine fnS E0Ok hMixed (c := bodyOf f4) [] (.b true) [] func4 (p (sB h0 <| sK [] sN)) rfl (by kernel_rfl) (by kernel_rfl) rfl ?_ ?_
  · simp only [v_laws_FnExactSameBody, h0, cond_true]
  · rfl
 | false =>
  have gh0 := of_decide_eq_false h0
  have q {a C} (s : Scr a C) := p (sB h0 <| sF (t_laws_szBody aB_1 (v_laws_szBody aA_0 1048576) hp5 hp6 hp7 hp8 hp9) <| s)
  clear p
  cases h1 : (decide ((v_laws_szBody aB_1 (v_laws_szBody aA_0 1048576)) < 0)) with
  | true =>
   have gh1 := of_decide_eq_true h1
   refine fnS E0Ok hMixed (c := bodyOf f4) [] (.b true) [] func4 (q (sB h1 <| sK [] sN)) rfl (by kernel_rfl) (by kernel_rfl) rfl ?_ ?_
   · simp only [v_laws_FnExactSameBody, h0, h1, cond_true, cond_false]
   · rfl
  | false =>
   have gh1 := of_decide_eq_false h1
   have y0 : aA_0.Mesh.Places.length ≤ 1073741824 := by clear q; exact (by first | assumption | omega | (simp_all <;> omega))
   have y1 : aA_0.Mesh.Triangles.length ≤ 1073741824 := by clear q; exact (by first | assumption | omega | (simp_all <;> omega))
   have y2 : ∀ t ∈ aA_0.Mesh.Triangles, t.length ≤ 1073741824 := by clear q; exact (by first | assumption | (intro t ht; first | (have q := z0.2.2.2.2.2.2 t ht; omega) | (have q := z1.2.2.2.2.2.2 t ht; omega)) | omega | (simp_all <;> omega))
   have y3 : aA_0.Springs.length ≤ 1073741824 := by clear q; exact (by first | assumption | omega | (simp_all <;> omega))
   have y4 : aA_0.Weights.length ≤ 1073741824 := by clear q; exact (by first | assumption | omega | (simp_all <;> omega))
   have y5 : aB_1.Mesh.Places.length ≤ 1073741824 := by clear q; exact (by first | assumption | omega | (simp_all <;> omega))
   have y6 : aB_1.Mesh.Triangles.length ≤ 1073741824 := by clear q; exact (by first | assumption | omega | (simp_all <;> omega))
   have y7 : ∀ t ∈ aB_1.Mesh.Triangles, t.length ≤ 1073741824 := by clear q; exact (by first | assumption | (intro t ht; first | (have q := z0.2.2.2.2.2.2 t ht; omega) | (have q := z1.2.2.2.2.2.2 t ht; omega)) | omega | (simp_all <;> omega))
   have y8 : aB_1.Springs.length ≤ 1073741824 := by clear q; exact (by first | assumption | omega | (simp_all <;> omega))
   have y9 : aB_1.Weights.length ≤ 1073741824 := by clear q; exact (by first | assumption | omega | (simp_all <;> omega))
   have p {a C} (s : Scr a C) := q (sB h1 <| sK [3, 3] <| sF (i_laws_toBody aA_0 y0 y1 y2 y3 y4) <| sF (i_laws_toBody aB_1 y5 y6 y7 y8 y9) <| sF (Fn.castA (args' := [.agg [.sl (aA_0.Mesh.Places.map GVector.cells), .sl ((aA_0.Mesh.Triangles.map fun l => l.map (cI .i64)).map fun l => [.sl l]), .sl (aA_0.Springs.map GSpring.cells), .f .f32 aA_0.Film, .f .f32 aA_0.Bend, .sl (aA_0.Weights.map (cF .f32)), .f .f32 aA_0.Fall.X, .f .f32 aA_0.Fall.Y, .f .f32 aA_0.Fall.Z], .agg [.sl (aB_1.Mesh.Places.map GVector.cells), .sl ((aB_1.Mesh.Triangles.map fun l => l.map (cI .i64)).map fun l => [.sl l]), .sl (aB_1.Springs.map GSpring.cells), .f .f32 aB_1.Film, .f .f32 aB_1.Bend, .sl (aB_1.Weights.map (cF .f32)), .f .f32 aB_1.Fall.X, .f .f32 aB_1.Fall.Y, .f .f32 aB_1.Fall.Z]]) (t_spec_SameBody aA_0 aB_1 y0 y1 y2 y3 y4 y5 y6 y7 y8 y9) (by first | (simp [cL, Function.comp_def]; done) | (simp [cL, Function.comp_def]; rfl))) <| sF (i_laws_toBody aA_0 y0 y1 y2 y3 y4) <| sF (i_laws_toBody aB_1 y5 y6 y7 y8 y9) <| sF (Fn.castA (args' := [.agg [.sl (aA_0.Mesh.Places.map GVector.cells), .sl ((aA_0.Mesh.Triangles.map fun l => l.map (cI .i64)).map fun l => [.sl l]), .sl (aA_0.Springs.map GSpring.cells), .f .f32 aA_0.Film, .f .f32 aA_0.Bend, .sl (aA_0.Weights.map (cF .f32)), .f .f32 aA_0.Fall.X, .f .f32 aA_0.Fall.Y, .f .f32 aA_0.Fall.Z], .agg [.sl (aB_1.Mesh.Places.map GVector.cells), .sl ((aB_1.Mesh.Triangles.map fun l => l.map (cI .i64)).map fun l => [.sl l]), .sl (aB_1.Springs.map GSpring.cells), .f .f32 aB_1.Film, .f .f32 aB_1.Bend, .sl (aB_1.Weights.map (cF .f32)), .f .f32 aB_1.Fall.X, .f .f32 aB_1.Fall.Y, .f .f32 aB_1.Fall.Z]]) (t_impl_SameBody aA_0 aB_1 y0 y1 y2 y3 y4 y5 y6 y7 y8 y9) (by first | (simp [cL, Function.comp_def]; done) | (simp [cL, Function.comp_def]; rfl))) <| s)
   clear q
   cases h2 : ((v_impl_SameBody aA_0 aB_1) == (v_spec_SameBody aA_0 aB_1)) with
   | true =>
    have gh2 := eq_of_beq h2
    have q {a C} (s : Scr a C) := p (sB' h2 <| sK [3, 3] <| sF (i_laws_toBody aA_0 y0 y1 y2 y3 y4) <| sF (Fn.castA (args' := [.agg [.sl (aA_0.Mesh.Places.map GVector.cells), .sl ((aA_0.Mesh.Triangles.map fun l => l.map (cI .i64)).map fun l => [.sl l]), .sl (aA_0.Springs.map GSpring.cells), .f .f32 aA_0.Film, .f .f32 aA_0.Bend, .sl (aA_0.Weights.map (cF .f32)), .f .f32 aA_0.Fall.X, .f .f32 aA_0.Fall.Y, .f .f32 aA_0.Fall.Z], .agg [.sl (aA_0.Mesh.Places.map GVector.cells), .sl ((aA_0.Mesh.Triangles.map fun l => l.map (cI .i64)).map fun l => [.sl l]), .sl (aA_0.Springs.map GSpring.cells), .f .f32 aA_0.Film, .f .f32 aA_0.Bend, .sl (aA_0.Weights.map (cF .f32)), .f .f32 aA_0.Fall.X, .f .f32 aA_0.Fall.Y, .f .f32 aA_0.Fall.Z]]) (t_laws_eqBody aA_0 aA_0 y0 y1 y2 y3 y4 y0 y1 y2 y3 y4) (by first | (simp [cL, Function.comp_def]; done) | (simp [cL, Function.comp_def]; rfl))) <| s)
    clear p
    cases h3 : (v_laws_eqBody aA_0 aA_0) with
    | true =>
     have p {a C} (s : Scr a C) := q (sB' h3 <| sK [3, 3] <| sF (i_laws_toBody aB_1 y5 y6 y7 y8 y9) <| sF (Fn.castA (args' := [.agg [.sl (aB_1.Mesh.Places.map GVector.cells), .sl ((aB_1.Mesh.Triangles.map fun l => l.map (cI .i64)).map fun l => [.sl l]), .sl (aB_1.Springs.map GSpring.cells), .f .f32 aB_1.Film, .f .f32 aB_1.Bend, .sl (aB_1.Weights.map (cF .f32)), .f .f32 aB_1.Fall.X, .f .f32 aB_1.Fall.Y, .f .f32 aB_1.Fall.Z], .agg [.sl (aB_1.Mesh.Places.map GVector.cells), .sl ((aB_1.Mesh.Triangles.map fun l => l.map (cI .i64)).map fun l => [.sl l]), .sl (aB_1.Springs.map GSpring.cells), .f .f32 aB_1.Film, .f .f32 aB_1.Bend, .sl (aB_1.Weights.map (cF .f32)), .f .f32 aB_1.Fall.X, .f .f32 aB_1.Fall.Y, .f .f32 aB_1.Fall.Z]]) (t_laws_eqBody aB_1 aB_1 y5 y6 y7 y8 y9 y5 y6 y7 y8 y9) (by first | (simp [cL, Function.comp_def]; done) | (simp [cL, Function.comp_def]; rfl))) <| s)
     clear q
     cases h4 : (v_laws_eqBody aB_1 aB_1) with
     | true =>
      refine fnS E0Ok hMixed (c := bodyOf f4) [] (.b true) [] func4 (p (sB' h4 <| sK [] sN)) rfl (by kernel_rfl) (by kernel_rfl) rfl ?_ ?_
      · simp only [v_laws_FnExactSameBody, h0, h1, h2, h3, h4, cond_true, cond_false]
      · rfl
     | false =>
      refine fnS E0Ok hMixed (c := bodyOf f4) [] (.b false) [] func4 (p (sB' h4 <| sK [] sN)) rfl (by kernel_rfl) (by kernel_rfl) rfl ?_ ?_
      · simp only [v_laws_FnExactSameBody, h0, h1, h2, h3, h4, cond_true, cond_false]
      · rfl
    | false =>
     refine fnS E0Ok hMixed (c := bodyOf f4) [] (.b false) [] func4 (q (sB' h3 <| sK [] sN)) rfl (by kernel_rfl) (by kernel_rfl) rfl ?_ ?_
     · simp only [v_laws_FnExactSameBody, h0, h1, h2, h3, cond_true, cond_false]
     · rfl
   | false =>
    have gh2 := ne_of_beq_false h2
    refine fnS E0Ok hMixed (c := bodyOf f4) [] (.b false) [] func4 (p (sB' h2 <| sK [] sN)) rfl (by kernel_rfl) (by kernel_rfl) rfl ?_ ?_
    · simp only [v_laws_FnExactSameBody, h0, h1, h2, cond_false]
    · rfl

theorem num_eq {a b : Nat} (ha : Ok32 a) (hb : Ok32 b) : v_impl_SameNumber a b = v_spec_l01Same a b := by
  unfold v_impl_SameNumber v_spec_l01Same
  exact num_same ha hb (S := v_math_Signbit) (B := v_spec_l01Bits) (fun x _ => rfl) (fun x => rfl)
def OkV (v : GVector) : Prop := Ok32 v.X ∧ Ok32 v.Y ∧ Ok32 v.Z
def OkS (v : GSpring) : Prop := Ok32 v.Long ∧ Ok32 v.Stiff
theorem okV_default : OkV default := ⟨ok32_default, ok32_default, ok32_default⟩
theorem okS_default : OkS default := ⟨ok32_default, ok32_default⟩
theorem vec_eq {a b : GVector} (ha : OkV a) (hb : OkV b) : v_impl_SameVector a b = v_spec_l01VSame a b := by
  unfold v_impl_SameVector v_spec_l01VSame
  rw [num_eq ha.1 hb.1, num_eq ha.2.1 hb.2.1, num_eq ha.2.2 hb.2.2]

theorem vecs_eq (a b : GMesh) (ha : ∀ v ∈ a.Places, OkV v) (hb : ∀ v ∈ b.Places, OkV v) : lr_slices_EqualFunc___impl_Vector___impl_Vector_impl_Vector_impl_Vector__mnnFimpl_SameVectorZ_1_0 a.Places b.Places = lr_spec_SameMesh_1_0 a b := by
  unfold lr_slices_EqualFunc___impl_Vector___impl_Vector_impl_Vector_impl_Vector__mnnFimpl_SameVectorZ_1_0 lr_spec_SameMesh_1_0
  exact same_loop (x := ()) (n := (a.Places.length : Int)) (p := fun i => v_impl_SameVector (a.Places.getD i.toNat default) (b.Places.getD i.toNat default)) (q := fun i => v_spec_l01VSame (a.Places.getD i.toNat default) (b.Places.getD i.toNat default)) (α := Unit) (lo := lo_slices_EqualFunc___impl_Vector___impl_Vector_impl_Vector_impl_Vector__mnnFimpl_SameVectorZ_1 a.Places b.Places) (lo' := lo_spec_SameMesh_1 a b) (fun k i => rfl) (fun k i => rfl) rfl (fun i => vec_eq (ok_getD okV_default ha _) (ok_getD okV_default hb _)) _ _
theorem nums_eq (a b : List Nat) (ha : ∀ v ∈ a, Ok32 v) (hb : ∀ v ∈ b, Ok32 v) : v_slices_EqualFunc___float32___float32_float32_float32__mnnFimpl_SameNumberZ a b = v_spec_l01SameAll a b := by
  unfold v_slices_EqualFunc___float32___float32_float32_float32__mnnFimpl_SameNumberZ v_spec_l01SameAll lr_slices_EqualFunc___float32___float32_float32_float32__mnnFimpl_SameNumberZ_1_0 lr_spec_l01SameAll_1_0
  rw [same_loop (x := ()) (n := (a.length : Int)) (p := fun i => v_impl_SameNumber (a.getD i.toNat default) (b.getD i.toNat default)) (q := fun i => v_spec_l01Same (a.getD i.toNat default) (b.getD i.toNat default)) (α := Unit) (lo := lo_slices_EqualFunc___float32___float32_float32_float32__mnnFimpl_SameNumberZ_1 a b) (lo' := lo_spec_l01SameAll_1 a b) (fun k i => rfl) (fun k i => rfl) rfl (fun i => num_eq (ok_getD ok32_default ha _) (ok_getD ok32_default hb _))]
theorem sprs_eq (a b : GBody) (ha : ∀ v ∈ a.Springs, OkS v) (hb : ∀ v ∈ b.Springs, OkS v) : lr_slices_EqualFunc___impl_Spring___impl_Spring_impl_Spring_impl_Spring__mnnFimpl_sameSpringZ_1_0 a.Springs b.Springs = lr_spec_l03Same_1_0 a b := by
  unfold lr_slices_EqualFunc___impl_Spring___impl_Spring_impl_Spring_impl_Spring__mnnFimpl_sameSpringZ_1_0 lr_spec_l03Same_1_0
  refine same_loop (x := ()) (n := (a.Springs.length : Int)) (p := fun i => v_impl_sameSpring (a.Springs.getD i.toNat default) (b.Springs.getD i.toNat default)) (q := fun i => v_impl_sameSpring (a.Springs.getD i.toNat default) (b.Springs.getD i.toNat default)) (α := Unit) (lo := lo_slices_EqualFunc___impl_Spring___impl_Spring_impl_Spring_impl_Spring__mnnFimpl_sameSpringZ_1 a.Springs b.Springs) (lo' := lo_spec_l03Same_1 a b) (fun k i => rfl) (fun k i => ?_) rfl (fun i => rfl) _ _
  rw [lo_spec_l03Same_1]
  have h1 := ok_getD okS_default ha i.toNat
  have h2 := ok_getD okS_default hb i.toNat
  generalize a.Springs.getD i.toNat default = s at *
  generalize b.Springs.getD i.toNat default = t at *
  show _ = cond (decide (i < (a.Springs.length : Int))) (cond (v_impl_sameSpring s t) (lo_spec_l03Same_1 a b k (i + 1)) (.inl ())) (.inr ())
  unfold v_impl_sameSpring
  rw [num_eq h1.1 h2.1, num_eq h1.2 h2.2]
  by_cases e1 : s.A = t.A
  · rw [show (s.A != t.A) = false from by rw [bne_eq_false_iff_eq]; exact e1, beq_iff_eq.2 e1, cond_false, cond_true]
    by_cases e2 : s.B = t.B
    · rw [show (s.B != t.B) = false from by rw [bne_eq_false_iff_eq]; exact e2, beq_iff_eq.2 e2, cond_false, cond_true]
      cases v_spec_l01Same s.Long t.Long <;> cases v_spec_l01Same s.Stiff t.Stiff <;> rfl
    · rw [bne_iff_ne.2 e2, beq_eq_false_iff_ne.2 e2]; rfl
  · rw [bne_iff_ne.2 e1, beq_eq_false_iff_ne.2 e1]; rfl
theorem tris_eq (a b : GMesh) : lr_slices_EqualFunc_____int64_____int64___int64___int64__mnnFimpl_sameTriangles_1Z_1_0 a.Triangles b.Triangles = lr_spec_SameMesh_2_1 a b := by kernel_rfl
theorem eq_SameBody (a b : GBody) (p1 : ∀ v ∈ a.Mesh.Places, OkV v) (p2 : ∀ v ∈ b.Mesh.Places, OkV v) (s1 : ∀ v ∈ a.Springs, OkS v) (s2 : ∀ v ∈ b.Springs, OkS v) (w1 : ∀ v ∈ a.Weights, Ok32 v) (w2 : ∀ v ∈ b.Weights, Ok32 v)
    (f1 : Ok32 a.Film) (f2 : Ok32 b.Film) (n1 : Ok32 a.Bend) (n2 : Ok32 b.Bend) (g1 : OkV a.Fall) (g2 : OkV b.Fall) : v_impl_SameBody a b = v_spec_SameBody a b := by
  unfold v_impl_SameBody v_spec_SameBody v_spec_l03Same v_impl_SameMesh v_spec_SameMesh v_impl_sameTriangles
  unfold v_slices_EqualFunc___impl_Vector___impl_Vector_impl_Vector_impl_Vector__mnnFimpl_SameVectorZ v_slices_EqualFunc_____int64_____int64___int64___int64__mnnFimpl_sameTriangles_1Z v_slices_EqualFunc___impl_Spring___impl_Spring_impl_Spring_impl_Spring__mnnFimpl_sameSpringZ
  rw [vecs_eq a.Mesh b.Mesh p1 p2, tris_eq a.Mesh b.Mesh, sprs_eq a b s1 s2, nums_eq _ _ w1 w2, num_eq f1 f2, num_eq n1 n2, vec_eq g1 g2]
  cases ((a.Mesh.Places.length : Int) != (b.Mesh.Places.length : Int)) <;> cases ((a.Mesh.Triangles.length : Int) != (b.Mesh.Triangles.length : Int)) <;> cases lr_spec_SameMesh_1_0 a.Mesh b.Mesh <;> cases lr_spec_SameMesh_2_1 a.Mesh b.Mesh <;> cases ((a.Springs.length : Int) != (b.Springs.length : Int)) <;> cases lr_spec_l03Same_1_0 a b <;> cases v_spec_l01SameAll a.Weights b.Weights <;> cases v_spec_l01Same a.Film b.Film <;> cases v_spec_l01Same a.Bend b.Bend <;> cases v_spec_l01VSame a.Fall b.Fall <;> rfl
theorem true_laws_FnExactSameBody (a b : GBody) (h0_0 : a.Mesh.Places.length ≤ 9223372036854775807) (h0_1 : a.Mesh.Triangles.length ≤ 9223372036854775807) (h0_2 : ∀ t ∈ a.Mesh.Triangles, t.length ≤ 9223372036854775807) (h0_3 : a.Springs.length ≤ 9223372036854775807) (h0_4 : a.Weights.length ≤ 9223372036854775807) (h1_0 : b.Mesh.Places.length ≤ 9223372036854775807) (h1_1 : b.Mesh.Triangles.length ≤ 9223372036854775807) (h1_2 : ∀ t ∈ b.Mesh.Triangles, t.length ≤ 9223372036854775807) (h1_3 : b.Springs.length ≤ 9223372036854775807) (h1_4 : b.Weights.length ≤ 9223372036854775807) (hb0 : (((a.Mesh.Places.length ≤ 9223372036854775807 ∧ ∀ a28 ∈ a.Mesh.Places, ((Wd .f32 a28.X ∧ cn .f32 a28.X = a28.X) ∧ (Wd .f32 a28.Y ∧ cn .f32 a28.Y = a28.Y) ∧ (Wd .f32 a28.Z ∧ cn .f32 a28.Z = a28.Z) ∧ True)) ∧ (a.Mesh.Triangles.length ≤ 9223372036854775807 ∧ ∀ a29 ∈ a.Mesh.Triangles, (a29.length ≤ 9223372036854775807 ∧ ∀ a52 ∈ a29, (Lit.int .i64 a52).wf = true)) ∧ True) ∧ (a.Springs.length ≤ 9223372036854775807 ∧ ∀ a32 ∈ a.Springs, ((Lit.int .i64 a32.A).wf = true ∧ (Lit.int .i64 a32.B).wf = true ∧ (Wd .f32 a32.Long ∧ cn .f32 a32.Long = a32.Long) ∧ (Wd .f32 a32.Stiff ∧ cn .f32 a32.Stiff = a32.Stiff) ∧ True)) ∧ (Wd .f32 a.Film ∧ cn .f32 a.Film = a.Film) ∧ (Wd .f32 a.Bend ∧ cn .f32 a.Bend = a.Bend) ∧ (a.Weights.length ≤ 9223372036854775807 ∧ ∀ a33 ∈ a.Weights, (Wd .f32 a33 ∧ cn .f32 a33 = a33)) ∧ ((Wd .f32 a.Fall.X ∧ cn .f32 a.Fall.X = a.Fall.X) ∧ (Wd .f32 a.Fall.Y ∧ cn .f32 a.Fall.Y = a.Fall.Y) ∧ (Wd .f32 a.Fall.Z ∧ cn .f32 a.Fall.Z = a.Fall.Z) ∧ True) ∧ True)) (hb1 : (((b.Mesh.Places.length ≤ 9223372036854775807 ∧ ∀ a28 ∈ b.Mesh.Places, ((Wd .f32 a28.X ∧ cn .f32 a28.X = a28.X) ∧ (Wd .f32 a28.Y ∧ cn .f32 a28.Y = a28.Y) ∧ (Wd .f32 a28.Z ∧ cn .f32 a28.Z = a28.Z) ∧ True)) ∧ (b.Mesh.Triangles.length ≤ 9223372036854775807 ∧ ∀ a29 ∈ b.Mesh.Triangles, (a29.length ≤ 9223372036854775807 ∧ ∀ a52 ∈ a29, (Lit.int .i64 a52).wf = true)) ∧ True) ∧ (b.Springs.length ≤ 9223372036854775807 ∧ ∀ a32 ∈ b.Springs, ((Lit.int .i64 a32.A).wf = true ∧ (Lit.int .i64 a32.B).wf = true ∧ (Wd .f32 a32.Long ∧ cn .f32 a32.Long = a32.Long) ∧ (Wd .f32 a32.Stiff ∧ cn .f32 a32.Stiff = a32.Stiff) ∧ True)) ∧ (Wd .f32 b.Film ∧ cn .f32 b.Film = b.Film) ∧ (Wd .f32 b.Bend ∧ cn .f32 b.Bend = b.Bend) ∧ (b.Weights.length ≤ 9223372036854775807 ∧ ∀ a33 ∈ b.Weights, (Wd .f32 a33 ∧ cn .f32 a33 = a33)) ∧ ((Wd .f32 b.Fall.X ∧ cn .f32 b.Fall.X = b.Fall.X) ∧ (Wd .f32 b.Fall.Y ∧ cn .f32 b.Fall.Y = b.Fall.Y) ∧ (Wd .f32 b.Fall.Z ∧ cn .f32 b.Fall.Z = b.Fall.Z) ∧ True) ∧ True)) : v_laws_FnExactSameBody a b = true := by
  unfold v_laws_FnExactSameBody
  rw [eq_SameBody a b (fun v hv => have h := hb0.1.1.2 v hv; ⟨h.1, h.2.1, h.2.2.1⟩) (fun v hv => have h := hb1.1.1.2 v hv; ⟨h.1, h.2.1, h.2.2.1⟩) (fun v hv => have h := hb0.2.1.2 v hv; ⟨h.2.2.1, h.2.2.2.1⟩) (fun v hv => have h := hb1.2.1.2 v hv; ⟨h.2.2.1, h.2.2.2.1⟩)
    (fun v hv => hb0.2.2.2.2.1.2 v hv) (fun v hv => hb1.2.2.2.2.1.2 v hv) hb0.2.2.1 hb1.2.2.1 hb0.2.2.2.1 hb1.2.2.2.1 ⟨hb0.2.2.2.2.2.1.1, hb0.2.2.2.2.2.1.2.1, hb0.2.2.2.2.2.1.2.2.1⟩ ⟨hb1.2.2.2.2.2.1.1, hb1.2.2.2.2.2.1.2.1, hb1.2.2.2.2.2.1.2.2.1⟩]
  simp [eqBody_self]

end Go.Ab
