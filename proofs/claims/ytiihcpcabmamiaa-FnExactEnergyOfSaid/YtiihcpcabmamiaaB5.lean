/- The functions of this seat as plain Lean, and that the program's are these. Printed by a program of the prover's own. -/
import Derived.Test.YtiihcpcabmamiaaB4
set_option linter.unusedVariables false
set_option linter.unusedSimpArgs false
set_option maxRecDepth 100000
namespace Go.Ab
open Go.RowKit Go.Proofs.Try

def ls_slices_Compare___int64_int64__1 (s1_0 : (List Int)) (s2_1 : (List Int)) : (Int) ⊕ (Unit) → Ex × St
  | .inl r => (.ret, ⟨[.any, .any, .any, .any, .i .i64 r, .any, .any, .any, .any, .any, .any, .any, .any, .any, .any, .any, .any, .any, .any, .any, .any, .any, .any, .any, .any, .any, .any, .any, .any, .any, .any, .any, .any, .any, .any, .any], []⟩)
  | .inr r => ((.exit 0), ⟨[.sl (s1_0.map (cI .i64)), .sl (s2_1.map (cI .i64)), .any, .any, .any, .any, .any, .any, .any, .sl (s1_0.map (cI .i64)), .any, .any, .any, .any, .any, .any, .any, .any, .any, .any, .any, .any, .any, .any, .any, .any, .any, .any, .any, .any, .any, .any, .any, .any, .any, .any], []⟩)

def hd_slices_Compare___int64_int64__1 (s1_0 : (List Int)) (s2_1 : (List Int)) (x_l0 : Int) : St := ⟨[.sl (s1_0.map (cI .i64)), .sl (s2_1.map (cI .i64)), .any, .any, .any, .any, .any, .any, .any, .sl (s1_0.map (cI .i64)), .i .i64 (s1_0.length : Int), .i .i64 x_l0, .any, .any, .any, .any, .any, .any, .any, .any, .any, .any, .any, .any, .any, .any, .any, .any, .any, .any, .any, .any, .any, .any, .any, .any], []⟩

def mk_slices_Compare___int64_int64__1_0 : List Bool := [true, true, false, false, false, false, false, false, false, true, true, true, false, false, false, false, false, false, false, false, false, false, false, false, false, false, false, false, false, false, false, false, false, false, false, false]

def mk_slices_Compare___int64_int64__1_1 : List Bool := [false, false, false, false, true, false, false, false, false, false, false, false, false, false, false, false, false, false, false, false, false, false, false, false, false, false, false, false, false, false, false, false, false, false, false, false]

def mk_slices_Compare___int64_int64__1_2 : List Bool := [true, true, false, false, false, false, false, false, false, true, false, false, false, false, false, false, false, false, false, false, false, false, false, false, false, false, false, false, false, false, false, false, false, false, false, false]

theorem lp_slices_Compare___int64_int64__1 (s1_0 : (List Int)) (s2_1 : (List Int)) (hp0 : s1_0.length ≤ 1073741824) (hp1 : s2_1.length ≤ 1073741824) : ∀ (k : Nat) (x_l0 : Int) (hv_slices_Compare___int64_int64__1_0 : 0 ≤ x_l0) (hk : ((s1_0.length : Int) - x_l0).toNat < k), Lp prog 0 (sub (bodyOf f141) [1, 0, 1, 0, 0]) (hd_slices_Compare___int64_int64__1 s1_0 s2_1 x_l0) (ls_slices_Compare___int64_int64__1 s1_0 s2_1 (lo_slices_Compare___int64_int64__1 s1_0 s2_1 k x_l0)).1 (ls_slices_Compare___int64_int64__1 s1_0 s2_1 (lo_slices_Compare___int64_int64__1 s1_0 s2_1 k x_l0)).2 := by
 intro k
 induction k with
 | zero => intro x_l0 hv_slices_Compare___int64_int64__1_0 hk; exact absurd hk (Nat.not_lt_zero _)
 | succ k ih =>
  intro x_l0 hv_slices_Compare___int64_int64__1_0 hk
  cases h_0 : (decide (x_l0 < (s1_0.length : Int))) with
  | true =>
   have gh_0 := of_decide_eq_true h_0
   have y_0 : (0 : Int) ≤ x_l0 := (by first | assumption | omega | (simp_all <;> omega))
   have y_1 : x_l0 < (s1_0.length : Int) := (by first | assumption | omega | (simp_all <;> omega))
   have p {a C} (s : Scr a C) := sB h_0 <| sG (cI .i64) s1_0 x_l0 y_0 y_1 <| sZ (cI .i64) s2_1 <| s
   cases h_1 : (decide (x_l0 ≥ (s2_1.length : Int))) with
   | true =>
    have gh_1 := of_decide_eq_true h_1
    have e : lo_slices_Compare___int64_int64__1 s1_0 s2_1 (k + 1) x_l0 = (.inl 1) := by simp only [lo_slices_Compare___int64_int64__1, h_0, h_1, cond_true]
    rw [e]
    exact outR (e := .ret) E0Ok hMixed [] mk_slices_Compare___int64_int64__1_1 [] (p (sB h_1 <| sN)) (by kernel_rfl) (by intro h; cases h)
   | false =>
    have gh_1 := of_decide_eq_false h_1
    have y_2 : x_l0 < (s2_1.length : Int) := by clear p; exact (by first | assumption | omega | (simp_all <;> omega))
    have q {a C} (s : Scr a C) := p (sB h_1 <| sG (cI .i64) s2_1 x_l0 y_0 y_2 <| sF (t_cmp_Compare_int64_ (s1_0.getD x_l0.toNat default) (s2_1.getD x_l0.toNat default)) <| s)
    clear p
    cases h_2 : ((v_cmp_Compare_int64_ (s1_0.getD x_l0.toNat default) (s2_1.getD x_l0.toNat default)) != 0) with
    | true =>
     have gh_2 := bne_iff_ne.1 h_2
     have e : lo_slices_Compare___int64_int64__1 s1_0 s2_1 (k + 1) x_l0 = (.inl (v_cmp_Compare_int64_ (s1_0.getD x_l0.toNat default) (s2_1.getD x_l0.toNat default))) := by simp only [lo_slices_Compare___int64_int64__1, h_0, h_1, h_2, cond_true, cond_false]
     rw [e]
     exact outR (e := .ret) E0Ok hMixed [] mk_slices_Compare___int64_int64__1_1 [] (q (sB h_2 <| sN)) (by kernel_rfl) (by intro h; cases h)
    | false =>
     have gh_2 := bne_eq_false_iff_eq.1 h_2
     have y_3 : (-9223372036854775808 : Int) ≤ (x_l0 + 1) := by clear q; exact (by first | assumption | omega | (simp_all <;> omega))
     have y_4 : (x_l0 + 1) ≤ (9223372036854775807 : Int) := by clear q; exact (by first | assumption | omega | (simp_all <;> omega))
     have e : lo_slices_Compare___int64_int64__1 s1_0 s2_1 (k + 1) x_l0 = (lo_slices_Compare___int64_int64__1 s1_0 s2_1 k (x_l0 + 1)) := by simp only [lo_slices_Compare___int64_int64__1, h_0, h_1, h_2, cond_true, cond_false]
     rw [e]
     exact nextR E0Ok hMixed [] mk_slices_Compare___int64_int64__1_0 [] (ih (x_l0 + 1) (show 0 ≤ (x_l0 + 1) from (by first | assumption | omega | (simp_all <;> omega))) (by first | assumption | omega | (simp_all <;> omega))) (q (sB h_2 <| sI (x_l0 + 1) y_3 y_4 <| sN)) (by kernel_rfl)
  | false =>
   have gh_0 := of_decide_eq_false h_0
   have e : lo_slices_Compare___int64_int64__1 s1_0 s2_1 (k + 1) x_l0 = (.inr ()) := by simp only [lo_slices_Compare___int64_int64__1, h_0, cond_false]
   rw [e]
   exact outR (e := (.exit 0)) E0Ok hMixed [] mk_slices_Compare___int64_int64__1_2 [] (sB h_0 <| sN) (by kernel_rfl) (by intro h; cases h)

def lr_slices_Compare___int64_int64__1_0 (s1_0 : (List Int)) (s2_1 : (List Int)) : (Int) ⊕ (Unit) := (lo_slices_Compare___int64_int64__1 s1_0 s2_1 (((s1_0.length : Int) - 0).toNat + 1) 0)

def v_slices_Compare___int64_int64_ (s1_0 : (List Int)) (s2_1 : (List Int)) : Int := (match (lr_slices_Compare___int64_int64__1_0 s1_0 s2_1) with
  | .inl r1 => r1
  | .inr r1 => (cond (decide ((s1_0.length : Int) < (s2_1.length : Int)))
    (-1)
    0))

theorem t_slices_Compare___int64_int64_ (s1_0 : (List Int)) (s2_1 : (List Int)) (hp0 : s1_0.length ≤ 1073741824) (hp1 : s2_1.length ≤ 1073741824)  : Fn prog 141 [.sl (s1_0.map (cI .i64)), .sl (s2_1.map (cI .i64))] (.i .i64 (v_slices_Compare___int64_int64_ s1_0 s2_1)) [] := by
 have p {a C} (s : Scr a C) := sZ (cI .i64) s1_0 <| s
 cases h0 : (lr_slices_Compare___int64_int64__1_0 s1_0 s2_1) with
 | inl r1 =>
  refine fnS E0Ok hMixed (c := bodyOf f141) [] (.i .i64 r1) [] func141 (p (sL mk_slices_Compare___int64_int64__1_0 0 (lp_val (ls_slices_Compare___int64_int64__1 s1_0 s2_1) (x := (lr_slices_Compare___int64_int64__1_0 s1_0 s2_1)) (lp_slices_Compare___int64_int64__1 s1_0 s2_1 hp0 hp1 (((s1_0.length : Int) - 0).toNat + 1) 0 (show 0 ≤ 0 from (by first | assumption | omega | (simp_all <;> omega))) (Nat.lt_succ_self _)) h0) <| sK [] sN)) rfl (by kernel_rfl) (by kernel_rfl) rfl ?_ ?_
  · simp only [v_slices_Compare___int64_int64_, h0]
  · rfl
 | inr r1 =>
  have q {a C} (s : Scr a C) := p (sL mk_slices_Compare___int64_int64__1_0 0 (lp_val (ls_slices_Compare___int64_int64__1 s1_0 s2_1) (x := (lr_slices_Compare___int64_int64__1_0 s1_0 s2_1)) (lp_slices_Compare___int64_int64__1 s1_0 s2_1 hp0 hp1 (((s1_0.length : Int) - 0).toNat + 1) 0 (show 0 ≤ 0 from (by first | assumption | omega | (simp_all <;> omega))) (Nat.lt_succ_self _)) h0) <| sZ (cI .i64) s1_0 <| sZ (cI .i64) s2_1 <| s)
  clear p
  cases h1 : (decide ((s1_0.length : Int) < (s2_1.length : Int))) with
  | true =>
   have gh1 := of_decide_eq_true h1
   refine fnS E0Ok hMixed (c := bodyOf f141) [] (.i .i64 (-1)) [] func141 (q (sB h1 <| sK [] sN)) rfl (by kernel_rfl) (by kernel_rfl) rfl ?_ ?_
   · simp only [v_slices_Compare___int64_int64_, h0, h1, cond_true]
   · rfl
  | false =>
   have gh1 := of_decide_eq_false h1
   refine fnS E0Ok hMixed (c := bodyOf f141) [] (.i .i64 0) [] func141 (q (sB h1 <| sK [] sN)) rfl (by kernel_rfl) (by kernel_rfl) rfl ?_ ?_
   · simp only [v_slices_Compare___int64_int64_, h0, h1, cond_false]
   · rfl

def v_impl_compareEdges (a_0 : Gedge) (b_1 : Gedge) : Int := (v_slices_Compare___int64_int64_ ([a_0.e0, a_0.e1]) ([b_1.e0, b_1.e1]))

theorem t_impl_compareEdges (a_0 : Gedge) (b_1 : Gedge)   : Fn prog 115 [.agg [.i .i64 a_0.e0, .i .i64 a_0.e1], .agg [.i .i64 b_1.e0, .i .i64 b_1.e1]] (.i .i64 (v_impl_compareEdges a_0 b_1)) [] := by
 have y0 : ([a_0.e0, a_0.e1]).length ≤ 1073741824 := (by first | assumption | omega | (simp_all <;> omega))
 have y1 : ([b_1.e0, b_1.e1]).length ≤ 1073741824 := (by first | assumption | omega | (simp_all <;> omega))
 refine fnS E0Ok hMixed (c := bodyOf f115) [] (.i .i64 (v_slices_Compare___int64_int64_ ([a_0.e0, a_0.e1]) ([b_1.e0, b_1.e1]))) [] func115 (sK [2, 2] <| sF (t_slices_Compare___int64_int64_ ([a_0.e0, a_0.e1]) ([b_1.e0, b_1.e1]) y0 y1) <| sK [] sN) rfl (by kernel_rfl) (by kernel_rfl) rfl ?_ ?_
 · rfl
 · rfl

def nd_impl_trianglesByEdge_0 (m_0 : GMesh) (x_l0 : Int) (x_l0_1 : Int) : Gedge := (v_impl_edgeOf ((m_0.Triangles.getD x_l0.toNat default).getD x_l0_1.toNat default) ((m_0.Triangles.getD x_l0.toNat default).getD (Int.tmod (x_l0_1 + 1) 3).toNat default))

def lo_impl_trianglesByEdge_2 (m_0 : GMesh) (x_l0 : Int) (r1_l1 : (List (Gedge × List Int))) (r2_l2 : (List Gedge)) : Nat → Int → (List (Gedge × List Int)) → (List Gedge) → (List (Gedge × List Int)) × (List Gedge)
  | 0, _, _, _ => default
  | k + 1, x_l0_1, r1_l1_1, r2_l2_1 => (cond (decide (x_l0_1 < 3))
    (cond (mhas r1_l1_1 (nd_impl_trianglesByEdge_0 m_0 x_l0 x_l0_1))
      (cond (((r1_l1_1.getD (midx r1_l1_1 (nd_impl_trianglesByEdge_0 m_0 x_l0 x_l0_1)) default).2.length : Int) == 0)
        (lo_impl_trianglesByEdge_2 m_0 x_l0 r1_l1 r2_l2 k (x_l0_1 + 1) (mput r1_l1_1 (midx r1_l1_1 (nd_impl_trianglesByEdge_0 m_0 x_l0 x_l0_1)) ((r1_l1_1.getD (midx r1_l1_1 (nd_impl_trianglesByEdge_0 m_0 x_l0 x_l0_1)) default).2 ++ [x_l0])) (r2_l2_1 ++ [(nd_impl_trianglesByEdge_0 m_0 x_l0 x_l0_1)]))
        (lo_impl_trianglesByEdge_2 m_0 x_l0 r1_l1 r2_l2 k (x_l0_1 + 1) (mput r1_l1_1 (midx r1_l1_1 (nd_impl_trianglesByEdge_0 m_0 x_l0 x_l0_1)) ((r1_l1_1.getD (midx r1_l1_1 (nd_impl_trianglesByEdge_0 m_0 x_l0 x_l0_1)) default).2 ++ [x_l0])) r2_l2_1))
      (lo_impl_trianglesByEdge_2 m_0 x_l0 r1_l1 r2_l2 k (x_l0_1 + 1) (r1_l1_1 ++ [((nd_impl_trianglesByEdge_0 m_0 x_l0 x_l0_1), [x_l0])]) (r2_l2_1 ++ [(nd_impl_trianglesByEdge_0 m_0 x_l0 x_l0_1)])))
    (r1_l1_1, r2_l2_1))

def ls_impl_trianglesByEdge_2 (m_0 : GMesh) (x_l0 : Int) (r1_l1 : (List (Gedge × List Int))) (r2_l2 : (List Gedge)) (r : (List (Gedge × List Int)) × (List Gedge)) : Ex × St := ((.exit 2), ⟨[.agg [.sl (m_0.Places.map GVector.cells), .sl (m_0.Triangles.map (cL (cI .i64)))], .ptr 0 0 0, .any, .nils, .mp 1, .own 2, .any, .any, .any, .any, .mp 1, .any, .ptr 0 0 1, .sl (m_0.Triangles.map (cL (cI .i64))), .i .i64 (m_0.Triangles.length : Int), .i .i64 x_l0, .b (decide (x_l0 < (m_0.Triangles.length : Int))), .i .i64 x_l0, .ref [.sl ((m_0.Triangles.getD x_l0.toNat default).map (cI .i64))] 0, .sl ((m_0.Triangles.getD x_l0.toNat default).map (cI .i64)), .any, .any, .any, .any, .any, .any, .any, .any, .any, .any, .any, .any, .any, .any, .any, .any, .any, .any, .any, .any, .any, .any, .any, .any, .any, .any, .any, .any, .any, .any, .any, .any, .any, .any, .any, .any, .any], [.box 31 [.sl (m_0.Places.map GVector.cells), .sl (m_0.Triangles.map (cL (cI .i64)))], .mapN 2 (mapC Gedge.pr (cI .i64) r.1) none, .vec 100 2 (r.2.map Gedge.cells) false]⟩)

def hd_impl_trianglesByEdge_2 (m_0 : GMesh) (x_l0 : Int) (r1_l1 : (List (Gedge × List Int))) (r2_l2 : (List Gedge)) (x_l0_1 : Int) (r1_l1_1 : (List (Gedge × List Int))) (r2_l2_1 : (List Gedge)) : St := ⟨[.agg [.sl (m_0.Places.map GVector.cells), .sl (m_0.Triangles.map (cL (cI .i64)))], .ptr 0 0 0, .any, .nils, .mp 1, .own 2, .i .i64 x_l0, .sl ((m_0.Triangles.getD x_l0.toNat default).map (cI .i64)), .any, .any, .mp 1, .any, .ptr 0 0 1, .sl (m_0.Triangles.map (cL (cI .i64))), .i .i64 (m_0.Triangles.length : Int), .i .i64 x_l0, .b (decide (x_l0 < (m_0.Triangles.length : Int))), .i .i64 x_l0, .ref [.sl ((m_0.Triangles.getD x_l0.toNat default).map (cI .i64))] 0, .sl ((m_0.Triangles.getD x_l0.toNat default).map (cI .i64)), .i .i64 x_l0_1, .any, .any, .any, .any, .any, .any, .any, .any, .any, .any, .any, .any, .any, .any, .any, .any, .any, .any, .any, .any, .any, .any, .any, .any, .any, .any, .any, .any, .any, .any, .any, .any, .any, .any, .any, .any], [.box 31 [.sl (m_0.Places.map GVector.cells), .sl (m_0.Triangles.map (cL (cI .i64)))], .mapN 2 (mapC Gedge.pr (cI .i64) r1_l1_1) none, .vec 100 2 (r2_l2_1.map Gedge.cells) false]⟩

def mk_impl_trianglesByEdge_2_0 : List Bool := [true, true, false, true, true, true, true, true, false, false, true, false, true, true, true, true, true, true, true, true, true, false, false, false, false, false, false, false, false, false, false, false, false, false, false, false, false, false, false, false, false, false, false, false, false, false, false, false, false, false, false, false, false, false, false, false, false]

def mk_impl_trianglesByEdge_2_1 : List Bool := [true, true, false, true, true, true, false, false, false, false, true, false, true, true, true, true, true, true, true, true, false, false, false, false, false, false, false, false, false, false, false, false, false, false, false, false, false, false, false, false, false, false, false, false, false, false, false, false, false, false, false, false, false, false, false, false, false]

theorem lp_impl_trianglesByEdge_2 (m_0 : GMesh) (x_l0 : Int) (r1_l1 : (List (Gedge × List Int))) (r2_l2 : (List Gedge)) (hp0 : m_0.Places.length ≤ 1073741824) (hp1 : m_0.Triangles.length ≤ 1073741824) (hp2 : ∀ t ∈ m_0.Triangles, t.length ≤ 1073741824) (hp3 : OkE m_0.Places.length m_0.Triangles) (hv_impl_trianglesByEdge_1_0 : 0 ≤ x_l0) (hv_impl_trianglesByEdge_1_1 : (r2_l2.length : Int) ≤ 3 * x_l0) (hv_impl_trianglesByEdge_1_2 : ∀ y ∈ r1_l1, (y.2.length : Int) ≤ 3 * x_l0) (hf_impl_trianglesByEdge_2_0 : (decide (x_l0 < (m_0.Triangles.length : Int))) = true) : ∀ (k : Nat) (x_l0_1 : Int) (r1_l1_1 : (List (Gedge × List Int))) (r2_l2_1 : (List Gedge)) (hv_impl_trianglesByEdge_2_0 : 0 ≤ x_l0_1) (hv_impl_trianglesByEdge_2_1 : (r2_l2_1.length : Int) ≤ (r2_l2.length : Int) + x_l0_1) (hv_impl_trianglesByEdge_2_2 : ∀ y ∈ r1_l1_1, (y.2.length : Int) ≤ 3 * x_l0 + x_l0_1) (hk : ((3 : Int) - x_l0_1).toNat < k), Lp prog 0 (sub (bodyOf f66) [1, 1, 0, 1, 0, 0, 1, 1, 0, 0, 1, 1, 0, 0]) (hd_impl_trianglesByEdge_2 m_0 x_l0 r1_l1 r2_l2 x_l0_1 r1_l1_1 r2_l2_1) (ls_impl_trianglesByEdge_2 m_0 x_l0 r1_l1 r2_l2 (lo_impl_trianglesByEdge_2 m_0 x_l0 r1_l1 r2_l2 k x_l0_1 r1_l1_1 r2_l2_1)).1 (ls_impl_trianglesByEdge_2 m_0 x_l0 r1_l1 r2_l2 (lo_impl_trianglesByEdge_2 m_0 x_l0 r1_l1 r2_l2 k x_l0_1 r1_l1_1 r2_l2_1)).2 := by
 intro k
 induction k with
 | zero => intro x_l0_1 r1_l1_1 r2_l2_1 hv_impl_trianglesByEdge_2_0 hv_impl_trianglesByEdge_2_1 hv_impl_trianglesByEdge_2_2 hk; exact absurd hk (Nat.not_lt_zero _)
 | succ k ih =>
  intro x_l0_1 r1_l1_1 r2_l2_1 hv_impl_trianglesByEdge_2_0 hv_impl_trianglesByEdge_2_1 hv_impl_trianglesByEdge_2_2 hk
  cases h__0 : (decide (x_l0_1 < 3)) with
  | true =>
   have gh__0 := of_decide_eq_true h__0
   have y__0 : (0 : Int) ≤ x_l0_1 := (by first | assumption | omega | (first | (have g5 := of_decide_eq_true hf_impl_trianglesByEdge_2_0; have q := OkE.at hp3 hv_impl_trianglesByEdge_1_0 g5 hv_impl_trianglesByEdge_2_0 (of_decide_eq_true (by assumption)); first | omega | (simp only [List.length_append, List.length_cons, List.length_nil]; omega) | (have q3 := mlen_leI (N := 3 * x_l0 + x_l0_1) (by omega) (by assumption) (midx r1_l1_1 (nd_impl_trianglesByEdge_0 m_0 x_l0 x_l0_1)); simp only [List.length_cons, List.length_nil]; omega)) | (have := hp3.2.1; omega) | (have q := loTE_len m_0 hp3; omega)) | (simp_all <;> omega))
   have y__1 : x_l0_1 < ((m_0.Triangles.getD x_l0.toNat default).length : Int) := (by first | assumption | omega | (first | (have g5 := of_decide_eq_true hf_impl_trianglesByEdge_2_0; have q := OkE.at hp3 hv_impl_trianglesByEdge_1_0 g5 hv_impl_trianglesByEdge_2_0 (of_decide_eq_true (by assumption)); first | omega | (simp only [List.length_append, List.length_cons, List.length_nil]; omega) | (have q3 := mlen_leI (N := 3 * x_l0 + x_l0_1) (by omega) (by assumption) (midx r1_l1_1 (nd_impl_trianglesByEdge_0 m_0 x_l0 x_l0_1)); simp only [List.length_cons, List.length_nil]; omega)) | (have := hp3.2.1; omega) | (have q := loTE_len m_0 hp3; omega)) | (simp_all <;> omega))
   have y__2 : (-9223372036854775808 : Int) ≤ (x_l0_1 + 1) := (by first | assumption | omega | (first | (have g5 := of_decide_eq_true hf_impl_trianglesByEdge_2_0; have q := OkE.at hp3 hv_impl_trianglesByEdge_1_0 g5 hv_impl_trianglesByEdge_2_0 (of_decide_eq_true (by assumption)); first | omega | (simp only [List.length_append, List.length_cons, List.length_nil]; omega) | (have q3 := mlen_leI (N := 3 * x_l0 + x_l0_1) (by omega) (by assumption) (midx r1_l1_1 (nd_impl_trianglesByEdge_0 m_0 x_l0 x_l0_1)); simp only [List.length_cons, List.length_nil]; omega)) | (have := hp3.2.1; omega) | (have q := loTE_len m_0 hp3; omega)) | (simp_all <;> omega))
   have y__3 : (x_l0_1 + 1) ≤ (9223372036854775807 : Int) := (by first | assumption | omega | (first | (have g5 := of_decide_eq_true hf_impl_trianglesByEdge_2_0; have q := OkE.at hp3 hv_impl_trianglesByEdge_1_0 g5 hv_impl_trianglesByEdge_2_0 (of_decide_eq_true (by assumption)); first | omega | (simp only [List.length_append, List.length_cons, List.length_nil]; omega) | (have q3 := mlen_leI (N := 3 * x_l0 + x_l0_1) (by omega) (by assumption) (midx r1_l1_1 (nd_impl_trianglesByEdge_0 m_0 x_l0 x_l0_1)); simp only [List.length_cons, List.length_nil]; omega)) | (have := hp3.2.1; omega) | (have q := loTE_len m_0 hp3; omega)) | (simp_all <;> omega))
   have y__4 : (0 : Int) ≤ (Int.tmod (x_l0_1 + 1) 3) := (by first | assumption | omega | (first | (have g5 := of_decide_eq_true hf_impl_trianglesByEdge_2_0; have q := OkE.at hp3 hv_impl_trianglesByEdge_1_0 g5 hv_impl_trianglesByEdge_2_0 (of_decide_eq_true (by assumption)); first | omega | (simp only [List.length_append, List.length_cons, List.length_nil]; omega) | (have q3 := mlen_leI (N := 3 * x_l0 + x_l0_1) (by omega) (by assumption) (midx r1_l1_1 (nd_impl_trianglesByEdge_0 m_0 x_l0 x_l0_1)); simp only [List.length_cons, List.length_nil]; omega)) | (have := hp3.2.1; omega) | (have q := loTE_len m_0 hp3; omega)) | (simp_all <;> omega))
   have y__5 : (Int.tmod (x_l0_1 + 1) 3) < ((m_0.Triangles.getD x_l0.toNat default).length : Int) := (by first | assumption | omega | (first | (have g5 := of_decide_eq_true hf_impl_trianglesByEdge_2_0; have q := OkE.at hp3 hv_impl_trianglesByEdge_1_0 g5 hv_impl_trianglesByEdge_2_0 (of_decide_eq_true (by assumption)); first | omega | (simp only [List.length_append, List.length_cons, List.length_nil]; omega) | (have q3 := mlen_leI (N := 3 * x_l0 + x_l0_1) (by omega) (by assumption) (midx r1_l1_1 (nd_impl_trianglesByEdge_0 m_0 x_l0 x_l0_1)); simp only [List.length_cons, List.length_nil]; omega)) | (have := hp3.2.1; omega) | (have q := loTE_len m_0 hp3; omega)) | (simp_all <;> omega))
   have p {a C} (s : Scr a C) := sB h__0 <| sK [12, 12] <| sG (cI .i64) (m_0.Triangles.getD x_l0.toNat default) x_l0_1 y__0 y__1 <| sI (x_l0_1 + 1) y__2 y__3 <| sC (show (3 : Int) ≠ 0 from (by decide)) <| sQ (Int.tmod (x_l0_1 + 1) 3) <| sG (cI .i64) (m_0.Triangles.getD x_l0.toNat default) (Int.tmod (x_l0_1 + 1) 3) y__4 y__5 <| sF (t_impl_edgeOf ((m_0.Triangles.getD x_l0.toNat default).getD x_l0_1.toNat default) ((m_0.Triangles.getD x_l0.toNat default).getD (Int.tmod (x_l0_1 + 1) 3).toNat default)) <| s
   cases h__1 : (mhas r1_l1_1 (nd_impl_trianglesByEdge_0 m_0 x_l0 x_l0_1)) with
   | true =>
    have m__16 := midx_lt h__1
    have q {a C} (s : Scr a C) := p (sA (.keep [midx r1_l1_1 (nd_impl_trianglesByEdge_0 m_0 x_l0 x_l0_1)]) <| sC (mget_ok (ck := Gedge.pr) (cv := (cI .i64)) h__1) <| sM (mget_len (ck := Gedge.pr) (cv := (cI .i64)) (l := r1_l1_1) (j := (midx r1_l1_1 (nd_impl_trianglesByEdge_0 m_0 x_l0 x_l0_1)))) <| s)
    clear p
    cases h__2 : (((r1_l1_1.getD (midx r1_l1_1 (nd_impl_trianglesByEdge_0 m_0 x_l0 x_l0_1)) default).2.length : Int) == 0) with
    | true =>
     have gh__2 := eq_of_beq h__2
     have y__6 : r2_l2_1.length + ([(nd_impl_trianglesByEdge_0 m_0 x_l0 x_l0_1)]).length ≤ 1073741824 := by clear q; exact (by first | assumption | omega | (first | (have g5 := of_decide_eq_true hf_impl_trianglesByEdge_2_0; have q := OkE.at hp3 hv_impl_trianglesByEdge_1_0 g5 hv_impl_trianglesByEdge_2_0 (of_decide_eq_true (by assumption)); first | omega | (simp only [List.length_append, List.length_cons, List.length_nil]; omega) | (have q3 := mlen_leI (N := 3 * x_l0 + x_l0_1) (by omega) (by assumption) (midx r1_l1_1 (nd_impl_trianglesByEdge_0 m_0 x_l0 x_l0_1)); simp only [List.length_cons, List.length_nil]; omega)) | (have := hp3.2.1; omega) | (have q := loTE_len m_0 hp3; omega)) | (simp_all <;> omega))
     have y__7 : (midx r1_l1_1 (nd_impl_trianglesByEdge_0 m_0 x_l0 x_l0_1)) < r1_l1_1.length := by clear q; exact (by first | assumption | omega | (first | (have g5 := of_decide_eq_true hf_impl_trianglesByEdge_2_0; have q := OkE.at hp3 hv_impl_trianglesByEdge_1_0 g5 hv_impl_trianglesByEdge_2_0 (of_decide_eq_true (by assumption)); first | omega | (simp only [List.length_append, List.length_cons, List.length_nil]; omega) | (have q3 := mlen_leI (N := 3 * x_l0 + x_l0_1) (by omega) (by assumption) (midx r1_l1_1 (nd_impl_trianglesByEdge_0 m_0 x_l0 x_l0_1)); simp only [List.length_cons, List.length_nil]; omega)) | (have := hp3.2.1; omega) | (have q := loTE_len m_0 hp3; omega)) | (simp_all <;> omega))
     have y__8 : ((r1_l1_1.getD (midx r1_l1_1 (nd_impl_trianglesByEdge_0 m_0 x_l0 x_l0_1)) default).2).length + ([x_l0]).length ≤ 1073741824 := by clear q; exact (by first | assumption | omega | (first | (have g5 := of_decide_eq_true hf_impl_trianglesByEdge_2_0; have q := OkE.at hp3 hv_impl_trianglesByEdge_1_0 g5 hv_impl_trianglesByEdge_2_0 (of_decide_eq_true (by assumption)); first | omega | (simp only [List.length_append, List.length_cons, List.length_nil]; omega) | (have q3 := mlen_leI (N := 3 * x_l0 + x_l0_1) (by omega) (by assumption) (midx r1_l1_1 (nd_impl_trianglesByEdge_0 m_0 x_l0 x_l0_1)); simp only [List.length_cons, List.length_nil]; omega)) | (have := hp3.2.1; omega) | (have q := loTE_len m_0 hp3; omega)) | (simp_all <;> omega))
     have e : lo_impl_trianglesByEdge_2 m_0 x_l0 r1_l1 r2_l2 (k + 1) x_l0_1 r1_l1_1 r2_l2_1 = (lo_impl_trianglesByEdge_2 m_0 x_l0 r1_l1 r2_l2 k (x_l0_1 + 1) (mput r1_l1_1 (midx r1_l1_1 (nd_impl_trianglesByEdge_0 m_0 x_l0 x_l0_1)) ((r1_l1_1.getD (midx r1_l1_1 (nd_impl_trianglesByEdge_0 m_0 x_l0 x_l0_1)) default).2 ++ [x_l0])) (r2_l2_1 ++ [(nd_impl_trianglesByEdge_0 m_0 x_l0 x_l0_1)])) := by simp only [lo_impl_trianglesByEdge_2, h__0, h__1, h__2, cond_true]
     rw [e]
     exact nextS E0Ok hMixed [] mk_impl_trianglesByEdge_2_0 [0, 1, 2] (⟨[.agg [.sl (m_0.Places.map GVector.cells), .sl (m_0.Triangles.map (cL (cI .i64)))], .ptr 0 0 0, .any, .nils, .mp 1, .own 2, .i .i64 x_l0, .sl ((m_0.Triangles.getD x_l0.toNat default).map (cI .i64)), .any, .any, .mp 1, .any, .ptr 0 0 1, .sl (m_0.Triangles.map (cL (cI .i64))), .i .i64 (m_0.Triangles.length : Int), .i .i64 x_l0, .b (decide (x_l0 < (m_0.Triangles.length : Int))), .i .i64 x_l0, .ref [.sl ((m_0.Triangles.getD x_l0.toNat default).map (cI .i64))] 0, .sl ((m_0.Triangles.getD x_l0.toNat default).map (cI .i64)), .i .i64 (x_l0_1 + 1), .any, .any, .any, .any, .any, .any, .any, .any, .any, .any, .any, .any, .any, .any, .any, .any, .any, .any, .any, .any, .any, .any, .any, .any, .any, .any, .any, .any, .any, .any, .any, .any, .any, .any, .any, .any], [.box 31 [.sl (m_0.Places.map GVector.cells), .sl (m_0.Triangles.map (cL (cI .i64)))], .mapN 2 (((mapC Gedge.pr (cI .i64) r1_l1_1).set (midx r1_l1_1 (nd_impl_trianglesByEdge_0 m_0 x_l0 x_l0_1)) (((mapC Gedge.pr (cI .i64) r1_l1_1).getD (midx r1_l1_1 (nd_impl_trianglesByEdge_0 m_0 x_l0 x_l0_1)) default).1, [])).set (midx r1_l1_1 (nd_impl_trianglesByEdge_0 m_0 x_l0 x_l0_1)) ((((mapC Gedge.pr (cI .i64) r1_l1_1).set (midx r1_l1_1 (nd_impl_trianglesByEdge_0 m_0 x_l0 x_l0_1)) (((mapC Gedge.pr (cI .i64) r1_l1_1).getD (midx r1_l1_1 (nd_impl_trianglesByEdge_0 m_0 x_l0 x_l0_1)) default).1, [])).getD (midx r1_l1_1 (nd_impl_trianglesByEdge_0 m_0 x_l0 x_l0_1)) default).1, (((mapC Gedge.pr (cI .i64) r1_l1_1).getD (midx r1_l1_1 (nd_impl_trianglesByEdge_0 m_0 x_l0 x_l0_1)) default).2 ++ ([x_l0].map (cI .i64))))) none, .vec 100 2 ((r2_l2_1.map Gedge.cells) ++ ([[.i .i64 ((nd_impl_trianglesByEdge_0 m_0 x_l0 x_l0_1).e0), .i .i64 ((nd_impl_trianglesByEdge_0 m_0 x_l0 x_l0_1).e1)]] : List (List AV))) false]⟩) (q (sB h__2 <| sC (show (r2_l2_1.map Gedge.cells).length + ([[.i .i64 ((nd_impl_trianglesByEdge_0 m_0 x_l0 x_l0_1).e0), .i .i64 ((nd_impl_trianglesByEdge_0 m_0 x_l0 x_l0_1).e1)]] : List (List AV)).length ≤ 1073741824 from (by simpa using y__6)) <| sA (.keep [midx r1_l1_1 (nd_impl_trianglesByEdge_0 m_0 x_l0 x_l0_1)]) <| sC (mget_ok (ck := Gedge.pr) (cv := (cI .i64)) h__1) <| sC (show (midx r1_l1_1 (nd_impl_trianglesByEdge_0 m_0 x_l0 x_l0_1)) < (mapC Gedge.pr (cI .i64) r1_l1_1).length from (by simpa using y__7)) <| sC (show (((mapC Gedge.pr (cI .i64) r1_l1_1).getD (midx r1_l1_1 (nd_impl_trianglesByEdge_0 m_0 x_l0 x_l0_1)) default).2).length + ([[.i .i64 x_l0]] : List (List AV)).length ≤ 1073741824 from (by simpa using y__8)) <| sA (.keep [(midx r1_l1_1 (nd_impl_trianglesByEdge_0 m_0 x_l0 x_l0_1))]) <| sC (show ((midx r1_l1_1 (nd_impl_trianglesByEdge_0 m_0 x_l0 x_l0_1)) : Int) = (((midx r1_l1_1 (nd_impl_trianglesByEdge_0 m_0 x_l0 x_l0_1)) : Nat) : Int) from rfl) <| sC (show (midx r1_l1_1 (nd_impl_trianglesByEdge_0 m_0 x_l0 x_l0_1)) < ((mapC Gedge.pr (cI .i64) r1_l1_1).set (midx r1_l1_1 (nd_impl_trianglesByEdge_0 m_0 x_l0 x_l0_1)) (((mapC Gedge.pr (cI .i64) r1_l1_1).getD (midx r1_l1_1 (nd_impl_trianglesByEdge_0 m_0 x_l0 x_l0_1)) default).1, [])).length from (by simpa using y__7)) <| sC (show ∀ i, some (midx r1_l1_1 (nd_impl_trianglesByEdge_0 m_0 x_l0 x_l0_1)) = some i → i = (midx r1_l1_1 (nd_impl_trianglesByEdge_0 m_0 x_l0 x_l0_1)) from (fun i h => by cases h; rfl)) <| sI (x_l0_1 + 1) y__2 y__3 <| sN)) (by kernel_rfl) (show _ = ⟨[.agg [.sl (m_0.Places.map GVector.cells), .sl (m_0.Triangles.map (cL (cI .i64)))], .ptr 0 0 0, .any, .nils, .mp 1, .own 2, .i .i64 x_l0, .sl ((m_0.Triangles.getD x_l0.toNat default).map (cI .i64)), .any, .any, .mp 1, .any, .ptr 0 0 1, .sl (m_0.Triangles.map (cL (cI .i64))), .i .i64 (m_0.Triangles.length : Int), .i .i64 x_l0, .b (decide (x_l0 < (m_0.Triangles.length : Int))), .i .i64 x_l0, .ref [.sl ((m_0.Triangles.getD x_l0.toNat default).map (cI .i64))] 0, .sl ((m_0.Triangles.getD x_l0.toNat default).map (cI .i64)), .i .i64 (x_l0_1 + 1), .any, .any, .any, .any, .any, .any, .any, .any, .any, .any, .any, .any, .any, .any, .any, .any, .any, .any, .any, .any, .any, .any, .any, .any, .any, .any, .any, .any, .any, .any, .any, .any, .any, .any, .any, .any], [.box 31 [.sl (m_0.Places.map GVector.cells), .sl (m_0.Triangles.map (cL (cI .i64)))], .mapN 2 (mapC Gedge.pr (cI .i64) (mput r1_l1_1 (midx r1_l1_1 (nd_impl_trianglesByEdge_0 m_0 x_l0 x_l0_1)) ((r1_l1_1.getD (midx r1_l1_1 (nd_impl_trianglesByEdge_0 m_0 x_l0 x_l0_1)) default).2 ++ [x_l0]))) none, .vec 100 2 ((r2_l2_1 ++ [(nd_impl_trianglesByEdge_0 m_0 x_l0 x_l0_1)]).map Gedge.cells) false]⟩ from (by first | (rw [mapC_put (midx_lt h__1)]; done) | (rw [mapC_put (midx_lt h__1)]; simp [List.map_set, Gedge.cells]))) (ih (x_l0_1 + 1) (mput r1_l1_1 (midx r1_l1_1 (nd_impl_trianglesByEdge_0 m_0 x_l0 x_l0_1)) ((r1_l1_1.getD (midx r1_l1_1 (nd_impl_trianglesByEdge_0 m_0 x_l0 x_l0_1)) default).2 ++ [x_l0])) (r2_l2_1 ++ [(nd_impl_trianglesByEdge_0 m_0 x_l0 x_l0_1)]) (show 0 ≤ (x_l0_1 + 1) from (by first | assumption | omega | exact mput_inv (by assumption) (by omega) (by omega) | exact mnew_inv (by assumption) (by omega) (by omega) | (simp only [List.length_append, List.length_cons, List.length_nil]; omega) | exact (loT_inv _ _ _ _ hv_impl_trianglesByEdge_1_0 (by assumption) (by assumption)).1 | exact (loT_inv _ _ _ _ hv_impl_trianglesByEdge_1_0 (by assumption) (by assumption)).2)) (show ((r2_l2_1 ++ [(nd_impl_trianglesByEdge_0 m_0 x_l0 x_l0_1)]).length : Int) ≤ (r2_l2.length : Int) + (x_l0_1 + 1) from (by first | assumption | omega | exact mput_inv (by assumption) (by omega) (by omega) | exact mnew_inv (by assumption) (by omega) (by omega) | (simp only [List.length_append, List.length_cons, List.length_nil]; omega) | exact (loT_inv _ _ _ _ hv_impl_trianglesByEdge_1_0 (by assumption) (by assumption)).1 | exact (loT_inv _ _ _ _ hv_impl_trianglesByEdge_1_0 (by assumption) (by assumption)).2)) (show ∀ y ∈ (mput r1_l1_1 (midx r1_l1_1 (nd_impl_trianglesByEdge_0 m_0 x_l0 x_l0_1)) ((r1_l1_1.getD (midx r1_l1_1 (nd_impl_trianglesByEdge_0 m_0 x_l0 x_l0_1)) default).2 ++ [x_l0])), (y.2.length : Int) ≤ 3 * x_l0 + (x_l0_1 + 1) from (by first | assumption | omega | exact mput_inv (by assumption) (by omega) (by omega) | exact mnew_inv (by assumption) (by omega) (by omega) | (simp only [List.length_append, List.length_cons, List.length_nil]; omega) | exact (loT_inv _ _ _ _ hv_impl_trianglesByEdge_1_0 (by assumption) (by assumption)).1 | exact (loT_inv _ _ _ _ hv_impl_trianglesByEdge_1_0 (by assumption) (by assumption)).2)) (by first | assumption | omega | (first | (have g5 := of_decide_eq_true hf_impl_trianglesByEdge_2_0; have q := OkE.at hp3 hv_impl_trianglesByEdge_1_0 g5 hv_impl_trianglesByEdge_2_0 (of_decide_eq_true (by assumption)); first | omega | (simp only [List.length_append, List.length_cons, List.length_nil]; omega) | (have q3 := mlen_leI (N := 3 * x_l0 + x_l0_1) (by omega) (by assumption) (midx r1_l1_1 (nd_impl_trianglesByEdge_0 m_0 x_l0 x_l0_1)); simp only [List.length_cons, List.length_nil]; omega)) | (have := hp3.2.1; omega) | (have q := loTE_len m_0 hp3; omega)) | (simp_all <;> omega)))
    | false =>
     have gh__2 := ne_of_beq_false h__2
     have y__6 : (midx r1_l1_1 (nd_impl_trianglesByEdge_0 m_0 x_l0 x_l0_1)) < r1_l1_1.length := by clear q; exact (by first | assumption | omega | (first | (have g5 := of_decide_eq_true hf_impl_trianglesByEdge_2_0; have q := OkE.at hp3 hv_impl_trianglesByEdge_1_0 g5 hv_impl_trianglesByEdge_2_0 (of_decide_eq_true (by assumption)); first | omega | (simp only [List.length_append, List.length_cons, List.length_nil]; omega) | (have q3 := mlen_leI (N := 3 * x_l0 + x_l0_1) (by omega) (by assumption) (midx r1_l1_1 (nd_impl_trianglesByEdge_0 m_0 x_l0 x_l0_1)); simp only [List.length_cons, List.length_nil]; omega)) | (have := hp3.2.1; omega) | (have q := loTE_len m_0 hp3; omega)) | (simp_all <;> omega))
     have y__7 : ((r1_l1_1.getD (midx r1_l1_1 (nd_impl_trianglesByEdge_0 m_0 x_l0 x_l0_1)) default).2).length + ([x_l0]).length ≤ 1073741824 := by clear q; exact (by first | assumption | omega | (first | (have g5 := of_decide_eq_true hf_impl_trianglesByEdge_2_0; have q := OkE.at hp3 hv_impl_trianglesByEdge_1_0 g5 hv_impl_trianglesByEdge_2_0 (of_decide_eq_true (by assumption)); first | omega | (simp only [List.length_append, List.length_cons, List.length_nil]; omega) | (have q3 := mlen_leI (N := 3 * x_l0 + x_l0_1) (by omega) (by assumption) (midx r1_l1_1 (nd_impl_trianglesByEdge_0 m_0 x_l0 x_l0_1)); simp only [List.length_cons, List.length_nil]; omega)) | (have := hp3.2.1; omega) | (have q := loTE_len m_0 hp3; omega)) | (simp_all <;> omega))
     have e : lo_impl_trianglesByEdge_2 m_0 x_l0 r1_l1 r2_l2 (k + 1) x_l0_1 r1_l1_1 r2_l2_1 = (lo_impl_trianglesByEdge_2 m_0 x_l0 r1_l1 r2_l2 k (x_l0_1 + 1) (mput r1_l1_1 (midx r1_l1_1 (nd_impl_trianglesByEdge_0 m_0 x_l0 x_l0_1)) ((r1_l1_1.getD (midx r1_l1_1 (nd_impl_trianglesByEdge_0 m_0 x_l0 x_l0_1)) default).2 ++ [x_l0])) r2_l2_1) := by simp only [lo_impl_trianglesByEdge_2, h__0, h__1, h__2, cond_true, cond_false]
     rw [e]
     exact nextS E0Ok hMixed [] mk_impl_trianglesByEdge_2_0 [0, 1, 2] (⟨[.agg [.sl (m_0.Places.map GVector.cells), .sl (m_0.Triangles.map (cL (cI .i64)))], .ptr 0 0 0, .any, .nils, .mp 1, .own 2, .i .i64 x_l0, .sl ((m_0.Triangles.getD x_l0.toNat default).map (cI .i64)), .any, .any, .mp 1, .any, .ptr 0 0 1, .sl (m_0.Triangles.map (cL (cI .i64))), .i .i64 (m_0.Triangles.length : Int), .i .i64 x_l0, .b (decide (x_l0 < (m_0.Triangles.length : Int))), .i .i64 x_l0, .ref [.sl ((m_0.Triangles.getD x_l0.toNat default).map (cI .i64))] 0, .sl ((m_0.Triangles.getD x_l0.toNat default).map (cI .i64)), .i .i64 (x_l0_1 + 1), .any, .any, .any, .any, .any, .any, .any, .any, .any, .any, .any, .any, .any, .any, .any, .any, .any, .any, .any, .any, .any, .any, .any, .any, .any, .any, .any, .any, .any, .any, .any, .any, .any, .any, .any, .any], [.box 31 [.sl (m_0.Places.map GVector.cells), .sl (m_0.Triangles.map (cL (cI .i64)))], .mapN 2 (((mapC Gedge.pr (cI .i64) r1_l1_1).set (midx r1_l1_1 (nd_impl_trianglesByEdge_0 m_0 x_l0 x_l0_1)) (((mapC Gedge.pr (cI .i64) r1_l1_1).getD (midx r1_l1_1 (nd_impl_trianglesByEdge_0 m_0 x_l0 x_l0_1)) default).1, [])).set (midx r1_l1_1 (nd_impl_trianglesByEdge_0 m_0 x_l0 x_l0_1)) ((((mapC Gedge.pr (cI .i64) r1_l1_1).set (midx r1_l1_1 (nd_impl_trianglesByEdge_0 m_0 x_l0 x_l0_1)) (((mapC Gedge.pr (cI .i64) r1_l1_1).getD (midx r1_l1_1 (nd_impl_trianglesByEdge_0 m_0 x_l0 x_l0_1)) default).1, [])).getD (midx r1_l1_1 (nd_impl_trianglesByEdge_0 m_0 x_l0 x_l0_1)) default).1, (((mapC Gedge.pr (cI .i64) r1_l1_1).getD (midx r1_l1_1 (nd_impl_trianglesByEdge_0 m_0 x_l0 x_l0_1)) default).2 ++ ([x_l0].map (cI .i64))))) none, .vec 100 2 (r2_l2_1.map Gedge.cells) false]⟩) (q (sB h__2 <| sA (.keep [midx r1_l1_1 (nd_impl_trianglesByEdge_0 m_0 x_l0 x_l0_1)]) <| sC (mget_ok (ck := Gedge.pr) (cv := (cI .i64)) h__1) <| sC (show (midx r1_l1_1 (nd_impl_trianglesByEdge_0 m_0 x_l0 x_l0_1)) < (mapC Gedge.pr (cI .i64) r1_l1_1).length from (by simpa using y__6)) <| sC (show (((mapC Gedge.pr (cI .i64) r1_l1_1).getD (midx r1_l1_1 (nd_impl_trianglesByEdge_0 m_0 x_l0 x_l0_1)) default).2).length + ([[.i .i64 x_l0]] : List (List AV)).length ≤ 1073741824 from (by simpa using y__7)) <| sA (.keep [(midx r1_l1_1 (nd_impl_trianglesByEdge_0 m_0 x_l0 x_l0_1))]) <| sC (show ((midx r1_l1_1 (nd_impl_trianglesByEdge_0 m_0 x_l0 x_l0_1)) : Int) = (((midx r1_l1_1 (nd_impl_trianglesByEdge_0 m_0 x_l0 x_l0_1)) : Nat) : Int) from rfl) <| sC (show (midx r1_l1_1 (nd_impl_trianglesByEdge_0 m_0 x_l0 x_l0_1)) < ((mapC Gedge.pr (cI .i64) r1_l1_1).set (midx r1_l1_1 (nd_impl_trianglesByEdge_0 m_0 x_l0 x_l0_1)) (((mapC Gedge.pr (cI .i64) r1_l1_1).getD (midx r1_l1_1 (nd_impl_trianglesByEdge_0 m_0 x_l0 x_l0_1)) default).1, [])).length from (by simpa using y__6)) <| sC (show ∀ i, some (midx r1_l1_1 (nd_impl_trianglesByEdge_0 m_0 x_l0 x_l0_1)) = some i → i = (midx r1_l1_1 (nd_impl_trianglesByEdge_0 m_0 x_l0 x_l0_1)) from (fun i h => by cases h; rfl)) <| sI (x_l0_1 + 1) y__2 y__3 <| sN)) (by kernel_rfl) (show _ = ⟨[.agg [.sl (m_0.Places.map GVector.cells), .sl (m_0.Triangles.map (cL (cI .i64)))], .ptr 0 0 0, .any, .nils, .mp 1, .own 2, .i .i64 x_l0, .sl ((m_0.Triangles.getD x_l0.toNat default).map (cI .i64)), .any, .any, .mp 1, .any, .ptr 0 0 1, .sl (m_0.Triangles.map (cL (cI .i64))), .i .i64 (m_0.Triangles.length : Int), .i .i64 x_l0, .b (decide (x_l0 < (m_0.Triangles.length : Int))), .i .i64 x_l0, .ref [.sl ((m_0.Triangles.getD x_l0.toNat default).map (cI .i64))] 0, .sl ((m_0.Triangles.getD x_l0.toNat default).map (cI .i64)), .i .i64 (x_l0_1 + 1), .any, .any, .any, .any, .any, .any, .any, .any, .any, .any, .any, .any, .any, .any, .any, .any, .any, .any, .any, .any, .any, .any, .any, .any, .any, .any, .any, .any, .any, .any, .any, .any, .any, .any, .any, .any], [.box 31 [.sl (m_0.Places.map GVector.cells), .sl (m_0.Triangles.map (cL (cI .i64)))], .mapN 2 (mapC Gedge.pr (cI .i64) (mput r1_l1_1 (midx r1_l1_1 (nd_impl_trianglesByEdge_0 m_0 x_l0 x_l0_1)) ((r1_l1_1.getD (midx r1_l1_1 (nd_impl_trianglesByEdge_0 m_0 x_l0 x_l0_1)) default).2 ++ [x_l0]))) none, .vec 100 2 (r2_l2_1.map Gedge.cells) false]⟩ from (by first | (rw [mapC_put (midx_lt h__1)]; done) | (rw [mapC_put (midx_lt h__1)]; simp [List.map_set]))) (ih (x_l0_1 + 1) (mput r1_l1_1 (midx r1_l1_1 (nd_impl_trianglesByEdge_0 m_0 x_l0 x_l0_1)) ((r1_l1_1.getD (midx r1_l1_1 (nd_impl_trianglesByEdge_0 m_0 x_l0 x_l0_1)) default).2 ++ [x_l0])) r2_l2_1 (show 0 ≤ (x_l0_1 + 1) from (by first | assumption | omega | exact mput_inv (by assumption) (by omega) (by omega) | exact mnew_inv (by assumption) (by omega) (by omega) | (simp only [List.length_append, List.length_cons, List.length_nil]; omega) | exact (loT_inv _ _ _ _ hv_impl_trianglesByEdge_1_0 (by assumption) (by assumption)).1 | exact (loT_inv _ _ _ _ hv_impl_trianglesByEdge_1_0 (by assumption) (by assumption)).2)) (show (r2_l2_1.length : Int) ≤ (r2_l2.length : Int) + (x_l0_1 + 1) from (by first | assumption | omega | exact mput_inv (by assumption) (by omega) (by omega) | exact mnew_inv (by assumption) (by omega) (by omega) | (simp only [List.length_append, List.length_cons, List.length_nil]; omega) | exact (loT_inv _ _ _ _ hv_impl_trianglesByEdge_1_0 (by assumption) (by assumption)).1 | exact (loT_inv _ _ _ _ hv_impl_trianglesByEdge_1_0 (by assumption) (by assumption)).2)) (show ∀ y ∈ (mput r1_l1_1 (midx r1_l1_1 (nd_impl_trianglesByEdge_0 m_0 x_l0 x_l0_1)) ((r1_l1_1.getD (midx r1_l1_1 (nd_impl_trianglesByEdge_0 m_0 x_l0 x_l0_1)) default).2 ++ [x_l0])), (y.2.length : Int) ≤ 3 * x_l0 + (x_l0_1 + 1) from (by first | assumption | omega | exact mput_inv (by assumption) (by omega) (by omega) | exact mnew_inv (by assumption) (by omega) (by omega) | (simp only [List.length_append, List.length_cons, List.length_nil]; omega) | exact (loT_inv _ _ _ _ hv_impl_trianglesByEdge_1_0 (by assumption) (by assumption)).1 | exact (loT_inv _ _ _ _ hv_impl_trianglesByEdge_1_0 (by assumption) (by assumption)).2)) (by first | assumption | omega | (first | (have g5 := of_decide_eq_true hf_impl_trianglesByEdge_2_0; have q := OkE.at hp3 hv_impl_trianglesByEdge_1_0 g5 hv_impl_trianglesByEdge_2_0 (of_decide_eq_true (by assumption)); first | omega | (simp only [List.length_append, List.length_cons, List.length_nil]; omega) | (have q3 := mlen_leI (N := 3 * x_l0 + x_l0_1) (by omega) (by assumption) (midx r1_l1_1 (nd_impl_trianglesByEdge_0 m_0 x_l0 x_l0_1)); simp only [List.length_cons, List.length_nil]; omega)) | (have := hp3.2.1; omega) | (have q := loTE_len m_0 hp3; omega)) | (simp_all <;> omega)))
   | false =>
    have y__6 : r2_l2_1.length + ([(nd_impl_trianglesByEdge_0 m_0 x_l0 x_l0_1)]).length ≤ 1073741824 := by clear p; exact (by first | assumption | omega | (first | (have g5 := of_decide_eq_true hf_impl_trianglesByEdge_2_0; have q := OkE.at hp3 hv_impl_trianglesByEdge_1_0 g5 hv_impl_trianglesByEdge_2_0 (of_decide_eq_true (by assumption)); first | omega | (simp only [List.length_append, List.length_cons, List.length_nil]; omega) | (have q3 := mlen_leI (N := 3 * x_l0 + x_l0_1) (by omega) (by assumption) (midx r1_l1_1 (nd_impl_trianglesByEdge_0 m_0 x_l0 x_l0_1)); simp only [List.length_cons, List.length_nil]; omega)) | (have := hp3.2.1; omega) | (have q := loTE_len m_0 hp3; omega)) | (simp_all <;> omega))
    have e : lo_impl_trianglesByEdge_2 m_0 x_l0 r1_l1 r2_l2 (k + 1) x_l0_1 r1_l1_1 r2_l2_1 = (lo_impl_trianglesByEdge_2 m_0 x_l0 r1_l1 r2_l2 k (x_l0_1 + 1) (r1_l1_1 ++ [((nd_impl_trianglesByEdge_0 m_0 x_l0 x_l0_1), [x_l0])]) (r2_l2_1 ++ [(nd_impl_trianglesByEdge_0 m_0 x_l0 x_l0_1)])) := by simp only [lo_impl_trianglesByEdge_2, h__0, h__1, cond_true, cond_false]
    rw [e]
    exact nextS E0Ok hMixed [] mk_impl_trianglesByEdge_2_0 [0, 1, 2] (⟨[.agg [.sl (m_0.Places.map GVector.cells), .sl (m_0.Triangles.map (cL (cI .i64)))], .ptr 0 0 0, .any, .nils, .mp 1, .own 2, .i .i64 x_l0, .sl ((m_0.Triangles.getD x_l0.toNat default).map (cI .i64)), .any, .any, .mp 1, .any, .ptr 0 0 1, .sl (m_0.Triangles.map (cL (cI .i64))), .i .i64 (m_0.Triangles.length : Int), .i .i64 x_l0, .b (decide (x_l0 < (m_0.Triangles.length : Int))), .i .i64 x_l0, .ref [.sl ((m_0.Triangles.getD x_l0.toNat default).map (cI .i64))] 0, .sl ((m_0.Triangles.getD x_l0.toNat default).map (cI .i64)), .i .i64 (x_l0_1 + 1), .any, .any, .any, .any, .any, .any, .any, .any, .any, .any, .any, .any, .any, .any, .any, .any, .any, .any, .any, .any, .any, .any, .any, .any, .any, .any, .any, .any, .any, .any, .any, .any, .any, .any, .any, .any], [.box 31 [.sl (m_0.Places.map GVector.cells), .sl (m_0.Triangles.map (cL (cI .i64)))], .mapN 2 (((mapC Gedge.pr (cI .i64) r1_l1_1) ++ [((Gedge.pr (nd_impl_trianglesByEdge_0 m_0 x_l0 x_l0_1)), [])]).set (mapC Gedge.pr (cI .i64) r1_l1_1).length ((((mapC Gedge.pr (cI .i64) r1_l1_1) ++ [((Gedge.pr (nd_impl_trianglesByEdge_0 m_0 x_l0 x_l0_1)), [])]).getD (mapC Gedge.pr (cI .i64) r1_l1_1).length default).1, (([x_l0]).map (cI .i64)))) none, .vec 100 2 ((r2_l2_1.map Gedge.cells) ++ ([[.i .i64 ((nd_impl_trianglesByEdge_0 m_0 x_l0 x_l0_1).e0), .i .i64 ((nd_impl_trianglesByEdge_0 m_0 x_l0 x_l0_1).e1)]] : List (List AV))) false]⟩) (p (sA (.keep []) <| sC (mnot_ok (ck := Gedge.pr) (cv := (cI .i64)) Gedge.inj h__1) <| sM (show ((0 : Nat) : Int) = 0 from rfl) <| sB (show (0 == 0) = true from rfl) <| sC (show (r2_l2_1.map Gedge.cells).length + ([[.i .i64 ((nd_impl_trianglesByEdge_0 m_0 x_l0 x_l0_1).e0), .i .i64 ((nd_impl_trianglesByEdge_0 m_0 x_l0 x_l0_1).e1)]] : List (List AV)).length ≤ 1073741824 from (by simpa using y__6)) <| sA (.keep []) <| sC (mnot_ok (ck := Gedge.pr) (cv := (cI .i64)) Gedge.inj h__1) <| sC (show ([[.i .i64 x_l0]] : List (List AV)) ≠ [] from (by simp)) <| sC (show ([[.i .i64 x_l0]] : List (List AV)).length ≤ 1073741824 from (by simp)) <| sA (.keep [(mapC Gedge.pr (cI .i64) r1_l1_1).length]) <| sC (show ((mapC Gedge.pr (cI .i64) r1_l1_1).length : Int) = (((mapC Gedge.pr (cI .i64) r1_l1_1).length : Nat) : Int) from rfl) <| sC (show (mapC Gedge.pr (cI .i64) r1_l1_1).length < ((mapC Gedge.pr (cI .i64) r1_l1_1) ++ [((Gedge.pr (nd_impl_trianglesByEdge_0 m_0 x_l0 x_l0_1)), [])]).length from (by simp)) <| sC (show ∀ i, (none : Option Nat) = some i → i = (mapC Gedge.pr (cI .i64) r1_l1_1).length from (fun i h => by cases h)) <| sI (x_l0_1 + 1) y__2 y__3 <| sN)) (by kernel_rfl) (show _ = ⟨[.agg [.sl (m_0.Places.map GVector.cells), .sl (m_0.Triangles.map (cL (cI .i64)))], .ptr 0 0 0, .any, .nils, .mp 1, .own 2, .i .i64 x_l0, .sl ((m_0.Triangles.getD x_l0.toNat default).map (cI .i64)), .any, .any, .mp 1, .any, .ptr 0 0 1, .sl (m_0.Triangles.map (cL (cI .i64))), .i .i64 (m_0.Triangles.length : Int), .i .i64 x_l0, .b (decide (x_l0 < (m_0.Triangles.length : Int))), .i .i64 x_l0, .ref [.sl ((m_0.Triangles.getD x_l0.toNat default).map (cI .i64))] 0, .sl ((m_0.Triangles.getD x_l0.toNat default).map (cI .i64)), .i .i64 (x_l0_1 + 1), .any, .any, .any, .any, .any, .any, .any, .any, .any, .any, .any, .any, .any, .any, .any, .any, .any, .any, .any, .any, .any, .any, .any, .any, .any, .any, .any, .any, .any, .any, .any, .any, .any, .any, .any, .any], [.box 31 [.sl (m_0.Places.map GVector.cells), .sl (m_0.Triangles.map (cL (cI .i64)))], .mapN 2 (mapC Gedge.pr (cI .i64) (r1_l1_1 ++ [((nd_impl_trianglesByEdge_0 m_0 x_l0 x_l0_1), [x_l0])])) none, .vec 100 2 ((r2_l2_1 ++ [(nd_impl_trianglesByEdge_0 m_0 x_l0 x_l0_1)]).map Gedge.cells) false]⟩ from (by first | (rw [mapC_new]; done) | (rw [mapC_new]; simp [List.map_set, Gedge.cells]))) (ih (x_l0_1 + 1) (r1_l1_1 ++ [((nd_impl_trianglesByEdge_0 m_0 x_l0 x_l0_1), [x_l0])]) (r2_l2_1 ++ [(nd_impl_trianglesByEdge_0 m_0 x_l0 x_l0_1)]) (show 0 ≤ (x_l0_1 + 1) from (by first | assumption | omega | exact mput_inv (by assumption) (by omega) (by omega) | exact mnew_inv (by assumption) (by omega) (by omega) | (simp only [List.length_append, List.length_cons, List.length_nil]; omega) | exact (loT_inv _ _ _ _ hv_impl_trianglesByEdge_1_0 (by assumption) (by assumption)).1 | exact (loT_inv _ _ _ _ hv_impl_trianglesByEdge_1_0 (by assumption) (by assumption)).2)) (show ((r2_l2_1 ++ [(nd_impl_trianglesByEdge_0 m_0 x_l0 x_l0_1)]).length : Int) ≤ (r2_l2.length : Int) + (x_l0_1 + 1) from (by first | assumption | omega | exact mput_inv (by assumption) (by omega) (by omega) | exact mnew_inv (by assumption) (by omega) (by omega) | (simp only [List.length_append, List.length_cons, List.length_nil]; omega) | exact (loT_inv _ _ _ _ hv_impl_trianglesByEdge_1_0 (by assumption) (by assumption)).1 | exact (loT_inv _ _ _ _ hv_impl_trianglesByEdge_1_0 (by assumption) (by assumption)).2)) (show ∀ y ∈ (r1_l1_1 ++ [((nd_impl_trianglesByEdge_0 m_0 x_l0 x_l0_1), [x_l0])]), (y.2.length : Int) ≤ 3 * x_l0 + (x_l0_1 + 1) from (by first | assumption | omega | exact mput_inv (by assumption) (by omega) (by omega) | exact mnew_inv (by assumption) (by omega) (by omega) | (simp only [List.length_append, List.length_cons, List.length_nil]; omega) | exact (loT_inv _ _ _ _ hv_impl_trianglesByEdge_1_0 (by assumption) (by assumption)).1 | exact (loT_inv _ _ _ _ hv_impl_trianglesByEdge_1_0 (by assumption) (by assumption)).2)) (by first | assumption | omega | (first | (have g5 := of_decide_eq_true hf_impl_trianglesByEdge_2_0; have q := OkE.at hp3 hv_impl_trianglesByEdge_1_0 g5 hv_impl_trianglesByEdge_2_0 (of_decide_eq_true (by assumption)); first | omega | (simp only [List.length_append, List.length_cons, List.length_nil]; omega) | (have q3 := mlen_leI (N := 3 * x_l0 + x_l0_1) (by omega) (by assumption) (midx r1_l1_1 (nd_impl_trianglesByEdge_0 m_0 x_l0 x_l0_1)); simp only [List.length_cons, List.length_nil]; omega)) | (have := hp3.2.1; omega) | (have q := loTE_len m_0 hp3; omega)) | (simp_all <;> omega)))
  | false =>
   have gh__0 := of_decide_eq_false h__0
   have e : lo_impl_trianglesByEdge_2 m_0 x_l0 r1_l1 r2_l2 (k + 1) x_l0_1 r1_l1_1 r2_l2_1 = (r1_l1_1, r2_l2_1) := by simp only [lo_impl_trianglesByEdge_2, h__0, cond_false]
   rw [e]
   exact outR (e := (.exit 2)) E0Ok hMixed [] mk_impl_trianglesByEdge_2_1 [0, 1, 2] (sB h__0 <| sN) (by kernel_rfl) (by intro h; cases h)

def lr_impl_trianglesByEdge_2_0 (m_0 : GMesh) (x_l0 : Int) (r1_l1 : (List (Gedge × List Int))) (r2_l2 : (List Gedge)) : (List (Gedge × List Int)) × (List Gedge) := (lo_impl_trianglesByEdge_2 m_0 x_l0 r1_l1 r2_l2 (((3 : Int) - 0).toNat + 1) 0 r1_l1 r2_l2)

theorem loT2_inv (m : GMesh) (i : Int) (b0 : List (Gedge × List Int)) (l0 : List Gedge) (h0 : 0 ≤ i) : ∀ (k : Nat) (x : Int) (b : List (Gedge × List Int)) (l : List Gedge), 0 ≤ x → (3 - x).toNat < k → x ≤ 3 → (l.length : Int) ≤ 3 * i + x → (∀ y ∈ b, (y.2.length : Int) ≤ 3 * i + x) → ((lo_impl_trianglesByEdge_2 m i b0 l0 k x b l).2.length : Int) ≤ 3 * (i + 1) ∧ ∀ y ∈ (lo_impl_trianglesByEdge_2 m i b0 l0 k x b l).1, (y.2.length : Int) ≤ 3 * (i + 1) := by
  intro k
  induction k with
  | zero => intro x b l _ hk; exact absurd hk (Nat.not_lt_zero _)
  | succ k ih =>
    intro x b l hx hk h3 hl hb
    rw [lo_impl_trianglesByEdge_2]
    cases hc : decide (x < 3) with
    | false => rw [cond_false]; exact ⟨by simp only; omega, fun y hy => by have := hb y hy; omega⟩
    | true =>
      have hc' := of_decide_eq_true hc
      rw [cond_true]
      cases mhas b (nd_impl_trianglesByEdge_0 m i x) with
      | true =>
        rw [cond_true]
        cases (((b.getD (midx b (nd_impl_trianglesByEdge_0 m i x)) default).2.length : Int) == 0) with
        | true => rw [cond_true]; exact ih _ _ _ (by omega) (by omega) (by omega) (by simp only [List.length_append, List.length_cons, List.length_nil]; omega) (mput_inv hb (by omega) (by omega))
        | false => rw [cond_false]; exact ih _ _ _ (by omega) (by omega) (by omega) (by omega) (mput_inv hb (by omega) (by omega))
      | false => rw [cond_false]; exact ih _ _ _ (by omega) (by omega) (by omega) (by simp only [List.length_append, List.length_cons, List.length_nil]; omega) (mnew_inv hb (by omega) (by omega))
theorem loT_inv (m : GMesh) (i : Int) (b : List (Gedge × List Int)) (l : List Gedge) (h0 : 0 ≤ i) (hl : (l.length : Int) ≤ 3 * i) (hb : ∀ y ∈ b, (y.2.length : Int) ≤ 3 * i) :
    ((lr_impl_trianglesByEdge_2_0 m i b l).2.length : Int) ≤ 3 * (i + 1) ∧ ∀ y ∈ (lr_impl_trianglesByEdge_2_0 m i b l).1, (y.2.length : Int) ≤ 3 * (i + 1) :=
  loT2_inv m i b l h0 _ 0 b l (Int.le_refl 0) (by omega) (by omega) (by omega) (fun y hy => by have := hb y hy; omega)

def lo_impl_trianglesByEdge_1 (m_0 : GMesh) : Nat → Int → (List (Gedge × List Int)) → (List Gedge) → (List (Gedge × List Int)) × (List Gedge)
  | 0, _, _, _ => default
  | k + 1, x_l0, r1_l1, r2_l2 => (cond (decide (x_l0 < (m_0.Triangles.length : Int)))
    (lo_impl_trianglesByEdge_1 m_0 k (x_l0 + 1) ((lr_impl_trianglesByEdge_2_0 m_0 x_l0 r1_l1 r2_l2).1) ((lr_impl_trianglesByEdge_2_0 m_0 x_l0 r1_l1 r2_l2).2))
    (r1_l1, r2_l2))

def ls_impl_trianglesByEdge_1 (m_0 : GMesh) (r : (List (Gedge × List Int)) × (List Gedge)) : Ex × St := ((.exit 0), ⟨[.agg [.sl (m_0.Places.map GVector.cells), .sl (m_0.Triangles.map (cL (cI .i64)))], .ptr 0 0 0, .any, .nils, .mp 1, .own 2, .any, .any, .any, .any, .mp 1, .any, .ptr 0 0 1, .sl (m_0.Triangles.map (cL (cI .i64))), .any, .any, .any, .any, .any, .any, .any, .any, .any, .any, .any, .any, .any, .any, .any, .any, .any, .any, .any, .any, .any, .any, .any, .any, .any, .any, .any, .any, .any, .any, .any, .any, .any, .any, .any, .any, .any, .any, .any, .any, .any, .any, .any], [.box 31 [.sl (m_0.Places.map GVector.cells), .sl (m_0.Triangles.map (cL (cI .i64)))], .mapN 2 (mapC Gedge.pr (cI .i64) r.1) none, .vec 100 2 (r.2.map Gedge.cells) false]⟩)

def hd_impl_trianglesByEdge_1 (m_0 : GMesh) (x_l0 : Int) (r1_l1 : (List (Gedge × List Int))) (r2_l2 : (List Gedge)) : St := ⟨[.agg [.sl (m_0.Places.map GVector.cells), .sl (m_0.Triangles.map (cL (cI .i64)))], .ptr 0 0 0, .any, .nils, .mp 1, .own 2, .any, .any, .any, .any, .mp 1, .any, .ptr 0 0 1, .sl (m_0.Triangles.map (cL (cI .i64))), .i .i64 (m_0.Triangles.length : Int), .i .i64 x_l0, .any, .any, .any, .any, .any, .any, .any, .any, .any, .any, .any, .any, .any, .any, .any, .any, .any, .any, .any, .any, .any, .any, .any, .any, .any, .any, .any, .any, .any, .any, .any, .any, .any, .any, .any, .any, .any, .any, .any, .any, .any], [.box 31 [.sl (m_0.Places.map GVector.cells), .sl (m_0.Triangles.map (cL (cI .i64)))], .mapN 2 (mapC Gedge.pr (cI .i64) r1_l1) none, .vec 100 2 (r2_l2.map Gedge.cells) false]⟩

def mk_impl_trianglesByEdge_1_0 : List Bool := [true, true, false, true, true, true, false, false, false, false, true, false, true, true, true, true, false, false, false, false, false, false, false, false, false, false, false, false, false, false, false, false, false, false, false, false, false, false, false, false, false, false, false, false, false, false, false, false, false, false, false, false, false, false, false, false, false]

def mk_impl_trianglesByEdge_1_1 : List Bool := [true, true, false, true, true, true, false, false, false, false, true, false, true, true, false, false, false, false, false, false, false, false, false, false, false, false, false, false, false, false, false, false, false, false, false, false, false, false, false, false, false, false, false, false, false, false, false, false, false, false, false, false, false, false, false, false, false]

theorem lp_impl_trianglesByEdge_1 (m_0 : GMesh) (hp0 : m_0.Places.length ≤ 1073741824) (hp1 : m_0.Triangles.length ≤ 1073741824) (hp2 : ∀ t ∈ m_0.Triangles, t.length ≤ 1073741824) (hp3 : OkE m_0.Places.length m_0.Triangles) : ∀ (k : Nat) (x_l0 : Int) (r1_l1 : (List (Gedge × List Int))) (r2_l2 : (List Gedge)) (hv_impl_trianglesByEdge_1_0 : 0 ≤ x_l0) (hv_impl_trianglesByEdge_1_1 : (r2_l2.length : Int) ≤ 3 * x_l0) (hv_impl_trianglesByEdge_1_2 : ∀ y ∈ r1_l1, (y.2.length : Int) ≤ 3 * x_l0) (hk : ((m_0.Triangles.length : Int) - x_l0).toNat < k), Lp prog 0 (sub (bodyOf f66) [1, 1, 0, 1, 0, 0]) (hd_impl_trianglesByEdge_1 m_0 x_l0 r1_l1 r2_l2) (ls_impl_trianglesByEdge_1 m_0 (lo_impl_trianglesByEdge_1 m_0 k x_l0 r1_l1 r2_l2)).1 (ls_impl_trianglesByEdge_1 m_0 (lo_impl_trianglesByEdge_1 m_0 k x_l0 r1_l1 r2_l2)).2 := by
 intro k
 induction k with
 | zero => intro x_l0 r1_l1 r2_l2 hv_impl_trianglesByEdge_1_0 hv_impl_trianglesByEdge_1_1 hv_impl_trianglesByEdge_1_2 hk; exact absurd hk (Nat.not_lt_zero _)
 | succ k ih =>
  intro x_l0 r1_l1 r2_l2 hv_impl_trianglesByEdge_1_0 hv_impl_trianglesByEdge_1_1 hv_impl_trianglesByEdge_1_2 hk
  cases h_0 : (decide (x_l0 < (m_0.Triangles.length : Int))) with
  | true =>
   have gh_0 := of_decide_eq_true h_0
   have y_0 : (0 : Int) ≤ x_l0 := (by first | assumption | omega | (first | (have g5 := of_decide_eq_true hf_impl_trianglesByEdge_2_0; have q := OkE.at hp3 hv_impl_trianglesByEdge_1_0 g5 hv_impl_trianglesByEdge_2_0 (of_decide_eq_true (by assumption)); first | omega | (simp only [List.length_append, List.length_cons, List.length_nil]; omega) | (have q3 := mlen_leI (N := 3 * x_l0 + x_l0_1) (by omega) (by assumption) (midx r1_l1_1 (nd_impl_trianglesByEdge_0 m_0 x_l0 x_l0_1)); simp only [List.length_cons, List.length_nil]; omega)) | (have := hp3.2.1; omega) | (have q := loTE_len m_0 hp3; omega)) | (simp_all <;> omega))
   have y_1 : x_l0 < (m_0.Triangles.length : Int) := (by first | assumption | omega | (first | (have g5 := of_decide_eq_true hf_impl_trianglesByEdge_2_0; have q := OkE.at hp3 hv_impl_trianglesByEdge_1_0 g5 hv_impl_trianglesByEdge_2_0 (of_decide_eq_true (by assumption)); first | omega | (simp only [List.length_append, List.length_cons, List.length_nil]; omega) | (have q3 := mlen_leI (N := 3 * x_l0 + x_l0_1) (by omega) (by assumption) (midx r1_l1_1 (nd_impl_trianglesByEdge_0 m_0 x_l0 x_l0_1)); simp only [List.length_cons, List.length_nil]; omega)) | (have := hp3.2.1; omega) | (have q := loTE_len m_0 hp3; omega)) | (simp_all <;> omega))
   have y_2 : (-9223372036854775808 : Int) ≤ (x_l0 + 1) := (by first | assumption | omega | (first | (have g5 := of_decide_eq_true hf_impl_trianglesByEdge_2_0; have q := OkE.at hp3 hv_impl_trianglesByEdge_1_0 g5 hv_impl_trianglesByEdge_2_0 (of_decide_eq_true (by assumption)); first | omega | (simp only [List.length_append, List.length_cons, List.length_nil]; omega) | (have q3 := mlen_leI (N := 3 * x_l0 + x_l0_1) (by omega) (by assumption) (midx r1_l1_1 (nd_impl_trianglesByEdge_0 m_0 x_l0 x_l0_1)); simp only [List.length_cons, List.length_nil]; omega)) | (have := hp3.2.1; omega) | (have q := loTE_len m_0 hp3; omega)) | (simp_all <;> omega))
   have y_3 : (x_l0 + 1) ≤ (9223372036854775807 : Int) := (by first | assumption | omega | (first | (have g5 := of_decide_eq_true hf_impl_trianglesByEdge_2_0; have q := OkE.at hp3 hv_impl_trianglesByEdge_1_0 g5 hv_impl_trianglesByEdge_2_0 (of_decide_eq_true (by assumption)); first | omega | (simp only [List.length_append, List.length_cons, List.length_nil]; omega) | (have q3 := mlen_leI (N := 3 * x_l0 + x_l0_1) (by omega) (by assumption) (midx r1_l1_1 (nd_impl_trianglesByEdge_0 m_0 x_l0 x_l0_1)); simp only [List.length_cons, List.length_nil]; omega)) | (have := hp3.2.1; omega) | (have q := loTE_len m_0 hp3; omega)) | (simp_all <;> omega))
   have e : lo_impl_trianglesByEdge_1 m_0 (k + 1) x_l0 r1_l1 r2_l2 = (lo_impl_trianglesByEdge_1 m_0 k (x_l0 + 1) ((lr_impl_trianglesByEdge_2_0 m_0 x_l0 r1_l1 r2_l2).1) ((lr_impl_trianglesByEdge_2_0 m_0 x_l0 r1_l1 r2_l2).2)) := by simp only [lo_impl_trianglesByEdge_1, h_0, cond_true]
   rw [e]
   exact nextR E0Ok hMixed [] mk_impl_trianglesByEdge_1_0 [0, 1, 2] (ih (x_l0 + 1) ((lr_impl_trianglesByEdge_2_0 m_0 x_l0 r1_l1 r2_l2).1) ((lr_impl_trianglesByEdge_2_0 m_0 x_l0 r1_l1 r2_l2).2) (show 0 ≤ (x_l0 + 1) from (by first | assumption | omega | exact mput_inv (by assumption) (by omega) (by omega) | exact mnew_inv (by assumption) (by omega) (by omega) | (simp only [List.length_append, List.length_cons, List.length_nil]; omega) | exact (loT_inv _ _ _ _ hv_impl_trianglesByEdge_1_0 (by assumption) (by assumption)).1 | exact (loT_inv _ _ _ _ hv_impl_trianglesByEdge_1_0 (by assumption) (by assumption)).2)) (show (((lr_impl_trianglesByEdge_2_0 m_0 x_l0 r1_l1 r2_l2).2).length : Int) ≤ 3 * (x_l0 + 1) from (by first | assumption | omega | exact mput_inv (by assumption) (by omega) (by omega) | exact mnew_inv (by assumption) (by omega) (by omega) | (simp only [List.length_append, List.length_cons, List.length_nil]; omega) | exact (loT_inv _ _ _ _ hv_impl_trianglesByEdge_1_0 (by assumption) (by assumption)).1 | exact (loT_inv _ _ _ _ hv_impl_trianglesByEdge_1_0 (by assumption) (by assumption)).2)) (show ∀ y ∈ ((lr_impl_trianglesByEdge_2_0 m_0 x_l0 r1_l1 r2_l2).1), (y.2.length : Int) ≤ 3 * (x_l0 + 1) from (by first | assumption | omega | exact mput_inv (by assumption) (by omega) (by omega) | exact mnew_inv (by assumption) (by omega) (by omega) | (simp only [List.length_append, List.length_cons, List.length_nil]; omega) | exact (loT_inv _ _ _ _ hv_impl_trianglesByEdge_1_0 (by assumption) (by assumption)).1 | exact (loT_inv _ _ _ _ hv_impl_trianglesByEdge_1_0 (by assumption) (by assumption)).2)) (by first | assumption | omega | (first | (have g5 := of_decide_eq_true hf_impl_trianglesByEdge_2_0; have q := OkE.at hp3 hv_impl_trianglesByEdge_1_0 g5 hv_impl_trianglesByEdge_2_0 (of_decide_eq_true (by assumption)); first | omega | (simp only [List.length_append, List.length_cons, List.length_nil]; omega) | (have q3 := mlen_leI (N := 3 * x_l0 + x_l0_1) (by omega) (by assumption) (midx r1_l1_1 (nd_impl_trianglesByEdge_0 m_0 x_l0 x_l0_1)); simp only [List.length_cons, List.length_nil]; omega)) | (have := hp3.2.1; omega) | (have q := loTE_len m_0 hp3; omega)) | (simp_all <;> omega))) (sB h_0 <| sG (cL (cI .i64)) m_0.Triangles x_l0 y_0 y_1 <| sL mk_impl_trianglesByEdge_2_0 3 (lp_val (ls_impl_trianglesByEdge_2 m_0 x_l0 r1_l1 r2_l2) (x := (lr_impl_trianglesByEdge_2_0 m_0 x_l0 r1_l1 r2_l2)) (lp_impl_trianglesByEdge_2 m_0 x_l0 r1_l1 r2_l2 hp0 hp1 hp2 hp3 hv_impl_trianglesByEdge_1_0 hv_impl_trianglesByEdge_1_1 hv_impl_trianglesByEdge_1_2 h_0 (((3 : Int) - 0).toNat + 1) 0 r1_l1 r2_l2 (show 0 ≤ 0 from (by first | omega | (simp; done) | (intro y hy; have q := hv_impl_trianglesByEdge_1_2 y hy; omega))) (show (r2_l2.length : Int) ≤ (r2_l2.length : Int) + 0 from (by first | omega | (simp; done) | (intro y hy; have q := hv_impl_trianglesByEdge_1_2 y hy; omega))) (show ∀ y ∈ r1_l1, (y.2.length : Int) ≤ 3 * x_l0 + 0 from (by first | omega | (simp; done) | (intro y hy; have q := hv_impl_trianglesByEdge_1_2 y hy; omega))) (Nat.lt_succ_self _)) rfl) <| sI (x_l0 + 1) y_2 y_3 <| sN) (by kernel_rfl)
  | false =>
   have gh_0 := of_decide_eq_false h_0
   have e : lo_impl_trianglesByEdge_1 m_0 (k + 1) x_l0 r1_l1 r2_l2 = (r1_l1, r2_l2) := by simp only [lo_impl_trianglesByEdge_1, h_0, cond_false]
   rw [e]
   exact outR (e := (.exit 0)) E0Ok hMixed [] mk_impl_trianglesByEdge_1_1 [0, 1, 2] (sB h_0 <| sN) (by kernel_rfl) (by intro h; cases h)

def lr_impl_trianglesByEdge_1_1 (m_0 : GMesh) : (List (Gedge × List Int)) × (List Gedge) := (lo_impl_trianglesByEdge_1 m_0 (((m_0.Triangles.length : Int) - 0).toNat + 1) 0 ([] : (List (Gedge × List Int))) ([] : List Gedge))

theorem loT1_st (m : GMesh) (k : Nat) (i : Int) (b : List (Gedge × List Int)) (l : List Gedge) (h0 : 0 ≤ i) : lo_impl_trianglesByEdge_1 m (k + 1) i b l = cond (decide (i < (m.Triangles.length : Int))) (lo_impl_trianglesByEdge_1 m k (i + 1) (stT (b, l) (m.Triangles.getD i.toNat default) i).1 (stT (b, l) (m.Triangles.getD i.toNat default) i).2) (b, l) := by
  have st : ∀ (x : Int) (k : Nat) (b : List (Gedge × List Int)) (l : List Gedge), x < 3 → lo_impl_trianglesByEdge_2 m i b l (k + 1) x b l = lo_impl_trianglesByEdge_2 m i b l (k + 1) x b l := fun _ _ _ _ _ => rfl
  have one : ∀ (b0 : List (Gedge × List Int)) (l0 : List Gedge) (k : Nat) (x : Int) (s : List (Gedge × List Int) × List Gedge), x < 3 → lo_impl_trianglesByEdge_2 m i b0 l0 (k + 1) x s.1 s.2 = lo_impl_trianglesByEdge_2 m i b0 l0 k (x + 1) (stE s (nd_impl_trianglesByEdge_0 m i x) i).1 (stE s (nd_impl_trianglesByEdge_0 m i x) i).2 := by
    intro b0 l0 k x s hx
    rw [lo_impl_trianglesByEdge_2, decide_eq_true hx, cond_true]
    unfold stE
    cases mhas s.1 (nd_impl_trianglesByEdge_0 m i x) with
    | true =>
      rw [cond_true, cond_true]
      cases (((s.1.getD (midx s.1 (nd_impl_trianglesByEdge_0 m i x)) default).2.length : Int) == 0) <;> rfl
    | false => rfl
  have tri : lr_impl_trianglesByEdge_2_0 m i b l = stT (b, l) (m.Triangles.getD i.toNat default) i := by
    unfold lr_impl_trianglesByEdge_2_0
    show lo_impl_trianglesByEdge_2 m i b l 4 0 (b, l).1 (b, l).2 = _
    rw [one b l 3 0 (b, l) (by omega), one b l 2 (0 + 1) _ (by omega), one b l 1 (0 + 1 + 1) _ (by omega), lo_impl_trianglesByEdge_2]
    show cond (decide ((3 : Int) < 3)) _ _ = _
    rw [decide_eq_false (by omega), cond_false]
    unfold nd_impl_trianglesByEdge_0 stT
    simp only [edgeOf_eq]
    rfl
  rw [lo_impl_trianglesByEdge_1, tri]
theorem etab_is (m : GMesh) (ok : OkE m.Places.length m.Triangles) : ETab m.Triangles m.Triangles.length (lr_impl_trianglesByEdge_1_1 m) := by
  unfold lr_impl_trianglesByEdge_1_1
  exact ETab.loop ok (loT1_st m) _ 0 ([], []) (Nat.zero_le _) (ETab.nil _) (by omega)
theorem loTE_len (m : GMesh) (ok : OkE m.Places.length m.Triangles) : (lr_impl_trianglesByEdge_1_1 m).2.length ≤ 4096 := by
  have h := congrArg List.length ((etab_is m ok).sorted ok)
  rw [length_sortE] at h
  rw [h]; exact edgL_len ok

end Go.Ab
namespace Go.Proofs
open Go.Shelf
def Try.laysF0n6_ren : Go.Shelf.Ren := ⟨fun | 6 => 114 | 15 => 128 | 14 => 140 | 28 => 154 | 29 => 155 | 20 => 158 | 21 => 159 | 22 => 160 | 23 => 161 | 24 => 162 | 25 => 163 | 26 => 164 | 27 => 165 | 46 => 174 | 47 => 169 | 48 => 170 | 49 => 175 | 50 => 176 | 57 => 178 | n => n, fun | 22 => 95 | 24 => 100 | 25 => 144 | 3 => 3 | 39 => 153 | 0 => 0 | 53 => 177 | 55 => 179 | 4 => 4 | 46 => 169 | 45 => 168 | 50 => 174 | 5 => 5 | 9 => 9 | 66 => 186 | 70 => 190 | 76 => 195 | 77 => 196 | n => n, fun | n => n⟩
theorem Try.laysF0n6 : Go.Proofs.SlLaysF0.n6 Try.prog Try.laysF0n6_ren := {
  mixed := by kernel_rfl
  f6 := ⟨Try.f114.name, by decide, Try.func114.trans (congrArg some (by kernel_rfl))⟩
  f14 := ⟨Try.f140.name, by decide, Try.func140.trans (congrArg some (by kernel_rfl))⟩
  f15 := Try.func128.trans (congrArg some (by kernel_rfl))
  f20 := ⟨Try.f158.name, by decide, Try.func158.trans (congrArg some (by kernel_rfl))⟩
  f21 := ⟨Try.f159.name, by decide, Try.func159.trans (congrArg some (by kernel_rfl))⟩
  f22 := ⟨Try.f160.name, by decide, Try.func160.trans (congrArg some (by kernel_rfl))⟩
  f23 := ⟨Try.f161.name, by decide, Try.func161.trans (congrArg some (by kernel_rfl))⟩
  f24 := ⟨Try.f162.name, by decide, Try.func162.trans (congrArg some (by kernel_rfl))⟩
  f25 := ⟨Try.f163.name, by decide, Try.func163.trans (congrArg some (by kernel_rfl))⟩
  f26 := ⟨Try.f164.name, by decide, Try.func164.trans (congrArg some (by kernel_rfl))⟩
  f27 := ⟨Try.f165.name, by decide, Try.func165.trans (congrArg some (by kernel_rfl))⟩
  f28 := Try.func154.trans (congrArg some (by kernel_rfl))
  f29 := Try.func155.trans (congrArg some (by kernel_rfl))
  f46 := ⟨Try.f174.name, by decide, Try.func174.trans (congrArg some (by kernel_rfl))⟩
  f47 := Try.func169.trans (congrArg some (by kernel_rfl))
  f48 := Try.func170.trans (congrArg some (by kernel_rfl))
  f49 := ⟨Try.f175.name, by decide, Try.func175.trans (congrArg some (by kernel_rfl))⟩
  f50 := ⟨Try.f176.name, by decide, Try.func176.trans (congrArg some (by kernel_rfl))⟩
  f57 := ⟨Try.f178.name, by decide, Try.func178.trans (congrArg some (by kernel_rfl))⟩
  t0 := Try.underlying0
  a0 := Try.isAgg0
  z0 := Try.sizeOf0
  v0 := Try.zeroValue0
  t3 := Try.underlying3
  a3 := Try.isAgg3
  z3 := Try.sizeOf3
  v3 := Try.zeroValue3
  t4 := Try.underlying4
  a4 := Try.isAgg4
  z4 := Try.sizeOf4
  v4 := Try.zeroValue4
  t5 := Try.underlying5
  a5 := Try.isAgg5
  z5 := Try.sizeOf5
  v5 := Try.zeroValue5
  t9 := Try.underlying9
  a9 := Try.isAgg9
  z9 := Try.sizeOf9
  v9 := Try.zeroValue9
  t22 := Try.underlying95
  a22 := Try.isAgg95
  z22 := Try.sizeOf95
  v22 := Try.zeroValue95
  t25 := Try.underlying144
  a25 := Try.isAgg144
  z25 := Try.sizeOf144
  v25 := Try.zeroValue144
  t39 := Try.underlying153
  a39 := Try.isAgg153
  z39 := Try.sizeOf153
  v39 := Try.zeroValue153
  t45 := Try.underlying168
  a45 := Try.isAgg168
  z45 := Try.sizeOf168
  v45 := Try.zeroValue168
  t46 := Try.underlying169
  a46 := Try.isAgg169
  z46 := Try.sizeOf169
  v46 := Try.zeroValue169
  t50 := Try.underlying174
  a50 := Try.isAgg174
  z50 := Try.sizeOf174
  v50 := Try.zeroValue174
  t53 := Try.underlying177
  a53 := Try.isAgg177
  z53 := Try.sizeOf177
  v53 := Try.zeroValue177
  t55 := Try.underlying179
  a55 := Try.isAgg179
  z55 := Try.sizeOf179
  v55 := Try.zeroValue179
  t66 := Try.underlying186
  a66 := Try.isAgg186
  z66 := Try.sizeOf186
  v66 := Try.zeroValue186
  t70 := Try.underlying190
  a70 := Try.isAgg190
  z70 := Try.sizeOf190
  v70 := Try.zeroValue190
  t76 := Try.underlying195
  a76 := Try.isAgg195
  z76 := Try.sizeOf195
  v76 := Try.zeroValue195
  t77 := Try.underlying196
  a77 := Try.isAgg196
  z77 := Try.sizeOf196
  v77 := Try.zeroValue196 }
end Go.Proofs
namespace Go.Ab
open Go.RowKit Go.Proofs.Try

theorem v_cmpC (x y : Int) : v_cmp_Compare_int64_ x y = if x < y then -1 else if x > y then 1 else 0 := by
  unfold v_cmp_Compare_int64_ v_cmp_isNaN_int64_
  simp only [bne_self_eq_false, cond_false]
  by_cases h1 : x < y
  · simp [h1]
  · by_cases h2 : x > y <;> simp [h1, h2]

theorem v_cmpE (a b : Gedge) : v_impl_compareEdges a b = cmpP a.pr b.pr := by
  unfold v_impl_compareEdges v_slices_Compare___int64_int64_ lr_slices_Compare___int64_int64__1_0 cmpP Gedge.pr
  show (match lo_slices_Compare___int64_int64__1 [a.e0, a.e1] [b.e0, b.e1] 3 0 with | .inl r1 => r1 | .inr r1 => cond (decide (((2 : Nat) : Int) < ((2 : Nat) : Int))) (-1) 0) = _
  simp only [lo_slices_Compare___int64_int64__1, v_cmpC, List.length_cons, List.length_nil]
  by_cases h1 : a.e0 < b.e0
  · simp [h1]
  · by_cases h2 : a.e0 > b.e0
    · simp [h1, h2]
    · by_cases h3 : a.e1 < b.e1
      · simp [h1, h2, h3]
      · by_cases h4 : a.e1 > b.e1 <;> simp [h1, h2, h3, h4]

def sort_impl_compareEdges (l : List Gedge) : List Gedge := sortE Gedge.pr l

theorem t_sort_impl_compareEdges (l : List Gedge) (h : l.length ≤ 1073741824) : CallSt prog 114 [.vec 100 2 (l.map Gedge.cells) false] [.own 0, .fn 115 []] (.tup []) [.vec 100 2 ((sort_impl_compareEdges l).map Gedge.cells) false] :=
  sort_row laysF0n6 isAgg100 sizeOf100 Gedge.pr Gedge.inj Gedge.cells (fun _ => rfl) 100 115 ⟨_, func114, rfl, by kernel_rfl⟩ (t_impl_compareEdges default default).1
    (fun a b W => ((t_impl_compareEdges a b).2 W #[keyV a.pr, keyV b.pr] ⟨rfl, fun j c e => by match j, e with | 0, e => cases e; exact Rep.agg _ _ rfl (fun i c e => by match i, e with | 0, e => cases e; exact .i _ _ | 1, e => cases e; exact .i _ _) | 1, e => cases e; exact Rep.agg _ _ rfl (fun i c e => by match i, e with | 0, e => cases e; exact .i _ _ | 1, e => cases e; exact .i _ _)⟩).mono fun e w' ⟨v, μ', he, hb, _, hr⟩ => by
      cases hr; rw [v_cmpE] at he; exact ⟨he, hb⟩) l h

def v_impl_trianglesByEdge (m_0 : GMesh) : (List (Gedge × List Int)) × (List Gedge) := ((lr_impl_trianglesByEdge_1_1 m_0).1, (sort_impl_compareEdges ((lr_impl_trianglesByEdge_1_1 m_0).2)))

theorem edges_eq (m : GMesh) (ok : OkE m.Places.length m.Triangles) : (v_impl_trianglesByEdge m).2 = edgL m.Places.length m.Triangles := (etab_is m ok).sorted ok
theorem edges_at (m : GMesh) (ok : OkE m.Places.length m.Triangles) {e : Gedge} (he : e ∈ (v_impl_trianglesByEdge m).2) : mhas (v_impl_trianglesByEdge m).1 e = true ∧ ((v_impl_trianglesByEdge m).1.getD (midx (v_impl_trianglesByEdge m).1 e) default).2 = idxP m.Triangles e.e0 e.e1 := by
  rw [edges_eq m ok] at he
  have h := (etab_is m ok).at ok he
  exact ⟨h.1, h.2.trans (idxE_eq ok (mem_edgL.1 he).1.2.1)⟩
theorem edges_len (m : GMesh) (ok : OkE m.Places.length m.Triangles) : (v_impl_trianglesByEdge m).2.length ≤ 4096 := by
  rw [edges_eq m ok]; exact edgL_len ok
theorem edges_mem (m : GMesh) (ok : OkE m.Places.length m.Triangles) {i : Int} (h0 : 0 ≤ i) (hi : i < ((v_impl_trianglesByEdge m).2.length : Int)) : (v_impl_trianglesByEdge m).2.getD i.toNat default ∈ (v_impl_trianglesByEdge m).2 := by
  have hn : i.toNat < (v_impl_trianglesByEdge m).2.length := by omega
  rw [List.getD_eq_getElem?_getD, List.getElem?_eq_getElem hn]; exact List.getElem_mem hn
theorem edges_nth (m : GMesh) (ok : OkE m.Places.length m.Triangles) {i : Int} (h0 : 0 ≤ i) (hi : i < ((v_impl_trianglesByEdge m).2.length : Int)) :
    0 ≤ ((v_impl_trianglesByEdge m).2.getD i.toNat default).e0 ∧ ((v_impl_trianglesByEdge m).2.getD i.toNat default).e0 < ((v_impl_trianglesByEdge m).2.getD i.toNat default).e1 ∧ ((v_impl_trianglesByEdge m).2.getD i.toNat default).e1 < (m.Places.length : Int) ∧ (m.Places.length : Int) ≤ 64 ∧ ((v_impl_trianglesByEdge m).2.length : Int) ≤ 4096 := by
  have hl := edges_len m ok
  have h64 := ok.1
  have hm := edges_mem m ok h0 hi
  rw [edges_eq m ok] at hm
  have hb := edgL_at hm
  rw [← edges_eq m ok] at hb
  exact ⟨hb.1, hb.2.1, hb.2.2, by omega, by omega⟩
theorem hg_at (m : GMesh) (ok : OkE m.Places.length m.Triangles) {i : Int} (h0 : 0 ≤ i) (hi : i < ((v_impl_trianglesByEdge m).2.length : Int))
    (h2 : ((((v_impl_trianglesByEdge m).1.getD (midx (v_impl_trianglesByEdge m).1 ((v_impl_trianglesByEdge m).2.getD i.toNat default)) default).2.length : Int)) = 2) :
    0 ≤ ((v_impl_trianglesByEdge m).1.getD (midx (v_impl_trianglesByEdge m).1 ((v_impl_trianglesByEdge m).2.getD i.toNat default)) default).2.getD 0 default ∧ ((v_impl_trianglesByEdge m).1.getD (midx (v_impl_trianglesByEdge m).1 ((v_impl_trianglesByEdge m).2.getD i.toNat default)) default).2.getD 0 default < (m.Triangles.length : Int) ∧
    0 ≤ ((v_impl_trianglesByEdge m).1.getD (midx (v_impl_trianglesByEdge m).1 ((v_impl_trianglesByEdge m).2.getD i.toNat default)) default).2.getD 1 default ∧ ((v_impl_trianglesByEdge m).1.getD (midx (v_impl_trianglesByEdge m).1 ((v_impl_trianglesByEdge m).2.getD i.toNat default)) default).2.getD 1 default < (m.Triangles.length : Int) ∧ (m.Triangles.length : Int) ≤ 128 := by
  obtain ⟨g1, g2⟩ := edges_at m ok (edges_mem m ok h0 hi)
  rw [g2] at h2 ⊢
  have a1 := idxP_at (ts := m.Triangles) (a := ((v_impl_trianglesByEdge m).2.getD i.toNat default).e0) (b := ((v_impl_trianglesByEdge m).2.getD i.toNat default).e1) (k := 0) (by omega)
  have a2 := idxP_at (ts := m.Triangles) (a := ((v_impl_trianglesByEdge m).2.getD i.toNat default).e0) (b := ((v_impl_trianglesByEdge m).2.getD i.toNat default).e1) (k := 1) (by omega)
  have := ok.2.1
  exact ⟨a1.1, a1.2.1, a2.1, a2.2.1, by omega⟩

theorem t_impl_trianglesByEdge (m_0 : GMesh) (hp0 : m_0.Places.length ≤ 1073741824) (hp1 : m_0.Triangles.length ≤ 1073741824) (hp2 : ∀ t ∈ m_0.Triangles, t.length ≤ 1073741824) (hp3 : OkE m_0.Places.length m_0.Triangles)  : Fn prog 66 [.agg [.sl (m_0.Places.map GVector.cells), .sl (m_0.Triangles.map (cL (cI .i64)))]] (.tup [.mp 0, .own 1]) [.mapN 2 (mapC Gedge.pr (cI .i64) ((v_impl_trianglesByEdge m_0).1)) none, .vec 100 2 (((v_impl_trianglesByEdge m_0).2).map Gedge.cells) false] := by
 have y0 : ((lr_impl_trianglesByEdge_1_1 m_0).2).length ≤ 1073741824 := (by first | assumption | omega | (first | (have g5 := of_decide_eq_true hf_impl_trianglesByEdge_2_0; have q := OkE.at hp3 hv_impl_trianglesByEdge_1_0 g5 hv_impl_trianglesByEdge_2_0 (of_decide_eq_true (by assumption)); first | omega | (simp only [List.length_append, List.length_cons, List.length_nil]; omega) | (have q3 := mlen_leI (N := 3 * x_l0 + x_l0_1) (by omega) (by assumption) (midx r1_l1_1 (nd_impl_trianglesByEdge_0 m_0 x_l0 x_l0_1)); simp only [List.length_cons, List.length_nil]; omega)) | (have := hp3.2.1; omega) | (have q := loTE_len m_0 hp3; omega)) | (simp_all <;> omega))
 refine fnS E0Ok hMixed (c := bodyOf f66) [] (.tup [.mp 0, .own 1]) [.mapN 2 (mapC Gedge.pr (cI .i64) ((lr_impl_trianglesByEdge_1_1 m_0).1)) none, .vec 100 2 ((sort_impl_compareEdges ((lr_impl_trianglesByEdge_1_1 m_0).2)).map Gedge.cells) false] func66 (sZ (cL (cI .i64)) m_0.Triangles <| sL mk_impl_trianglesByEdge_1_0 3 (lp_cast (st2 := ⟨[.agg [.sl (m_0.Places.map GVector.cells), .sl (m_0.Triangles.map (cL (cI .i64)))], .ptr 0 0 0, .any, .nils, .mp 1, .own 2, .any, .any, .any, .any, .mp 1, .any, .ptr 0 0 1, .sl (m_0.Triangles.map (cL (cI .i64))), .i .i64 (m_0.Triangles.length : Int), .i .i64 0, .any, .any, .any, .any, .any, .any, .any, .any, .any, .any, .any, .any, .any, .any, .any, .any, .any, .any, .any, .any, .any, .any, .any, .any, .any, .any, .any, .any, .any, .any, .any, .any, .any, .any, .any, .any, .any, .any, .any, .any, .any], [.box 31 [.sl (m_0.Places.map GVector.cells), .sl (m_0.Triangles.map (cL (cI .i64)))], .mapN 2 [] none, .vec 100 2 ([] : List (List AV)) false]⟩) (lp_val (ls_impl_trianglesByEdge_1 m_0) (x := (lr_impl_trianglesByEdge_1_1 m_0)) (lp_impl_trianglesByEdge_1 m_0 hp0 hp1 hp2 hp3 (((m_0.Triangles.length : Int) - 0).toNat + 1) 0 ([] : (List (Gedge × List Int))) ([] : List Gedge) (show 0 ≤ 0 from (by first | omega | (simp; done) | (intro y hy; have q := hv_impl_trianglesByEdge_1_2 y hy; omega))) (show (([] : List Gedge).length : Int) ≤ 3 * 0 from (by first | omega | (simp; done) | (intro y hy; have q := hv_impl_trianglesByEdge_1_2 y hy; omega))) (show ∀ y ∈ ([] : (List (Gedge × List Int))), (y.2.length : Int) ≤ 3 * 0 from (by first | omega | (simp; done) | (intro y hy; have q := hv_impl_trianglesByEdge_1_2 y hy; omega))) (Nat.lt_succ_self _)) rfl) (by simp [hd_impl_trianglesByEdge_1, mapC, Gedge.cells])) <| sS (CallSt.frame (t_sort_impl_compareEdges ((lr_impl_trianglesByEdge_1_1 m_0).2) y0) [2] (R := [.box 31 [.sl (m_0.Places.map GVector.cells), .sl (m_0.Triangles.map (cL (cI .i64)))], .mapN 2 (mapC Gedge.pr (cI .i64) ((lr_impl_trianglesByEdge_1_1 m_0).1)) none, .vec 100 2 (((lr_impl_trianglesByEdge_1_1 m_0).2).map Gedge.cells) false]) (args' := [.own 2, .fn 115 []]) rfl rfl rfl rfl rfl rfl) <| sK [1, 2] sN) rfl (by kernel_rfl) (by kernel_rfl) rfl ?_ ?_
 · rfl
 · simp [v_impl_trianglesByEdge]

def nd_impl_thirdOf_0 (t_0 : (List Int)) (e_1 : Gedge) : Int := (IntKind.wrap .i64 ((IntKind.wrap .i64 ((IntKind.wrap .i64 ((IntKind.wrap .i64 ((t_0.getD 0 default) + (t_0.getD 1 default))) + (t_0.getD 2 default))) - e_1.e0)) - e_1.e1))

def v_impl_thirdOf (t_0 : (List Int)) (e_1 : Gedge) : Int := (nd_impl_thirdOf_0 t_0 e_1)

theorem t_impl_thirdOf (t_0 : (List Int)) (e_1 : Gedge) (hp0 : t_0.length ≤ 1073741824) (hp1 : t_0.length = 3)  : Fn prog 107 [.sl (t_0.map (cI .i64)), .agg [.i .i64 e_1.e0, .i .i64 e_1.e1]] (.i .i64 (v_impl_thirdOf t_0 e_1)) [] := by
 have y0 : (0 : Int) ≤ 0 := (by first | assumption | omega | (simp_all <;> omega))
 have y1 : 0 < (t_0.length : Int) := (by first | assumption | omega | (simp_all <;> omega))
 have y2 : (0 : Int) ≤ 1 := (by first | assumption | omega | (simp_all <;> omega))
 have y3 : 1 < (t_0.length : Int) := (by first | assumption | omega | (simp_all <;> omega))
 have y4 : (0 : Int) ≤ 2 := (by first | assumption | omega | (simp_all <;> omega))
 have y5 : 2 < (t_0.length : Int) := (by first | assumption | omega | (simp_all <;> omega))
 refine fnS E0Ok hMixed (c := bodyOf f107) [] (.i .i64 (nd_impl_thirdOf_0 t_0 e_1)) [] func107 (sK [16, 16] <| sG (cI .i64) t_0 0 y0 y1 <| sG (cI .i64) t_0 1 y2 y3 <| sW .i64 ((t_0.getD 0 default) + (t_0.getD 1 default)) <| sG (cI .i64) t_0 2 y4 y5 <| sW .i64 ((IntKind.wrap .i64 ((t_0.getD 0 default) + (t_0.getD 1 default))) + (t_0.getD 2 default)) <| sC (show (0 : Int) ≤ 0 ∧ 0 < ((2 : Nat) : Int) from (by decide)) <| sW .i64 ((IntKind.wrap .i64 ((IntKind.wrap .i64 ((t_0.getD 0 default) + (t_0.getD 1 default))) + (t_0.getD 2 default))) - e_1.e0) <| sC (show (0 : Int) ≤ 1 ∧ 1 < ((2 : Nat) : Int) from (by decide)) <| sM (show IntKind.wrap .i64 ((IntKind.wrap .i64 ((IntKind.wrap .i64 ((IntKind.wrap .i64 ((t_0.getD 0 default) + (t_0.getD 1 default))) + (t_0.getD 2 default))) - e_1.e0)) - e_1.e1) = (nd_impl_thirdOf_0 t_0 e_1) from rfl) <| sK [] sN) rfl (by kernel_rfl) (by kernel_rfl) rfl ?_ ?_
 · rfl
 · rfl

def nd_impl_hingesOf_0 (m_0 : GMesh) (x_l0 : Int) : Int := (v_impl_thirdOf (m_0.Triangles.getD ((((v_impl_trianglesByEdge m_0).1).getD (midx ((v_impl_trianglesByEdge m_0).1) (((v_impl_trianglesByEdge m_0).2).getD x_l0.toNat default)) default).2.getD 0 default).toNat default) (((v_impl_trianglesByEdge m_0).2).getD x_l0.toNat default))

def nd_impl_hingesOf_1 (m_0 : GMesh) (x_l0 : Int) : Int := (v_impl_thirdOf (m_0.Triangles.getD ((((v_impl_trianglesByEdge m_0).1).getD (midx ((v_impl_trianglesByEdge m_0).1) (((v_impl_trianglesByEdge m_0).2).getD x_l0.toNat default)) default).2.getD 1 default).toNat default) (((v_impl_trianglesByEdge m_0).2).getD x_l0.toNat default))

def lo_impl_hingesOf_1 (m_0 : GMesh) : Nat → Int → (List (List Int)) → (List (List Int))
  | 0, _, _ => default
  | k + 1, x_l0, r1_l1 => (cond (decide (x_l0 < (((v_impl_trianglesByEdge m_0).2).length : Int)))
    (cond (mhas ((v_impl_trianglesByEdge m_0).1) (((v_impl_trianglesByEdge m_0).2).getD x_l0.toNat default))
      (cond (((((v_impl_trianglesByEdge m_0).1).getD (midx ((v_impl_trianglesByEdge m_0).1) (((v_impl_trianglesByEdge m_0).2).getD x_l0.toNat default)) default).2.length : Int) == 2)
        (lo_impl_hingesOf_1 m_0 k (x_l0 + 1) (r1_l1 ++ [[(((v_impl_trianglesByEdge m_0).2).getD x_l0.toNat default).e0, (((v_impl_trianglesByEdge m_0).2).getD x_l0.toNat default).e1, (nd_impl_hingesOf_0 m_0 x_l0), (nd_impl_hingesOf_1 m_0 x_l0)]]))
        (lo_impl_hingesOf_1 m_0 k (x_l0 + 1) r1_l1))
      (lo_impl_hingesOf_1 m_0 k (x_l0 + 1) r1_l1))
    r1_l1)

def ls_impl_hingesOf_1 (m_0 : GMesh) (r : (List (List Int))) : Ex × St := ((.exit 0), ⟨[.agg [.sl (m_0.Places.map GVector.cells), .sl (m_0.Triangles.map (cL (cI .i64)))], .ptr 0 0 0, .nils, .own 1, .any, .own 2, .any, .any, .any, .any, .any, .agg [.sl (m_0.Places.map GVector.cells), .sl (m_0.Triangles.map (cL (cI .i64)))], .any, .mp 3, .own 2, .own 2, .any, .any, .any, .any, .any, .any, .any, .any, .any, .any, .any, .any, .any, .any, .any, .any, .any, .any, .any, .any, .any, .any, .any, .any, .any, .any, .any, .any, .any, .any, .any, .any, .any, .any, .any, .any, .any, .any, .any], [.box 31 [.sl (m_0.Places.map GVector.cells), .sl (m_0.Triangles.map (cL (cI .i64)))], .nest 52 (r.map fun l => l.map (cI .i64)) false, .vec 100 2 (((v_impl_trianglesByEdge m_0).2).map Gedge.cells) false, .mapN 2 (mapC Gedge.pr (cI .i64) ((v_impl_trianglesByEdge m_0).1)) none]⟩)

def hd_impl_hingesOf_1 (m_0 : GMesh) (x_l0 : Int) (r1_l1 : (List (List Int))) : St := ⟨[.agg [.sl (m_0.Places.map GVector.cells), .sl (m_0.Triangles.map (cL (cI .i64)))], .ptr 0 0 0, .nils, .own 1, .mp 2, .own 3, .any, .any, .any, .any, .any, .agg [.sl (m_0.Places.map GVector.cells), .sl (m_0.Triangles.map (cL (cI .i64)))], .any, .mp 2, .own 3, .own 3, .i .i64 (((v_impl_trianglesByEdge m_0).2).length : Int), .i .i64 x_l0, .any, .any, .any, .any, .any, .any, .any, .any, .any, .any, .any, .any, .any, .any, .any, .any, .any, .any, .any, .any, .any, .any, .any, .any, .any, .any, .any, .any, .any, .any, .any, .any, .any, .any, .any, .any, .any], [.box 31 [.sl (m_0.Places.map GVector.cells), .sl (m_0.Triangles.map (cL (cI .i64)))], .nest 52 (r1_l1.map fun l => l.map (cI .i64)) false, .mapN 2 (mapC Gedge.pr (cI .i64) ((v_impl_trianglesByEdge m_0).1)) none, .vec 100 2 (((v_impl_trianglesByEdge m_0).2).map Gedge.cells) false]⟩

def mk_impl_hingesOf_1_0 : List Bool := [true, true, true, true, true, true, false, false, false, false, false, true, false, true, true, true, true, true, false, false, false, false, false, false, false, false, false, false, false, false, false, false, false, false, false, false, false, false, false, false, false, false, false, false, false, false, false, false, false, false, false, false, false, false, false]

def mk_impl_hingesOf_1_1 : List Bool := [true, true, true, true, false, true, false, false, false, false, false, true, false, true, true, true, false, false, false, false, false, false, false, false, false, false, false, false, false, false, false, false, false, false, false, false, false, false, false, false, false, false, false, false, false, false, false, false, false, false, false, false, false, false, false]

theorem lp_impl_hingesOf_1 (m_0 : GMesh) (hp0 : m_0.Places.length ≤ 1073741824) (hp1 : m_0.Triangles.length ≤ 1073741824) (hp2 : ∀ t ∈ m_0.Triangles, t.length ≤ 1073741824) (hp3 : OkE m_0.Places.length m_0.Triangles) : ∀ (k : Nat) (x_l0 : Int) (r1_l1 : (List (List Int))) (hv_impl_hingesOf_1_0 : 0 ≤ x_l0) (hv_impl_hingesOf_1_1 : (r1_l1.length : Int) ≤ x_l0) (hk : ((((v_impl_trianglesByEdge m_0).2).length : Int) - x_l0).toNat < k), Lp prog 0 (sub (bodyOf f57) [1, 1, 1, 0, 1, 0, 0]) (hd_impl_hingesOf_1 m_0 x_l0 r1_l1) (ls_impl_hingesOf_1 m_0 (lo_impl_hingesOf_1 m_0 k x_l0 r1_l1)).1 (ls_impl_hingesOf_1 m_0 (lo_impl_hingesOf_1 m_0 k x_l0 r1_l1)).2 := by
 intro k
 induction k with
 | zero => intro x_l0 r1_l1 hv_impl_hingesOf_1_0 hv_impl_hingesOf_1_1 hk; exact absurd hk (Nat.not_lt_zero _)
 | succ k ih =>
  intro x_l0 r1_l1 hv_impl_hingesOf_1_0 hv_impl_hingesOf_1_1 hk
  cases h_0 : (decide (x_l0 < (((v_impl_trianglesByEdge m_0).2).length : Int))) with
  | true =>
   have gh_0 := of_decide_eq_true h_0
   have y_0 : (0 : Int) ≤ x_l0 := (by first | assumption | omega | (first | (have q := hg_at m_0 hp3 hv_impl_hingesOf_1_0 (of_decide_eq_true (by assumption)) (by assumption); omega) | (have q := edges_nth m_0 hp3 hv_impl_hingesOf_1_0 (of_decide_eq_true (by assumption)); first | omega | (simp only [List.length_append, List.length_cons, List.length_nil]; omega)) | (have q := edges_len m_0 hp3; omega)) | (simp_all <;> omega))
   have y_1 : x_l0 < (((v_impl_trianglesByEdge m_0).2).length : Int) := (by first | assumption | omega | (first | (have q := hg_at m_0 hp3 hv_impl_hingesOf_1_0 (of_decide_eq_true (by assumption)) (by assumption); omega) | (have q := edges_nth m_0 hp3 hv_impl_hingesOf_1_0 (of_decide_eq_true (by assumption)); first | omega | (simp only [List.length_append, List.length_cons, List.length_nil]; omega)) | (have q := edges_len m_0 hp3; omega)) | (simp_all <;> omega))
   have y_2 : x_l0.toNat < ((v_impl_trianglesByEdge m_0).2).length := (by first | assumption | omega | (first | (have q := hg_at m_0 hp3 hv_impl_hingesOf_1_0 (of_decide_eq_true (by assumption)) (by assumption); omega) | (have q := edges_nth m_0 hp3 hv_impl_hingesOf_1_0 (of_decide_eq_true (by assumption)); first | omega | (simp only [List.length_append, List.length_cons, List.length_nil]; omega)) | (have q := edges_len m_0 hp3; omega)) | (simp_all <;> omega))
   have p {a C} (s : Scr a C) := sB h_0 <| sX Gedge.cells ((v_impl_trianglesByEdge m_0).2) x_l0 y_0 y_1 <| sV Gedge.cells ((v_impl_trianglesByEdge m_0).2) x_l0.toNat y_2 <| s
   cases h_1 : (mhas ((v_impl_trianglesByEdge m_0).1) (((v_impl_trianglesByEdge m_0).2).getD x_l0.toNat default)) with
   | true =>
    have m_8 := midx_lt h_1
    have q {a C} (s : Scr a C) := p (sA (.keep [midx ((v_impl_trianglesByEdge m_0).1) (((v_impl_trianglesByEdge m_0).2).getD x_l0.toNat default)]) <| sC (mget_ok (ck := Gedge.pr) (cv := (cI .i64)) h_1) <| sM (mget_len (ck := Gedge.pr) (cv := (cI .i64)) (l := (v_impl_trianglesByEdge m_0).1) (j := (midx ((v_impl_trianglesByEdge m_0).1) (((v_impl_trianglesByEdge m_0).2).getD x_l0.toNat default)))) <| s)
    clear p
    cases h_2 : (((((v_impl_trianglesByEdge m_0).1).getD (midx ((v_impl_trianglesByEdge m_0).1) (((v_impl_trianglesByEdge m_0).2).getD x_l0.toNat default)) default).2.length : Int) == 2) with
    | true =>
     have gh_2 := eq_of_beq h_2
     have y_3 : (0 : Int) ≤ 0 := by clear q; exact (by first | assumption | omega | (first | (have q := hg_at m_0 hp3 hv_impl_hingesOf_1_0 (of_decide_eq_true (by assumption)) (by assumption); omega) | (have q := edges_nth m_0 hp3 hv_impl_hingesOf_1_0 (of_decide_eq_true (by assumption)); first | omega | (simp only [List.length_append, List.length_cons, List.length_nil]; omega)) | (have q := edges_len m_0 hp3; omega)) | (simp_all <;> omega))
     have y_4 : 0 < ((((v_impl_trianglesByEdge m_0).1).getD (midx ((v_impl_trianglesByEdge m_0).1) (((v_impl_trianglesByEdge m_0).2).getD x_l0.toNat default)) default).2.length : Int) := by clear q; exact (by first | assumption | omega | (first | (have q := hg_at m_0 hp3 hv_impl_hingesOf_1_0 (of_decide_eq_true (by assumption)) (by assumption); omega) | (have q := edges_nth m_0 hp3 hv_impl_hingesOf_1_0 (of_decide_eq_true (by assumption)); first | omega | (simp only [List.length_append, List.length_cons, List.length_nil]; omega)) | (have q := edges_len m_0 hp3; omega)) | (simp_all <;> omega))
     have y_5 : 0 < (((v_impl_trianglesByEdge m_0).1).getD (midx ((v_impl_trianglesByEdge m_0).1) (((v_impl_trianglesByEdge m_0).2).getD x_l0.toNat default)) default).2.length := by clear q; exact (by first | assumption | omega | (first | (have q := hg_at m_0 hp3 hv_impl_hingesOf_1_0 (of_decide_eq_true (by assumption)) (by assumption); omega) | (have q := edges_nth m_0 hp3 hv_impl_hingesOf_1_0 (of_decide_eq_true (by assumption)); first | omega | (simp only [List.length_append, List.length_cons, List.length_nil]; omega)) | (have q := edges_len m_0 hp3; omega)) | (simp_all <;> omega))
     have y_6 : (0 : Int) ≤ ((((v_impl_trianglesByEdge m_0).1).getD (midx ((v_impl_trianglesByEdge m_0).1) (((v_impl_trianglesByEdge m_0).2).getD x_l0.toNat default)) default).2.getD 0 default) := by clear q; exact (by first | assumption | omega | (first | (have q := hg_at m_0 hp3 hv_impl_hingesOf_1_0 (of_decide_eq_true (by assumption)) (by assumption); omega) | (have q := edges_nth m_0 hp3 hv_impl_hingesOf_1_0 (of_decide_eq_true (by assumption)); first | omega | (simp only [List.length_append, List.length_cons, List.length_nil]; omega)) | (have q := edges_len m_0 hp3; omega)) | (simp_all <;> omega))
     have y_7 : ((((v_impl_trianglesByEdge m_0).1).getD (midx ((v_impl_trianglesByEdge m_0).1) (((v_impl_trianglesByEdge m_0).2).getD x_l0.toNat default)) default).2.getD 0 default) < (m_0.Triangles.length : Int) := by clear q; exact (by first | assumption | omega | (first | (have q := hg_at m_0 hp3 hv_impl_hingesOf_1_0 (of_decide_eq_true (by assumption)) (by assumption); omega) | (have q := edges_nth m_0 hp3 hv_impl_hingesOf_1_0 (of_decide_eq_true (by assumption)); first | omega | (simp only [List.length_append, List.length_cons, List.length_nil]; omega)) | (have q := edges_len m_0 hp3; omega)) | (simp_all <;> omega))
     have y_8 : (m_0.Triangles.getD ((((v_impl_trianglesByEdge m_0).1).getD (midx ((v_impl_trianglesByEdge m_0).1) (((v_impl_trianglesByEdge m_0).2).getD x_l0.toNat default)) default).2.getD 0 default).toNat default).length ≤ 1073741824 := by clear q; exact (by first | assumption | omega | (have q := hg_at m_0 hp3 hv_impl_hingesOf_1_0 (of_decide_eq_true (by assumption)) (by assumption); have q1 := (hp3.tris.at q.1 q.2.1).1; have q2 := (hp3.tris.at q.2.2.1 q.2.2.2.1).1; first | exact q1 | exact q2 | omega))
     have y_9 : (m_0.Triangles.getD ((((v_impl_trianglesByEdge m_0).1).getD (midx ((v_impl_trianglesByEdge m_0).1) (((v_impl_trianglesByEdge m_0).2).getD x_l0.toNat default)) default).2.getD 0 default).toNat default).length = 3 := by clear q; exact (by first | assumption | omega | (have q := hg_at m_0 hp3 hv_impl_hingesOf_1_0 (of_decide_eq_true (by assumption)) (by assumption); have q1 := (hp3.tris.at q.1 q.2.1).1; have q2 := (hp3.tris.at q.2.2.1 q.2.2.2.1).1; first | exact q1 | exact q2 | omega))
     have y_10 : (0 : Int) ≤ 1 := by clear q; exact (by first | assumption | omega | (first | (have q := hg_at m_0 hp3 hv_impl_hingesOf_1_0 (of_decide_eq_true (by assumption)) (by assumption); omega) | (have q := edges_nth m_0 hp3 hv_impl_hingesOf_1_0 (of_decide_eq_true (by assumption)); first | omega | (simp only [List.length_append, List.length_cons, List.length_nil]; omega)) | (have q := edges_len m_0 hp3; omega)) | (simp_all <;> omega))
     have y_11 : 1 < ((((v_impl_trianglesByEdge m_0).1).getD (midx ((v_impl_trianglesByEdge m_0).1) (((v_impl_trianglesByEdge m_0).2).getD x_l0.toNat default)) default).2.length : Int) := by clear q; exact (by first | assumption | omega | (first | (have q := hg_at m_0 hp3 hv_impl_hingesOf_1_0 (of_decide_eq_true (by assumption)) (by assumption); omega) | (have q := edges_nth m_0 hp3 hv_impl_hingesOf_1_0 (of_decide_eq_true (by assumption)); first | omega | (simp only [List.length_append, List.length_cons, List.length_nil]; omega)) | (have q := edges_len m_0 hp3; omega)) | (simp_all <;> omega))
     have y_12 : 1 < (((v_impl_trianglesByEdge m_0).1).getD (midx ((v_impl_trianglesByEdge m_0).1) (((v_impl_trianglesByEdge m_0).2).getD x_l0.toNat default)) default).2.length := by clear q; exact (by first | assumption | omega | (first | (have q := hg_at m_0 hp3 hv_impl_hingesOf_1_0 (of_decide_eq_true (by assumption)) (by assumption); omega) | (have q := edges_nth m_0 hp3 hv_impl_hingesOf_1_0 (of_decide_eq_true (by assumption)); first | omega | (simp only [List.length_append, List.length_cons, List.length_nil]; omega)) | (have q := edges_len m_0 hp3; omega)) | (simp_all <;> omega))
     have y_13 : (0 : Int) ≤ ((((v_impl_trianglesByEdge m_0).1).getD (midx ((v_impl_trianglesByEdge m_0).1) (((v_impl_trianglesByEdge m_0).2).getD x_l0.toNat default)) default).2.getD 1 default) := by clear q; exact (by first | assumption | omega | (first | (have q := hg_at m_0 hp3 hv_impl_hingesOf_1_0 (of_decide_eq_true (by assumption)) (by assumption); omega) | (have q := edges_nth m_0 hp3 hv_impl_hingesOf_1_0 (of_decide_eq_true (by assumption)); first | omega | (simp only [List.length_append, List.length_cons, List.length_nil]; omega)) | (have q := edges_len m_0 hp3; omega)) | (simp_all <;> omega))
     have y_14 : ((((v_impl_trianglesByEdge m_0).1).getD (midx ((v_impl_trianglesByEdge m_0).1) (((v_impl_trianglesByEdge m_0).2).getD x_l0.toNat default)) default).2.getD 1 default) < (m_0.Triangles.length : Int) := by clear q; exact (by first | assumption | omega | (first | (have q := hg_at m_0 hp3 hv_impl_hingesOf_1_0 (of_decide_eq_true (by assumption)) (by assumption); omega) | (have q := edges_nth m_0 hp3 hv_impl_hingesOf_1_0 (of_decide_eq_true (by assumption)); first | omega | (simp only [List.length_append, List.length_cons, List.length_nil]; omega)) | (have q := edges_len m_0 hp3; omega)) | (simp_all <;> omega))
     have y_15 : (m_0.Triangles.getD ((((v_impl_trianglesByEdge m_0).1).getD (midx ((v_impl_trianglesByEdge m_0).1) (((v_impl_trianglesByEdge m_0).2).getD x_l0.toNat default)) default).2.getD 1 default).toNat default).length ≤ 1073741824 := by clear q; exact (by first | assumption | omega | (have q := hg_at m_0 hp3 hv_impl_hingesOf_1_0 (of_decide_eq_true (by assumption)) (by assumption); have q1 := (hp3.tris.at q.1 q.2.1).1; have q2 := (hp3.tris.at q.2.2.1 q.2.2.2.1).1; first | exact q1 | exact q2 | omega))
     have y_16 : (m_0.Triangles.getD ((((v_impl_trianglesByEdge m_0).1).getD (midx ((v_impl_trianglesByEdge m_0).1) (((v_impl_trianglesByEdge m_0).2).getD x_l0.toNat default)) default).2.getD 1 default).toNat default).length = 3 := by clear q; exact (by first | assumption | omega | (have q := hg_at m_0 hp3 hv_impl_hingesOf_1_0 (of_decide_eq_true (by assumption)) (by assumption); have q1 := (hp3.tris.at q.1 q.2.1).1; have q2 := (hp3.tris.at q.2.2.1 q.2.2.2.1).1; first | exact q1 | exact q2 | omega))
     have y_17 : r1_l1.length + [[(((v_impl_trianglesByEdge m_0).2).getD x_l0.toNat default).e0, (((v_impl_trianglesByEdge m_0).2).getD x_l0.toNat default).e1, (nd_impl_hingesOf_0 m_0 x_l0), (nd_impl_hingesOf_1 m_0 x_l0)]].length ≤ 1073741824 := by clear q; exact (by first | assumption | omega | (first | (have q := hg_at m_0 hp3 hv_impl_hingesOf_1_0 (of_decide_eq_true (by assumption)) (by assumption); omega) | (have q := edges_nth m_0 hp3 hv_impl_hingesOf_1_0 (of_decide_eq_true (by assumption)); first | omega | (simp only [List.length_append, List.length_cons, List.length_nil]; omega)) | (have q := edges_len m_0 hp3; omega)) | (simp_all <;> omega))
     have y_18 : (-9223372036854775808 : Int) ≤ (x_l0 + 1) := by clear q; exact (by first | assumption | omega | (first | (have q := hg_at m_0 hp3 hv_impl_hingesOf_1_0 (of_decide_eq_true (by assumption)) (by assumption); omega) | (have q := edges_nth m_0 hp3 hv_impl_hingesOf_1_0 (of_decide_eq_true (by assumption)); first | omega | (simp only [List.length_append, List.length_cons, List.length_nil]; omega)) | (have q := edges_len m_0 hp3; omega)) | (simp_all <;> omega))
     have y_19 : (x_l0 + 1) ≤ (9223372036854775807 : Int) := by clear q; exact (by first | assumption | omega | (first | (have q := hg_at m_0 hp3 hv_impl_hingesOf_1_0 (of_decide_eq_true (by assumption)) (by assumption); omega) | (have q := edges_nth m_0 hp3 hv_impl_hingesOf_1_0 (of_decide_eq_true (by assumption)); first | omega | (simp only [List.length_append, List.length_cons, List.length_nil]; omega)) | (have q := edges_len m_0 hp3; omega)) | (simp_all <;> omega))
     have e : lo_impl_hingesOf_1 m_0 (k + 1) x_l0 r1_l1 = (lo_impl_hingesOf_1 m_0 k (x_l0 + 1) (r1_l1 ++ [[(((v_impl_trianglesByEdge m_0).2).getD x_l0.toNat default).e0, (((v_impl_trianglesByEdge m_0).2).getD x_l0.toNat default).e1, (nd_impl_hingesOf_0 m_0 x_l0), (nd_impl_hingesOf_1 m_0 x_l0)]])) := by simp only [lo_impl_hingesOf_1, h_0, h_1, h_2, cond_true]
     rw [e]
     exact nextS E0Ok hMixed [] mk_impl_hingesOf_1_0 [0, 1, 2, 3] (⟨[.agg [.sl (m_0.Places.map GVector.cells), .sl (m_0.Triangles.map (cL (cI .i64)))], .ptr 0 0 0, .nils, .own 1, .mp 2, .own 3, .any, .any, .any, .any, .any, .agg [.sl (m_0.Places.map GVector.cells), .sl (m_0.Triangles.map (cL (cI .i64)))], .any, .mp 2, .own 3, .own 3, .i .i64 (((v_impl_trianglesByEdge m_0).2).length : Int), .i .i64 (x_l0 + 1), .any, .any, .any, .any, .any, .any, .any, .any, .any, .any, .any, .any, .any, .any, .any, .any, .any, .any, .any, .any, .any, .any, .any, .any, .any, .any, .any, .any, .any, .any, .any, .any, .any, .any, .any, .any, .any], [.box 31 [.sl (m_0.Places.map GVector.cells), .sl (m_0.Triangles.map (cL (cI .i64)))], .nest 52 ((r1_l1.map fun l => l.map (cI .i64)) ++ [([[.i .i64 ((((v_impl_trianglesByEdge m_0).2).getD x_l0.toNat default).e0)], [.i .i64 ((((v_impl_trianglesByEdge m_0).2).getD x_l0.toNat default).e1)], [.i .i64 (nd_impl_hingesOf_0 m_0 x_l0)], [.i .i64 (nd_impl_hingesOf_1 m_0 x_l0)]] : List (List AV))]) false, .mapN 2 (mapC Gedge.pr (cI .i64) ((v_impl_trianglesByEdge m_0).1)) none, .vec 100 2 (((v_impl_trianglesByEdge m_0).2).map Gedge.cells) false]⟩) (q (sB h_2 <| sK [25, 25] <| sC (show (0 : Int) ≤ 0 ∧ 0 < ((2 : Nat) : Int) from (by decide)) <| sC (show (0 : Int) ≤ 1 ∧ 1 < ((2 : Nat) : Int) from (by decide)) <| sC (mget_ix (ck := Gedge.pr) (cv := (cI .i64)) (l := (v_impl_trianglesByEdge m_0).1) (j := (midx ((v_impl_trianglesByEdge m_0).1) (((v_impl_trianglesByEdge m_0).2).getD x_l0.toNat default))) (i := 0) y_3 y_4) <| sE (mget_el (ck := Gedge.pr) (cv := (cI .i64)) (l := (v_impl_trianglesByEdge m_0).1) (j := (midx ((v_impl_trianglesByEdge m_0).1) (((v_impl_trianglesByEdge m_0).2).getD x_l0.toNat default))) (i := 0) y_5) <| sG (cL (cI .i64)) m_0.Triangles ((((v_impl_trianglesByEdge m_0).1).getD (midx ((v_impl_trianglesByEdge m_0).1) (((v_impl_trianglesByEdge m_0).2).getD x_l0.toNat default)) default).2.getD 0 default) y_6 y_7 <| sF (t_impl_thirdOf (m_0.Triangles.getD ((((v_impl_trianglesByEdge m_0).1).getD (midx ((v_impl_trianglesByEdge m_0).1) (((v_impl_trianglesByEdge m_0).2).getD x_l0.toNat default)) default).2.getD 0 default).toNat default) (((v_impl_trianglesByEdge m_0).2).getD x_l0.toNat default) y_8 y_9) <| sC (mget_ix (ck := Gedge.pr) (cv := (cI .i64)) (l := (v_impl_trianglesByEdge m_0).1) (j := (midx ((v_impl_trianglesByEdge m_0).1) (((v_impl_trianglesByEdge m_0).2).getD x_l0.toNat default))) (i := 1) y_10 y_11) <| sE (mget_el (ck := Gedge.pr) (cv := (cI .i64)) (l := (v_impl_trianglesByEdge m_0).1) (j := (midx ((v_impl_trianglesByEdge m_0).1) (((v_impl_trianglesByEdge m_0).2).getD x_l0.toNat default))) (i := 1) y_12) <| sG (cL (cI .i64)) m_0.Triangles ((((v_impl_trianglesByEdge m_0).1).getD (midx ((v_impl_trianglesByEdge m_0).1) (((v_impl_trianglesByEdge m_0).2).getD x_l0.toNat default)) default).2.getD 1 default) y_13 y_14 <| sF (t_impl_thirdOf (m_0.Triangles.getD ((((v_impl_trianglesByEdge m_0).1).getD (midx ((v_impl_trianglesByEdge m_0).1) (((v_impl_trianglesByEdge m_0).2).getD x_l0.toNat default)) default).2.getD 1 default).toNat default) (((v_impl_trianglesByEdge m_0).2).getD x_l0.toNat default) y_15 y_16) <| sC (show (r1_l1.map fun l => l.map (cI .i64)).length + [([[.i .i64 ((((v_impl_trianglesByEdge m_0).2).getD x_l0.toNat default).e0)], [.i .i64 ((((v_impl_trianglesByEdge m_0).2).getD x_l0.toNat default).e1)], [.i .i64 (nd_impl_hingesOf_0 m_0 x_l0)], [.i .i64 (nd_impl_hingesOf_1 m_0 x_l0)]] : List (List AV))].length ≤ 1073741824 from (by simpa using y_17)) <| sI (x_l0 + 1) y_18 y_19 <| sN)) (by kernel_rfl) (show _ = ⟨[.agg [.sl (m_0.Places.map GVector.cells), .sl (m_0.Triangles.map (cL (cI .i64)))], .ptr 0 0 0, .nils, .own 1, .mp 2, .own 3, .any, .any, .any, .any, .any, .agg [.sl (m_0.Places.map GVector.cells), .sl (m_0.Triangles.map (cL (cI .i64)))], .any, .mp 2, .own 3, .own 3, .i .i64 (((v_impl_trianglesByEdge m_0).2).length : Int), .i .i64 (x_l0 + 1), .any, .any, .any, .any, .any, .any, .any, .any, .any, .any, .any, .any, .any, .any, .any, .any, .any, .any, .any, .any, .any, .any, .any, .any, .any, .any, .any, .any, .any, .any, .any, .any, .any, .any, .any, .any, .any], [.box 31 [.sl (m_0.Places.map GVector.cells), .sl (m_0.Triangles.map (cL (cI .i64)))], .nest 52 ((r1_l1 ++ [[(((v_impl_trianglesByEdge m_0).2).getD x_l0.toNat default).e0, (((v_impl_trianglesByEdge m_0).2).getD x_l0.toNat default).e1, (nd_impl_hingesOf_0 m_0 x_l0), (nd_impl_hingesOf_1 m_0 x_l0)]]).map fun l => l.map (cI .i64)) false, .mapN 2 (mapC Gedge.pr (cI .i64) ((v_impl_trianglesByEdge m_0).1)) none, .vec 100 2 (((v_impl_trianglesByEdge m_0).2).map Gedge.cells) false]⟩ from (by simp [cL, cI])) (ih (x_l0 + 1) (r1_l1 ++ [[(((v_impl_trianglesByEdge m_0).2).getD x_l0.toNat default).e0, (((v_impl_trianglesByEdge m_0).2).getD x_l0.toNat default).e1, (nd_impl_hingesOf_0 m_0 x_l0), (nd_impl_hingesOf_1 m_0 x_l0)]]) (show 0 ≤ (x_l0 + 1) from (by first | assumption | omega | (first | (have q := hg_at m_0 hp3 hv_impl_hingesOf_1_0 (of_decide_eq_true (by assumption)) (by assumption); omega) | (have q := edges_nth m_0 hp3 hv_impl_hingesOf_1_0 (of_decide_eq_true (by assumption)); first | omega | (simp only [List.length_append, List.length_cons, List.length_nil]; omega)) | (have q := edges_len m_0 hp3; omega)) | (simp_all <;> omega))) (show ((r1_l1 ++ [[(((v_impl_trianglesByEdge m_0).2).getD x_l0.toNat default).e0, (((v_impl_trianglesByEdge m_0).2).getD x_l0.toNat default).e1, (nd_impl_hingesOf_0 m_0 x_l0), (nd_impl_hingesOf_1 m_0 x_l0)]]).length : Int) ≤ (x_l0 + 1) from (by first | assumption | omega | (first | (have q := hg_at m_0 hp3 hv_impl_hingesOf_1_0 (of_decide_eq_true (by assumption)) (by assumption); omega) | (have q := edges_nth m_0 hp3 hv_impl_hingesOf_1_0 (of_decide_eq_true (by assumption)); first | omega | (simp only [List.length_append, List.length_cons, List.length_nil]; omega)) | (have q := edges_len m_0 hp3; omega)) | (simp_all <;> omega))) (by first | assumption | omega | (first | (have q := hg_at m_0 hp3 hv_impl_hingesOf_1_0 (of_decide_eq_true (by assumption)) (by assumption); omega) | (have q := edges_nth m_0 hp3 hv_impl_hingesOf_1_0 (of_decide_eq_true (by assumption)); first | omega | (simp only [List.length_append, List.length_cons, List.length_nil]; omega)) | (have q := edges_len m_0 hp3; omega)) | (simp_all <;> omega)))
    | false =>
     have gh_2 := ne_of_beq_false h_2
     have y_3 : (-9223372036854775808 : Int) ≤ (x_l0 + 1) := by clear q; exact (by first | assumption | omega | (first | (have q := hg_at m_0 hp3 hv_impl_hingesOf_1_0 (of_decide_eq_true (by assumption)) (by assumption); omega) | (have q := edges_nth m_0 hp3 hv_impl_hingesOf_1_0 (of_decide_eq_true (by assumption)); first | omega | (simp only [List.length_append, List.length_cons, List.length_nil]; omega)) | (have q := edges_len m_0 hp3; omega)) | (simp_all <;> omega))
     have y_4 : (x_l0 + 1) ≤ (9223372036854775807 : Int) := by clear q; exact (by first | assumption | omega | (first | (have q := hg_at m_0 hp3 hv_impl_hingesOf_1_0 (of_decide_eq_true (by assumption)) (by assumption); omega) | (have q := edges_nth m_0 hp3 hv_impl_hingesOf_1_0 (of_decide_eq_true (by assumption)); first | omega | (simp only [List.length_append, List.length_cons, List.length_nil]; omega)) | (have q := edges_len m_0 hp3; omega)) | (simp_all <;> omega))
     have e : lo_impl_hingesOf_1 m_0 (k + 1) x_l0 r1_l1 = (lo_impl_hingesOf_1 m_0 k (x_l0 + 1) r1_l1) := by simp only [lo_impl_hingesOf_1, h_0, h_1, h_2, cond_true, cond_false]
     rw [e]
     exact nextR E0Ok hMixed [] mk_impl_hingesOf_1_0 [0, 1, 2, 3] (ih (x_l0 + 1) r1_l1 (show 0 ≤ (x_l0 + 1) from (by first | assumption | omega | (first | (have q := hg_at m_0 hp3 hv_impl_hingesOf_1_0 (of_decide_eq_true (by assumption)) (by assumption); omega) | (have q := edges_nth m_0 hp3 hv_impl_hingesOf_1_0 (of_decide_eq_true (by assumption)); first | omega | (simp only [List.length_append, List.length_cons, List.length_nil]; omega)) | (have q := edges_len m_0 hp3; omega)) | (simp_all <;> omega))) (show (r1_l1.length : Int) ≤ (x_l0 + 1) from (by first | assumption | omega | (first | (have q := hg_at m_0 hp3 hv_impl_hingesOf_1_0 (of_decide_eq_true (by assumption)) (by assumption); omega) | (have q := edges_nth m_0 hp3 hv_impl_hingesOf_1_0 (of_decide_eq_true (by assumption)); first | omega | (simp only [List.length_append, List.length_cons, List.length_nil]; omega)) | (have q := edges_len m_0 hp3; omega)) | (simp_all <;> omega))) (by first | assumption | omega | (first | (have q := hg_at m_0 hp3 hv_impl_hingesOf_1_0 (of_decide_eq_true (by assumption)) (by assumption); omega) | (have q := edges_nth m_0 hp3 hv_impl_hingesOf_1_0 (of_decide_eq_true (by assumption)); first | omega | (simp only [List.length_append, List.length_cons, List.length_nil]; omega)) | (have q := edges_len m_0 hp3; omega)) | (simp_all <;> omega))) (q (sB h_2 <| sI (x_l0 + 1) y_3 y_4 <| sN)) (by kernel_rfl)
   | false =>
    have y_3 : (-9223372036854775808 : Int) ≤ (x_l0 + 1) := by clear p; exact (by first | assumption | omega | (first | (have q := hg_at m_0 hp3 hv_impl_hingesOf_1_0 (of_decide_eq_true (by assumption)) (by assumption); omega) | (have q := edges_nth m_0 hp3 hv_impl_hingesOf_1_0 (of_decide_eq_true (by assumption)); first | omega | (simp only [List.length_append, List.length_cons, List.length_nil]; omega)) | (have q := edges_len m_0 hp3; omega)) | (simp_all <;> omega))
    have y_4 : (x_l0 + 1) ≤ (9223372036854775807 : Int) := by clear p; exact (by first | assumption | omega | (first | (have q := hg_at m_0 hp3 hv_impl_hingesOf_1_0 (of_decide_eq_true (by assumption)) (by assumption); omega) | (have q := edges_nth m_0 hp3 hv_impl_hingesOf_1_0 (of_decide_eq_true (by assumption)); first | omega | (simp only [List.length_append, List.length_cons, List.length_nil]; omega)) | (have q := edges_len m_0 hp3; omega)) | (simp_all <;> omega))
    have e : lo_impl_hingesOf_1 m_0 (k + 1) x_l0 r1_l1 = (lo_impl_hingesOf_1 m_0 k (x_l0 + 1) r1_l1) := by simp only [lo_impl_hingesOf_1, h_0, h_1, cond_true, cond_false]
    rw [e]
    exact nextR E0Ok hMixed [] mk_impl_hingesOf_1_0 [0, 1, 2, 3] (ih (x_l0 + 1) r1_l1 (show 0 ≤ (x_l0 + 1) from (by first | assumption | omega | (first | (have q := hg_at m_0 hp3 hv_impl_hingesOf_1_0 (of_decide_eq_true (by assumption)) (by assumption); omega) | (have q := edges_nth m_0 hp3 hv_impl_hingesOf_1_0 (of_decide_eq_true (by assumption)); first | omega | (simp only [List.length_append, List.length_cons, List.length_nil]; omega)) | (have q := edges_len m_0 hp3; omega)) | (simp_all <;> omega))) (show (r1_l1.length : Int) ≤ (x_l0 + 1) from (by first | assumption | omega | (first | (have q := hg_at m_0 hp3 hv_impl_hingesOf_1_0 (of_decide_eq_true (by assumption)) (by assumption); omega) | (have q := edges_nth m_0 hp3 hv_impl_hingesOf_1_0 (of_decide_eq_true (by assumption)); first | omega | (simp only [List.length_append, List.length_cons, List.length_nil]; omega)) | (have q := edges_len m_0 hp3; omega)) | (simp_all <;> omega))) (by first | assumption | omega | (first | (have q := hg_at m_0 hp3 hv_impl_hingesOf_1_0 (of_decide_eq_true (by assumption)) (by assumption); omega) | (have q := edges_nth m_0 hp3 hv_impl_hingesOf_1_0 (of_decide_eq_true (by assumption)); first | omega | (simp only [List.length_append, List.length_cons, List.length_nil]; omega)) | (have q := edges_len m_0 hp3; omega)) | (simp_all <;> omega))) (p (sA (.keep []) <| sC (mnot_ok (ck := Gedge.pr) (cv := (cI .i64)) Gedge.inj h_1) <| sM (show ((0 : Nat) : Int) = 0 from rfl) <| sB (show (0 == 2) = false from rfl) <| sI (x_l0 + 1) y_3 y_4 <| sN)) (by kernel_rfl)
  | false =>
   have gh_0 := of_decide_eq_false h_0
   have e : lo_impl_hingesOf_1 m_0 (k + 1) x_l0 r1_l1 = r1_l1 := by simp only [lo_impl_hingesOf_1, h_0, cond_false]
   rw [e]
   exact outR (e := (.exit 0)) E0Ok hMixed [] mk_impl_hingesOf_1_1 [0, 1, 3, 2] (sB h_0 <| sN) (by kernel_rfl) (by intro h; cases h)

def lr_impl_hingesOf_1_0 (m_0 : GMesh) : (List (List Int)) := (lo_impl_hingesOf_1 m_0 (((((v_impl_trianglesByEdge m_0).2).length : Int) - 0).toNat + 1) 0 ([] : List (List Int)))

def v_impl_hingesOf (m_0 : GMesh) : (List (List Int)) := (lr_impl_hingesOf_1_0 m_0)

theorem impl_hingesOf_eq (m : GMesh) (ok : OkE m.Places.length m.Triangles) : v_impl_hingesOf m = hgL m.Places.length m.Triangles := by
  unfold v_impl_hingesOf lr_impl_hingesOf_1_0
  refine (filtm_from (a := (v_impl_trianglesByEdge m).2) (p := fun e => decide ((idxP m.Triangles e.e0 e.e1).length = 2)) (f := fun e => [e.e0, e.e1] ++ (idxP m.Triangles e.e0 e.e1).map fun i => thd (m.Triangles.getD i.toNat default) e.e0 e.e1) (lo := lo_impl_hingesOf_1 m) (fun k i r h0 hi => ?_) (fun k i r hi => ?_)).trans ?_
  · have q := edges_nth m ok h0 hi
    have hm := edges_mem m ok h0 hi
    obtain ⟨g1, g2⟩ := edges_at m ok hm
    rw [lo_impl_hingesOf_1, decide_eq_true hi, cond_true, g1, cond_true, g2]
    unfold nd_impl_hingesOf_0 nd_impl_hingesOf_1
    rw [g2]
    generalize (v_impl_trianglesByEdge m).2.getD i.toNat default = e at *
    by_cases h2 : (idxP m.Triangles e.e0 e.e1).length = 2
    · rw [decide_eq_true h2, show (((idxP m.Triangles e.e0 e.e1).length : Int) == 2) = true from by rw [beq_iff_eq]; omega, cond_true, cond_true]
      have hthd : ∀ k : Nat, k < 2 → v_impl_thirdOf (m.Triangles.getD ((idxP m.Triangles e.e0 e.e1).getD k default).toNat default) e = thd (m.Triangles.getD ((idxP m.Triangles e.e0 e.e1).getD k default).toNat default) e.e0 e.e1 := by
        intro k hk
        obtain ⟨a1, a2, a3⟩ := idxP_at (ts := m.Triangles) (a := e.e0) (b := e.e1) (k := k) (by omega)
        generalize (idxP m.Triangles e.e0 e.e1).getD k default = i' at *
        have q2 := ok.tris.at a1 a2
        generalize m.Triangles.getD i'.toNat default = t at *
        have h64 := ok.1
        unfold v_impl_thirdOf nd_impl_thirdOf_0 thd
        rw [wrap_id (n := t.getD 0 default + t.getD 1 default) (by omega) (by omega), wrap_id (n := t.getD 0 default + t.getD 1 default + t.getD 2 default) (by omega) (by omega), wrap_id (n := t.getD 0 default + t.getD 1 default + t.getD 2 default - e.e0) (by omega) (by omega), wrap_id (n := t.getD 0 default + t.getD 1 default + t.getD 2 default - e.e0 - e.e1) (by omega) (by omega)]
      rw [hthd 0 (by omega), hthd 1 (by omega)]
      generalize idxP m.Triangles e.e0 e.e1 = l at *
      match l, h2 with
      | [a, b], _ => rfl
    · rw [decide_eq_false h2, show (((idxP m.Triangles e.e0 e.e1).length : Int) == 2) = false from by rw [beq_eq_false_iff_ne]; omega, cond_false, cond_false]
  · rw [lo_impl_hingesOf_1, decide_eq_false (by omega), cond_false]
  · rw [edges_eq m ok]; rfl
theorem hingesOf_at (m : GMesh) (ok : OkE m.Places.length m.Triangles) {i : Int} (h0 : 0 ≤ i) (hi : i < ((v_impl_hingesOf m).length : Int)) : ((v_impl_hingesOf m).getD i.toNat default).length = 4 ∧ ∀ x ∈ (v_impl_hingesOf m).getD i.toNat default, 0 ≤ x ∧ x < (m.Places.length : Int) := by
  refine hgL_mem ok ?_
  rw [← impl_hingesOf_eq m ok, List.getD_eq_getElem?_getD, List.getElem?_eq_getElem (by omega)]; exact List.getElem_mem _
theorem hin4i {m : GMesh} (ok : OkE m.Places.length m.Triangles) {i : Int} (h0 : 0 ≤ i) (hi : decide (i < ((v_impl_hingesOf m).length : Int)) = true) : ((v_impl_hingesOf m).getD i.toNat default).length = 4 ∧ ∀ x ∈ (v_impl_hingesOf m).getD i.toNat default, 0 ≤ x ∧ x < (m.Places.length : Int) := hingesOf_at m ok h0 (of_decide_eq_true hi)
theorem hin4iL {m : GMesh} (ok : OkE m.Places.length m.Triangles) {i : Int} (h0 : 0 ≤ i) (hi : decide (i < ((v_impl_hingesOf m).length : Int)) = true) : ((v_impl_hingesOf m).getD i.toNat default).length ≤ 1073741824 := by have := (hin4i ok h0 hi).1; omega
theorem impl_hingesOf_len (m : GMesh) (ok : OkE m.Places.length m.Triangles) : (v_impl_hingesOf m).length ≤ 4096 := by rw [impl_hingesOf_eq m ok]; exact hgL_len ok

theorem t_impl_hingesOf (m_0 : GMesh) (hp0 : m_0.Places.length ≤ 1073741824) (hp1 : m_0.Triangles.length ≤ 1073741824) (hp2 : ∀ t ∈ m_0.Triangles, t.length ≤ 1073741824) (hp3 : OkE m_0.Places.length m_0.Triangles)  : Fn prog 57 [.agg [.sl (m_0.Places.map GVector.cells), .sl (m_0.Triangles.map (cL (cI .i64)))]] (.own 0) [.nest 52 ((v_impl_hingesOf m_0).map fun l => l.map (cI .i64)) false] := by
 refine fnS E0Ok hMixed (c := bodyOf f57) [] (.own 0) [.nest 52 ((lr_impl_hingesOf_1_0 m_0).map fun l => l.map (cI .i64)) false] func57 (sF (t_impl_trianglesByEdge m_0 hp0 hp1 hp2 hp3) <| sZ Gedge.cells ((v_impl_trianglesByEdge m_0).2) <| sL mk_impl_hingesOf_1_0 4 (lp_cast (st2 := ⟨[.agg [.sl (m_0.Places.map GVector.cells), .sl (m_0.Triangles.map (cL (cI .i64)))], .ptr 0 0 0, .nils, .own 1, .mp 2, .own 3, .any, .any, .any, .any, .any, .agg [.sl (m_0.Places.map GVector.cells), .sl (m_0.Triangles.map (cL (cI .i64)))], .any, .mp 2, .own 3, .own 3, .i .i64 (((v_impl_trianglesByEdge m_0).2).length : Int), .i .i64 0, .any, .any, .any, .any, .any, .any, .any, .any, .any, .any, .any, .any, .any, .any, .any, .any, .any, .any, .any, .any, .any, .any, .any, .any, .any, .any, .any, .any, .any, .any, .any, .any, .any, .any, .any, .any, .any], [.box 31 [.sl (m_0.Places.map GVector.cells), .sl (m_0.Triangles.map (cL (cI .i64)))], .nest 52 [] false, .mapN 2 (mapC Gedge.pr (cI .i64) ((v_impl_trianglesByEdge m_0).1)) none, .vec 100 2 (((v_impl_trianglesByEdge m_0).2).map Gedge.cells) false]⟩) (lp_val (ls_impl_hingesOf_1 m_0) (x := (lr_impl_hingesOf_1_0 m_0)) (lp_impl_hingesOf_1 m_0 hp0 hp1 hp2 hp3 (((((v_impl_trianglesByEdge m_0).2).length : Int) - 0).toNat + 1) 0 ([] : List (List Int)) (show 0 ≤ 0 from (by first | assumption | omega | (first | (have q := hg_at m_0 hp3 hv_impl_hingesOf_1_0 (of_decide_eq_true (by assumption)) (by assumption); omega) | (have q := edges_nth m_0 hp3 hv_impl_hingesOf_1_0 (of_decide_eq_true (by assumption)); first | omega | (simp only [List.length_append, List.length_cons, List.length_nil]; omega)) | (have q := edges_len m_0 hp3; omega)) | (simp_all <;> omega))) (show (([] : List (List Int)).length : Int) ≤ 0 from (by simp)) (Nat.lt_succ_self _)) rfl) (by simp [hd_impl_hingesOf_1, cL, cI])) <| sK [1] sN) rfl (by kernel_rfl) (by kernel_rfl) rfl ?_ ?_
 · rfl
 · simp [v_impl_hingesOf]

end Go.Ab
