/- The functions of this seat as plain Lean, and that the program's are these. Printed by a program of the prover's own. -/
import Derived.Test.YtiiijolkhbnblaaB3
set_option linter.unusedVariables false
set_option linter.unusedSimpArgs false
set_option maxRecDepth 100000
namespace Go.Ab
open Go.RowKit Go.Proofs.Try

def lr_impl_AreHolds_1_0 (m_0 : GMesh) (holds_1 : (List GHold)) : (Unit) ⊕ (Unit) := (lo_impl_AreHolds_1 m_0 holds_1 (((holds_1.length : Int) - 0).toNat + 1) (-1) 0)

def v_impl_AreHolds (m_0 : GMesh) (holds_1 : (List GHold)) : Bool := (cond (v_impl_ValidMesh m_0)
  (match (lr_impl_AreHolds_1_0 m_0 holds_1) with
    | .inl r2 => false
    | .inr r2 => true)
  false)

theorem t_impl_AreHolds (m_0 : GMesh) (holds_1 : (List GHold)) (hp0 : m_0.Places.length ≤ 1073741824) (hp1 : m_0.Triangles.length ≤ 1073741824) (hp2 : ∀ t ∈ m_0.Triangles, t.length ≤ 1073741824) (hp3 : holds_1.length ≤ 1073741824)  : Fn prog 93 [.agg [.sl (m_0.Places.map GVector.cells), .sl (m_0.Triangles.map (cL (cI .i64)))], .sl (holds_1.map GHold.cells)] (.b (v_impl_AreHolds m_0 holds_1)) [] := by
 have p {a C} (s : Scr a C) := sF (t_impl_ValidMesh m_0 hp0 hp1 hp2) <| s
 cases h0 : (v_impl_ValidMesh m_0) with
 | true =>
  have q {a C} (s : Scr a C) := p (sB' h0 <| sZ GHold.cells holds_1 <| s)
  clear p
  cases h1 : (lr_impl_AreHolds_1_0 m_0 holds_1) with
  | inl r2 =>
   refine fnS E0Ok hMixed (c := bodyOf f93) [] (.b false) [] func93 (q (sL mk_impl_AreHolds_1_0 1 (lp_val (ls_impl_AreHolds_1 m_0 holds_1) (x := (lr_impl_AreHolds_1_0 m_0 holds_1)) (lp_impl_AreHolds_1 m_0 holds_1 hp0 hp1 hp2 hp3 h0 (((holds_1.length : Int) - 0).toNat + 1) (-1) 0 (show 0 ≤ 0 from (by first | assumption | omega | (simp_all <;> omega))) (Nat.lt_succ_self _)) h1) <| sK [] sN)) rfl (by kernel_rfl) (by kernel_rfl) rfl ?_ ?_
   · simp only [v_impl_AreHolds, h0, h1, cond_true]
   · rfl
  | inr r2 =>
   refine fnS E0Ok hMixed (c := bodyOf f93) [] (.b true) [] func93 (q (sL mk_impl_AreHolds_1_0 1 (lp_val (ls_impl_AreHolds_1 m_0 holds_1) (x := (lr_impl_AreHolds_1_0 m_0 holds_1)) (lp_impl_AreHolds_1 m_0 holds_1 hp0 hp1 hp2 hp3 h0 (((holds_1.length : Int) - 0).toNat + 1) (-1) 0 (show 0 ≤ 0 from (by first | assumption | omega | (simp_all <;> omega))) (Nat.lt_succ_self _)) h1) <| sK [] sN)) rfl (by kernel_rfl) (by kernel_rfl) rfl ?_ ?_
   · simp only [v_impl_AreHolds, h0, h1, cond_true]
   · rfl
 | false =>
  refine fnS E0Ok hMixed (c := bodyOf f93) [] (.b false) [] func93 (p (sB' h0 <| sK [] sN)) rfl (by kernel_rfl) (by kernel_rfl) rfl ?_ ?_
  · simp only [v_impl_AreHolds, h0, cond_false]
  · rfl

theorem within_rise (p last n : Int) (h0 : -1 ≤ last) (hn : 0 ≤ n) (hn' : n ≤ 64) (hl : last < n ∨ last = -1) : v_impl_within p (IntKind.wrap .i64 (last + 1)) (IntKind.wrap .i64 (n - 1)) = (v_spec_l00In p 0 (IntKind.wrap .i64 (n - 1)) && !(decide (last ≥ p))) := by
  rw [show v_impl_within = v_spec_l00In from rfl]
  unfold v_spec_l00In
  rw [wrap_id (n := last + 1) (by omega) (by omega), wrap_id (n := n - 1) (by omega) (by omega)]
  by_cases h1 : p ≥ last + 1 <;> by_cases h2 : p ≤ n - 1 <;> by_cases h3 : p ≥ 0 <;> by_cases h4 : last ≥ p <;> simp [h1, h2, h3, h4] <;> omega
theorem lo_AreHolds (m : GMesh) (hs : List GHold) (hn : m.Places.length ≤ 64) : ∀ (k : Nat) (last i : Int), 0 ≤ i → (i = 0 ∧ last = -1 ∨ 0 < i ∧ last = (hs.getD (i - 1).toNat default).Place ∧ 0 ≤ last ∧ last < (m.Places.length : Int)) → lo_impl_AreHolds_1 m hs k last i = lo_spec_l04Are_1 m hs k i := by
  intro k
  induction k with
  | zero => intros; rfl
  | succ k ih =>
    intro last i h0 hl
    rw [lo_impl_AreHolds_1, lo_spec_l04Are_1]
    cases decide (i < (hs.length : Int)) with
    | false => rfl
    | true =>
      rw [cond_true, cond_true, show v_impl_IsHold (hs.getD i.toNat default) = v_spec_l04Is (hs.getD i.toNat default) from rfl]
      cases v_spec_l04Is (hs.getD i.toNat default) with
      | false => rfl
      | true =>
        rw [cond_true, cond_true, within_rise _ last (m.Places.length : Int) (by omega) (by omega) (by omega) (by omega)]
        unfold v_spec_l02Place
        cases hP : v_spec_l00In ((hs.getD i.toNat default).Place) 0 (IntKind.wrap .i64 ((m.Places.length : Int) - 1)) with
        | false => rfl
        | true =>
          rw [Bool.true_and, cond_true]
          have hb : 0 ≤ (hs.getD i.toNat default).Place ∧ (hs.getD i.toNat default).Place < (m.Places.length : Int) := by
            unfold v_spec_l00In at hP
            rw [wrap_id (n := (m.Places.length : Int) - 1) (by omega) (by omega)] at hP
            generalize (hs.getD i.toNat default).Place = P at hP ⊢
            by_cases h1 : P ≥ 0 <;> simp [h1] at hP
            omega
          have hi := ih (hs.getD i.toNat default).Place (i + 1) (by omega) (.inr ⟨by omega, by rw [show i + 1 - 1 = i from by omega], hb.1, hb.2⟩)
          rw [hi]
          rcases hl with ⟨hi0, hl⟩ | ⟨hi0, hl, _⟩
          · rw [decide_eq_false (show ¬ last ≥ (hs.getD i.toNat default).Place from by omega), decide_eq_false (show ¬ i > 0 from by omega)]; rfl
          · rw [decide_eq_true (show i > 0 from hi0), cond_true, ← hl]
            cases decide (last ≥ (hs.getD i.toNat default).Place) <;> rfl
theorem eq_AreHolds (m : GMesh) (hs : List GHold) : v_impl_AreHolds m hs = v_spec_l04Are m hs := by
  unfold v_impl_AreHolds v_spec_l04Are
  rw [eq_ValidMesh]
  cases h : v_spec_l02Is m with
  | false => rfl
  | true =>
    unfold lr_impl_AreHolds_1_0 lr_spec_l04Are_1_0
    have hn : m.Places.length ≤ 64 := by
      rw [l02Is_eq] at h
      cases h1 : decide ((m.Places.length : Int) > 64) <;> rw [h1] at h <;> (try (cases h; done))
      simp only [decide_eq_false_iff_not] at h1
      omega
    rw [lo_AreHolds m hs hn _ _ _ (Int.le_refl 0) (.inl ⟨rfl, rfl⟩)]
    rfl

def lo_impl_copyMesh_1 (m_0 : GMesh) : Nat → Int → (List (List Int)) → (List (List Int))
  | 0, _, _ => default
  | k + 1, x_l0, r4_l1 => (cond (decide (x_l0 < (m_0.Triangles.length : Int)))
    (lo_impl_copyMesh_1 m_0 k (x_l0 + 1) (r4_l1 ++ [(([] : List Int) ++ (m_0.Triangles.getD x_l0.toNat default))]))
    r4_l1)

def ls_impl_copyMesh_1 (m_0 : GMesh) (r : (List (List Int))) : Ex × St := ((.exit 0), ⟨[.agg [.sl (m_0.Places.map GVector.cells), .sl (m_0.Triangles.map (cL (cI .i64)))], .ptr 0 0 0, .ptr 1 0 0, .ptr 2 0 0, .any, .any, .any, .ptr 0 0 0, .sl (m_0.Places.map GVector.cells), .own 3, .agg [.own 3, .nils], .ptr 0 0 1, .sl (m_0.Triangles.map (cL (cI .i64))), .any, .any, .any, .any, .any, .any, .any, .any, .any, .any, .any, .any, .any, .any, .any], [.box 42 [.sl (m_0.Places.map GVector.cells), .sl (m_0.Triangles.map (cL (cI .i64)))], .box 42 [.nils, .nils], .box 42 [.own 3, .own 4], .vec 44 3 (([] : List (List AV)) ++ (m_0.Places.map GVector.cells)) false, .nest 52 (r.map fun l => l.map (cI .i64)) false]⟩)

def hd_impl_copyMesh_1 (m_0 : GMesh) (x_l0 : Int) (r4_l1 : (List (List Int))) : St := ⟨[.agg [.sl (m_0.Places.map GVector.cells), .sl (m_0.Triangles.map (cL (cI .i64)))], .ptr 0 0 0, .ptr 1 0 0, .ptr 3 0 0, .any, .any, .any, .ptr 0 0 0, .sl (m_0.Places.map GVector.cells), .own 2, .agg [.own 2, .nils], .ptr 0 0 1, .sl (m_0.Triangles.map (cL (cI .i64))), .i .i64 (m_0.Triangles.length : Int), .i .i64 x_l0, .any, .any, .any, .any, .any, .any, .any, .any, .any, .any, .any, .any, .any], [.box 42 [.sl (m_0.Places.map GVector.cells), .sl (m_0.Triangles.map (cL (cI .i64)))], .box 42 [.nils, .nils], .vec 44 3 (([] : List (List AV)) ++ (m_0.Places.map GVector.cells)) false, .box 42 [.own 2, .own 4], .nest 52 (r4_l1.map fun l => l.map (cI .i64)) false]⟩

def mk_impl_copyMesh_1_0 : List Bool := [true, true, true, true, false, false, false, true, true, true, true, true, true, true, true, false, false, false, false, false, false, false, false, false, false, false, false, false]

def mk_impl_copyMesh_1_1 : List Bool := [true, true, true, true, false, false, false, true, true, true, true, true, true, false, false, false, false, false, false, false, false, false, false, false, false, false, false, false]

theorem lp_impl_copyMesh_1 (m_0 : GMesh) (hp0 : m_0.Places.length ≤ 1073741824) (hp1 : m_0.Triangles.length ≤ 1073741824) (hp2 : ∀ t ∈ m_0.Triangles, t.length ≤ 1073741824) (hp3 : OkTris m_0.Places.length m_0.Triangles) : ∀ (k : Nat) (x_l0 : Int) (r4_l1 : (List (List Int))) (hv_impl_copyMesh_1_0 : 0 ≤ x_l0) (hv_impl_copyMesh_1_1 : (r4_l1.length : Int) = x_l0) (hk : ((m_0.Triangles.length : Int) - x_l0).toNat < k), Lp prog 0 (sub (bodyOf f100) [1, 1, 0, 1, 0, 0]) (hd_impl_copyMesh_1 m_0 x_l0 r4_l1) (ls_impl_copyMesh_1 m_0 (lo_impl_copyMesh_1 m_0 k x_l0 r4_l1)).1 (ls_impl_copyMesh_1 m_0 (lo_impl_copyMesh_1 m_0 k x_l0 r4_l1)).2 := by
 intro k
 induction k with
 | zero => intro x_l0 r4_l1 hv_impl_copyMesh_1_0 hv_impl_copyMesh_1_1 hk; exact absurd hk (Nat.not_lt_zero _)
 | succ k ih =>
  intro x_l0 r4_l1 hv_impl_copyMesh_1_0 hv_impl_copyMesh_1_1 hk
  cases h_0 : (decide (x_l0 < (m_0.Triangles.length : Int))) with
  | true =>
   have gh_0 := of_decide_eq_true h_0
   have y_0 : (0 : Int) ≤ x_l0 := (by first | assumption | omega | (have q := (OkTris.at hp3 hv_impl_copyMesh_1_0 (of_decide_eq_true (by assumption))).1; omega) | (simp_all <;> omega))
   have y_1 : x_l0 < (m_0.Triangles.length : Int) := (by first | assumption | omega | (have q := (OkTris.at hp3 hv_impl_copyMesh_1_0 (of_decide_eq_true (by assumption))).1; omega) | (simp_all <;> omega))
   have y_2 : ([] : List Int).length + (m_0.Triangles.getD x_l0.toNat default).length ≤ 1073741824 := (by first | assumption | omega | (have q := (OkTris.at hp3 hv_impl_copyMesh_1_0 (of_decide_eq_true (by assumption))).1; omega) | (simp_all <;> omega))
   have y_3 : r4_l1.length + [(([] : List Int) ++ (m_0.Triangles.getD x_l0.toNat default))].length ≤ 1073741824 := (by first | assumption | omega | (have q := (OkTris.at hp3 hv_impl_copyMesh_1_0 (of_decide_eq_true (by assumption))).1; omega) | (simp_all <;> omega))
   have y_4 : (-9223372036854775808 : Int) ≤ (x_l0 + 1) := (by first | assumption | omega | (have q := (OkTris.at hp3 hv_impl_copyMesh_1_0 (of_decide_eq_true (by assumption))).1; omega) | (simp_all <;> omega))
   have y_5 : (x_l0 + 1) ≤ (9223372036854775807 : Int) := (by first | assumption | omega | (have q := (OkTris.at hp3 hv_impl_copyMesh_1_0 (of_decide_eq_true (by assumption))).1; omega) | (simp_all <;> omega))
   have e : lo_impl_copyMesh_1 m_0 (k + 1) x_l0 r4_l1 = (lo_impl_copyMesh_1 m_0 k (x_l0 + 1) (r4_l1 ++ [(([] : List Int) ++ (m_0.Triangles.getD x_l0.toNat default))])) := by simp only [lo_impl_copyMesh_1, h_0, cond_true]
   rw [e]
   exact nextS E0Ok hMixed [] mk_impl_copyMesh_1_0 [0, 1, 2, 3, 4] (⟨[.agg [.sl (m_0.Places.map GVector.cells), .sl (m_0.Triangles.map (cL (cI .i64)))], .ptr 0 0 0, .ptr 1 0 0, .ptr 3 0 0, .any, .any, .any, .ptr 0 0 0, .sl (m_0.Places.map GVector.cells), .own 2, .agg [.own 2, .nils], .ptr 0 0 1, .sl (m_0.Triangles.map (cL (cI .i64))), .i .i64 (m_0.Triangles.length : Int), .i .i64 (x_l0 + 1), .any, .any, .any, .any, .any, .any, .any, .any, .any, .any, .any, .any, .any], [.box 42 [.sl (m_0.Places.map GVector.cells), .sl (m_0.Triangles.map (cL (cI .i64)))], .box 42 [.nils, .nils], .vec 44 3 (([] : List (List AV)) ++ (m_0.Places.map GVector.cells)) false, .box 42 [.own 2, .own 4], .nest 52 ((r4_l1.map fun l => l.map (cI .i64)) ++ [(([] : List (List AV)) ++ ((m_0.Triangles.getD x_l0.toNat default).map (cI .i64)))]) false]⟩) (sB h_0 <| sG (cL (cI .i64)) m_0.Triangles x_l0 y_0 y_1 <| sK [6, 6] <| sC (show ((m_0.Triangles.getD x_l0.toNat default).map (cI .i64)) ≠ [] from (by have q := (OkTris.at hp3 hv_impl_copyMesh_1_0 (of_decide_eq_true (by assumption))).1; have q2 : (m_0.Triangles.getD x_l0.toNat default) ≠ [] := (by intro hq; rw [hq] at q; simp at q); simpa using q2)) <| sC (show ([] : List (List AV)).length + ((m_0.Triangles.getD x_l0.toNat default).map (cI .i64)).length ≤ 1073741824 from (by simpa using y_2)) <| sC (show ((m_0.Triangles.getD x_l0.toNat default).map (cI .i64)).all (fun cs => cs.length == 1 && cs.all isS) = true from (src_ok (fun _ => rfl))) <| sC (show (r4_l1.map fun l => l.map (cI .i64)).length + [(([] : List (List AV)) ++ ((m_0.Triangles.getD x_l0.toNat default).map (cI .i64)))].length ≤ 1073741824 from (by simpa using y_3)) <| sI (x_l0 + 1) y_4 y_5 <| sN) (by kernel_rfl) (show _ = ⟨[.agg [.sl (m_0.Places.map GVector.cells), .sl (m_0.Triangles.map (cL (cI .i64)))], .ptr 0 0 0, .ptr 1 0 0, .ptr 3 0 0, .any, .any, .any, .ptr 0 0 0, .sl (m_0.Places.map GVector.cells), .own 2, .agg [.own 2, .nils], .ptr 0 0 1, .sl (m_0.Triangles.map (cL (cI .i64))), .i .i64 (m_0.Triangles.length : Int), .i .i64 (x_l0 + 1), .any, .any, .any, .any, .any, .any, .any, .any, .any, .any, .any, .any, .any], [.box 42 [.sl (m_0.Places.map GVector.cells), .sl (m_0.Triangles.map (cL (cI .i64)))], .box 42 [.nils, .nils], .vec 44 3 (([] : List (List AV)) ++ (m_0.Places.map GVector.cells)) false, .box 42 [.own 2, .own 4], .nest 52 ((r4_l1 ++ [(([] : List Int) ++ (m_0.Triangles.getD x_l0.toNat default))]).map fun l => l.map (cI .i64)) false]⟩ from (by simp [GVector.cells, cL])) (ih (x_l0 + 1) (r4_l1 ++ [(([] : List Int) ++ (m_0.Triangles.getD x_l0.toNat default))]) (show 0 ≤ (x_l0 + 1) from (by first | assumption | omega | (have q := (OkTris.at hp3 hv_impl_copyMesh_1_0 (of_decide_eq_true (by assumption))).1; omega) | (simp_all <;> omega))) (show ((r4_l1 ++ [(([] : List Int) ++ (m_0.Triangles.getD x_l0.toNat default))]).length : Int) = (x_l0 + 1) from (by first | assumption | omega | (have q := (OkTris.at hp3 hv_impl_copyMesh_1_0 (of_decide_eq_true (by assumption))).1; omega) | (simp_all <;> omega))) (by first | assumption | omega | (have q := (OkTris.at hp3 hv_impl_copyMesh_1_0 (of_decide_eq_true (by assumption))).1; omega) | (simp_all <;> omega)))
  | false =>
   have gh_0 := of_decide_eq_false h_0
   have e : lo_impl_copyMesh_1 m_0 (k + 1) x_l0 r4_l1 = r4_l1 := by simp only [lo_impl_copyMesh_1, h_0, cond_false]
   rw [e]
   exact outR (e := (.exit 0)) E0Ok hMixed [] mk_impl_copyMesh_1_1 [0, 1, 3, 2, 4] (sB h_0 <| sN) (by kernel_rfl) (by intro h; cases h)

def lr_impl_copyMesh_1_0 (m_0 : GMesh) : (List (List Int)) := (lo_impl_copyMesh_1 m_0 (((m_0.Triangles.length : Int) - 0).toNat + 1) 0 ([] : List (List Int)))

def v_impl_copyMesh (m_0 : GMesh) : GMesh := (⟨(([] : List GVector) ++ m_0.Places), (lr_impl_copyMesh_1_0 m_0)⟩ : GMesh)

theorem t_impl_copyMesh (m_0 : GMesh) (hp0 : m_0.Places.length ≤ 1073741824) (hp1 : m_0.Triangles.length ≤ 1073741824) (hp2 : ∀ t ∈ m_0.Triangles, t.length ≤ 1073741824) (hp3 : OkTris m_0.Places.length m_0.Triangles)  : Fn prog 100 [.agg [.sl (m_0.Places.map GVector.cells), .sl (m_0.Triangles.map (cL (cI .i64)))]] (.agg [.own 0, .own 1]) [.vec 44 3 (((v_impl_copyMesh m_0).Places).map GVector.cells) false, .nest 52 (((v_impl_copyMesh m_0).Triangles).map fun l => l.map (cI .i64)) false] := by
 have y0 : ([] : List GVector).length + m_0.Places.length ≤ 1073741824 := (by first | assumption | omega | (have q := (OkTris.at hp3 hv_impl_copyMesh_1_0 (of_decide_eq_true (by assumption))).1; omega) | (simp_all <;> omega))
 refine fnS E0Ok hMixed (c := bodyOf f100) [] (.agg [.own 0, .own 1]) [.vec 44 3 (([] : List (List AV)) ++ (m_0.Places.map GVector.cells)) false, .nest 52 ((lr_impl_copyMesh_1_0 m_0).map fun l => l.map (cI .i64)) false] func100 (sC (show ([] : List (List AV)).length + (m_0.Places.map GVector.cells).length ≤ 1073741824 from (by simpa using y0)) <| sC (show (m_0.Places.map GVector.cells).all (fun cs => cs.length == 3 && cs.all isS) = true from (src_ok (fun _ => rfl))) <| sZ (cL (cI .i64)) m_0.Triangles <| sL mk_impl_copyMesh_1_0 4 (Lp.nil (st := ⟨[.agg [.sl (m_0.Places.map GVector.cells), .sl (m_0.Triangles.map (cL (cI .i64)))], .ptr 0 0 0, .ptr 1 0 0, .ptr 3 0 0, .any, .any, .any, .ptr 0 0 0, .sl (m_0.Places.map GVector.cells), .own 2, .agg [.own 2, .nils], .ptr 0 0 1, .sl (m_0.Triangles.map (cL (cI .i64))), .i .i64 (m_0.Triangles.length : Int), .i .i64 0, .any, .any, .any, .any, .any, .any, .any, .any, .any, .any, .any, .any, .any], [.box 42 [.sl (m_0.Places.map GVector.cells), .sl (m_0.Triangles.map (cL (cI .i64)))], .box 42 [.nils, .nils], .vec 44 3 (([] : List (List AV)) ++ (m_0.Places.map GVector.cells)) false, .box 42 [.own 2, .nils]]⟩) (st2 := ⟨[.agg [.sl (m_0.Places.map GVector.cells), .sl (m_0.Triangles.map (cL (cI .i64)))], .ptr 0 0 0, .ptr 1 0 0, .ptr 3 0 0, .any, .any, .any, .ptr 0 0 0, .sl (m_0.Places.map GVector.cells), .own 2, .agg [.own 2, .nils], .ptr 0 0 1, .sl (m_0.Triangles.map (cL (cI .i64))), .i .i64 (m_0.Triangles.length : Int), .i .i64 0, .any, .any, .any, .any, .any, .any, .any, .any, .any, .any, .any, .any, .any], [.box 42 [.sl (m_0.Places.map GVector.cells), .sl (m_0.Triangles.map (cL (cI .i64)))], .box 42 [.nils, .nils], .vec 44 3 (([] : List (List AV)) ++ (m_0.Places.map GVector.cells)) false, .box 42 [.own 2, .own 4], .nest 52 [] false]⟩) (ps := [(.row 3 1, .nest 52 [] false)]) rfl (lp_cast (st2 := ⟨[.agg [.sl (m_0.Places.map GVector.cells), .sl (m_0.Triangles.map (cL (cI .i64)))], .ptr 0 0 0, .ptr 1 0 0, .ptr 3 0 0, .any, .any, .any, .ptr 0 0 0, .sl (m_0.Places.map GVector.cells), .own 2, .agg [.own 2, .nils], .ptr 0 0 1, .sl (m_0.Triangles.map (cL (cI .i64))), .i .i64 (m_0.Triangles.length : Int), .i .i64 0, .any, .any, .any, .any, .any, .any, .any, .any, .any, .any, .any, .any, .any], [.box 42 [.sl (m_0.Places.map GVector.cells), .sl (m_0.Triangles.map (cL (cI .i64)))], .box 42 [.nils, .nils], .vec 44 3 (([] : List (List AV)) ++ (m_0.Places.map GVector.cells)) false, .box 42 [.own 2, .own 4], .nest 52 [] false]⟩) (lp_val (ls_impl_copyMesh_1 m_0) (x := (lr_impl_copyMesh_1_0 m_0)) (lp_impl_copyMesh_1 m_0 hp0 hp1 hp2 hp3 (((m_0.Triangles.length : Int) - 0).toNat + 1) 0 ([] : List (List Int)) (show 0 ≤ 0 from (by first | assumption | omega | (have q := (OkTris.at hp3 hv_impl_copyMesh_1_0 (of_decide_eq_true (by assumption))).1; omega) | (simp_all <;> omega))) (show (([] : List (List Int)).length : Int) = 0 from (by simp)) (Nat.lt_succ_self _)) rfl) (by simp [hd_impl_copyMesh_1, GVector.cells, cL]))) <| sK [3, 4] sN) rfl (by kernel_rfl) (by kernel_rfl) rfl ?_ ?_
 · rfl
 · simp [v_impl_copyMesh, GVector.cells]

@[simp] theorem eq_copyMesh (m : GMesh) : v_impl_copyMesh m = m := by
  unfold v_impl_copyMesh lr_impl_copyMesh_1_0
  rw [app_loop (f := fun i => (m.Triangles.getD i.toNat default)) (n := (m.Triangles.length : Int)) (lo := lo_impl_copyMesh_1 m) (fun k i r => rfl) _ _ _ (Nat.lt_succ_self _)]
  simp [getD_range2]

def v_impl_LessVectors (a_0 : GVector) (b_1 : GVector) : GVector := (⟨(fop .sub .f32 a_0.X b_1.X), (fop .sub .f32 a_0.Y b_1.Y), (fop .sub .f32 a_0.Z b_1.Z)⟩ : GVector)

theorem t_impl_LessVectors (a_0 : GVector) (b_1 : GVector)   : Fn prog 123 [.agg [.f .f32 a_0.X, .f .f32 a_0.Y, .f .f32 a_0.Z], .agg [.f .f32 b_1.X, .f .f32 b_1.Y, .f .f32 b_1.Z]] (.agg [.f .f32 ((v_impl_LessVectors a_0 b_1).X), .f .f32 ((v_impl_LessVectors a_0 b_1).Y), .f .f32 ((v_impl_LessVectors a_0 b_1).Z)]) [] := by
 refine fnS E0Ok hMixed (c := bodyOf f123) [] (.agg [.f .f32 (fop .sub .f32 a_0.X b_1.X), .f .f32 (fop .sub .f32 a_0.Y b_1.Y), .f .f32 (fop .sub .f32 a_0.Z b_1.Z)]) [] func123 (sK [] sN) rfl (by kernel_rfl) (by kernel_rfl) rfl ?_ ?_
 · rfl
 · rfl

def v_impl_ScaleVector (v_0 : GVector) (by_1 : Nat) : GVector := (⟨(fop .mul .f32 v_0.X by_1), (fop .mul .f32 v_0.Y by_1), (fop .mul .f32 v_0.Z by_1)⟩ : GVector)

theorem t_impl_ScaleVector (v_0 : GVector) (by_1 : Nat)   : Fn prog 122 [.agg [.f .f32 v_0.X, .f .f32 v_0.Y, .f .f32 v_0.Z], .f .f32 by_1] (.agg [.f .f32 ((v_impl_ScaleVector v_0 by_1).X), .f .f32 ((v_impl_ScaleVector v_0 by_1).Y), .f .f32 ((v_impl_ScaleVector v_0 by_1).Z)]) [] := by
 refine fnS E0Ok hMixed (c := bodyOf f122) [] (.agg [.f .f32 (fop .mul .f32 v_0.X by_1), .f .f32 (fop .mul .f32 v_0.Y by_1), .f .f32 (fop .mul .f32 v_0.Z by_1)]) [] func122 (sK [] sN) rfl (by kernel_rfl) (by kernel_rfl) rfl ?_ ?_
 · rfl
 · rfl

def v_impl_alongWay (h_0 : GHold) (v_1 : GVector) : GVector := (v_impl_ScaleVector h_0.Way (fop .quo .f32 (v_impl_InnerOf v_1 h_0.Way) (v_impl_InnerOf h_0.Way h_0.Way)))

theorem t_impl_alongWay (h_0 : GHold) (v_1 : GVector)   : Fn prog 158 [.agg [.i .i64 h_0.Place, .i .i64 h_0.Kind, .f .f32 h_0.At.X, .f .f32 h_0.At.Y, .f .f32 h_0.At.Z, .f .f32 h_0.Way.X, .f .f32 h_0.Way.Y, .f .f32 h_0.Way.Z], .agg [.f .f32 v_1.X, .f .f32 v_1.Y, .f .f32 v_1.Z]] (.agg [.f .f32 ((v_impl_alongWay h_0 v_1).X), .f .f32 ((v_impl_alongWay h_0 v_1).Y), .f .f32 ((v_impl_alongWay h_0 v_1).Z)]) [] := by
 refine fnS E0Ok hMixed (c := bodyOf f158) [] (.agg [.f .f32 ((v_impl_ScaleVector h_0.Way (fop .quo .f32 (v_impl_InnerOf v_1 h_0.Way) (v_impl_InnerOf h_0.Way h_0.Way))).X), .f .f32 ((v_impl_ScaleVector h_0.Way (fop .quo .f32 (v_impl_InnerOf v_1 h_0.Way) (v_impl_InnerOf h_0.Way h_0.Way))).Y), .f .f32 ((v_impl_ScaleVector h_0.Way (fop .quo .f32 (v_impl_InnerOf v_1 h_0.Way) (v_impl_InnerOf h_0.Way h_0.Way))).Z)]) [] func158 (sK [12, 12] <| sF (t_impl_InnerOf v_1 h_0.Way) <| sF (t_impl_InnerOf h_0.Way h_0.Way) <| sF (t_impl_ScaleVector h_0.Way (fop .quo .f32 (v_impl_InnerOf v_1 h_0.Way) (v_impl_InnerOf h_0.Way h_0.Way))) <| sK [] sN) rfl (by kernel_rfl) (by kernel_rfl) rfl ?_ ?_
 · rfl
 · rfl

def v_impl_AddVectors (a_0 : GVector) (b_1 : GVector) : GVector := (⟨(fop .add .f32 a_0.X b_1.X), (fop .add .f32 a_0.Y b_1.Y), (fop .add .f32 a_0.Z b_1.Z)⟩ : GVector)

theorem t_impl_AddVectors (a_0 : GVector) (b_1 : GVector)   : Fn prog 121 [.agg [.f .f32 a_0.X, .f .f32 a_0.Y, .f .f32 a_0.Z], .agg [.f .f32 b_1.X, .f .f32 b_1.Y, .f .f32 b_1.Z]] (.agg [.f .f32 ((v_impl_AddVectors a_0 b_1).X), .f .f32 ((v_impl_AddVectors a_0 b_1).Y), .f .f32 ((v_impl_AddVectors a_0 b_1).Z)]) [] := by
 refine fnS E0Ok hMixed (c := bodyOf f121) [] (.agg [.f .f32 (fop .add .f32 a_0.X b_1.X), .f .f32 (fop .add .f32 a_0.Y b_1.Y), .f .f32 (fop .add .f32 a_0.Z b_1.Z)]) [] func121 (sK [] sN) rfl (by kernel_rfl) (by kernel_rfl) rfl ?_ ?_
 · rfl
 · rfl

def v_impl_holdPlace (h_0 : GHold) (place_1 : GVector) : GVector := (cond (h_0.Kind == 0)
  h_0.At
  (cond (h_0.Kind == 1)
    (v_impl_AddVectors h_0.At (v_impl_alongWay h_0 (v_impl_LessVectors place_1 h_0.At)))
    (v_impl_LessVectors place_1 (v_impl_alongWay h_0 (v_impl_LessVectors place_1 h_0.At)))))

theorem t_impl_holdPlace (h_0 : GHold) (place_1 : GVector)   : Fn prog 106 [.agg [.i .i64 h_0.Place, .i .i64 h_0.Kind, .f .f32 h_0.At.X, .f .f32 h_0.At.Y, .f .f32 h_0.At.Z, .f .f32 h_0.Way.X, .f .f32 h_0.Way.Y, .f .f32 h_0.Way.Z], .agg [.f .f32 place_1.X, .f .f32 place_1.Y, .f .f32 place_1.Z]] (.agg [.f .f32 ((v_impl_holdPlace h_0 place_1).X), .f .f32 ((v_impl_holdPlace h_0 place_1).Y), .f .f32 ((v_impl_holdPlace h_0 place_1).Z)]) [] := by
 cases h0 : (h_0.Kind == 0) with
 | true =>
  have gh0 := eq_of_beq h0
  refine fnS E0Ok hMixed (c := bodyOf f106) [] (.agg [.f .f32 h_0.At.X, .f .f32 h_0.At.Y, .f .f32 h_0.At.Z]) [] func106 (sB h0 <| sK [] sN) rfl (by kernel_rfl) (by kernel_rfl) rfl ?_ ?_
  · simp only [v_impl_holdPlace, h0, cond_true]
  · rfl
 | false =>
  have gh0 := ne_of_beq_false h0
  have p {a C} (s : Scr a C) := sB h0 <| sK [7, 7] <| sF (t_impl_LessVectors place_1 h_0.At) <| sF (t_impl_alongWay h_0 (v_impl_LessVectors place_1 h_0.At)) <| s
  cases h1 : (h_0.Kind == 1) with
  | true =>
   have gh1 := eq_of_beq h1
   refine fnS E0Ok hMixed (c := bodyOf f106) [] (.agg [.f .f32 ((v_impl_AddVectors h_0.At (v_impl_alongWay h_0 (v_impl_LessVectors place_1 h_0.At))).X), .f .f32 ((v_impl_AddVectors h_0.At (v_impl_alongWay h_0 (v_impl_LessVectors place_1 h_0.At))).Y), .f .f32 ((v_impl_AddVectors h_0.At (v_impl_alongWay h_0 (v_impl_LessVectors place_1 h_0.At))).Z)]) [] func106 (p (sB h1 <| sF (t_impl_AddVectors h_0.At (v_impl_alongWay h_0 (v_impl_LessVectors place_1 h_0.At))) <| sK [] sN)) rfl (by kernel_rfl) (by kernel_rfl) rfl ?_ ?_
   · simp only [v_impl_holdPlace, h0, h1, cond_true, cond_false]
   · rfl
  | false =>
   have gh1 := ne_of_beq_false h1
   refine fnS E0Ok hMixed (c := bodyOf f106) [] (.agg [.f .f32 ((v_impl_LessVectors place_1 (v_impl_alongWay h_0 (v_impl_LessVectors place_1 h_0.At))).X), .f .f32 ((v_impl_LessVectors place_1 (v_impl_alongWay h_0 (v_impl_LessVectors place_1 h_0.At))).Y), .f .f32 ((v_impl_LessVectors place_1 (v_impl_alongWay h_0 (v_impl_LessVectors place_1 h_0.At))).Z)]) [] func106 (p (sB h1 <| sF (t_impl_LessVectors place_1 (v_impl_alongWay h_0 (v_impl_LessVectors place_1 h_0.At))) <| sK [] sN)) rfl (by kernel_rfl) (by kernel_rfl) rfl ?_ ?_
   · simp only [v_impl_holdPlace, h0, h1, cond_false]
   · rfl

def lo_impl_HoldMesh_1 (m_0 : GMesh) (holds_1 : (List GHold)) : Nat → Int → (List GVector) → (List GVector)
  | 0, _, _ => default
  | k + 1, x_l0, r2_l1 => (cond (decide (x_l0 < (holds_1.length : Int)))
    (lo_impl_HoldMesh_1 m_0 holds_1 k (x_l0 + 1) (r2_l1.set (((holds_1.getD x_l0.toNat default).Place).toNat) (v_impl_holdPlace (holds_1.getD x_l0.toNat default) (r2_l1.getD (((holds_1.getD x_l0.toNat default).Place).toNat) default))))
    r2_l1)

def ls_impl_HoldMesh_1 (m_0 : GMesh) (holds_1 : (List GHold)) (r : (List GVector)) : Ex × St := ((.exit 0), ⟨[.agg [.sl (m_0.Places.map GVector.cells), .sl (m_0.Triangles.map (cL (cI .i64)))], .sl (holds_1.map GHold.cells), .ptr 0 0 0, .any, .ptr 1 0 0, .b false, .ptr 2 0 0, .any, .any, .agg [.sl (m_0.Places.map GVector.cells), .sl (m_0.Triangles.map (cL (cI .i64)))], .sl (holds_1.map GHold.cells), .b (v_impl_AreHolds m_0 holds_1), .b (!(v_impl_AreHolds m_0 holds_1)), .any, .agg [.sl (m_0.Places.map GVector.cells), .sl (m_0.Triangles.map (cL (cI .i64)))], .agg [.own 3, .own 4], .sl (holds_1.map GHold.cells), .any, .any, .any, .any, .any, .any, .any, .any, .any, .any, .any, .any, .any, .any, .any, .any, .any, .any, .any, .any], [.box 42 [.sl (m_0.Places.map GVector.cells), .sl (m_0.Triangles.map (cL (cI .i64)))], .box 42 [.nils, .nils], .box 42 [.own 3, .own 4], .vec 44 3 (r.map GVector.cells) false, .nest 52 (((v_impl_copyMesh m_0).Triangles).map fun l => l.map (cI .i64)) false]⟩)

def hd_impl_HoldMesh_1 (m_0 : GMesh) (holds_1 : (List GHold)) (x_l0 : Int) (r2_l1 : (List GVector)) : St := ⟨[.agg [.sl (m_0.Places.map GVector.cells), .sl (m_0.Triangles.map (cL (cI .i64)))], .sl (holds_1.map GHold.cells), .ptr 0 0 0, .any, .ptr 1 0 0, .b false, .ptr 4 0 0, .any, .any, .agg [.sl (m_0.Places.map GVector.cells), .sl (m_0.Triangles.map (cL (cI .i64)))], .sl (holds_1.map GHold.cells), .b (v_impl_AreHolds m_0 holds_1), .b (!(v_impl_AreHolds m_0 holds_1)), .any, .agg [.sl (m_0.Places.map GVector.cells), .sl (m_0.Triangles.map (cL (cI .i64)))], .agg [.own 2, .own 3], .sl (holds_1.map GHold.cells), .i .i64 (holds_1.length : Int), .i .i64 x_l0, .any, .any, .any, .any, .any, .any, .any, .any, .any, .any, .any, .any, .any, .any, .any, .any, .any, .any], [.box 42 [.sl (m_0.Places.map GVector.cells), .sl (m_0.Triangles.map (cL (cI .i64)))], .box 42 [.nils, .nils], .vec 44 3 (r2_l1.map GVector.cells) false, .nest 52 (((v_impl_copyMesh m_0).Triangles).map fun l => l.map (cI .i64)) false, .box 42 [.own 2, .own 3]]⟩

def mk_impl_HoldMesh_1_0 : List Bool := [true, true, true, false, true, true, true, false, false, true, true, true, true, false, true, true, true, true, true, false, false, false, false, false, false, false, false, false, false, false, false, false, false, false, false, false, false]

def mk_impl_HoldMesh_1_1 : List Bool := [true, true, true, false, true, true, true, false, false, true, true, true, true, false, true, true, true, false, false, false, false, false, false, false, false, false, false, false, false, false, false, false, false, false, false, false, false]

theorem lp_impl_HoldMesh_1 (m_0 : GMesh) (holds_1 : (List GHold)) (hp0 : m_0.Places.length ≤ 1073741824) (hp1 : m_0.Triangles.length ≤ 1073741824) (hp2 : ∀ t ∈ m_0.Triangles, t.length ≤ 1073741824) (hp3 : holds_1.length ≤ 1073741824) (hf_impl_HoldMesh_1_0 : (v_impl_AreHolds m_0 holds_1) = true) : ∀ (k : Nat) (x_l0 : Int) (r2_l1 : (List GVector)) (hv_impl_HoldMesh_1_0 : 0 ≤ x_l0) (hv_impl_HoldMesh_1_1 : r2_l1.length = ((v_impl_copyMesh m_0).Places).length) (hk : ((holds_1.length : Int) - x_l0).toNat < k), Lp prog 0 (sub (bodyOf f48) [1, 1, 1, 0, 1, 0, 0]) (hd_impl_HoldMesh_1 m_0 holds_1 x_l0 r2_l1) (ls_impl_HoldMesh_1 m_0 holds_1 (lo_impl_HoldMesh_1 m_0 holds_1 k x_l0 r2_l1)).1 (ls_impl_HoldMesh_1 m_0 holds_1 (lo_impl_HoldMesh_1 m_0 holds_1 k x_l0 r2_l1)).2 := by
 intro k
 induction k with
 | zero => intro x_l0 r2_l1 hv_impl_HoldMesh_1_0 hv_impl_HoldMesh_1_1 hk; exact absurd hk (Nat.not_lt_zero _)
 | succ k ih =>
  intro x_l0 r2_l1 hv_impl_HoldMesh_1_0 hv_impl_HoldMesh_1_1 hk
  cases h_0 : (decide (x_l0 < (holds_1.length : Int))) with
  | true =>
   have gh_0 := of_decide_eq_true h_0
   have y_0 : (0 : Int) ≤ x_l0 := (by first | assumption | omega | (have hi : x_l0 < (holds_1.length : Int) := of_decide_eq_true (by assumption); have h0 : 0 ≤ x_l0 := (by assumption); have q := OkIx.at (okH_is m_0 holds_1 (by rw [← eq_AreHolds]; assumption)).2.1 h0 hi; simp only [eq_copyMesh] at *; omega) | (simp_all <;> omega))
   have y_1 : x_l0 < (holds_1.length : Int) := (by first | assumption | omega | (have hi : x_l0 < (holds_1.length : Int) := of_decide_eq_true (by assumption); have h0 : 0 ≤ x_l0 := (by assumption); have q := OkIx.at (okH_is m_0 holds_1 (by rw [← eq_AreHolds]; assumption)).2.1 h0 hi; simp only [eq_copyMesh] at *; omega) | (simp_all <;> omega))
   have y_2 : (0 : Int) ≤ ((holds_1.getD x_l0.toNat default).Place) := (by first | assumption | omega | (have hi : x_l0 < (holds_1.length : Int) := of_decide_eq_true (by assumption); have h0 : 0 ≤ x_l0 := (by assumption); have q := OkIx.at (okH_is m_0 holds_1 (by rw [← eq_AreHolds]; assumption)).2.1 h0 hi; simp only [eq_copyMesh] at *; omega) | (simp_all <;> omega))
   have y_3 : ((holds_1.getD x_l0.toNat default).Place) < (r2_l1.length : Int) := (by first | assumption | omega | (have hi : x_l0 < (holds_1.length : Int) := of_decide_eq_true (by assumption); have h0 : 0 ≤ x_l0 := (by assumption); have q := OkIx.at (okH_is m_0 holds_1 (by rw [← eq_AreHolds]; assumption)).2.1 h0 hi; simp only [eq_copyMesh] at *; omega) | (simp_all <;> omega))
   have y_4 : ((holds_1.getD x_l0.toNat default).Place).toNat < r2_l1.length := (by first | assumption | omega | (have hi : x_l0 < (holds_1.length : Int) := of_decide_eq_true (by assumption); have h0 : 0 ≤ x_l0 := (by assumption); have q := OkIx.at (okH_is m_0 holds_1 (by rw [← eq_AreHolds]; assumption)).2.1 h0 hi; simp only [eq_copyMesh] at *; omega) | (simp_all <;> omega))
   have y_5 : (-9223372036854775808 : Int) ≤ (x_l0 + 1) := (by first | assumption | omega | (have hi : x_l0 < (holds_1.length : Int) := of_decide_eq_true (by assumption); have h0 : 0 ≤ x_l0 := (by assumption); have q := OkIx.at (okH_is m_0 holds_1 (by rw [← eq_AreHolds]; assumption)).2.1 h0 hi; simp only [eq_copyMesh] at *; omega) | (simp_all <;> omega))
   have y_6 : (x_l0 + 1) ≤ (9223372036854775807 : Int) := (by first | assumption | omega | (have hi : x_l0 < (holds_1.length : Int) := of_decide_eq_true (by assumption); have h0 : 0 ≤ x_l0 := (by assumption); have q := OkIx.at (okH_is m_0 holds_1 (by rw [← eq_AreHolds]; assumption)).2.1 h0 hi; simp only [eq_copyMesh] at *; omega) | (simp_all <;> omega))
   have e : lo_impl_HoldMesh_1 m_0 holds_1 (k + 1) x_l0 r2_l1 = (lo_impl_HoldMesh_1 m_0 holds_1 k (x_l0 + 1) (r2_l1.set (((holds_1.getD x_l0.toNat default).Place).toNat) (v_impl_holdPlace (holds_1.getD x_l0.toNat default) (r2_l1.getD (((holds_1.getD x_l0.toNat default).Place).toNat) default)))) := by simp only [lo_impl_HoldMesh_1, h_0, cond_true]
   rw [e]
   exact nextS E0Ok hMixed [] mk_impl_HoldMesh_1_0 [0, 1, 2, 3, 4] (⟨[.agg [.sl (m_0.Places.map GVector.cells), .sl (m_0.Triangles.map (cL (cI .i64)))], .sl (holds_1.map GHold.cells), .ptr 0 0 0, .any, .ptr 1 0 0, .b false, .ptr 4 0 0, .any, .any, .agg [.sl (m_0.Places.map GVector.cells), .sl (m_0.Triangles.map (cL (cI .i64)))], .sl (holds_1.map GHold.cells), .b (v_impl_AreHolds m_0 holds_1), .b (!(v_impl_AreHolds m_0 holds_1)), .any, .agg [.sl (m_0.Places.map GVector.cells), .sl (m_0.Triangles.map (cL (cI .i64)))], .agg [.own 2, .own 3], .sl (holds_1.map GHold.cells), .i .i64 (holds_1.length : Int), .i .i64 (x_l0 + 1), .any, .any, .any, .any, .any, .any, .any, .any, .any, .any, .any, .any, .any, .any, .any, .any, .any, .any], [.box 42 [.sl (m_0.Places.map GVector.cells), .sl (m_0.Triangles.map (cL (cI .i64)))], .box 42 [.nils, .nils], .vec 44 3 ((r2_l1.map GVector.cells).set (((holds_1.getD x_l0.toNat default).Place).toNat) [.f .f32 ((v_impl_holdPlace (holds_1.getD x_l0.toNat default) (r2_l1.getD (((holds_1.getD x_l0.toNat default).Place).toNat) default)).X), .f .f32 ((v_impl_holdPlace (holds_1.getD x_l0.toNat default) (r2_l1.getD (((holds_1.getD x_l0.toNat default).Place).toNat) default)).Y), .f .f32 ((v_impl_holdPlace (holds_1.getD x_l0.toNat default) (r2_l1.getD (((holds_1.getD x_l0.toNat default).Place).toNat) default)).Z)]) false, .nest 52 (((v_impl_copyMesh m_0).Triangles).map fun l => l.map (cI .i64)) false, .box 42 [.own 2, .own 3]]⟩) (sB h_0 <| sG GHold.cells holds_1 x_l0 y_0 y_1 <| sK [12, 12] <| sX GVector.cells r2_l1 ((holds_1.getD x_l0.toNat default).Place) y_2 y_3 <| sV GVector.cells r2_l1 (((holds_1.getD x_l0.toNat default).Place).toNat) y_4 <| sF (t_impl_holdPlace (holds_1.getD x_l0.toNat default) (r2_l1.getD (((holds_1.getD x_l0.toNat default).Place).toNat) default)) <| sX GVector.cells r2_l1 ((holds_1.getD x_l0.toNat default).Place) y_2 y_3 <| sC (maplt (c := GVector.cells) (l := r2_l1) y_4) <| sI (x_l0 + 1) y_5 y_6 <| sN) (by kernel_rfl) (show _ = ⟨[.agg [.sl (m_0.Places.map GVector.cells), .sl (m_0.Triangles.map (cL (cI .i64)))], .sl (holds_1.map GHold.cells), .ptr 0 0 0, .any, .ptr 1 0 0, .b false, .ptr 4 0 0, .any, .any, .agg [.sl (m_0.Places.map GVector.cells), .sl (m_0.Triangles.map (cL (cI .i64)))], .sl (holds_1.map GHold.cells), .b (v_impl_AreHolds m_0 holds_1), .b (!(v_impl_AreHolds m_0 holds_1)), .any, .agg [.sl (m_0.Places.map GVector.cells), .sl (m_0.Triangles.map (cL (cI .i64)))], .agg [.own 2, .own 3], .sl (holds_1.map GHold.cells), .i .i64 (holds_1.length : Int), .i .i64 (x_l0 + 1), .any, .any, .any, .any, .any, .any, .any, .any, .any, .any, .any, .any, .any, .any, .any, .any, .any, .any], [.box 42 [.sl (m_0.Places.map GVector.cells), .sl (m_0.Triangles.map (cL (cI .i64)))], .box 42 [.nils, .nils], .vec 44 3 ((r2_l1.set (((holds_1.getD x_l0.toNat default).Place).toNat) (v_impl_holdPlace (holds_1.getD x_l0.toNat default) (r2_l1.getD (((holds_1.getD x_l0.toNat default).Place).toNat) default))).map GVector.cells) false, .nest 52 (((v_impl_copyMesh m_0).Triangles).map fun l => l.map (cI .i64)) false, .box 42 [.own 2, .own 3]]⟩ from (by simp [List.map_set, GVector.cells])) (ih (x_l0 + 1) (r2_l1.set (((holds_1.getD x_l0.toNat default).Place).toNat) (v_impl_holdPlace (holds_1.getD x_l0.toNat default) (r2_l1.getD (((holds_1.getD x_l0.toNat default).Place).toNat) default))) (show 0 ≤ (x_l0 + 1) from (by first | assumption | omega | (have hi : x_l0 < (holds_1.length : Int) := of_decide_eq_true (by assumption); have h0 : 0 ≤ x_l0 := (by assumption); have q := OkIx.at (okH_is m_0 holds_1 (by rw [← eq_AreHolds]; assumption)).2.1 h0 hi; simp only [eq_copyMesh] at *; omega) | (simp_all <;> omega))) (show (r2_l1.set (((holds_1.getD x_l0.toNat default).Place).toNat) (v_impl_holdPlace (holds_1.getD x_l0.toNat default) (r2_l1.getD (((holds_1.getD x_l0.toNat default).Place).toNat) default))).length = ((v_impl_copyMesh m_0).Places).length from (by first | assumption | omega | (have hi : x_l0 < (holds_1.length : Int) := of_decide_eq_true (by assumption); have h0 : 0 ≤ x_l0 := (by assumption); have q := OkIx.at (okH_is m_0 holds_1 (by rw [← eq_AreHolds]; assumption)).2.1 h0 hi; simp only [eq_copyMesh] at *; omega) | (simp_all <;> omega))) (by first | assumption | omega | (have hi : x_l0 < (holds_1.length : Int) := of_decide_eq_true (by assumption); have h0 : 0 ≤ x_l0 := (by assumption); have q := OkIx.at (okH_is m_0 holds_1 (by rw [← eq_AreHolds]; assumption)).2.1 h0 hi; simp only [eq_copyMesh] at *; omega) | (simp_all <;> omega)))
  | false =>
   have gh_0 := of_decide_eq_false h_0
   have e : lo_impl_HoldMesh_1 m_0 holds_1 (k + 1) x_l0 r2_l1 = r2_l1 := by simp only [lo_impl_HoldMesh_1, h_0, cond_false]
   rw [e]
   exact outR (e := (.exit 0)) E0Ok hMixed [] mk_impl_HoldMesh_1_1 [0, 1, 4, 2, 3] (sB h_0 <| sN) (by kernel_rfl) (by intro h; cases h)

theorem ln_impl_HoldMesh_1_0 (m_0 : GMesh) (holds_1 : (List GHold)) : ∀ (k : Nat) (x_l0 : Int) (r2_l1 : (List GVector)) (hk : ((holds_1.length : Int) - x_l0).toNat < k), (lo_impl_HoldMesh_1 m_0 holds_1 k x_l0 r2_l1).length = r2_l1.length := by
  intro k
  induction k with
  | zero => intro x_l0 r2_l1 hk; exact absurd hk (Nat.not_lt_zero _)
  | succ k ih =>
    intro x_l0 r2_l1 hk
    cases h_0 : (decide (x_l0 < (holds_1.length : Int))) with
    | true =>
      have e : lo_impl_HoldMesh_1 m_0 holds_1 (k + 1) x_l0 r2_l1 = (lo_impl_HoldMesh_1 m_0 holds_1 k (x_l0 + 1) (r2_l1.set (((holds_1.getD x_l0.toNat default).Place).toNat) (v_impl_holdPlace (holds_1.getD x_l0.toNat default) (r2_l1.getD (((holds_1.getD x_l0.toNat default).Place).toNat) default)))) := by simp only [lo_impl_HoldMesh_1, h_0, cond_true]
      rw [e, ih (x_l0 + 1) (r2_l1.set (((holds_1.getD x_l0.toNat default).Place).toNat) (v_impl_holdPlace (holds_1.getD x_l0.toNat default) (r2_l1.getD (((holds_1.getD x_l0.toNat default).Place).toNat) default))) (by first | assumption | omega | (have hi : x_l0 < (holds_1.length : Int) := of_decide_eq_true (by assumption); have h0 : 0 ≤ x_l0 := (by assumption); have q := OkIx.at (okH_is m_0 holds_1 (by rw [← eq_AreHolds]; assumption)).2.1 h0 hi; simp only [eq_copyMesh] at *; omega) | (simp_all <;> omega))]; simp
    | false =>
      have e : lo_impl_HoldMesh_1 m_0 holds_1 (k + 1) x_l0 r2_l1 = r2_l1 := by simp only [lo_impl_HoldMesh_1, h_0, cond_false]
      first | (rw [e]; done) | (rw [e]; rfl)

def lr_impl_HoldMesh_1_0 (m_0 : GMesh) (holds_1 : (List GHold)) : (List GVector) := (lo_impl_HoldMesh_1 m_0 holds_1 (((holds_1.length : Int) - 0).toNat + 1) 0 ((v_impl_copyMesh m_0).Places))

@[simp] theorem len_lr_impl_HoldMesh_1_0_0 (m_0 : GMesh) (holds_1 : (List GHold)) : (lr_impl_HoldMesh_1_0 m_0 holds_1).length = (((v_impl_copyMesh m_0).Places) : (List GVector)).length := ln_impl_HoldMesh_1_0 m_0 holds_1 (((holds_1.length : Int) - 0).toNat + 1) 0 ((v_impl_copyMesh m_0).Places) (by first | exact Nat.lt_succ_self _ | simp)

def v_impl_HoldMesh (m_0 : GMesh) (holds_1 : (List GHold)) : GMesh × Bool := (cond (v_impl_AreHolds m_0 holds_1)
  ((⟨(lr_impl_HoldMesh_1_0 m_0 holds_1), (v_impl_copyMesh m_0).Triangles⟩ : GMesh), true)
  ((⟨([] : List GVector), ([] : List (List Int))⟩ : GMesh), false))

theorem leP_impl_HoldMesh (m : GMesh) (hs : List GHold) : (v_impl_HoldMesh m hs).1.Places.length ≤ m.Places.length := by
  unfold v_impl_HoldMesh
  cases v_impl_AreHolds m hs <;> simp
theorem leT_impl_HoldMesh (m : GMesh) (hs : List GHold) : (v_impl_HoldMesh m hs).1.Triangles.length ≤ m.Triangles.length := by
  unfold v_impl_HoldMesh
  cases v_impl_AreHolds m hs <;> simp
theorem mem_impl_HoldMesh (m : GMesh) (hs : List GHold) : ∀ t ∈ (v_impl_HoldMesh m hs).1.Triangles, t ∈ m.Triangles := by
  unfold v_impl_HoldMesh
  cases v_impl_AreHolds m hs <;> simp

theorem t_impl_HoldMesh (m_0 : GMesh) (holds_1 : (List GHold)) (hp0 : m_0.Places.length ≤ 1073741824) (hp1 : m_0.Triangles.length ≤ 1073741824) (hp2 : ∀ t ∈ m_0.Triangles, t.length ≤ 1073741824) (hp3 : holds_1.length ≤ 1073741824)  : Fn prog 48 [.agg [.sl (m_0.Places.map GVector.cells), .sl (m_0.Triangles.map (cL (cI .i64)))], .sl (holds_1.map GHold.cells)] (.tup [.agg [.own 0, .own 1], .b ((v_impl_HoldMesh m_0 holds_1).2)]) [.vec 44 3 (((v_impl_HoldMesh m_0 holds_1).1.Places).map GVector.cells) false, .nest 52 (((v_impl_HoldMesh m_0 holds_1).1.Triangles).map fun l => l.map (cI .i64)) false] := by
 have p {a C} (s : Scr a C) := sF (t_impl_AreHolds m_0 holds_1 hp0 hp1 hp2 hp3) <| s
 cases h0 : (v_impl_AreHolds m_0 holds_1) with
 | true =>
  have y0 : OkTris m_0.Places.length m_0.Triangles := by clear p; exact (by first | assumption | omega | exact okTris_is _ (okH_is m_0 holds_1 (by rw [← eq_AreHolds]; assumption)).1)
  refine fnS E0Ok hMixed (c := bodyOf f48) [] (.tup [.agg [.own 0, .own 1], .b true]) [.vec 44 3 ((lr_impl_HoldMesh_1_0 m_0 holds_1).map GVector.cells) false, .nest 52 (((v_impl_copyMesh m_0).Triangles).map fun l => l.map (cI .i64)) false] func48 (p (sB' h0 <| sF (t_impl_copyMesh m_0 hp0 hp1 hp2 y0) <| sZ GHold.cells holds_1 <| sL mk_impl_HoldMesh_1_0 5 (lp_val (ls_impl_HoldMesh_1 m_0 holds_1) (x := (lr_impl_HoldMesh_1_0 m_0 holds_1)) (lp_impl_HoldMesh_1 m_0 holds_1 hp0 hp1 hp2 hp3 h0 (((holds_1.length : Int) - 0).toNat + 1) 0 ((v_impl_copyMesh m_0).Places) (show 0 ≤ 0 from (by first | assumption | omega | (have hi : x_l0 < (holds_1.length : Int) := of_decide_eq_true (by assumption); have h0 : 0 ≤ x_l0 := (by assumption); have q := OkIx.at (okH_is m_0 holds_1 (by rw [← eq_AreHolds]; assumption)).2.1 h0 hi; simp only [eq_copyMesh] at *; omega) | (simp_all <;> omega))) (show ((v_impl_copyMesh m_0).Places).length = ((v_impl_copyMesh m_0).Places).length from (by simp)) (Nat.lt_succ_self _)) rfl) <| sK [3, 4] sN)) rfl (by kernel_rfl) (by kernel_rfl) rfl ?_ ?_
  · simp only [v_impl_HoldMesh, h0, cond_true]
  · simp [v_impl_HoldMesh, h0]
 | false =>
  refine fnS E0Ok hMixed (c := bodyOf f48) [(.row 1 0, .vec 44 3 [] false), (.row 1 1, .nest 52 [] false)] (.tup [.agg [.own 0, .own 1], .b false]) [.vec 44 3 [] false, .nest 52 [] false] func48 (p (sB' h0 <| sK [2, 3] sN)) rfl (by kernel_rfl) (by kernel_rfl) rfl ?_ ?_
  · simp only [v_impl_HoldMesh, h0, cond_false]
  · simp [v_impl_HoldMesh, h0, GVector.cells, cL]

def v_laws_sameFloat (a_0 : Nat) (b_1 : Nat) : Bool := (cond (fcmp .neq .f64 a_0 a_0)
  (fcmp .neq .f64 b_1 b_1)
  (cond (fcmp .neq .f64 b_1 b_1)
    false
    (cond (fcmp .eql .f64 a_0 0)
      (cond (fcmp .eql .f64 b_1 0)
        ((fcmp .gtr .f64 (fop .quo .f64 4607182418800017408 a_0) 0) == (fcmp .gtr .f64 (fop .quo .f64 4607182418800017408 b_1) 0))
        (fcmp .eql .f64 a_0 b_1))
      (fcmp .eql .f64 a_0 b_1))))

theorem t_laws_sameFloat (a_0 : Nat) (b_1 : Nat)   : Fn prog 17 [.f .f64 a_0, .f .f64 b_1] (.b (v_laws_sameFloat a_0 b_1)) [] := by
 cases h0 : (fcmp .neq .f64 a_0 a_0) with
 | true =>
  refine fnS E0Ok hMixed (c := bodyOf f17) [] (.b (fcmp .neq .f64 b_1 b_1)) [] func17 (sB h0 <| sB h0 <| sB h0 <| sB h0 <| sB (show true = true from rfl) <| sB h0 <| sB h0 <| sB h0 <| sB h0 <| sK [] sN) rfl (by kernel_rfl) (by kernel_rfl) rfl ?_ ?_
  · simp only [v_laws_sameFloat, h0, cond_true]
  · rfl
 | false =>
  have p {a C} (s : Scr a C) := sB h0 <| sB h0 <| sB h0 <| sB h0 <| s
  cases h1 : (fcmp .neq .f64 b_1 b_1) with
  | true =>
   refine fnS E0Ok hMixed (c := bodyOf f17) [] (.b false) [] func17 (p (sB h1 <| sB h0 <| sB h0 <| sB h0 <| sB h0 <| sK [] sN)) rfl (by kernel_rfl) (by kernel_rfl) rfl ?_ ?_
   · simp only [v_laws_sameFloat, h0, h1, cond_true, cond_false]
   · rfl
  | false =>
   have q {a C} (s : Scr a C) := p (sB h1 <| s)
   clear p
   cases h2 : (fcmp .eql .f64 a_0 0) with
   | true =>
    have p {a C} (s : Scr a C) := q (sB h2 <| sB h2 <| sB h2 <| s)
    clear q
    cases h3 : (fcmp .eql .f64 b_1 0) with
    | true =>
     refine fnS E0Ok hMixed (c := bodyOf f17) [] (.b ((fcmp .gtr .f64 (fop .quo .f64 4607182418800017408 a_0) 0) == (fcmp .gtr .f64 (fop .quo .f64 4607182418800017408 b_1) 0))) [] func17 (p (sB h3 <| sK [] sN)) rfl (by kernel_rfl) (by kernel_rfl) rfl ?_ ?_
     · simp only [v_laws_sameFloat, h0, h1, h2, h3, cond_true, cond_false]
     · rfl
    | false =>
     refine fnS E0Ok hMixed (c := bodyOf f17) [] (.b (fcmp .eql .f64 a_0 b_1)) [] func17 (p (sB h3 <| sK [] sN)) rfl (by kernel_rfl) (by kernel_rfl) rfl ?_ ?_
     · simp only [v_laws_sameFloat, h0, h1, h2, h3, cond_true, cond_false]
     · rfl
   | false =>
    refine fnS E0Ok hMixed (c := bodyOf f17) [] (.b (fcmp .eql .f64 a_0 b_1)) [] func17 (q (sB h2 <| sB h2 <| sB h2 <| sB (show false = false from rfl) <| sK [] sN)) rfl (by kernel_rfl) (by kernel_rfl) rfl ?_ ?_
    · simp only [v_laws_sameFloat, h0, h1, h2, cond_false]
    · rfl

theorem same_self (x : Nat) : v_laws_sameFloat x x = true := by
  unfold v_laws_sameFloat
  cases h : fcmp .neq .f64 x x
  · simp only [cond_false]
    have h2 : fcmp .eql .f64 x x = true := by
      unfold fcmp at h ⊢
      simpa using h
    cases fcmp .eql .f64 x 0 <;> simp [h2]
  · rfl

def v_laws_eqVector (a_0 : GVector) (b_1 : GVector) : Bool := (cond (v_laws_sameFloat (fcv .f32 .f64 a_0.X) (fcv .f32 .f64 b_1.X))
  (cond (v_laws_sameFloat (fcv .f32 .f64 a_0.Y) (fcv .f32 .f64 b_1.Y))
    (cond (v_laws_sameFloat (fcv .f32 .f64 a_0.Z) (fcv .f32 .f64 b_1.Z))
      true
      false)
    false)
  false)

theorem t_laws_eqVector (a_0 : GVector) (b_1 : GVector)   : Fn prog 87 [.agg [.f .f32 a_0.X, .f .f32 a_0.Y, .f .f32 a_0.Z], .agg [.f .f32 b_1.X, .f .f32 b_1.Y, .f .f32 b_1.Z]] (.b (v_laws_eqVector a_0 b_1)) [] := by
 have p {a C} (s : Scr a C) := sC (widenOk a_0.X) <| sC (widenOk b_1.X) <| sF (t_laws_sameFloat (fcv .f32 .f64 a_0.X) (fcv .f32 .f64 b_1.X)) <| s
 cases h0 : (v_laws_sameFloat (fcv .f32 .f64 a_0.X) (fcv .f32 .f64 b_1.X)) with
 | true =>
  have q {a C} (s : Scr a C) := p (sB' h0 <| sC (widenOk a_0.Y) <| sC (widenOk b_1.Y) <| sF (t_laws_sameFloat (fcv .f32 .f64 a_0.Y) (fcv .f32 .f64 b_1.Y)) <| s)
  clear p
  cases h1 : (v_laws_sameFloat (fcv .f32 .f64 a_0.Y) (fcv .f32 .f64 b_1.Y)) with
  | true =>
   have p {a C} (s : Scr a C) := q (sB' h1 <| sC (widenOk a_0.Z) <| sC (widenOk b_1.Z) <| sF (t_laws_sameFloat (fcv .f32 .f64 a_0.Z) (fcv .f32 .f64 b_1.Z)) <| s)
   clear q
   cases h2 : (v_laws_sameFloat (fcv .f32 .f64 a_0.Z) (fcv .f32 .f64 b_1.Z)) with
   | true =>
    refine fnS E0Ok hMixed (c := bodyOf f87) [] (.b true) [] func87 (p (sB' h2 <| sK [] sN)) rfl (by kernel_rfl) (by kernel_rfl) rfl ?_ ?_
    · simp only [v_laws_eqVector, h0, h1, h2, cond_true]
    · rfl
   | false =>
    refine fnS E0Ok hMixed (c := bodyOf f87) [] (.b false) [] func87 (p (sB' h2 <| sK [] sN)) rfl (by kernel_rfl) (by kernel_rfl) rfl ?_ ?_
    · simp only [v_laws_eqVector, h0, h1, h2, cond_true, cond_false]
    · rfl
  | false =>
   refine fnS E0Ok hMixed (c := bodyOf f87) [] (.b false) [] func87 (q (sB' h1 <| sK [] sN)) rfl (by kernel_rfl) (by kernel_rfl) rfl ?_ ?_
   · simp only [v_laws_eqVector, h0, h1, cond_true, cond_false]
   · rfl
 | false =>
  refine fnS E0Ok hMixed (c := bodyOf f87) [] (.b false) [] func87 (p (sB' h0 <| sK [] sN)) rfl (by kernel_rfl) (by kernel_rfl) rfl ?_ ?_
  · simp only [v_laws_eqVector, h0, cond_false]
  · rfl

theorem eqVector_self (a : GVector) : v_laws_eqVector a a = true := by
  simp [v_laws_eqVector, same_self]

def lo_laws_eqVectorS_1 (a_0 : (List GVector)) (b_1 : (List GVector)) : Nat → Int → (Unit) ⊕ (Unit)
  | 0, _ => .inl default
  | k + 1, i_l0 => (cond (decide (i_l0 < (a_0.length : Int)))
    (cond (v_laws_eqVector (a_0.getD i_l0.toNat default) (b_1.getD i_l0.toNat default))
      (lo_laws_eqVectorS_1 a_0 b_1 k (i_l0 + 1))
      (.inl ()))
    (.inr ()))

def ls_laws_eqVectorS_1 (a_0 : (List GVector)) (b_1 : (List GVector)) : (Unit) ⊕ (Unit) → Ex × St
  | .inl r => (.ret, ⟨[.any, .any, .any, .any, .b false, .any, .any, .any, .any, .any, .any, .any, .any, .any, .any, .any, .any, .any, .any, .any, .any, .any, .any, .any, .any, .any, .any], []⟩)
  | .inr r => ((.exit 0), ⟨[.sl (a_0.map GVector.cells), .sl (b_1.map GVector.cells), .any, .any, .any, .any, .sl (a_0.map GVector.cells), .i .i64 (a_0.length : Int), .sl (b_1.map GVector.cells), .i .i64 (b_1.length : Int), .b ((a_0.length : Int) != (b_1.length : Int)), .any, .any, .any, .any, .any, .any, .any, .any, .any, .any, .any, .any, .any, .any, .any, .any], []⟩)

def hd_laws_eqVectorS_1 (a_0 : (List GVector)) (b_1 : (List GVector)) (i_l0 : Int) : St := ⟨[.sl (a_0.map GVector.cells), .sl (b_1.map GVector.cells), .any, .any, .any, .i .i64 i_l0, .sl (a_0.map GVector.cells), .i .i64 (a_0.length : Int), .sl (b_1.map GVector.cells), .i .i64 (b_1.length : Int), .b ((a_0.length : Int) != (b_1.length : Int)), .any, .any, .any, .any, .any, .any, .any, .any, .any, .any, .any, .any, .any, .any, .any, .any], []⟩

def mk_laws_eqVectorS_1_0 : List Bool := [true, true, false, false, false, true, true, true, true, true, true, false, false, false, false, false, false, false, false, false, false, false, false, false, false, false, false]

def mk_laws_eqVectorS_1_1 : List Bool := [false, false, false, false, true, false, false, false, false, false, false, false, false, false, false, false, false, false, false, false, false, false, false, false, false, false, false]

def mk_laws_eqVectorS_1_2 : List Bool := [true, true, false, false, false, false, true, true, true, true, true, false, false, false, false, false, false, false, false, false, false, false, false, false, false, false, false]

theorem lp_laws_eqVectorS_1 (a_0 : (List GVector)) (b_1 : (List GVector)) (hp0 : a_0.length ≤ 1073741824) (hp1 : b_1.length ≤ 1073741824) (hf_laws_eqVectorS_1_0 : ((a_0.length : Int) != (b_1.length : Int)) = false) : ∀ (k : Nat) (i_l0 : Int) (hv_laws_eqVectorS_1_0 : 0 ≤ i_l0) (hk : ((a_0.length : Int) - i_l0).toNat < k), Lp prog 0 (sub (bodyOf f40) [1, 1, 0, 1, 0, 0]) (hd_laws_eqVectorS_1 a_0 b_1 i_l0) (ls_laws_eqVectorS_1 a_0 b_1 (lo_laws_eqVectorS_1 a_0 b_1 k i_l0)).1 (ls_laws_eqVectorS_1 a_0 b_1 (lo_laws_eqVectorS_1 a_0 b_1 k i_l0)).2 := by
 intro k
 induction k with
 | zero => intro i_l0 hv_laws_eqVectorS_1_0 hk; exact absurd hk (Nat.not_lt_zero _)
 | succ k ih =>
  intro i_l0 hv_laws_eqVectorS_1_0 hk
  have p {a C} (s : Scr a C) := sZ GVector.cells a_0 <| s
  cases h_0 : (decide (i_l0 < (a_0.length : Int))) with
  | true =>
   have gh_0 := of_decide_eq_true h_0
   have y_0 : (0 : Int) ≤ i_l0 := by clear p; exact (by first | assumption | omega | (simp_all <;> omega))
   have y_1 : i_l0 < (a_0.length : Int) := by clear p; exact (by first | assumption | omega | (simp_all <;> omega))
   have y_2 : i_l0 < (b_1.length : Int) := by clear p; exact (by first | assumption | omega | (simp_all <;> omega))
   have q {a C} (s : Scr a C) := p (sB h_0 <| sK [8, 8] <| sG GVector.cells a_0 i_l0 y_0 y_1 <| sG GVector.cells b_1 i_l0 y_0 y_2 <| sF (t_laws_eqVector (a_0.getD i_l0.toNat default) (b_1.getD i_l0.toNat default)) <| s)
   clear p
   cases h_1 : (v_laws_eqVector (a_0.getD i_l0.toNat default) (b_1.getD i_l0.toNat default)) with
   | true =>
    have y_3 : (-9223372036854775808 : Int) ≤ (i_l0 + 1) := by clear q; exact (by first | assumption | omega | (simp_all <;> omega))
    have y_4 : (i_l0 + 1) ≤ (9223372036854775807 : Int) := by clear q; exact (by first | assumption | omega | (simp_all <;> omega))
    have e : lo_laws_eqVectorS_1 a_0 b_1 (k + 1) i_l0 = (lo_laws_eqVectorS_1 a_0 b_1 k (i_l0 + 1)) := by simp only [lo_laws_eqVectorS_1, h_0, h_1, cond_true]
    rw [e]
    exact nextR E0Ok hMixed [] mk_laws_eqVectorS_1_0 [] (ih (i_l0 + 1) (show 0 ≤ (i_l0 + 1) from (by first | assumption | omega | (simp_all <;> omega))) (by first | assumption | omega | (simp_all <;> omega))) (q (sB' h_1 <| sI (i_l0 + 1) y_3 y_4 <| sN)) (by kernel_rfl)
   | false =>
    have e : lo_laws_eqVectorS_1 a_0 b_1 (k + 1) i_l0 = (.inl ()) := by simp only [lo_laws_eqVectorS_1, h_0, h_1, cond_true, cond_false]
    rw [e]
    exact outR (e := .ret) E0Ok hMixed [] mk_laws_eqVectorS_1_1 [] (q (sB' h_1 <| sN)) (by kernel_rfl) (by intro h; cases h)
  | false =>
   have gh_0 := of_decide_eq_false h_0
   have e : lo_laws_eqVectorS_1 a_0 b_1 (k + 1) i_l0 = (.inr ()) := by simp only [lo_laws_eqVectorS_1, h_0, cond_false]
   rw [e]
   exact outR (e := (.exit 0)) E0Ok hMixed [] mk_laws_eqVectorS_1_2 [] (p (sB h_0 <| sN)) (by kernel_rfl) (by intro h; cases h)

def lr_laws_eqVectorS_1_0 (a_0 : (List GVector)) (b_1 : (List GVector)) : (Unit) ⊕ (Unit) := (lo_laws_eqVectorS_1 a_0 b_1 (((a_0.length : Int) - 0).toNat + 1) 0)

def v_laws_eqVectorS (a_0 : (List GVector)) (b_1 : (List GVector)) : Bool := (cond ((a_0.length : Int) != (b_1.length : Int))
  false
  (match (lr_laws_eqVectorS_1_0 a_0 b_1) with
    | .inl r2 => false
    | .inr r2 => true))

theorem t_laws_eqVectorS (a_0 : (List GVector)) (b_1 : (List GVector)) (hp0 : a_0.length ≤ 1073741824) (hp1 : b_1.length ≤ 1073741824)  : Fn prog 40 [.sl (a_0.map GVector.cells), .sl (b_1.map GVector.cells)] (.b (v_laws_eqVectorS a_0 b_1)) [] := by
 have p {a C} (s : Scr a C) := sZ GVector.cells a_0 <| sZ GVector.cells b_1 <| s
 cases h0 : ((a_0.length : Int) != (b_1.length : Int)) with
 | true =>
  have gh0 := bne_iff_ne.1 h0
  refine fnS E0Ok hMixed (c := bodyOf f40) [] (.b false) [] func40 (p (sB h0 <| sK [] sN)) rfl (by kernel_rfl) (by kernel_rfl) rfl ?_ ?_
  · simp only [v_laws_eqVectorS, h0, cond_true]
  · rfl
 | false =>
  have gh0 := bne_eq_false_iff_eq.1 h0
  have q {a C} (s : Scr a C) := p (sB h0 <| s)
  clear p
  cases h1 : (lr_laws_eqVectorS_1_0 a_0 b_1) with
  | inl r2 =>
   refine fnS E0Ok hMixed (c := bodyOf f40) [] (.b false) [] func40 (q (sL mk_laws_eqVectorS_1_0 0 (lp_val (ls_laws_eqVectorS_1 a_0 b_1) (x := (lr_laws_eqVectorS_1_0 a_0 b_1)) (lp_laws_eqVectorS_1 a_0 b_1 hp0 hp1 h0 (((a_0.length : Int) - 0).toNat + 1) 0 (show 0 ≤ 0 from (by first | assumption | omega | (simp_all <;> omega))) (Nat.lt_succ_self _)) h1) <| sK [] sN)) rfl (by kernel_rfl) (by kernel_rfl) rfl ?_ ?_
   · simp only [v_laws_eqVectorS, h0, h1, cond_false]
   · rfl
  | inr r2 =>
   refine fnS E0Ok hMixed (c := bodyOf f40) [] (.b true) [] func40 (q (sL mk_laws_eqVectorS_1_0 0 (lp_val (ls_laws_eqVectorS_1 a_0 b_1) (x := (lr_laws_eqVectorS_1_0 a_0 b_1)) (lp_laws_eqVectorS_1 a_0 b_1 hp0 hp1 h0 (((a_0.length : Int) - 0).toNat + 1) 0 (show 0 ≤ 0 from (by first | assumption | omega | (simp_all <;> omega))) (Nat.lt_succ_self _)) h1) <| sK [] sN)) rfl (by kernel_rfl) (by kernel_rfl) rfl ?_ ?_
   · simp only [v_laws_eqVectorS, h0, h1, cond_false]
   · rfl

theorem eqVectorS_self (a : List GVector) : v_laws_eqVectorS a a = true := by
  unfold v_laws_eqVectorS lr_laws_eqVectorS_1_0
  rw [all_loop (a := a) (p := fun v => v_laws_eqVector v v) (lo := lo_laws_eqVectorS_1 a a) (x := ()) (y := ()) (fun k i => rfl) (fun v _ => eqVector_self v) _ _ (Int.le_refl 0) (Nat.lt_succ_self _)]
  simp

def lo_laws_eqInt64S_1 (a_0 : (List Int)) (b_1 : (List Int)) : Nat → Int → (Unit) ⊕ (Unit)
  | 0, _ => .inl default
  | k + 1, i_l0 => (cond (decide (i_l0 < (a_0.length : Int)))
    (cond ((a_0.getD i_l0.toNat default) != (b_1.getD i_l0.toNat default))
      (.inl ())
      (lo_laws_eqInt64S_1 a_0 b_1 k (i_l0 + 1)))
    (.inr ()))

def ls_laws_eqInt64S_1 (a_0 : (List Int)) (b_1 : (List Int)) : (Unit) ⊕ (Unit) → Ex × St
  | .inl r => (.ret, ⟨[.any, .any, .any, .any, .b false, .any, .any, .any, .any, .any, .any, .any, .any, .any, .any, .any, .any, .any, .any, .any, .any, .any, .any, .any, .any, .any], []⟩)
  | .inr r => ((.exit 0), ⟨[.sl (a_0.map (cI .i64)), .sl (b_1.map (cI .i64)), .any, .any, .any, .any, .sl (a_0.map (cI .i64)), .i .i64 (a_0.length : Int), .sl (b_1.map (cI .i64)), .i .i64 (b_1.length : Int), .b ((a_0.length : Int) != (b_1.length : Int)), .any, .any, .any, .any, .any, .any, .any, .any, .any, .any, .any, .any, .any, .any, .any], []⟩)

def hd_laws_eqInt64S_1 (a_0 : (List Int)) (b_1 : (List Int)) (i_l0 : Int) : St := ⟨[.sl (a_0.map (cI .i64)), .sl (b_1.map (cI .i64)), .any, .any, .any, .i .i64 i_l0, .sl (a_0.map (cI .i64)), .i .i64 (a_0.length : Int), .sl (b_1.map (cI .i64)), .i .i64 (b_1.length : Int), .b ((a_0.length : Int) != (b_1.length : Int)), .any, .any, .any, .any, .any, .any, .any, .any, .any, .any, .any, .any, .any, .any, .any], []⟩

def mk_laws_eqInt64S_1_0 : List Bool := [true, true, false, false, false, true, true, true, true, true, true, false, false, false, false, false, false, false, false, false, false, false, false, false, false, false]

def mk_laws_eqInt64S_1_1 : List Bool := [false, false, false, false, true, false, false, false, false, false, false, false, false, false, false, false, false, false, false, false, false, false, false, false, false, false]

def mk_laws_eqInt64S_1_2 : List Bool := [true, true, false, false, false, false, true, true, true, true, true, false, false, false, false, false, false, false, false, false, false, false, false, false, false, false]

theorem lp_laws_eqInt64S_1 (a_0 : (List Int)) (b_1 : (List Int)) (hp0 : a_0.length ≤ 1073741824) (hp1 : b_1.length ≤ 1073741824) (hf_laws_eqInt64S_1_0 : ((a_0.length : Int) != (b_1.length : Int)) = false) : ∀ (k : Nat) (i_l0 : Int) (hv_laws_eqInt64S_1_0 : 0 ≤ i_l0) (hk : ((a_0.length : Int) - i_l0).toNat < k), Lp prog 0 (sub (bodyOf f29) [1, 1, 0, 1, 0, 0]) (hd_laws_eqInt64S_1 a_0 b_1 i_l0) (ls_laws_eqInt64S_1 a_0 b_1 (lo_laws_eqInt64S_1 a_0 b_1 k i_l0)).1 (ls_laws_eqInt64S_1 a_0 b_1 (lo_laws_eqInt64S_1 a_0 b_1 k i_l0)).2 := by
 intro k
 induction k with
 | zero => intro i_l0 hv_laws_eqInt64S_1_0 hk; exact absurd hk (Nat.not_lt_zero _)
 | succ k ih =>
  intro i_l0 hv_laws_eqInt64S_1_0 hk
  have p {a C} (s : Scr a C) := sZ (cI .i64) a_0 <| s
  cases h_0 : (decide (i_l0 < (a_0.length : Int))) with
  | true =>
   have gh_0 := of_decide_eq_true h_0
   have y_0 : (0 : Int) ≤ i_l0 := by clear p; exact (by first | assumption | omega | (simp_all <;> omega))
   have y_1 : i_l0 < (a_0.length : Int) := by clear p; exact (by first | assumption | omega | (simp_all <;> omega))
   have y_2 : i_l0 < (b_1.length : Int) := by clear p; exact (by first | assumption | omega | (simp_all <;> omega))
   have q {a C} (s : Scr a C) := p (sB h_0 <| sK [8, 8] <| sG (cI .i64) a_0 i_l0 y_0 y_1 <| sG (cI .i64) b_1 i_l0 y_0 y_2 <| s)
   clear p
   cases h_1 : ((a_0.getD i_l0.toNat default) != (b_1.getD i_l0.toNat default)) with
   | true =>
    have gh_1 := bne_iff_ne.1 h_1
    have e : lo_laws_eqInt64S_1 a_0 b_1 (k + 1) i_l0 = (.inl ()) := by simp only [lo_laws_eqInt64S_1, h_0, h_1, cond_true]
    rw [e]
    exact outR (e := .ret) E0Ok hMixed [] mk_laws_eqInt64S_1_1 [] (q (sB h_1 <| sN)) (by kernel_rfl) (by intro h; cases h)
   | false =>
    have gh_1 := bne_eq_false_iff_eq.1 h_1
    have y_3 : (-9223372036854775808 : Int) ≤ (i_l0 + 1) := by clear q; exact (by first | assumption | omega | (simp_all <;> omega))
    have y_4 : (i_l0 + 1) ≤ (9223372036854775807 : Int) := by clear q; exact (by first | assumption | omega | (simp_all <;> omega))
    have e : lo_laws_eqInt64S_1 a_0 b_1 (k + 1) i_l0 = (lo_laws_eqInt64S_1 a_0 b_1 k (i_l0 + 1)) := by simp only [lo_laws_eqInt64S_1, h_0, h_1, cond_true, cond_false]
    rw [e]
    exact nextR E0Ok hMixed [] mk_laws_eqInt64S_1_0 [] (ih (i_l0 + 1) (show 0 ≤ (i_l0 + 1) from (by first | assumption | omega | (simp_all <;> omega))) (by first | assumption | omega | (simp_all <;> omega))) (q (sB h_1 <| sI (i_l0 + 1) y_3 y_4 <| sN)) (by kernel_rfl)
  | false =>
   have gh_0 := of_decide_eq_false h_0
   have e : lo_laws_eqInt64S_1 a_0 b_1 (k + 1) i_l0 = (.inr ()) := by simp only [lo_laws_eqInt64S_1, h_0, cond_false]
   rw [e]
   exact outR (e := (.exit 0)) E0Ok hMixed [] mk_laws_eqInt64S_1_2 [] (p (sB h_0 <| sN)) (by kernel_rfl) (by intro h; cases h)

def lr_laws_eqInt64S_1_0 (a_0 : (List Int)) (b_1 : (List Int)) : (Unit) ⊕ (Unit) := (lo_laws_eqInt64S_1 a_0 b_1 (((a_0.length : Int) - 0).toNat + 1) 0)

def v_laws_eqInt64S (a_0 : (List Int)) (b_1 : (List Int)) : Bool := (cond ((a_0.length : Int) != (b_1.length : Int))
  false
  (match (lr_laws_eqInt64S_1_0 a_0 b_1) with
    | .inl r2 => false
    | .inr r2 => true))

theorem t_laws_eqInt64S (a_0 : (List Int)) (b_1 : (List Int)) (hp0 : a_0.length ≤ 1073741824) (hp1 : b_1.length ≤ 1073741824)  : Fn prog 29 [.sl (a_0.map (cI .i64)), .sl (b_1.map (cI .i64))] (.b (v_laws_eqInt64S a_0 b_1)) [] := by
 have p {a C} (s : Scr a C) := sZ (cI .i64) a_0 <| sZ (cI .i64) b_1 <| s
 cases h0 : ((a_0.length : Int) != (b_1.length : Int)) with
 | true =>
  have gh0 := bne_iff_ne.1 h0
  refine fnS E0Ok hMixed (c := bodyOf f29) [] (.b false) [] func29 (p (sB h0 <| sK [] sN)) rfl (by kernel_rfl) (by kernel_rfl) rfl ?_ ?_
  · simp only [v_laws_eqInt64S, h0, cond_true]
  · rfl
 | false =>
  have gh0 := bne_eq_false_iff_eq.1 h0
  have q {a C} (s : Scr a C) := p (sB h0 <| s)
  clear p
  cases h1 : (lr_laws_eqInt64S_1_0 a_0 b_1) with
  | inl r2 =>
   refine fnS E0Ok hMixed (c := bodyOf f29) [] (.b false) [] func29 (q (sL mk_laws_eqInt64S_1_0 0 (lp_val (ls_laws_eqInt64S_1 a_0 b_1) (x := (lr_laws_eqInt64S_1_0 a_0 b_1)) (lp_laws_eqInt64S_1 a_0 b_1 hp0 hp1 h0 (((a_0.length : Int) - 0).toNat + 1) 0 (show 0 ≤ 0 from (by first | assumption | omega | (simp_all <;> omega))) (Nat.lt_succ_self _)) h1) <| sK [] sN)) rfl (by kernel_rfl) (by kernel_rfl) rfl ?_ ?_
   · simp only [v_laws_eqInt64S, h0, h1, cond_false]
   · rfl
  | inr r2 =>
   refine fnS E0Ok hMixed (c := bodyOf f29) [] (.b true) [] func29 (q (sL mk_laws_eqInt64S_1_0 0 (lp_val (ls_laws_eqInt64S_1 a_0 b_1) (x := (lr_laws_eqInt64S_1_0 a_0 b_1)) (lp_laws_eqInt64S_1 a_0 b_1 hp0 hp1 h0 (((a_0.length : Int) - 0).toNat + 1) 0 (show 0 ≤ 0 from (by first | assumption | omega | (simp_all <;> omega))) (Nat.lt_succ_self _)) h1) <| sK [] sN)) rfl (by kernel_rfl) (by kernel_rfl) rfl ?_ ?_
   · simp only [v_laws_eqInt64S, h0, h1, cond_false]
   · rfl

end Go.Ab
