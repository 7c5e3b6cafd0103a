/- The functions of this seat as plain Lean, and that the program's are these. Printed by a program of the prover's own. -/
import Derived.Test.YtiiijolkhbnblaaB2
set_option linter.unusedVariables false
set_option linter.unusedSimpArgs false
set_option maxRecDepth 100000
namespace Go.Ab
open Go.RowKit Go.Proofs.Try

def lr_spec_FreePlaces_2_1 (m_0 : GMesh) (holds_1 : (List GHold)) : (List Int) := (lo_spec_FreePlaces_2 m_0 holds_1 (((m_0.Places.length : Int) - 0).toNat + 1) 0 ([] : List Int))

theorem app2_spec_FreePlaces (m : GMesh) (hs : List GHold) : lr_spec_FreePlaces_2_1 m hs = (((List.range m.Places.length).filter fun (j : Nat) => !(v_spec_l00Has (lr_spec_FreePlaces_1_0 m hs) (j : Int))).map fun (j : Nat) => (j : Int)) := by
  unfold lr_spec_FreePlaces_2_1
  rw [filt_loop (f := fun i => v_spec_l00Has (lr_spec_FreePlaces_1_0 m hs) i) (g := fun i => i) (n := (m.Places.length : Int)) (lo := lo_spec_FreePlaces_2 m hs) (fun k i r => rfl) _ _ _ (Nat.lt_succ_self _)]
  simp

def v_spec_FreePlaces (m_0 : GMesh) (holds_1 : (List GHold)) : (List Int) × Bool := (cond (v_spec_l04Are m_0 holds_1)
  ((lr_spec_FreePlaces_2_1 m_0 holds_1), true)
  (([] : List Int), false))

theorem le_spec_FreePlaces (m : GMesh) (hs : List GHold) : (v_spec_FreePlaces m hs).1.length ≤ m.Places.length := by
  unfold v_spec_FreePlaces
  rw [app2_spec_FreePlaces]
  cases v_spec_l04Are m hs
  · simp
  · simp only [cond_true, List.length_map]
    exact Nat.le_trans (List.length_filter_le _ _) (by simp)

theorem t_spec_FreePlaces (m_0 : GMesh) (holds_1 : (List GHold)) (hp0 : m_0.Places.length ≤ 1073741824) (hp1 : m_0.Triangles.length ≤ 1073741824) (hp2 : ∀ t ∈ m_0.Triangles, t.length ≤ 1073741824) (hp3 : holds_1.length ≤ 1073741824)  : Fn prog 25 [.agg [.sl (m_0.Places.map GVector.cells), .sl (m_0.Triangles.map (cL (cI .i64)))], .sl (holds_1.map GHold.cells)] (.tup [.own 0, .b ((v_spec_FreePlaces m_0 holds_1).2)]) [.vec 2 1 (((v_spec_FreePlaces m_0 holds_1).1).map (cI .i64)) false] := by
 have p {a C} (s : Scr a C) := sF (t_spec_l04Are m_0 holds_1 hp0 hp1 hp2 hp3) <| s
 cases h0 : (v_spec_l04Are m_0 holds_1) with
 | true =>
  refine fnS E0Ok hMixed (c := bodyOf f25) [] (.tup [.own 0, .b true]) [.vec 2 1 ((lr_spec_FreePlaces_2_1 m_0 holds_1).map (cI .i64)) false] func25 (p (sB' h0 <| sL mk_spec_FreePlaces_1_0 2 (lp_cast (st2 := ⟨[.agg [.sl (m_0.Places.map GVector.cells), .sl (m_0.Triangles.map (cL (cI .i64)))], .sl (holds_1.map GHold.cells), .ptr 0 0 0, .any, .nils, .b false, .own 1, .i .i64 0, .any, .any, .sl (holds_1.map GHold.cells), .b (v_spec_l04Are m_0 holds_1), .b (!(v_spec_l04Are m_0 holds_1)), .any, .any, .any, .any, .any, .any, .any, .any, .any, .any, .any, .any, .any, .any, .any, .any, .any, .any, .any, .any, .any, .any, .any, .any, .any, .any, .any, .any, .any, .any, .any, .any], [.box 42 [.sl (m_0.Places.map GVector.cells), .sl (m_0.Triangles.map (cL (cI .i64)))], .vec 2 1 ([] : List (List AV)) false]⟩) (lp_val (ls_spec_FreePlaces_1 m_0 holds_1) (x := (lr_spec_FreePlaces_1_0 m_0 holds_1)) (lp_spec_FreePlaces_1 m_0 holds_1 hp0 hp1 hp2 hp3 h0 (((holds_1.length : Int) - 0).toNat + 1) 0 ([] : List Int) (show 0 ≤ 0 from (by first | assumption | omega | (simp_all <;> omega))) (show (([] : List Int).length : Int) = 0 from (by simp)) (Nat.lt_succ_self _)) rfl) (by simp [hd_spec_FreePlaces_1, cI])) <| sL mk_spec_FreePlaces_2_0 3 (lp_cast (st2 := ⟨[.agg [.sl (m_0.Places.map GVector.cells), .sl (m_0.Triangles.map (cL (cI .i64)))], .sl (holds_1.map GHold.cells), .ptr 0 0 0, .any, .nils, .b false, .own 1, .any, .own 2, .i .i64 0, .sl (holds_1.map GHold.cells), .b (v_spec_l04Are m_0 holds_1), .b (!(v_spec_l04Are m_0 holds_1)), .any, .any, .any, .any, .any, .any, .any, .any, .any, .any, .any, .any, .any, .any, .any, .any, .any, .any, .any, .any, .any, .any, .any, .any, .any, .any, .any, .any, .any, .any, .any, .any], [.box 42 [.sl (m_0.Places.map GVector.cells), .sl (m_0.Triangles.map (cL (cI .i64)))], .vec 2 1 ((lr_spec_FreePlaces_1_0 m_0 holds_1).map (cI .i64)) false, .vec 2 1 ([] : List (List AV)) false]⟩) (lp_val (ls_spec_FreePlaces_2 m_0 holds_1) (x := (lr_spec_FreePlaces_2_1 m_0 holds_1)) (lp_spec_FreePlaces_2 m_0 holds_1 hp0 hp1 hp2 hp3 h0 (((m_0.Places.length : Int) - 0).toNat + 1) 0 ([] : List Int) (show 0 ≤ 0 from (by first | assumption | omega | (simp_all <;> omega))) (show (([] : List Int).length : Int) ≤ 0 from (by simp)) (Nat.lt_succ_self _)) rfl) (by simp [hd_spec_FreePlaces_2, cI])) <| sK [2] sN)) rfl (by kernel_rfl) (by kernel_rfl) rfl ?_ ?_
  · simp only [v_spec_FreePlaces, h0, cond_true]
  · simp [v_spec_FreePlaces, h0]
 | false =>
  refine fnS E0Ok hMixed (c := bodyOf f25) [(.tm 4, .vec 2 1 [] false)] (.tup [.own 0, .b false]) [.vec 2 1 [] false] func25 (p (sB' h0 <| sK [1] sN)) rfl (by kernel_rfl) (by kernel_rfl) rfl ?_ ?_
  · simp only [v_spec_FreePlaces, h0, cond_false]
  · simp [v_spec_FreePlaces, h0, cI]

def v_impl_within (n_0 : Int) (low_1 : Int) (high_2 : Int) : Bool := (cond (decide (n_0 ≥ low_1))
  (decide (n_0 ≤ high_2))
  false)

theorem t_impl_within (n_0 : Int) (low_1 : Int) (high_2 : Int)   : Fn prog 156 [.i .i64 n_0, .i .i64 low_1, .i .i64 high_2] (.b (v_impl_within n_0 low_1 high_2)) [] := by
 cases h0 : (decide (n_0 ≥ low_1)) with
 | true =>
  have gh0 := of_decide_eq_true h0
  refine fnS E0Ok hMixed (c := bodyOf f156) [] (.b (decide (n_0 ≤ high_2))) [] func156 (sB h0 <| sB h0 <| sB h0 <| sB h0 <| sK [] sN) rfl (by kernel_rfl) (by kernel_rfl) rfl ?_ ?_
  · simp only [v_impl_within, h0, cond_true]
  · rfl
 | false =>
  have gh0 := of_decide_eq_false h0
  refine fnS E0Ok hMixed (c := bodyOf f156) [] (.b false) [] func156 (sB h0 <| sB h0 <| sB h0 <| sB h0 <| sK [] sN) rfl (by kernel_rfl) (by kernel_rfl) rfl ?_ ?_
  · simp only [v_impl_within, h0, cond_false]
  · rfl

def lo_impl_ValidMesh_2 (m_0 : GMesh) (x_l0 : Int) : Nat → Int → (Unit) ⊕ (Unit)
  | 0, _ => .inl default
  | k + 1, x_l0_1 => (cond (decide (x_l0_1 < ((m_0.Triangles.getD x_l0.toNat default).length : Int)))
    (cond (v_impl_within ((m_0.Triangles.getD x_l0.toNat default).getD x_l0_1.toNat default) 0 (IntKind.wrap .i64 ((m_0.Places.length : Int) - 1)))
      (lo_impl_ValidMesh_2 m_0 x_l0 k (x_l0_1 + 1))
      (.inl ()))
    (.inr ()))

def ls_impl_ValidMesh_2 (m_0 : GMesh) (x_l0 : Int) : (Unit) ⊕ (Unit) → Ex × St
  | .inl r => (.ret, ⟨[.any, .any, .b false, .any, .any, .any, .any, .any, .any, .any, .any, .any, .any, .any, .any, .any, .any, .any, .any, .any, .any, .any, .any, .any, .any, .any, .any, .any, .any, .any, .any, .any, .any, .any, .any, .any, .any, .any, .any, .any, .any, .any, .any, .any, .any, .any, .any, .any, .any, .any, .any, .any, .any, .any, .any, .any, .any, .any, .any, .any, .any, .any, .any, .any, .any, .any, .any, .any, .any], []⟩)
  | .inr r => ((.exit 2), ⟨[.agg [.sl (m_0.Places.map GVector.cells), .sl (m_0.Triangles.map (cL (cI .i64)))], .ptr 0 0 0, .any, .i .i64 (m_0.Places.length : Int), .any, .sl ((m_0.Triangles.getD x_l0.toNat default).map (cI .i64)), .any, .any, .ptr 0 0 0, .sl (m_0.Places.map GVector.cells), .i .i64 (m_0.Places.length : Int), .i .i64 (m_0.Places.length : Int), .b (decide ((m_0.Places.length : Int) > 64)), .b (decide ((m_0.Places.length : Int) > 64)), .ptr 0 0 1, .sl (m_0.Triangles.map (cL (cI .i64))), .i .i64 (m_0.Triangles.length : Int), .b (decide ((m_0.Triangles.length : Int) > 128)), .b (decide ((m_0.Triangles.length : Int) > 128)), .ptr 0 0 1, .sl (m_0.Triangles.map (cL (cI .i64))), .i .i64 (m_0.Triangles.length : Int), .i .i64 x_l0, .b (decide (x_l0 < (m_0.Triangles.length : Int))), .ref [.sl ((m_0.Triangles.getD x_l0.toNat default).map (cI .i64))] 0, .sl ((m_0.Triangles.getD x_l0.toNat default).map (cI .i64)), .sl ((m_0.Triangles.getD x_l0.toNat default).map (cI .i64)), .i .i64 ((m_0.Triangles.getD x_l0.toNat default).length : Int), .b (((m_0.Triangles.getD x_l0.toNat default).length : Int) != 3), .b (((m_0.Triangles.getD x_l0.toNat default).length : Int) != 3), .sl ((m_0.Triangles.getD x_l0.toNat default).map (cI .i64)), .ref [.i .i64 ((m_0.Triangles.getD x_l0.toNat default).getD 0 default)] 0, .i .i64 ((m_0.Triangles.getD x_l0.toNat default).getD 0 default), .sl ((m_0.Triangles.getD x_l0.toNat default).map (cI .i64)), .ref [.i .i64 ((m_0.Triangles.getD x_l0.toNat default).getD 1 default)] 0, .i .i64 ((m_0.Triangles.getD x_l0.toNat default).getD 1 default), .b (((m_0.Triangles.getD x_l0.toNat default).getD 0 default) == ((m_0.Triangles.getD x_l0.toNat default).getD 1 default)), .b (((m_0.Triangles.getD x_l0.toNat default).getD 0 default) == ((m_0.Triangles.getD x_l0.toNat default).getD 1 default)), .b (((m_0.Triangles.getD x_l0.toNat default).getD 0 default) == ((m_0.Triangles.getD x_l0.toNat default).getD 1 default)), .sl ((m_0.Triangles.getD x_l0.toNat default).map (cI .i64)), .ref [.i .i64 ((m_0.Triangles.getD x_l0.toNat default).getD 1 default)] 0, .i .i64 ((m_0.Triangles.getD x_l0.toNat default).getD 1 default), .sl ((m_0.Triangles.getD x_l0.toNat default).map (cI .i64)), .ref [.i .i64 ((m_0.Triangles.getD x_l0.toNat default).getD 2 default)] 0, .i .i64 ((m_0.Triangles.getD x_l0.toNat default).getD 2 default), .b (((m_0.Triangles.getD x_l0.toNat default).getD 1 default) == ((m_0.Triangles.getD x_l0.toNat default).getD 2 default)), .b (((m_0.Triangles.getD x_l0.toNat default).getD 1 default) == ((m_0.Triangles.getD x_l0.toNat default).getD 2 default)), .b (((m_0.Triangles.getD x_l0.toNat default).getD 1 default) == ((m_0.Triangles.getD x_l0.toNat default).getD 2 default)), .sl ((m_0.Triangles.getD x_l0.toNat default).map (cI .i64)), .ref [.i .i64 ((m_0.Triangles.getD x_l0.toNat default).getD 0 default)] 0, .i .i64 ((m_0.Triangles.getD x_l0.toNat default).getD 0 default), .sl ((m_0.Triangles.getD x_l0.toNat default).map (cI .i64)), .ref [.i .i64 ((m_0.Triangles.getD x_l0.toNat default).getD 2 default)] 0, .i .i64 ((m_0.Triangles.getD x_l0.toNat default).getD 2 default), .b (((m_0.Triangles.getD x_l0.toNat default).getD 0 default) == ((m_0.Triangles.getD x_l0.toNat default).getD 2 default)), .b (((m_0.Triangles.getD x_l0.toNat default).getD 0 default) == ((m_0.Triangles.getD x_l0.toNat default).getD 2 default)), .sl ((m_0.Triangles.getD x_l0.toNat default).map (cI .i64)), .any, .any, .any, .any, .any, .any, .any, .any, .any, .any, .any, .any], [.box 42 [.sl (m_0.Places.map GVector.cells), .sl (m_0.Triangles.map (cL (cI .i64)))]]⟩)

def hd_impl_ValidMesh_2 (m_0 : GMesh) (x_l0 : Int) (x_l0_1 : Int) : St := ⟨[.agg [.sl (m_0.Places.map GVector.cells), .sl (m_0.Triangles.map (cL (cI .i64)))], .ptr 0 0 0, .any, .i .i64 (m_0.Places.length : Int), .any, .sl ((m_0.Triangles.getD x_l0.toNat default).map (cI .i64)), .any, .any, .ptr 0 0 0, .sl (m_0.Places.map GVector.cells), .i .i64 (m_0.Places.length : Int), .i .i64 (m_0.Places.length : Int), .b (decide ((m_0.Places.length : Int) > 64)), .b (decide ((m_0.Places.length : Int) > 64)), .ptr 0 0 1, .sl (m_0.Triangles.map (cL (cI .i64))), .i .i64 (m_0.Triangles.length : Int), .b (decide ((m_0.Triangles.length : Int) > 128)), .b (decide ((m_0.Triangles.length : Int) > 128)), .ptr 0 0 1, .sl (m_0.Triangles.map (cL (cI .i64))), .i .i64 (m_0.Triangles.length : Int), .i .i64 x_l0, .b (decide (x_l0 < (m_0.Triangles.length : Int))), .ref [.sl ((m_0.Triangles.getD x_l0.toNat default).map (cI .i64))] 0, .sl ((m_0.Triangles.getD x_l0.toNat default).map (cI .i64)), .sl ((m_0.Triangles.getD x_l0.toNat default).map (cI .i64)), .i .i64 ((m_0.Triangles.getD x_l0.toNat default).length : Int), .b (((m_0.Triangles.getD x_l0.toNat default).length : Int) != 3), .b (((m_0.Triangles.getD x_l0.toNat default).length : Int) != 3), .sl ((m_0.Triangles.getD x_l0.toNat default).map (cI .i64)), .ref [.i .i64 ((m_0.Triangles.getD x_l0.toNat default).getD 0 default)] 0, .i .i64 ((m_0.Triangles.getD x_l0.toNat default).getD 0 default), .sl ((m_0.Triangles.getD x_l0.toNat default).map (cI .i64)), .ref [.i .i64 ((m_0.Triangles.getD x_l0.toNat default).getD 1 default)] 0, .i .i64 ((m_0.Triangles.getD x_l0.toNat default).getD 1 default), .b (((m_0.Triangles.getD x_l0.toNat default).getD 0 default) == ((m_0.Triangles.getD x_l0.toNat default).getD 1 default)), .b (((m_0.Triangles.getD x_l0.toNat default).getD 0 default) == ((m_0.Triangles.getD x_l0.toNat default).getD 1 default)), .b (((m_0.Triangles.getD x_l0.toNat default).getD 0 default) == ((m_0.Triangles.getD x_l0.toNat default).getD 1 default)), .sl ((m_0.Triangles.getD x_l0.toNat default).map (cI .i64)), .ref [.i .i64 ((m_0.Triangles.getD x_l0.toNat default).getD 1 default)] 0, .i .i64 ((m_0.Triangles.getD x_l0.toNat default).getD 1 default), .sl ((m_0.Triangles.getD x_l0.toNat default).map (cI .i64)), .ref [.i .i64 ((m_0.Triangles.getD x_l0.toNat default).getD 2 default)] 0, .i .i64 ((m_0.Triangles.getD x_l0.toNat default).getD 2 default), .b (((m_0.Triangles.getD x_l0.toNat default).getD 1 default) == ((m_0.Triangles.getD x_l0.toNat default).getD 2 default)), .b (((m_0.Triangles.getD x_l0.toNat default).getD 1 default) == ((m_0.Triangles.getD x_l0.toNat default).getD 2 default)), .b (((m_0.Triangles.getD x_l0.toNat default).getD 1 default) == ((m_0.Triangles.getD x_l0.toNat default).getD 2 default)), .sl ((m_0.Triangles.getD x_l0.toNat default).map (cI .i64)), .ref [.i .i64 ((m_0.Triangles.getD x_l0.toNat default).getD 0 default)] 0, .i .i64 ((m_0.Triangles.getD x_l0.toNat default).getD 0 default), .sl ((m_0.Triangles.getD x_l0.toNat default).map (cI .i64)), .ref [.i .i64 ((m_0.Triangles.getD x_l0.toNat default).getD 2 default)] 0, .i .i64 ((m_0.Triangles.getD x_l0.toNat default).getD 2 default), .b (((m_0.Triangles.getD x_l0.toNat default).getD 0 default) == ((m_0.Triangles.getD x_l0.toNat default).getD 2 default)), .b (((m_0.Triangles.getD x_l0.toNat default).getD 0 default) == ((m_0.Triangles.getD x_l0.toNat default).getD 2 default)), .sl ((m_0.Triangles.getD x_l0.toNat default).map (cI .i64)), .i .i64 ((m_0.Triangles.getD x_l0.toNat default).length : Int), .i .i64 x_l0_1, .any, .any, .any, .any, .any, .any, .any, .any, .any, .any], [.box 42 [.sl (m_0.Places.map GVector.cells), .sl (m_0.Triangles.map (cL (cI .i64)))]]⟩

def mk_impl_ValidMesh_2_0 : List Bool := [true, true, false, true, false, true, false, false, true, true, true, true, true, true, true, true, true, true, true, true, true, true, true, true, true, true, true, true, true, true, true, true, true, true, true, true, true, true, true, true, true, true, true, true, true, true, true, true, true, true, true, true, true, true, true, true, true, true, true, false, false, false, false, false, false, false, false, false, false]

def mk_impl_ValidMesh_2_1 : List Bool := [false, false, true, false, false, false, false, false, false, false, false, false, false, false, false, false, false, false, false, false, false, false, false, false, false, false, false, false, false, false, false, false, false, false, false, false, false, false, false, false, false, false, false, false, false, false, false, false, false, false, false, false, false, false, false, false, false, false, false, false, false, false, false, false, false, false, false, false, false]

def mk_impl_ValidMesh_2_2 : List Bool := [true, true, false, true, false, true, false, false, true, true, true, true, true, true, true, true, true, true, true, true, true, true, true, true, true, true, true, true, true, true, true, true, true, true, true, true, true, true, true, true, true, true, true, true, true, true, true, true, true, true, true, true, true, true, true, true, true, false, false, false, false, false, false, false, false, false, false, false, false]

theorem lp_impl_ValidMesh_2 (m_0 : GMesh) (x_l0 : Int) (hp0 : m_0.Places.length ≤ 1073741824) (hp1 : m_0.Triangles.length ≤ 1073741824) (hp2 : ∀ t ∈ m_0.Triangles, t.length ≤ 1073741824) (hf_impl_ValidMesh_1_0 : (decide ((m_0.Places.length : Int) > 64)) = false) (hf_impl_ValidMesh_1_1 : (decide ((m_0.Triangles.length : Int) > 128)) = false) (hv_impl_ValidMesh_1_0 : 0 ≤ x_l0) (hf_impl_ValidMesh_2_0 : (((m_0.Triangles.getD x_l0.toNat default).length : Int) != 3) = false) (hf_impl_ValidMesh_2_1 : (decide ((m_0.Places.length : Int) > 64)) = false) (hf_impl_ValidMesh_2_2 : (decide ((m_0.Triangles.length : Int) > 128)) = false) (hf_impl_ValidMesh_2_3 : (decide (x_l0 < (m_0.Triangles.length : Int))) = true) : ∀ (k : Nat) (x_l0_1 : Int) (hv_impl_ValidMesh_2_0 : 0 ≤ x_l0_1) (hk : (((m_0.Triangles.getD x_l0.toNat default).length : Int) - x_l0_1).toNat < k), Lp prog 0 (sub (bodyOf f99) [1, 1, 1, 0, 1, 0, 0, 1, 1, 0, 0, 1, 1, 1, 0, 0]) (hd_impl_ValidMesh_2 m_0 x_l0 x_l0_1) (ls_impl_ValidMesh_2 m_0 x_l0 (lo_impl_ValidMesh_2 m_0 x_l0 k x_l0_1)).1 (ls_impl_ValidMesh_2 m_0 x_l0 (lo_impl_ValidMesh_2 m_0 x_l0 k x_l0_1)).2 := by
 intro k
 induction k with
 | zero => intro x_l0_1 hv_impl_ValidMesh_2_0 hk; exact absurd hk (Nat.not_lt_zero _)
 | succ k ih =>
  intro x_l0_1 hv_impl_ValidMesh_2_0 hk
  cases h__0 : (decide (x_l0_1 < ((m_0.Triangles.getD x_l0.toNat default).length : Int))) with
  | true =>
   have gh__0 := of_decide_eq_true h__0
   have y__0 : (0 : Int) ≤ x_l0_1 := (by first | assumption | omega | (simp_all <;> omega))
   have y__1 : x_l0_1 < ((m_0.Triangles.getD x_l0.toNat default).length : Int) := (by first | assumption | omega | (simp_all <;> omega))
   have p {a C} (s : Scr a C) := sB h__0 <| sG (cI .i64) (m_0.Triangles.getD x_l0.toNat default) x_l0_1 y__0 y__1 <| sW .i64 ((m_0.Places.length : Int) - 1) <| sF (t_impl_within ((m_0.Triangles.getD x_l0.toNat default).getD x_l0_1.toNat default) 0 (IntKind.wrap .i64 ((m_0.Places.length : Int) - 1))) <| s
   cases h__1 : (v_impl_within ((m_0.Triangles.getD x_l0.toNat default).getD x_l0_1.toNat default) 0 (IntKind.wrap .i64 ((m_0.Places.length : Int) - 1))) with
   | true =>
    have y__2 : (-9223372036854775808 : Int) ≤ (x_l0_1 + 1) := by clear p; exact (by first | assumption | omega | (simp_all <;> omega))
    have y__3 : (x_l0_1 + 1) ≤ (9223372036854775807 : Int) := by clear p; exact (by first | assumption | omega | (simp_all <;> omega))
    have e : lo_impl_ValidMesh_2 m_0 x_l0 (k + 1) x_l0_1 = (lo_impl_ValidMesh_2 m_0 x_l0 k (x_l0_1 + 1)) := by simp only [lo_impl_ValidMesh_2, h__0, h__1, cond_true]
    rw [e]
    exact nextR E0Ok hMixed [] mk_impl_ValidMesh_2_0 [0] (ih (x_l0_1 + 1) (show 0 ≤ (x_l0_1 + 1) from (by first | assumption | omega | (simp_all <;> omega))) (by first | assumption | omega | (simp_all <;> omega))) (p (sB' h__1 <| sI (x_l0_1 + 1) y__2 y__3 <| sN)) (by kernel_rfl)
   | false =>
    have e : lo_impl_ValidMesh_2 m_0 x_l0 (k + 1) x_l0_1 = (.inl ()) := by simp only [lo_impl_ValidMesh_2, h__0, h__1, cond_true, cond_false]
    rw [e]
    exact outR (e := .ret) E0Ok hMixed [] mk_impl_ValidMesh_2_1 [] (p (sB' h__1 <| sN)) (by kernel_rfl) (by intro h; cases h)
  | false =>
   have gh__0 := of_decide_eq_false h__0
   have e : lo_impl_ValidMesh_2 m_0 x_l0 (k + 1) x_l0_1 = (.inr ()) := by simp only [lo_impl_ValidMesh_2, h__0, cond_false]
   rw [e]
   exact outR (e := (.exit 2)) E0Ok hMixed [] mk_impl_ValidMesh_2_2 [0] (sB h__0 <| sN) (by kernel_rfl) (by intro h; cases h)

def lr_impl_ValidMesh_2_0 (m_0 : GMesh) (x_l0 : Int) : (Unit) ⊕ (Unit) := (lo_impl_ValidMesh_2 m_0 x_l0 ((((m_0.Triangles.getD x_l0.toNat default).length : Int) - 0).toNat + 1) 0)

def lo_impl_ValidMesh_1 (m_0 : GMesh) : Nat → Int → (Unit) ⊕ (Unit)
  | 0, _ => .inl default
  | k + 1, x_l0 => (cond (decide (x_l0 < (m_0.Triangles.length : Int)))
    (cond (((m_0.Triangles.getD x_l0.toNat default).length : Int) != 3)
      (.inl ())
      (cond (((m_0.Triangles.getD x_l0.toNat default).getD 0 default) == ((m_0.Triangles.getD x_l0.toNat default).getD 1 default))
        (.inl ())
        (cond (((m_0.Triangles.getD x_l0.toNat default).getD 1 default) == ((m_0.Triangles.getD x_l0.toNat default).getD 2 default))
          (.inl ())
          (cond (((m_0.Triangles.getD x_l0.toNat default).getD 0 default) == ((m_0.Triangles.getD x_l0.toNat default).getD 2 default))
            (.inl ())
            (match (lr_impl_ValidMesh_2_0 m_0 x_l0) with
              | .inl r_6 => (.inl ())
              | .inr r_6 => (lo_impl_ValidMesh_1 m_0 k (x_l0 + 1)))))))
    (.inr ()))

def ls_impl_ValidMesh_1 (m_0 : GMesh) : (Unit) ⊕ (Unit) → Ex × St
  | .inl r => (.ret, ⟨[.any, .any, .b false, .any, .any, .any, .any, .any, .any, .any, .any, .any, .any, .any, .any, .any, .any, .any, .any, .any, .any, .any, .any, .any, .any, .any, .any, .any, .any, .any, .any, .any, .any, .any, .any, .any, .any, .any, .any, .any, .any, .any, .any, .any, .any, .any, .any, .any, .any, .any, .any, .any, .any, .any, .any, .any, .any, .any, .any, .any, .any, .any, .any, .any, .any, .any, .any, .any, .any], []⟩)
  | .inr r => ((.exit 0), ⟨[.agg [.sl (m_0.Places.map GVector.cells), .sl (m_0.Triangles.map (cL (cI .i64)))], .ptr 0 0 0, .any, .i .i64 (m_0.Places.length : Int), .any, .any, .any, .any, .ptr 0 0 0, .sl (m_0.Places.map GVector.cells), .i .i64 (m_0.Places.length : Int), .i .i64 (m_0.Places.length : Int), .b (decide ((m_0.Places.length : Int) > 64)), .b (decide ((m_0.Places.length : Int) > 64)), .ptr 0 0 1, .sl (m_0.Triangles.map (cL (cI .i64))), .i .i64 (m_0.Triangles.length : Int), .b (decide ((m_0.Triangles.length : Int) > 128)), .b (decide ((m_0.Triangles.length : Int) > 128)), .ptr 0 0 1, .sl (m_0.Triangles.map (cL (cI .i64))), .any, .any, .any, .any, .any, .any, .any, .any, .any, .any, .any, .any, .any, .any, .any, .any, .any, .any, .any, .any, .any, .any, .any, .any, .any, .any, .any, .any, .any, .any, .any, .any, .any, .any, .any, .any, .any, .any, .any, .any, .any, .any, .any, .any, .any, .any, .any, .any], [.box 42 [.sl (m_0.Places.map GVector.cells), .sl (m_0.Triangles.map (cL (cI .i64)))]]⟩)

def hd_impl_ValidMesh_1 (m_0 : GMesh) (x_l0 : Int) : St := ⟨[.agg [.sl (m_0.Places.map GVector.cells), .sl (m_0.Triangles.map (cL (cI .i64)))], .ptr 0 0 0, .any, .i .i64 (m_0.Places.length : Int), .any, .any, .any, .any, .ptr 0 0 0, .sl (m_0.Places.map GVector.cells), .i .i64 (m_0.Places.length : Int), .i .i64 (m_0.Places.length : Int), .b (decide ((m_0.Places.length : Int) > 64)), .b (decide ((m_0.Places.length : Int) > 64)), .ptr 0 0 1, .sl (m_0.Triangles.map (cL (cI .i64))), .i .i64 (m_0.Triangles.length : Int), .b (decide ((m_0.Triangles.length : Int) > 128)), .b (decide ((m_0.Triangles.length : Int) > 128)), .ptr 0 0 1, .sl (m_0.Triangles.map (cL (cI .i64))), .i .i64 (m_0.Triangles.length : Int), .i .i64 x_l0, .any, .any, .any, .any, .any, .any, .any, .any, .any, .any, .any, .any, .any, .any, .any, .any, .any, .any, .any, .any, .any, .any, .any, .any, .any, .any, .any, .any, .any, .any, .any, .any, .any, .any, .any, .any, .any, .any, .any, .any, .any, .any, .any, .any, .any, .any], [.box 42 [.sl (m_0.Places.map GVector.cells), .sl (m_0.Triangles.map (cL (cI .i64)))]]⟩

def mk_impl_ValidMesh_1_0 : List Bool := [true, true, false, true, false, false, false, false, true, true, true, true, true, true, true, true, true, true, true, true, true, true, true, false, false, false, false, false, false, false, false, false, false, false, false, false, false, false, false, false, false, false, false, false, false, false, false, false, false, false, false, false, false, false, false, false, false, false, false, false, false, false, false, false, false, false, false, false, false]

def mk_impl_ValidMesh_1_1 : List Bool := [false, false, true, false, false, false, false, false, false, false, false, false, false, false, false, false, false, false, false, false, false, false, false, false, false, false, false, false, false, false, false, false, false, false, false, false, false, false, false, false, false, false, false, false, false, false, false, false, false, false, false, false, false, false, false, false, false, false, false, false, false, false, false, false, false, false, false, false, false]

def mk_impl_ValidMesh_1_2 : List Bool := [true, true, false, true, false, false, false, false, true, true, true, true, true, true, true, true, true, true, true, true, true, false, false, false, false, false, false, false, false, false, false, false, false, false, false, false, false, false, false, false, false, false, false, false, false, false, false, false, false, false, false, false, false, false, false, false, false, false, false, false, false, false, false, false, false, false, false, false, false]

theorem lp_impl_ValidMesh_1 (m_0 : GMesh) (hp0 : m_0.Places.length ≤ 1073741824) (hp1 : m_0.Triangles.length ≤ 1073741824) (hp2 : ∀ t ∈ m_0.Triangles, t.length ≤ 1073741824) (hf_impl_ValidMesh_1_0 : (decide ((m_0.Places.length : Int) > 64)) = false) (hf_impl_ValidMesh_1_1 : (decide ((m_0.Triangles.length : Int) > 128)) = false) : ∀ (k : Nat) (x_l0 : Int) (hv_impl_ValidMesh_1_0 : 0 ≤ x_l0) (hk : ((m_0.Triangles.length : Int) - x_l0).toNat < k), Lp prog 0 (sub (bodyOf f99) [1, 1, 1, 0, 1, 0, 0]) (hd_impl_ValidMesh_1 m_0 x_l0) (ls_impl_ValidMesh_1 m_0 (lo_impl_ValidMesh_1 m_0 k x_l0)).1 (ls_impl_ValidMesh_1 m_0 (lo_impl_ValidMesh_1 m_0 k x_l0)).2 := by
 intro k
 induction k with
 | zero => intro x_l0 hv_impl_ValidMesh_1_0 hk; exact absurd hk (Nat.not_lt_zero _)
 | succ k ih =>
  intro x_l0 hv_impl_ValidMesh_1_0 hk
  cases h_0 : (decide (x_l0 < (m_0.Triangles.length : Int))) with
  | true =>
   have gh_0 := of_decide_eq_true h_0
   have y_0 : (0 : Int) ≤ x_l0 := (by first | assumption | omega | (simp_all <;> omega))
   have y_1 : x_l0 < (m_0.Triangles.length : Int) := (by first | assumption | omega | (simp_all <;> omega))
   have p {a C} (s : Scr a C) := sB h_0 <| sG (cL (cI .i64)) m_0.Triangles x_l0 y_0 y_1 <| sK [28, 28] <| sZ (cI .i64) (m_0.Triangles.getD x_l0.toNat default) <| s
   cases h_1 : (((m_0.Triangles.getD x_l0.toNat default).length : Int) != 3) with
   | true =>
    have gh_1 := bne_iff_ne.1 h_1
    have e : lo_impl_ValidMesh_1 m_0 (k + 1) x_l0 = (.inl ()) := by simp only [lo_impl_ValidMesh_1, h_0, h_1, cond_true]
    rw [e]
    exact outR (e := .ret) E0Ok hMixed [] mk_impl_ValidMesh_1_1 [] (p (sB h_1 <| sB h_1 <| sB h_1 <| sB h_1 <| sB h_1 <| sB h_1 <| sB h_1 <| sB h_1 <| sB (show true = true from rfl) <| sB (show true = true from rfl) <| sB (show true = true from rfl) <| sB (show true = true from rfl) <| sB (show true = true from rfl) <| sB (show true = true from rfl) <| sB (show true = true from rfl) <| sB (show true = true from rfl) <| sB (show true = true from rfl) <| sB (show true = true from rfl) <| sB (show true = true from rfl) <| sB (show true = true from rfl) <| sB (show true = true from rfl) <| sB (show true = true from rfl) <| sB (show true = true from rfl) <| sB (show true = true from rfl) <| sB (show true = true from rfl) <| sN)) (by kernel_rfl) (by intro h; cases h)
   | false =>
    have gh_1 := bne_eq_false_iff_eq.1 h_1
    have y_2 : (0 : Int) ≤ 0 := by clear p; exact (by first | assumption | omega | (simp_all <;> omega))
    have y_3 : 0 < ((m_0.Triangles.getD x_l0.toNat default).length : Int) := by clear p; exact (by first | assumption | omega | (simp_all <;> omega))
    have y_4 : (0 : Int) ≤ 1 := by clear p; exact (by first | assumption | omega | (simp_all <;> omega))
    have y_5 : 1 < ((m_0.Triangles.getD x_l0.toNat default).length : Int) := by clear p; exact (by first | assumption | omega | (simp_all <;> omega))
    have q {a C} (s : Scr a C) := p (sB h_1 <| sB h_1 <| sG (cI .i64) (m_0.Triangles.getD x_l0.toNat default) 0 y_2 y_3 <| sB h_1 <| sB h_1 <| sB h_1 <| sG (cI .i64) (m_0.Triangles.getD x_l0.toNat default) 1 y_4 y_5 <| sB h_1 <| sB h_1 <| sB h_1 <| s)
    clear p
    cases h_2 : (((m_0.Triangles.getD x_l0.toNat default).getD 0 default) == ((m_0.Triangles.getD x_l0.toNat default).getD 1 default)) with
    | true =>
     have gh_2 := eq_of_beq h_2
     have e : lo_impl_ValidMesh_1 m_0 (k + 1) x_l0 = (.inl ()) := by simp only [lo_impl_ValidMesh_1, h_0, h_1, h_2, cond_true, cond_false]
     rw [e]
     exact outR (e := .ret) E0Ok hMixed [] mk_impl_ValidMesh_1_1 [] (q (sB h_2 <| sB h_2 <| sB h_2 <| sB h_2 <| sB h_2 <| sB h_2 <| sB h_2 <| sB h_2 <| sB (show true = true from rfl) <| sB (show true = true from rfl) <| sB (show true = true from rfl) <| sB (show true = true from rfl) <| sB (show true = true from rfl) <| sB (show true = true from rfl) <| sB (show true = true from rfl) <| sB (show true = true from rfl) <| sB (show true = true from rfl) <| sN)) (by kernel_rfl) (by intro h; cases h)
    | false =>
     have gh_2 := ne_of_beq_false h_2
     have y_6 : (0 : Int) ≤ 2 := by clear q; exact (by first | assumption | omega | (simp_all <;> omega))
     have y_7 : 2 < ((m_0.Triangles.getD x_l0.toNat default).length : Int) := by clear q; exact (by first | assumption | omega | (simp_all <;> omega))
     have p {a C} (s : Scr a C) := q (sB h_2 <| sB h_2 <| sG (cI .i64) (m_0.Triangles.getD x_l0.toNat default) 1 y_4 y_5 <| sB h_2 <| sB h_2 <| sB h_2 <| sG (cI .i64) (m_0.Triangles.getD x_l0.toNat default) 2 y_6 y_7 <| sB h_2 <| sB h_2 <| sB h_2 <| s)
     clear q
     cases h_3 : (((m_0.Triangles.getD x_l0.toNat default).getD 1 default) == ((m_0.Triangles.getD x_l0.toNat default).getD 2 default)) with
     | true =>
      have gh_3 := eq_of_beq h_3
      have e : lo_impl_ValidMesh_1 m_0 (k + 1) x_l0 = (.inl ()) := by simp only [lo_impl_ValidMesh_1, h_0, h_1, h_2, h_3, cond_true, cond_false]
      rw [e]
      exact outR (e := .ret) E0Ok hMixed [] mk_impl_ValidMesh_1_1 [] (p (sB h_3 <| sB h_3 <| sB h_3 <| sB h_3 <| sB h_3 <| sB h_3 <| sB h_3 <| sB h_3 <| sB (show true = true from rfl) <| sN)) (by kernel_rfl) (by intro h; cases h)
     | false =>
      have gh_3 := ne_of_beq_false h_3
      have q {a C} (s : Scr a C) := p (sB h_3 <| sB h_3 <| sG (cI .i64) (m_0.Triangles.getD x_l0.toNat default) 0 y_2 y_3 <| sB h_3 <| sB h_3 <| sB h_3 <| sG (cI .i64) (m_0.Triangles.getD x_l0.toNat default) 2 y_6 y_7 <| sB h_3 <| sB h_3 <| sB h_3 <| s)
      clear p
      cases h_4 : (((m_0.Triangles.getD x_l0.toNat default).getD 0 default) == ((m_0.Triangles.getD x_l0.toNat default).getD 2 default)) with
      | true =>
       have gh_4 := eq_of_beq h_4
       have e : lo_impl_ValidMesh_1 m_0 (k + 1) x_l0 = (.inl ()) := by simp only [lo_impl_ValidMesh_1, h_0, h_1, h_2, h_3, h_4, cond_true, cond_false]
       rw [e]
       exact outR (e := .ret) E0Ok hMixed [] mk_impl_ValidMesh_1_1 [] (q (sB h_4 <| sN)) (by kernel_rfl) (by intro h; cases h)
      | false =>
       have gh_4 := ne_of_beq_false h_4
       have p {a C} (s : Scr a C) := q (sB h_4 <| sZ (cI .i64) (m_0.Triangles.getD x_l0.toNat default) <| s)
       clear q
       cases h_5 : (lr_impl_ValidMesh_2_0 m_0 x_l0) with
       | inl r_6 =>
        have e : lo_impl_ValidMesh_1 m_0 (k + 1) x_l0 = (.inl ()) := by simp only [lo_impl_ValidMesh_1, h_0, h_1, h_2, h_3, h_4, h_5, cond_true, cond_false]
        rw [e]
        exact outR (e := .ret) E0Ok hMixed [] mk_impl_ValidMesh_1_1 [] (p (sL mk_impl_ValidMesh_2_0 1 (lp_val (ls_impl_ValidMesh_2 m_0 x_l0) (x := (lr_impl_ValidMesh_2_0 m_0 x_l0)) (lp_impl_ValidMesh_2 m_0 x_l0 hp0 hp1 hp2 hf_impl_ValidMesh_1_0 hf_impl_ValidMesh_1_1 hv_impl_ValidMesh_1_0 h_1 hf_impl_ValidMesh_1_0 hf_impl_ValidMesh_1_1 h_0 ((((m_0.Triangles.getD x_l0.toNat default).length : Int) - 0).toNat + 1) 0 (show 0 ≤ 0 from (by first | assumption | omega | (simp_all <;> omega))) (Nat.lt_succ_self _)) h_5) <| sN)) (by kernel_rfl) (by intro h; cases h)
       | inr r_6 =>
        have y_8 : (-9223372036854775808 : Int) ≤ (x_l0 + 1) := by clear p; exact (by first | assumption | omega | (simp_all <;> omega))
        have y_9 : (x_l0 + 1) ≤ (9223372036854775807 : Int) := by clear p; exact (by first | assumption | omega | (simp_all <;> omega))
        have e : lo_impl_ValidMesh_1 m_0 (k + 1) x_l0 = (lo_impl_ValidMesh_1 m_0 k (x_l0 + 1)) := by simp only [lo_impl_ValidMesh_1, h_0, h_1, h_2, h_3, h_4, h_5, cond_true, cond_false]
        rw [e]
        exact nextR E0Ok hMixed [] mk_impl_ValidMesh_1_0 [0] (ih (x_l0 + 1) (show 0 ≤ (x_l0 + 1) from (by first | assumption | omega | (simp_all <;> omega))) (by first | assumption | omega | (simp_all <;> omega))) (p (sL mk_impl_ValidMesh_2_0 1 (lp_val (ls_impl_ValidMesh_2 m_0 x_l0) (x := (lr_impl_ValidMesh_2_0 m_0 x_l0)) (lp_impl_ValidMesh_2 m_0 x_l0 hp0 hp1 hp2 hf_impl_ValidMesh_1_0 hf_impl_ValidMesh_1_1 hv_impl_ValidMesh_1_0 h_1 hf_impl_ValidMesh_1_0 hf_impl_ValidMesh_1_1 h_0 ((((m_0.Triangles.getD x_l0.toNat default).length : Int) - 0).toNat + 1) 0 (show 0 ≤ 0 from (by first | assumption | omega | (simp_all <;> omega))) (Nat.lt_succ_self _)) h_5) <| sI (x_l0 + 1) y_8 y_9 <| sN)) (by kernel_rfl)
  | false =>
   have gh_0 := of_decide_eq_false h_0
   have e : lo_impl_ValidMesh_1 m_0 (k + 1) x_l0 = (.inr ()) := by simp only [lo_impl_ValidMesh_1, h_0, cond_false]
   rw [e]
   exact outR (e := (.exit 0)) E0Ok hMixed [] mk_impl_ValidMesh_1_2 [0] (sB h_0 <| sN) (by kernel_rfl) (by intro h; cases h)

def lr_impl_ValidMesh_1_1 (m_0 : GMesh) : (Unit) ⊕ (Unit) := (lo_impl_ValidMesh_1 m_0 (((m_0.Triangles.length : Int) - 0).toNat + 1) 0)

def v_impl_ValidMesh (m_0 : GMesh) : Bool := (cond (decide ((m_0.Places.length : Int) > 64))
  false
  (cond (decide ((m_0.Triangles.length : Int) > 128))
    false
    (match (lr_impl_ValidMesh_1_1 m_0) with
      | .inl r3 => false
      | .inr r3 => true)))

theorem t_impl_ValidMesh (m_0 : GMesh) (hp0 : m_0.Places.length ≤ 1073741824) (hp1 : m_0.Triangles.length ≤ 1073741824) (hp2 : ∀ t ∈ m_0.Triangles, t.length ≤ 1073741824)  : Fn prog 99 [.agg [.sl (m_0.Places.map GVector.cells), .sl (m_0.Triangles.map (cL (cI .i64)))]] (.b (v_impl_ValidMesh m_0)) [] := by
 have p {a C} (s : Scr a C) := sZ GVector.cells m_0.Places <| s
 cases h0 : (decide ((m_0.Places.length : Int) > 64)) with
 | true =>
  have gh0 := of_decide_eq_true h0
  refine fnS E0Ok hMixed (c := bodyOf f99) [] (.b false) [] func99 (p (sB h0 <| sB h0 <| sB h0 <| sB h0 <| sB h0 <| sB (show true = true from rfl) <| sK [] sN)) rfl (by kernel_rfl) (by kernel_rfl) rfl ?_ ?_
  · simp only [v_impl_ValidMesh, h0, cond_true]
  · rfl
 | false =>
  have gh0 := of_decide_eq_false h0
  have q {a C} (s : Scr a C) := p (sB h0 <| sB h0 <| sB h0 <| sZ (cL (cI .i64)) m_0.Triangles <| sB h0 <| sB h0 <| s)
  clear p
  cases h1 : (decide ((m_0.Triangles.length : Int) > 128)) with
  | true =>
   have gh1 := of_decide_eq_true h1
   refine fnS E0Ok hMixed (c := bodyOf f99) [] (.b false) [] func99 (q (sB h1 <| sK [] sN)) rfl (by kernel_rfl) (by kernel_rfl) rfl ?_ ?_
   · simp only [v_impl_ValidMesh, h0, h1, cond_true, cond_false]
   · rfl
  | false =>
   have gh1 := of_decide_eq_false h1
   have p {a C} (s : Scr a C) := q (sB h1 <| sZ (cL (cI .i64)) m_0.Triangles <| s)
   clear q
   cases h2 : (lr_impl_ValidMesh_1_1 m_0) with
   | inl r3 =>
    refine fnS E0Ok hMixed (c := bodyOf f99) [] (.b false) [] func99 (p (sL mk_impl_ValidMesh_1_0 1 (lp_val (ls_impl_ValidMesh_1 m_0) (x := (lr_impl_ValidMesh_1_1 m_0)) (lp_impl_ValidMesh_1 m_0 hp0 hp1 hp2 h0 h1 (((m_0.Triangles.length : Int) - 0).toNat + 1) 0 (show 0 ≤ 0 from (by first | assumption | omega | (simp_all <;> omega))) (Nat.lt_succ_self _)) h2) <| sK [] sN)) rfl (by kernel_rfl) (by kernel_rfl) rfl ?_ ?_
    · simp only [v_impl_ValidMesh, h0, h1, h2, cond_false]
    · rfl
   | inr r3 =>
    refine fnS E0Ok hMixed (c := bodyOf f99) [] (.b true) [] func99 (p (sL mk_impl_ValidMesh_1_0 1 (lp_val (ls_impl_ValidMesh_1 m_0) (x := (lr_impl_ValidMesh_1_1 m_0)) (lp_impl_ValidMesh_1 m_0 hp0 hp1 hp2 h0 h1 (((m_0.Triangles.length : Int) - 0).toNat + 1) 0 (show 0 ≤ 0 from (by first | assumption | omega | (simp_all <;> omega))) (Nat.lt_succ_self _)) h2) <| sK [] sN)) rfl (by kernel_rfl) (by kernel_rfl) rfl ?_ ?_
    · simp only [v_impl_ValidMesh, h0, h1, h2, cond_false]
    · rfl

theorem triB (t : List Int) (n : Int) : (!((t.length : Int) != 3) && (!(t.getD 0 default == t.getD 1 default) && (!(t.getD 1 default == t.getD 2 default) && (!(t.getD 0 default == t.getD 2 default) && t.all fun x => v_impl_within x 0 (IntKind.wrap .i64 (n - 1)))))) = v_spec_l02Triangle t n := by
  unfold v_spec_l02Triangle
  cases hl : ((t.length : Int) != 3) with
  | true => rfl
  | false =>
    have hl3 : t.length = 3 := by simp at hl; omega
    match t, hl3 with
    | [a, b, c], _ =>
      simp only [List.getD_cons_zero, List.getD_cons_succ, List.all_cons, List.all_nil, Bool.and_true]
      rw [show v_impl_within = v_spec_l00In from rfl]
      cases (a == b) <;> cases (b == c) <;> cases (a == c) <;> cases v_spec_l00In a 0 (IntKind.wrap .i64 (n - 1)) <;> cases v_spec_l00In b 0 (IntKind.wrap .i64 (n - 1)) <;> cases v_spec_l00In c 0 (IntKind.wrap .i64 (n - 1)) <;> rfl
theorem lo_ValidMesh (m : GMesh) (k : Nat) (i : Int) : lo_impl_ValidMesh_1 m (k + 1) i = cond (decide (i < (m.Triangles.length : Int))) (cond (v_spec_l02Triangle (m.Triangles.getD i.toNat default) (m.Places.length : Int)) (lo_impl_ValidMesh_1 m k (i + 1)) (.inl ())) (.inr ()) := by
  rw [lo_impl_ValidMesh_1, ← triB]
  have hin : lr_impl_ValidMesh_2_0 m i = cond ((m.Triangles.getD i.toNat default).all fun x => v_impl_within x 0 (IntKind.wrap .i64 ((m.Places.length : Int) - 1))) (.inr ()) (.inl ()) := by
    unfold lr_impl_ValidMesh_2_0
    exact all_from (a := m.Triangles.getD i.toNat default) (p := fun x => v_impl_within x 0 (IntKind.wrap .i64 ((m.Places.length : Int) - 1))) (lo := lo_impl_ValidMesh_2 m i) (x := ()) (y := ()) (fun k i => rfl)
  rw [hin]
  generalize m.Triangles.getD i.toNat default = t
  generalize (t.all fun x => v_impl_within x 0 (IntKind.wrap .i64 ((m.Places.length : Int) - 1))) = q
  cases ((t.length : Int) != 3) <;> cases (t.getD 0 default == t.getD 1 default) <;> cases (t.getD 1 default == t.getD 2 default) <;> cases (t.getD 0 default == t.getD 2 default) <;> cases q <;> rfl
theorem eq_ValidMesh (m : GMesh) : v_impl_ValidMesh m = v_spec_l02Is m := by
  rw [l02Is_eq]
  unfold v_impl_ValidMesh lr_impl_ValidMesh_1_1
  rw [all_from (a := m.Triangles) (p := fun t => v_spec_l02Triangle t (m.Places.length : Int)) (lo := lo_impl_ValidMesh_1 m) (x := ()) (y := ()) (lo_ValidMesh m)]
  cases (m.Triangles.all fun t => v_spec_l02Triangle t (m.Places.length : Int)) <;> rfl

def v_impl_IsFinite (x_0 : Nat) : Bool := (fcmp .eql .f32 (fop .sub .f32 x_0 x_0) 0)

theorem t_impl_IsFinite (x_0 : Nat)   : Fn prog 70 [.f .f32 x_0] (.b (v_impl_IsFinite x_0)) [] := by
 refine fnS E0Ok hMixed (c := bodyOf f70) [] (.b (fcmp .eql .f32 (fop .sub .f32 x_0 x_0) 0)) [] func70 (sK [] sN) rfl (by kernel_rfl) (by kernel_rfl) rfl ?_ ?_
 · rfl
 · rfl

def v_impl_isFiniteVector (v_0 : GVector) : Bool := (cond (v_impl_IsFinite v_0.X)
  (cond (v_impl_IsFinite v_0.Y)
    (v_impl_IsFinite v_0.Z)
    false)
  false)

theorem t_impl_isFiniteVector (v_0 : GVector)   : Fn prog 189 [.agg [.f .f32 v_0.X, .f .f32 v_0.Y, .f .f32 v_0.Z]] (.b (v_impl_isFiniteVector v_0)) [] := by
 have p {a C} (s : Scr a C) := sF (t_impl_IsFinite v_0.X) <| s
 cases h0 : (v_impl_IsFinite v_0.X) with
 | true =>
  have q {a C} (s : Scr a C) := p (sB h0 <| sB h0 <| sB h0 <| sF (t_impl_IsFinite v_0.Y) <| sB h0 <| s)
  clear p
  cases h1 : (v_impl_IsFinite v_0.Y) with
  | true =>
   refine fnS E0Ok hMixed (c := bodyOf f189) [] (.b (v_impl_IsFinite v_0.Z)) [] func189 (q (sB h1 <| sB h1 <| sB h1 <| sF (t_impl_IsFinite v_0.Z) <| sB h1 <| sK [] sN)) rfl (by kernel_rfl) (by kernel_rfl) rfl ?_ ?_
   · simp only [v_impl_isFiniteVector, h0, h1, cond_true]
   · rfl
  | false =>
   refine fnS E0Ok hMixed (c := bodyOf f189) [] (.b false) [] func189 (q (sB h1 <| sB h1 <| sB h1 <| sB h1 <| sK [] sN)) rfl (by kernel_rfl) (by kernel_rfl) rfl ?_ ?_
   · simp only [v_impl_isFiniteVector, h0, h1, cond_true, cond_false]
   · rfl
 | false =>
  refine fnS E0Ok hMixed (c := bodyOf f189) [] (.b false) [] func189 (p (sB h0 <| sB h0 <| sB h0 <| sB h0 <| sB (show false = false from rfl) <| sB (show false = false from rfl) <| sB (show false = false from rfl) <| sB (show false = false from rfl) <| sK [] sN)) rfl (by kernel_rfl) (by kernel_rfl) rfl ?_ ?_
  · simp only [v_impl_isFiniteVector, h0, cond_false]
  · rfl

def v_impl_InnerOf (a_0 : GVector) (b_1 : GVector) : Nat := (fop .add .f32 (fop .add .f32 (fop .mul .f32 a_0.X b_1.X) (fop .mul .f32 a_0.Y b_1.Y)) (fop .mul .f32 a_0.Z b_1.Z))

theorem t_impl_InnerOf (a_0 : GVector) (b_1 : GVector)   : Fn prog 167 [.agg [.f .f32 a_0.X, .f .f32 a_0.Y, .f .f32 a_0.Z], .agg [.f .f32 b_1.X, .f .f32 b_1.Y, .f .f32 b_1.Z]] (.f .f32 (v_impl_InnerOf a_0 b_1)) [] := by
 refine fnS E0Ok hMixed (c := bodyOf f167) [] (.f .f32 (fop .add .f32 (fop .add .f32 (fop .mul .f32 a_0.X b_1.X) (fop .mul .f32 a_0.Y b_1.Y)) (fop .mul .f32 a_0.Z b_1.Z))) [] func167 (sK [] sN) rfl (by kernel_rfl) (by kernel_rfl) rfl ?_ ?_
 · rfl
 · rfl

def v_impl_isOver (x_0 : Nat) : Bool := (cond (v_impl_IsFinite x_0)
  (fcmp .gtr .f32 x_0 0)
  false)

theorem t_impl_isOver (x_0 : Nat)   : Fn prog 71 [.f .f32 x_0] (.b (v_impl_isOver x_0)) [] := by
 have p {a C} (s : Scr a C) := sF (t_impl_IsFinite x_0) <| s
 cases h0 : (v_impl_IsFinite x_0) with
 | true =>
  refine fnS E0Ok hMixed (c := bodyOf f71) [] (.b (fcmp .gtr .f32 x_0 0)) [] func71 (p (sB h0 <| sB h0 <| sB h0 <| sK [] sN)) rfl (by kernel_rfl) (by kernel_rfl) rfl ?_ ?_
  · simp only [v_impl_isOver, h0, cond_true]
  · rfl
 | false =>
  refine fnS E0Ok hMixed (c := bodyOf f71) [] (.b false) [] func71 (p (sB h0 <| sB h0 <| sB h0 <| sK [] sN)) rfl (by kernel_rfl) (by kernel_rfl) rfl ?_ ?_
  · simp only [v_impl_isOver, h0, cond_false]
  · rfl

def v_impl_IsHold (h_0 : GHold) : Bool := (cond (decide (h_0.Place < 0))
  false
  (cond (v_impl_within h_0.Kind 0 2)
    (cond (v_impl_isFiniteVector h_0.At)
      (cond (v_impl_isFiniteVector h_0.Way)
        (cond (h_0.Kind == 0)
          true
          (v_impl_isOver (v_impl_InnerOf h_0.Way h_0.Way)))
        false)
      false)
    false))

theorem t_impl_IsHold (h_0 : GHold)   : Fn prog 155 [.agg [.i .i64 h_0.Place, .i .i64 h_0.Kind, .f .f32 h_0.At.X, .f .f32 h_0.At.Y, .f .f32 h_0.At.Z, .f .f32 h_0.Way.X, .f .f32 h_0.Way.Y, .f .f32 h_0.Way.Z]] (.b (v_impl_IsHold h_0)) [] := by
 cases h0 : (decide (h_0.Place < 0)) with
 | true =>
  have gh0 := of_decide_eq_true h0
  refine fnS E0Ok hMixed (c := bodyOf f155) [] (.b false) [] func155 (sB h0 <| sB h0 <| sB h0 <| sB h0 <| sB h0 <| sB (show true = true from rfl) <| sB (show true = true from rfl) <| sB (show true = true from rfl) <| sB (show true = true from rfl) <| sB (show true = true from rfl) <| sB (show true = true from rfl) <| sB (show true = true from rfl) <| sB (show true = true from rfl) <| sB (show true = true from rfl) <| sB (show true = true from rfl) <| sB (show true = true from rfl) <| sK [] sN) rfl (by kernel_rfl) (by kernel_rfl) rfl ?_ ?_
  · simp only [v_impl_IsHold, h0, cond_true]
  · rfl
 | false =>
  have gh0 := of_decide_eq_false h0
  have p {a C} (s : Scr a C) := sB h0 <| sB h0 <| sB h0 <| sF (t_impl_within h_0.Kind 0 2) <| sB h0 <| sB h0 <| s
  cases h1 : (v_impl_within h_0.Kind 0 2) with
  | true =>
   have q {a C} (s : Scr a C) := p (sB' h1 <| sB' h1 <| sB' h1 <| sF (t_impl_isFiniteVector h_0.At) <| sB' h1 <| sB' h1 <| s)
   clear p
   cases h2 : (v_impl_isFiniteVector h_0.At) with
   | true =>
    have p {a C} (s : Scr a C) := q (sB' h2 <| sB' h2 <| sB' h2 <| sF (t_impl_isFiniteVector h_0.Way) <| sB' h2 <| sB' h2 <| s)
    clear q
    cases h3 : (v_impl_isFiniteVector h_0.Way) with
    | true =>
     have q {a C} (s : Scr a C) := p (sB' h3 <| s)
     clear p
     cases h4 : (h_0.Kind == 0) with
     | true =>
      have gh4 := eq_of_beq h4
      refine fnS E0Ok hMixed (c := bodyOf f155) [] (.b true) [] func155 (q (sB h4 <| sB h4 <| sB h4 <| sB h4 <| sB h4 <| sB h4 <| sB h4 <| sK [] sN)) rfl (by kernel_rfl) (by kernel_rfl) rfl ?_ ?_
      · simp only [v_impl_IsHold, h0, h1, h2, h3, h4, cond_true, cond_false]
      · rfl
     | false =>
      have gh4 := ne_of_beq_false h4
      refine fnS E0Ok hMixed (c := bodyOf f155) [] (.b (v_impl_isOver (v_impl_InnerOf h_0.Way h_0.Way))) [] func155 (q (sB h4 <| sB h4 <| sB h4 <| sB h4 <| sB h4 <| sF (t_impl_InnerOf h_0.Way h_0.Way) <| sB h4 <| sF (t_impl_isOver (v_impl_InnerOf h_0.Way h_0.Way)) <| sB h4 <| sK [] sN)) rfl (by kernel_rfl) (by kernel_rfl) rfl ?_ ?_
      · simp only [v_impl_IsHold, h0, h1, h2, h3, h4, cond_true, cond_false]
      · rfl
    | false =>
     refine fnS E0Ok hMixed (c := bodyOf f155) [] (.b false) [] func155 (p (sB' h3 <| sK [] sN)) rfl (by kernel_rfl) (by kernel_rfl) rfl ?_ ?_
     · simp only [v_impl_IsHold, h0, h1, h2, h3, cond_true, cond_false]
     · rfl
   | false =>
    refine fnS E0Ok hMixed (c := bodyOf f155) [] (.b false) [] func155 (q (sB' h2 <| sB' h2 <| sB' h2 <| sB' h2 <| sB' h2 <| sB (show true = true from rfl) <| sK [] sN)) rfl (by kernel_rfl) (by kernel_rfl) rfl ?_ ?_
    · simp only [v_impl_IsHold, h0, h1, h2, cond_true, cond_false]
    · rfl
  | false =>
   refine fnS E0Ok hMixed (c := bodyOf f155) [] (.b false) [] func155 (p (sB' h1 <| sB' h1 <| sB' h1 <| sB' h1 <| sB' h1 <| sB (show true = true from rfl) <| sB (show true = true from rfl) <| sB (show true = true from rfl) <| sB (show true = true from rfl) <| sB (show true = true from rfl) <| sB (show true = true from rfl) <| sK [] sN)) rfl (by kernel_rfl) (by kernel_rfl) rfl ?_ ?_
   · simp only [v_impl_IsHold, h0, h1, cond_false]
   · rfl

def lo_impl_AreHolds_1 (m_0 : GMesh) (holds_1 : (List GHold)) : Nat → Int → Int → (Unit) ⊕ (Unit)
  | 0, _, _ => .inl default
  | k + 1, last_l0, x_l1 => (cond (decide (x_l1 < (holds_1.length : Int)))
    (cond (v_impl_IsHold (holds_1.getD x_l1.toNat default))
      (cond (v_impl_within ((holds_1.getD x_l1.toNat default).Place) (IntKind.wrap .i64 (last_l0 + 1)) (IntKind.wrap .i64 ((m_0.Places.length : Int) - 1)))
        (lo_impl_AreHolds_1 m_0 holds_1 k ((holds_1.getD x_l1.toNat default).Place) (x_l1 + 1))
        (.inl ()))
      (.inl ()))
    (.inr ()))

def ls_impl_AreHolds_1 (m_0 : GMesh) (holds_1 : (List GHold)) : (Unit) ⊕ (Unit) → Ex × St
  | .inl r => (.ret, ⟨[.any, .any, .any, .any, .b false, .any, .any, .any, .any, .any, .any, .any, .any, .any, .any, .any, .any, .any, .any, .any, .any, .any, .any, .any, .any, .any, .any, .any, .any, .any, .any, .any, .any, .any, .any], []⟩)
  | .inr r => ((.exit 0), ⟨[.agg [.sl (m_0.Places.map GVector.cells), .sl (m_0.Triangles.map (cL (cI .i64)))], .sl (holds_1.map GHold.cells), .ptr 0 0 0, .any, .any, .any, .any, .any, .agg [.sl (m_0.Places.map GVector.cells), .sl (m_0.Triangles.map (cL (cI .i64)))], .b (v_impl_ValidMesh m_0), .b (!(v_impl_ValidMesh m_0)), .sl (holds_1.map GHold.cells), .any, .any, .any, .any, .any, .any, .any, .any, .any, .any, .any, .any, .any, .any, .any, .any, .any, .any, .any, .any, .any, .any, .any], [.box 42 [.sl (m_0.Places.map GVector.cells), .sl (m_0.Triangles.map (cL (cI .i64)))]]⟩)

def hd_impl_AreHolds_1 (m_0 : GMesh) (holds_1 : (List GHold)) (last_l0 : Int) (x_l1 : Int) : St := ⟨[.agg [.sl (m_0.Places.map GVector.cells), .sl (m_0.Triangles.map (cL (cI .i64)))], .sl (holds_1.map GHold.cells), .ptr 0 0 0, .any, .any, .i .i64 last_l0, .any, .any, .agg [.sl (m_0.Places.map GVector.cells), .sl (m_0.Triangles.map (cL (cI .i64)))], .b (v_impl_ValidMesh m_0), .b (!(v_impl_ValidMesh m_0)), .sl (holds_1.map GHold.cells), .i .i64 (holds_1.length : Int), .i .i64 x_l1, .any, .any, .any, .any, .any, .any, .any, .any, .any, .any, .any, .any, .any, .any, .any, .any, .any, .any, .any, .any, .any], [.box 42 [.sl (m_0.Places.map GVector.cells), .sl (m_0.Triangles.map (cL (cI .i64)))]]⟩

def mk_impl_AreHolds_1_0 : List Bool := [true, true, true, false, false, true, false, false, true, true, true, true, true, true, false, false, false, false, false, false, false, false, false, false, false, false, false, false, false, false, false, false, false, false, false]

def mk_impl_AreHolds_1_1 : List Bool := [false, false, false, false, true, false, false, false, false, false, false, false, false, false, false, false, false, false, false, false, false, false, false, false, false, false, false, false, false, false, false, false, false, false, false]

def mk_impl_AreHolds_1_2 : List Bool := [true, true, true, false, false, false, false, false, true, true, true, true, false, false, false, false, false, false, false, false, false, false, false, false, false, false, false, false, false, false, false, false, false, false, false]

theorem lp_impl_AreHolds_1 (m_0 : GMesh) (holds_1 : (List GHold)) (hp0 : m_0.Places.length ≤ 1073741824) (hp1 : m_0.Triangles.length ≤ 1073741824) (hp2 : ∀ t ∈ m_0.Triangles, t.length ≤ 1073741824) (hp3 : holds_1.length ≤ 1073741824) (hf_impl_AreHolds_1_0 : (v_impl_ValidMesh m_0) = true) : ∀ (k : Nat) (last_l0 : Int) (x_l1 : Int) (hv_impl_AreHolds_1_0 : 0 ≤ x_l1) (hk : ((holds_1.length : Int) - x_l1).toNat < k), Lp prog 0 (sub (bodyOf f93) [1, 1, 1, 0, 1, 0, 0]) (hd_impl_AreHolds_1 m_0 holds_1 last_l0 x_l1) (ls_impl_AreHolds_1 m_0 holds_1 (lo_impl_AreHolds_1 m_0 holds_1 k last_l0 x_l1)).1 (ls_impl_AreHolds_1 m_0 holds_1 (lo_impl_AreHolds_1 m_0 holds_1 k last_l0 x_l1)).2 := by
 intro k
 induction k with
 | zero => intro last_l0 x_l1 hv_impl_AreHolds_1_0 hk; exact absurd hk (Nat.not_lt_zero _)
 | succ k ih =>
  intro last_l0 x_l1 hv_impl_AreHolds_1_0 hk
  cases h_0 : (decide (x_l1 < (holds_1.length : Int))) with
  | true =>
   have gh_0 := of_decide_eq_true h_0
   have y_0 : (0 : Int) ≤ x_l1 := (by first | assumption | omega | (simp_all <;> omega))
   have y_1 : x_l1 < (holds_1.length : Int) := (by first | assumption | omega | (simp_all <;> omega))
   have p {a C} (s : Scr a C) := sB h_0 <| sG GHold.cells holds_1 x_l1 y_0 y_1 <| sF (t_impl_IsHold (holds_1.getD x_l1.toNat default)) <| s
   cases h_1 : (v_impl_IsHold (holds_1.getD x_l1.toNat default)) with
   | true =>
    have q {a C} (s : Scr a C) := p (sB' h_1 <| sB' h_1 <| sB' h_1 <| sB' h_1 <| sW .i64 (last_l0 + 1) <| sB' h_1 <| sB' h_1 <| sB' h_1 <| sZ GVector.cells m_0.Places <| sB' h_1 <| sW .i64 ((m_0.Places.length : Int) - 1) <| sB' h_1 <| sF (t_impl_within ((holds_1.getD x_l1.toNat default).Place) (IntKind.wrap .i64 (last_l0 + 1)) (IntKind.wrap .i64 ((m_0.Places.length : Int) - 1))) <| sB' h_1 <| sB' h_1 <| s)
    clear p
    cases h_2 : (v_impl_within ((holds_1.getD x_l1.toNat default).Place) (IntKind.wrap .i64 (last_l0 + 1)) (IntKind.wrap .i64 ((m_0.Places.length : Int) - 1))) with
    | true =>
     have y_2 : (-9223372036854775808 : Int) ≤ (x_l1 + 1) := by clear q; exact (by first | assumption | omega | (simp_all <;> omega))
     have y_3 : (x_l1 + 1) ≤ (9223372036854775807 : Int) := by clear q; exact (by first | assumption | omega | (simp_all <;> omega))
     have e : lo_impl_AreHolds_1 m_0 holds_1 (k + 1) last_l0 x_l1 = (lo_impl_AreHolds_1 m_0 holds_1 k ((holds_1.getD x_l1.toNat default).Place) (x_l1 + 1)) := by simp only [lo_impl_AreHolds_1, h_0, h_1, h_2, cond_true]
     rw [e]
     exact nextR E0Ok hMixed [] mk_impl_AreHolds_1_0 [0] (ih ((holds_1.getD x_l1.toNat default).Place) (x_l1 + 1) (show 0 ≤ (x_l1 + 1) from (by first | assumption | omega | (simp_all <;> omega))) (by first | assumption | omega | (simp_all <;> omega))) (q (sB' h_2 <| sI (x_l1 + 1) y_2 y_3 <| sN)) (by kernel_rfl)
    | false =>
     have e : lo_impl_AreHolds_1 m_0 holds_1 (k + 1) last_l0 x_l1 = (.inl ()) := by simp only [lo_impl_AreHolds_1, h_0, h_1, h_2, cond_true, cond_false]
     rw [e]
     exact outR (e := .ret) E0Ok hMixed [] mk_impl_AreHolds_1_1 [] (q (sB' h_2 <| sN)) (by kernel_rfl) (by intro h; cases h)
   | false =>
    have e : lo_impl_AreHolds_1 m_0 holds_1 (k + 1) last_l0 x_l1 = (.inl ()) := by simp only [lo_impl_AreHolds_1, h_0, h_1, cond_true, cond_false]
    rw [e]
    exact outR (e := .ret) E0Ok hMixed [] mk_impl_AreHolds_1_1 [] (p (sB' h_1 <| sB' h_1 <| sB' h_1 <| sB' h_1 <| sB' h_1 <| sB' h_1 <| sB' h_1 <| sB' h_1 <| sB' h_1 <| sB' h_1 <| sB' h_1 <| sB (show true = true from rfl) <| sN)) (by kernel_rfl) (by intro h; cases h)
  | false =>
   have gh_0 := of_decide_eq_false h_0
   have e : lo_impl_AreHolds_1 m_0 holds_1 (k + 1) last_l0 x_l1 = (.inr ()) := by simp only [lo_impl_AreHolds_1, h_0, cond_false]
   rw [e]
   exact outR (e := (.exit 0)) E0Ok hMixed [] mk_impl_AreHolds_1_2 [0] (sB h_0 <| sN) (by kernel_rfl) (by intro h; cases h)

def lr_impl_AreHolds_1_0 (m_0 : GMesh) (holds_1 : (List GHold)) : (Unit) ⊕ (Unit) := (lo_impl_AreHolds_1 m_0 holds_1 (((holds_1.length : Int) - 0).toNat + 1) (-1) 0)

def v_impl_AreHolds (m_0 : GMesh) (holds_1 : (List GHold)) : Bool := (cond (v_impl_ValidMesh m_0)
  (match (lr_impl_AreHolds_1_0 m_0 holds_1) with
    | .inl r2 => false
    | .inr r2 => true)
  false)

theorem t_impl_AreHolds (m_0 : GMesh) (holds_1 : (List GHold)) (hp0 : m_0.Places.length ≤ 1073741824) (hp1 : m_0.Triangles.length ≤ 1073741824) (hp2 : ∀ t ∈ m_0.Triangles, t.length ≤ 1073741824) (hp3 : holds_1.length ≤ 1073741824)  : Fn prog 93 [.agg [.sl (m_0.Places.map GVector.cells), .sl (m_0.Triangles.map (cL (cI .i64)))], .sl (holds_1.map GHold.cells)] (.b (v_impl_AreHolds m_0 holds_1)) [] := by
 have p {a C} (s : Scr a C) := sF (t_impl_ValidMesh m_0 hp0 hp1 hp2) <| s
 cases h0 : (v_impl_ValidMesh m_0) with
 | true =>
  have q {a C} (s : Scr a C) := p (sB' h0 <| sZ GHold.cells holds_1 <| s)
  clear p
  cases h1 : (lr_impl_AreHolds_1_0 m_0 holds_1) with
  | inl r2 =>
   refine fnS E0Ok hMixed (c := bodyOf f93) [] (.b false) [] func93 (q (sL mk_impl_AreHolds_1_0 1 (lp_val (ls_impl_AreHolds_1 m_0 holds_1) (x := (lr_impl_AreHolds_1_0 m_0 holds_1)) (lp_impl_AreHolds_1 m_0 holds_1 hp0 hp1 hp2 hp3 h0 (((holds_1.length : Int) - 0).toNat + 1) (-1) 0 (show 0 ≤ 0 from (by first | assumption | omega | (simp_all <;> omega))) (Nat.lt_succ_self _)) h1) <| sK [] sN)) rfl (by kernel_rfl) (by kernel_rfl) rfl ?_ ?_
   · simp only [v_impl_AreHolds, h0, h1, cond_true]
   · rfl
  | inr r2 =>
   refine fnS E0Ok hMixed (c := bodyOf f93) [] (.b true) [] func93 (q (sL mk_impl_AreHolds_1_0 1 (lp_val (ls_impl_AreHolds_1 m_0 holds_1) (x := (lr_impl_AreHolds_1_0 m_0 holds_1)) (lp_impl_AreHolds_1 m_0 holds_1 hp0 hp1 hp2 hp3 h0 (((holds_1.length : Int) - 0).toNat + 1) (-1) 0 (show 0 ≤ 0 from (by first | assumption | omega | (simp_all <;> omega))) (Nat.lt_succ_self _)) h1) <| sK [] sN)) rfl (by kernel_rfl) (by kernel_rfl) rfl ?_ ?_
   · simp only [v_impl_AreHolds, h0, h1, cond_true]
   · rfl
 | false =>
  refine fnS E0Ok hMixed (c := bodyOf f93) [] (.b false) [] func93 (p (sB' h0 <| sK [] sN)) rfl (by kernel_rfl) (by kernel_rfl) rfl ?_ ?_
  · simp only [v_impl_AreHolds, h0, cond_false]
  · rfl

theorem within_rise (p last n : Int) (h0 : -1 ≤ last) (hn : 0 ≤ n) (hn' : n ≤ 64) (hl : last < n ∨ last = -1) : v_impl_within p (IntKind.wrap .i64 (last + 1)) (IntKind.wrap .i64 (n - 1)) = (v_spec_l00In p 0 (IntKind.wrap .i64 (n - 1)) && !(decide (last ≥ p))) := by
  rw [show v_impl_within = v_spec_l00In from rfl]
  unfold v_spec_l00In
  rw [wrap_id (n := last + 1) (by omega) (by omega), wrap_id (n := n - 1) (by omega) (by omega)]
  by_cases h1 : p ≥ last + 1 <;> by_cases h2 : p ≤ n - 1 <;> by_cases h3 : p ≥ 0 <;> by_cases h4 : last ≥ p <;> simp [h1, h2, h3, h4] <;> omega
theorem lo_AreHolds (m : GMesh) (hs : List GHold) (hn : m.Places.length ≤ 64) : ∀ (k : Nat) (last i : Int), 0 ≤ i → (i = 0 ∧ last = -1 ∨ 0 < i ∧ last = (hs.getD (i - 1).toNat default).Place ∧ 0 ≤ last ∧ last < (m.Places.length : Int)) → lo_impl_AreHolds_1 m hs k last i = lo_spec_l04Are_1 m hs k i := by
  intro k
  induction k with
  | zero => intros; rfl
  | succ k ih =>
    intro last i h0 hl
    rw [lo_impl_AreHolds_1, lo_spec_l04Are_1]
    cases decide (i < (hs.length : Int)) with
    | false => rfl
    | true =>
      rw [cond_true, cond_true, show v_impl_IsHold (hs.getD i.toNat default) = v_spec_l04Is (hs.getD i.toNat default) from rfl]
      cases v_spec_l04Is (hs.getD i.toNat default) with
      | false => rfl
      | true =>
        rw [cond_true, cond_true, within_rise _ last (m.Places.length : Int) (by omega) (by omega) (by omega) (by omega)]
        unfold v_spec_l02Place
        cases hP : v_spec_l00In ((hs.getD i.toNat default).Place) 0 (IntKind.wrap .i64 ((m.Places.length : Int) - 1)) with
        | false => rfl
        | true =>
          rw [Bool.true_and, cond_true]
          have hb : 0 ≤ (hs.getD i.toNat default).Place ∧ (hs.getD i.toNat default).Place < (m.Places.length : Int) := by
            unfold v_spec_l00In at hP
            rw [wrap_id (n := (m.Places.length : Int) - 1) (by omega) (by omega)] at hP
            generalize (hs.getD i.toNat default).Place = P at hP ⊢
            by_cases h1 : P ≥ 0 <;> simp [h1] at hP
            omega
          have hi := ih (hs.getD i.toNat default).Place (i + 1) (by omega) (.inr ⟨by omega, by rw [show i + 1 - 1 = i from by omega], hb.1, hb.2⟩)
          rw [hi]
          rcases hl with ⟨hi0, hl⟩ | ⟨hi0, hl, _⟩
          · rw [decide_eq_false (show ¬ last ≥ (hs.getD i.toNat default).Place from by omega), decide_eq_false (show ¬ i > 0 from by omega)]; rfl
          · rw [decide_eq_true (show i > 0 from hi0), cond_true, ← hl]
            cases decide (last ≥ (hs.getD i.toNat default).Place) <;> rfl
theorem eq_AreHolds (m : GMesh) (hs : List GHold) : v_impl_AreHolds m hs = v_spec_l04Are m hs := by
  unfold v_impl_AreHolds v_spec_l04Are
  rw [eq_ValidMesh]
  cases h : v_spec_l02Is m with
  | false => rfl
  | true =>
    unfold lr_impl_AreHolds_1_0 lr_spec_l04Are_1_0
    have hn : m.Places.length ≤ 64 := by
      rw [l02Is_eq] at h
      cases h1 : decide ((m.Places.length : Int) > 64) <;> rw [h1] at h <;> (try (cases h; done))
      simp only [decide_eq_false_iff_not] at h1
      omega
    rw [lo_AreHolds m hs hn _ _ _ (Int.le_refl 0) (.inl ⟨rfl, rfl⟩)]
    rfl

def lo_impl_FreePlaces_1 (m_0 : GMesh) (holds_1 : (List GHold)) : Nat → Int → (List Bool) → (List Bool)
  | 0, _, _ => default
  | k + 1, x_l0, r1_l1 => (cond (decide (x_l0 < (holds_1.length : Int)))
    (lo_impl_FreePlaces_1 m_0 holds_1 k (x_l0 + 1) (r1_l1.set (((holds_1.getD x_l0.toNat default).Place).toNat) true))
    r1_l1)

def ls_impl_FreePlaces_1 (m_0 : GMesh) (holds_1 : (List GHold)) (r : (List Bool)) : Ex × St := ((.exit 0), ⟨[.agg [.sl (m_0.Places.map GVector.cells), .sl (m_0.Triangles.map (cL (cI .i64)))], .sl (holds_1.map GHold.cells), .ptr 0 0 0, .any, .nils, .b false, .own 1, .any, .any, .any, .any, .any, .agg [.sl (m_0.Places.map GVector.cells), .sl (m_0.Triangles.map (cL (cI .i64)))], .sl (holds_1.map GHold.cells), .b (v_impl_AreHolds m_0 holds_1), .b (!(v_impl_AreHolds m_0 holds_1)), .ptr 0 0 0, .sl (m_0.Places.map GVector.cells), .i .i64 (m_0.Places.length : Int), .own 1, .sl (holds_1.map GHold.cells), .any, .any, .any, .any, .any, .any, .any, .any, .any, .any, .any, .any, .any, .any, .any, .any, .any, .any, .any, .any, .any, .any, .any, .any, .any, .any], [.box 42 [.sl (m_0.Places.map GVector.cells), .sl (m_0.Triangles.map (cL (cI .i64)))], .vec 4 1 (r.map cB) false]⟩)

def hd_impl_FreePlaces_1 (m_0 : GMesh) (holds_1 : (List GHold)) (x_l0 : Int) (r1_l1 : (List Bool)) : St := ⟨[.agg [.sl (m_0.Places.map GVector.cells), .sl (m_0.Triangles.map (cL (cI .i64)))], .sl (holds_1.map GHold.cells), .ptr 0 0 0, .any, .nils, .b false, .own 1, .any, .any, .any, .any, .any, .agg [.sl (m_0.Places.map GVector.cells), .sl (m_0.Triangles.map (cL (cI .i64)))], .sl (holds_1.map GHold.cells), .b (v_impl_AreHolds m_0 holds_1), .b (!(v_impl_AreHolds m_0 holds_1)), .ptr 0 0 0, .sl (m_0.Places.map GVector.cells), .i .i64 (m_0.Places.length : Int), .own 1, .sl (holds_1.map GHold.cells), .i .i64 (holds_1.length : Int), .i .i64 x_l0, .any, .any, .any, .any, .any, .any, .any, .any, .any, .any, .any, .any, .any, .any, .any, .any, .any, .any, .any, .any, .any, .any, .any, .any], [.box 42 [.sl (m_0.Places.map GVector.cells), .sl (m_0.Triangles.map (cL (cI .i64)))], .vec 4 1 (r1_l1.map cB) false]⟩

def mk_impl_FreePlaces_1_0 : List Bool := [true, true, true, false, true, true, true, false, false, false, false, false, true, true, true, true, true, true, true, true, true, true, true, false, false, false, false, false, false, false, false, false, false, false, false, false, false, false, false, false, false, false, false, false, false, false, false]

def mk_impl_FreePlaces_1_1 : List Bool := [true, true, true, false, true, true, true, false, false, false, false, false, true, true, true, true, true, true, true, true, true, false, false, false, false, false, false, false, false, false, false, false, false, false, false, false, false, false, false, false, false, false, false, false, false, false, false]

end Go.Ab
