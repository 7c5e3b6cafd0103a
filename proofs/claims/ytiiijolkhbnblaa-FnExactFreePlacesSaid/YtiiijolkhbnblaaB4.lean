/- The functions of this seat as plain Lean, and that the program's are these. Printed by a program of the prover's own. -/
import Derived.Test.YtiiijolkhbnblaaB3
set_option linter.unusedVariables false
set_option linter.unusedSimpArgs false
set_option maxRecDepth 100000
namespace Go.Ab
open Go.RowKit Go.Proofs.Try

theorem lp_impl_FreePlaces_1 (m_0 : GMesh) (holds_1 : (List GHold)) (hp0 : m_0.Places.length ≤ 1073741824) (hp1 : m_0.Triangles.length ≤ 1073741824) (hp2 : ∀ t ∈ m_0.Triangles, t.length ≤ 1073741824) (hp3 : holds_1.length ≤ 1073741824) (hf_impl_FreePlaces_1_0 : (v_impl_AreHolds m_0 holds_1) = true) : ∀ (k : Nat) (x_l0 : Int) (r1_l1 : (List Bool)) (hv_impl_FreePlaces_1_0 : 0 ≤ x_l0) (hv_impl_FreePlaces_1_1 : r1_l1.length = m_0.Places.length) (hk : ((holds_1.length : Int) - x_l0).toNat < k), Lp prog 0 (sub (bodyOf f28) [1, 1, 1, 0, 1, 0, 0]) (hd_impl_FreePlaces_1 m_0 holds_1 x_l0 r1_l1) (ls_impl_FreePlaces_1 m_0 holds_1 (lo_impl_FreePlaces_1 m_0 holds_1 k x_l0 r1_l1)).1 (ls_impl_FreePlaces_1 m_0 holds_1 (lo_impl_FreePlaces_1 m_0 holds_1 k x_l0 r1_l1)).2 := by
 intro k
 induction k with
 | zero => intro x_l0 r1_l1 hv_impl_FreePlaces_1_0 hv_impl_FreePlaces_1_1 hk; exact absurd hk (Nat.not_lt_zero _)
 | succ k ih =>
  intro x_l0 r1_l1 hv_impl_FreePlaces_1_0 hv_impl_FreePlaces_1_1 hk
  cases h_0 : (decide (x_l0 < (holds_1.length : Int))) with
  | true =>
   have gh_0 := of_decide_eq_true h_0
   have y_0 : (0 : Int) ≤ x_l0 := (by first | assumption | omega | (have hi : x_l0 < (holds_1.length : Int) := (by assumption); have h0 : 0 ≤ x_l0 := (by assumption); have q := OkIx.at (okH_is m_0 holds_1 (by rw [← eq_AreHolds]; assumption)).2.1 h0 hi; omega) | (simp_all <;> omega))
   have y_1 : x_l0 < (holds_1.length : Int) := (by first | assumption | omega | (have hi : x_l0 < (holds_1.length : Int) := (by assumption); have h0 : 0 ≤ x_l0 := (by assumption); have q := OkIx.at (okH_is m_0 holds_1 (by rw [← eq_AreHolds]; assumption)).2.1 h0 hi; omega) | (simp_all <;> omega))
   have y_2 : (0 : Int) ≤ ((holds_1.getD x_l0.toNat default).Place) := (by first | assumption | omega | (have hi : x_l0 < (holds_1.length : Int) := (by assumption); have h0 : 0 ≤ x_l0 := (by assumption); have q := OkIx.at (okH_is m_0 holds_1 (by rw [← eq_AreHolds]; assumption)).2.1 h0 hi; omega) | (simp_all <;> omega))
   have y_3 : ((holds_1.getD x_l0.toNat default).Place) < (r1_l1.length : Int) := (by first | assumption | omega | (have hi : x_l0 < (holds_1.length : Int) := (by assumption); have h0 : 0 ≤ x_l0 := (by assumption); have q := OkIx.at (okH_is m_0 holds_1 (by rw [← eq_AreHolds]; assumption)).2.1 h0 hi; omega) | (simp_all <;> omega))
   have y_4 : ((holds_1.getD x_l0.toNat default).Place).toNat < r1_l1.length := (by first | assumption | omega | (have hi : x_l0 < (holds_1.length : Int) := (by assumption); have h0 : 0 ≤ x_l0 := (by assumption); have q := OkIx.at (okH_is m_0 holds_1 (by rw [← eq_AreHolds]; assumption)).2.1 h0 hi; omega) | (simp_all <;> omega))
   have y_5 : (-9223372036854775808 : Int) ≤ (x_l0 + 1) := (by first | assumption | omega | (have hi : x_l0 < (holds_1.length : Int) := (by assumption); have h0 : 0 ≤ x_l0 := (by assumption); have q := OkIx.at (okH_is m_0 holds_1 (by rw [← eq_AreHolds]; assumption)).2.1 h0 hi; omega) | (simp_all <;> omega))
   have y_6 : (x_l0 + 1) ≤ (9223372036854775807 : Int) := (by first | assumption | omega | (have hi : x_l0 < (holds_1.length : Int) := (by assumption); have h0 : 0 ≤ x_l0 := (by assumption); have q := OkIx.at (okH_is m_0 holds_1 (by rw [← eq_AreHolds]; assumption)).2.1 h0 hi; omega) | (simp_all <;> omega))
   have e : lo_impl_FreePlaces_1 m_0 holds_1 (k + 1) x_l0 r1_l1 = (lo_impl_FreePlaces_1 m_0 holds_1 k (x_l0 + 1) (r1_l1.set (((holds_1.getD x_l0.toNat default).Place).toNat) true)) := by simp only [lo_impl_FreePlaces_1, h_0, cond_true]
   rw [e]
   exact nextS E0Ok hMixed [] mk_impl_FreePlaces_1_0 [0, 1] (⟨[.agg [.sl (m_0.Places.map GVector.cells), .sl (m_0.Triangles.map (cL (cI .i64)))], .sl (holds_1.map GHold.cells), .ptr 0 0 0, .any, .nils, .b false, .own 1, .any, .any, .any, .any, .any, .agg [.sl (m_0.Places.map GVector.cells), .sl (m_0.Triangles.map (cL (cI .i64)))], .sl (holds_1.map GHold.cells), .b (v_impl_AreHolds m_0 holds_1), .b (!(v_impl_AreHolds m_0 holds_1)), .ptr 0 0 0, .sl (m_0.Places.map GVector.cells), .i .i64 (m_0.Places.length : Int), .own 1, .sl (holds_1.map GHold.cells), .i .i64 (holds_1.length : Int), .i .i64 (x_l0 + 1), .any, .any, .any, .any, .any, .any, .any, .any, .any, .any, .any, .any, .any, .any, .any, .any, .any, .any, .any, .any, .any, .any, .any, .any], [.box 42 [.sl (m_0.Places.map GVector.cells), .sl (m_0.Triangles.map (cL (cI .i64)))], .vec 4 1 ((r1_l1.map cB).set (((holds_1.getD x_l0.toNat default).Place).toNat) [.b true]) false]⟩) (sB h_0 <| sG GHold.cells holds_1 x_l0 y_0 y_1 <| sX cB r1_l1 ((holds_1.getD x_l0.toNat default).Place) y_2 y_3 <| sC (maplt (c := cB) (l := r1_l1) y_4) <| sI (x_l0 + 1) y_5 y_6 <| sN) (by kernel_rfl) (show _ = ⟨[.agg [.sl (m_0.Places.map GVector.cells), .sl (m_0.Triangles.map (cL (cI .i64)))], .sl (holds_1.map GHold.cells), .ptr 0 0 0, .any, .nils, .b false, .own 1, .any, .any, .any, .any, .any, .agg [.sl (m_0.Places.map GVector.cells), .sl (m_0.Triangles.map (cL (cI .i64)))], .sl (holds_1.map GHold.cells), .b (v_impl_AreHolds m_0 holds_1), .b (!(v_impl_AreHolds m_0 holds_1)), .ptr 0 0 0, .sl (m_0.Places.map GVector.cells), .i .i64 (m_0.Places.length : Int), .own 1, .sl (holds_1.map GHold.cells), .i .i64 (holds_1.length : Int), .i .i64 (x_l0 + 1), .any, .any, .any, .any, .any, .any, .any, .any, .any, .any, .any, .any, .any, .any, .any, .any, .any, .any, .any, .any, .any, .any, .any, .any], [.box 42 [.sl (m_0.Places.map GVector.cells), .sl (m_0.Triangles.map (cL (cI .i64)))], .vec 4 1 ((r1_l1.set (((holds_1.getD x_l0.toNat default).Place).toNat) true).map cB) false]⟩ from (by simp [List.map_set, cB])) (ih (x_l0 + 1) (r1_l1.set (((holds_1.getD x_l0.toNat default).Place).toNat) true) (show 0 ≤ (x_l0 + 1) from (by first | assumption | omega | (have hi : x_l0 < (holds_1.length : Int) := (by assumption); have h0 : 0 ≤ x_l0 := (by assumption); have q := OkIx.at (okH_is m_0 holds_1 (by rw [← eq_AreHolds]; assumption)).2.1 h0 hi; omega) | (simp_all <;> omega))) (show (r1_l1.set (((holds_1.getD x_l0.toNat default).Place).toNat) true).length = m_0.Places.length from (by first | assumption | omega | (have hi : x_l0 < (holds_1.length : Int) := (by assumption); have h0 : 0 ≤ x_l0 := (by assumption); have q := OkIx.at (okH_is m_0 holds_1 (by rw [← eq_AreHolds]; assumption)).2.1 h0 hi; omega) | (simp_all <;> omega))) (by first | assumption | omega | (have hi : x_l0 < (holds_1.length : Int) := (by assumption); have h0 : 0 ≤ x_l0 := (by assumption); have q := OkIx.at (okH_is m_0 holds_1 (by rw [← eq_AreHolds]; assumption)).2.1 h0 hi; omega) | (simp_all <;> omega)))
  | false =>
   have gh_0 := of_decide_eq_false h_0
   have e : lo_impl_FreePlaces_1 m_0 holds_1 (k + 1) x_l0 r1_l1 = r1_l1 := by simp only [lo_impl_FreePlaces_1, h_0, cond_false]
   rw [e]
   exact outR (e := (.exit 0)) E0Ok hMixed [] mk_impl_FreePlaces_1_1 [0, 1] (sB h_0 <| sN) (by kernel_rfl) (by intro h; cases h)

theorem ln_impl_FreePlaces_1_0 (m_0 : GMesh) (holds_1 : (List GHold)) : ∀ (k : Nat) (x_l0 : Int) (r1_l1 : (List Bool)) (hk : ((holds_1.length : Int) - x_l0).toNat < k), (lo_impl_FreePlaces_1 m_0 holds_1 k x_l0 r1_l1).length = r1_l1.length := by
  intro k
  induction k with
  | zero => intro x_l0 r1_l1 hk; exact absurd hk (Nat.not_lt_zero _)
  | succ k ih =>
    intro x_l0 r1_l1 hk
    cases h_0 : (decide (x_l0 < (holds_1.length : Int))) with
    | true =>
      have e : lo_impl_FreePlaces_1 m_0 holds_1 (k + 1) x_l0 r1_l1 = (lo_impl_FreePlaces_1 m_0 holds_1 k (x_l0 + 1) (r1_l1.set (((holds_1.getD x_l0.toNat default).Place).toNat) true)) := by simp only [lo_impl_FreePlaces_1, h_0, cond_true]
      rw [e, ih (x_l0 + 1) (r1_l1.set (((holds_1.getD x_l0.toNat default).Place).toNat) true) (by first | assumption | omega | (have hi : x_l0 < (holds_1.length : Int) := (by assumption); have h0 : 0 ≤ x_l0 := (by assumption); have q := OkIx.at (okH_is m_0 holds_1 (by rw [← eq_AreHolds]; assumption)).2.1 h0 hi; omega) | (simp_all <;> omega))]; simp
    | false =>
      have e : lo_impl_FreePlaces_1 m_0 holds_1 (k + 1) x_l0 r1_l1 = r1_l1 := by simp only [lo_impl_FreePlaces_1, h_0, cond_false]
      first | (rw [e]; done) | (rw [e]; rfl)

def lr_impl_FreePlaces_1_0 (m_0 : GMesh) (holds_1 : (List GHold)) : (List Bool) := (lo_impl_FreePlaces_1 m_0 holds_1 (((holds_1.length : Int) - 0).toNat + 1) 0 (List.replicate (m_0.Places.length : Int).toNat false))

@[simp] theorem len_lr_impl_FreePlaces_1_0_0 (m_0 : GMesh) (holds_1 : (List GHold)) : (lr_impl_FreePlaces_1_0 m_0 holds_1).length = ((List.replicate (m_0.Places.length : Int).toNat false) : (List Bool)).length := ln_impl_FreePlaces_1_0 m_0 holds_1 (((holds_1.length : Int) - 0).toNat + 1) 0 (List.replicate (m_0.Places.length : Int).toNat false) (by first | exact Nat.lt_succ_self _ | simp)

def lo_impl_FreePlaces_2 (m_0 : GMesh) (holds_1 : (List GHold)) : Nat → Int → (List Int) → (List Int)
  | 0, _, _ => default
  | k + 1, x_l0, r2_l1 => (cond (decide (x_l0 < ((lr_impl_FreePlaces_1_0 m_0 holds_1).length : Int)))
    (cond ((lr_impl_FreePlaces_1_0 m_0 holds_1).getD x_l0.toNat default)
      (lo_impl_FreePlaces_2 m_0 holds_1 k (x_l0 + 1) r2_l1)
      (lo_impl_FreePlaces_2 m_0 holds_1 k (x_l0 + 1) (r2_l1 ++ [x_l0])))
    r2_l1)

def ls_impl_FreePlaces_2 (m_0 : GMesh) (holds_1 : (List GHold)) (r : (List Int)) : Ex × St := ((.exit 2), ⟨[.agg [.sl (m_0.Places.map GVector.cells), .sl (m_0.Triangles.map (cL (cI .i64)))], .sl (holds_1.map GHold.cells), .ptr 0 0 0, .any, .nils, .b false, .own 1, .any, .any, .own 2, .any, .any, .agg [.sl (m_0.Places.map GVector.cells), .sl (m_0.Triangles.map (cL (cI .i64)))], .sl (holds_1.map GHold.cells), .b (v_impl_AreHolds m_0 holds_1), .b (!(v_impl_AreHolds m_0 holds_1)), .ptr 0 0 0, .sl (m_0.Places.map GVector.cells), .i .i64 (m_0.Places.length : Int), .own 1, .sl (holds_1.map GHold.cells), .any, .any, .any, .any, .any, .any, .any, .any, .any, .any, .any, .own 1, .any, .any, .any, .any, .any, .any, .any, .any, .any, .any, .any, .any, .any, .any], [.box 42 [.sl (m_0.Places.map GVector.cells), .sl (m_0.Triangles.map (cL (cI .i64)))], .vec 4 1 ((lr_impl_FreePlaces_1_0 m_0 holds_1).map cB) false, .vec 2 1 (r.map (cI .i64)) false]⟩)

def hd_impl_FreePlaces_2 (m_0 : GMesh) (holds_1 : (List GHold)) (x_l0 : Int) (r2_l1 : (List Int)) : St := ⟨[.agg [.sl (m_0.Places.map GVector.cells), .sl (m_0.Triangles.map (cL (cI .i64)))], .sl (holds_1.map GHold.cells), .ptr 0 0 0, .any, .nils, .b false, .own 1, .any, .any, .own 2, .any, .any, .agg [.sl (m_0.Places.map GVector.cells), .sl (m_0.Triangles.map (cL (cI .i64)))], .sl (holds_1.map GHold.cells), .b (v_impl_AreHolds m_0 holds_1), .b (!(v_impl_AreHolds m_0 holds_1)), .ptr 0 0 0, .sl (m_0.Places.map GVector.cells), .i .i64 (m_0.Places.length : Int), .own 1, .sl (holds_1.map GHold.cells), .any, .any, .any, .any, .any, .any, .any, .any, .any, .any, .any, .own 1, .i .i64 ((lr_impl_FreePlaces_1_0 m_0 holds_1).length : Int), .i .i64 x_l0, .any, .any, .any, .any, .any, .any, .any, .any, .any, .any, .any, .any], [.box 42 [.sl (m_0.Places.map GVector.cells), .sl (m_0.Triangles.map (cL (cI .i64)))], .vec 4 1 ((lr_impl_FreePlaces_1_0 m_0 holds_1).map cB) false, .vec 2 1 (r2_l1.map (cI .i64)) false]⟩

def mk_impl_FreePlaces_2_0 : List Bool := [true, true, true, false, true, true, true, false, false, true, false, false, true, true, true, true, true, true, true, true, true, false, false, false, false, false, false, false, false, false, false, false, true, true, true, false, false, false, false, false, false, false, false, false, false, false, false]

def mk_impl_FreePlaces_2_1 : List Bool := [true, true, true, false, true, true, true, false, false, true, false, false, true, true, true, true, true, true, true, true, true, false, false, false, false, false, false, false, false, false, false, false, true, false, false, false, false, false, false, false, false, false, false, false, false, false, false]

theorem lp_impl_FreePlaces_2 (m_0 : GMesh) (holds_1 : (List GHold)) (hp0 : m_0.Places.length ≤ 1073741824) (hp1 : m_0.Triangles.length ≤ 1073741824) (hp2 : ∀ t ∈ m_0.Triangles, t.length ≤ 1073741824) (hp3 : holds_1.length ≤ 1073741824) (hf_impl_FreePlaces_2_0 : (v_impl_AreHolds m_0 holds_1) = true) : ∀ (k : Nat) (x_l0 : Int) (r2_l1 : (List Int)) (hv_impl_FreePlaces_2_0 : 0 ≤ x_l0) (hv_impl_FreePlaces_2_1 : (r2_l1.length : Int) ≤ x_l0) (hk : (((lr_impl_FreePlaces_1_0 m_0 holds_1).length : Int) - x_l0).toNat < k), Lp prog 0 (sub (bodyOf f28) [1, 1, 1, 1, 1, 0, 1, 0, 0]) (hd_impl_FreePlaces_2 m_0 holds_1 x_l0 r2_l1) (ls_impl_FreePlaces_2 m_0 holds_1 (lo_impl_FreePlaces_2 m_0 holds_1 k x_l0 r2_l1)).1 (ls_impl_FreePlaces_2 m_0 holds_1 (lo_impl_FreePlaces_2 m_0 holds_1 k x_l0 r2_l1)).2 := by
 intro k
 induction k with
 | zero => intro x_l0 r2_l1 hv_impl_FreePlaces_2_0 hv_impl_FreePlaces_2_1 hk; exact absurd hk (Nat.not_lt_zero _)
 | succ k ih =>
  intro x_l0 r2_l1 hv_impl_FreePlaces_2_0 hv_impl_FreePlaces_2_1 hk
  cases h_0 : (decide (x_l0 < ((lr_impl_FreePlaces_1_0 m_0 holds_1).length : Int))) with
  | true =>
   have gh_0 := of_decide_eq_true h_0
   have y_0 : (0 : Int) ≤ x_l0 := (by first | assumption | omega | (have hi : x_l0 < (holds_1.length : Int) := (by assumption); have h0 : 0 ≤ x_l0 := (by assumption); have q := OkIx.at (okH_is m_0 holds_1 (by rw [← eq_AreHolds]; assumption)).2.1 h0 hi; omega) | (simp_all <;> omega))
   have y_1 : x_l0 < ((lr_impl_FreePlaces_1_0 m_0 holds_1).length : Int) := (by first | assumption | omega | (have hi : x_l0 < (holds_1.length : Int) := (by assumption); have h0 : 0 ≤ x_l0 := (by assumption); have q := OkIx.at (okH_is m_0 holds_1 (by rw [← eq_AreHolds]; assumption)).2.1 h0 hi; omega) | (simp_all <;> omega))
   have y_2 : x_l0.toNat < (lr_impl_FreePlaces_1_0 m_0 holds_1).length := (by first | assumption | omega | (have hi : x_l0 < (holds_1.length : Int) := (by assumption); have h0 : 0 ≤ x_l0 := (by assumption); have q := OkIx.at (okH_is m_0 holds_1 (by rw [← eq_AreHolds]; assumption)).2.1 h0 hi; omega) | (simp_all <;> omega))
   have p {a C} (s : Scr a C) := sB h_0 <| sX cB (lr_impl_FreePlaces_1_0 m_0 holds_1) x_l0 y_0 y_1 <| sV cB (lr_impl_FreePlaces_1_0 m_0 holds_1) x_l0.toNat y_2 <| s
   cases h_1 : ((lr_impl_FreePlaces_1_0 m_0 holds_1).getD x_l0.toNat default) with
   | true =>
    have y_3 : (-9223372036854775808 : Int) ≤ (x_l0 + 1) := by clear p; exact (by first | assumption | omega | (have hi : x_l0 < (holds_1.length : Int) := (by assumption); have h0 : 0 ≤ x_l0 := (by assumption); have q := OkIx.at (okH_is m_0 holds_1 (by rw [← eq_AreHolds]; assumption)).2.1 h0 hi; omega) | (simp_all <;> omega))
    have y_4 : (x_l0 + 1) ≤ (9223372036854775807 : Int) := by clear p; exact (by first | assumption | omega | (have hi : x_l0 < (holds_1.length : Int) := (by assumption); have h0 : 0 ≤ x_l0 := (by assumption); have q := OkIx.at (okH_is m_0 holds_1 (by rw [← eq_AreHolds]; assumption)).2.1 h0 hi; omega) | (simp_all <;> omega))
    have e : lo_impl_FreePlaces_2 m_0 holds_1 (k + 1) x_l0 r2_l1 = (lo_impl_FreePlaces_2 m_0 holds_1 k (x_l0 + 1) r2_l1) := by simp only [lo_impl_FreePlaces_2, h_0, h_1, cond_true]
    rw [e]
    exact nextR E0Ok hMixed [] mk_impl_FreePlaces_2_0 [0, 1, 2] (ih (x_l0 + 1) r2_l1 (show 0 ≤ (x_l0 + 1) from (by first | assumption | omega | (have hi : x_l0 < (holds_1.length : Int) := (by assumption); have h0 : 0 ≤ x_l0 := (by assumption); have q := OkIx.at (okH_is m_0 holds_1 (by rw [← eq_AreHolds]; assumption)).2.1 h0 hi; omega) | (simp_all <;> omega))) (show (r2_l1.length : Int) ≤ (x_l0 + 1) from (by first | assumption | omega | (have hi : x_l0 < (holds_1.length : Int) := (by assumption); have h0 : 0 ≤ x_l0 := (by assumption); have q := OkIx.at (okH_is m_0 holds_1 (by rw [← eq_AreHolds]; assumption)).2.1 h0 hi; omega) | (simp_all <;> omega))) (by first | assumption | omega | (have hi : x_l0 < (holds_1.length : Int) := (by assumption); have h0 : 0 ≤ x_l0 := (by assumption); have q := OkIx.at (okH_is m_0 holds_1 (by rw [← eq_AreHolds]; assumption)).2.1 h0 hi; omega) | (simp_all <;> omega))) (p (sB' h_1 <| sI (x_l0 + 1) y_3 y_4 <| sN)) (by kernel_rfl)
   | false =>
    have y_3 : r2_l1.length + ([x_l0]).length ≤ 1073741824 := by clear p; exact (by first | assumption | omega | (have hi : x_l0 < (holds_1.length : Int) := (by assumption); have h0 : 0 ≤ x_l0 := (by assumption); have q := OkIx.at (okH_is m_0 holds_1 (by rw [← eq_AreHolds]; assumption)).2.1 h0 hi; omega) | (simp_all <;> omega))
    have y_4 : (-9223372036854775808 : Int) ≤ (x_l0 + 1) := by clear p; exact (by first | assumption | omega | (have hi : x_l0 < (holds_1.length : Int) := (by assumption); have h0 : 0 ≤ x_l0 := (by assumption); have q := OkIx.at (okH_is m_0 holds_1 (by rw [← eq_AreHolds]; assumption)).2.1 h0 hi; omega) | (simp_all <;> omega))
    have y_5 : (x_l0 + 1) ≤ (9223372036854775807 : Int) := by clear p; exact (by first | assumption | omega | (have hi : x_l0 < (holds_1.length : Int) := (by assumption); have h0 : 0 ≤ x_l0 := (by assumption); have q := OkIx.at (okH_is m_0 holds_1 (by rw [← eq_AreHolds]; assumption)).2.1 h0 hi; omega) | (simp_all <;> omega))
    have e : lo_impl_FreePlaces_2 m_0 holds_1 (k + 1) x_l0 r2_l1 = (lo_impl_FreePlaces_2 m_0 holds_1 k (x_l0 + 1) (r2_l1 ++ [x_l0])) := by simp only [lo_impl_FreePlaces_2, h_0, h_1, cond_true, cond_false]
    rw [e]
    exact nextS E0Ok hMixed [] mk_impl_FreePlaces_2_0 [0, 1, 2] (⟨[.agg [.sl (m_0.Places.map GVector.cells), .sl (m_0.Triangles.map (cL (cI .i64)))], .sl (holds_1.map GHold.cells), .ptr 0 0 0, .any, .nils, .b false, .own 1, .any, .any, .own 2, .any, .any, .agg [.sl (m_0.Places.map GVector.cells), .sl (m_0.Triangles.map (cL (cI .i64)))], .sl (holds_1.map GHold.cells), .b (v_impl_AreHolds m_0 holds_1), .b (!(v_impl_AreHolds m_0 holds_1)), .ptr 0 0 0, .sl (m_0.Places.map GVector.cells), .i .i64 (m_0.Places.length : Int), .own 1, .sl (holds_1.map GHold.cells), .any, .any, .any, .any, .any, .any, .any, .any, .any, .any, .any, .own 1, .i .i64 ((lr_impl_FreePlaces_1_0 m_0 holds_1).length : Int), .i .i64 (x_l0 + 1), .any, .any, .any, .any, .any, .any, .any, .any, .any, .any, .any, .any], [.box 42 [.sl (m_0.Places.map GVector.cells), .sl (m_0.Triangles.map (cL (cI .i64)))], .vec 4 1 ((lr_impl_FreePlaces_1_0 m_0 holds_1).map cB) false, .vec 2 1 ((r2_l1.map (cI .i64)) ++ ([[.i .i64 x_l0]] : List (List AV))) false]⟩) (p (sB' h_1 <| sC (show (r2_l1.map (cI .i64)).length + ([[.i .i64 x_l0]] : List (List AV)).length ≤ 1073741824 from (by simpa using y_3)) <| sI (x_l0 + 1) y_4 y_5 <| sN)) (by kernel_rfl) (show _ = ⟨[.agg [.sl (m_0.Places.map GVector.cells), .sl (m_0.Triangles.map (cL (cI .i64)))], .sl (holds_1.map GHold.cells), .ptr 0 0 0, .any, .nils, .b false, .own 1, .any, .any, .own 2, .any, .any, .agg [.sl (m_0.Places.map GVector.cells), .sl (m_0.Triangles.map (cL (cI .i64)))], .sl (holds_1.map GHold.cells), .b (v_impl_AreHolds m_0 holds_1), .b (!(v_impl_AreHolds m_0 holds_1)), .ptr 0 0 0, .sl (m_0.Places.map GVector.cells), .i .i64 (m_0.Places.length : Int), .own 1, .sl (holds_1.map GHold.cells), .any, .any, .any, .any, .any, .any, .any, .any, .any, .any, .any, .own 1, .i .i64 ((lr_impl_FreePlaces_1_0 m_0 holds_1).length : Int), .i .i64 (x_l0 + 1), .any, .any, .any, .any, .any, .any, .any, .any, .any, .any, .any, .any], [.box 42 [.sl (m_0.Places.map GVector.cells), .sl (m_0.Triangles.map (cL (cI .i64)))], .vec 4 1 ((lr_impl_FreePlaces_1_0 m_0 holds_1).map cB) false, .vec 2 1 ((r2_l1 ++ [x_l0]).map (cI .i64)) false]⟩ from (by simp [cI])) (ih (x_l0 + 1) (r2_l1 ++ [x_l0]) (show 0 ≤ (x_l0 + 1) from (by first | assumption | omega | (have hi : x_l0 < (holds_1.length : Int) := (by assumption); have h0 : 0 ≤ x_l0 := (by assumption); have q := OkIx.at (okH_is m_0 holds_1 (by rw [← eq_AreHolds]; assumption)).2.1 h0 hi; omega) | (simp_all <;> omega))) (show ((r2_l1 ++ [x_l0]).length : Int) ≤ (x_l0 + 1) from (by first | assumption | omega | (have hi : x_l0 < (holds_1.length : Int) := (by assumption); have h0 : 0 ≤ x_l0 := (by assumption); have q := OkIx.at (okH_is m_0 holds_1 (by rw [← eq_AreHolds]; assumption)).2.1 h0 hi; omega) | (simp_all <;> omega))) (by first | assumption | omega | (have hi : x_l0 < (holds_1.length : Int) := (by assumption); have h0 : 0 ≤ x_l0 := (by assumption); have q := OkIx.at (okH_is m_0 holds_1 (by rw [← eq_AreHolds]; assumption)).2.1 h0 hi; omega) | (simp_all <;> omega)))
  | false =>
   have gh_0 := of_decide_eq_false h_0
   have e : lo_impl_FreePlaces_2 m_0 holds_1 (k + 1) x_l0 r2_l1 = r2_l1 := by simp only [lo_impl_FreePlaces_2, h_0, cond_false]
   rw [e]
   exact outR (e := (.exit 2)) E0Ok hMixed [] mk_impl_FreePlaces_2_1 [0, 1, 2] (sB h_0 <| sN) (by kernel_rfl) (by intro h; cases h)

def lr_impl_FreePlaces_2_1 (m_0 : GMesh) (holds_1 : (List GHold)) : (List Int) := (lo_impl_FreePlaces_2 m_0 holds_1 ((((lr_impl_FreePlaces_1_0 m_0 holds_1).length : Int) - 0).toNat + 1) 0 ([] : List Int))

theorem app_impl_FreePlaces (m : GMesh) (hs : List GHold) : lr_impl_FreePlaces_2_1 m hs = (((List.range m.Places.length).filter fun j => !((lr_impl_FreePlaces_1_0 m hs).getD j default)).map fun (j : Nat) => (j : Int)) := by
  unfold lr_impl_FreePlaces_2_1
  rw [filt_loop (f := fun i => (lr_impl_FreePlaces_1_0 m hs).getD i.toNat default) (g := fun i => i) (n := ((lr_impl_FreePlaces_1_0 m hs).length : Int)) (lo := lo_impl_FreePlaces_2 m hs) (fun k i r => rfl) _ _ _ (Nat.lt_succ_self _)]
  simp

def v_impl_FreePlaces (m_0 : GMesh) (holds_1 : (List GHold)) : (List Int) × Bool := (cond (v_impl_AreHolds m_0 holds_1)
  ((lr_impl_FreePlaces_2_1 m_0 holds_1), true)
  (([] : List Int), false))

theorem le_impl_FreePlaces (m : GMesh) (hs : List GHold) : (v_impl_FreePlaces m hs).1.length ≤ m.Places.length := by
  unfold v_impl_FreePlaces
  rw [app_impl_FreePlaces]
  cases v_impl_AreHolds m hs
  · simp
  · simp only [cond_true, List.length_map]
    exact Nat.le_trans (List.length_filter_le _ _) (by simp)

theorem t_impl_FreePlaces (m_0 : GMesh) (holds_1 : (List GHold)) (hp0 : m_0.Places.length ≤ 1073741824) (hp1 : m_0.Triangles.length ≤ 1073741824) (hp2 : ∀ t ∈ m_0.Triangles, t.length ≤ 1073741824) (hp3 : holds_1.length ≤ 1073741824)  : Fn prog 28 [.agg [.sl (m_0.Places.map GVector.cells), .sl (m_0.Triangles.map (cL (cI .i64)))], .sl (holds_1.map GHold.cells)] (.tup [.own 0, .b ((v_impl_FreePlaces m_0 holds_1).2)]) [.vec 2 1 (((v_impl_FreePlaces m_0 holds_1).1).map (cI .i64)) false] := by
 have p {a C} (s : Scr a C) := sF (t_impl_AreHolds m_0 holds_1 hp0 hp1 hp2 hp3) <| s
 cases h0 : (v_impl_AreHolds m_0 holds_1) with
 | true =>
  have y0 : (0 : Int) ≤ (m_0.Places.length : Int) := by clear p; exact (by first | assumption | omega | (have hi : x_l0 < (holds_1.length : Int) := (by assumption); have h0 : 0 ≤ x_l0 := (by assumption); have q := OkIx.at (okH_is m_0 holds_1 (by rw [← eq_AreHolds]; assumption)).2.1 h0 hi; omega) | (simp_all <;> omega))
  have y1 : ((m_0.Places.length : Int) : Int) ≤ 2147483648 := by clear p; exact (by first | assumption | omega | (have hi : x_l0 < (holds_1.length : Int) := (by assumption); have h0 : 0 ≤ x_l0 := (by assumption); have q := OkIx.at (okH_is m_0 holds_1 (by rw [← eq_AreHolds]; assumption)).2.1 h0 hi; omega) | (simp_all <;> omega))
  refine fnS E0Ok hMixed (c := bodyOf f28) [] (.tup [.own 0, .b true]) [.vec 2 1 ((lr_impl_FreePlaces_2_1 m_0 holds_1).map (cI .i64)) false] func28 (p (sB' h0 <| sZ GVector.cells m_0.Places <| sC (show (m_0.Places.length : Int) = (m_0.Places.length : Int) from rfl) <| sC y0 <| sC y1 <| sZ GHold.cells holds_1 <| sL mk_impl_FreePlaces_1_0 2 (lp_cast (st2 := ⟨[.agg [.sl (m_0.Places.map GVector.cells), .sl (m_0.Triangles.map (cL (cI .i64)))], .sl (holds_1.map GHold.cells), .ptr 0 0 0, .any, .nils, .b false, .own 1, .any, .any, .any, .any, .any, .agg [.sl (m_0.Places.map GVector.cells), .sl (m_0.Triangles.map (cL (cI .i64)))], .sl (holds_1.map GHold.cells), .b (v_impl_AreHolds m_0 holds_1), .b (!(v_impl_AreHolds m_0 holds_1)), .ptr 0 0 0, .sl (m_0.Places.map GVector.cells), .i .i64 (m_0.Places.length : Int), .own 1, .sl (holds_1.map GHold.cells), .i .i64 (holds_1.length : Int), .i .i64 0, .any, .any, .any, .any, .any, .any, .any, .any, .any, .any, .any, .any, .any, .any, .any, .any, .any, .any, .any, .any, .any, .any, .any, .any], [.box 42 [.sl (m_0.Places.map GVector.cells), .sl (m_0.Triangles.map (cL (cI .i64)))], .vec 4 1 (List.replicate (Int.toNat (m_0.Places.length : Int)) [.b false]) false]⟩) (lp_val (ls_impl_FreePlaces_1 m_0 holds_1) (x := (lr_impl_FreePlaces_1_0 m_0 holds_1)) (lp_impl_FreePlaces_1 m_0 holds_1 hp0 hp1 hp2 hp3 h0 (((holds_1.length : Int) - 0).toNat + 1) 0 (List.replicate (m_0.Places.length : Int).toNat false) (show 0 ≤ 0 from (by first | assumption | omega | (have hi : x_l0 < (holds_1.length : Int) := (by assumption); have h0 : 0 ≤ x_l0 := (by assumption); have q := OkIx.at (okH_is m_0 holds_1 (by rw [← eq_AreHolds]; assumption)).2.1 h0 hi; omega) | (simp_all <;> omega))) (show (List.replicate (m_0.Places.length : Int).toNat false).length = m_0.Places.length from (by simp)) (Nat.lt_succ_self _)) rfl) (by simp [hd_impl_FreePlaces_1, cB])) <| sZ cB (lr_impl_FreePlaces_1_0 m_0 holds_1) <| sL mk_impl_FreePlaces_2_0 3 (lp_cast (st2 := ⟨[.agg [.sl (m_0.Places.map GVector.cells), .sl (m_0.Triangles.map (cL (cI .i64)))], .sl (holds_1.map GHold.cells), .ptr 0 0 0, .any, .nils, .b false, .own 1, .any, .any, .own 2, .any, .any, .agg [.sl (m_0.Places.map GVector.cells), .sl (m_0.Triangles.map (cL (cI .i64)))], .sl (holds_1.map GHold.cells), .b (v_impl_AreHolds m_0 holds_1), .b (!(v_impl_AreHolds m_0 holds_1)), .ptr 0 0 0, .sl (m_0.Places.map GVector.cells), .i .i64 (m_0.Places.length : Int), .own 1, .sl (holds_1.map GHold.cells), .any, .any, .any, .any, .any, .any, .any, .any, .any, .any, .any, .own 1, .i .i64 ((lr_impl_FreePlaces_1_0 m_0 holds_1).length : Int), .i .i64 0, .any, .any, .any, .any, .any, .any, .any, .any, .any, .any, .any, .any], [.box 42 [.sl (m_0.Places.map GVector.cells), .sl (m_0.Triangles.map (cL (cI .i64)))], .vec 4 1 ((lr_impl_FreePlaces_1_0 m_0 holds_1).map cB) false, .vec 2 1 ([] : List (List AV)) false]⟩) (lp_val (ls_impl_FreePlaces_2 m_0 holds_1) (x := (lr_impl_FreePlaces_2_1 m_0 holds_1)) (lp_impl_FreePlaces_2 m_0 holds_1 hp0 hp1 hp2 hp3 h0 ((((lr_impl_FreePlaces_1_0 m_0 holds_1).length : Int) - 0).toNat + 1) 0 ([] : List Int) (show 0 ≤ 0 from (by first | assumption | omega | (have hi : x_l0 < (holds_1.length : Int) := (by assumption); have h0 : 0 ≤ x_l0 := (by assumption); have q := OkIx.at (okH_is m_0 holds_1 (by rw [← eq_AreHolds]; assumption)).2.1 h0 hi; omega) | (simp_all <;> omega))) (show (([] : List Int).length : Int) ≤ 0 from (by simp)) (Nat.lt_succ_self _)) rfl) (by simp [hd_impl_FreePlaces_2, cI])) <| sK [2] sN)) rfl (by kernel_rfl) (by kernel_rfl) rfl ?_ ?_
  · simp only [v_impl_FreePlaces, h0, cond_true]
  · simp [v_impl_FreePlaces, h0]
 | false =>
  refine fnS E0Ok hMixed (c := bodyOf f28) [(.tm 4, .vec 2 1 [] false)] (.tup [.own 0, .b false]) [.vec 2 1 [] false] func28 (p (sB' h0 <| sK [1] sN)) rfl (by kernel_rfl) (by kernel_rfl) rfl ?_ ?_
  · simp only [v_impl_FreePlaces, h0, cond_false]
  · simp [v_impl_FreePlaces, h0, cI]

def lo_laws_eqInt64S_1 (a_0 : (List Int)) (b_1 : (List Int)) : Nat → Int → (Unit) ⊕ (Unit)
  | 0, _ => .inl default
  | k + 1, i_l0 => (cond (decide (i_l0 < (a_0.length : Int)))
    (cond ((a_0.getD i_l0.toNat default) != (b_1.getD i_l0.toNat default))
      (.inl ())
      (lo_laws_eqInt64S_1 a_0 b_1 k (i_l0 + 1)))
    (.inr ()))

def ls_laws_eqInt64S_1 (a_0 : (List Int)) (b_1 : (List Int)) : (Unit) ⊕ (Unit) → Ex × St
  | .inl r => (.ret, ⟨[.any, .any, .any, .any, .b false, .any, .any, .any, .any, .any, .any, .any, .any, .any, .any, .any, .any, .any, .any, .any, .any, .any, .any, .any, .any, .any], []⟩)
  | .inr r => ((.exit 0), ⟨[.sl (a_0.map (cI .i64)), .sl (b_1.map (cI .i64)), .any, .any, .any, .any, .sl (a_0.map (cI .i64)), .i .i64 (a_0.length : Int), .sl (b_1.map (cI .i64)), .i .i64 (b_1.length : Int), .b ((a_0.length : Int) != (b_1.length : Int)), .any, .any, .any, .any, .any, .any, .any, .any, .any, .any, .any, .any, .any, .any, .any], []⟩)

def hd_laws_eqInt64S_1 (a_0 : (List Int)) (b_1 : (List Int)) (i_l0 : Int) : St := ⟨[.sl (a_0.map (cI .i64)), .sl (b_1.map (cI .i64)), .any, .any, .any, .i .i64 i_l0, .sl (a_0.map (cI .i64)), .i .i64 (a_0.length : Int), .sl (b_1.map (cI .i64)), .i .i64 (b_1.length : Int), .b ((a_0.length : Int) != (b_1.length : Int)), .any, .any, .any, .any, .any, .any, .any, .any, .any, .any, .any, .any, .any, .any, .any], []⟩

def mk_laws_eqInt64S_1_0 : List Bool := [true, true, false, false, false, true, true, true, true, true, true, false, false, false, false, false, false, false, false, false, false, false, false, false, false, false]

def mk_laws_eqInt64S_1_1 : List Bool := [false, false, false, false, true, false, false, false, false, false, false, false, false, false, false, false, false, false, false, false, false, false, false, false, false, false]

def mk_laws_eqInt64S_1_2 : List Bool := [true, true, false, false, false, false, true, true, true, true, true, false, false, false, false, false, false, false, false, false, false, false, false, false, false, false]

theorem lp_laws_eqInt64S_1 (a_0 : (List Int)) (b_1 : (List Int)) (hp0 : a_0.length ≤ 1073741824) (hp1 : b_1.length ≤ 1073741824) (hf_laws_eqInt64S_1_0 : ((a_0.length : Int) != (b_1.length : Int)) = false) : ∀ (k : Nat) (i_l0 : Int) (hv_laws_eqInt64S_1_0 : 0 ≤ i_l0) (hk : ((a_0.length : Int) - i_l0).toNat < k), Lp prog 0 (sub (bodyOf f29) [1, 1, 0, 1, 0, 0]) (hd_laws_eqInt64S_1 a_0 b_1 i_l0) (ls_laws_eqInt64S_1 a_0 b_1 (lo_laws_eqInt64S_1 a_0 b_1 k i_l0)).1 (ls_laws_eqInt64S_1 a_0 b_1 (lo_laws_eqInt64S_1 a_0 b_1 k i_l0)).2 := by
 intro k
 induction k with
 | zero => intro i_l0 hv_laws_eqInt64S_1_0 hk; exact absurd hk (Nat.not_lt_zero _)
 | succ k ih =>
  intro i_l0 hv_laws_eqInt64S_1_0 hk
  have p {a C} (s : Scr a C) := sZ (cI .i64) a_0 <| s
  cases h_0 : (decide (i_l0 < (a_0.length : Int))) with
  | true =>
   have gh_0 := of_decide_eq_true h_0
   have y_0 : (0 : Int) ≤ i_l0 := by clear p; exact (by first | assumption | omega | (simp_all <;> omega))
   have y_1 : i_l0 < (a_0.length : Int) := by clear p; exact (by first | assumption | omega | (simp_all <;> omega))
   have y_2 : i_l0 < (b_1.length : Int) := by clear p; exact (by first | assumption | omega | (simp_all <;> omega))
   have q {a C} (s : Scr a C) := p (sB h_0 <| sK [8, 8] <| sG (cI .i64) a_0 i_l0 y_0 y_1 <| sG (cI .i64) b_1 i_l0 y_0 y_2 <| s)
   clear p
   cases h_1 : ((a_0.getD i_l0.toNat default) != (b_1.getD i_l0.toNat default)) with
   | true =>
    have gh_1 := bne_iff_ne.1 h_1
    have e : lo_laws_eqInt64S_1 a_0 b_1 (k + 1) i_l0 = (.inl ()) := by simp only [lo_laws_eqInt64S_1, h_0, h_1, cond_true]
    rw [e]
    exact outR (e := .ret) E0Ok hMixed [] mk_laws_eqInt64S_1_1 [] (q (sB h_1 <| sN)) (by kernel_rfl) (by intro h; cases h)
   | false =>
    have gh_1 := bne_eq_false_iff_eq.1 h_1
    have y_3 : (-9223372036854775808 : Int) ≤ (i_l0 + 1) := by clear q; exact (by first | assumption | omega | (simp_all <;> omega))
    have y_4 : (i_l0 + 1) ≤ (9223372036854775807 : Int) := by clear q; exact (by first | assumption | omega | (simp_all <;> omega))
    have e : lo_laws_eqInt64S_1 a_0 b_1 (k + 1) i_l0 = (lo_laws_eqInt64S_1 a_0 b_1 k (i_l0 + 1)) := by simp only [lo_laws_eqInt64S_1, h_0, h_1, cond_true, cond_false]
    rw [e]
    exact nextR E0Ok hMixed [] mk_laws_eqInt64S_1_0 [] (ih (i_l0 + 1) (show 0 ≤ (i_l0 + 1) from (by first | assumption | omega | (simp_all <;> omega))) (by first | assumption | omega | (simp_all <;> omega))) (q (sB h_1 <| sI (i_l0 + 1) y_3 y_4 <| sN)) (by kernel_rfl)
  | false =>
   have gh_0 := of_decide_eq_false h_0
   have e : lo_laws_eqInt64S_1 a_0 b_1 (k + 1) i_l0 = (.inr ()) := by simp only [lo_laws_eqInt64S_1, h_0, cond_false]
   rw [e]
   exact outR (e := (.exit 0)) E0Ok hMixed [] mk_laws_eqInt64S_1_2 [] (p (sB h_0 <| sN)) (by kernel_rfl) (by intro h; cases h)

def lr_laws_eqInt64S_1_0 (a_0 : (List Int)) (b_1 : (List Int)) : (Unit) ⊕ (Unit) := (lo_laws_eqInt64S_1 a_0 b_1 (((a_0.length : Int) - 0).toNat + 1) 0)

def v_laws_eqInt64S (a_0 : (List Int)) (b_1 : (List Int)) : Bool := (cond ((a_0.length : Int) != (b_1.length : Int))
  false
  (match (lr_laws_eqInt64S_1_0 a_0 b_1) with
    | .inl r2 => false
    | .inr r2 => true))

theorem t_laws_eqInt64S (a_0 : (List Int)) (b_1 : (List Int)) (hp0 : a_0.length ≤ 1073741824) (hp1 : b_1.length ≤ 1073741824)  : Fn prog 29 [.sl (a_0.map (cI .i64)), .sl (b_1.map (cI .i64))] (.b (v_laws_eqInt64S a_0 b_1)) [] := by
 have p {a C} (s : Scr a C) := sZ (cI .i64) a_0 <| sZ (cI .i64) b_1 <| s
 cases h0 : ((a_0.length : Int) != (b_1.length : Int)) with
 | true =>
  have gh0 := bne_iff_ne.1 h0
  refine fnS E0Ok hMixed (c := bodyOf f29) [] (.b false) [] func29 (p (sB h0 <| sK [] sN)) rfl (by kernel_rfl) (by kernel_rfl) rfl ?_ ?_
  · simp only [v_laws_eqInt64S, h0, cond_true]
  · rfl
 | false =>
  have gh0 := bne_eq_false_iff_eq.1 h0
  have q {a C} (s : Scr a C) := p (sB h0 <| s)
  clear p
  cases h1 : (lr_laws_eqInt64S_1_0 a_0 b_1) with
  | inl r2 =>
   refine fnS E0Ok hMixed (c := bodyOf f29) [] (.b false) [] func29 (q (sL mk_laws_eqInt64S_1_0 0 (lp_val (ls_laws_eqInt64S_1 a_0 b_1) (x := (lr_laws_eqInt64S_1_0 a_0 b_1)) (lp_laws_eqInt64S_1 a_0 b_1 hp0 hp1 h0 (((a_0.length : Int) - 0).toNat + 1) 0 (show 0 ≤ 0 from (by first | assumption | omega | (simp_all <;> omega))) (Nat.lt_succ_self _)) h1) <| sK [] sN)) rfl (by kernel_rfl) (by kernel_rfl) rfl ?_ ?_
   · simp only [v_laws_eqInt64S, h0, h1, cond_false]
   · rfl
  | inr r2 =>
   refine fnS E0Ok hMixed (c := bodyOf f29) [] (.b true) [] func29 (q (sL mk_laws_eqInt64S_1_0 0 (lp_val (ls_laws_eqInt64S_1 a_0 b_1) (x := (lr_laws_eqInt64S_1_0 a_0 b_1)) (lp_laws_eqInt64S_1 a_0 b_1 hp0 hp1 h0 (((a_0.length : Int) - 0).toNat + 1) 0 (show 0 ≤ 0 from (by first | assumption | omega | (simp_all <;> omega))) (Nat.lt_succ_self _)) h1) <| sK [] sN)) rfl (by kernel_rfl) (by kernel_rfl) rfl ?_ ?_
   · simp only [v_laws_eqInt64S, h0, h1, cond_false]
   · rfl

theorem eqInt64S_self (a : List Int) : v_laws_eqInt64S a a = true := by
  unfold v_laws_eqInt64S lr_laws_eqInt64S_1_0
  rw [all_from (a := a) (p := fun v => !(v != v)) (lo := lo_laws_eqInt64S_1 a a) (x := ()) (y := ()) (fun k i => by rw [lo_laws_eqInt64S_1]; cases (a.getD i.toNat default != a.getD i.toNat default) <;> rfl)]
  rw [show (a.all fun v => !(v != v)) = true from by rw [List.all_eq_true]; intro v _; simp]
  simp

def v_laws_sameFloat (a_0 : Nat) (b_1 : Nat) : Bool := (cond (fcmp .neq .f64 a_0 a_0)
  (fcmp .neq .f64 b_1 b_1)
  (cond (fcmp .neq .f64 b_1 b_1)
    false
    (cond (fcmp .eql .f64 a_0 0)
      (cond (fcmp .eql .f64 b_1 0)
        ((fcmp .gtr .f64 (fop .quo .f64 4607182418800017408 a_0) 0) == (fcmp .gtr .f64 (fop .quo .f64 4607182418800017408 b_1) 0))
        (fcmp .eql .f64 a_0 b_1))
      (fcmp .eql .f64 a_0 b_1))))

theorem t_laws_sameFloat (a_0 : Nat) (b_1 : Nat)   : Fn prog 17 [.f .f64 a_0, .f .f64 b_1] (.b (v_laws_sameFloat a_0 b_1)) [] := by
 cases h0 : (fcmp .neq .f64 a_0 a_0) with
 | true =>
  refine fnS E0Ok hMixed (c := bodyOf f17) [] (.b (fcmp .neq .f64 b_1 b_1)) [] func17 (sB h0 <| sB h0 <| sB h0 <| sB h0 <| sB (show true = true from rfl) <| sB h0 <| sB h0 <| sB h0 <| sB h0 <| sK [] sN) rfl (by kernel_rfl) (by kernel_rfl) rfl ?_ ?_
  · simp only [v_laws_sameFloat, h0, cond_true]
  · rfl
 | false =>
  have p {a C} (s : Scr a C) := sB h0 <| sB h0 <| sB h0 <| sB h0 <| s
  cases h1 : (fcmp .neq .f64 b_1 b_1) with
  | true =>
   refine fnS E0Ok hMixed (c := bodyOf f17) [] (.b false) [] func17 (p (sB h1 <| sB h0 <| sB h0 <| sB h0 <| sB h0 <| sK [] sN)) rfl (by kernel_rfl) (by kernel_rfl) rfl ?_ ?_
   · simp only [v_laws_sameFloat, h0, h1, cond_true, cond_false]
   · rfl
  | false =>
   have q {a C} (s : Scr a C) := p (sB h1 <| s)
   clear p
   cases h2 : (fcmp .eql .f64 a_0 0) with
   | true =>
    have p {a C} (s : Scr a C) := q (sB h2 <| sB h2 <| sB h2 <| s)
    clear q
    cases h3 : (fcmp .eql .f64 b_1 0) with
    | true =>
     refine fnS E0Ok hMixed (c := bodyOf f17) [] (.b ((fcmp .gtr .f64 (fop .quo .f64 4607182418800017408 a_0) 0) == (fcmp .gtr .f64 (fop .quo .f64 4607182418800017408 b_1) 0))) [] func17 (p (sB h3 <| sK [] sN)) rfl (by kernel_rfl) (by kernel_rfl) rfl ?_ ?_
     · simp only [v_laws_sameFloat, h0, h1, h2, h3, cond_true, cond_false]
     · rfl
    | false =>
     refine fnS E0Ok hMixed (c := bodyOf f17) [] (.b (fcmp .eql .f64 a_0 b_1)) [] func17 (p (sB h3 <| sK [] sN)) rfl (by kernel_rfl) (by kernel_rfl) rfl ?_ ?_
     · simp only [v_laws_sameFloat, h0, h1, h2, h3, cond_true, cond_false]
     · rfl
   | false =>
    refine fnS E0Ok hMixed (c := bodyOf f17) [] (.b (fcmp .eql .f64 a_0 b_1)) [] func17 (q (sB h2 <| sB h2 <| sB h2 <| sB (show false = false from rfl) <| sK [] sN)) rfl (by kernel_rfl) (by kernel_rfl) rfl ?_ ?_
    · simp only [v_laws_sameFloat, h0, h1, h2, cond_false]
    · rfl

theorem same_self (x : Nat) : v_laws_sameFloat x x = true := by
  unfold v_laws_sameFloat
  cases h : fcmp .neq .f64 x x
  · simp only [cond_false]
    have h2 : fcmp .eql .f64 x x = true := by
      unfold fcmp at h ⊢
      simpa using h
    cases fcmp .eql .f64 x 0 <;> simp [h2]
  · rfl

def v_laws_eqVector (a_0 : GVector) (b_1 : GVector) : Bool := (cond (v_laws_sameFloat (fcv .f32 .f64 a_0.X) (fcv .f32 .f64 b_1.X))
  (cond (v_laws_sameFloat (fcv .f32 .f64 a_0.Y) (fcv .f32 .f64 b_1.Y))
    (cond (v_laws_sameFloat (fcv .f32 .f64 a_0.Z) (fcv .f32 .f64 b_1.Z))
      true
      false)
    false)
  false)

theorem t_laws_eqVector (a_0 : GVector) (b_1 : GVector)   : Fn prog 87 [.agg [.f .f32 a_0.X, .f .f32 a_0.Y, .f .f32 a_0.Z], .agg [.f .f32 b_1.X, .f .f32 b_1.Y, .f .f32 b_1.Z]] (.b (v_laws_eqVector a_0 b_1)) [] := by
 have p {a C} (s : Scr a C) := sC (widenOk a_0.X) <| sC (widenOk b_1.X) <| sF (t_laws_sameFloat (fcv .f32 .f64 a_0.X) (fcv .f32 .f64 b_1.X)) <| s
 cases h0 : (v_laws_sameFloat (fcv .f32 .f64 a_0.X) (fcv .f32 .f64 b_1.X)) with
 | true =>
  have q {a C} (s : Scr a C) := p (sB' h0 <| sC (widenOk a_0.Y) <| sC (widenOk b_1.Y) <| sF (t_laws_sameFloat (fcv .f32 .f64 a_0.Y) (fcv .f32 .f64 b_1.Y)) <| s)
  clear p
  cases h1 : (v_laws_sameFloat (fcv .f32 .f64 a_0.Y) (fcv .f32 .f64 b_1.Y)) with
  | true =>
   have p {a C} (s : Scr a C) := q (sB' h1 <| sC (widenOk a_0.Z) <| sC (widenOk b_1.Z) <| sF (t_laws_sameFloat (fcv .f32 .f64 a_0.Z) (fcv .f32 .f64 b_1.Z)) <| s)
   clear q
   cases h2 : (v_laws_sameFloat (fcv .f32 .f64 a_0.Z) (fcv .f32 .f64 b_1.Z)) with
   | true =>
    refine fnS E0Ok hMixed (c := bodyOf f87) [] (.b true) [] func87 (p (sB' h2 <| sK [] sN)) rfl (by kernel_rfl) (by kernel_rfl) rfl ?_ ?_
    · simp only [v_laws_eqVector, h0, h1, h2, cond_true]
    · rfl
   | false =>
    refine fnS E0Ok hMixed (c := bodyOf f87) [] (.b false) [] func87 (p (sB' h2 <| sK [] sN)) rfl (by kernel_rfl) (by kernel_rfl) rfl ?_ ?_
    · simp only [v_laws_eqVector, h0, h1, h2, cond_true, cond_false]
    · rfl
  | false =>
   refine fnS E0Ok hMixed (c := bodyOf f87) [] (.b false) [] func87 (q (sB' h1 <| sK [] sN)) rfl (by kernel_rfl) (by kernel_rfl) rfl ?_ ?_
   · simp only [v_laws_eqVector, h0, h1, cond_true, cond_false]
   · rfl
 | false =>
  refine fnS E0Ok hMixed (c := bodyOf f87) [] (.b false) [] func87 (p (sB' h0 <| sK [] sN)) rfl (by kernel_rfl) (by kernel_rfl) rfl ?_ ?_
  · simp only [v_laws_eqVector, h0, cond_false]
  · rfl

theorem eqVector_self (a : GVector) : v_laws_eqVector a a = true := by
  simp [v_laws_eqVector, same_self]

def lo_laws_eqVectorS_1 (a_0 : (List GVector)) (b_1 : (List GVector)) : Nat → Int → (Unit) ⊕ (Unit)
  | 0, _ => .inl default
  | k + 1, i_l0 => (cond (decide (i_l0 < (a_0.length : Int)))
    (cond (v_laws_eqVector (a_0.getD i_l0.toNat default) (b_1.getD i_l0.toNat default))
      (lo_laws_eqVectorS_1 a_0 b_1 k (i_l0 + 1))
      (.inl ()))
    (.inr ()))

def ls_laws_eqVectorS_1 (a_0 : (List GVector)) (b_1 : (List GVector)) : (Unit) ⊕ (Unit) → Ex × St
  | .inl r => (.ret, ⟨[.any, .any, .any, .any, .b false, .any, .any, .any, .any, .any, .any, .any, .any, .any, .any, .any, .any, .any, .any, .any, .any, .any, .any, .any, .any, .any, .any], []⟩)
  | .inr r => ((.exit 0), ⟨[.sl (a_0.map GVector.cells), .sl (b_1.map GVector.cells), .any, .any, .any, .any, .sl (a_0.map GVector.cells), .i .i64 (a_0.length : Int), .sl (b_1.map GVector.cells), .i .i64 (b_1.length : Int), .b ((a_0.length : Int) != (b_1.length : Int)), .any, .any, .any, .any, .any, .any, .any, .any, .any, .any, .any, .any, .any, .any, .any, .any], []⟩)

def hd_laws_eqVectorS_1 (a_0 : (List GVector)) (b_1 : (List GVector)) (i_l0 : Int) : St := ⟨[.sl (a_0.map GVector.cells), .sl (b_1.map GVector.cells), .any, .any, .any, .i .i64 i_l0, .sl (a_0.map GVector.cells), .i .i64 (a_0.length : Int), .sl (b_1.map GVector.cells), .i .i64 (b_1.length : Int), .b ((a_0.length : Int) != (b_1.length : Int)), .any, .any, .any, .any, .any, .any, .any, .any, .any, .any, .any, .any, .any, .any, .any, .any], []⟩

def mk_laws_eqVectorS_1_0 : List Bool := [true, true, false, false, false, true, true, true, true, true, true, false, false, false, false, false, false, false, false, false, false, false, false, false, false, false, false]

def mk_laws_eqVectorS_1_1 : List Bool := [false, false, false, false, true, false, false, false, false, false, false, false, false, false, false, false, false, false, false, false, false, false, false, false, false, false, false]

def mk_laws_eqVectorS_1_2 : List Bool := [true, true, false, false, false, false, true, true, true, true, true, false, false, false, false, false, false, false, false, false, false, false, false, false, false, false, false]

theorem lp_laws_eqVectorS_1 (a_0 : (List GVector)) (b_1 : (List GVector)) (hp0 : a_0.length ≤ 1073741824) (hp1 : b_1.length ≤ 1073741824) (hf_laws_eqVectorS_1_0 : ((a_0.length : Int) != (b_1.length : Int)) = false) : ∀ (k : Nat) (i_l0 : Int) (hv_laws_eqVectorS_1_0 : 0 ≤ i_l0) (hk : ((a_0.length : Int) - i_l0).toNat < k), Lp prog 0 (sub (bodyOf f40) [1, 1, 0, 1, 0, 0]) (hd_laws_eqVectorS_1 a_0 b_1 i_l0) (ls_laws_eqVectorS_1 a_0 b_1 (lo_laws_eqVectorS_1 a_0 b_1 k i_l0)).1 (ls_laws_eqVectorS_1 a_0 b_1 (lo_laws_eqVectorS_1 a_0 b_1 k i_l0)).2 := by
 intro k
 induction k with
 | zero => intro i_l0 hv_laws_eqVectorS_1_0 hk; exact absurd hk (Nat.not_lt_zero _)
 | succ k ih =>
  intro i_l0 hv_laws_eqVectorS_1_0 hk
  have p {a C} (s : Scr a C) := sZ GVector.cells a_0 <| s
  cases h_0 : (decide (i_l0 < (a_0.length : Int))) with
  | true =>
   have gh_0 := of_decide_eq_true h_0
   have y_0 : (0 : Int) ≤ i_l0 := by clear p; exact (by first | assumption | omega | (simp_all <;> omega))
   have y_1 : i_l0 < (a_0.length : Int) := by clear p; exact (by first | assumption | omega | (simp_all <;> omega))
   have y_2 : i_l0 < (b_1.length : Int) := by clear p; exact (by first | assumption | omega | (simp_all <;> omega))
   have q {a C} (s : Scr a C) := p (sB h_0 <| sK [8, 8] <| sG GVector.cells a_0 i_l0 y_0 y_1 <| sG GVector.cells b_1 i_l0 y_0 y_2 <| sF (t_laws_eqVector (a_0.getD i_l0.toNat default) (b_1.getD i_l0.toNat default)) <| s)
   clear p
   cases h_1 : (v_laws_eqVector (a_0.getD i_l0.toNat default) (b_1.getD i_l0.toNat default)) with
   | true =>
    have y_3 : (-9223372036854775808 : Int) ≤ (i_l0 + 1) := by clear q; exact (by first | assumption | omega | (simp_all <;> omega))
    have y_4 : (i_l0 + 1) ≤ (9223372036854775807 : Int) := by clear q; exact (by first | assumption | omega | (simp_all <;> omega))
    have e : lo_laws_eqVectorS_1 a_0 b_1 (k + 1) i_l0 = (lo_laws_eqVectorS_1 a_0 b_1 k (i_l0 + 1)) := by simp only [lo_laws_eqVectorS_1, h_0, h_1, cond_true]
    rw [e]
    exact nextR E0Ok hMixed [] mk_laws_eqVectorS_1_0 [] (ih (i_l0 + 1) (show 0 ≤ (i_l0 + 1) from (by first | assumption | omega | (simp_all <;> omega))) (by first | assumption | omega | (simp_all <;> omega))) (q (sB' h_1 <| sI (i_l0 + 1) y_3 y_4 <| sN)) (by kernel_rfl)
   | false =>
    have e : lo_laws_eqVectorS_1 a_0 b_1 (k + 1) i_l0 = (.inl ()) := by simp only [lo_laws_eqVectorS_1, h_0, h_1, cond_true, cond_false]
    rw [e]
    exact outR (e := .ret) E0Ok hMixed [] mk_laws_eqVectorS_1_1 [] (q (sB' h_1 <| sN)) (by kernel_rfl) (by intro h; cases h)
  | false =>
   have gh_0 := of_decide_eq_false h_0
   have e : lo_laws_eqVectorS_1 a_0 b_1 (k + 1) i_l0 = (.inr ()) := by simp only [lo_laws_eqVectorS_1, h_0, cond_false]
   rw [e]
   exact outR (e := (.exit 0)) E0Ok hMixed [] mk_laws_eqVectorS_1_2 [] (p (sB h_0 <| sN)) (by kernel_rfl) (by intro h; cases h)

def lr_laws_eqVectorS_1_0 (a_0 : (List GVector)) (b_1 : (List GVector)) : (Unit) ⊕ (Unit) := (lo_laws_eqVectorS_1 a_0 b_1 (((a_0.length : Int) - 0).toNat + 1) 0)

def v_laws_eqVectorS (a_0 : (List GVector)) (b_1 : (List GVector)) : Bool := (cond ((a_0.length : Int) != (b_1.length : Int))
  false
  (match (lr_laws_eqVectorS_1_0 a_0 b_1) with
    | .inl r2 => false
    | .inr r2 => true))

theorem t_laws_eqVectorS (a_0 : (List GVector)) (b_1 : (List GVector)) (hp0 : a_0.length ≤ 1073741824) (hp1 : b_1.length ≤ 1073741824)  : Fn prog 40 [.sl (a_0.map GVector.cells), .sl (b_1.map GVector.cells)] (.b (v_laws_eqVectorS a_0 b_1)) [] := by
 have p {a C} (s : Scr a C) := sZ GVector.cells a_0 <| sZ GVector.cells b_1 <| s
 cases h0 : ((a_0.length : Int) != (b_1.length : Int)) with
 | true =>
  have gh0 := bne_iff_ne.1 h0
  refine fnS E0Ok hMixed (c := bodyOf f40) [] (.b false) [] func40 (p (sB h0 <| sK [] sN)) rfl (by kernel_rfl) (by kernel_rfl) rfl ?_ ?_
  · simp only [v_laws_eqVectorS, h0, cond_true]
  · rfl
 | false =>
  have gh0 := bne_eq_false_iff_eq.1 h0
  have q {a C} (s : Scr a C) := p (sB h0 <| s)
  clear p
  cases h1 : (lr_laws_eqVectorS_1_0 a_0 b_1) with
  | inl r2 =>
   refine fnS E0Ok hMixed (c := bodyOf f40) [] (.b false) [] func40 (q (sL mk_laws_eqVectorS_1_0 0 (lp_val (ls_laws_eqVectorS_1 a_0 b_1) (x := (lr_laws_eqVectorS_1_0 a_0 b_1)) (lp_laws_eqVectorS_1 a_0 b_1 hp0 hp1 h0 (((a_0.length : Int) - 0).toNat + 1) 0 (show 0 ≤ 0 from (by first | assumption | omega | (simp_all <;> omega))) (Nat.lt_succ_self _)) h1) <| sK [] sN)) rfl (by kernel_rfl) (by kernel_rfl) rfl ?_ ?_
   · simp only [v_laws_eqVectorS, h0, h1, cond_false]
   · rfl
  | inr r2 =>
   refine fnS E0Ok hMixed (c := bodyOf f40) [] (.b true) [] func40 (q (sL mk_laws_eqVectorS_1_0 0 (lp_val (ls_laws_eqVectorS_1 a_0 b_1) (x := (lr_laws_eqVectorS_1_0 a_0 b_1)) (lp_laws_eqVectorS_1 a_0 b_1 hp0 hp1 h0 (((a_0.length : Int) - 0).toNat + 1) 0 (show 0 ≤ 0 from (by first | assumption | omega | (simp_all <;> omega))) (Nat.lt_succ_self _)) h1) <| sK [] sN)) rfl (by kernel_rfl) (by kernel_rfl) rfl ?_ ?_
   · simp only [v_laws_eqVectorS, h0, h1, cond_false]
   · rfl

theorem eqVectorS_self (a : List GVector) : v_laws_eqVectorS a a = true := by
  unfold v_laws_eqVectorS lr_laws_eqVectorS_1_0
  rw [all_loop (a := a) (p := fun v => v_laws_eqVector v v) (lo := lo_laws_eqVectorS_1 a a) (x := ()) (y := ()) (fun k i => rfl) (fun v _ => eqVector_self v) _ _ (Int.le_refl 0) (Nat.lt_succ_self _)]
  simp

def lo_laws_eqInt64SS_1 (a_0 : (List (List Int))) (b_1 : (List (List Int))) : Nat → Int → (Unit) ⊕ (Unit)
  | 0, _ => .inl default
  | k + 1, i_l0 => (cond (decide (i_l0 < (a_0.length : Int)))
    (cond (v_laws_eqInt64S (a_0.getD i_l0.toNat default) (b_1.getD i_l0.toNat default))
      (lo_laws_eqInt64SS_1 a_0 b_1 k (i_l0 + 1))
      (.inl ()))
    (.inr ()))

def ls_laws_eqInt64SS_1 (a_0 : (List (List Int))) (b_1 : (List (List Int))) : (Unit) ⊕ (Unit) → Ex × St
  | .inl r => (.ret, ⟨[.any, .any, .any, .any, .b false, .any, .any, .any, .any, .any, .any, .any, .any, .any, .any, .any, .any, .any, .any, .any, .any, .any, .any, .any, .any, .any, .any], []⟩)
  | .inr r => ((.exit 0), ⟨[.sl (a_0.map (cL (cI .i64))), .sl (b_1.map (cL (cI .i64))), .any, .any, .any, .any, .sl (a_0.map (cL (cI .i64))), .i .i64 (a_0.length : Int), .sl (b_1.map (cL (cI .i64))), .i .i64 (b_1.length : Int), .b ((a_0.length : Int) != (b_1.length : Int)), .any, .any, .any, .any, .any, .any, .any, .any, .any, .any, .any, .any, .any, .any, .any, .any], []⟩)

def hd_laws_eqInt64SS_1 (a_0 : (List (List Int))) (b_1 : (List (List Int))) (i_l0 : Int) : St := ⟨[.sl (a_0.map (cL (cI .i64))), .sl (b_1.map (cL (cI .i64))), .any, .any, .any, .i .i64 i_l0, .sl (a_0.map (cL (cI .i64))), .i .i64 (a_0.length : Int), .sl (b_1.map (cL (cI .i64))), .i .i64 (b_1.length : Int), .b ((a_0.length : Int) != (b_1.length : Int)), .any, .any, .any, .any, .any, .any, .any, .any, .any, .any, .any, .any, .any, .any, .any, .any], []⟩

def mk_laws_eqInt64SS_1_0 : List Bool := [true, true, false, false, false, true, true, true, true, true, true, false, false, false, false, false, false, false, false, false, false, false, false, false, false, false, false]

def mk_laws_eqInt64SS_1_1 : List Bool := [false, false, false, false, true, false, false, false, false, false, false, false, false, false, false, false, false, false, false, false, false, false, false, false, false, false, false]

def mk_laws_eqInt64SS_1_2 : List Bool := [true, true, false, false, false, false, true, true, true, true, true, false, false, false, false, false, false, false, false, false, false, false, false, false, false, false, false]

theorem lp_laws_eqInt64SS_1 (a_0 : (List (List Int))) (b_1 : (List (List Int))) (hp0 : a_0.length ≤ 1073741824) (hp1 : ∀ t ∈ a_0, t.length ≤ 1073741824) (hp2 : b_1.length ≤ 1073741824) (hp3 : ∀ t ∈ b_1, t.length ≤ 1073741824) (hf_laws_eqInt64SS_1_0 : ((a_0.length : Int) != (b_1.length : Int)) = false) : ∀ (k : Nat) (i_l0 : Int) (hv_laws_eqInt64SS_1_0 : 0 ≤ i_l0) (hk : ((a_0.length : Int) - i_l0).toNat < k), Lp prog 0 (sub (bodyOf f61) [1, 1, 0, 1, 0, 0]) (hd_laws_eqInt64SS_1 a_0 b_1 i_l0) (ls_laws_eqInt64SS_1 a_0 b_1 (lo_laws_eqInt64SS_1 a_0 b_1 k i_l0)).1 (ls_laws_eqInt64SS_1 a_0 b_1 (lo_laws_eqInt64SS_1 a_0 b_1 k i_l0)).2 := by
 intro k
 induction k with
 | zero => intro i_l0 hv_laws_eqInt64SS_1_0 hk; exact absurd hk (Nat.not_lt_zero _)
 | succ k ih =>
  intro i_l0 hv_laws_eqInt64SS_1_0 hk
  have p {a C} (s : Scr a C) := sZ (cL (cI .i64)) a_0 <| s
  cases h_0 : (decide (i_l0 < (a_0.length : Int))) with
  | true =>
   have gh_0 := of_decide_eq_true h_0
   have y_0 : (0 : Int) ≤ i_l0 := by clear p; exact (by first | assumption | omega | (simp_all <;> omega))
   have y_1 : i_l0 < (a_0.length : Int) := by clear p; exact (by first | assumption | omega | (simp_all <;> omega))
   have y_2 : i_l0 < (b_1.length : Int) := by clear p; exact (by first | assumption | omega | (simp_all <;> omega))
   have y_3 : (a_0.getD i_l0.toNat default).length ≤ 1073741824 := by clear p; exact (by first | assumption | omega | (simp_all <;> omega))
   have y_4 : (b_1.getD i_l0.toNat default).length ≤ 1073741824 := by clear p; exact (by first | assumption | omega | (simp_all <;> omega))
   have q {a C} (s : Scr a C) := p (sB h_0 <| sK [8, 8] <| sG (cL (cI .i64)) a_0 i_l0 y_0 y_1 <| sG (cL (cI .i64)) b_1 i_l0 y_0 y_2 <| sF (t_laws_eqInt64S (a_0.getD i_l0.toNat default) (b_1.getD i_l0.toNat default) y_3 y_4) <| s)
   clear p
   cases h_1 : (v_laws_eqInt64S (a_0.getD i_l0.toNat default) (b_1.getD i_l0.toNat default)) with
   | true =>
    have y_5 : (-9223372036854775808 : Int) ≤ (i_l0 + 1) := by clear q; exact (by first | assumption | omega | (simp_all <;> omega))
    have y_6 : (i_l0 + 1) ≤ (9223372036854775807 : Int) := by clear q; exact (by first | assumption | omega | (simp_all <;> omega))
    have e : lo_laws_eqInt64SS_1 a_0 b_1 (k + 1) i_l0 = (lo_laws_eqInt64SS_1 a_0 b_1 k (i_l0 + 1)) := by simp only [lo_laws_eqInt64SS_1, h_0, h_1, cond_true]
    rw [e]
    exact nextR E0Ok hMixed [] mk_laws_eqInt64SS_1_0 [] (ih (i_l0 + 1) (show 0 ≤ (i_l0 + 1) from (by first | assumption | omega | (simp_all <;> omega))) (by first | assumption | omega | (simp_all <;> omega))) (q (sB' h_1 <| sI (i_l0 + 1) y_5 y_6 <| sN)) (by kernel_rfl)
   | false =>
    have e : lo_laws_eqInt64SS_1 a_0 b_1 (k + 1) i_l0 = (.inl ()) := by simp only [lo_laws_eqInt64SS_1, h_0, h_1, cond_true, cond_false]
    rw [e]
    exact outR (e := .ret) E0Ok hMixed [] mk_laws_eqInt64SS_1_1 [] (q (sB' h_1 <| sN)) (by kernel_rfl) (by intro h; cases h)
  | false =>
   have gh_0 := of_decide_eq_false h_0
   have e : lo_laws_eqInt64SS_1 a_0 b_1 (k + 1) i_l0 = (.inr ()) := by simp only [lo_laws_eqInt64SS_1, h_0, cond_false]
   rw [e]
   exact outR (e := (.exit 0)) E0Ok hMixed [] mk_laws_eqInt64SS_1_2 [] (p (sB h_0 <| sN)) (by kernel_rfl) (by intro h; cases h)

def lr_laws_eqInt64SS_1_0 (a_0 : (List (List Int))) (b_1 : (List (List Int))) : (Unit) ⊕ (Unit) := (lo_laws_eqInt64SS_1 a_0 b_1 (((a_0.length : Int) - 0).toNat + 1) 0)

def v_laws_eqInt64SS (a_0 : (List (List Int))) (b_1 : (List (List Int))) : Bool := (cond ((a_0.length : Int) != (b_1.length : Int))
  false
  (match (lr_laws_eqInt64SS_1_0 a_0 b_1) with
    | .inl r2 => false
    | .inr r2 => true))

theorem t_laws_eqInt64SS (a_0 : (List (List Int))) (b_1 : (List (List Int))) (hp0 : a_0.length ≤ 1073741824) (hp1 : ∀ t ∈ a_0, t.length ≤ 1073741824) (hp2 : b_1.length ≤ 1073741824) (hp3 : ∀ t ∈ b_1, t.length ≤ 1073741824)  : Fn prog 61 [.sl (a_0.map (cL (cI .i64))), .sl (b_1.map (cL (cI .i64)))] (.b (v_laws_eqInt64SS a_0 b_1)) [] := by
 have p {a C} (s : Scr a C) := sZ (cL (cI .i64)) a_0 <| sZ (cL (cI .i64)) b_1 <| s
 cases h0 : ((a_0.length : Int) != (b_1.length : Int)) with
 | true =>
  have gh0 := bne_iff_ne.1 h0
  refine fnS E0Ok hMixed (c := bodyOf f61) [] (.b false) [] func61 (p (sB h0 <| sK [] sN)) rfl (by kernel_rfl) (by kernel_rfl) rfl ?_ ?_
  · simp only [v_laws_eqInt64SS, h0, cond_true]
  · rfl
 | false =>
  have gh0 := bne_eq_false_iff_eq.1 h0
  have q {a C} (s : Scr a C) := p (sB h0 <| s)
  clear p
  cases h1 : (lr_laws_eqInt64SS_1_0 a_0 b_1) with
  | inl r2 =>
   refine fnS E0Ok hMixed (c := bodyOf f61) [] (.b false) [] func61 (q (sL mk_laws_eqInt64SS_1_0 0 (lp_val (ls_laws_eqInt64SS_1 a_0 b_1) (x := (lr_laws_eqInt64SS_1_0 a_0 b_1)) (lp_laws_eqInt64SS_1 a_0 b_1 hp0 hp1 hp2 hp3 h0 (((a_0.length : Int) - 0).toNat + 1) 0 (show 0 ≤ 0 from (by first | assumption | omega | (simp_all <;> omega))) (Nat.lt_succ_self _)) h1) <| sK [] sN)) rfl (by kernel_rfl) (by kernel_rfl) rfl ?_ ?_
   · simp only [v_laws_eqInt64SS, h0, h1, cond_false]
   · rfl
  | inr r2 =>
   refine fnS E0Ok hMixed (c := bodyOf f61) [] (.b true) [] func61 (q (sL mk_laws_eqInt64SS_1_0 0 (lp_val (ls_laws_eqInt64SS_1 a_0 b_1) (x := (lr_laws_eqInt64SS_1_0 a_0 b_1)) (lp_laws_eqInt64SS_1 a_0 b_1 hp0 hp1 hp2 hp3 h0 (((a_0.length : Int) - 0).toNat + 1) 0 (show 0 ≤ 0 from (by first | assumption | omega | (simp_all <;> omega))) (Nat.lt_succ_self _)) h1) <| sK [] sN)) rfl (by kernel_rfl) (by kernel_rfl) rfl ?_ ?_
   · simp only [v_laws_eqInt64SS, h0, h1, cond_false]
   · rfl

theorem eqInt64SS_self (a : List (List Int)) : v_laws_eqInt64SS a a = true := by
  unfold v_laws_eqInt64SS lr_laws_eqInt64SS_1_0
  rw [all_from (a := a) (p := fun v => v_laws_eqInt64S v v) (lo := lo_laws_eqInt64SS_1 a a) (x := ()) (y := ()) (fun k i => rfl)]
  rw [show (a.all fun v => v_laws_eqInt64S v v) = true from by rw [List.all_eq_true]; intro v _; exact eqInt64S_self v]
  simp

def v_laws_eqMesh (a_0 : GMesh) (b_1 : GMesh) : Bool := (cond (v_laws_eqVectorS a_0.Places b_1.Places)
  (cond (v_laws_eqInt64SS a_0.Triangles b_1.Triangles)
    true
    false)
  false)

theorem t_laws_eqMesh (a_0 : GMesh) (b_1 : GMesh) (hp0 : a_0.Places.length ≤ 1073741824) (hp1 : a_0.Triangles.length ≤ 1073741824) (hp2 : ∀ t ∈ a_0.Triangles, t.length ≤ 1073741824) (hp3 : b_1.Places.length ≤ 1073741824) (hp4 : b_1.Triangles.length ≤ 1073741824) (hp5 : ∀ t ∈ b_1.Triangles, t.length ≤ 1073741824)  : Fn prog 30 [.agg [.sl (a_0.Places.map GVector.cells), .sl (a_0.Triangles.map (cL (cI .i64)))], .agg [.sl (b_1.Places.map GVector.cells), .sl (b_1.Triangles.map (cL (cI .i64)))]] (.b (v_laws_eqMesh a_0 b_1)) [] := by
 have p {a C} (s : Scr a C) := sF (t_laws_eqVectorS a_0.Places b_1.Places hp0 hp3) <| s
 cases h0 : (v_laws_eqVectorS a_0.Places b_1.Places) with
 | true =>
  have q {a C} (s : Scr a C) := p (sB' h0 <| sF (t_laws_eqInt64SS a_0.Triangles b_1.Triangles hp1 hp2 hp4 hp5) <| s)
  clear p
  cases h1 : (v_laws_eqInt64SS a_0.Triangles b_1.Triangles) with
  | true =>
   refine fnS E0Ok hMixed (c := bodyOf f30) [] (.b true) [] func30 (q (sB' h1 <| sK [] sN)) rfl (by kernel_rfl) (by kernel_rfl) rfl ?_ ?_
   · simp only [v_laws_eqMesh, h0, h1, cond_true]
   · rfl
  | false =>
   refine fnS E0Ok hMixed (c := bodyOf f30) [] (.b false) [] func30 (q (sB' h1 <| sK [] sN)) rfl (by kernel_rfl) (by kernel_rfl) rfl ?_ ?_
   · simp only [v_laws_eqMesh, h0, h1, cond_true, cond_false]
   · rfl
 | false =>
  refine fnS E0Ok hMixed (c := bodyOf f30) [] (.b false) [] func30 (p (sB' h0 <| sK [] sN)) rfl (by kernel_rfl) (by kernel_rfl) rfl ?_ ?_
  · simp only [v_laws_eqMesh, h0, cond_false]
  · rfl

theorem eqMesh_self (a : GMesh) : v_laws_eqMesh a a = true := by
  simp [v_laws_eqMesh, eqVectorS_self, eqInt64SS_self]

def v_laws_eqHold (a_0 : GHold) (b_1 : GHold) : Bool := (cond (a_0.Place != b_1.Place)
  false
  (cond (a_0.Kind != b_1.Kind)
    false
    (cond (v_laws_eqVector a_0.At b_1.At)
      (cond (v_laws_eqVector a_0.Way b_1.Way)
        true
        false)
      false)))

theorem t_laws_eqHold (a_0 : GHold) (b_1 : GHold)   : Fn prog 94 [.agg [.i .i64 a_0.Place, .i .i64 a_0.Kind, .f .f32 a_0.At.X, .f .f32 a_0.At.Y, .f .f32 a_0.At.Z, .f .f32 a_0.Way.X, .f .f32 a_0.Way.Y, .f .f32 a_0.Way.Z], .agg [.i .i64 b_1.Place, .i .i64 b_1.Kind, .f .f32 b_1.At.X, .f .f32 b_1.At.Y, .f .f32 b_1.At.Z, .f .f32 b_1.Way.X, .f .f32 b_1.Way.Y, .f .f32 b_1.Way.Z]] (.b (v_laws_eqHold a_0 b_1)) [] := by
 cases h0 : (a_0.Place != b_1.Place) with
 | true =>
  have gh0 := bne_iff_ne.1 h0
  refine fnS E0Ok hMixed (c := bodyOf f94) [] (.b false) [] func94 (sB h0 <| sK [] sN) rfl (by kernel_rfl) (by kernel_rfl) rfl ?_ ?_
  · simp only [v_laws_eqHold, h0, cond_true]
  · rfl
 | false =>
  have gh0 := bne_eq_false_iff_eq.1 h0
  have p {a C} (s : Scr a C) := sB h0 <| s
  cases h1 : (a_0.Kind != b_1.Kind) with
  | true =>
   have gh1 := bne_iff_ne.1 h1
   refine fnS E0Ok hMixed (c := bodyOf f94) [] (.b false) [] func94 (p (sB h1 <| sK [] sN)) rfl (by kernel_rfl) (by kernel_rfl) rfl ?_ ?_
   · simp only [v_laws_eqHold, h0, h1, cond_true, cond_false]
   · rfl
  | false =>
   have gh1 := bne_eq_false_iff_eq.1 h1
   have q {a C} (s : Scr a C) := p (sB h1 <| sF (t_laws_eqVector a_0.At b_1.At) <| s)
   clear p
   cases h2 : (v_laws_eqVector a_0.At b_1.At) with
   | true =>
    have p {a C} (s : Scr a C) := q (sB' h2 <| sF (t_laws_eqVector a_0.Way b_1.Way) <| s)
    clear q
    cases h3 : (v_laws_eqVector a_0.Way b_1.Way) with
    | true =>
     refine fnS E0Ok hMixed (c := bodyOf f94) [] (.b true) [] func94 (p (sB' h3 <| sK [] sN)) rfl (by kernel_rfl) (by kernel_rfl) rfl ?_ ?_
     · simp only [v_laws_eqHold, h0, h1, h2, h3, cond_true, cond_false]
     · rfl
    | false =>
     refine fnS E0Ok hMixed (c := bodyOf f94) [] (.b false) [] func94 (p (sB' h3 <| sK [] sN)) rfl (by kernel_rfl) (by kernel_rfl) rfl ?_ ?_
     · simp only [v_laws_eqHold, h0, h1, h2, h3, cond_true, cond_false]
     · rfl
   | false =>
    refine fnS E0Ok hMixed (c := bodyOf f94) [] (.b false) [] func94 (q (sB' h2 <| sK [] sN)) rfl (by kernel_rfl) (by kernel_rfl) rfl ?_ ?_
    · simp only [v_laws_eqHold, h0, h1, h2, cond_false]
    · rfl

theorem eqHold_self (a : GHold) : v_laws_eqHold a a = true := by
  simp [v_laws_eqHold, same_self, eqVector_self]

def lo_laws_eqHoldS_1 (a_0 : (List GHold)) (b_1 : (List GHold)) : Nat → Int → (Unit) ⊕ (Unit)
  | 0, _ => .inl default
  | k + 1, i_l0 => (cond (decide (i_l0 < (a_0.length : Int)))
    (cond (v_laws_eqHold (a_0.getD i_l0.toNat default) (b_1.getD i_l0.toNat default))
      (lo_laws_eqHoldS_1 a_0 b_1 k (i_l0 + 1))
      (.inl ()))
    (.inr ()))

end Go.Ab
