/- The functions of this seat as plain Lean, and that the program's are these. Printed by a program of the prover's own. -/
import Derived.Test.YtiiijolkhbnblaaB1
set_option linter.unusedVariables false
set_option linter.unusedSimpArgs false
set_option maxRecDepth 100000
namespace Go.Ab
open Go.RowKit Go.Proofs.Try

theorem ln_laws_toSpringS_1_0 (a_0 : (List GSpring)) : ∀ (k : Nat) (i_l0 : Int) (r0_l1 : (List GSpring)) (hk : ((a_0.length : Int) - i_l0).toNat < k), (lo_laws_toSpringS_1 a_0 k i_l0 r0_l1).length = r0_l1.length := by
  intro k
  induction k with
  | zero => intro i_l0 r0_l1 hk; exact absurd hk (Nat.not_lt_zero _)
  | succ k ih =>
    intro i_l0 r0_l1 hk
    cases h_0 : (decide (i_l0 < (a_0.length : Int))) with
    | true =>
      have e : lo_laws_toSpringS_1 a_0 (k + 1) i_l0 r0_l1 = (lo_laws_toSpringS_1 a_0 k (i_l0 + 1) (r0_l1.set i_l0.toNat (a_0.getD i_l0.toNat default))) := by simp only [lo_laws_toSpringS_1, h_0, cond_true]
      rw [e, ih (i_l0 + 1) (r0_l1.set i_l0.toNat (a_0.getD i_l0.toNat default)) (by first | assumption | omega | (simp_all <;> omega))]; simp
    | false =>
      have e : lo_laws_toSpringS_1 a_0 (k + 1) i_l0 r0_l1 = r0_l1 := by simp only [lo_laws_toSpringS_1, h_0, cond_false]
      first | (rw [e]; done) | (rw [e]; rfl)

def lr_laws_toSpringS_1_0 (a_0 : (List GSpring)) : (List GSpring) := (lo_laws_toSpringS_1 a_0 (((a_0.length : Int) - 0).toNat + 1) 0 (List.replicate (a_0.length : Int).toNat (⟨0, 0, 0, 0⟩ : GSpring)))

@[simp] theorem len_lr_laws_toSpringS_1_0_0 (a_0 : (List GSpring)) : (lr_laws_toSpringS_1_0 a_0).length = ((List.replicate (a_0.length : Int).toNat (⟨0, 0, 0, 0⟩ : GSpring)) : (List GSpring)).length := ln_laws_toSpringS_1_0 a_0 (((a_0.length : Int) - 0).toNat + 1) 0 (List.replicate (a_0.length : Int).toNat (⟨0, 0, 0, 0⟩ : GSpring)) (by first | exact Nat.lt_succ_self _ | simp)

def v_laws_toSpringS (a_0 : (List GSpring)) : (List GSpring) := (lr_laws_toSpringS_1_0 a_0)

@[simp] theorem len_v_laws_toSpringS_0 (a_0 : (List GSpring)) : (v_laws_toSpringS a_0).length = a_0.length := by
  first | (simp [v_laws_toSpringS]; done)

theorem t_laws_toSpringS (a_0 : (List GSpring)) (hp0 : a_0.length ≤ 1073741824)  : Fn prog 76 [.sl (a_0.map GSpring.cells)] (.own 0) [.vec 105 4 ((v_laws_toSpringS a_0).map GSpring.cells) false] := by
 have y0 : (0 : Int) ≤ (a_0.length : Int) := (by first | assumption | omega | (simp_all <;> omega))
 have y1 : ((a_0.length : Int) : Int) ≤ 2147483648 := (by first | assumption | omega | (simp_all <;> omega))
 refine fnS E0Ok hMixed (c := bodyOf f76) [] (.own 0) [.vec 105 4 ((lr_laws_toSpringS_1_0 a_0).map GSpring.cells) false] func76 (sZ GSpring.cells a_0 <| sC (show (a_0.length : Int) = (a_0.length : Int) from rfl) <| sC y0 <| sC y1 <| sL mk_laws_toSpringS_1_0 1 (lp_cast (st2 := ⟨[.sl (a_0.map GSpring.cells), .any, .nils, .own 0, .i .i64 0, .sl (a_0.map GSpring.cells), .i .i64 (a_0.length : Int), .own 0, .any, .any, .any, .any, .any, .any, .any, .any, .any, .any, .any, .any, .any, .any, .any], [.vec 105 4 (List.replicate (Int.toNat (a_0.length : Int)) [.i .i64 0, .i .i64 0, .f .f32 0, .f .f32 0]) false]⟩) (lp_val (ls_laws_toSpringS_1 a_0) (x := (lr_laws_toSpringS_1_0 a_0)) (lp_laws_toSpringS_1 a_0 hp0 (((a_0.length : Int) - 0).toNat + 1) 0 (List.replicate (a_0.length : Int).toNat (⟨0, 0, 0, 0⟩ : GSpring)) (show 0 ≤ 0 from (by first | assumption | omega | (simp_all <;> omega))) (show (List.replicate (a_0.length : Int).toNat (⟨0, 0, 0, 0⟩ : GSpring)).length = a_0.length from (by simp)) (Nat.lt_succ_self _)) rfl) (by simp [hd_laws_toSpringS_1, GSpring.cells])) <| sK [0] sN) rfl (by kernel_rfl) (by kernel_rfl) rfl ?_ ?_
 · rfl
 · simp [v_laws_toSpringS]

@[simp] theorem eq_laws_toSpringS (a : List GSpring) : v_laws_toSpringS a = a := by
  unfold v_laws_toSpringS lr_laws_toSpringS_1_0
  rw [copy_all (f := id) (a := a) (lo := lo_laws_toSpringS_1 a) (fun k i r => rfl)]
  exact List.map_id a

theorem i_laws_toSpringS (a_0 : (List GSpring)) (hp0 : a_0.length ≤ 1073741824) : Fn prog 76 [.sl (a_0.map GSpring.cells)] (.own 0) [.vec 105 4 (a_0.map GSpring.cells) false] := by
 simpa only [eq_laws_toSpringS] using t_laws_toSpringS  a_0 hp0

def lo_laws_toFloat32S_1 (a_0 : (List Nat)) : Nat → Int → (List Nat) → (List Nat)
  | 0, _, _ => default
  | k + 1, i_l0, r0_l1 => (cond (decide (i_l0 < (a_0.length : Int)))
    (lo_laws_toFloat32S_1 a_0 k (i_l0 + 1) (r0_l1.set i_l0.toNat (a_0.getD i_l0.toNat default)))
    r0_l1)

def ls_laws_toFloat32S_1 (a_0 : (List Nat)) (r : (List Nat)) : Ex × St := ((.exit 0), ⟨[.sl (a_0.map (cF .f32)), .any, .nils, .own 0, .any, .sl (a_0.map (cF .f32)), .i .i64 (a_0.length : Int), .own 0, .any, .any, .any, .any, .any, .any, .any, .any, .any, .any, .any, .any, .any, .any], [.vec 22 1 (r.map (cF .f32)) false]⟩)

def hd_laws_toFloat32S_1 (a_0 : (List Nat)) (i_l0 : Int) (r0_l1 : (List Nat)) : St := ⟨[.sl (a_0.map (cF .f32)), .any, .nils, .own 0, .i .i64 i_l0, .sl (a_0.map (cF .f32)), .i .i64 (a_0.length : Int), .own 0, .any, .any, .any, .any, .any, .any, .any, .any, .any, .any, .any, .any, .any, .any], [.vec 22 1 (r0_l1.map (cF .f32)) false]⟩

def mk_laws_toFloat32S_1_0 : List Bool := [true, false, true, true, true, true, true, true, false, false, false, false, false, false, false, false, false, false, false, false, false, false]

def mk_laws_toFloat32S_1_1 : List Bool := [true, false, true, true, false, true, true, true, false, false, false, false, false, false, false, false, false, false, false, false, false, false]

theorem lp_laws_toFloat32S_1 (a_0 : (List Nat)) (hp0 : a_0.length ≤ 1073741824) : ∀ (k : Nat) (i_l0 : Int) (r0_l1 : (List Nat)) (hv_laws_toFloat32S_1_0 : 0 ≤ i_l0) (hv_laws_toFloat32S_1_1 : r0_l1.length = a_0.length) (hk : ((a_0.length : Int) - i_l0).toNat < k), Lp prog 0 (sub (bodyOf f77) [1, 1, 0, 1, 0, 0]) (hd_laws_toFloat32S_1 a_0 i_l0 r0_l1) (ls_laws_toFloat32S_1 a_0 (lo_laws_toFloat32S_1 a_0 k i_l0 r0_l1)).1 (ls_laws_toFloat32S_1 a_0 (lo_laws_toFloat32S_1 a_0 k i_l0 r0_l1)).2 := by
 intro k
 induction k with
 | zero => intro i_l0 r0_l1 hv_laws_toFloat32S_1_0 hv_laws_toFloat32S_1_1 hk; exact absurd hk (Nat.not_lt_zero _)
 | succ k ih =>
  intro i_l0 r0_l1 hv_laws_toFloat32S_1_0 hv_laws_toFloat32S_1_1 hk
  have p {a C} (s : Scr a C) := sZ (cF .f32) a_0 <| s
  cases h_0 : (decide (i_l0 < (a_0.length : Int))) with
  | true =>
   have gh_0 := of_decide_eq_true h_0
   have y_0 : (0 : Int) ≤ i_l0 := by clear p; exact (by first | assumption | omega | (simp_all <;> omega))
   have y_1 : i_l0 < (a_0.length : Int) := by clear p; exact (by first | assumption | omega | (simp_all <;> omega))
   have y_2 : i_l0 < (r0_l1.length : Int) := by clear p; exact (by first | assumption | omega | (simp_all <;> omega))
   have y_3 : i_l0.toNat < r0_l1.length := by clear p; exact (by first | assumption | omega | (simp_all <;> omega))
   have y_4 : (-9223372036854775808 : Int) ≤ (i_l0 + 1) := by clear p; exact (by first | assumption | omega | (simp_all <;> omega))
   have y_5 : (i_l0 + 1) ≤ (9223372036854775807 : Int) := by clear p; exact (by first | assumption | omega | (simp_all <;> omega))
   have e : lo_laws_toFloat32S_1 a_0 (k + 1) i_l0 r0_l1 = (lo_laws_toFloat32S_1 a_0 k (i_l0 + 1) (r0_l1.set i_l0.toNat (a_0.getD i_l0.toNat default))) := by simp only [lo_laws_toFloat32S_1, h_0, cond_true]
   rw [e]
   exact nextS E0Ok hMixed [] mk_laws_toFloat32S_1_0 [0] (⟨[.sl (a_0.map (cF .f32)), .any, .nils, .own 0, .i .i64 (i_l0 + 1), .sl (a_0.map (cF .f32)), .i .i64 (a_0.length : Int), .own 0, .any, .any, .any, .any, .any, .any, .any, .any, .any, .any, .any, .any, .any, .any], [.vec 22 1 ((r0_l1.map (cF .f32)).set i_l0.toNat [.f .f32 (a_0.getD i_l0.toNat default)]) false]⟩) (p (sB h_0 <| sG (cF .f32) a_0 i_l0 y_0 y_1 <| sX (cF .f32) r0_l1 i_l0 y_0 y_2 <| sC (maplt (c := (cF .f32)) (l := r0_l1) y_3) <| sI (i_l0 + 1) y_4 y_5 <| sN)) (by kernel_rfl) (show _ = ⟨[.sl (a_0.map (cF .f32)), .any, .nils, .own 0, .i .i64 (i_l0 + 1), .sl (a_0.map (cF .f32)), .i .i64 (a_0.length : Int), .own 0, .any, .any, .any, .any, .any, .any, .any, .any, .any, .any, .any, .any, .any, .any], [.vec 22 1 ((r0_l1.set i_l0.toNat (a_0.getD i_l0.toNat default)).map (cF .f32)) false]⟩ from (by simp [List.map_set, cF])) (ih (i_l0 + 1) (r0_l1.set i_l0.toNat (a_0.getD i_l0.toNat default)) (show 0 ≤ (i_l0 + 1) from (by first | assumption | omega | (simp_all <;> omega))) (show (r0_l1.set i_l0.toNat (a_0.getD i_l0.toNat default)).length = a_0.length from (by first | assumption | omega | (simp_all <;> omega))) (by first | assumption | omega | (simp_all <;> omega)))
  | false =>
   have gh_0 := of_decide_eq_false h_0
   have e : lo_laws_toFloat32S_1 a_0 (k + 1) i_l0 r0_l1 = r0_l1 := by simp only [lo_laws_toFloat32S_1, h_0, cond_false]
   rw [e]
   exact outR (e := (.exit 0)) E0Ok hMixed [] mk_laws_toFloat32S_1_1 [0] (p (sB h_0 <| sN)) (by kernel_rfl) (by intro h; cases h)

theorem ln_laws_toFloat32S_1_0 (a_0 : (List Nat)) : ∀ (k : Nat) (i_l0 : Int) (r0_l1 : (List Nat)) (hk : ((a_0.length : Int) - i_l0).toNat < k), (lo_laws_toFloat32S_1 a_0 k i_l0 r0_l1).length = r0_l1.length := by
  intro k
  induction k with
  | zero => intro i_l0 r0_l1 hk; exact absurd hk (Nat.not_lt_zero _)
  | succ k ih =>
    intro i_l0 r0_l1 hk
    cases h_0 : (decide (i_l0 < (a_0.length : Int))) with
    | true =>
      have e : lo_laws_toFloat32S_1 a_0 (k + 1) i_l0 r0_l1 = (lo_laws_toFloat32S_1 a_0 k (i_l0 + 1) (r0_l1.set i_l0.toNat (a_0.getD i_l0.toNat default))) := by simp only [lo_laws_toFloat32S_1, h_0, cond_true]
      rw [e, ih (i_l0 + 1) (r0_l1.set i_l0.toNat (a_0.getD i_l0.toNat default)) (by first | assumption | omega | (simp_all <;> omega))]; simp
    | false =>
      have e : lo_laws_toFloat32S_1 a_0 (k + 1) i_l0 r0_l1 = r0_l1 := by simp only [lo_laws_toFloat32S_1, h_0, cond_false]
      first | (rw [e]; done) | (rw [e]; rfl)

def lr_laws_toFloat32S_1_0 (a_0 : (List Nat)) : (List Nat) := (lo_laws_toFloat32S_1 a_0 (((a_0.length : Int) - 0).toNat + 1) 0 (List.replicate (a_0.length : Int).toNat 0))

@[simp] theorem len_lr_laws_toFloat32S_1_0_0 (a_0 : (List Nat)) : (lr_laws_toFloat32S_1_0 a_0).length = ((List.replicate (a_0.length : Int).toNat 0) : (List Nat)).length := ln_laws_toFloat32S_1_0 a_0 (((a_0.length : Int) - 0).toNat + 1) 0 (List.replicate (a_0.length : Int).toNat 0) (by first | exact Nat.lt_succ_self _ | simp)

def v_laws_toFloat32S (a_0 : (List Nat)) : (List Nat) := (lr_laws_toFloat32S_1_0 a_0)

@[simp] theorem len_v_laws_toFloat32S_0 (a_0 : (List Nat)) : (v_laws_toFloat32S a_0).length = a_0.length := by
  first | (simp [v_laws_toFloat32S]; done)

theorem t_laws_toFloat32S (a_0 : (List Nat)) (hp0 : a_0.length ≤ 1073741824)  : Fn prog 77 [.sl (a_0.map (cF .f32))] (.own 0) [.vec 22 1 ((v_laws_toFloat32S a_0).map (cF .f32)) false] := by
 have y0 : (0 : Int) ≤ (a_0.length : Int) := (by first | assumption | omega | (simp_all <;> omega))
 have y1 : ((a_0.length : Int) : Int) ≤ 2147483648 := (by first | assumption | omega | (simp_all <;> omega))
 refine fnS E0Ok hMixed (c := bodyOf f77) [] (.own 0) [.vec 22 1 ((lr_laws_toFloat32S_1_0 a_0).map (cF .f32)) false] func77 (sZ (cF .f32) a_0 <| sC (show (a_0.length : Int) = (a_0.length : Int) from rfl) <| sC y0 <| sC y1 <| sL mk_laws_toFloat32S_1_0 1 (lp_cast (st2 := ⟨[.sl (a_0.map (cF .f32)), .any, .nils, .own 0, .i .i64 0, .sl (a_0.map (cF .f32)), .i .i64 (a_0.length : Int), .own 0, .any, .any, .any, .any, .any, .any, .any, .any, .any, .any, .any, .any, .any, .any], [.vec 22 1 (List.replicate (Int.toNat (a_0.length : Int)) [.f .f32 0]) false]⟩) (lp_val (ls_laws_toFloat32S_1 a_0) (x := (lr_laws_toFloat32S_1_0 a_0)) (lp_laws_toFloat32S_1 a_0 hp0 (((a_0.length : Int) - 0).toNat + 1) 0 (List.replicate (a_0.length : Int).toNat 0) (show 0 ≤ 0 from (by first | assumption | omega | (simp_all <;> omega))) (show (List.replicate (a_0.length : Int).toNat 0).length = a_0.length from (by simp)) (Nat.lt_succ_self _)) rfl) (by simp [hd_laws_toFloat32S_1, cF])) <| sK [0] sN) rfl (by kernel_rfl) (by kernel_rfl) rfl ?_ ?_
 · rfl
 · simp [v_laws_toFloat32S]

@[simp] theorem eq_laws_toFloat32S (a : List Nat) : v_laws_toFloat32S a = a := by
  unfold v_laws_toFloat32S lr_laws_toFloat32S_1_0
  rw [copy_all (f := id) (a := a) (lo := lo_laws_toFloat32S_1 a) (fun k i r => rfl)]
  exact List.map_id a

theorem i_laws_toFloat32S (a_0 : (List Nat)) (hp0 : a_0.length ≤ 1073741824) : Fn prog 77 [.sl (a_0.map (cF .f32))] (.own 0) [.vec 22 1 (a_0.map (cF .f32)) false] := by
 simpa only [eq_laws_toFloat32S] using t_laws_toFloat32S  a_0 hp0

def v_laws_toBody (a_0 : GBody) : GBody := a_0

theorem t_laws_toBody (a_0 : GBody) (hp0 : a_0.Mesh.Places.length ≤ 1073741824) (hp1 : a_0.Mesh.Triangles.length ≤ 1073741824) (hp2 : ∀ t ∈ a_0.Mesh.Triangles, t.length ≤ 1073741824) (hp3 : a_0.Springs.length ≤ 1073741824) (hp4 : a_0.Weights.length ≤ 1073741824)  : Fn prog 20 [.agg [.sl (a_0.Mesh.Places.map GVector.cells), .sl (a_0.Mesh.Triangles.map (cL (cI .i64))), .sl (a_0.Springs.map GSpring.cells), .f .f32 a_0.Film, .f .f32 a_0.Bend, .sl (a_0.Weights.map (cF .f32)), .f .f32 a_0.Fall.X, .f .f32 a_0.Fall.Y, .f .f32 a_0.Fall.Z]] (.agg [.own 0, .own 1, .own 2, .f .f32 ((v_laws_toBody a_0).Film), .f .f32 ((v_laws_toBody a_0).Bend), .own 3, .f .f32 ((v_laws_toBody a_0).Fall.X), .f .f32 ((v_laws_toBody a_0).Fall.Y), .f .f32 ((v_laws_toBody a_0).Fall.Z)]) [.vec 44 3 (((v_laws_toBody a_0).Mesh.Places).map GVector.cells) false, .nest 52 (((v_laws_toBody a_0).Mesh.Triangles).map fun l => l.map (cI .i64)) false, .vec 105 4 (((v_laws_toBody a_0).Springs).map GSpring.cells) false, .vec 22 1 (((v_laws_toBody a_0).Weights).map (cF .f32)) false] := by
 refine fnS E0Ok hMixed (c := bodyOf f20) [] (.agg [.own 0, .own 1, .own 2, .f .f32 a_0.Film, .f .f32 a_0.Bend, .own 3, .f .f32 a_0.Fall.X, .f .f32 a_0.Fall.Y, .f .f32 a_0.Fall.Z]) [.vec 44 3 (a_0.Mesh.Places.map GVector.cells) false, .nest 52 (a_0.Mesh.Triangles.map fun l => l.map (cI .i64)) false, .vec 105 4 (a_0.Springs.map GSpring.cells) false, .vec 22 1 (a_0.Weights.map (cF .f32)) false] func20 (sF (i_laws_toMesh a_0.Mesh hp0 hp1 hp2) <| sF (i_laws_toSpringS a_0.Springs hp3) <| sF (i_laws_toFloat32S a_0.Weights hp4) <| sF (i_laws_toVector a_0.Fall) <| sK [3, 4, 5, 6] sN) rfl (by kernel_rfl) (by kernel_rfl) rfl ?_ ?_
 · rfl
 · simp [v_laws_toBody]

@[simp] theorem eq_laws_toBody (a : GBody) : v_laws_toBody a = a := by
  simp [v_laws_toBody]

theorem i_laws_toBody (a_0 : GBody) (hp0 : a_0.Mesh.Places.length ≤ 1073741824) (hp1 : a_0.Mesh.Triangles.length ≤ 1073741824) (hp2 : ∀ t ∈ a_0.Mesh.Triangles, t.length ≤ 1073741824) (hp3 : a_0.Springs.length ≤ 1073741824) (hp4 : a_0.Weights.length ≤ 1073741824) : Fn prog 20 [.agg [.sl (a_0.Mesh.Places.map GVector.cells), .sl (a_0.Mesh.Triangles.map (cL (cI .i64))), .sl (a_0.Springs.map GSpring.cells), .f .f32 a_0.Film, .f .f32 a_0.Bend, .sl (a_0.Weights.map (cF .f32)), .f .f32 a_0.Fall.X, .f .f32 a_0.Fall.Y, .f .f32 a_0.Fall.Z]] (.agg [.own 0, .own 1, .own 2, .f .f32 a_0.Film, .f .f32 a_0.Bend, .own 3, .f .f32 a_0.Fall.X, .f .f32 a_0.Fall.Y, .f .f32 a_0.Fall.Z]) [.vec 44 3 (a_0.Mesh.Places.map GVector.cells) false, .nest 52 (a_0.Mesh.Triangles.map fun l => l.map (cI .i64)) false, .vec 105 4 (a_0.Springs.map GSpring.cells) false, .vec 22 1 (a_0.Weights.map (cF .f32)) false] := by
 simpa only [eq_laws_toBody] using t_laws_toBody  a_0 hp0 hp1 hp2 hp3 hp4

def v_spec_l00In (n_0 : Int) (low_1 : Int) (high_2 : Int) : Bool := (cond (decide (n_0 ≥ low_1))
  (decide (n_0 ≤ high_2))
  false)

theorem t_spec_l00In (n_0 : Int) (low_1 : Int) (high_2 : Int)   : Fn prog 187 [.i .i64 n_0, .i .i64 low_1, .i .i64 high_2] (.b (v_spec_l00In n_0 low_1 high_2)) [] := by
 cases h0 : (decide (n_0 ≥ low_1)) with
 | true =>
  have gh0 := of_decide_eq_true h0
  refine fnS E0Ok hMixed (c := bodyOf f187) [] (.b (decide (n_0 ≤ high_2))) [] func187 (sB h0 <| sB h0 <| sB h0 <| sB h0 <| sK [] sN) rfl (by kernel_rfl) (by kernel_rfl) rfl ?_ ?_
  · simp only [v_spec_l00In, h0, cond_true]
  · rfl
 | false =>
  have gh0 := of_decide_eq_false h0
  refine fnS E0Ok hMixed (c := bodyOf f187) [] (.b false) [] func187 (sB h0 <| sB h0 <| sB h0 <| sB h0 <| sK [] sN) rfl (by kernel_rfl) (by kernel_rfl) rfl ?_ ?_
  · simp only [v_spec_l00In, h0, cond_false]
  · rfl

theorem in_ok {x : Int} {n : Nat} (hn : n ≤ 9223372036854775807) (h : v_spec_l00In x 0 (IntKind.wrap .i64 ((n : Int) - 1)) = true) : 0 ≤ x ∧ x < (n : Int) := by
  unfold v_spec_l00In at h
  rw [wrap_id (n := (n : Int) - 1) (by omega) (by omega)] at h
  by_cases h1 : x ≥ 0 <;> simp [h1] at h
  omega

def v_spec_l02Triangle (t_0 : (List Int)) (n_1 : Int) : Bool := (cond ((t_0.length : Int) != 3)
  false
  (cond ((t_0.getD 0 default) == (t_0.getD 1 default))
    false
    (cond ((t_0.getD 1 default) == (t_0.getD 2 default))
      false
      (cond ((t_0.getD 0 default) == (t_0.getD 2 default))
        false
        (cond (v_spec_l00In (t_0.getD 0 default) 0 (IntKind.wrap .i64 (n_1 - 1)))
          (cond (v_spec_l00In (t_0.getD 1 default) 0 (IntKind.wrap .i64 (n_1 - 1)))
            (v_spec_l00In (t_0.getD 2 default) 0 (IntKind.wrap .i64 (n_1 - 1)))
            false)
          false)))))

theorem t_spec_l02Triangle (t_0 : (List Int)) (n_1 : Int) (hp0 : t_0.length ≤ 1073741824)  : Fn prog 159 [.sl (t_0.map (cI .i64)), .i .i64 n_1] (.b (v_spec_l02Triangle t_0 n_1)) [] := by
 have p {a C} (s : Scr a C) := sK [28, 28] <| sZ (cI .i64) t_0 <| s
 cases h0 : ((t_0.length : Int) != 3) with
 | true =>
  have gh0 := bne_iff_ne.1 h0
  refine fnS E0Ok hMixed (c := bodyOf f159) [] (.b false) [] func159 (p (sB h0 <| sB h0 <| sB h0 <| sB h0 <| sB h0 <| sB h0 <| sB h0 <| sB h0 <| sB (show true = true from rfl) <| sB (show true = true from rfl) <| sB (show true = true from rfl) <| sB (show true = true from rfl) <| sB (show true = true from rfl) <| sB (show true = true from rfl) <| sB (show true = true from rfl) <| sB (show true = true from rfl) <| sB (show true = true from rfl) <| sB (show true = true from rfl) <| sB (show true = true from rfl) <| sB (show true = true from rfl) <| sB (show true = true from rfl) <| sB (show true = true from rfl) <| sB (show true = true from rfl) <| sB (show true = true from rfl) <| sB (show true = true from rfl) <| sK [] sN)) rfl (by kernel_rfl) (by kernel_rfl) rfl ?_ ?_
  · simp only [v_spec_l02Triangle, h0, cond_true]
  · rfl
 | false =>
  have gh0 := bne_eq_false_iff_eq.1 h0
  have y0 : (0 : Int) ≤ 0 := by clear p; exact (by first | assumption | omega | (simp_all <;> omega))
  have y1 : 0 < (t_0.length : Int) := by clear p; exact (by first | assumption | omega | (simp_all <;> omega))
  have y2 : (0 : Int) ≤ 1 := by clear p; exact (by first | assumption | omega | (simp_all <;> omega))
  have y3 : 1 < (t_0.length : Int) := by clear p; exact (by first | assumption | omega | (simp_all <;> omega))
  have q {a C} (s : Scr a C) := p (sB h0 <| sB h0 <| sG (cI .i64) t_0 0 y0 y1 <| sB h0 <| sB h0 <| sB h0 <| sG (cI .i64) t_0 1 y2 y3 <| sB h0 <| sB h0 <| sB h0 <| s)
  clear p
  cases h1 : ((t_0.getD 0 default) == (t_0.getD 1 default)) with
  | true =>
   have gh1 := eq_of_beq h1
   refine fnS E0Ok hMixed (c := bodyOf f159) [] (.b false) [] func159 (q (sB h1 <| sB h1 <| sB h1 <| sB h1 <| sB h1 <| sB h1 <| sB h1 <| sB h1 <| sB (show true = true from rfl) <| sB (show true = true from rfl) <| sB (show true = true from rfl) <| sB (show true = true from rfl) <| sB (show true = true from rfl) <| sB (show true = true from rfl) <| sB (show true = true from rfl) <| sB (show true = true from rfl) <| sB (show true = true from rfl) <| sK [] sN)) rfl (by kernel_rfl) (by kernel_rfl) rfl ?_ ?_
   · simp only [v_spec_l02Triangle, h0, h1, cond_true, cond_false]
   · rfl
  | false =>
   have gh1 := ne_of_beq_false h1
   have y4 : (0 : Int) ≤ 2 := by clear q; exact (by first | assumption | omega | (simp_all <;> omega))
   have y5 : 2 < (t_0.length : Int) := by clear q; exact (by first | assumption | omega | (simp_all <;> omega))
   have p {a C} (s : Scr a C) := q (sB h1 <| sB h1 <| sG (cI .i64) t_0 1 y2 y3 <| sB h1 <| sB h1 <| sB h1 <| sG (cI .i64) t_0 2 y4 y5 <| sB h1 <| sB h1 <| sB h1 <| s)
   clear q
   cases h2 : ((t_0.getD 1 default) == (t_0.getD 2 default)) with
   | true =>
    have gh2 := eq_of_beq h2
    refine fnS E0Ok hMixed (c := bodyOf f159) [] (.b false) [] func159 (p (sB h2 <| sB h2 <| sB h2 <| sB h2 <| sB h2 <| sB h2 <| sB h2 <| sB h2 <| sB (show true = true from rfl) <| sK [] sN)) rfl (by kernel_rfl) (by kernel_rfl) rfl ?_ ?_
    · simp only [v_spec_l02Triangle, h0, h1, h2, cond_true, cond_false]
    · rfl
   | false =>
    have gh2 := ne_of_beq_false h2
    have q {a C} (s : Scr a C) := p (sB h2 <| sB h2 <| sG (cI .i64) t_0 0 y0 y1 <| sB h2 <| sB h2 <| sB h2 <| sG (cI .i64) t_0 2 y4 y5 <| sB h2 <| sB h2 <| sB h2 <| s)
    clear p
    cases h3 : ((t_0.getD 0 default) == (t_0.getD 2 default)) with
    | true =>
     have gh3 := eq_of_beq h3
     refine fnS E0Ok hMixed (c := bodyOf f159) [] (.b false) [] func159 (q (sB h3 <| sK [] sN)) rfl (by kernel_rfl) (by kernel_rfl) rfl ?_ ?_
     · simp only [v_spec_l02Triangle, h0, h1, h2, h3, cond_true, cond_false]
     · rfl
    | false =>
     have gh3 := ne_of_beq_false h3
     have p {a C} (s : Scr a C) := q (sB h3 <| sG (cI .i64) t_0 0 y0 y1 <| sW .i64 (n_1 - 1) <| sF (t_spec_l00In (t_0.getD 0 default) 0 (IntKind.wrap .i64 (n_1 - 1))) <| s)
     clear q
     cases h4 : (v_spec_l00In (t_0.getD 0 default) 0 (IntKind.wrap .i64 (n_1 - 1))) with
     | true =>
      have q {a C} (s : Scr a C) := p (sB h4 <| sB h4 <| sG (cI .i64) t_0 1 y2 y3 <| sB h4 <| sB h4 <| sB h4 <| sW .i64 (n_1 - 1) <| sB h4 <| sF (t_spec_l00In (t_0.getD 1 default) 0 (IntKind.wrap .i64 (n_1 - 1))) <| sB h4 <| s)
      clear p
      cases h5 : (v_spec_l00In (t_0.getD 1 default) 0 (IntKind.wrap .i64 (n_1 - 1))) with
      | true =>
       refine fnS E0Ok hMixed (c := bodyOf f159) [] (.b (v_spec_l00In (t_0.getD 2 default) 0 (IntKind.wrap .i64 (n_1 - 1)))) [] func159 (q (sB h5 <| sB h5 <| sG (cI .i64) t_0 2 y4 y5 <| sB h5 <| sB h5 <| sB h5 <| sW .i64 (n_1 - 1) <| sB h5 <| sF (t_spec_l00In (t_0.getD 2 default) 0 (IntKind.wrap .i64 (n_1 - 1))) <| sB h5 <| sK [] sN)) rfl (by kernel_rfl) (by kernel_rfl) rfl ?_ ?_
       · simp only [v_spec_l02Triangle, h0, h1, h2, h3, h4, h5, cond_true, cond_false]
       · rfl
      | false =>
       refine fnS E0Ok hMixed (c := bodyOf f159) [] (.b false) [] func159 (q (sB h5 <| sB h5 <| sB h5 <| sB h5 <| sB h5 <| sB h5 <| sB h5 <| sK [] sN)) rfl (by kernel_rfl) (by kernel_rfl) rfl ?_ ?_
       · simp only [v_spec_l02Triangle, h0, h1, h2, h3, h4, h5, cond_true, cond_false]
       · rfl
     | false =>
      refine fnS E0Ok hMixed (c := bodyOf f159) [] (.b false) [] func159 (p (sB h4 <| sB h4 <| sB h4 <| sB h4 <| sB h4 <| sB h4 <| sB h4 <| sB (show false = false from rfl) <| sB (show false = false from rfl) <| sB (show false = false from rfl) <| sB (show false = false from rfl) <| sB (show false = false from rfl) <| sB (show false = false from rfl) <| sB (show false = false from rfl) <| sK [] sN)) rfl (by kernel_rfl) (by kernel_rfl) rfl ?_ ?_
      · simp only [v_spec_l02Triangle, h0, h1, h2, h3, h4, cond_false]
      · rfl

def lo_spec_l02Is_1 (m_0 : GMesh) : Nat → Int → (Unit) ⊕ (Unit)
  | 0, _ => .inl default
  | k + 1, i_l0 => (cond (decide (i_l0 < (m_0.Triangles.length : Int)))
    (cond (v_spec_l02Triangle (m_0.Triangles.getD i_l0.toNat default) (m_0.Places.length : Int))
      (lo_spec_l02Is_1 m_0 k (i_l0 + 1))
      (.inl ()))
    (.inr ()))

def ls_spec_l02Is_1 (m_0 : GMesh) : (Unit) ⊕ (Unit) → Ex × St
  | .inl r => (.ret, ⟨[.any, .any, .b false, .any, .any, .any, .any, .any, .any, .any, .any, .any, .any, .any, .any, .any, .any, .any, .any, .any, .any, .any, .any, .any, .any, .any, .any, .any, .any, .any, .any, .any, .any, .any, .any, .any, .any, .any, .any, .any, .any], []⟩)
  | .inr r => ((.exit 0), ⟨[.ref [.sl (m_0.Places.map GVector.cells), .sl (m_0.Triangles.map (cL (cI .i64)))] 0, .any, .any, .any, .ref [.sl (m_0.Places.map GVector.cells), .sl (m_0.Triangles.map (cL (cI .i64)))] 0, .ref [.sl (m_0.Places.map GVector.cells), .sl (m_0.Triangles.map (cL (cI .i64)))] 0, .ref [.sl (m_0.Places.map GVector.cells), .sl (m_0.Triangles.map (cL (cI .i64)))] 0, .sl (m_0.Places.map GVector.cells), .i .i64 (m_0.Places.length : Int), .b (decide ((m_0.Places.length : Int) > 64)), .b (decide ((m_0.Places.length : Int) > 64)), .ref [.sl (m_0.Places.map GVector.cells), .sl (m_0.Triangles.map (cL (cI .i64)))] 0, .ref [.sl (m_0.Places.map GVector.cells), .sl (m_0.Triangles.map (cL (cI .i64)))] 0, .ref [.sl (m_0.Places.map GVector.cells), .sl (m_0.Triangles.map (cL (cI .i64)))] 1, .sl (m_0.Triangles.map (cL (cI .i64))), .i .i64 (m_0.Triangles.length : Int), .b (decide ((m_0.Triangles.length : Int) > 128)), .b (decide ((m_0.Triangles.length : Int) > 128)), .any, .any, .any, .any, .any, .any, .any, .any, .any, .any, .any, .any, .any, .any, .any, .any, .any, .any, .any, .any, .any, .any, .any], []⟩)

def hd_spec_l02Is_1 (m_0 : GMesh) (i_l0 : Int) : St := ⟨[.ref [.sl (m_0.Places.map GVector.cells), .sl (m_0.Triangles.map (cL (cI .i64)))] 0, .any, .any, .i .i64 i_l0, .ref [.sl (m_0.Places.map GVector.cells), .sl (m_0.Triangles.map (cL (cI .i64)))] 0, .ref [.sl (m_0.Places.map GVector.cells), .sl (m_0.Triangles.map (cL (cI .i64)))] 0, .ref [.sl (m_0.Places.map GVector.cells), .sl (m_0.Triangles.map (cL (cI .i64)))] 0, .sl (m_0.Places.map GVector.cells), .i .i64 (m_0.Places.length : Int), .b (decide ((m_0.Places.length : Int) > 64)), .b (decide ((m_0.Places.length : Int) > 64)), .ref [.sl (m_0.Places.map GVector.cells), .sl (m_0.Triangles.map (cL (cI .i64)))] 0, .ref [.sl (m_0.Places.map GVector.cells), .sl (m_0.Triangles.map (cL (cI .i64)))] 0, .ref [.sl (m_0.Places.map GVector.cells), .sl (m_0.Triangles.map (cL (cI .i64)))] 1, .sl (m_0.Triangles.map (cL (cI .i64))), .i .i64 (m_0.Triangles.length : Int), .b (decide ((m_0.Triangles.length : Int) > 128)), .b (decide ((m_0.Triangles.length : Int) > 128)), .any, .any, .any, .any, .any, .any, .any, .any, .any, .any, .any, .any, .any, .any, .any, .any, .any, .any, .any, .any, .any, .any, .any], []⟩

def mk_spec_l02Is_1_0 : List Bool := [true, false, false, true, true, true, true, true, true, true, true, true, true, true, true, true, true, true, false, false, false, false, false, false, false, false, false, false, false, false, false, false, false, false, false, false, false, false, false, false, false]

def mk_spec_l02Is_1_1 : List Bool := [false, false, true, false, false, false, false, false, false, false, false, false, false, false, false, false, false, false, false, false, false, false, false, false, false, false, false, false, false, false, false, false, false, false, false, false, false, false, false, false, false]

def mk_spec_l02Is_1_2 : List Bool := [true, false, false, false, true, true, true, true, true, true, true, true, true, true, true, true, true, true, false, false, false, false, false, false, false, false, false, false, false, false, false, false, false, false, false, false, false, false, false, false, false]

theorem lp_spec_l02Is_1 (m_0 : GMesh) (hp0 : m_0.Places.length ≤ 1073741824) (hp1 : m_0.Triangles.length ≤ 1073741824) (hp2 : ∀ t ∈ m_0.Triangles, t.length ≤ 1073741824) (hf_spec_l02Is_1_0 : (decide ((m_0.Places.length : Int) > 64)) = false) (hf_spec_l02Is_1_1 : (decide ((m_0.Triangles.length : Int) > 128)) = false) : ∀ (k : Nat) (i_l0 : Int) (hv_spec_l02Is_1_0 : 0 ≤ i_l0) (hk : ((m_0.Triangles.length : Int) - i_l0).toNat < k), Lp prog 0 (sub (bodyOf f97) [1, 1, 0, 1, 0, 0]) (hd_spec_l02Is_1 m_0 i_l0) (ls_spec_l02Is_1 m_0 (lo_spec_l02Is_1 m_0 k i_l0)).1 (ls_spec_l02Is_1 m_0 (lo_spec_l02Is_1 m_0 k i_l0)).2 := by
 intro k
 induction k with
 | zero => intro i_l0 hv_spec_l02Is_1_0 hk; exact absurd hk (Nat.not_lt_zero _)
 | succ k ih =>
  intro i_l0 hv_spec_l02Is_1_0 hk
  have p {a C} (s : Scr a C) := sZ (cL (cI .i64)) m_0.Triangles <| s
  cases h_0 : (decide (i_l0 < (m_0.Triangles.length : Int))) with
  | true =>
   have gh_0 := of_decide_eq_true h_0
   have y_0 : (0 : Int) ≤ i_l0 := by clear p; exact (by first | assumption | omega | (simp_all <;> omega))
   have y_1 : i_l0 < (m_0.Triangles.length : Int) := by clear p; exact (by first | assumption | omega | (simp_all <;> omega))
   have y_2 : (m_0.Triangles.getD i_l0.toNat default).length ≤ 1073741824 := by clear p; exact (by first | assumption | omega | (simp_all <;> omega))
   have q {a C} (s : Scr a C) := p (sB h_0 <| sK [12, 12] <| sG (cL (cI .i64)) m_0.Triangles i_l0 y_0 y_1 <| sZ GVector.cells m_0.Places <| sF (t_spec_l02Triangle (m_0.Triangles.getD i_l0.toNat default) (m_0.Places.length : Int) y_2) <| s)
   clear p
   cases h_1 : (v_spec_l02Triangle (m_0.Triangles.getD i_l0.toNat default) (m_0.Places.length : Int)) with
   | true =>
    have y_3 : (-9223372036854775808 : Int) ≤ (i_l0 + 1) := by clear q; exact (by first | assumption | omega | (simp_all <;> omega))
    have y_4 : (i_l0 + 1) ≤ (9223372036854775807 : Int) := by clear q; exact (by first | assumption | omega | (simp_all <;> omega))
    have e : lo_spec_l02Is_1 m_0 (k + 1) i_l0 = (lo_spec_l02Is_1 m_0 k (i_l0 + 1)) := by simp only [lo_spec_l02Is_1, h_0, h_1, cond_true]
    rw [e]
    exact nextR E0Ok hMixed [] mk_spec_l02Is_1_0 [] (ih (i_l0 + 1) (show 0 ≤ (i_l0 + 1) from (by first | assumption | omega | (simp_all <;> omega))) (by first | assumption | omega | (simp_all <;> omega))) (q (sB' h_1 <| sI (i_l0 + 1) y_3 y_4 <| sN)) (by kernel_rfl)
   | false =>
    have e : lo_spec_l02Is_1 m_0 (k + 1) i_l0 = (.inl ()) := by simp only [lo_spec_l02Is_1, h_0, h_1, cond_true, cond_false]
    rw [e]
    exact outR (e := .ret) E0Ok hMixed [] mk_spec_l02Is_1_1 [] (q (sB' h_1 <| sN)) (by kernel_rfl) (by intro h; cases h)
  | false =>
   have gh_0 := of_decide_eq_false h_0
   have e : lo_spec_l02Is_1 m_0 (k + 1) i_l0 = (.inr ()) := by simp only [lo_spec_l02Is_1, h_0, cond_false]
   rw [e]
   exact outR (e := (.exit 0)) E0Ok hMixed [] mk_spec_l02Is_1_2 [] (p (sB h_0 <| sN)) (by kernel_rfl) (by intro h; cases h)

def lr_spec_l02Is_1_0 (m_0 : GMesh) : (Unit) ⊕ (Unit) := (lo_spec_l02Is_1 m_0 (((m_0.Triangles.length : Int) - 0).toNat + 1) 0)

def v_spec_l02Is (m_0 : GMesh) : Bool := (cond (decide ((m_0.Places.length : Int) > 64))
  false
  (cond (decide ((m_0.Triangles.length : Int) > 128))
    false
    (match (lr_spec_l02Is_1_0 m_0) with
      | .inl r3 => false
      | .inr r3 => true)))

theorem t_spec_l02Is (m_0 : GMesh) (hp0 : m_0.Places.length ≤ 1073741824) (hp1 : m_0.Triangles.length ≤ 1073741824) (hp2 : ∀ t ∈ m_0.Triangles, t.length ≤ 1073741824)  : Fn prog 97 [.ref [.sl (m_0.Places.map GVector.cells), .sl (m_0.Triangles.map (cL (cI .i64)))] 0] (.b (v_spec_l02Is m_0)) [] := by
 have p {a C} (s : Scr a C) := sZ GVector.cells m_0.Places <| s
 cases h0 : (decide ((m_0.Places.length : Int) > 64)) with
 | true =>
  have gh0 := of_decide_eq_true h0
  refine fnS E0Ok hMixed (c := bodyOf f97) [] (.b false) [] func97 (p (sB h0 <| sB h0 <| sB h0 <| sB h0 <| sB h0 <| sB h0 <| sB h0 <| sB (show true = true from rfl) <| sK [] sN)) rfl (by kernel_rfl) (by kernel_rfl) rfl ?_ ?_
  · simp only [v_spec_l02Is, h0, cond_true]
  · rfl
 | false =>
  have gh0 := of_decide_eq_false h0
  have q {a C} (s : Scr a C) := p (sB h0 <| sB h0 <| sB h0 <| sB h0 <| sB h0 <| sZ (cL (cI .i64)) m_0.Triangles <| sB h0 <| sB h0 <| s)
  clear p
  cases h1 : (decide ((m_0.Triangles.length : Int) > 128)) with
  | true =>
   have gh1 := of_decide_eq_true h1
   refine fnS E0Ok hMixed (c := bodyOf f97) [] (.b false) [] func97 (q (sB h1 <| sK [] sN)) rfl (by kernel_rfl) (by kernel_rfl) rfl ?_ ?_
   · simp only [v_spec_l02Is, h0, h1, cond_true, cond_false]
   · rfl
  | false =>
   have gh1 := of_decide_eq_false h1
   have p {a C} (s : Scr a C) := q (sB h1 <| s)
   clear q
   cases h2 : (lr_spec_l02Is_1_0 m_0) with
   | inl r3 =>
    refine fnS E0Ok hMixed (c := bodyOf f97) [] (.b false) [] func97 (p (sL mk_spec_l02Is_1_0 0 (lp_val (ls_spec_l02Is_1 m_0) (x := (lr_spec_l02Is_1_0 m_0)) (lp_spec_l02Is_1 m_0 hp0 hp1 hp2 h0 h1 (((m_0.Triangles.length : Int) - 0).toNat + 1) 0 (show 0 ≤ 0 from (by first | assumption | omega | (simp_all <;> omega))) (Nat.lt_succ_self _)) h2) <| sK [] sN)) rfl (by kernel_rfl) (by kernel_rfl) rfl ?_ ?_
    · simp only [v_spec_l02Is, h0, h1, h2, cond_false]
    · rfl
   | inr r3 =>
    refine fnS E0Ok hMixed (c := bodyOf f97) [] (.b true) [] func97 (p (sL mk_spec_l02Is_1_0 0 (lp_val (ls_spec_l02Is_1 m_0) (x := (lr_spec_l02Is_1_0 m_0)) (lp_spec_l02Is_1 m_0 hp0 hp1 hp2 h0 h1 (((m_0.Triangles.length : Int) - 0).toNat + 1) 0 (show 0 ≤ 0 from (by first | assumption | omega | (simp_all <;> omega))) (Nat.lt_succ_self _)) h2) <| sK [] sN)) rfl (by kernel_rfl) (by kernel_rfl) rfl ?_ ?_
    · simp only [v_spec_l02Is, h0, h1, h2, cond_false]
    · rfl

theorem l02Is_eq (m : GMesh) : v_spec_l02Is m = cond (decide ((m.Places.length : Int) > 64)) false (cond (decide ((m.Triangles.length : Int) > 128)) false (m.Triangles.all fun t => v_spec_l02Triangle t (m.Places.length : Int))) := by
  unfold v_spec_l02Is lr_spec_l02Is_1_0
  rw [all_from (a := m.Triangles) (p := fun t => v_spec_l02Triangle t (m.Places.length : Int)) (lo := lo_spec_l02Is_1 m) (x := ()) (y := ()) (fun k i => rfl)]
  cases (m.Triangles.all fun t => v_spec_l02Triangle t (m.Places.length : Int)) <;> rfl
theorem tri_ok {t : List Int} {n : Int} (h0 : 0 ≤ n) (h1 : n ≤ 64) (h : v_spec_l02Triangle t n = true) : t.length = 3 ∧ ∀ x ∈ t, 0 ≤ x ∧ x < n := by
  unfold v_spec_l02Triangle at h
  rw [wrap_sub (by omega) (by omega)] at h
  cases hl : ((t.length : Int) != 3) with
  | true => rw [hl] at h; cases h
  | false =>
    rw [hl, cond_false] at h
    have hl3 : t.length = 3 := by simp at hl; omega
    match t, hl3 with
    | [a, b, c], _ =>
      refine ⟨rfl, ?_⟩
      simp only [List.getD_cons_zero, List.getD_cons_succ, v_spec_l00In] at h
      cases e1 : (a == b) <;> rw [e1] at h <;> (try (cases h; done))
      cases e2 : (b == c) <;> rw [e2] at h <;> (try (cases h; done))
      cases e3 : (a == c) <;> rw [e3] at h <;> (try (cases h; done))
      simp only [cond_false] at h
      cases f1 : decide (a ≥ 0) <;> rw [f1] at h <;> (try (cases h; done))
      cases f2 : decide (a ≤ n - 1) <;> rw [f2] at h <;> (try (cases h; done))
      cases f3 : decide (b ≥ 0) <;> rw [f3] at h <;> (try (cases h; done))
      cases f4 : decide (b ≤ n - 1) <;> rw [f4] at h <;> (try (cases h; done))
      cases f5 : decide (c ≥ 0) <;> rw [f5] at h <;> (try (cases h; done))
      simp only [cond_true, decide_eq_true_eq] at h f1 f2 f3 f4 f5
      intro x hx
      simp only [List.mem_cons, List.not_mem_nil, or_false] at hx
      rcases hx with rfl | rfl | rfl <;> omega
theorem okTris_is (m : GMesh) (h : v_spec_l02Is m = true) : OkTris m.Places.length m.Triangles := by
  rw [l02Is_eq] at h
  cases h1 : decide ((m.Places.length : Int) > 64) <;> rw [h1] at h <;> (try (cases h; done))
  cases h2 : decide ((m.Triangles.length : Int) > 128) <;> rw [h2] at h <;> (try (cases h; done))
  simp only [cond_false, List.all_eq_true, decide_eq_false_iff_not] at h h1
  intro t ht
  exact tri_ok (by omega) (by omega) (h t ht)

def v_spec_l03Spring (x_0 : GSpring) (n_1 : Int) : Bool := (cond (v_spec_l00In x_0.A 0 (IntKind.wrap .i64 (n_1 - 1)))
  (cond (v_spec_l00In x_0.B 0 (IntKind.wrap .i64 (n_1 - 1)))
    (cond (x_0.A != x_0.B)
      (fcmp .geq .f32 x_0.Long 0)
      false)
    false)
  false)

theorem t_spec_l03Spring (x_0 : GSpring) (n_1 : Int)   : Fn prog 170 [.ref [.i .i64 x_0.A, .i .i64 x_0.B, .f .f32 x_0.Long, .f .f32 x_0.Stiff] 0, .i .i64 n_1] (.b (v_spec_l03Spring x_0 n_1)) [] := by
 have p {a C} (s : Scr a C) := sK [25, 25] <| sW .i64 (n_1 - 1) <| sF (t_spec_l00In x_0.A 0 (IntKind.wrap .i64 (n_1 - 1))) <| s
 cases h0 : (v_spec_l00In x_0.A 0 (IntKind.wrap .i64 (n_1 - 1))) with
 | true =>
  have q {a C} (s : Scr a C) := p (sB h0 <| sB h0 <| sB h0 <| sB h0 <| sB h0 <| sB h0 <| sW .i64 (n_1 - 1) <| sB h0 <| sF (t_spec_l00In x_0.B 0 (IntKind.wrap .i64 (n_1 - 1))) <| sB h0 <| s)
  clear p
  cases h1 : (v_spec_l00In x_0.B 0 (IntKind.wrap .i64 (n_1 - 1))) with
  | true =>
   have p {a C} (s : Scr a C) := q (sB h1 <| sB h1 <| sB h1 <| sB h1 <| sB h1 <| sB h1 <| sB h1 <| sB h1 <| sB h1 <| sB h1 <| s)
   clear q
   cases h2 : (x_0.A != x_0.B) with
   | true =>
    have gh2 := bne_iff_ne.1 h2
    refine fnS E0Ok hMixed (c := bodyOf f170) [] (.b (fcmp .geq .f32 x_0.Long 0)) [] func170 (p (sB h2 <| sB h2 <| sB h2 <| sB h2 <| sB h2 <| sB h2 <| sK [] sN)) rfl (by kernel_rfl) (by kernel_rfl) rfl ?_ ?_
    · simp only [v_spec_l03Spring, h0, h1, h2, cond_true]
    · rfl
   | false =>
    have gh2 := bne_eq_false_iff_eq.1 h2
    refine fnS E0Ok hMixed (c := bodyOf f170) [] (.b false) [] func170 (p (sB h2 <| sB h2 <| sB h2 <| sB h2 <| sB h2 <| sB h2 <| sK [] sN)) rfl (by kernel_rfl) (by kernel_rfl) rfl ?_ ?_
    · simp only [v_spec_l03Spring, h0, h1, h2, cond_true, cond_false]
    · rfl
  | false =>
   refine fnS E0Ok hMixed (c := bodyOf f170) [] (.b false) [] func170 (q (sB h1 <| sB h1 <| sB h1 <| sB h1 <| sB h1 <| sB h1 <| sB h1 <| sB h1 <| sB h1 <| sB h1 <| sB (show false = false from rfl) <| sB (show false = false from rfl) <| sB (show false = false from rfl) <| sB (show false = false from rfl) <| sB (show false = false from rfl) <| sB (show false = false from rfl) <| sK [] sN)) rfl (by kernel_rfl) (by kernel_rfl) rfl ?_ ?_
   · simp only [v_spec_l03Spring, h0, h1, cond_true, cond_false]
   · rfl
 | false =>
  refine fnS E0Ok hMixed (c := bodyOf f170) [] (.b false) [] func170 (p (sB h0 <| sB h0 <| sB h0 <| sB h0 <| sB h0 <| sB h0 <| sB h0 <| sB h0 <| sB (show false = false from rfl) <| sB (show false = false from rfl) <| sB (show false = false from rfl) <| sB (show false = false from rfl) <| sB (show false = false from rfl) <| sB (show false = false from rfl) <| sB (show false = false from rfl) <| sB (show false = false from rfl) <| sB (show false = false from rfl) <| sB (show false = false from rfl) <| sB (show false = false from rfl) <| sB (show false = false from rfl) <| sB (show false = false from rfl) <| sB (show false = false from rfl) <| sB (show false = false from rfl) <| sB (show false = false from rfl) <| sK [] sN)) rfl (by kernel_rfl) (by kernel_rfl) rfl ?_ ?_
  · simp only [v_spec_l03Spring, h0, cond_false]
  · rfl

def lo_spec_l03Is_1 (b_0 : GBody) : Nat → Int → (Unit) ⊕ (Unit)
  | 0, _ => .inl default
  | k + 1, x_l0 => (cond (decide (x_l0 < (b_0.Springs.length : Int)))
    (cond (v_spec_l03Spring (b_0.Springs.getD x_l0.toNat default) (b_0.Mesh.Places.length : Int))
      (lo_spec_l03Is_1 b_0 k (x_l0 + 1))
      (.inl ()))
    (.inr ()))

def ls_spec_l03Is_1 (b_0 : GBody) : (Unit) ⊕ (Unit) → Ex × St
  | .inl r => (.ret, ⟨[.any, .any, .b false, .any, .any, .any, .any, .any, .any, .any, .any, .any, .any, .any, .any, .any, .any, .any, .any, .any, .any, .any, .any, .any, .any, .any, .any, .any, .any, .any, .any, .any, .any, .any, .any, .any, .any, .any, .any, .any, .any, .any, .any, .any, .any, .any, .any, .any, .any, .any, .any, .any, .any, .any], []⟩)
  | .inr r => ((.exit 0), ⟨[.ref [.sl (b_0.Mesh.Places.map GVector.cells), .sl (b_0.Mesh.Triangles.map (cL (cI .i64))), .sl (b_0.Springs.map GSpring.cells), .f .f32 b_0.Film, .f .f32 b_0.Bend, .sl (b_0.Weights.map (cF .f32)), .f .f32 b_0.Fall.X, .f .f32 b_0.Fall.Y, .f .f32 b_0.Fall.Z] 0, .any, .any, .any, .ref [.sl (b_0.Mesh.Places.map GVector.cells), .sl (b_0.Mesh.Triangles.map (cL (cI .i64))), .sl (b_0.Springs.map GSpring.cells), .f .f32 b_0.Film, .f .f32 b_0.Bend, .sl (b_0.Weights.map (cF .f32)), .f .f32 b_0.Fall.X, .f .f32 b_0.Fall.Y, .f .f32 b_0.Fall.Z] 0, .ref [.sl (b_0.Mesh.Places.map GVector.cells), .sl (b_0.Mesh.Triangles.map (cL (cI .i64))), .sl (b_0.Springs.map GSpring.cells), .f .f32 b_0.Film, .f .f32 b_0.Bend, .sl (b_0.Weights.map (cF .f32)), .f .f32 b_0.Fall.X, .f .f32 b_0.Fall.Y, .f .f32 b_0.Fall.Z] 0, .ref [.sl (b_0.Mesh.Places.map GVector.cells), .sl (b_0.Mesh.Triangles.map (cL (cI .i64))), .sl (b_0.Springs.map GSpring.cells), .f .f32 b_0.Film, .f .f32 b_0.Bend, .sl (b_0.Weights.map (cF .f32)), .f .f32 b_0.Fall.X, .f .f32 b_0.Fall.Y, .f .f32 b_0.Fall.Z] 0, .b (v_spec_l02Is b_0.Mesh), .b (!(v_spec_l02Is b_0.Mesh)), .b (!(v_spec_l02Is b_0.Mesh)), .ref [.sl (b_0.Mesh.Places.map GVector.cells), .sl (b_0.Mesh.Triangles.map (cL (cI .i64))), .sl (b_0.Springs.map GSpring.cells), .f .f32 b_0.Film, .f .f32 b_0.Bend, .sl (b_0.Weights.map (cF .f32)), .f .f32 b_0.Fall.X, .f .f32 b_0.Fall.Y, .f .f32 b_0.Fall.Z] 0, .ref [.sl (b_0.Mesh.Places.map GVector.cells), .sl (b_0.Mesh.Triangles.map (cL (cI .i64))), .sl (b_0.Springs.map GSpring.cells), .f .f32 b_0.Film, .f .f32 b_0.Bend, .sl (b_0.Weights.map (cF .f32)), .f .f32 b_0.Fall.X, .f .f32 b_0.Fall.Y, .f .f32 b_0.Fall.Z] 0, .ref [.sl (b_0.Mesh.Places.map GVector.cells), .sl (b_0.Mesh.Triangles.map (cL (cI .i64))), .sl (b_0.Springs.map GSpring.cells), .f .f32 b_0.Film, .f .f32 b_0.Bend, .sl (b_0.Weights.map (cF .f32)), .f .f32 b_0.Fall.X, .f .f32 b_0.Fall.Y, .f .f32 b_0.Fall.Z] 2, .sl (b_0.Springs.map GSpring.cells), .i .i64 (b_0.Springs.length : Int), .b (decide ((b_0.Springs.length : Int) > 200)), .b (decide ((b_0.Springs.length : Int) > 200)), .b (decide ((b_0.Springs.length : Int) > 200)), .ref [.sl (b_0.Mesh.Places.map GVector.cells), .sl (b_0.Mesh.Triangles.map (cL (cI .i64))), .sl (b_0.Springs.map GSpring.cells), .f .f32 b_0.Film, .f .f32 b_0.Bend, .sl (b_0.Weights.map (cF .f32)), .f .f32 b_0.Fall.X, .f .f32 b_0.Fall.Y, .f .f32 b_0.Fall.Z] 0, .ref [.sl (b_0.Mesh.Places.map GVector.cells), .sl (b_0.Mesh.Triangles.map (cL (cI .i64))), .sl (b_0.Springs.map GSpring.cells), .f .f32 b_0.Film, .f .f32 b_0.Bend, .sl (b_0.Weights.map (cF .f32)), .f .f32 b_0.Fall.X, .f .f32 b_0.Fall.Y, .f .f32 b_0.Fall.Z] 0, .ref [.sl (b_0.Mesh.Places.map GVector.cells), .sl (b_0.Mesh.Triangles.map (cL (cI .i64))), .sl (b_0.Springs.map GSpring.cells), .f .f32 b_0.Film, .f .f32 b_0.Bend, .sl (b_0.Weights.map (cF .f32)), .f .f32 b_0.Fall.X, .f .f32 b_0.Fall.Y, .f .f32 b_0.Fall.Z] 5, .sl (b_0.Weights.map (cF .f32)), .i .i64 (b_0.Weights.length : Int), .ref [.sl (b_0.Mesh.Places.map GVector.cells), .sl (b_0.Mesh.Triangles.map (cL (cI .i64))), .sl (b_0.Springs.map GSpring.cells), .f .f32 b_0.Film, .f .f32 b_0.Bend, .sl (b_0.Weights.map (cF .f32)), .f .f32 b_0.Fall.X, .f .f32 b_0.Fall.Y, .f .f32 b_0.Fall.Z] 0, .ref [.sl (b_0.Mesh.Places.map GVector.cells), .sl (b_0.Mesh.Triangles.map (cL (cI .i64))), .sl (b_0.Springs.map GSpring.cells), .f .f32 b_0.Film, .f .f32 b_0.Bend, .sl (b_0.Weights.map (cF .f32)), .f .f32 b_0.Fall.X, .f .f32 b_0.Fall.Y, .f .f32 b_0.Fall.Z] 0, .ref [.sl (b_0.Mesh.Places.map GVector.cells), .sl (b_0.Mesh.Triangles.map (cL (cI .i64))), .sl (b_0.Springs.map GSpring.cells), .f .f32 b_0.Film, .f .f32 b_0.Bend, .sl (b_0.Weights.map (cF .f32)), .f .f32 b_0.Fall.X, .f .f32 b_0.Fall.Y, .f .f32 b_0.Fall.Z] 0, .ref [.sl (b_0.Mesh.Places.map GVector.cells), .sl (b_0.Mesh.Triangles.map (cL (cI .i64))), .sl (b_0.Springs.map GSpring.cells), .f .f32 b_0.Film, .f .f32 b_0.Bend, .sl (b_0.Weights.map (cF .f32)), .f .f32 b_0.Fall.X, .f .f32 b_0.Fall.Y, .f .f32 b_0.Fall.Z] 0, .sl (b_0.Mesh.Places.map GVector.cells), .i .i64 (b_0.Mesh.Places.length : Int), .b ((b_0.Weights.length : Int) != (b_0.Mesh.Places.length : Int)), .b ((b_0.Weights.length : Int) != (b_0.Mesh.Places.length : Int)), .ref [.sl (b_0.Mesh.Places.map GVector.cells), .sl (b_0.Mesh.Triangles.map (cL (cI .i64))), .sl (b_0.Springs.map GSpring.cells), .f .f32 b_0.Film, .f .f32 b_0.Bend, .sl (b_0.Weights.map (cF .f32)), .f .f32 b_0.Fall.X, .f .f32 b_0.Fall.Y, .f .f32 b_0.Fall.Z] 0, .ref [.sl (b_0.Mesh.Places.map GVector.cells), .sl (b_0.Mesh.Triangles.map (cL (cI .i64))), .sl (b_0.Springs.map GSpring.cells), .f .f32 b_0.Film, .f .f32 b_0.Bend, .sl (b_0.Weights.map (cF .f32)), .f .f32 b_0.Fall.X, .f .f32 b_0.Fall.Y, .f .f32 b_0.Fall.Z] 0, .ref [.sl (b_0.Mesh.Places.map GVector.cells), .sl (b_0.Mesh.Triangles.map (cL (cI .i64))), .sl (b_0.Springs.map GSpring.cells), .f .f32 b_0.Film, .f .f32 b_0.Bend, .sl (b_0.Weights.map (cF .f32)), .f .f32 b_0.Fall.X, .f .f32 b_0.Fall.Y, .f .f32 b_0.Fall.Z] 2, .sl (b_0.Springs.map GSpring.cells), .any, .any, .any, .any, .any, .any, .any, .any, .any, .any, .any, .any, .any, .any, .any, .any, .any, .any, .any], []⟩)

def hd_spec_l03Is_1 (b_0 : GBody) (x_l0 : Int) : St := ⟨[.ref [.sl (b_0.Mesh.Places.map GVector.cells), .sl (b_0.Mesh.Triangles.map (cL (cI .i64))), .sl (b_0.Springs.map GSpring.cells), .f .f32 b_0.Film, .f .f32 b_0.Bend, .sl (b_0.Weights.map (cF .f32)), .f .f32 b_0.Fall.X, .f .f32 b_0.Fall.Y, .f .f32 b_0.Fall.Z] 0, .any, .any, .any, .ref [.sl (b_0.Mesh.Places.map GVector.cells), .sl (b_0.Mesh.Triangles.map (cL (cI .i64))), .sl (b_0.Springs.map GSpring.cells), .f .f32 b_0.Film, .f .f32 b_0.Bend, .sl (b_0.Weights.map (cF .f32)), .f .f32 b_0.Fall.X, .f .f32 b_0.Fall.Y, .f .f32 b_0.Fall.Z] 0, .ref [.sl (b_0.Mesh.Places.map GVector.cells), .sl (b_0.Mesh.Triangles.map (cL (cI .i64))), .sl (b_0.Springs.map GSpring.cells), .f .f32 b_0.Film, .f .f32 b_0.Bend, .sl (b_0.Weights.map (cF .f32)), .f .f32 b_0.Fall.X, .f .f32 b_0.Fall.Y, .f .f32 b_0.Fall.Z] 0, .ref [.sl (b_0.Mesh.Places.map GVector.cells), .sl (b_0.Mesh.Triangles.map (cL (cI .i64))), .sl (b_0.Springs.map GSpring.cells), .f .f32 b_0.Film, .f .f32 b_0.Bend, .sl (b_0.Weights.map (cF .f32)), .f .f32 b_0.Fall.X, .f .f32 b_0.Fall.Y, .f .f32 b_0.Fall.Z] 0, .b (v_spec_l02Is b_0.Mesh), .b (!(v_spec_l02Is b_0.Mesh)), .b (!(v_spec_l02Is b_0.Mesh)), .ref [.sl (b_0.Mesh.Places.map GVector.cells), .sl (b_0.Mesh.Triangles.map (cL (cI .i64))), .sl (b_0.Springs.map GSpring.cells), .f .f32 b_0.Film, .f .f32 b_0.Bend, .sl (b_0.Weights.map (cF .f32)), .f .f32 b_0.Fall.X, .f .f32 b_0.Fall.Y, .f .f32 b_0.Fall.Z] 0, .ref [.sl (b_0.Mesh.Places.map GVector.cells), .sl (b_0.Mesh.Triangles.map (cL (cI .i64))), .sl (b_0.Springs.map GSpring.cells), .f .f32 b_0.Film, .f .f32 b_0.Bend, .sl (b_0.Weights.map (cF .f32)), .f .f32 b_0.Fall.X, .f .f32 b_0.Fall.Y, .f .f32 b_0.Fall.Z] 0, .ref [.sl (b_0.Mesh.Places.map GVector.cells), .sl (b_0.Mesh.Triangles.map (cL (cI .i64))), .sl (b_0.Springs.map GSpring.cells), .f .f32 b_0.Film, .f .f32 b_0.Bend, .sl (b_0.Weights.map (cF .f32)), .f .f32 b_0.Fall.X, .f .f32 b_0.Fall.Y, .f .f32 b_0.Fall.Z] 2, .sl (b_0.Springs.map GSpring.cells), .i .i64 (b_0.Springs.length : Int), .b (decide ((b_0.Springs.length : Int) > 200)), .b (decide ((b_0.Springs.length : Int) > 200)), .b (decide ((b_0.Springs.length : Int) > 200)), .ref [.sl (b_0.Mesh.Places.map GVector.cells), .sl (b_0.Mesh.Triangles.map (cL (cI .i64))), .sl (b_0.Springs.map GSpring.cells), .f .f32 b_0.Film, .f .f32 b_0.Bend, .sl (b_0.Weights.map (cF .f32)), .f .f32 b_0.Fall.X, .f .f32 b_0.Fall.Y, .f .f32 b_0.Fall.Z] 0, .ref [.sl (b_0.Mesh.Places.map GVector.cells), .sl (b_0.Mesh.Triangles.map (cL (cI .i64))), .sl (b_0.Springs.map GSpring.cells), .f .f32 b_0.Film, .f .f32 b_0.Bend, .sl (b_0.Weights.map (cF .f32)), .f .f32 b_0.Fall.X, .f .f32 b_0.Fall.Y, .f .f32 b_0.Fall.Z] 0, .ref [.sl (b_0.Mesh.Places.map GVector.cells), .sl (b_0.Mesh.Triangles.map (cL (cI .i64))), .sl (b_0.Springs.map GSpring.cells), .f .f32 b_0.Film, .f .f32 b_0.Bend, .sl (b_0.Weights.map (cF .f32)), .f .f32 b_0.Fall.X, .f .f32 b_0.Fall.Y, .f .f32 b_0.Fall.Z] 5, .sl (b_0.Weights.map (cF .f32)), .i .i64 (b_0.Weights.length : Int), .ref [.sl (b_0.Mesh.Places.map GVector.cells), .sl (b_0.Mesh.Triangles.map (cL (cI .i64))), .sl (b_0.Springs.map GSpring.cells), .f .f32 b_0.Film, .f .f32 b_0.Bend, .sl (b_0.Weights.map (cF .f32)), .f .f32 b_0.Fall.X, .f .f32 b_0.Fall.Y, .f .f32 b_0.Fall.Z] 0, .ref [.sl (b_0.Mesh.Places.map GVector.cells), .sl (b_0.Mesh.Triangles.map (cL (cI .i64))), .sl (b_0.Springs.map GSpring.cells), .f .f32 b_0.Film, .f .f32 b_0.Bend, .sl (b_0.Weights.map (cF .f32)), .f .f32 b_0.Fall.X, .f .f32 b_0.Fall.Y, .f .f32 b_0.Fall.Z] 0, .ref [.sl (b_0.Mesh.Places.map GVector.cells), .sl (b_0.Mesh.Triangles.map (cL (cI .i64))), .sl (b_0.Springs.map GSpring.cells), .f .f32 b_0.Film, .f .f32 b_0.Bend, .sl (b_0.Weights.map (cF .f32)), .f .f32 b_0.Fall.X, .f .f32 b_0.Fall.Y, .f .f32 b_0.Fall.Z] 0, .ref [.sl (b_0.Mesh.Places.map GVector.cells), .sl (b_0.Mesh.Triangles.map (cL (cI .i64))), .sl (b_0.Springs.map GSpring.cells), .f .f32 b_0.Film, .f .f32 b_0.Bend, .sl (b_0.Weights.map (cF .f32)), .f .f32 b_0.Fall.X, .f .f32 b_0.Fall.Y, .f .f32 b_0.Fall.Z] 0, .sl (b_0.Mesh.Places.map GVector.cells), .i .i64 (b_0.Mesh.Places.length : Int), .b ((b_0.Weights.length : Int) != (b_0.Mesh.Places.length : Int)), .b ((b_0.Weights.length : Int) != (b_0.Mesh.Places.length : Int)), .ref [.sl (b_0.Mesh.Places.map GVector.cells), .sl (b_0.Mesh.Triangles.map (cL (cI .i64))), .sl (b_0.Springs.map GSpring.cells), .f .f32 b_0.Film, .f .f32 b_0.Bend, .sl (b_0.Weights.map (cF .f32)), .f .f32 b_0.Fall.X, .f .f32 b_0.Fall.Y, .f .f32 b_0.Fall.Z] 0, .ref [.sl (b_0.Mesh.Places.map GVector.cells), .sl (b_0.Mesh.Triangles.map (cL (cI .i64))), .sl (b_0.Springs.map GSpring.cells), .f .f32 b_0.Film, .f .f32 b_0.Bend, .sl (b_0.Weights.map (cF .f32)), .f .f32 b_0.Fall.X, .f .f32 b_0.Fall.Y, .f .f32 b_0.Fall.Z] 0, .ref [.sl (b_0.Mesh.Places.map GVector.cells), .sl (b_0.Mesh.Triangles.map (cL (cI .i64))), .sl (b_0.Springs.map GSpring.cells), .f .f32 b_0.Film, .f .f32 b_0.Bend, .sl (b_0.Weights.map (cF .f32)), .f .f32 b_0.Fall.X, .f .f32 b_0.Fall.Y, .f .f32 b_0.Fall.Z] 2, .sl (b_0.Springs.map GSpring.cells), .i .i64 (b_0.Springs.length : Int), .i .i64 x_l0, .any, .any, .any, .any, .any, .any, .any, .any, .any, .any, .any, .any, .any, .any, .any, .any, .any], []⟩

def mk_spec_l03Is_1_0 : List Bool := [true, false, false, false, true, true, true, true, true, true, true, true, true, true, true, true, true, true, true, true, true, true, true, true, true, true, true, true, true, true, true, true, true, true, true, true, true, false, false, false, false, false, false, false, false, false, false, false, false, false, false, false, false, false]

def mk_spec_l03Is_1_1 : List Bool := [false, false, true, false, false, false, false, false, false, false, false, false, false, false, false, false, false, false, false, false, false, false, false, false, false, false, false, false, false, false, false, false, false, false, false, false, false, false, false, false, false, false, false, false, false, false, false, false, false, false, false, false, false, false]

def mk_spec_l03Is_1_2 : List Bool := [true, false, false, false, true, true, true, true, true, true, true, true, true, true, true, true, true, true, true, true, true, true, true, true, true, true, true, true, true, true, true, true, true, true, true, false, false, false, false, false, false, false, false, false, false, false, false, false, false, false, false, false, false, false]

theorem lp_spec_l03Is_1 (b_0 : GBody) (hp0 : b_0.Mesh.Places.length ≤ 1073741824) (hp1 : b_0.Mesh.Triangles.length ≤ 1073741824) (hp2 : ∀ t ∈ b_0.Mesh.Triangles, t.length ≤ 1073741824) (hp3 : b_0.Springs.length ≤ 1073741824) (hp4 : b_0.Weights.length ≤ 1073741824) (hf_spec_l03Is_1_0 : ((b_0.Weights.length : Int) != (b_0.Mesh.Places.length : Int)) = false) (hf_spec_l03Is_1_1 : (decide ((b_0.Springs.length : Int) > 200)) = false) (hf_spec_l03Is_1_2 : (v_spec_l02Is b_0.Mesh) = true) : ∀ (k : Nat) (x_l0 : Int) (hv_spec_l03Is_1_0 : 0 ≤ x_l0) (hk : ((b_0.Springs.length : Int) - x_l0).toNat < k), Lp prog 0 (sub (bodyOf f124) [1, 1, 0, 1, 0, 0]) (hd_spec_l03Is_1 b_0 x_l0) (ls_spec_l03Is_1 b_0 (lo_spec_l03Is_1 b_0 k x_l0)).1 (ls_spec_l03Is_1 b_0 (lo_spec_l03Is_1 b_0 k x_l0)).2 := by
 intro k
 induction k with
 | zero => intro x_l0 hv_spec_l03Is_1_0 hk; exact absurd hk (Nat.not_lt_zero _)
 | succ k ih =>
  intro x_l0 hv_spec_l03Is_1_0 hk
  cases h_0 : (decide (x_l0 < (b_0.Springs.length : Int))) with
  | true =>
   have gh_0 := of_decide_eq_true h_0
   have y_0 : (0 : Int) ≤ x_l0 := (by first | assumption | omega | (simp_all <;> omega))
   have y_1 : x_l0 < (b_0.Springs.length : Int) := (by first | assumption | omega | (simp_all <;> omega))
   have p {a C} (s : Scr a C) := sB h_0 <| sK [12, 12] <| sG GSpring.cells b_0.Springs x_l0 y_0 y_1 <| sZ GVector.cells b_0.Mesh.Places <| sF (t_spec_l03Spring (b_0.Springs.getD x_l0.toNat default) (b_0.Mesh.Places.length : Int)) <| s
   cases h_1 : (v_spec_l03Spring (b_0.Springs.getD x_l0.toNat default) (b_0.Mesh.Places.length : Int)) with
   | true =>
    have y_2 : (-9223372036854775808 : Int) ≤ (x_l0 + 1) := by clear p; exact (by first | assumption | omega | (simp_all <;> omega))
    have y_3 : (x_l0 + 1) ≤ (9223372036854775807 : Int) := by clear p; exact (by first | assumption | omega | (simp_all <;> omega))
    have e : lo_spec_l03Is_1 b_0 (k + 1) x_l0 = (lo_spec_l03Is_1 b_0 k (x_l0 + 1)) := by simp only [lo_spec_l03Is_1, h_0, h_1, cond_true]
    rw [e]
    exact nextR E0Ok hMixed [] mk_spec_l03Is_1_0 [] (ih (x_l0 + 1) (show 0 ≤ (x_l0 + 1) from (by first | assumption | omega | (simp_all <;> omega))) (by first | assumption | omega | (simp_all <;> omega))) (p (sB' h_1 <| sI (x_l0 + 1) y_2 y_3 <| sN)) (by kernel_rfl)
   | false =>
    have e : lo_spec_l03Is_1 b_0 (k + 1) x_l0 = (.inl ()) := by simp only [lo_spec_l03Is_1, h_0, h_1, cond_true, cond_false]
    rw [e]
    exact outR (e := .ret) E0Ok hMixed [] mk_spec_l03Is_1_1 [] (p (sB' h_1 <| sN)) (by kernel_rfl) (by intro h; cases h)
  | false =>
   have gh_0 := of_decide_eq_false h_0
   have e : lo_spec_l03Is_1 b_0 (k + 1) x_l0 = (.inr ()) := by simp only [lo_spec_l03Is_1, h_0, cond_false]
   rw [e]
   exact outR (e := (.exit 0)) E0Ok hMixed [] mk_spec_l03Is_1_2 [] (sB h_0 <| sN) (by kernel_rfl) (by intro h; cases h)

def lr_spec_l03Is_1_0 (b_0 : GBody) : (Unit) ⊕ (Unit) := (lo_spec_l03Is_1 b_0 (((b_0.Springs.length : Int) - 0).toNat + 1) 0)

def v_spec_l03Is (b_0 : GBody) : Bool := (cond (v_spec_l02Is b_0.Mesh)
  (cond (decide ((b_0.Springs.length : Int) > 200))
    false
    (cond ((b_0.Weights.length : Int) != (b_0.Mesh.Places.length : Int))
      false
      (match (lr_spec_l03Is_1_0 b_0) with
        | .inl r4 => false
        | .inr r4 => true)))
  false)

theorem t_spec_l03Is (b_0 : GBody) (hp0 : b_0.Mesh.Places.length ≤ 1073741824) (hp1 : b_0.Mesh.Triangles.length ≤ 1073741824) (hp2 : ∀ t ∈ b_0.Mesh.Triangles, t.length ≤ 1073741824) (hp3 : b_0.Springs.length ≤ 1073741824) (hp4 : b_0.Weights.length ≤ 1073741824)  : Fn prog 124 [.ref [.sl (b_0.Mesh.Places.map GVector.cells), .sl (b_0.Mesh.Triangles.map (cL (cI .i64))), .sl (b_0.Springs.map GSpring.cells), .f .f32 b_0.Film, .f .f32 b_0.Bend, .sl (b_0.Weights.map (cF .f32)), .f .f32 b_0.Fall.X, .f .f32 b_0.Fall.Y, .f .f32 b_0.Fall.Z] 0] (.b (v_spec_l03Is b_0)) [] := by
 have p {a C} (s : Scr a C) := sK [25, 25] <| sF (Fn.sub (args := [.ref [.sl (b_0.Mesh.Places.map GVector.cells), .sl (b_0.Mesh.Triangles.map (cL (cI .i64))), .sl (b_0.Springs.map GSpring.cells), .f .f32 b_0.Film, .f .f32 b_0.Bend, .sl (b_0.Weights.map (cF .f32)), .f .f32 b_0.Fall.X, .f .f32 b_0.Fall.Y, .f .f32 b_0.Fall.Z] 0]) (r := .b (v_spec_l02Is b_0.Mesh)) (new := []) [some 2] (t_spec_l02Is b_0.Mesh hp0 hp1 hp2)) <| s
 cases h0 : (v_spec_l02Is b_0.Mesh) with
 | true =>
  have q {a C} (s : Scr a C) := p (sB' h0 <| sB' h0 <| sB' h0 <| sB' h0 <| sB' h0 <| sZ GSpring.cells b_0.Springs <| sB' h0 <| sB' h0 <| s)
  clear p
  cases h1 : (decide ((b_0.Springs.length : Int) > 200)) with
  | true =>
   have gh1 := of_decide_eq_true h1
   refine fnS E0Ok hMixed (c := bodyOf f124) [] (.b false) [] func124 (q (sB h1 <| sB h1 <| sB h1 <| sB h1 <| sB h1 <| sB h1 <| sB h1 <| sB h1 <| sB h1 <| sB h1 <| sB h1 <| sB h1 <| sB h1 <| sB (show true = true from rfl) <| sK [] sN)) rfl (by kernel_rfl) (by kernel_rfl) rfl ?_ ?_
   · simp only [v_spec_l03Is, h0, h1, cond_true]
   · rfl
  | false =>
   have gh1 := of_decide_eq_false h1
   have p {a C} (s : Scr a C) := q (sB h1 <| sB h1 <| sB h1 <| sB h1 <| sB h1 <| sZ (cF .f32) b_0.Weights <| sB h1 <| sB h1 <| sB h1 <| sB h1 <| sB h1 <| sB h1 <| sZ GVector.cells b_0.Mesh.Places <| sB h1 <| sB h1 <| s)
   clear q
   cases h2 : ((b_0.Weights.length : Int) != (b_0.Mesh.Places.length : Int)) with
   | true =>
    have gh2 := bne_iff_ne.1 h2
    refine fnS E0Ok hMixed (c := bodyOf f124) [] (.b false) [] func124 (p (sB h2 <| sK [] sN)) rfl (by kernel_rfl) (by kernel_rfl) rfl ?_ ?_
    · simp only [v_spec_l03Is, h0, h1, h2, cond_true, cond_false]
    · rfl
   | false =>
    have gh2 := bne_eq_false_iff_eq.1 h2
    have q {a C} (s : Scr a C) := p (sB h2 <| sZ GSpring.cells b_0.Springs <| s)
    clear p
    cases h3 : (lr_spec_l03Is_1_0 b_0) with
    | inl r4 =>
     refine fnS E0Ok hMixed (c := bodyOf f124) [] (.b false) [] func124 (q (sL mk_spec_l03Is_1_0 0 (lp_val (ls_spec_l03Is_1 b_0) (x := (lr_spec_l03Is_1_0 b_0)) (lp_spec_l03Is_1 b_0 hp0 hp1 hp2 hp3 hp4 h2 h1 h0 (((b_0.Springs.length : Int) - 0).toNat + 1) 0 (show 0 ≤ 0 from (by first | assumption | omega | (simp_all <;> omega))) (Nat.lt_succ_self _)) h3) <| sK [] sN)) rfl (by kernel_rfl) (by kernel_rfl) rfl ?_ ?_
     · simp only [v_spec_l03Is, h0, h1, h2, h3, cond_true, cond_false]
     · rfl
    | inr r4 =>
     refine fnS E0Ok hMixed (c := bodyOf f124) [] (.b true) [] func124 (q (sL mk_spec_l03Is_1_0 0 (lp_val (ls_spec_l03Is_1 b_0) (x := (lr_spec_l03Is_1_0 b_0)) (lp_spec_l03Is_1 b_0 hp0 hp1 hp2 hp3 hp4 h2 h1 h0 (((b_0.Springs.length : Int) - 0).toNat + 1) 0 (show 0 ≤ 0 from (by first | assumption | omega | (simp_all <;> omega))) (Nat.lt_succ_self _)) h3) <| sK [] sN)) rfl (by kernel_rfl) (by kernel_rfl) rfl ?_ ?_
     · simp only [v_spec_l03Is, h0, h1, h2, h3, cond_true, cond_false]
     · rfl
 | false =>
  refine fnS E0Ok hMixed (c := bodyOf f124) [] (.b false) [] func124 (p (sB' h0 <| sB' h0 <| sB' h0 <| sB' h0 <| sB' h0 <| sB' h0 <| sB' h0 <| sB (show true = true from rfl) <| sB (show true = true from rfl) <| sB (show true = true from rfl) <| sB (show true = true from rfl) <| sB (show true = true from rfl) <| sB (show true = true from rfl) <| sB (show true = true from rfl) <| sB (show true = true from rfl) <| sB (show true = true from rfl) <| sB (show true = true from rfl) <| sB (show true = true from rfl) <| sB (show true = true from rfl) <| sB (show true = true from rfl) <| sB (show true = true from rfl) <| sK [] sN)) rfl (by kernel_rfl) (by kernel_rfl) rfl ?_ ?_
  · simp only [v_spec_l03Is, h0, cond_false]
  · rfl

theorem l03Is_eq (b : GBody) (h : v_spec_l03Is b = true) : v_spec_l02Is b.Mesh = true ∧ (b.Weights.length : Int) = (b.Mesh.Places.length : Int) ∧ (b.Springs.all fun s => v_spec_l03Spring s (b.Mesh.Places.length : Int)) = true := by
  unfold v_spec_l03Is lr_spec_l03Is_1_0 at h
  rw [all_from (a := b.Springs) (p := fun s => v_spec_l03Spring s (b.Mesh.Places.length : Int)) (lo := lo_spec_l03Is_1 b) (x := ()) (y := ()) (fun k i => rfl)] at h
  cases h1 : v_spec_l02Is b.Mesh <;> rw [h1] at h <;> (try (cases h; done))
  cases h2 : decide ((b.Springs.length : Int) > 200) <;> rw [h2] at h <;> (try (cases h; done))
  cases h3 : ((b.Weights.length : Int) != (b.Mesh.Places.length : Int)) <;> rw [h3] at h <;> (try (cases h; done))
  cases h4 : (b.Springs.all fun s => v_spec_l03Spring s (b.Mesh.Places.length : Int)) <;> rw [h4] at h <;> (try (cases h; done))
  simp only [bne_eq_false_iff_eq] at h3
  exact ⟨rfl, h3, rfl⟩
theorem spr_ok (s : GSpring) {n : Nat} (hn : n ≤ 9223372036854775807) (h : v_spec_l03Spring s (n : Int) = true) : (0 ≤ s.A ∧ s.A < (n : Int)) ∧ (0 ≤ s.B ∧ s.B < (n : Int)) := by
  unfold v_spec_l03Spring at h
  cases h1 : v_spec_l00In s.A 0 (IntKind.wrap .i64 ((n : Int) - 1)) <;> rw [h1] at h <;> (try (cases h; done))
  cases h2 : v_spec_l00In s.B 0 (IntKind.wrap .i64 ((n : Int) - 1)) <;> rw [h2] at h <;> (try (cases h; done))
  exact ⟨in_ok hn h1, in_ok hn h2⟩
theorem okA_is (b : GBody) (h : v_spec_l03Is b = true) : OkIx b.Mesh.Places.length GSpring.A b.Springs := by
  obtain ⟨h1, _, h3⟩ := l03Is_eq b h
  have hn : b.Mesh.Places.length ≤ 64 := by
    rw [l02Is_eq] at h1
    cases h2 : decide ((b.Mesh.Places.length : Int) > 64) <;> rw [h2] at h1 <;> (try (cases h1; done))
    simp only [decide_eq_false_iff_not] at h2
    omega
  rw [List.all_eq_true] at h3
  exact fun s hs => (spr_ok s (by omega) (h3 s hs)).1
theorem okB_is (b : GBody) (h : v_spec_l03Is b = true) : OkIx b.Mesh.Places.length GSpring.B b.Springs := by
  obtain ⟨h1, _, h3⟩ := l03Is_eq b h
  have hn : b.Mesh.Places.length ≤ 64 := by
    rw [l02Is_eq] at h1
    cases h2 : decide ((b.Mesh.Places.length : Int) > 64) <;> rw [h2] at h1 <;> (try (cases h1; done))
    simp only [decide_eq_false_iff_not] at h2
    omega
  rw [List.all_eq_true] at h3
  exact fun s hs => (spr_ok s (by omega) (h3 s hs)).2

end Go.Ab
