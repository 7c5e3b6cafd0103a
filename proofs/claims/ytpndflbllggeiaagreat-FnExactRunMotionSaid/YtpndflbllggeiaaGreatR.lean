/- The law 'FnExactRunMotion' holds: whatever its arguments, the call returns true, and they read behind it as they did before. No condition. -/
import Derived.Test.YtpndflbllggeiaaGreatB12
import Derived.Handed
import Derived.Carry
import Derived.SizedLaws
namespace Go.Ab
open Go.RowKit

theorem Y1o : Opn Go.Proofs.Tryz.prog 27 (cF .f32) (fun (x : Nat) => (Wd .f32 x ∧ cn .f32 x = x)) := X73 Go.Proofs.Tryz.underlying27

theorem Y1R : Opn Go.Proofs.Tryz.prog 30 Gv.c (fun (x : Gv) => ((Wd .f32 x.X ∧ cn .f32 x.X = x.X) ∧ (Wd .f32 x.Y ∧ cn .f32 x.Y = x.Y) ∧ (Wd .f32 x.Z ∧ cn .f32 x.Z = x.Z) ∧ True)) := X1E (fun x => ⟨x.1, x.2.1, x.2.2.1⟩) Go.Proofs.Tryz.underlying30 (fs := [(27, 1), (27, 1), (27, 1)]) (by kernel_rfl) (by kernel_rfl) (Xf Y1o (Xf Y1o (Xf Y1o X2i))) (fun _ => rfl) (fun _ h => h)

theorem Y1S : Opn Go.Proofs.Tryz.prog 22 (cL Gv.c) (fun (x : (List Gv)) => (x.length ≤ 9223372036854775807 ∧ ∀ a22 ∈ x, ((Wd .f32 a22.X ∧ cn .f32 a22.X = a22.X) ∧ (Wd .f32 a22.Y ∧ cn .f32 a22.Y = a22.Y) ∧ (Wd .f32 a22.Z ∧ cn .f32 a22.Z = a22.Z) ∧ True))) := X1V Go.Proofs.Tryz.underlying22 (n := 3) (by kernel_rfl) (by decide) Y1R

theorem Y1V : Opn Go.Proofs.Tryz.prog 2 (cI .i64) (fun (x : Int) => (Lit.int .i64 x).wf = true) := X7N Go.Proofs.Tryz.underlying2

theorem op_49 : Opn Go.Proofs.Tryz.prog 49 (cL (cI .i64)) (fun (x : (List Int)) => (x.length ≤ 9223372036854775807 ∧ ∀ a49 ∈ x, (Lit.int .i64 a49).wf = true)) := X1V Go.Proofs.Tryz.underlying49 (n := 1) (by kernel_rfl) (by decide) Y1V

theorem op_23 : Opn Go.Proofs.Tryz.prog 23 (cL (cL (cI .i64))) (fun (x : (List (List Int))) => (x.length ≤ 9223372036854775807 ∧ ∀ a23 ∈ x, (a23.length ≤ 9223372036854775807 ∧ ∀ a49 ∈ a23, (Lit.int .i64 a49).wf = true))) := X1V Go.Proofs.Tryz.underlying23 (n := 1) (by kernel_rfl) (by decide) op_49

theorem op_25 : Opn Go.Proofs.Tryz.prog 25 Gm.c (fun (x : Gm) => ((x.Pq.length ≤ 9223372036854775807 ∧ ∀ a22 ∈ x.Pq, ((Wd .f32 a22.X ∧ cn .f32 a22.X = a22.X) ∧ (Wd .f32 a22.Y ∧ cn .f32 a22.Y = a22.Y) ∧ (Wd .f32 a22.Z ∧ cn .f32 a22.Z = a22.Z) ∧ True)) ∧ (x.Tr.length ≤ 9223372036854775807 ∧ ∀ a23 ∈ x.Tr, (a23.length ≤ 9223372036854775807 ∧ ∀ a49 ∈ a23, (Lit.int .i64 a49).wf = true)) ∧ True)) := X1E (fun x => ⟨x.1, x.2.1⟩) Go.Proofs.Tryz.underlying25 (fs := [(22, 1), (23, 1)]) (by kernel_rfl) (by kernel_rfl) (Xf Y1S (Xf op_23 X2i)) (fun _ => rfl) (fun _ h => h)

theorem op_141 : Opn Go.Proofs.Tryz.prog 141 Gs.c (fun (x : Gs) => ((Lit.int .i64 x.A).wf = true ∧ (Lit.int .i64 x.B).wf = true ∧ (Wd .f32 x.Long ∧ cn .f32 x.Long = x.Long) ∧ (Wd .f32 x.Stiff ∧ cn .f32 x.Stiff = x.Stiff) ∧ True)) := X1E (fun x => ⟨x.1, x.2.1, x.2.2.1, x.2.2.2.1⟩) Go.Proofs.Tryz.underlying141 (fs := [(2, 1), (2, 1), (27, 1), (27, 1)]) (by kernel_rfl) (by kernel_rfl) (Xf Y1V (Xf Y1V (Xf Y1o (Xf Y1o X2i)))) (fun _ => rfl) (fun _ h => h)

theorem op_26 : Opn Go.Proofs.Tryz.prog 26 (cL Gs.c) (fun (x : (List Gs)) => (x.length ≤ 9223372036854775807 ∧ ∀ a26 ∈ x, ((Lit.int .i64 a26.A).wf = true ∧ (Lit.int .i64 a26.B).wf = true ∧ (Wd .f32 a26.Long ∧ cn .f32 a26.Long = a26.Long) ∧ (Wd .f32 a26.Stiff ∧ cn .f32 a26.Stiff = a26.Stiff) ∧ True))) := X1V Go.Proofs.Tryz.underlying26 (n := 4) (by kernel_rfl) (by decide) op_141

theorem op_28 : Opn Go.Proofs.Tryz.prog 28 (cL (cF .f32)) (fun (x : (List Nat)) => (x.length ≤ 9223372036854775807 ∧ ∀ a28 ∈ x, (Wd .f32 a28 ∧ cn .f32 a28 = a28))) := X1V Go.Proofs.Tryz.underlying28 (n := 1) (by kernel_rfl) (by decide) Y1o

theorem op_32 : Opn Go.Proofs.Tryz.prog 32 Gb.c (fun (x : Gb) => (((x.Me.Pq.length ≤ 9223372036854775807 ∧ ∀ a22 ∈ x.Me.Pq, ((Wd .f32 a22.X ∧ cn .f32 a22.X = a22.X) ∧ (Wd .f32 a22.Y ∧ cn .f32 a22.Y = a22.Y) ∧ (Wd .f32 a22.Z ∧ cn .f32 a22.Z = a22.Z) ∧ True)) ∧ (x.Me.Tr.length ≤ 9223372036854775807 ∧ ∀ a23 ∈ x.Me.Tr, (a23.length ≤ 9223372036854775807 ∧ ∀ a49 ∈ a23, (Lit.int .i64 a49).wf = true)) ∧ True) ∧ (x.Sp.length ≤ 9223372036854775807 ∧ ∀ a26 ∈ x.Sp, ((Lit.int .i64 a26.A).wf = true ∧ (Lit.int .i64 a26.B).wf = true ∧ (Wd .f32 a26.Long ∧ cn .f32 a26.Long = a26.Long) ∧ (Wd .f32 a26.Stiff ∧ cn .f32 a26.Stiff = a26.Stiff) ∧ True)) ∧ (Wd .f32 x.Film ∧ cn .f32 x.Film = x.Film) ∧ (Wd .f32 x.Bend ∧ cn .f32 x.Bend = x.Bend) ∧ (x.We.length ≤ 9223372036854775807 ∧ ∀ a28 ∈ x.We, (Wd .f32 a28 ∧ cn .f32 a28 = a28)) ∧ ((Wd .f32 x.Fall.X ∧ cn .f32 x.Fall.X = x.Fall.X) ∧ (Wd .f32 x.Fall.Y ∧ cn .f32 x.Fall.Y = x.Fall.Y) ∧ (Wd .f32 x.Fall.Z ∧ cn .f32 x.Fall.Z = x.Fall.Z) ∧ True) ∧ True)) := X1E (fun x => ⟨x.1, x.2.1, x.2.2.1, x.2.2.2.1, x.2.2.2.2.1, x.2.2.2.2.2.1⟩) Go.Proofs.Tryz.underlying32 (fs := [(25, 2), (26, 1), (27, 1), (27, 1), (28, 1), (30, 3)]) (by kernel_rfl) (by kernel_rfl) (Xf op_25 (Xf op_26 (Xf Y1o (Xf Y1o (Xf op_28 (Xf Y1R X2i)))))) (fun _ => rfl) (fun _ h => h)

theorem op_63 : Opn Go.Proofs.Tryz.prog 63 Gn.c (fun (x : Gn) => ((((x.Body.Me.Pq.length ≤ 9223372036854775807 ∧ ∀ a22 ∈ x.Body.Me.Pq, ((Wd .f32 a22.X ∧ cn .f32 a22.X = a22.X) ∧ (Wd .f32 a22.Y ∧ cn .f32 a22.Y = a22.Y) ∧ (Wd .f32 a22.Z ∧ cn .f32 a22.Z = a22.Z) ∧ True)) ∧ (x.Body.Me.Tr.length ≤ 9223372036854775807 ∧ ∀ a23 ∈ x.Body.Me.Tr, (a23.length ≤ 9223372036854775807 ∧ ∀ a49 ∈ a23, (Lit.int .i64 a49).wf = true)) ∧ True) ∧ (x.Body.Sp.length ≤ 9223372036854775807 ∧ ∀ a26 ∈ x.Body.Sp, ((Lit.int .i64 a26.A).wf = true ∧ (Lit.int .i64 a26.B).wf = true ∧ (Wd .f32 a26.Long ∧ cn .f32 a26.Long = a26.Long) ∧ (Wd .f32 a26.Stiff ∧ cn .f32 a26.Stiff = a26.Stiff) ∧ True)) ∧ (Wd .f32 x.Body.Film ∧ cn .f32 x.Body.Film = x.Body.Film) ∧ (Wd .f32 x.Body.Bend ∧ cn .f32 x.Body.Bend = x.Body.Bend) ∧ (x.Body.We.length ≤ 9223372036854775807 ∧ ∀ a28 ∈ x.Body.We, (Wd .f32 a28 ∧ cn .f32 a28 = a28)) ∧ ((Wd .f32 x.Body.Fall.X ∧ cn .f32 x.Body.Fall.X = x.Body.Fall.X) ∧ (Wd .f32 x.Body.Fall.Y ∧ cn .f32 x.Body.Fall.Y = x.Body.Fall.Y) ∧ (Wd .f32 x.Body.Fall.Z ∧ cn .f32 x.Body.Fall.Z = x.Body.Fall.Z) ∧ True) ∧ True) ∧ (x.Sd.length ≤ 9223372036854775807 ∧ ∀ a22 ∈ x.Sd, ((Wd .f32 a22.X ∧ cn .f32 a22.X = a22.X) ∧ (Wd .f32 a22.Y ∧ cn .f32 a22.Y = a22.Y) ∧ (Wd .f32 a22.Z ∧ cn .f32 a22.Z = a22.Z) ∧ True)) ∧ True)) := X1E (fun x => ⟨x.1, x.2.1⟩) Go.Proofs.Tryz.underlying63 (fs := [(32, 9), (22, 1)]) (by kernel_rfl) (by kernel_rfl) (Xf op_32 (Xf Y1S X2i)) (fun _ => rfl) (fun _ h => h)

end Go.Ab

namespace Go.Proofs.YtpndflbllggeiaaGreat
open Go.ChangeShapes Go.WideShapes Go.ChangeAt Go.RowKit

theorem own_FnExactRunMotion : ownKnob Go.Proofs.Tryz.prog.godebug = none := by kernel_rfl

theorem laidOut_FnExactRunMotion : laidOutB Go.Proofs.Tryz.prog = true := by kernel_rfl

set_option maxRecDepth 1000000 in
theorem contract_FnExactRunMotion (H : Type) (enc : TypeId × Value → H) (W : World) (base : Nat) (args : Array Value) (ds gs : List (DataW H)) (before : List MemPlace)
    (hval : ∀ (j : Nat) t v, Tryz.f10.params[j]? = some t → args[j]? = some v → Value.okWide Tryz.prog W .any base t v)
    (hW : DataW.Whole enc Tryz.prog Tryz.f10.params.toList Rows.fnExactRunMotionSpec.vars false W args.toList ds gs before) :
    Calls Tryz.prog 10 args W fun e W' => ∃ v, e = .returned v ∧ Rows.fnExactRunMotionSpec.post enc Tryz.prog Tryz.f10 false true false false W args v W' := by
  have hW' := hW
  obtain ⟨p, q, hA0, hV, rfl, hfz, hnd⟩ := hW
  have hA : DataW.TrodAll enc Tryz.prog W 0 (fun _ => true) true Tryz.f10.params.toList args.toList ds p := hA0
  rw [Tryz.params10] at hA hval
  obtain ⟨v0, vs0, d0, ds0, p0, q0, hargs0, rfl, rfl, h0, r0⟩ := trodAll_cons hA
  obtain ⟨v1, vs1, d1, ds1, p1, q1, hargs1, rfl, rfl, h1, r1⟩ := trodAll_cons r0
  obtain ⟨v2, vs2, d2, ds2, p2, q2, hargs2, rfl, rfl, h2, r2⟩ := trodAll_cons r1
  obtain ⟨v3, vs3, d3, ds3, p3, q3, hargs3, rfl, rfl, h3, r3⟩ := trodAll_cons r2
  obtain ⟨v4, vs4, d4, ds4, p4, q4, hargs4, rfl, rfl, h4, r4⟩ := trodAll_cons r3
  obtain ⟨v5, vs5, d5, ds5, p5, q5, hargs5, rfl, rfl, h5, r5⟩ := trodAll_cons r4
  obtain ⟨hnil, rfl, rfl⟩ := trodAll_nil r5
  obtain rfl : args = #[v0, v1, v2, v3, v4, v5] := by cases args; simp_all
  obtain ⟨rfl, rfl⟩ := trodVars_none hV
  have w0 : Value.okWide Tryz.prog W .any base 63 v0 := hval 0 63 v0 rfl rfl
  obtain ⟨a0, b0, rep0⟩ := Go.Ab.X7O Go.Ab.op_63 Tryz.underlying63 w0 h0
  have w1 : Value.okWide Tryz.prog W .any base 49 v1 := hval 1 49 v1 rfl rfl
  obtain ⟨a1, b1, rep1'⟩ := Go.Ab.arg_one Go.Ab.op_49 (by intro desc hd; rw [Tryz.underlying49] at hd; cases hd; rfl) w1 h1
  have rep1 := rep1' _ rfl
  have w2 : Value.okWide Tryz.prog W .any base 27 v2 := hval 2 27 v2 rfl rfl
  obtain ⟨a2, b2, rep2'⟩ := Go.Ab.arg_one Go.Ab.Y1o (by intro desc hd; rw [Tryz.underlying27] at hd; cases hd; rfl) w2 h2
  have rep2 := rep2' _ rfl
  have w3 : Value.okWide Tryz.prog W .any base 27 v3 := hval 3 27 v3 rfl rfl
  obtain ⟨a3, b3, rep3'⟩ := Go.Ab.arg_one Go.Ab.Y1o (by intro desc hd; rw [Tryz.underlying27] at hd; cases hd; rfl) w3 h3
  have rep3 := rep3' _ rfl
  have w4 : Value.okWide Tryz.prog W .any base 27 v4 := hval 4 27 v4 rfl rfl
  obtain ⟨a4, b4, rep4'⟩ := Go.Ab.arg_one Go.Ab.Y1o (by intro desc hd; rw [Tryz.underlying27] at hd; cases hd; rfl) w4 h4
  have rep4 := rep4' _ rfl
  have w5 : Value.okWide Tryz.prog W .any base 2 v5 := hval 5 2 v5 rfl rfl
  obtain ⟨a5, b5, rep5'⟩ := Go.Ab.arg_one Go.Ab.Y1V (by intro desc hd; rw [Tryz.underlying2] at hd; cases hd; rfl) w5 h5
  have rep5 := rep5' _ rfl
  have hT := Go.Ab.Zc2 a0 a1 a2 a3 a4 a5 b0.1.1.1.1 b0.1.1.2.1.1 (fun t ht => (b0.1.1.2.1.2 t ht).1) b0.1.2.1.1 b0.1.2.2.2.2.1.1 b0.2.1.1 b1.1
  rw [Go.Ab.Zba a0 a1 a2 a3 a4 a5 b0.1.1.1.1 b0.1.1.2.1.1 (fun t ht => (b0.1.1.2.1.2 t ht).1) b0.1.2.1.1 b0.1.2.2.2.2.1.1 b0.2.1.1 b1.1] at hT
  clear hA0
  simp only [List.append_nil] at hW'
  refine (hT.2 W #[v0, v1, v2, v3, v4, v5] ⟨rfl, fun j c e => ?_⟩).mono fun e W' ⟨v, μ', he, hb, _, hr⟩ => ?_
  · match j, e with
    | 0, e => simp at e; subst e; exact rep0
    | 1, e => simp at e; subst e; exact rep1
    | 2, e => simp at e; subst e; exact rep2
    | 3, e => simp at e; subst e; exact rep3
    | 4, e => simp at e; subst e; exact rep4
    | 5, e => simp at e; subst e; exact rep5
  · subst he
    cases hr
    have k0 := Below.trod laidOut_FnExactRunMotion (t := 63) (by kernel_rfl) (of_decide_eq_true (by kernel_rfl)) h0 hb.toBelow (fun y hy => by simpa using hW'.lt y (by simp [hy]))
    have k1 := Below.trod laidOut_FnExactRunMotion (t := 49) (by kernel_rfl) (of_decide_eq_true (by kernel_rfl)) h1 hb.toBelow (fun y hy => by simpa using hW'.lt y (by simp [hy]))
    have k2 := Below.trod laidOut_FnExactRunMotion (t := 27) (by kernel_rfl) (of_decide_eq_true (by kernel_rfl)) h2 hb.toBelow (fun y hy => by simpa using hW'.lt y (by simp [hy]))
    have k3 := Below.trod laidOut_FnExactRunMotion (t := 27) (by kernel_rfl) (of_decide_eq_true (by kernel_rfl)) h3 hb.toBelow (fun y hy => by simpa using hW'.lt y (by simp [hy]))
    have k4 := Below.trod laidOut_FnExactRunMotion (t := 27) (by kernel_rfl) (of_decide_eq_true (by kernel_rfl)) h4 hb.toBelow (fun y hy => by simpa using hW'.lt y (by simp [hy]))
    have k5 := Below.trod laidOut_FnExactRunMotion (t := 2) (by kernel_rfl) (of_decide_eq_true (by kernel_rfl)) h5 hb.toBelow (fun y hy => by simpa using hW'.lt y (by simp [hy]))
    exact ⟨_, rfl, _, _, _, [], _, [], hW', trodAll_mk1 (shut_bool Tryz.underlying4 true), (trodAll_cons_mk k0 (trodAll_cons_mk k1 (trodAll_cons_mk k2 (trodAll_cons_mk k3 (trodAll_cons_mk k4 (trodAll_cons_mk k5 trodAll_mk0)))))), rfl, hb.toBelow.frame _, fun h => by cases h⟩


set_option maxRecDepth 100000 in
theorem lifted_FnExactRunMotion (os : Os) (started : os.Started) (H : Type) (enc : TypeId × Value → H) :
    ReturnsInHanded {} Tryz.checked os 10 .any (Rows.fnExactRunMotionSpec.pre6 enc Tryz.prog Tryz.f10 Rows.fnExactRunMotionRow.domain false) (Rows.fnExactRunMotionSpec.post enc Tryz.prog Tryz.f10 false true false false) := by
  refine returnsInHanded_of_change (C := Tryz.checked) own_FnExactRunMotion started (by kernel_rfl) Tryz.func10
    (ChangeSpec.witness6 (enc := enc) (C := Tryz.checked) false ⟨#[], #[.agg #[.slice none 0 0, .slice none 0 0, .slice none 0 0, .float .f32 0, .float .f32 0, .slice none 0 0, .float .f32 0, .float .f32 0, .float .f32 0, .slice none 0 0], .slice none 0 0, .float .f32 0, .float .f32 0, .float .f32 0, .int .i64 0], []⟩ 8 (by kernel_rfl) (by kernel_rfl) (by kernel_rfl) (by kernel_rfl)) ?_
  intro W base args ds gs before hval hW _ _
  exact contract_FnExactRunMotion H enc W base args ds gs before hval hW


theorem fnExactRunMotion_holds : Rows.FnExactRunMotionSaid :=
  OpenClaim.holds_of_wide 10 Tryz.f10 rfl rfl rfl rfl rfl rfl rfl ⟨rfl, rfl, rfl, rfl, rfl⟩ rfl rfl rfl rfl rfl (by kernel_rfl) Tryz.func10 (by kernel_rfl)
    (of_decide_eq_true (by kernel_rfl)) (by unfold Func.isWrapper; first | (rw [if_pos (by decide +kernel)]; kernel_rfl) | (rw [if_neg (by decide +kernel)]; exact ⟨rfl, rfl⟩))
    (fun os started H enc _ => lifted_FnExactRunMotion os started H enc)

end Go.Proofs.YtpndflbllggeiaaGreat
