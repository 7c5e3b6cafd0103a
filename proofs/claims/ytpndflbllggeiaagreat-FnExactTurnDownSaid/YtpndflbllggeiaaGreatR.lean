/- The law 'FnExactTurnDown' holds: whatever its arguments, the call returns true, and they read behind it as they did before. No condition. -/
import Derived.Test.YtpndflbllggeiaaGreatB13
import Derived.Handed
import Derived.Carry
import Derived.SizedLaws
namespace Go.Ab
open Go.RowKit

theorem Y1x : Opn Go.Proofs.Tryz.prog 27 (cF .f32) (fun (x : Nat) => (Wd .f32 x ∧ cn .f32 x = x)) := X6Y Go.Proofs.Tryz.underlying27

theorem Y1T : Opn Go.Proofs.Tryz.prog 30 Gv.c (fun (x : Gv) => ((Wd .f32 x.X ∧ cn .f32 x.X = x.X) ∧ (Wd .f32 x.Y ∧ cn .f32 x.Y = x.Y) ∧ (Wd .f32 x.Z ∧ cn .f32 x.Z = x.Z) ∧ True)) := X21 (fun x => ⟨x.1, x.2.1, x.2.2.1⟩) Go.Proofs.Tryz.underlying30 (fs := [(27, 1), (27, 1), (27, 1)]) (by kernel_rfl) (by kernel_rfl) (Xj Y1x (Xj Y1x (Xj Y1x X2S))) (fun _ => rfl) (fun _ h => h)

theorem op_22 : Opn Go.Proofs.Tryz.prog 22 (cL Gv.c) (fun (x : (List Gv)) => (x.length ≤ 9223372036854775807 ∧ ∀ a22 ∈ x, ((Wd .f32 a22.X ∧ cn .f32 a22.X = a22.X) ∧ (Wd .f32 a22.Y ∧ cn .f32 a22.Y = a22.Y) ∧ (Wd .f32 a22.Z ∧ cn .f32 a22.Z = a22.Z) ∧ True))) := X1S Go.Proofs.Tryz.underlying22 (n := 3) (by kernel_rfl) (by decide) Y1T

theorem Y1W : Opn Go.Proofs.Tryz.prog 2 (cI .i64) (fun (x : Int) => (Lit.int .i64 x).wf = true) := X7E Go.Proofs.Tryz.underlying2

theorem op_49 : Opn Go.Proofs.Tryz.prog 49 (cL (cI .i64)) (fun (x : (List Int)) => (x.length ≤ 9223372036854775807 ∧ ∀ a49 ∈ x, (Lit.int .i64 a49).wf = true)) := X1S Go.Proofs.Tryz.underlying49 (n := 1) (by kernel_rfl) (by decide) Y1W

theorem op_23 : Opn Go.Proofs.Tryz.prog 23 (cL (cL (cI .i64))) (fun (x : (List (List Int))) => (x.length ≤ 9223372036854775807 ∧ ∀ a23 ∈ x, (a23.length ≤ 9223372036854775807 ∧ ∀ a49 ∈ a23, (Lit.int .i64 a49).wf = true))) := X1S Go.Proofs.Tryz.underlying23 (n := 1) (by kernel_rfl) (by decide) op_49

theorem op_25 : Opn Go.Proofs.Tryz.prog 25 Gm.c (fun (x : Gm) => ((x.Pq.length ≤ 9223372036854775807 ∧ ∀ a22 ∈ x.Pq, ((Wd .f32 a22.X ∧ cn .f32 a22.X = a22.X) ∧ (Wd .f32 a22.Y ∧ cn .f32 a22.Y = a22.Y) ∧ (Wd .f32 a22.Z ∧ cn .f32 a22.Z = a22.Z) ∧ True)) ∧ (x.Tr.length ≤ 9223372036854775807 ∧ ∀ a23 ∈ x.Tr, (a23.length ≤ 9223372036854775807 ∧ ∀ a49 ∈ a23, (Lit.int .i64 a49).wf = true)) ∧ True)) := X21 (fun x => ⟨x.1, x.2.1⟩) Go.Proofs.Tryz.underlying25 (fs := [(22, 1), (23, 1)]) (by kernel_rfl) (by kernel_rfl) (Xj op_22 (Xj op_23 X2S)) (fun _ => rfl) (fun _ h => h)

theorem op_141 : Opn Go.Proofs.Tryz.prog 141 Gs.c (fun (x : Gs) => ((Lit.int .i64 x.A).wf = true ∧ (Lit.int .i64 x.B).wf = true ∧ (Wd .f32 x.Long ∧ cn .f32 x.Long = x.Long) ∧ (Wd .f32 x.Stiff ∧ cn .f32 x.Stiff = x.Stiff) ∧ True)) := X21 (fun x => ⟨x.1, x.2.1, x.2.2.1, x.2.2.2.1⟩) Go.Proofs.Tryz.underlying141 (fs := [(2, 1), (2, 1), (27, 1), (27, 1)]) (by kernel_rfl) (by kernel_rfl) (Xj Y1W (Xj Y1W (Xj Y1x (Xj Y1x X2S)))) (fun _ => rfl) (fun _ h => h)

theorem op_26 : Opn Go.Proofs.Tryz.prog 26 (cL Gs.c) (fun (x : (List Gs)) => (x.length ≤ 9223372036854775807 ∧ ∀ a26 ∈ x, ((Lit.int .i64 a26.A).wf = true ∧ (Lit.int .i64 a26.B).wf = true ∧ (Wd .f32 a26.Long ∧ cn .f32 a26.Long = a26.Long) ∧ (Wd .f32 a26.Stiff ∧ cn .f32 a26.Stiff = a26.Stiff) ∧ True))) := X1S Go.Proofs.Tryz.underlying26 (n := 4) (by kernel_rfl) (by decide) op_141

theorem op_28 : Opn Go.Proofs.Tryz.prog 28 (cL (cF .f32)) (fun (x : (List Nat)) => (x.length ≤ 9223372036854775807 ∧ ∀ a28 ∈ x, (Wd .f32 a28 ∧ cn .f32 a28 = a28))) := X1S Go.Proofs.Tryz.underlying28 (n := 1) (by kernel_rfl) (by decide) Y1x

theorem op_32 : Opn Go.Proofs.Tryz.prog 32 Gb.c (fun (x : Gb) => (((x.Me.Pq.length ≤ 9223372036854775807 ∧ ∀ a22 ∈ x.Me.Pq, ((Wd .f32 a22.X ∧ cn .f32 a22.X = a22.X) ∧ (Wd .f32 a22.Y ∧ cn .f32 a22.Y = a22.Y) ∧ (Wd .f32 a22.Z ∧ cn .f32 a22.Z = a22.Z) ∧ True)) ∧ (x.Me.Tr.length ≤ 9223372036854775807 ∧ ∀ a23 ∈ x.Me.Tr, (a23.length ≤ 9223372036854775807 ∧ ∀ a49 ∈ a23, (Lit.int .i64 a49).wf = true)) ∧ True) ∧ (x.Sp.length ≤ 9223372036854775807 ∧ ∀ a26 ∈ x.Sp, ((Lit.int .i64 a26.A).wf = true ∧ (Lit.int .i64 a26.B).wf = true ∧ (Wd .f32 a26.Long ∧ cn .f32 a26.Long = a26.Long) ∧ (Wd .f32 a26.Stiff ∧ cn .f32 a26.Stiff = a26.Stiff) ∧ True)) ∧ (Wd .f32 x.Film ∧ cn .f32 x.Film = x.Film) ∧ (Wd .f32 x.Bend ∧ cn .f32 x.Bend = x.Bend) ∧ (x.We.length ≤ 9223372036854775807 ∧ ∀ a28 ∈ x.We, (Wd .f32 a28 ∧ cn .f32 a28 = a28)) ∧ ((Wd .f32 x.Fall.X ∧ cn .f32 x.Fall.X = x.Fall.X) ∧ (Wd .f32 x.Fall.Y ∧ cn .f32 x.Fall.Y = x.Fall.Y) ∧ (Wd .f32 x.Fall.Z ∧ cn .f32 x.Fall.Z = x.Fall.Z) ∧ True) ∧ True)) := X21 (fun x => ⟨x.1, x.2.1, x.2.2.1, x.2.2.2.1, x.2.2.2.2.1, x.2.2.2.2.2.1⟩) Go.Proofs.Tryz.underlying32 (fs := [(25, 2), (26, 1), (27, 1), (27, 1), (28, 1), (30, 3)]) (by kernel_rfl) (by kernel_rfl) (Xj op_25 (Xj op_26 (Xj Y1x (Xj Y1x (Xj op_28 (Xj Y1T X2S)))))) (fun _ => rfl) (fun _ h => h)

end Go.Ab

namespace Go.Proofs.YtpndflbllggeiaaGreat
open Go.ChangeShapes Go.WideShapes Go.ChangeAt Go.RowKit

theorem own_FnExactTurnDown : ownKnob Go.Proofs.Tryz.prog.godebug = none := by kernel_rfl

theorem laidOut_FnExactTurnDown : laidOutB Go.Proofs.Tryz.prog = true := by kernel_rfl

set_option maxRecDepth 1000000 in
theorem contract_FnExactTurnDown (H : Type) (enc : TypeId × Value → H) (W : World) (base : Nat) (args : Array Value) (ds gs : List (DataW H)) (before : List MemPlace)
    (hval : ∀ (j : Nat) t v, Tryz.f9.params[j]? = some t → args[j]? = some v → Value.okWide Tryz.prog W .any base t v)
    (hW : DataW.Whole enc Tryz.prog Tryz.f9.params.toList Rows.fnExactTurnDownSpec.vars false W args.toList ds gs before) :
    Calls Tryz.prog 9 args W fun e W' => ∃ v, e = .returned v ∧ Rows.fnExactTurnDownSpec.post enc Tryz.prog Tryz.f9 false true false false W args v W' := by
  have hW' := hW
  obtain ⟨p, q, hA0, hV, rfl, hfz, hnd⟩ := hW
  have hA : DataW.TrodAll enc Tryz.prog W 0 (fun _ => true) true Tryz.f9.params.toList args.toList ds p := hA0
  rw [Tryz.params9] at hA hval
  obtain ⟨v0, vs0, d0, ds0, p0, q0, hargs0, rfl, rfl, h0, r0⟩ := trodAll_cons hA
  obtain ⟨v1, vs1, d1, ds1, p1, q1, hargs1, rfl, rfl, h1, r1⟩ := trodAll_cons r0
  obtain ⟨v2, vs2, d2, ds2, p2, q2, hargs2, rfl, rfl, h2, r2⟩ := trodAll_cons r1
  obtain ⟨v3, vs3, d3, ds3, p3, q3, hargs3, rfl, rfl, h3, r3⟩ := trodAll_cons r2
  obtain ⟨hnil, rfl, rfl⟩ := trodAll_nil r3
  obtain rfl : args = #[v0, v1, v2, v3] := by cases args; simp_all
  obtain ⟨rfl, rfl⟩ := trodVars_none hV
  have w0 : Value.okWide Tryz.prog W .any base 32 v0 := hval 0 32 v0 rfl rfl
  obtain ⟨a0, b0, rep0⟩ := Go.Ab.X7F Go.Ab.op_32 Tryz.underlying32 w0 h0
  have w1 : Value.okWide Tryz.prog W .any base 49 v1 := hval 1 49 v1 rfl rfl
  obtain ⟨a1, b1, rep1'⟩ := Go.Ab.arg_one Go.Ab.op_49 (by intro desc hd; rw [Tryz.underlying49] at hd; cases hd; rfl) w1 h1
  have rep1 := rep1' _ rfl
  have w2 : Value.okWide Tryz.prog W .any base 27 v2 := hval 2 27 v2 rfl rfl
  obtain ⟨a2, b2, rep2'⟩ := Go.Ab.arg_one Go.Ab.Y1x (by intro desc hd; rw [Tryz.underlying27] at hd; cases hd; rfl) w2 h2
  have rep2 := rep2' _ rfl
  have w3 : Value.okWide Tryz.prog W .any base 2 v3 := hval 3 2 v3 rfl rfl
  obtain ⟨a3, b3, rep3'⟩ := Go.Ab.arg_one Go.Ab.Y1W (by intro desc hd; rw [Tryz.underlying2] at hd; cases hd; rfl) w3 h3
  have rep3 := rep3' _ rfl
  have hT := Go.Ab.ZcT a0 a1 a2 a3 b0.1.1.1 b0.1.2.1.1 (fun t ht => (b0.1.2.1.2 t ht).1) b0.2.1.1 b0.2.2.2.2.1.1 b1.1
  rw [Go.Ab.Zc1 a0 a1 a2 a3 b0.1.1.1 b0.1.2.1.1 (fun t ht => (b0.1.2.1.2 t ht).1) b0.2.1.1 b0.2.2.2.2.1.1 b1.1] at hT
  clear hA0
  simp only [List.append_nil] at hW'
  refine (hT.2 W #[v0, v1, v2, v3] ⟨rfl, fun j c e => ?_⟩).mono fun e W' ⟨v, μ', he, hb, _, hr⟩ => ?_
  · match j, e with
    | 0, e => simp at e; subst e; exact rep0
    | 1, e => simp at e; subst e; exact rep1
    | 2, e => simp at e; subst e; exact rep2
    | 3, e => simp at e; subst e; exact rep3
  · subst he
    cases hr
    have k0 := Below.trod laidOut_FnExactTurnDown (t := 32) (by kernel_rfl) (of_decide_eq_true (by kernel_rfl)) h0 hb.toBelow (fun y hy => by simpa using hW'.lt y (by simp [hy]))
    have k1 := Below.trod laidOut_FnExactTurnDown (t := 49) (by kernel_rfl) (of_decide_eq_true (by kernel_rfl)) h1 hb.toBelow (fun y hy => by simpa using hW'.lt y (by simp [hy]))
    have k2 := Below.trod laidOut_FnExactTurnDown (t := 27) (by kernel_rfl) (of_decide_eq_true (by kernel_rfl)) h2 hb.toBelow (fun y hy => by simpa using hW'.lt y (by simp [hy]))
    have k3 := Below.trod laidOut_FnExactTurnDown (t := 2) (by kernel_rfl) (of_decide_eq_true (by kernel_rfl)) h3 hb.toBelow (fun y hy => by simpa using hW'.lt y (by simp [hy]))
    exact ⟨_, rfl, _, _, _, [], _, [], hW', trodAll_mk1 (shut_bool Tryz.underlying4 true), (trodAll_cons_mk k0 (trodAll_cons_mk k1 (trodAll_cons_mk k2 (trodAll_cons_mk k3 trodAll_mk0)))), rfl, hb.toBelow.frame _, fun h => by cases h⟩


set_option maxRecDepth 100000 in
theorem lifted_FnExactTurnDown (os : Os) (started : os.Started) (H : Type) (enc : TypeId × Value → H) :
    ReturnsInHanded {} Tryz.checked os 9 .any (Rows.fnExactTurnDownSpec.pre6 enc Tryz.prog Tryz.f9 Rows.fnExactTurnDownRow.domain false) (Rows.fnExactTurnDownSpec.post enc Tryz.prog Tryz.f9 false true false false) := by
  refine returnsInHanded_of_change (C := Tryz.checked) own_FnExactTurnDown started (by kernel_rfl) Tryz.func9
    (ChangeSpec.witness6 (enc := enc) (C := Tryz.checked) false ⟨#[], #[.agg #[.slice none 0 0, .slice none 0 0, .slice none 0 0, .float .f32 0, .float .f32 0, .slice none 0 0, .float .f32 0, .float .f32 0, .float .f32 0], .slice none 0 0, .float .f32 0, .int .i64 0], []⟩ 8 (by kernel_rfl) (by kernel_rfl) (by kernel_rfl) (by kernel_rfl)) ?_
  intro W base args ds gs before hval hW _ _
  exact contract_FnExactTurnDown H enc W base args ds gs before hval hW


theorem fnExactTurnDown_holds : Rows.FnExactTurnDownSaid :=
  OpenClaim.holds_of_wide 9 Tryz.f9 rfl rfl rfl rfl rfl rfl rfl ⟨rfl, rfl, rfl, rfl, rfl⟩ rfl rfl rfl rfl rfl (by kernel_rfl) Tryz.func9 (by kernel_rfl)
    (of_decide_eq_true (by kernel_rfl)) (by unfold Func.isWrapper; first | (rw [if_pos (by decide +kernel)]; kernel_rfl) | (rw [if_neg (by decide +kernel)]; exact ⟨rfl, rfl⟩))
    (fun os started H enc _ => lifted_FnExactTurnDown os started H enc)

end Go.Proofs.YtpndflbllggeiaaGreat
