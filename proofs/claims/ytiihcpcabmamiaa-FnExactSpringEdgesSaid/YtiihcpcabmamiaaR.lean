/- The law 'FnExactSpringEdges' holds: whatever its arguments, the call returns true, and they read behind it as they did before. No condition. -/
import Derived.Test.YtiihcpcabmamiaaB6
import Derived.Handed
import Derived.Carry
import Derived.SizedLaws
namespace Go.Ab
open Go.RowKit

theorem op_38 : Opn Go.Proofs.Try.prog 38 (cF .f32) (fun (x : Nat) => (Wd .f32 x ∧ cn .f32 x = x)) := opn_float Go.Proofs.Try.underlying38

theorem op_60 : Opn Go.Proofs.Try.prog 60 GVector.cells (fun (x : GVector) => ((Wd .f32 x.X ∧ cn .f32 x.X = x.X) ∧ (Wd .f32 x.Y ∧ cn .f32 x.Y = x.Y) ∧ (Wd .f32 x.Z ∧ cn .f32 x.Z = x.Z) ∧ True)) := opn_struct (fun x => ⟨x.1, x.2.1, x.2.2.1⟩) Go.Proofs.Try.underlying60 (fs := [(38, 1), (38, 1), (38, 1)]) (by kernel_rfl) (by kernel_rfl) (opnF_cons op_38 (opnF_cons op_38 (opnF_cons op_38 opnF_nil))) (fun _ => rfl) (fun _ h => h)

theorem op_22 : Opn Go.Proofs.Try.prog 22 (cL GVector.cells) (fun (x : (List GVector)) => (x.length ≤ 9223372036854775807 ∧ ∀ a22 ∈ x, ((Wd .f32 a22.X ∧ cn .f32 a22.X = a22.X) ∧ (Wd .f32 a22.Y ∧ cn .f32 a22.Y = a22.Y) ∧ (Wd .f32 a22.Z ∧ cn .f32 a22.Z = a22.Z) ∧ True))) := opn_slice Go.Proofs.Try.underlying22 (n := 3) (by kernel_rfl) (by decide) op_60

theorem op_2 : Opn Go.Proofs.Try.prog 2 (cI .i64) (fun (x : Int) => (Lit.int .i64 x).wf = true) := opn_int Go.Proofs.Try.underlying2

theorem op_52 : Opn Go.Proofs.Try.prog 52 (cL (cI .i64)) (fun (x : (List Int)) => (x.length ≤ 9223372036854775807 ∧ ∀ a52 ∈ x, (Lit.int .i64 a52).wf = true)) := opn_slice Go.Proofs.Try.underlying52 (n := 1) (by kernel_rfl) (by decide) op_2

theorem op_23 : Opn Go.Proofs.Try.prog 23 (cL (cL (cI .i64))) (fun (x : (List (List Int))) => (x.length ≤ 9223372036854775807 ∧ ∀ a23 ∈ x, (a23.length ≤ 9223372036854775807 ∧ ∀ a52 ∈ a23, (Lit.int .i64 a52).wf = true))) := opn_slice Go.Proofs.Try.underlying23 (n := 1) (by kernel_rfl) (by decide) op_52

theorem op_25 : Opn Go.Proofs.Try.prog 25 GMesh.cells (fun (x : GMesh) => ((x.Places.length ≤ 9223372036854775807 ∧ ∀ a22 ∈ x.Places, ((Wd .f32 a22.X ∧ cn .f32 a22.X = a22.X) ∧ (Wd .f32 a22.Y ∧ cn .f32 a22.Y = a22.Y) ∧ (Wd .f32 a22.Z ∧ cn .f32 a22.Z = a22.Z) ∧ True)) ∧ (x.Triangles.length ≤ 9223372036854775807 ∧ ∀ a23 ∈ x.Triangles, (a23.length ≤ 9223372036854775807 ∧ ∀ a52 ∈ a23, (Lit.int .i64 a52).wf = true)) ∧ True)) := opn_struct (fun x => ⟨x.1, x.2.1⟩) Go.Proofs.Try.underlying25 (fs := [(22, 1), (23, 1)]) (by kernel_rfl) (by kernel_rfl) (opnF_cons op_22 (opnF_cons op_23 opnF_nil)) (fun _ => rfl) (fun _ h => h)

end Go.Ab

namespace Go.Proofs.Ytiihcpcabmamiaa
open Go.ChangeShapes Go.WideShapes Go.ChangeAt Go.RowKit

theorem own_FnExactSpringEdges : ownKnob Go.Proofs.Try.prog.godebug = none := by kernel_rfl

theorem laidOut_FnExactSpringEdges : laidOutB Go.Proofs.Try.prog = true := by kernel_rfl

set_option maxRecDepth 1000000 in
theorem contract_FnExactSpringEdges (H : Type) (enc : TypeId × Value → H) (W : World) (base : Nat) (args : Array Value) (ds gs : List (DataW H)) (before : List MemPlace)
    (hval : ∀ (j : Nat) t v, Try.f9.params[j]? = some t → args[j]? = some v → Value.okWide Try.prog W .any base t v)
    (hW : DataW.Whole enc Try.prog Try.f9.params.toList Rows.fnExactSpringEdgesSpec.vars false W args.toList ds gs before) :
    Calls Try.prog 9 args W fun e W' => ∃ v, e = .returned v ∧ Rows.fnExactSpringEdgesSpec.post enc Try.prog Try.f9 false true false false W args v W' := by
  have hW' := hW
  obtain ⟨p, q, hA0, hV, rfl, hfz, hnd⟩ := hW
  have hA : DataW.TrodAll enc Try.prog W 0 (fun _ => true) true Try.f9.params.toList args.toList ds p := hA0
  rw [Try.params9] at hA hval
  obtain ⟨v0, vs0, d0, ds0, p0, q0, hargs0, rfl, rfl, h0, r0⟩ := trodAll_cons hA
  obtain ⟨v1, vs1, d1, ds1, p1, q1, hargs1, rfl, rfl, h1, r1⟩ := trodAll_cons r0
  obtain ⟨hnil, rfl, rfl⟩ := trodAll_nil r1
  obtain rfl : args = #[v0, v1] := by cases args; simp_all
  obtain ⟨rfl, rfl⟩ := trodVars_none hV
  have w0 : Value.okWide Try.prog W .any base 25 v0 := hval 0 25 v0 rfl rfl
  obtain ⟨a0, b0, rep0⟩ := Go.Ab.arg_agg Go.Ab.op_25 Try.underlying25 w0 h0
  have w1 : Value.okWide Try.prog W .any base 38 v1 := hval 1 38 v1 rfl rfl
  obtain ⟨a1, b1, rep1'⟩ := Go.Ab.arg_one Go.Ab.op_38 (by intro desc hd; rw [Try.underlying38] at hd; cases hd; rfl) w1 h1
  have rep1 := rep1' _ rfl
  have hT := Go.Ab.t_laws_FnExactSpringEdges a0 a1 b0.1.1 b0.2.1.1 (fun t ht => (b0.2.1.2 t ht).1)
  rw [Go.Ab.true_laws_FnExactSpringEdges a0 a1 b0.1.1 b0.2.1.1 (fun t ht => (b0.2.1.2 t ht).1)] at hT
  clear hA0
  simp only [List.append_nil] at hW'
  refine (hT.2 W #[v0, v1] ⟨rfl, fun j c e => ?_⟩).mono fun e W' ⟨v, μ', he, hb, _, hr⟩ => ?_
  · match j, e with
    | 0, e => simp at e; subst e; exact rep0
    | 1, e => simp at e; subst e; exact rep1
  · subst he
    cases hr
    have k0 := Below.trod laidOut_FnExactSpringEdges (t := 25) (by kernel_rfl) (of_decide_eq_true (by kernel_rfl)) h0 hb.toBelow (fun y hy => by simpa using hW'.lt y (by simp [hy]))
    have k1 := Below.trod laidOut_FnExactSpringEdges (t := 38) (by kernel_rfl) (of_decide_eq_true (by kernel_rfl)) h1 hb.toBelow (fun y hy => by simpa using hW'.lt y (by simp [hy]))
    exact ⟨_, rfl, _, _, _, [], _, [], hW', trodAll_mk1 (shut_bool Try.underlying4 true), (trodAll_cons_mk k0 (trodAll_cons_mk k1 trodAll_mk0)), rfl, hb.toBelow.frame _, fun h => by cases h⟩


set_option maxRecDepth 100000 in
theorem lifted_FnExactSpringEdges (os : Os) (started : os.Started) (H : Type) (enc : TypeId × Value → H) :
    ReturnsInHanded {} Try.checked os 9 .any (Rows.fnExactSpringEdgesSpec.pre6 enc Try.prog Try.f9 Rows.fnExactSpringEdgesRow.domain false) (Rows.fnExactSpringEdgesSpec.post enc Try.prog Try.f9 false true false false) := by
  refine returnsInHanded_of_change (C := Try.checked) own_FnExactSpringEdges started (by kernel_rfl) Try.func9
    (ChangeSpec.witness6 (enc := enc) (C := Try.checked) false ⟨#[], #[.agg #[.slice none 0 0, .slice none 0 0], .float .f32 0], []⟩ 8 (by kernel_rfl) (by kernel_rfl) (by kernel_rfl) (by kernel_rfl)) ?_
  intro W base args ds gs before hval hW _ _
  exact contract_FnExactSpringEdges H enc W base args ds gs before hval hW


theorem fnExactSpringEdges_holds : Rows.FnExactSpringEdgesSaid :=
  OpenClaim.holds_of_wide 9 Try.f9 rfl rfl rfl rfl rfl rfl rfl ⟨rfl, rfl, rfl, rfl, rfl⟩ rfl rfl rfl rfl rfl (by kernel_rfl) Try.func9 (by kernel_rfl)
    (of_decide_eq_true (by kernel_rfl)) (by unfold Func.isWrapper; first | (rw [if_pos (by decide +kernel)]; kernel_rfl) | (rw [if_neg (by decide +kernel)]; exact ⟨rfl, rfl⟩))
    (fun os started H enc _ => lifted_FnExactSpringEdges os started H enc)

end Go.Proofs.Ytiihcpcabmamiaa
