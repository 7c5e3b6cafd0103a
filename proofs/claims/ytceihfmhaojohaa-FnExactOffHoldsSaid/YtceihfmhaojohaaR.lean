/- The law 'FnExactOffHolds' holds: whatever its arguments, the call returns true, and they read behind it as they did before. No condition. -/
import Derived.Test.YtceihfmhaojohaaB6
import Derived.Handed
import Derived.Carry
import Derived.SizedLaws
namespace Go.Ab
open Go.RowKit

theorem op_29 : Opn Go.Proofs.Try.prog 29 (cF .f32) (fun (x : Nat) => (Wd .f32 x ∧ cn .f32 x = x)) := opn_float Go.Proofs.Try.underlying29

theorem op_50 : Opn Go.Proofs.Try.prog 50 GVector.cells (fun (x : GVector) => ((Wd .f32 x.X ∧ cn .f32 x.X = x.X) ∧ (Wd .f32 x.Y ∧ cn .f32 x.Y = x.Y) ∧ (Wd .f32 x.Z ∧ cn .f32 x.Z = x.Z) ∧ True)) := opn_struct (fun x => ⟨x.1, x.2.1, x.2.2.1⟩) Go.Proofs.Try.underlying50 (fs := [(29, 1), (29, 1), (29, 1)]) (by kernel_rfl) (by kernel_rfl) (opnF_cons op_29 (opnF_cons op_29 (opnF_cons op_29 opnF_nil))) (fun _ => rfl) (fun _ h => h)

theorem op_22 : Opn Go.Proofs.Try.prog 22 (cL GVector.cells) (fun (x : (List GVector)) => (x.length ≤ 9223372036854775807 ∧ ∀ a22 ∈ x, ((Wd .f32 a22.X ∧ cn .f32 a22.X = a22.X) ∧ (Wd .f32 a22.Y ∧ cn .f32 a22.Y = a22.Y) ∧ (Wd .f32 a22.Z ∧ cn .f32 a22.Z = a22.Z) ∧ True))) := opn_slice Go.Proofs.Try.underlying22 (n := 3) (by kernel_rfl) (by decide) op_50

theorem op_2 : Opn Go.Proofs.Try.prog 2 (cI .i64) (fun (x : Int) => (Lit.int .i64 x).wf = true) := opn_int Go.Proofs.Try.underlying2

theorem op_141 : Opn Go.Proofs.Try.prog 141 (cL (cI .i64)) (fun (x : (List Int)) => (x.length ≤ 9223372036854775807 ∧ ∀ a141 ∈ x, (Lit.int .i64 a141).wf = true)) := opn_slice Go.Proofs.Try.underlying141 (n := 1) (by kernel_rfl) (by decide) op_2

theorem op_23 : Opn Go.Proofs.Try.prog 23 (cL (cL (cI .i64))) (fun (x : (List (List Int))) => (x.length ≤ 9223372036854775807 ∧ ∀ a23 ∈ x, (a23.length ≤ 9223372036854775807 ∧ ∀ a141 ∈ a23, (Lit.int .i64 a141).wf = true))) := opn_slice Go.Proofs.Try.underlying23 (n := 1) (by kernel_rfl) (by decide) op_141

theorem op_25 : Opn Go.Proofs.Try.prog 25 GMesh.cells (fun (x : GMesh) => ((x.Places.length ≤ 9223372036854775807 ∧ ∀ a22 ∈ x.Places, ((Wd .f32 a22.X ∧ cn .f32 a22.X = a22.X) ∧ (Wd .f32 a22.Y ∧ cn .f32 a22.Y = a22.Y) ∧ (Wd .f32 a22.Z ∧ cn .f32 a22.Z = a22.Z) ∧ True)) ∧ (x.Triangles.length ≤ 9223372036854775807 ∧ ∀ a23 ∈ x.Triangles, (a23.length ≤ 9223372036854775807 ∧ ∀ a141 ∈ a23, (Lit.int .i64 a141).wf = true)) ∧ True)) := opn_struct (fun x => ⟨x.1, x.2.1⟩) Go.Proofs.Try.underlying25 (fs := [(22, 1), (23, 1)]) (by kernel_rfl) (by kernel_rfl) (opnF_cons op_22 (opnF_cons op_23 opnF_nil)) (fun _ => rfl) (fun _ h => h)

theorem op_98 : Opn Go.Proofs.Try.prog 98 GHold.cells (fun (x : GHold) => ((Lit.int .i64 x.Place).wf = true ∧ (Lit.int .i64 x.Kind).wf = true ∧ ((Wd .f32 x.At.X ∧ cn .f32 x.At.X = x.At.X) ∧ (Wd .f32 x.At.Y ∧ cn .f32 x.At.Y = x.At.Y) ∧ (Wd .f32 x.At.Z ∧ cn .f32 x.At.Z = x.At.Z) ∧ True) ∧ ((Wd .f32 x.Way.X ∧ cn .f32 x.Way.X = x.Way.X) ∧ (Wd .f32 x.Way.Y ∧ cn .f32 x.Way.Y = x.Way.Y) ∧ (Wd .f32 x.Way.Z ∧ cn .f32 x.Way.Z = x.Way.Z) ∧ True) ∧ True)) := opn_struct (fun x => ⟨x.1, x.2.1, x.2.2.1, x.2.2.2.1⟩) Go.Proofs.Try.underlying98 (fs := [(2, 1), (2, 1), (50, 3), (50, 3)]) (by kernel_rfl) (by kernel_rfl) (opnF_cons op_2 (opnF_cons op_2 (opnF_cons op_50 (opnF_cons op_50 opnF_nil)))) (fun _ => rfl) (fun _ h => h)

theorem op_26 : Opn Go.Proofs.Try.prog 26 (cL GHold.cells) (fun (x : (List GHold)) => (x.length ≤ 9223372036854775807 ∧ ∀ a26 ∈ x, ((Lit.int .i64 a26.Place).wf = true ∧ (Lit.int .i64 a26.Kind).wf = true ∧ ((Wd .f32 a26.At.X ∧ cn .f32 a26.At.X = a26.At.X) ∧ (Wd .f32 a26.At.Y ∧ cn .f32 a26.At.Y = a26.At.Y) ∧ (Wd .f32 a26.At.Z ∧ cn .f32 a26.At.Z = a26.At.Z) ∧ True) ∧ ((Wd .f32 a26.Way.X ∧ cn .f32 a26.Way.X = a26.Way.X) ∧ (Wd .f32 a26.Way.Y ∧ cn .f32 a26.Way.Y = a26.Way.Y) ∧ (Wd .f32 a26.Way.Z ∧ cn .f32 a26.Way.Z = a26.Way.Z) ∧ True) ∧ True))) := opn_slice Go.Proofs.Try.underlying26 (n := 8) (by kernel_rfl) (by decide) op_98

end Go.Ab

namespace Go.Proofs.Ytceihfmhaojohaa
open Go.ChangeShapes Go.WideShapes Go.ChangeAt Go.RowKit

theorem own_FnExactOffHolds : ownKnob Go.Proofs.Try.prog.godebug = none := by kernel_rfl

theorem laidOut_FnExactOffHolds : laidOutB Go.Proofs.Try.prog = true := by kernel_rfl

set_option maxRecDepth 1000000 in
theorem contract_FnExactOffHolds (H : Type) (enc : TypeId × Value → H) (W : World) (base : Nat) (args : Array Value) (ds gs : List (DataW H)) (before : List MemPlace)
    (hval : ∀ (j : Nat) t v, Try.f3.params[j]? = some t → args[j]? = some v → Value.okWide Try.prog W .any base t v)
    (hW : DataW.Whole enc Try.prog Try.f3.params.toList Rows.fnExactOffHoldsSpec.vars false W args.toList ds gs before) :
    Calls Try.prog 3 args W fun e W' => ∃ v, e = .returned v ∧ Rows.fnExactOffHoldsSpec.post enc Try.prog Try.f3 false true false false W args v W' := by
  have hW' := hW
  obtain ⟨p, q, hA0, hV, rfl, hfz, hnd⟩ := hW
  have hA : DataW.TrodAll enc Try.prog W 0 (fun _ => true) true Try.f3.params.toList args.toList ds p := hA0
  rw [Try.params3] at hA hval
  obtain ⟨v0, vs0, d0, ds0, p0, q0, hargs0, rfl, rfl, h0, r0⟩ := trodAll_cons hA
  obtain ⟨v1, vs1, d1, ds1, p1, q1, hargs1, rfl, rfl, h1, r1⟩ := trodAll_cons r0
  obtain ⟨hnil, rfl, rfl⟩ := trodAll_nil r1
  obtain rfl : args = #[v0, v1] := by cases args; simp_all
  obtain ⟨rfl, rfl⟩ := trodVars_none hV
  have w0 : Value.okWide Try.prog W .any base 25 v0 := hval 0 25 v0 rfl rfl
  obtain ⟨a0, b0, rep0⟩ := Go.Ab.arg_agg Go.Ab.op_25 Try.underlying25 w0 h0
  have w1 : Value.okWide Try.prog W .any base 26 v1 := hval 1 26 v1 rfl rfl
  obtain ⟨a1, b1, rep1'⟩ := Go.Ab.arg_one Go.Ab.op_26 (by intro desc hd; rw [Try.underlying26] at hd; cases hd; rfl) w1 h1
  have rep1 := rep1' _ rfl
  have hT := Go.Ab.t_laws_FnExactOffHolds a0 a1 b0.1.1 b0.2.1.1 (fun t ht => (b0.2.1.2 t ht).1) b1.1
  rw [Go.Ab.true_laws_FnExactOffHolds a0 a1 b0.1.1 b0.2.1.1 (fun t ht => (b0.2.1.2 t ht).1) b1.1] at hT
  clear hA0
  simp only [List.append_nil] at hW'
  refine (hT.2 W #[v0, v1] ⟨rfl, fun j c e => ?_⟩).mono fun e W' ⟨v, μ', he, hb, _, hr⟩ => ?_
  · match j, e with
    | 0, e => simp at e; subst e; exact rep0
    | 1, e => simp at e; subst e; exact rep1
  · subst he
    cases hr
    have k0 := Below.trod laidOut_FnExactOffHolds (t := 25) (by kernel_rfl) (of_decide_eq_true (by kernel_rfl)) h0 hb (fun y hy => by simpa using hW'.lt y (by simp [hy]))
    have k1 := Below.trod laidOut_FnExactOffHolds (t := 26) (by kernel_rfl) (of_decide_eq_true (by kernel_rfl)) h1 hb (fun y hy => by simpa using hW'.lt y (by simp [hy]))
    exact ⟨_, rfl, _, _, _, [], _, [], hW', trodAll_mk1 (shut_bool Try.underlying4 true), (trodAll_cons_mk k0 (trodAll_cons_mk k1 trodAll_mk0)), rfl, hb.frame _, fun h => by cases h⟩


set_option maxRecDepth 100000 in
theorem lifted_FnExactOffHolds (os : Os) (started : os.Started) (H : Type) (enc : TypeId × Value → H) :
    ReturnsInHanded {} Try.checked os 3 .any (Rows.fnExactOffHoldsSpec.pre6 enc Try.prog Try.f3 Rows.fnExactOffHoldsRow.domain false) (Rows.fnExactOffHoldsSpec.post enc Try.prog Try.f3 false true false false) := by
  refine returnsInHanded_of_change (C := Try.checked) own_FnExactOffHolds started (by kernel_rfl) Try.func3
    (ChangeSpec.witness6 (enc := enc) (C := Try.checked) false ⟨#[], #[.agg #[.slice none 0 0, .slice none 0 0], .slice none 0 0], []⟩ 8 (by kernel_rfl) (by kernel_rfl) (by kernel_rfl) (by kernel_rfl)) ?_
  intro W base args ds gs before hval hW _ _
  exact contract_FnExactOffHolds H enc W base args ds gs before hval hW


theorem fnExactOffHolds_holds : Rows.FnExactOffHoldsSaid :=
  OpenClaim.holds_of_wide 3 Try.f3 rfl rfl rfl rfl rfl rfl rfl ⟨rfl, rfl, rfl, rfl, rfl⟩ rfl rfl rfl rfl rfl (by kernel_rfl) Try.func3 (by kernel_rfl)
    (of_decide_eq_true (by kernel_rfl)) (by unfold Func.isWrapper; first | (rw [if_pos (by decide +kernel)]; kernel_rfl) | (rw [if_neg (by decide +kernel)]; exact ⟨rfl, rfl⟩))
    (fun os started H enc _ => lifted_FnExactOffHolds os started H enc)

end Go.Proofs.Ytceihfmhaojohaa
