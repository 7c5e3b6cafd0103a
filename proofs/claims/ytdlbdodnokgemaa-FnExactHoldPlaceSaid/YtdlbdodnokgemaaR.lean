/- The law 'FnExactHoldPlace' holds: whatever its arguments, the call returns true, and they read behind it as they did before. No condition. -/
import Derived.Test.YtdlbdodnokgemaaB1
import Derived.Handed
import Derived.Carry
import Derived.SizedLaws
namespace Go.Ab
open Go.RowKit

theorem op_2 : Opn Go.Proofs.Try.prog 2 (cI .i64) (fun (x : Int) => (Lit.int .i64 x).wf = true) := opn_int Go.Proofs.Try.underlying2

theorem op_22 : Opn Go.Proofs.Try.prog 22 (cF .f32) (fun (x : Nat) => (Wd .f32 x ∧ cn .f32 x = x)) := opn_float Go.Proofs.Try.underlying22

theorem op_29 : Opn Go.Proofs.Try.prog 29 GVector.cells (fun (x : GVector) => ((Wd .f32 x.X ∧ cn .f32 x.X = x.X) ∧ (Wd .f32 x.Y ∧ cn .f32 x.Y = x.Y) ∧ (Wd .f32 x.Z ∧ cn .f32 x.Z = x.Z) ∧ True)) := opn_struct (fun x => ⟨x.1, x.2.1, x.2.2.1⟩) Go.Proofs.Try.underlying29 (fs := [(22, 1), (22, 1), (22, 1)]) (by kernel_rfl) (by kernel_rfl) (opnF_cons op_22 (opnF_cons op_22 (opnF_cons op_22 opnF_nil))) (fun _ => rfl) (fun _ h => h)

theorem op_31 : Opn Go.Proofs.Try.prog 31 GHold.cells (fun (x : GHold) => ((Lit.int .i64 x.Place).wf = true ∧ (Lit.int .i64 x.Kind).wf = true ∧ ((Wd .f32 x.At.X ∧ cn .f32 x.At.X = x.At.X) ∧ (Wd .f32 x.At.Y ∧ cn .f32 x.At.Y = x.At.Y) ∧ (Wd .f32 x.At.Z ∧ cn .f32 x.At.Z = x.At.Z) ∧ True) ∧ ((Wd .f32 x.Way.X ∧ cn .f32 x.Way.X = x.Way.X) ∧ (Wd .f32 x.Way.Y ∧ cn .f32 x.Way.Y = x.Way.Y) ∧ (Wd .f32 x.Way.Z ∧ cn .f32 x.Way.Z = x.Way.Z) ∧ True) ∧ True)) := opn_struct (fun x => ⟨x.1, x.2.1, x.2.2.1, x.2.2.2.1⟩) Go.Proofs.Try.underlying31 (fs := [(2, 1), (2, 1), (29, 3), (29, 3)]) (by kernel_rfl) (by kernel_rfl) (opnF_cons op_2 (opnF_cons op_2 (opnF_cons op_29 (opnF_cons op_29 opnF_nil)))) (fun _ => rfl) (fun _ h => h)

end Go.Ab

namespace Go.Proofs.Ytdlbdodnokgemaa
open Go.ChangeShapes Go.WideShapes Go.ChangeAt Go.RowKit

theorem own_FnExactHoldPlace : ownKnob Go.Proofs.Try.prog.godebug = none := by kernel_rfl

theorem laidOut_FnExactHoldPlace : laidOutB Go.Proofs.Try.prog = true := by kernel_rfl

set_option maxRecDepth 1000000 in
theorem contract_FnExactHoldPlace (H : Type) (enc : TypeId × Value → H) (W : World) (base : Nat) (args : Array Value) (ds gs : List (DataW H)) (before : List MemPlace)
    (hval : ∀ (j : Nat) t v, Try.f10.params[j]? = some t → args[j]? = some v → Value.okWide Try.prog W .any base t v)
    (hW : DataW.Whole enc Try.prog Try.f10.params.toList Rows.fnExactHoldPlaceSpec.vars false W args.toList ds gs before) :
    Calls Try.prog 10 args W fun e W' => ∃ v, e = .returned v ∧ Rows.fnExactHoldPlaceSpec.post enc Try.prog Try.f10 false true false false W args v W' := by
  have hW' := hW
  obtain ⟨p, q, hA0, hV, rfl, hfz, hnd⟩ := hW
  have hA : DataW.TrodAll enc Try.prog W 0 (fun _ => true) true Try.f10.params.toList args.toList ds p := hA0
  rw [Try.params10] at hA hval
  obtain ⟨v0, vs0, d0, ds0, p0, q0, hargs0, rfl, rfl, h0, r0⟩ := trodAll_cons hA
  obtain ⟨v1, vs1, d1, ds1, p1, q1, hargs1, rfl, rfl, h1, r1⟩ := trodAll_cons r0
  obtain ⟨hnil, rfl, rfl⟩ := trodAll_nil r1
  obtain rfl : args = #[v0, v1] := by cases args; simp_all
  obtain ⟨rfl, rfl⟩ := trodVars_none hV
  have w0 : Value.okWide Try.prog W .any base 31 v0 := hval 0 31 v0 rfl rfl
  obtain ⟨a0, b0, rep0⟩ := Go.Ab.arg_agg Go.Ab.op_31 Try.underlying31 w0 h0
  have w1 : Value.okWide Try.prog W .any base 29 v1 := hval 1 29 v1 rfl rfl
  obtain ⟨a1, b1, rep1⟩ := Go.Ab.arg_agg Go.Ab.op_29 Try.underlying29 w1 h1
  have hT := Go.Ab.t_laws_FnExactHoldPlace a0 a1
  rw [Go.Ab.true_laws_FnExactHoldPlace a0 a1] at hT
  clear hA0
  simp only [List.append_nil] at hW'
  refine (hT.2 W #[v0, v1] ⟨rfl, fun j c e => ?_⟩).mono fun e W' ⟨v, μ', he, hb, _, hr⟩ => ?_
  · match j, e with
    | 0, e => simp at e; subst e; exact rep0
    | 1, e => simp at e; subst e; exact rep1
  · subst he
    cases hr
    have k0 := Below.trod laidOut_FnExactHoldPlace (t := 31) (by kernel_rfl) (of_decide_eq_true (by kernel_rfl)) h0 hb (fun y hy => by simpa using hW'.lt y (by simp [hy]))
    have k1 := Below.trod laidOut_FnExactHoldPlace (t := 29) (by kernel_rfl) (of_decide_eq_true (by kernel_rfl)) h1 hb (fun y hy => by simpa using hW'.lt y (by simp [hy]))
    exact ⟨_, rfl, _, _, _, [], _, [], hW', trodAll_mk1 (shut_bool Try.underlying4 true), (trodAll_cons_mk k0 (trodAll_cons_mk k1 trodAll_mk0)), rfl, hb.frame _, fun h => by cases h⟩


set_option maxRecDepth 100000 in
theorem lifted_FnExactHoldPlace (os : Os) (started : os.Started) (H : Type) (enc : TypeId × Value → H) :
    ReturnsInHanded {} Try.checked os 10 .any (Rows.fnExactHoldPlaceSpec.pre6 enc Try.prog Try.f10 Rows.fnExactHoldPlaceRow.domain false) (Rows.fnExactHoldPlaceSpec.post enc Try.prog Try.f10 false true false false) := by
  refine returnsInHanded_of_change (C := Try.checked) own_FnExactHoldPlace started (by kernel_rfl) Try.func10
    (ChangeSpec.witness6 (enc := enc) (C := Try.checked) false ⟨#[], #[.agg #[.int .i64 0, .int .i64 0, .float .f32 0, .float .f32 0, .float .f32 0, .float .f32 0, .float .f32 0, .float .f32 0], .agg #[.float .f32 0, .float .f32 0, .float .f32 0]], []⟩ 8 (by kernel_rfl) (by kernel_rfl) (by kernel_rfl) (by kernel_rfl)) ?_
  intro W base args ds gs before hval hW _ _
  exact contract_FnExactHoldPlace H enc W base args ds gs before hval hW


theorem fnExactHoldPlace_holds : Rows.FnExactHoldPlaceSaid :=
  OpenClaim.holds_of_wide 10 Try.f10 rfl rfl rfl rfl rfl rfl rfl ⟨rfl, rfl, rfl, rfl, rfl⟩ rfl rfl rfl rfl rfl (by kernel_rfl) Try.func10 (by kernel_rfl)
    (of_decide_eq_true (by kernel_rfl)) (by unfold Func.isWrapper; first | (rw [if_pos (by decide +kernel)]; kernel_rfl) | (rw [if_neg (by decide +kernel)]; exact ⟨rfl, rfl⟩))
    (fun os started H enc _ => lifted_FnExactHoldPlace os started H enc)

end Go.Proofs.Ytdlbdodnokgemaa
