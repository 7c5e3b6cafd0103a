/- The law 'FnExactBallMesh' holds: whatever its arguments, the call returns true, and they read behind it as they did before. No condition. -/
import Derived.Test.YtiddhiepmakopaaB5
import Derived.Handed
import Derived.Carry
import Derived.SizedLaws
namespace Go.Ab
open Go.RowKit

theorem op_2 : Opn Go.Proofs.Try.prog 2 (cI .i64) (fun (x : Int) => (Lit.int .i64 x).wf = true) := X7O Go.Proofs.Try.underlying2

theorem op_22 : Opn Go.Proofs.Try.prog 22 (cF .f32) (fun (x : Nat) => (Wd .f32 x ∧ cn .f32 x = x)) := X70 Go.Proofs.Try.underlying22

end Go.Ab

namespace Go.Proofs.Ytiddhiepmakopaa
open Go.ChangeShapes Go.WideShapes Go.ChangeAt Go.RowKit

theorem own_FnExactBallMesh : ownKnob Go.Proofs.Try.prog.godebug = none := by kernel_rfl

theorem laidOut_FnExactBallMesh : laidOutB Go.Proofs.Try.prog = true := by kernel_rfl

set_option maxRecDepth 1000000 in
theorem contract_FnExactBallMesh (H : Type) (enc : TypeId × Value → H) (W : World) (base : Nat) (args : Array Value) (ds gs : List (DataW H)) (before : List MemPlace)
    (hval : ∀ (j : Nat) t v, Try.f7.params[j]? = some t → args[j]? = some v → Value.okWide Try.prog W .any base t v)
    (hW : DataW.Whole enc Try.prog Try.f7.params.toList Rows.fnExactBallMeshSpec.vars false W args.toList ds gs before) :
    Calls Try.prog 7 args W fun e W' => ∃ v, e = .returned v ∧ Rows.fnExactBallMeshSpec.post enc Try.prog Try.f7 false true false false W args v W' := by
  have hW' := hW
  obtain ⟨p, q, hA0, hV, rfl, hfz, hnd⟩ := hW
  have hA : DataW.TrodAll enc Try.prog W 0 (fun _ => true) true Try.f7.params.toList args.toList ds p := hA0
  rw [Try.params7] at hA hval
  obtain ⟨v0, vs0, d0, ds0, p0, q0, hargs0, rfl, rfl, h0, r0⟩ := trodAll_cons hA
  obtain ⟨v1, vs1, d1, ds1, p1, q1, hargs1, rfl, rfl, h1, r1⟩ := trodAll_cons r0
  obtain ⟨hnil, rfl, rfl⟩ := trodAll_nil r1
  obtain rfl : args = #[v0, v1] := by cases args; simp_all
  obtain ⟨rfl, rfl⟩ := trodVars_none hV
  have w0 : Value.okWide Try.prog W .any base 2 v0 := hval 0 2 v0 rfl rfl
  obtain ⟨a0, b0, rep0'⟩ := Go.Ab.arg_one Go.Ab.op_2 (by intro desc hd; rw [Try.underlying2] at hd; cases hd; rfl) w0 h0
  have rep0 := rep0' _ rfl
  have w1 : Value.okWide Try.prog W .any base 22 v1 := hval 1 22 v1 rfl rfl
  obtain ⟨a1, b1, rep1'⟩ := Go.Ab.arg_one Go.Ab.op_22 (by intro desc hd; rw [Try.underlying22] at hd; cases hd; rfl) w1 h1
  have rep1 := rep1' _ rfl
  have hT := Go.Ab.Z4F a0 a1
  rw [Go.Ab.Z4h a0 a1] at hT
  clear hA0
  simp only [List.append_nil] at hW'
  refine (hT.2 W #[v0, v1] ⟨rfl, fun j c e => ?_⟩).mono fun e W' ⟨v, μ', he, hb, _, hr⟩ => ?_
  · match j, e with
    | 0, e => simp at e; subst e; exact rep0
    | 1, e => simp at e; subst e; exact rep1
  · subst he
    cases hr
    have k0 := Below.trod laidOut_FnExactBallMesh (t := 2) (by kernel_rfl) (of_decide_eq_true (by kernel_rfl)) h0 hb.toBelow (fun y hy => by simpa using hW'.lt y (by simp [hy]))
    have k1 := Below.trod laidOut_FnExactBallMesh (t := 22) (by kernel_rfl) (of_decide_eq_true (by kernel_rfl)) h1 hb.toBelow (fun y hy => by simpa using hW'.lt y (by simp [hy]))
    exact ⟨_, rfl, _, _, _, [], _, [], hW', trodAll_mk1 (shut_bool Try.underlying4 true), (trodAll_cons_mk k0 (trodAll_cons_mk k1 trodAll_mk0)), rfl, hb.toBelow.frame _, fun h => by cases h⟩


set_option maxRecDepth 100000 in
theorem lifted_FnExactBallMesh (os : Os) (started : os.Started) (H : Type) (enc : TypeId × Value → H) :
    ReturnsInHanded {} Try.checked os 7 .any (Rows.fnExactBallMeshSpec.pre6 enc Try.prog Try.f7 Rows.fnExactBallMeshRow.domain false) (Rows.fnExactBallMeshSpec.post enc Try.prog Try.f7 false true false false) := by
  refine returnsInHanded_of_change (C := Try.checked) own_FnExactBallMesh started (by kernel_rfl) Try.func7
    (ChangeSpec.witness6 (enc := enc) (C := Try.checked) false ⟨#[], #[.int .i64 0, .float .f32 0], []⟩ 8 (by kernel_rfl) (by kernel_rfl) (by kernel_rfl) (by kernel_rfl)) ?_
  intro W base args ds gs before hval hW _ _
  exact contract_FnExactBallMesh H enc W base args ds gs before hval hW


theorem fnExactBallMesh_holds : Rows.FnExactBallMeshSaid :=
  OpenClaim.holds_of_wide 7 Try.f7 rfl rfl rfl rfl rfl rfl rfl ⟨rfl, rfl, rfl, rfl, rfl⟩ rfl rfl rfl rfl rfl (by kernel_rfl) Try.func7 (by kernel_rfl)
    (of_decide_eq_true (by kernel_rfl)) (by unfold Func.isWrapper; first | (rw [if_pos (by decide +kernel)]; kernel_rfl) | (rw [if_neg (by decide +kernel)]; exact ⟨rfl, rfl⟩))
    (fun os started H enc _ => lifted_FnExactBallMesh os started H enc)

end Go.Proofs.Ytiddhiepmakopaa
