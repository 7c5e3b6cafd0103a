/- The law 'FnSlopes' holds: whatever its arguments, the call returns true, and they read behind it as they did before. No condition. -/
import Derived.Test.YtoibkmljibnjnaaB9
import Derived.Handed
import Derived.Carry
import Derived.SizedLaws
namespace Go.Ab
open Go.RowKit

theorem op_5 : Opn Go.Proofs.Try.prog 5 (cI .u8) (fun (x : Int) => (Lit.int .u8 x).wf = true) := Xa8 Go.Proofs.Try.underlying5

theorem op_22 : Opn Go.Proofs.Try.prog 22 (cL (cI .u8)) (fun (x : (List Int)) => (x.length ≤ 9223372036854775807 ∧ ∀ a22 ∈ x, (Lit.int .u8 a22).wf = true)) := X96 Go.Proofs.Try.underlying22 (n := 1) (by kernel_rfl) (by decide) op_5

end Go.Ab

namespace Go.Proofs.Ytoibkmljibnjnaa
open Go.ChangeShapes Go.WideShapes Go.ChangeAt Go.RowKit

theorem own_FnSlopes : ownKnob Go.Proofs.Try.prog.godebug = none := by kernel_rfl

theorem laidOut_FnSlopes : laidOutB Go.Proofs.Try.prog = true := by kernel_rfl

set_option maxRecDepth 1000000 in
theorem contract_FnSlopes (H : Type) (enc : TypeId × Value → H) (W : World) (base : Nat) (args : Array Value) (ds gs : List (DataW H)) (before : List MemPlace)
    (hval : ∀ (j : Nat) t v, Try.f3.params[j]? = some t → args[j]? = some v → Value.okWide Try.prog W .any base t v)
    (hW : DataW.Whole enc Try.prog Try.f3.params.toList Rows.fnSlopesSpec.vars false W args.toList ds gs before) :
    Calls Try.prog 3 args W fun e W' => ∃ v, e = .returned v ∧ Rows.fnSlopesSpec.post enc Try.prog Try.f3 false true false false W args v W' := by
  have hW' := hW
  obtain ⟨p, q, hA0, hV, rfl, hfz, hnd⟩ := hW
  have hA : DataW.TrodAll enc Try.prog W 0 (fun _ => true) true Try.f3.params.toList args.toList ds p := hA0
  rw [Try.params3] at hA hval
  obtain ⟨v0, vs0, d0, ds0, p0, q0, hargs0, rfl, rfl, h0, r0⟩ := trodAll_cons hA
  obtain ⟨v1, vs1, d1, ds1, p1, q1, hargs1, rfl, rfl, h1, r1⟩ := trodAll_cons r0
  obtain ⟨hnil, rfl, rfl⟩ := trodAll_nil r1
  obtain rfl : args = #[v0, v1] := by cases args; simp_all
  obtain ⟨rfl, rfl⟩ := trodVars_none hV
  have w0 : Value.okWide Try.prog W .any base 22 v0 := hval 0 22 v0 rfl rfl
  obtain ⟨a0, b0, rep0'⟩ := Go.Ab.arg_one Go.Ab.op_22 (by intro desc hd; rw [Try.underlying22] at hd; cases hd; rfl) w0 h0
  have rep0 := rep0' _ rfl
  have w1 : Value.okWide Try.prog W .any base 22 v1 := hval 1 22 v1 rfl rfl
  obtain ⟨a1, b1, rep1'⟩ := Go.Ab.arg_one Go.Ab.op_22 (by intro desc hd; rw [Try.underlying22] at hd; cases hd; rfl) w1 h1
  have rep1 := rep1' _ rfl
  have hT := Go.Ab.Z7y a0 a1 b0.1 b1.1 (Go.Ab.X58 b0.2) (Go.Ab.X58 b1.2)
  rw [Go.Ab.Z6N a0 a1 b0.1 b1.1 b0 b1] at hT
  clear hA0
  simp only [List.append_nil] at hW'
  refine (hT.2 W #[v0, v1] ⟨rfl, fun j c e => ?_⟩).mono fun e W' ⟨v, μ', he, hb, _, hr⟩ => ?_
  · match j, e with
    | 0, e => simp at e; subst e; exact rep0
    | 1, e => simp at e; subst e; exact rep1
  · subst he
    cases hr
    have k0 := Below.trod laidOut_FnSlopes (t := 22) (by kernel_rfl) (of_decide_eq_true (by kernel_rfl)) h0 hb.toBelow (fun y hy => by simpa using hW'.lt y (by simp [hy]))
    have k1 := Below.trod laidOut_FnSlopes (t := 22) (by kernel_rfl) (of_decide_eq_true (by kernel_rfl)) h1 hb.toBelow (fun y hy => by simpa using hW'.lt y (by simp [hy]))
    exact ⟨_, rfl, _, _, _, [], _, [], hW', trodAll_mk1 (shut_bool Try.underlying4 true), (trodAll_cons_mk k0 (trodAll_cons_mk k1 trodAll_mk0)), rfl, hb.toBelow.frame _, fun h => by cases h⟩


set_option maxRecDepth 100000 in
theorem lifted_FnSlopes (os : Os) (started : os.Started) (H : Type) (enc : TypeId × Value → H) :
    ReturnsInHanded {} Try.checked os 3 .any (Rows.fnSlopesSpec.pre6 enc Try.prog Try.f3 Rows.fnSlopesRow.domain false) (Rows.fnSlopesSpec.post enc Try.prog Try.f3 false true false false) := by
  refine returnsInHanded_of_change (C := Try.checked) own_FnSlopes started (by kernel_rfl) Try.func3
    (ChangeSpec.witness6 (enc := enc) (C := Try.checked) false ⟨#[], #[.slice none 0 0, .slice none 0 0], []⟩ 8 (by kernel_rfl) (by kernel_rfl) (by kernel_rfl) (by kernel_rfl)) ?_
  intro W base args ds gs before hval hW _ _
  exact contract_FnSlopes H enc W base args ds gs before hval hW


theorem fnSlopes_holds : Rows.FnSlopesSaid :=
  OpenClaim.holds_of_wide 3 Try.f3 rfl rfl rfl rfl rfl rfl rfl ⟨rfl, rfl, rfl, rfl, rfl⟩ rfl rfl rfl rfl rfl (by kernel_rfl) Try.func3 (by kernel_rfl)
    (of_decide_eq_true (by kernel_rfl)) (by unfold Func.isWrapper; first | (rw [if_pos (by decide +kernel)]; kernel_rfl) | (rw [if_neg (by decide +kernel)]; exact ⟨rfl, rfl⟩))
    (fun os started H enc _ => lifted_FnSlopes os started H enc)

end Go.Proofs.Ytoibkmljibnjnaa
