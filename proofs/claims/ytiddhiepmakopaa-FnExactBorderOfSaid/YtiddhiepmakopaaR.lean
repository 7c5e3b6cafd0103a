/- The law 'FnExactBorderOf' holds: whatever its arguments, the call returns true, and they read behind it as they did before. No condition. -/
import Derived.Test.YtiddhiepmakopaaB4
import Derived.Handed
import Derived.Carry
import Derived.SizedLaws
namespace Go.Ab
open Go.RowKit

theorem YY : Opn Go.Proofs.Try.prog 22 (cF .f32) (fun (x : Nat) => (Wd .f32 x ∧ cn .f32 x = x)) := X7b Go.Proofs.Try.underlying22

theorem op_112 : Opn Go.Proofs.Try.prog 112 Gv.c (fun (x : Gv) => ((Wd .f32 x.X ∧ cn .f32 x.X = x.X) ∧ (Wd .f32 x.Y ∧ cn .f32 x.Y = x.Y) ∧ (Wd .f32 x.Z ∧ cn .f32 x.Z = x.Z) ∧ True)) := X3V (fun x => ⟨x.1, x.2.1, x.2.2.1⟩) Go.Proofs.Try.underlying112 (fs := [(22, 1), (22, 1), (22, 1)]) (by kernel_rfl) (by kernel_rfl) (X1P YY (X1P YY (X1P YY X5H))) (fun _ => rfl) (fun _ h => h)

theorem op_28 : Opn Go.Proofs.Try.prog 28 (cL Gv.c) (fun (x : (List Gv)) => (x.length ≤ 9223372036854775807 ∧ ∀ a28 ∈ x, ((Wd .f32 a28.X ∧ cn .f32 a28.X = a28.X) ∧ (Wd .f32 a28.Y ∧ cn .f32 a28.Y = a28.Y) ∧ (Wd .f32 a28.Z ∧ cn .f32 a28.Z = a28.Z) ∧ True))) := X37 Go.Proofs.Try.underlying28 (n := 3) (by kernel_rfl) (by decide) op_112

theorem op_2 : Opn Go.Proofs.Try.prog 2 (cI .i64) (fun (x : Int) => (Lit.int .i64 x).wf = true) := X7P Go.Proofs.Try.underlying2

theorem op_79 : Opn Go.Proofs.Try.prog 79 (cL (cI .i64)) (fun (x : (List Int)) => (x.length ≤ 9223372036854775807 ∧ ∀ a79 ∈ x, (Lit.int .i64 a79).wf = true)) := X37 Go.Proofs.Try.underlying79 (n := 1) (by kernel_rfl) (by decide) op_2

theorem op_29 : Opn Go.Proofs.Try.prog 29 (cL (cL (cI .i64))) (fun (x : (List (List Int))) => (x.length ≤ 9223372036854775807 ∧ ∀ a29 ∈ x, (a29.length ≤ 9223372036854775807 ∧ ∀ a79 ∈ a29, (Lit.int .i64 a79).wf = true))) := X37 Go.Proofs.Try.underlying29 (n := 1) (by kernel_rfl) (by decide) op_79

theorem op_31 : Opn Go.Proofs.Try.prog 31 Gm.c (fun (x : Gm) => ((x.Pq.length ≤ 9223372036854775807 ∧ ∀ a28 ∈ x.Pq, ((Wd .f32 a28.X ∧ cn .f32 a28.X = a28.X) ∧ (Wd .f32 a28.Y ∧ cn .f32 a28.Y = a28.Y) ∧ (Wd .f32 a28.Z ∧ cn .f32 a28.Z = a28.Z) ∧ True)) ∧ (x.Tr.length ≤ 9223372036854775807 ∧ ∀ a29 ∈ x.Tr, (a29.length ≤ 9223372036854775807 ∧ ∀ a79 ∈ a29, (Lit.int .i64 a79).wf = true)) ∧ True)) := X3V (fun x => ⟨x.1, x.2.1⟩) Go.Proofs.Try.underlying31 (fs := [(28, 1), (29, 1)]) (by kernel_rfl) (by kernel_rfl) (X1P op_28 (X1P op_29 X5H)) (fun _ => rfl) (fun _ h => h)

end Go.Ab

namespace Go.Proofs.Ytiddhiepmakopaa
open Go.ChangeShapes Go.WideShapes Go.ChangeAt Go.RowKit

theorem own_FnExactBorderOf : ownKnob Go.Proofs.Try.prog.godebug = none := by kernel_rfl

theorem laidOut_FnExactBorderOf : laidOutB Go.Proofs.Try.prog = true := by kernel_rfl

set_option maxRecDepth 1000000 in
theorem contract_FnExactBorderOf (H : Type) (enc : TypeId × Value → H) (W : World) (base : Nat) (args : Array Value) (ds gs : List (DataW H)) (before : List MemPlace)
    (hval : ∀ (j : Nat) t v, Try.f6.params[j]? = some t → args[j]? = some v → Value.okWide Try.prog W .any base t v)
    (hW : DataW.Whole enc Try.prog Try.f6.params.toList Rows.fnExactBorderOfSpec.vars false W args.toList ds gs before) :
    Calls Try.prog 6 args W fun e W' => ∃ v, e = .returned v ∧ Rows.fnExactBorderOfSpec.post enc Try.prog Try.f6 false true false false W args v W' := by
  have hW' := hW
  obtain ⟨p, q, hA0, hV, rfl, hfz, hnd⟩ := hW
  have hA : DataW.TrodAll enc Try.prog W 0 (fun _ => true) true Try.f6.params.toList args.toList ds p := hA0
  rw [Try.params6] at hA hval
  obtain ⟨v0, vs0, d0, ds0, p0, q0, hargs0, rfl, rfl, h0, r0⟩ := trodAll_cons hA
  obtain ⟨hnil, rfl, rfl⟩ := trodAll_nil r0
  obtain rfl : args = #[v0] := by cases args; simp_all
  obtain ⟨rfl, rfl⟩ := trodVars_none hV
  have w0 : Value.okWide Try.prog W .any base 31 v0 := hval 0 31 v0 rfl rfl
  obtain ⟨a0, b0, rep0⟩ := Go.Ab.X7Q Go.Ab.op_31 Try.underlying31 w0 h0
  have hT := Go.Ab.Z43 a0 b0.1.1 b0.2.1.1 (fun t ht => (b0.2.1.2 t ht).1)
  rw [Go.Ab.Z3I a0 b0.1.1 b0.2.1.1 (fun t ht => (b0.2.1.2 t ht).1)] at hT
  clear hA0
  simp only [List.append_nil] at hW'
  refine (hT.2 W #[v0] ⟨rfl, fun j c e => ?_⟩).mono fun e W' ⟨v, μ', he, hb, _, hr⟩ => ?_
  · match j, e with
    | 0, e => simp at e; subst e; exact rep0
  · subst he
    cases hr
    have k0 := Below.trod laidOut_FnExactBorderOf (t := 31) (by kernel_rfl) (of_decide_eq_true (by kernel_rfl)) h0 hb.toBelow (fun y hy => by simpa using hW'.lt y (by simp [hy]))
    exact ⟨_, rfl, _, _, _, [], _, [], hW', trodAll_mk1 (shut_bool Try.underlying4 true), (trodAll_cons_mk k0 trodAll_mk0), rfl, hb.toBelow.frame _, fun h => by cases h⟩


set_option maxRecDepth 100000 in
theorem lifted_FnExactBorderOf (os : Os) (started : os.Started) (H : Type) (enc : TypeId × Value → H) :
    ReturnsInHanded {} Try.checked os 6 .any (Rows.fnExactBorderOfSpec.pre6 enc Try.prog Try.f6 Rows.fnExactBorderOfRow.domain false) (Rows.fnExactBorderOfSpec.post enc Try.prog Try.f6 false true false false) := by
  refine returnsInHanded_of_change (C := Try.checked) own_FnExactBorderOf started (by kernel_rfl) Try.func6
    (ChangeSpec.witness6 (enc := enc) (C := Try.checked) false ⟨#[], #[.agg #[.slice none 0 0, .slice none 0 0]], []⟩ 8 (by kernel_rfl) (by kernel_rfl) (by kernel_rfl) (by kernel_rfl)) ?_
  intro W base args ds gs before hval hW _ _
  exact contract_FnExactBorderOf H enc W base args ds gs before hval hW


theorem fnExactBorderOf_holds : Rows.FnExactBorderOfSaid :=
  OpenClaim.holds_of_wide 6 Try.f6 rfl rfl rfl rfl rfl rfl rfl ⟨rfl, rfl, rfl, rfl, rfl⟩ rfl rfl rfl rfl rfl (by kernel_rfl) Try.func6 (by kernel_rfl)
    (of_decide_eq_true (by kernel_rfl)) (by unfold Func.isWrapper; first | (rw [if_pos (by decide +kernel)]; kernel_rfl) | (rw [if_neg (by decide +kernel)]; exact ⟨rfl, rfl⟩))
    (fun os started H enc _ => lifted_FnExactBorderOf os started H enc)

end Go.Proofs.Ytiddhiepmakopaa
