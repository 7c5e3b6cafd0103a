/- The law 'FnExactEnergyOf' holds: whatever its arguments, the call returns true, and they read behind it as they did before. No condition. -/
import Derived.Test.YtiihcpcabmamiaaB7
import Derived.Handed
import Derived.Carry
import Derived.SizedLaws
namespace Go.Ab
open Go.RowKit

theorem op_38 : Opn Go.Proofs.Try.prog 38 (cF .f32) (fun (x : Nat) => (Wd .f32 x ∧ cn .f32 x = x)) := opn_float Go.Proofs.Try.underlying38

theorem op_60 : Opn Go.Proofs.Try.prog 60 GVector.cells (fun (x : GVector) => ((Wd .f32 x.X ∧ cn .f32 x.X = x.X) ∧ (Wd .f32 x.Y ∧ cn .f32 x.Y = x.Y) ∧ (Wd .f32 x.Z ∧ cn .f32 x.Z = x.Z) ∧ True)) := opn_struct (fun x => ⟨x.1, x.2.1, x.2.2.1⟩) Go.Proofs.Try.underlying60 (fs := [(38, 1), (38, 1), (38, 1)]) (by kernel_rfl) (by kernel_rfl) (opnF_cons op_38 (opnF_cons op_38 (opnF_cons op_38 opnF_nil))) (fun _ => rfl) (fun _ h => h)

theorem op_22 : Opn Go.Proofs.Try.prog 22 (cL GVector.cells) (fun (x : (List GVector)) => (x.length ≤ 9223372036854775807 ∧ ∀ a22 ∈ x, ((Wd .f32 a22.X ∧ cn .f32 a22.X = a22.X) ∧ (Wd .f32 a22.Y ∧ cn .f32 a22.Y = a22.Y) ∧ (Wd .f32 a22.Z ∧ cn .f32 a22.Z = a22.Z) ∧ True))) := opn_slice Go.Proofs.Try.underlying22 (n := 3) (by kernel_rfl) (by decide) op_60

theorem op_2 : Opn Go.Proofs.Try.prog 2 (cI .i64) (fun (x : Int) => (Lit.int .i64 x).wf = true) := opn_int Go.Proofs.Try.underlying2

theorem op_52 : Opn Go.Proofs.Try.prog 52 (cL (cI .i64)) (fun (x : (List Int)) => (x.length ≤ 9223372036854775807 ∧ ∀ a52 ∈ x, (Lit.int .i64 a52).wf = true)) := opn_slice Go.Proofs.Try.underlying52 (n := 1) (by kernel_rfl) (by decide) op_2

theorem op_23 : Opn Go.Proofs.Try.prog 23 (cL (cL (cI .i64))) (fun (x : (List (List Int))) => (x.length ≤ 9223372036854775807 ∧ ∀ a23 ∈ x, (a23.length ≤ 9223372036854775807 ∧ ∀ a52 ∈ a23, (Lit.int .i64 a52).wf = true))) := opn_slice Go.Proofs.Try.underlying23 (n := 1) (by kernel_rfl) (by decide) op_52

theorem op_25 : Opn Go.Proofs.Try.prog 25 GMesh.cells (fun (x : GMesh) => ((x.Places.length ≤ 9223372036854775807 ∧ ∀ a22 ∈ x.Places, ((Wd .f32 a22.X ∧ cn .f32 a22.X = a22.X) ∧ (Wd .f32 a22.Y ∧ cn .f32 a22.Y = a22.Y) ∧ (Wd .f32 a22.Z ∧ cn .f32 a22.Z = a22.Z) ∧ True)) ∧ (x.Triangles.length ≤ 9223372036854775807 ∧ ∀ a23 ∈ x.Triangles, (a23.length ≤ 9223372036854775807 ∧ ∀ a52 ∈ a23, (Lit.int .i64 a52).wf = true)) ∧ True)) := opn_struct (fun x => ⟨x.1, x.2.1⟩) Go.Proofs.Try.underlying25 (fs := [(22, 1), (23, 1)]) (by kernel_rfl) (by kernel_rfl) (opnF_cons op_22 (opnF_cons op_23 opnF_nil)) (fun _ => rfl) (fun _ h => h)

theorem op_157 : Opn Go.Proofs.Try.prog 157 GSpring.cells (fun (x : GSpring) => ((Lit.int .i64 x.A).wf = true ∧ (Lit.int .i64 x.B).wf = true ∧ (Wd .f32 x.Long ∧ cn .f32 x.Long = x.Long) ∧ (Wd .f32 x.Stiff ∧ cn .f32 x.Stiff = x.Stiff) ∧ True)) := opn_struct (fun x => ⟨x.1, x.2.1, x.2.2.1, x.2.2.2.1⟩) Go.Proofs.Try.underlying157 (fs := [(2, 1), (2, 1), (38, 1), (38, 1)]) (by kernel_rfl) (by kernel_rfl) (opnF_cons op_2 (opnF_cons op_2 (opnF_cons op_38 (opnF_cons op_38 opnF_nil)))) (fun _ => rfl) (fun _ h => h)

theorem op_58 : Opn Go.Proofs.Try.prog 58 (cL GSpring.cells) (fun (x : (List GSpring)) => (x.length ≤ 9223372036854775807 ∧ ∀ a58 ∈ x, ((Lit.int .i64 a58.A).wf = true ∧ (Lit.int .i64 a58.B).wf = true ∧ (Wd .f32 a58.Long ∧ cn .f32 a58.Long = a58.Long) ∧ (Wd .f32 a58.Stiff ∧ cn .f32 a58.Stiff = a58.Stiff) ∧ True))) := opn_slice Go.Proofs.Try.underlying58 (n := 4) (by kernel_rfl) (by decide) op_157

theorem op_42 : Opn Go.Proofs.Try.prog 42 (cL (cF .f32)) (fun (x : (List Nat)) => (x.length ≤ 9223372036854775807 ∧ ∀ a42 ∈ x, (Wd .f32 a42 ∧ cn .f32 a42 = a42))) := opn_slice Go.Proofs.Try.underlying42 (n := 1) (by kernel_rfl) (by decide) op_38

theorem op_62 : Opn Go.Proofs.Try.prog 62 GBody.cells (fun (x : GBody) => (((x.Mesh.Places.length ≤ 9223372036854775807 ∧ ∀ a22 ∈ x.Mesh.Places, ((Wd .f32 a22.X ∧ cn .f32 a22.X = a22.X) ∧ (Wd .f32 a22.Y ∧ cn .f32 a22.Y = a22.Y) ∧ (Wd .f32 a22.Z ∧ cn .f32 a22.Z = a22.Z) ∧ True)) ∧ (x.Mesh.Triangles.length ≤ 9223372036854775807 ∧ ∀ a23 ∈ x.Mesh.Triangles, (a23.length ≤ 9223372036854775807 ∧ ∀ a52 ∈ a23, (Lit.int .i64 a52).wf = true)) ∧ True) ∧ (x.Springs.length ≤ 9223372036854775807 ∧ ∀ a58 ∈ x.Springs, ((Lit.int .i64 a58.A).wf = true ∧ (Lit.int .i64 a58.B).wf = true ∧ (Wd .f32 a58.Long ∧ cn .f32 a58.Long = a58.Long) ∧ (Wd .f32 a58.Stiff ∧ cn .f32 a58.Stiff = a58.Stiff) ∧ True)) ∧ (Wd .f32 x.Film ∧ cn .f32 x.Film = x.Film) ∧ (Wd .f32 x.Bend ∧ cn .f32 x.Bend = x.Bend) ∧ (x.Weights.length ≤ 9223372036854775807 ∧ ∀ a42 ∈ x.Weights, (Wd .f32 a42 ∧ cn .f32 a42 = a42)) ∧ ((Wd .f32 x.Fall.X ∧ cn .f32 x.Fall.X = x.Fall.X) ∧ (Wd .f32 x.Fall.Y ∧ cn .f32 x.Fall.Y = x.Fall.Y) ∧ (Wd .f32 x.Fall.Z ∧ cn .f32 x.Fall.Z = x.Fall.Z) ∧ True) ∧ True)) := opn_struct (fun x => ⟨x.1, x.2.1, x.2.2.1, x.2.2.2.1, x.2.2.2.2.1, x.2.2.2.2.2.1⟩) Go.Proofs.Try.underlying62 (fs := [(25, 2), (58, 1), (38, 1), (38, 1), (42, 1), (60, 3)]) (by kernel_rfl) (by kernel_rfl) (opnF_cons op_25 (opnF_cons op_58 (opnF_cons op_38 (opnF_cons op_38 (opnF_cons op_42 (opnF_cons op_60 opnF_nil)))))) (fun _ => rfl) (fun _ h => h)

end Go.Ab

namespace Go.Proofs.Ytiihcpcabmamiaa
open Go.ChangeShapes Go.WideShapes Go.ChangeAt Go.RowKit

theorem own_FnExactEnergyOf : ownKnob Go.Proofs.Try.prog.godebug = none := by kernel_rfl

theorem laidOut_FnExactEnergyOf : laidOutB Go.Proofs.Try.prog = true := by kernel_rfl

set_option maxRecDepth 1000000 in
theorem contract_FnExactEnergyOf (H : Type) (enc : TypeId × Value → H) (W : World) (base : Nat) (args : Array Value) (ds gs : List (DataW H)) (before : List MemPlace)
    (hval : ∀ (j : Nat) t v, Try.f8.params[j]? = some t → args[j]? = some v → Value.okWide Try.prog W .any base t v)
    (hW : DataW.Whole enc Try.prog Try.f8.params.toList Rows.fnExactEnergyOfSpec.vars false W args.toList ds gs before) :
    Calls Try.prog 8 args W fun e W' => ∃ v, e = .returned v ∧ Rows.fnExactEnergyOfSpec.post enc Try.prog Try.f8 false true false false W args v W' := by
  have hW' := hW
  obtain ⟨p, q, hA0, hV, rfl, hfz, hnd⟩ := hW
  have hA : DataW.TrodAll enc Try.prog W 0 (fun _ => true) true Try.f8.params.toList args.toList ds p := hA0
  rw [Try.params8] at hA hval
  obtain ⟨v0, vs0, d0, ds0, p0, q0, hargs0, rfl, rfl, h0, r0⟩ := trodAll_cons hA
  obtain ⟨hnil, rfl, rfl⟩ := trodAll_nil r0
  obtain rfl : args = #[v0] := by cases args; simp_all
  obtain ⟨rfl, rfl⟩ := trodVars_none hV
  have w0 : Value.okWide Try.prog W .any base 62 v0 := hval 0 62 v0 rfl rfl
  obtain ⟨a0, b0, rep0⟩ := Go.Ab.arg_agg Go.Ab.op_62 Try.underlying62 w0 h0
  have hT := Go.Ab.t_laws_FnExactEnergyOf a0 b0.1.1.1 b0.1.2.1.1 (fun t ht => (b0.1.2.1.2 t ht).1) b0.2.1.1 b0.2.2.2.2.1.1
  rw [Go.Ab.true_laws_FnExactEnergyOf a0 b0.1.1.1 b0.1.2.1.1 (fun t ht => (b0.1.2.1.2 t ht).1) b0.2.1.1 b0.2.2.2.2.1.1] at hT
  clear hA0
  simp only [List.append_nil] at hW'
  refine (hT.2 W #[v0] ⟨rfl, fun j c e => ?_⟩).mono fun e W' ⟨v, μ', he, hb, _, hr⟩ => ?_
  · match j, e with
    | 0, e => simp at e; subst e; exact rep0
  · subst he
    cases hr
    have k0 := Below.trod laidOut_FnExactEnergyOf (t := 62) (by kernel_rfl) (of_decide_eq_true (by kernel_rfl)) h0 hb.toBelow (fun y hy => by simpa using hW'.lt y (by simp [hy]))
    exact ⟨_, rfl, _, _, _, [], _, [], hW', trodAll_mk1 (shut_bool Try.underlying4 true), (trodAll_cons_mk k0 trodAll_mk0), rfl, hb.toBelow.frame _, fun h => by cases h⟩


set_option maxRecDepth 100000 in
theorem lifted_FnExactEnergyOf (os : Os) (started : os.Started) (H : Type) (enc : TypeId × Value → H) :
    ReturnsInHanded {} Try.checked os 8 .any (Rows.fnExactEnergyOfSpec.pre6 enc Try.prog Try.f8 Rows.fnExactEnergyOfRow.domain false) (Rows.fnExactEnergyOfSpec.post enc Try.prog Try.f8 false true false false) := by
  refine returnsInHanded_of_change (C := Try.checked) own_FnExactEnergyOf started (by kernel_rfl) Try.func8
    (ChangeSpec.witness6 (enc := enc) (C := Try.checked) false ⟨#[], #[.agg #[.slice none 0 0, .slice none 0 0, .slice none 0 0, .float .f32 0, .float .f32 0, .slice none 0 0, .float .f32 0, .float .f32 0, .float .f32 0]], []⟩ 8 (by kernel_rfl) (by kernel_rfl) (by kernel_rfl) (by kernel_rfl)) ?_
  intro W base args ds gs before hval hW _ _
  exact contract_FnExactEnergyOf H enc W base args ds gs before hval hW


theorem fnExactEnergyOf_holds : Rows.FnExactEnergyOfSaid :=
  OpenClaim.holds_of_wide 8 Try.f8 rfl rfl rfl rfl rfl rfl rfl ⟨rfl, rfl, rfl, rfl, rfl⟩ rfl rfl rfl rfl rfl (by kernel_rfl) Try.func8 (by kernel_rfl)
    (of_decide_eq_true (by kernel_rfl)) (by unfold Func.isWrapper; first | (rw [if_pos (by decide +kernel)]; kernel_rfl) | (rw [if_neg (by decide +kernel)]; exact ⟨rfl, rfl⟩))
    (fun os started H enc _ => lifted_FnExactEnergyOf os started H enc)

end Go.Proofs.Ytiihcpcabmamiaa
