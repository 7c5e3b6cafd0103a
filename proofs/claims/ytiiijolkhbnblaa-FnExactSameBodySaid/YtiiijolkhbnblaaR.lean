/- The law 'FnExactSameBody' holds: whatever its arguments, the call returns true, and they read behind it as they did before. No condition. -/
import Derived.Test.YtiiijolkhbnblaaB3
import Derived.Handed
import Derived.Carry
import Derived.SizedLaws
namespace Go.Ab
open Go.RowKit

theorem op_22 : Opn Go.Proofs.Try.prog 22 (cF .f32) (fun (x : Nat) => (Wd .f32 x ∧ cn .f32 x = x)) := opn_float Go.Proofs.Try.underlying22

theorem op_35 : Opn Go.Proofs.Try.prog 35 GVector.cells (fun (x : GVector) => ((Wd .f32 x.X ∧ cn .f32 x.X = x.X) ∧ (Wd .f32 x.Y ∧ cn .f32 x.Y = x.Y) ∧ (Wd .f32 x.Z ∧ cn .f32 x.Z = x.Z) ∧ True)) := opn_struct (fun x => ⟨x.1, x.2.1, x.2.2.1⟩) Go.Proofs.Try.underlying35 (fs := [(22, 1), (22, 1), (22, 1)]) (by kernel_rfl) (by kernel_rfl) (opnF_cons op_22 (opnF_cons op_22 (opnF_cons op_22 opnF_nil))) (fun _ => rfl) (fun _ h => h)

theorem op_28 : Opn Go.Proofs.Try.prog 28 (cL GVector.cells) (fun (x : (List GVector)) => (x.length ≤ 9223372036854775807 ∧ ∀ a28 ∈ x, ((Wd .f32 a28.X ∧ cn .f32 a28.X = a28.X) ∧ (Wd .f32 a28.Y ∧ cn .f32 a28.Y = a28.Y) ∧ (Wd .f32 a28.Z ∧ cn .f32 a28.Z = a28.Z) ∧ True))) := opn_slice Go.Proofs.Try.underlying28 (n := 3) (by kernel_rfl) (by decide) op_35

theorem op_2 : Opn Go.Proofs.Try.prog 2 (cI .i64) (fun (x : Int) => (Lit.int .i64 x).wf = true) := opn_int Go.Proofs.Try.underlying2

theorem op_52 : Opn Go.Proofs.Try.prog 52 (cL (cI .i64)) (fun (x : (List Int)) => (x.length ≤ 9223372036854775807 ∧ ∀ a52 ∈ x, (Lit.int .i64 a52).wf = true)) := opn_slice Go.Proofs.Try.underlying52 (n := 1) (by kernel_rfl) (by decide) op_2

theorem op_29 : Opn Go.Proofs.Try.prog 29 (cL (cL (cI .i64))) (fun (x : (List (List Int))) => (x.length ≤ 9223372036854775807 ∧ ∀ a29 ∈ x, (a29.length ≤ 9223372036854775807 ∧ ∀ a52 ∈ a29, (Lit.int .i64 a52).wf = true))) := opn_slice Go.Proofs.Try.underlying29 (n := 1) (by kernel_rfl) (by decide) op_52

theorem op_31 : Opn Go.Proofs.Try.prog 31 GMesh.cells (fun (x : GMesh) => ((x.Places.length ≤ 9223372036854775807 ∧ ∀ a28 ∈ x.Places, ((Wd .f32 a28.X ∧ cn .f32 a28.X = a28.X) ∧ (Wd .f32 a28.Y ∧ cn .f32 a28.Y = a28.Y) ∧ (Wd .f32 a28.Z ∧ cn .f32 a28.Z = a28.Z) ∧ True)) ∧ (x.Triangles.length ≤ 9223372036854775807 ∧ ∀ a29 ∈ x.Triangles, (a29.length ≤ 9223372036854775807 ∧ ∀ a52 ∈ a29, (Lit.int .i64 a52).wf = true)) ∧ True)) := opn_struct (fun x => ⟨x.1, x.2.1⟩) Go.Proofs.Try.underlying31 (fs := [(28, 1), (29, 1)]) (by kernel_rfl) (by kernel_rfl) (opnF_cons op_28 (opnF_cons op_29 opnF_nil)) (fun _ => rfl) (fun _ h => h)

theorem op_159 : Opn Go.Proofs.Try.prog 159 GSpring.cells (fun (x : GSpring) => ((Lit.int .i64 x.A).wf = true ∧ (Lit.int .i64 x.B).wf = true ∧ (Wd .f32 x.Long ∧ cn .f32 x.Long = x.Long) ∧ (Wd .f32 x.Stiff ∧ cn .f32 x.Stiff = x.Stiff) ∧ True)) := opn_struct (fun x => ⟨x.1, x.2.1, x.2.2.1, x.2.2.2.1⟩) Go.Proofs.Try.underlying159 (fs := [(2, 1), (2, 1), (22, 1), (22, 1)]) (by kernel_rfl) (by kernel_rfl) (opnF_cons op_2 (opnF_cons op_2 (opnF_cons op_22 (opnF_cons op_22 opnF_nil)))) (fun _ => rfl) (fun _ h => h)

theorem op_32 : Opn Go.Proofs.Try.prog 32 (cL GSpring.cells) (fun (x : (List GSpring)) => (x.length ≤ 9223372036854775807 ∧ ∀ a32 ∈ x, ((Lit.int .i64 a32.A).wf = true ∧ (Lit.int .i64 a32.B).wf = true ∧ (Wd .f32 a32.Long ∧ cn .f32 a32.Long = a32.Long) ∧ (Wd .f32 a32.Stiff ∧ cn .f32 a32.Stiff = a32.Stiff) ∧ True))) := opn_slice Go.Proofs.Try.underlying32 (n := 4) (by kernel_rfl) (by decide) op_159

theorem op_33 : Opn Go.Proofs.Try.prog 33 (cL (cF .f32)) (fun (x : (List Nat)) => (x.length ≤ 9223372036854775807 ∧ ∀ a33 ∈ x, (Wd .f32 a33 ∧ cn .f32 a33 = a33))) := opn_slice Go.Proofs.Try.underlying33 (n := 1) (by kernel_rfl) (by decide) op_22

theorem op_37 : Opn Go.Proofs.Try.prog 37 GBody.cells (fun (x : GBody) => (((x.Mesh.Places.length ≤ 9223372036854775807 ∧ ∀ a28 ∈ x.Mesh.Places, ((Wd .f32 a28.X ∧ cn .f32 a28.X = a28.X) ∧ (Wd .f32 a28.Y ∧ cn .f32 a28.Y = a28.Y) ∧ (Wd .f32 a28.Z ∧ cn .f32 a28.Z = a28.Z) ∧ True)) ∧ (x.Mesh.Triangles.length ≤ 9223372036854775807 ∧ ∀ a29 ∈ x.Mesh.Triangles, (a29.length ≤ 9223372036854775807 ∧ ∀ a52 ∈ a29, (Lit.int .i64 a52).wf = true)) ∧ True) ∧ (x.Springs.length ≤ 9223372036854775807 ∧ ∀ a32 ∈ x.Springs, ((Lit.int .i64 a32.A).wf = true ∧ (Lit.int .i64 a32.B).wf = true ∧ (Wd .f32 a32.Long ∧ cn .f32 a32.Long = a32.Long) ∧ (Wd .f32 a32.Stiff ∧ cn .f32 a32.Stiff = a32.Stiff) ∧ True)) ∧ (Wd .f32 x.Film ∧ cn .f32 x.Film = x.Film) ∧ (Wd .f32 x.Bend ∧ cn .f32 x.Bend = x.Bend) ∧ (x.Weights.length ≤ 9223372036854775807 ∧ ∀ a33 ∈ x.Weights, (Wd .f32 a33 ∧ cn .f32 a33 = a33)) ∧ ((Wd .f32 x.Fall.X ∧ cn .f32 x.Fall.X = x.Fall.X) ∧ (Wd .f32 x.Fall.Y ∧ cn .f32 x.Fall.Y = x.Fall.Y) ∧ (Wd .f32 x.Fall.Z ∧ cn .f32 x.Fall.Z = x.Fall.Z) ∧ True) ∧ True)) := opn_struct (fun x => ⟨x.1, x.2.1, x.2.2.1, x.2.2.2.1, x.2.2.2.2.1, x.2.2.2.2.2.1⟩) Go.Proofs.Try.underlying37 (fs := [(31, 2), (32, 1), (22, 1), (22, 1), (33, 1), (35, 3)]) (by kernel_rfl) (by kernel_rfl) (opnF_cons op_31 (opnF_cons op_32 (opnF_cons op_22 (opnF_cons op_22 (opnF_cons op_33 (opnF_cons op_35 opnF_nil)))))) (fun _ => rfl) (fun _ h => h)

end Go.Ab

namespace Go.Proofs.Ytiiijolkhbnblaa
open Go.ChangeShapes Go.WideShapes Go.ChangeAt Go.RowKit

theorem own_FnExactSameBody : ownKnob Go.Proofs.Try.prog.godebug = none := by kernel_rfl

theorem laidOut_FnExactSameBody : laidOutB Go.Proofs.Try.prog = true := by kernel_rfl

set_option maxRecDepth 1000000 in
theorem contract_FnExactSameBody (H : Type) (enc : TypeId × Value → H) (W : World) (base : Nat) (args : Array Value) (ds gs : List (DataW H)) (before : List MemPlace)
    (hval : ∀ (j : Nat) t v, Try.f4.params[j]? = some t → args[j]? = some v → Value.okWide Try.prog W .any base t v)
    (hW : DataW.Whole enc Try.prog Try.f4.params.toList Rows.fnExactSameBodySpec.vars false W args.toList ds gs before) :
    Calls Try.prog 4 args W fun e W' => ∃ v, e = .returned v ∧ Rows.fnExactSameBodySpec.post enc Try.prog Try.f4 false true false false W args v W' := by
  have hW' := hW
  obtain ⟨p, q, hA0, hV, rfl, hfz, hnd⟩ := hW
  have hA : DataW.TrodAll enc Try.prog W 0 (fun _ => true) true Try.f4.params.toList args.toList ds p := hA0
  rw [Try.params4] at hA hval
  obtain ⟨v0, vs0, d0, ds0, p0, q0, hargs0, rfl, rfl, h0, r0⟩ := trodAll_cons hA
  obtain ⟨v1, vs1, d1, ds1, p1, q1, hargs1, rfl, rfl, h1, r1⟩ := trodAll_cons r0
  obtain ⟨hnil, rfl, rfl⟩ := trodAll_nil r1
  obtain rfl : args = #[v0, v1] := by cases args; simp_all
  obtain ⟨rfl, rfl⟩ := trodVars_none hV
  have w0 : Value.okWide Try.prog W .any base 37 v0 := hval 0 37 v0 rfl rfl
  obtain ⟨a0, b0, rep0⟩ := Go.Ab.arg_agg Go.Ab.op_37 Try.underlying37 w0 h0
  have w1 : Value.okWide Try.prog W .any base 37 v1 := hval 1 37 v1 rfl rfl
  obtain ⟨a1, b1, rep1⟩ := Go.Ab.arg_agg Go.Ab.op_37 Try.underlying37 w1 h1
  have hT := Go.Ab.t_laws_FnExactSameBody a0 a1 b0.1.1.1 b0.1.2.1.1 (fun t ht => (b0.1.2.1.2 t ht).1) b0.2.1.1 b0.2.2.2.2.1.1 b1.1.1.1 b1.1.2.1.1 (fun t ht => (b1.1.2.1.2 t ht).1) b1.2.1.1 b1.2.2.2.2.1.1
  rw [Go.Ab.true_laws_FnExactSameBody a0 a1 b0.1.1.1 b0.1.2.1.1 (fun t ht => (b0.1.2.1.2 t ht).1) b0.2.1.1 b0.2.2.2.2.1.1 b1.1.1.1 b1.1.2.1.1 (fun t ht => (b1.1.2.1.2 t ht).1) b1.2.1.1 b1.2.2.2.2.1.1 b0 b1] at hT
  clear hA0
  simp only [List.append_nil] at hW'
  refine (hT.2 W #[v0, v1] ⟨rfl, fun j c e => ?_⟩).mono fun e W' ⟨v, μ', he, hb, _, hr⟩ => ?_
  · match j, e with
    | 0, e => simp at e; subst e; exact rep0
    | 1, e => simp at e; subst e; exact rep1
  · subst he
    cases hr
    have k0 := Below.trod laidOut_FnExactSameBody (t := 37) (by kernel_rfl) (of_decide_eq_true (by kernel_rfl)) h0 hb.toBelow (fun y hy => by simpa using hW'.lt y (by simp [hy]))
    have k1 := Below.trod laidOut_FnExactSameBody (t := 37) (by kernel_rfl) (of_decide_eq_true (by kernel_rfl)) h1 hb.toBelow (fun y hy => by simpa using hW'.lt y (by simp [hy]))
    exact ⟨_, rfl, _, _, _, [], _, [], hW', trodAll_mk1 (shut_bool Try.underlying4 true), (trodAll_cons_mk k0 (trodAll_cons_mk k1 trodAll_mk0)), rfl, hb.toBelow.frame _, fun h => by cases h⟩


set_option maxRecDepth 100000 in
theorem lifted_FnExactSameBody (os : Os) (started : os.Started) (H : Type) (enc : TypeId × Value → H) :
    ReturnsInHanded {} Try.checked os 4 .any (Rows.fnExactSameBodySpec.pre6 enc Try.prog Try.f4 Rows.fnExactSameBodyRow.domain false) (Rows.fnExactSameBodySpec.post enc Try.prog Try.f4 false true false false) := by
  refine returnsInHanded_of_change (C := Try.checked) own_FnExactSameBody started (by kernel_rfl) Try.func4
    (ChangeSpec.witness6 (enc := enc) (C := Try.checked) false ⟨#[], #[.agg #[.slice none 0 0, .slice none 0 0, .slice none 0 0, .float .f32 0, .float .f32 0, .slice none 0 0, .float .f32 0, .float .f32 0, .float .f32 0], .agg #[.slice none 0 0, .slice none 0 0, .slice none 0 0, .float .f32 0, .float .f32 0, .slice none 0 0, .float .f32 0, .float .f32 0, .float .f32 0]], []⟩ 8 (by kernel_rfl) (by kernel_rfl) (by kernel_rfl) (by kernel_rfl)) ?_
  intro W base args ds gs before hval hW _ _
  exact contract_FnExactSameBody H enc W base args ds gs before hval hW


theorem fnExactSameBody_holds : Rows.FnExactSameBodySaid :=
  OpenClaim.holds_of_wide 4 Try.f4 rfl rfl rfl rfl rfl rfl rfl ⟨rfl, rfl, rfl, rfl, rfl⟩ rfl rfl rfl rfl rfl (by kernel_rfl) Try.func4 (by kernel_rfl)
    (of_decide_eq_true (by kernel_rfl)) (by unfold Func.isWrapper; first | (rw [if_pos (by decide +kernel)]; kernel_rfl) | (rw [if_neg (by decide +kernel)]; exact ⟨rfl, rfl⟩))
    (fun os started H enc _ => lifted_FnExactSameBody os started H enc)

end Go.Proofs.Ytiiijolkhbnblaa
