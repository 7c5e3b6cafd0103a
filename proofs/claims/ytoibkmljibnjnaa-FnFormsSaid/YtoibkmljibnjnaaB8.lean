/- The functions of this seat as plain Lean, and that the program's are these. Printed by a program of the prover's own. -/
import Derived.Test.YtoibkmljibnjnaaB7
set_option linter.unusedVariables false
set_option linter.unusedSimpArgs false
set_option maxRecDepth 100000
namespace Go.Ab
open Go.RowKit Go.Proofs.Try
theorem Z6r (a b:List Int) (h:a.length≤9223372036854775807) (h':b.length≤9223372036854775807) (b0:a.length≤9223372036854775807∧∀ x∈a,(Lit.int .u8 x).wf=true) (b1:b.length≤9223372036854775807∧∀ x∈b,(Lit.int .u8 x).wf=true):Z1H a b=true:=by
  unfold Z1H
  cases Z1q a b with
  | true=>rfl
  | false =>
    obtain ⟨⟨p1,p2⟩,⟨p3,p4⟩,⟨p5,p6⟩,⟨p7,p8⟩,⟨p9,p10⟩,p11,p12⟩:=r8B (X7u b0.2)
    have hs:=r8Z _ p9 p10
    have m1:=Z8c p1 p2 p3 p4 hs
    rw [cond_false,m1,cond_true,Z8i p5 p6 p7 p8 hs (by decide +kernel),cond_true,Z91 hs,cond_true,Z8j p11 p12 hs,cond_true,(Z7l p1 p2 p3 p4 p9 p10 m1).1,cond_true]
    exact (Z7l p1 p2 p3 p4 p9 p10 m1).2
end Go.Ab
