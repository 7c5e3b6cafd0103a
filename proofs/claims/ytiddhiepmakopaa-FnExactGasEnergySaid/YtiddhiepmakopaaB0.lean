/- The functions of this seat as plain Lean, and that the program's are these. Printed by a program of the prover's own. -/
import Derived.Test.YtiddhiepmakopaaA49
import Derived.Test.YtiddhiepmakopaaA34
import Derived.Test.YtiddhiepmakopaaA39
import Derived.Test.YtiddhiepmakopaaRows
set_option linter.unusedVariables false
set_option linter.unusedSimpArgs false
set_option maxRecDepth 100000
namespace Go.Ab
open Go.RowKit Go.Proofs.Try
def tab:List (Nat × TD):=[(3,⟨false,1,8,[.i .i64 0], .int .i64⟩),
  (4,⟨false,1,1,[.b false], .bool⟩),
  (22,⟨false,1,4,[.f .f32 0], .float .f32⟩),
  (26,⟨false,1,8,[.f .f64 0], .float .f64⟩),
  (125,⟨false,1,8,[.i .u64 0], .int .u64⟩)]
theorem Z1R:TOk Go.Proofs.Try.prog (look tab):=X7w (by kernel_rfl)
def E0:Env:=⟨look tab,look [(117, .from64),(139, .to64)],0⟩
theorem E0Ok:EOk Go.Proofs.Try.prog E0:=⟨Z1R,fun g x h=>by
  simp only [E0,look] at h
  split at h
  · rename_i hg;simp only [beq_iff_eq] at hg;subst hg;cases h
    exact ⟨⟨Go.Proofs.Try.f117,Go.Proofs.Try.func117,by kernel_rfl,by kernel_rfl,by kernel_rfl,by kernel_rfl⟩⟩
  · skip
    split at h
    · rename_i hg;simp only [beq_iff_eq] at hg;subst hg;cases h
      exact ⟨⟨Go.Proofs.Try.f139,Go.Proofs.Try.func139,by kernel_rfl,by kernel_rfl,by kernel_rfl,by kernel_rfl⟩⟩
    · skip
      cases h⟩
theorem Z9:Go.Proofs.Try.prog.follows .mixedOrders=true:=by kernel_rfl
end Go.Ab
