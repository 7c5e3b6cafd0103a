/- The functions of this seat as plain Lean, and that the program's are these. Printed by a program of the prover's own. -/
import Derived.Test.YtiddhiepmakopaaA22
import Derived.Test.YtiddhiepmakopaaRows
set_option linter.unusedVariables false
set_option linter.unusedSimpArgs false
set_option maxRecDepth 100000
namespace Go.Ab
open Go.RowKit Go.Proofs.Try
structure Gv where
  X:Nat
  Y:Nat
  Z:Nat
  deriving Inhabited,DecidableEq
def Gv.c (v:Gv):List AV:=[.f .f32 v.X, .f .f32 v.Y, .f .f32 v.Z]
structure Gm where
  Pq:(List Gv)
  Tr:(List (List Int))
  deriving Inhabited,DecidableEq
def Gm.c (v:Gm):List AV:=[.sl (v.Pq.map Gv.c), .sl (v.Tr.map (cL (cI .i64)))]
def tab:List (Nat × TD):=[(2,⟨false,1,8,[.i .i64 0], .int .i64⟩),
  (3,⟨false,1,8,[.i .i64 0], .int .i64⟩),
  (4,⟨false,1,1,[.b false], .bool⟩),
  (22,⟨false,1,4,[.f .f32 0], .float .f32⟩),
  (26,⟨false,1,8,[.f .f64 0], .float .f64⟩),
  (28,⟨false,1,24,[.nils], .slice 112⟩),
  (29,⟨false,1,24,[.nils], .slice 79⟩),
  (31,⟨true,2,48,[.nils, .nils], .struct [(0,1),(1,1)]⟩),
  (33,⟨false,1,24,[.nils], .slice 62⟩),
  (35,⟨true,2,48,[.nils, .nils], .struct [(0,1),(1,1)]⟩),
  (59,⟨false,1,8,[.any], .other⟩),
  (62,⟨true,3,12,[.f .f32 0, .f .f32 0, .f .f32 0], .struct [(0,1),(1,1),(2,1)]⟩),
  (79,⟨false,1,24,[.nils], .slice 2⟩),
  (112,⟨true,3,12,[.f .f32 0, .f .f32 0, .f .f32 0], .struct [(0,1),(1,1),(2,1)]⟩),
  (125,⟨false,1,8,[.i .u64 0], .int .u64⟩)]
theorem Z8z:TOk Go.Proofs.Try.prog (look tab):=X8n (by kernel_rfl)
def E0:Env:=⟨look tab,look [(117, .from64),(139, .to64)],0⟩
theorem E0Ok:EOk Go.Proofs.Try.prog E0:=⟨Z8z,fun g x h=>by
  simp only [E0,look] at h
  split at h
  · rename_i hg;simp only [beq_iff_eq] at hg;subst hg;cases h
    exact ⟨⟨Go.Proofs.Try.f117,Go.Proofs.Try.func117,by kernel_rfl,by kernel_rfl,by kernel_rfl,by kernel_rfl⟩⟩
  · skip
    split at h
    · rename_i hg;simp only [beq_iff_eq] at hg;subst hg;cases h
      exact ⟨⟨Go.Proofs.Try.f139,Go.Proofs.Try.func139,by kernel_rfl,by kernel_rfl,by kernel_rfl,by kernel_rfl⟩⟩
    · skip
      cases h⟩
def Ep (n:Nat):Env:={ E0 with np:=n }
theorem EpOk (n:Nat):EOk Go.Proofs.Try.prog (Ep n):=⟨E0Ok.T,E0Ok.X⟩
theorem Z1:Go.Proofs.Try.prog.follows .mixedOrders=true:=by kernel_rfl
end Go.Ab
