/- The functions of this seat as plain Lean, and that the program's are these. Printed by a program of the prover's own. -/
import Derived.Test.YtiddhiepmakopaaA35
import Derived.Test.YtiddhiepmakopaaRows
set_option linter.unusedVariables false
set_option linter.unusedSimpArgs false
set_option maxRecDepth 100000
namespace Go.Ab
open Go.RowKit Go.Proofs.Try
structure Gv where
  X:Nat
  Y:Nat
  Z:Nat
  deriving Inhabited,DecidableEq
def Gv.c (v:Gv):List AV:=[.f .f32 v.X, .f .f32 v.Y, .f .f32 v.Z]
structure Gm where
  Pq:(List Gv)
  Tr:(List (List Int))
  deriving Inhabited,DecidableEq
def Gm.c (v:Gm):List AV:=[.sl (v.Pq.map Gv.c), .sl (v.Tr.map (cL (cI .i64)))]
def tab:List (Nat × TD):=[(2,⟨false,1,8,[.i .i64 0], .int .i64⟩),
  (3,⟨false,1,8,[.i .i64 0], .int .i64⟩),
  (4,⟨false,1,1,[.b false], .bool⟩),
  (5,⟨false,1,1,[.i .u8 0], .int .u8⟩),
  (22,⟨false,1,4,[.f .f32 0], .float .f32⟩),
  (26,⟨false,1,8,[.f .f64 0], .float .f64⟩),
  (28,⟨false,1,24,[.nils], .slice 112⟩),
  (29,⟨false,1,24,[.nils], .slice 79⟩),
  (31,⟨true,2,48,[.nils, .nils], .struct [(0,1),(1,1)]⟩),
  (33,⟨false,1,24,[.nils], .slice 62⟩),
  (35,⟨true,2,48,[.nils, .nils], .struct [(0,1),(1,1)]⟩),
  (59,⟨false,1,8,[.any], .other⟩),
  (62,⟨true,3,12,[.f .f32 0, .f .f32 0, .f .f32 0], .struct [(0,1),(1,1),(2,1)]⟩),
  (76,⟨false,1,24,[.nils], .slice 92⟩),
  (79,⟨false,1,24,[.nils], .slice 2⟩),
  (87,⟨false,1,8,[.any], .map 2⟩),
  (92,⟨true,2,16,[.i .i64 0, .i .i64 0], .arr 2 2⟩),
  (100,⟨false,1,24,[.nils], .slice 4⟩),
  (112,⟨true,3,12,[.f .f32 0, .f .f32 0, .f .f32 0], .struct [(0,1),(1,1),(2,1)]⟩),
  (125,⟨false,1,8,[.i .u64 0], .int .u64⟩),
  (130,⟨false,1,8,[.i .u64 0], .int .u64⟩),
  (141,⟨false,1,4,[.i .u32 0], .int .u32⟩),
  (145,⟨false,1,8,[.i .u64 0], .int .u64⟩),
  (149,⟨false,1,8,[.any], .other⟩)]
theorem Z63:TOk Go.Proofs.Try.prog (look tab):=X82 (by kernel_rfl)
def E0:Env:=⟨look tab,look [],0⟩
theorem E0Ok:EOk Go.Proofs.Try.prog E0:=⟨Z63,fun g x h=>by
  simp only [E0,look] at h
  cases h⟩
def Ep (n:Nat):Env:={ E0 with np:=n }
theorem EpOk (n:Nat):EOk Go.Proofs.Try.prog (Ep n):=⟨E0Ok.T,E0Ok.X⟩
theorem Z2:Go.Proofs.Try.prog.follows .mixedOrders=true:=by kernel_rfl
end Go.Ab
