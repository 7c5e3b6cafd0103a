/- The functions of this seat as plain Lean, and that the program's are these. Printed by a program of the prover's own. -/
import Derived.Test.YtoibkmljibnjnaaA22
import Derived.Test.YtoibkmljibnjnaaA57
import Derived.Test.YtoibkmljibnjnaaRows
set_option linter.unusedVariables false
set_option linter.unusedSimpArgs false
set_option maxRecDepth 100000
namespace Go.Ab
open Go.RowKit Go.Proofs.Try
structure Gv where
  X:Nat
  Y:Nat
  Z:Nat
  deriving Inhabited,DecidableEq
def Gv.c (v:Gv):List AV:=[.f .f32 v.X, .f .f32 v.Y, .f .f32 v.Z]
structure Gm where
  Pq:(List Gv)
  Tr:(List (List Int))
  deriving Inhabited,DecidableEq
def Gm.c (v:Gm):List AV:=[.sl (v.Pq.map Gv.c), .sl (v.Tr.map (cL (cI .i64)))]
structure Gl00Src where
  code:(List Int)
  at_:Int
  seed:Int
  deriving Inhabited,DecidableEq
def Gl00Src.cells (v:Gl00Src):List AV:=[.sl (v.code.map (cI .u8)), .i .i64 v.at_, .i .u64 v.seed]
def tab:List (Nat × TD):=[(2,⟨false,1,8,[.i .i64 0], .int .i64⟩),
  (3,⟨false,1,8,[.i .i64 0], .int .i64⟩),
  (4,⟨false,1,1,[.b false], .bool⟩),
  (5,⟨false,1,1,[.i .u8 0], .int .u8⟩),
  (22,⟨false,1,24,[.nils], .slice 5⟩),
  (24,⟨false,1,24,[.nils], .slice 32⟩),
  (25,⟨false,1,24,[.nils], .slice 60⟩),
  (27,⟨true,2,48,[.nils, .nils], .struct [(0,1),(1,1)]⟩),
  (29,⟨false,1,4,[.f .f32 0], .float .f32⟩),
  (32,⟨true,3,12,[.f .f32 0, .f .f32 0, .f .f32 0], .struct [(0,1),(1,1),(2,1)]⟩),
  (45,⟨false,1,8,[.f .f64 0], .float .f64⟩),
  (60,⟨false,1,24,[.nils], .slice 2⟩),
  (83,⟨false,1,8,[.any], .other⟩),
  (88,⟨false,1,8,[.any], .other⟩),
  (103,⟨true,2,8,[.f .f32 0, .f .f32 0], .arr 2 29⟩),
  (115,⟨false,1,24,[.nils], .slice 4⟩),
  (132,⟨false,1,8,[.i .u64 0], .int .u64⟩),
  (134,⟨true,3,40,[.nils, .i .i64 0, .i .u64 0], .struct [(0,1),(1,1),(2,1)]⟩)]
theorem Z8B:TOk Go.Proofs.Try.prog (look tab):=Xaz (by kernel_rfl)
def E0:Env:=⟨look tab,look [(127, .from64),(133, .sqrt)],0⟩
theorem E0Ok:EOk Go.Proofs.Try.prog E0:=⟨Z8B,fun g x h=>by
  simp only [E0,look] at h
  split at h
  · rename_i hg;simp only [beq_iff_eq] at hg;subst hg;cases h
    exact ⟨⟨Go.Proofs.Try.f127,Go.Proofs.Try.func127,by kernel_rfl,by kernel_rfl,by kernel_rfl,by kernel_rfl⟩⟩
  · skip
    split at h
    · rename_i hg;simp only [beq_iff_eq] at hg;subst hg;cases h
      exact ⟨⟨Go.Proofs.Try.f133,Go.Proofs.Try.func133,by kernel_rfl,by kernel_rfl,by kernel_rfl,by kernel_rfl⟩⟩
    · skip
      cases h⟩
def Ep (n:Nat):Env:={ E0 with np:=n }
theorem EpOk (n:Nat):EOk Go.Proofs.Try.prog (Ep n):=⟨E0Ok.T,E0Ok.X⟩
theorem Zc:Go.Proofs.Try.prog.follows .mixedOrders=true:=by kernel_rfl
end Go.Ab
