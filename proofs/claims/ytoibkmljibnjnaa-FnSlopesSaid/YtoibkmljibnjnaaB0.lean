/- The functions of this seat as plain Lean, and that the program's are these. Printed by a program of the prover's own. -/
import Derived.Test.YtoibkmljibnjnaaA22
import Derived.Test.YtoibkmljibnjnaaA58
import Derived.Test.YtoibkmljibnjnaaA35
import Derived.Test.YtoibkmljibnjnaaRows
set_option linter.unusedVariables false
set_option linter.unusedSimpArgs false
set_option maxRecDepth 100000
namespace Go.Ab
open Go.RowKit Go.Proofs.Try
structure Gv where
  X:Nat
  Y:Nat
  Z:Nat
  deriving Inhabited,DecidableEq
def Gv.c (v:Gv):List AV:=[.f .f32 v.X, .f .f32 v.Y, .f .f32 v.Z]
structure Gm where
  Pq:(List Gv)
  Tr:(List (List Int))
  deriving Inhabited,DecidableEq
def Gm.c (v:Gm):List AV:=[.sl (v.Pq.map Gv.c), .sl (v.Tr.map (cL (cI .i64)))]
structure Gs where
  A:Int
  B:Int
  Long:Nat
  Stiff:Nat
  deriving Inhabited,DecidableEq
def Gs.c (v:Gs):List AV:=[.i .i64 v.A, .i .i64 v.B, .f .f32 v.Long, .f .f32 v.Stiff]
structure Gb where
  Me:Gm
  Sp:(List Gs)
  Film:Nat
  Bend:Nat
  We:(List Nat)
  Fall:Gv
  deriving Inhabited,DecidableEq
def Gb.c (v:Gb):List AV:=[.sl (v.Me.Pq.map Gv.c), .sl (v.Me.Tr.map (cL (cI .i64))), .sl (v.Sp.map Gs.c), .f .f32 v.Film, .f .f32 v.Bend, .sl (v.We.map (cF .f32)), .f .f32 v.Fall.X, .f .f32 v.Fall.Y, .f .f32 v.Fall.Z]
structure Gl00Src where
  code:(List Int)
  at_:Int
  seed:Int
  deriving Inhabited,DecidableEq
def Gl00Src.cells (v:Gl00Src):List AV:=[.sl (v.code.map (cI .u8)), .i .i64 v.at_, .i .u64 v.seed]
def tab:List (Nat × TD):=[(2,⟨false,1,8,[.i .i64 0], .int .i64⟩),
  (3,⟨false,1,8,[.i .i64 0], .int .i64⟩),
  (4,⟨false,1,1,[.b false], .bool⟩),
  (5,⟨false,1,1,[.i .u8 0], .int .u8⟩),
  (22,⟨false,1,24,[.nils], .slice 5⟩),
  (24,⟨false,1,24,[.nils], .slice 32⟩),
  (25,⟨false,1,24,[.nils], .slice 60⟩),
  (27,⟨true,2,48,[.nils, .nils], .struct [(0,1),(1,1)]⟩),
  (28,⟨false,1,24,[.nils], .slice 76⟩),
  (29,⟨false,1,4,[.f .f32 0], .float .f32⟩),
  (30,⟨false,1,24,[.nils], .slice 29⟩),
  (32,⟨true,3,12,[.f .f32 0, .f .f32 0, .f .f32 0], .struct [(0,1),(1,1),(2,1)]⟩),
  (34,⟨true,9,120,[.nils, .nils, .nils, .f .f32 0, .f .f32 0, .nils, .f .f32 0, .f .f32 0, .f .f32 0], .struct [(0,2),(2,1),(3,1),(4,1),(5,1),(6,3)]⟩),
  (45,⟨false,1,8,[.f .f64 0], .float .f64⟩),
  (60,⟨false,1,24,[.nils], .slice 2⟩),
  (76,⟨true,4,24,[.i .i64 0, .i .i64 0, .f .f32 0, .f .f32 0], .struct [(0,1),(1,1),(2,1),(3,1)]⟩),
  (83,⟨false,1,8,[.any], .other⟩),
  (88,⟨false,1,8,[.any], .other⟩),
  (104,⟨false,1,8,[.i .u64 0], .int .u64⟩),
  (107,⟨false,1,8,[.any], .map 2⟩),
  (108,⟨false,1,24,[.nils], .slice 113⟩),
  (113,⟨true,2,16,[.i .i64 0, .i .i64 0], .arr 2 2⟩),
  (115,⟨false,1,24,[.nils], .slice 4⟩),
  (132,⟨false,1,8,[.i .u64 0], .int .u64⟩),
  (134,⟨true,3,40,[.nils, .i .i64 0, .i .u64 0], .struct [(0,1),(1,1),(2,1)]⟩),
  (165,⟨false,1,4,[.i .u32 0], .int .u32⟩),
  (168,⟨false,1,8,[.i .u64 0], .int .u64⟩),
  (172,⟨false,1,8,[.any], .other⟩)]
theorem ZaL:TOk Go.Proofs.Try.prog (look tab):=XaC (by kernel_rfl)
def E0:Env:=⟨look tab,look [(133, .sqrt)],0⟩
theorem E0Ok:EOk Go.Proofs.Try.prog E0:=⟨ZaL,fun g x h=>by
  simp only [E0,look] at h
  split at h
  · rename_i hg;simp only [beq_iff_eq] at hg;subst hg;cases h
    exact ⟨⟨Go.Proofs.Try.f133,Go.Proofs.Try.func133,by kernel_rfl,by kernel_rfl,by kernel_rfl,by kernel_rfl⟩⟩
  · skip
    cases h⟩
def Ep (n:Nat):Env:={ E0 with np:=n }
theorem EpOk (n:Nat):EOk Go.Proofs.Try.prog (Ep n):=⟨E0Ok.T,E0Ok.X⟩
theorem Ze:Go.Proofs.Try.prog.follows .mixedOrders=true:=by kernel_rfl
end Go.Ab
