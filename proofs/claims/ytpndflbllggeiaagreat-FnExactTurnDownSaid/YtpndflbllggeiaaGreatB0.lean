/- The functions of this seat as plain Lean, and that the program's are these. Printed by a program of the prover's own. -/
import Derived.Test.YtpndflbllggeiaaGreatA35
import Derived.Test.YtpndflbllggeiaaGreatA39
import Derived.Test.YtpndflbllggeiaaGreatRows
set_option linter.unusedVariables false
set_option linter.unusedSimpArgs false
set_option maxRecDepth 100000
namespace Go.Ab
open Go.RowKit Go.Proofs.Tryz
structure Gv where
  X:Nat
  Y:Nat
  Z:Nat
  deriving Inhabited,DecidableEq
def Gv.c (v:Gv):List AV:=[.f .f32 v.X, .f .f32 v.Y, .f .f32 v.Z]
structure Gm where
  Pq:(List Gv)
  Tr:(List (List Int))
  deriving Inhabited,DecidableEq
def Gm.c (v:Gm):List AV:=[.sl (v.Pq.map Gv.c), .sl (v.Tr.map (cL (cI .i64)))]
structure Gs where
  A:Int
  B:Int
  Long:Nat
  Stiff:Nat
  deriving Inhabited,DecidableEq
def Gs.c (v:Gs):List AV:=[.i .i64 v.A, .i .i64 v.B, .f .f32 v.Long, .f .f32 v.Stiff]
structure Gb where
  Me:Gm
  Sp:(List Gs)
  Film:Nat
  Bend:Nat
  We:(List Nat)
  Fall:Gv
  deriving Inhabited,DecidableEq
def Gb.c (v:Gb):List AV:=[.sl (v.Me.Pq.map Gv.c), .sl (v.Me.Tr.map (cL (cI .i64))), .sl (v.Sp.map Gs.c), .f .f32 v.Film, .f .f32 v.Bend, .sl (v.We.map (cF .f32)), .f .f32 v.Fall.X, .f .f32 v.Fall.Y, .f .f32 v.Fall.Z]
def tab:List (Nat × TD):=[(2,⟨false,1,8,[.i .i64 0], .int .i64⟩),
  (3,⟨false,1,8,[.i .i64 0], .int .i64⟩),
  (4,⟨false,1,1,[.b false], .bool⟩),
  (5,⟨false,1,1,[.i .u8 0], .int .u8⟩),
  (22,⟨false,1,24,[.nils], .slice 30⟩),
  (23,⟨false,1,24,[.nils], .slice 49⟩),
  (25,⟨true,2,48,[.nils, .nils], .struct [(0,1),(1,1)]⟩),
  (26,⟨false,1,24,[.nils], .slice 141⟩),
  (27,⟨false,1,4,[.f .f32 0], .float .f32⟩),
  (28,⟨false,1,24,[.nils], .slice 27⟩),
  (30,⟨true,3,12,[.f .f32 0, .f .f32 0, .f .f32 0], .struct [(0,1),(1,1),(2,1)]⟩),
  (32,⟨true,9,120,[.nils, .nils, .nils, .f .f32 0, .f .f32 0, .nils, .f .f32 0, .f .f32 0, .f .f32 0], .struct [(0,2),(2,1),(3,1),(4,1),(5,1),(6,3)]⟩),
  (34,⟨false,1,24,[.nils], .slice 40⟩),
  (38,⟨true,2,48,[.nils, .nils], .struct [(0,1),(1,1)]⟩),
  (39,⟨false,1,24,[.nils], .slice 133⟩),
  (40,⟨true,3,12,[.f .f32 0, .f .f32 0, .f .f32 0], .struct [(0,1),(1,1),(2,1)]⟩),
  (42,⟨true,9,120,[.nils, .nils, .nils, .f .f32 0, .f .f32 0, .nils, .f .f32 0, .f .f32 0, .f .f32 0], .struct [(0,2),(2,1),(3,1),(4,1),(5,1),(6,3)]⟩),
  (49,⟨false,1,24,[.nils], .slice 2⟩),
  (54,⟨false,1,8,[.f .f64 0], .float .f64⟩),
  (86,⟨false,1,8,[.any], .other⟩),
  (129,⟨false,1,8,[.any], .other⟩),
  (131,⟨false,1,8,[.any], .other⟩),
  (133,⟨true,4,24,[.i .i64 0, .i .i64 0, .f .f32 0, .f .f32 0], .struct [(0,1),(1,1),(2,1),(3,1)]⟩),
  (141,⟨true,4,24,[.i .i64 0, .i .i64 0, .f .f32 0, .f .f32 0], .struct [(0,1),(1,1),(2,1),(3,1)]⟩),
  (162,⟨false,1,8,[.any], .map 2⟩),
  (163,⟨false,1,24,[.nils], .slice 167⟩),
  (167,⟨true,2,16,[.i .i64 0, .i .i64 0], .arr 2 2⟩),
  (171,⟨false,1,24,[.nils], .slice 4⟩),
  (178,⟨false,1,8,[.i .u64 0], .int .u64⟩),
  (189,⟨false,1,4,[.i .u32 0], .int .u32⟩),
  (191,⟨false,1,8,[.i .u64 0], .int .u64⟩),
  (193,⟨false,1,8,[.i .u64 0], .int .u64⟩),
  (197,⟨false,1,8,[.any], .other⟩)]
theorem Zjc:TOk Go.Proofs.Tryz.prog (look tab):=X7R (by kernel_rfl)
def E0:Env:=⟨look tab,look [(152, .sqrt)],0⟩
theorem E0Ok:EOk Go.Proofs.Tryz.prog E0:=⟨Zjc,fun g x h=>by
  simp only [E0,look] at h
  split at h
  · rename_i hg;simp only [beq_iff_eq] at hg;subst hg;cases h
    exact ⟨⟨Go.Proofs.Tryz.f152,Go.Proofs.Tryz.func152,by kernel_rfl,by kernel_rfl,by kernel_rfl,by kernel_rfl⟩⟩
  · skip
    cases h⟩
def Ep (n:Nat):Env:={ E0 with np:=n }
theorem EpOk (n:Nat):EOk Go.Proofs.Tryz.prog (Ep n):=⟨E0Ok.T,E0Ok.X⟩
theorem Z7:Go.Proofs.Tryz.prog.follows .mixedOrders=true:=by kernel_rfl
end Go.Ab
