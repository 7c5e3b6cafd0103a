/- A region whose order is open, by all the sets of its operations that can be done at a time. -/
import Derived.Test.YtiddhiepmakopaaA39
set_option linter.unusedVariables false
set_option linter.unusedSimpArgs false
namespace Go.Ab
open Go.RowKit
structure Stp where
 a:List Ans
 C:List Prop
 p:Scr a C
def stA (S:List Stp) (i:Nat):List Ans:=match S[i]? with
 | some s=>s.a
 | none => []
end Go.Ab
