/- Steps of loops, parts of code, facts about lists of cells. -/
import Derived.Test.YtiddhiepmakopaaA17
set_option linter.unusedVariables false
set_option linter.unusedSimpArgs false
namespace Go.Ab
open Go.RowKit
def sub:Code→List Nat→Code
 | c,[]=>c
 | .seq a _,0 :: p=>sub a p
 | .seq _ b,1 :: p=>sub b p
 | .cond _ a _,0 :: p=>sub a p
 | .cond _ _ b,1 :: p=>sub b p
 | .block _ c,_ :: p=>sub c p
 | .loop c,_ :: p=>sub c p
 | c,_=>c
def X1 (fn:Func):Code:=fn.body.getD .skip
def cF (k:FloatKind) (n:Nat):List AV:=[.f k n]
theorem X7e {n:Int} (h1:-9223372036854775808≤n) (h2:n≤9223372036854775807):IntKind.i64.wrap n=n:=by
 simp only [IntKind.wrap,IntKind.bits,IntKind.signed]
 simp
 split<;>omega
end Go.Ab
