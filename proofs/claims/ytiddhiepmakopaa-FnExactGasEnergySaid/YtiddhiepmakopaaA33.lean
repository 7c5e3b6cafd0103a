/- Maps by pairs, as plain lists. -/
import Derived.Test.YtiddhiepmakopaaA32
set_option linter.unusedVariables false
set_option linter.unusedSimpArgs false
namespace Go.Ab
def mhas {α β:Type} [DecidableEq α] (l:List (α × β)) (k:α):Bool:=l.any fun x=>decide (x.1=k)
def midx {α β:Type} [DecidableEq α] (l:List (α × β)) (k:α):Nat:=l.findIdx fun x=>decide (x.1=k)
def mput {α β:Type} [Inhabited α] (l:List (α × List β)) (j:Nat) (y:List β):List (α × List β):=l.set j ((l.getD j default).1,y)
section
variable {α β:Type} {ck:α→Int × Int} {cv:β→List AV} {l:List (α × List β)} {k:α}
end
theorem X7G {x:Int} (h:0≤x):0≤Int.tmod x 3∧Int.tmod x 3 < 3:=⟨Int.tmod_nonneg 3 h,Int.tmod_lt_of_pos x (by omega)⟩
end Go.Ab
