/- Numbers that are places. -/
import Derived.Test.YtiddhiepmakopaaA29
set_option linter.unusedVariables false
set_option linter.unusedSimpArgs false
namespace Go.Ab
def OkIx {α:Type} (n:Nat) (f:α→Int) (l:List α):Prop:=∀ x∈l,0≤f x∧f x < (n:Int)
theorem OkIx.at {α:Type} [Inhabited α] {n:Nat} {f:α→Int} {l:List α} (h:OkIx n f l) {i:Int} (h0:0≤i) (hi:i < (l.length:Int)):0≤f (l.getD i.toNat default)∧f (l.getD i.toNat default) < (n:Int):=by
 have hn:i.toNat < l.length:=by omega
 rw [List.getD_eq_getElem?_getD,List.getElem?_eq_getElem hn]
 exact h _ (List.getElem_mem hn)
end Go.Ab
