/- Masks and runs of empty slots, told briefly. -/
import Derived.Test.YtiddhiepmakopaaA34
set_option linter.unusedVariables false
set_option linter.unusedSimpArgs false
namespace Go.Ab
def mR:Bool→List Nat→List Bool
 | _,[] => []
 | b,n :: l=>List.replicate n b ++ mR (!b) l
def an:Nat→List AV→List AV
 | 0,l=>l
 | n + 1,l => .any :: an n l
theorem odt {p:Prop} [Decidable p] (h:decide p=true):p:=of_decide_eq_true h
theorem odf {p:Prop} [Decidable p] (h:decide p=false):¬p:=of_decide_eq_false h
end Go.Ab
