/- Masks and runs of empty slots, told briefly. -/
import Derived.Test.YtpndflbllggeiaaGreatA34
set_option linter.unusedVariables false
set_option linter.unusedSimpArgs false
namespace Go.Ab
def mR : Bool → List Nat → List Bool
 | _, [] => []
 | b, n :: l => List.replicate n b ++ mR (!b) l
def an : Nat → List AV → List AV
 | 0, l => l
 | n + 1, l => .any :: an n l
end Go.Ab
