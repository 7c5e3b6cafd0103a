/- The length of a difference does not know its direction. -/
import Derived.Test.YtiddhiepmakopaaA34
set_option linter.unusedVariables false
set_option linter.unusedSimpArgs false
namespace Go.Ab
open Ieee
end Go.Ab
