/- Words of double above 0: not a NaN, their own absolute value. -/
import Derived.Test.YtiddhiepmakopaaA43
set_option linter.unusedVariables false
namespace Go.Ab
open Ieee
end Go.Ab
