/- Plain loops. -/
import Derived.Test.YtiddhiepmakopaaA19
set_option linter.unusedVariables false
set_option linter.unusedSimpArgs false
namespace Go.Ab
end Go.Ab
