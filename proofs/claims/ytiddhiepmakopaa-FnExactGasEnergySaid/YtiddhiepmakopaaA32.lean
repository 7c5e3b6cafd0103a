/- Plain laws of loops: marks, filters, flags, searches. -/
import Derived.Test.YtiddhiepmakopaaA31
set_option linter.unusedVariables false
set_option linter.unusedSimpArgs false
namespace Go.Ab
end Go.Ab
