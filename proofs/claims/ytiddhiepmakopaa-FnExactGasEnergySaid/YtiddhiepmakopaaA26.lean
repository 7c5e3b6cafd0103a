/- A function that writes a slice, called on an inner slice of an array of slices. -/
import Derived.Test.YtiddhiepmakopaaA25
set_option linter.unusedVariables false
set_option linter.unusedSimpArgs false
namespace Go.Ab
open Go.RowKit
end Go.Ab
