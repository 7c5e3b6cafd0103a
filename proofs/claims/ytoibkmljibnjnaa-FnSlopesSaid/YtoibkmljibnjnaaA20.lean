/- Plain loops. -/
import Derived.Test.YtoibkmljibnjnaaA19
set_option linter.unusedVariables false
set_option linter.unusedSimpArgs false
namespace Go.Ab
theorem X9z {a b:Int} (h1:-9223372036854775808≤a - b) (h2:a - b≤9223372036854775807):IntKind.i64.wrap (a - b)=a - b:=Xt h1 h2
end Go.Ab
