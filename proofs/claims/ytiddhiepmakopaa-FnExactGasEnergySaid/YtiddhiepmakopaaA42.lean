/- Bounds on sums, products and quotients of doubles. -/
import Derived.Test.YtiddhiepmakopaaA41
set_option linter.unusedVariables false
set_option linter.unusedSimpArgs false
namespace Go.Ab
open Ieee
theorem X3e (m:Nat):m < 2 ^ (m.log2 + 1):=Nat.lt_log2_self
theorem X1K {m k:Nat} (h:m < 2 ^ (k + 1)) (h0:m≠0):m.log2≤k:=by
 have:=(Nat.log2_lt h0).2 h
 omega
end Go.Ab
