/- Two words of single that compare equal and have one sign are one word; the sign of a widened word. -/
import Derived.Test.YtiddhiepmakopaaA37
set_option linter.unusedVariables false
set_option linter.unusedSimpArgs false
namespace Go.Ab
open Ieee
def ex (r:Nat):Nat:=if r < 8388608 then 0 else r / 8388608 - 1
def Ok32 (x:Nat):Prop:=Wd .f32 x∧cn .f32 x=x
theorem Ok32.lt {x:Nat} (h:Ok32 x):x < 4294967296:=h.1
end Go.Ab
