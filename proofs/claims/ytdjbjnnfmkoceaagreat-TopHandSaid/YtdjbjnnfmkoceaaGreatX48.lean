/-
Calls of values alone, run.
-/
import Derived.Test.YtdjbjnnfmkoceaaGreatX22
import Derived.KernelRfl
set_option linter.unusedVariables false
set_option linter.unusedSimpArgs false
set_option maxRecDepth 1000000
namespace Go.Eng
open Go
theorem CL:aY uD 284 LP=true:=by kernel_rfl
end Go.Eng
