/-
TopHand, run.
-/
import Derived.Test.YtdjbjnnfmkoceaaGreatX49
import Derived.KernelRfl
set_option linter.unusedVariables false
set_option linter.unusedSimpArgs false
set_option maxRecDepth 1000000
namespace Go.Eng
open Go
theorem N6:kU T3 4 ([],.b true)=true:=by kernel_rfl
end Go.Eng
