/-
Calls of values alone, run.
-/
import Derived.Test.YtdjbjnnfmkoceaaGreatYRk
import Derived.KernelRfl
set_option linter.unusedVariables false
set_option linter.unusedSimpArgs false
set_option maxRecDepth 1000000
namespace Go.Eng
open Go
theorem Kb:bJ CP 45 Mg=true:=by kernel_rfl
theorem Kc:bJ CP 69 Mj=true:=by kernel_rfl
theorem FR:bJ CP 284 GI=true:=by kernel_rfl
end Go.Eng
