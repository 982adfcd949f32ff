/-
Calls of values alone, run.
-/
import Derived.Test.YtdjbjnnfmkoceaaGreatYRk
import Derived.KernelRfl
set_option linter.unusedVariables false
set_option linter.unusedSimpArgs false
set_option maxRecDepth 1000000
namespace Go.Eng
open Go
theorem Eo:bJ wR 45 Ed=true:=by kernel_rfl
theorem Ep:bJ wR 45 Ee=true:=by kernel_rfl
theorem Er:bJ wR 45 Ef=true:=by kernel_rfl
theorem J0:bJ wR 69 Ms=true:=by kernel_rfl
end Go.Eng
