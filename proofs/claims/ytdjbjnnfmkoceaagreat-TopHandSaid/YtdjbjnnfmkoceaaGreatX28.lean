/-
Calls of values alone, run.
-/
import Derived.Test.YtdjbjnnfmkoceaaGreatX22
import Derived.KernelRfl
set_option linter.unusedVariables false
set_option linter.unusedSimpArgs false
set_option maxRecDepth 1000000
namespace Go.Eng
open Go
theorem CA:aY wV 45 LD=true:=by kernel_rfl
theorem CB:aY wV 69 LF=true:=by kernel_rfl
theorem Az:aY wV 284 Ii=true:=by kernel_rfl
end Go.Eng
