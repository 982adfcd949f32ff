/-
Calls of values alone, run.
-/
import Derived.Test.YtdjbjnnfmkoceaaGreatX22
import Derived.KernelRfl
set_option linter.unusedVariables false
set_option linter.unusedSimpArgs false
set_option maxRecDepth 1000000
namespace Go.Eng
open Go
theorem CE:aY pP 195 LI=true:=by kernel_rfl
theorem CF:aY pP 198 LJ=true:=by kernel_rfl
theorem CG:aY pP 217 LK=true:=by kernel_rfl
theorem CH:aY pP 236 LL=true:=by kernel_rfl
theorem CI:aY pP 291 LM=true:=by kernel_rfl
theorem CJ:aY pP 372 LN=true:=by kernel_rfl
end Go.Eng
