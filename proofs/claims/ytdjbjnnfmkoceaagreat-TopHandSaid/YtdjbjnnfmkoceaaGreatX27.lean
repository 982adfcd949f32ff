/-
Calls of values alone, run.
-/
import Derived.Test.YtdjbjnnfmkoceaaGreatX22
import Derived.KernelRfl
set_option linter.unusedVariables false
set_option linter.unusedSimpArgs false
set_option maxRecDepth 1000000
namespace Go.Eng
open Go
theorem As:aY pP 195 Ia=true:=by kernel_rfl
theorem Au:aY pP 198 Ib=true:=by kernel_rfl
theorem Av:aY pP 217 Ic=true:=by kernel_rfl
theorem Aw:aY pP 236 Ie=true:=by kernel_rfl
theorem Ax:aY pP 291 Ig=true:=by kernel_rfl
theorem Ay:aY pP 372 Ih=true:=by kernel_rfl
end Go.Eng
