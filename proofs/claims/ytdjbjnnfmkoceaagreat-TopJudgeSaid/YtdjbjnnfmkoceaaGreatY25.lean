/-
Calls of values alone, run.
-/
import Derived.Test.YtdjbjnnfmkoceaaGreatYRk
import Derived.KernelRfl
set_option linter.unusedVariables false
set_option linter.unusedSimpArgs false
set_option maxRecDepth 1000000
namespace Go.Eng
open Go
theorem FL:bJ vR 195 GD=true:=by kernel_rfl
theorem FM:bJ vR 198 GF=true:=by kernel_rfl
theorem FN:bJ vR 217 GG=true:=by kernel_rfl
theorem FO:bJ vR 236 GH=true:=by kernel_rfl
theorem FP:bJ vR 291 GJ=true:=by kernel_rfl
theorem FQ:bJ vR 372 GK=true:=by kernel_rfl
end Go.Eng
