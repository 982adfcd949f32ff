/-
Calls of values alone, run.
-/
import Derived.Test.YtdjbjnnfmkoceaaGreatYRk
import Derived.KernelRfl
set_option linter.unusedVariables false
set_option linter.unusedSimpArgs false
set_option maxRecDepth 1000000
namespace Go.Eng
open Go
theorem FB:bJ vR 194 GM=true:=by kernel_rfl
theorem FC:bJ vR 195 GN=true:=by kernel_rfl
theorem FD:bJ vR 198 GO=true:=by kernel_rfl
theorem FE:bJ vR 217 GP=true:=by kernel_rfl
theorem FF:bJ vR 236 GQ=true:=by kernel_rfl
theorem FG:bJ vR 291 GS=true:=by kernel_rfl
theorem FH:bJ vR 372 GU=true:=by kernel_rfl
end Go.Eng
