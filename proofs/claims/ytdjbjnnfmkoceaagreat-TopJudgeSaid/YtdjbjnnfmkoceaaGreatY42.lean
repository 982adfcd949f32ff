/-
Calls of values alone, run.
-/
import Derived.Test.YtdjbjnnfmkoceaaGreatYRk
import Derived.KernelRfl
set_option linter.unusedVariables false
set_option linter.unusedSimpArgs false
set_option maxRecDepth 1000000
namespace Go.Eng
open Go
theorem JT:bJ vR 15 Mo=true:=by kernel_rfl
theorem JU:bJ vR 16 Mp=true:=by kernel_rfl
theorem JV:bJ vR 48 Mq=true:=by kernel_rfl
theorem JW:bJ vR 53 Mr=true:=by kernel_rfl
theorem JX:bJ vR 82 Mt=true:=by kernel_rfl
theorem JY:bJ vR 85 Mu=true:=by kernel_rfl
theorem JZ:bJ vR 94 Mv=true:=by kernel_rfl
theorem Em:bJ rfG 95 Eg=true:=by kernel_rfl
theorem En:bJ rfG 95 Eh=true:=by kernel_rfl
theorem FA:bJ vR 120 GL=true:=by kernel_rfl
end Go.Eng
