/-
Rounds of a world.
-/
import Derived.Test.YtdjbjnnfmkoceaaGreatX22
import Derived.KernelRfl
set_option linter.unusedVariables false
set_option linter.unusedSimpArgs false
set_option maxRecDepth 1000000
namespace Go.Eng
open Go
theorem L6:aN dO aO cX 7 L3 L7=true:=by kernel_rfl
theorem L8:aN dO aO cX 7 L7 L9=true:=by kernel_rfl
theorem Ma:aN dO aO cX 7 L9 Mb=true:=by kernel_rfl
theorem Mc:aN dO aO cX 7 Mb Me=true:=by kernel_rfl
theorem Mf:aN dO aO cX 7 Me IC=true:=by kernel_rfl
theorem ID:aN dO aO cX 7 IC Io=true:=by kernel_rfl
end Go.Eng
