/-
Rounds of a world.
-/
import Derived.Test.YtdjbjnnfmkoceaaGreatX22
import Derived.KernelRfl
set_option linter.unusedVariables false
set_option linter.unusedSimpArgs false
set_option maxRecDepth 1000000
namespace Go.Eng
open Go
theorem TB:tW G8 G9 Ha aK AF.f41.nparams TC TD PX=true:=by kernel_rfl
theorem PY:aN dO aO aK 3 PX PZ=true:=by kernel_rfl
theorem P0:aN dO aO aK 1 PZ P1=true:=by kernel_rfl
theorem P2:aN dO aO aK 3 P1 P3=true:=by kernel_rfl
theorem P4:aN dO aO aK 1 P3 P5=true:=by kernel_rfl
theorem P6:aN dO aO aK 3 P5 P7=true:=by kernel_rfl
end Go.Eng
