/-
Rounds of a world.
-/
import Derived.Test.YtdjbjnnfmkoceaaGreatX22
import Derived.KernelRfl
set_option linter.unusedVariables false
set_option linter.unusedSimpArgs false
set_option maxRecDepth 1000000
namespace Go.Eng
open Go
theorem Mv:aN dO aO aK 5 Mu Mw=true:=by kernel_rfl
theorem Mx:aN dO aO aK 5 Mw My=true:=by kernel_rfl
theorem Mz:aN dO aO aK 5 My MA=true:=by kernel_rfl
theorem MB:aN dO aO aK 5 MA MC=true:=by kernel_rfl
theorem MD:aN dO aO aK 5 MC ME=true:=by kernel_rfl
theorem MF:aN dO aO aK 5 ME MG=true:=by kernel_rfl
end Go.Eng
