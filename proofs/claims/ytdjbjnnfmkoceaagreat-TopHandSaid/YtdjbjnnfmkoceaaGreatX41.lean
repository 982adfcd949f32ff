/-
Rounds of a world.
-/
import Derived.Test.YtdjbjnnfmkoceaaGreatX22
import Derived.KernelRfl
set_option linter.unusedVariables false
set_option linter.unusedSimpArgs false
set_option maxRecDepth 1000000
namespace Go.Eng
open Go
theorem NI:aN dO aO aK 5 NH NJ=true:=by kernel_rfl
theorem NK:aN dO aO aK 5 NJ NL=true:=by kernel_rfl
theorem NM:aN dO aO aK 5 NL NN=true:=by kernel_rfl
theorem NO:aN dO aO aK 5 NN NP=true:=by kernel_rfl
theorem NQ:aN dO aO aK 5 NP NR=true:=by kernel_rfl
theorem NS:aN dO aO aK 5 NR NT=true:=by kernel_rfl
end Go.Eng
