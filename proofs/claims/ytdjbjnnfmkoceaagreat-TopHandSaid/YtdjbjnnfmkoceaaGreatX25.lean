/-
Rounds of a world.
-/
import Derived.Test.YtdjbjnnfmkoceaaGreatX22
import Derived.KernelRfl
set_option linter.unusedVariables false
set_option linter.unusedSimpArgs false
set_option maxRecDepth 1000000
namespace Go.Eng
open Go
theorem IE:aN dO aO cX 7 IA IF=true:=by kernel_rfl
theorem PU:mO dO aO Hb AF.f41.results cX 0 (zH AF.f41.body) IF PV PW=true:=by kernel_rfl
end Go.Eng
