/-
Rounds of a world.
-/
import Derived.Test.YtdjbjnnfmkoceaaGreatX22
import Derived.KernelRfl
set_option linter.unusedVariables false
set_option linter.unusedSimpArgs false
set_option maxRecDepth 1000000
namespace Go.Eng
open Go
theorem TR:mO dO aO Hb AF.f41.results aK 4 (zH AF.f41.body) N5 TS TT=true:=by kernel_rfl
end Go.Eng
