/-
Rounds of a world.
-/
import Derived.Test.YtdjbjnnfmkoceaaGreatX22
import Derived.KernelRfl
set_option linter.unusedVariables false
set_option linter.unusedSimpArgs false
set_option maxRecDepth 1000000
namespace Go.Eng
open Go
theorem MH:aN dO aO aK 5 MG MI=true:=by kernel_rfl
theorem MJ:aN dO aO aK 5 MI MK=true:=by kernel_rfl
theorem ML:aN dO aO aK 5 MK MM=true:=by kernel_rfl
theorem MN:aN dO aO aK 5 MM MO=true:=by kernel_rfl
theorem MP:aN dO aO aK 5 MO MQ=true:=by kernel_rfl
theorem MR:aN dO aO aK 5 MQ MS=true:=by kernel_rfl
end Go.Eng
