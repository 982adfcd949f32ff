/-
Rounds of a world.
-/
import Derived.Test.YtdjbjnnfmkoceaaGreatX22
import Derived.KernelRfl
set_option linter.unusedVariables false
set_option linter.unusedSimpArgs false
set_option maxRecDepth 1000000
namespace Go.Eng
open Go
theorem Mj:aN dO aO aK 6 Mi Mk=true:=by kernel_rfl
theorem Ml:aN dO aO aK 6 Mk Mm=true:=by kernel_rfl
theorem Mn:aN dO aO aK 6 Mm Mo=true:=by kernel_rfl
theorem Mp:aN dO aO aK 5 Mo Mq=true:=by kernel_rfl
theorem Mr:aN dO aO aK 5 Mq Ms=true:=by kernel_rfl
theorem Mt:aN dO aO aK 5 Ms Mu=true:=by kernel_rfl
end Go.Eng
