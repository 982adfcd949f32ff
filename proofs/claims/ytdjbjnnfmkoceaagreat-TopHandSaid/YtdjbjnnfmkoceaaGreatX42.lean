/-
Rounds of a world.
-/
import Derived.Test.YtdjbjnnfmkoceaaGreatX22
import Derived.KernelRfl
set_option linter.unusedVariables false
set_option linter.unusedSimpArgs false
set_option maxRecDepth 1000000
namespace Go.Eng
open Go
theorem NU:aN dO aO aK 5 NT NV=true:=by kernel_rfl
theorem NW:aN dO aO aK 5 NV NX=true:=by kernel_rfl
theorem NY:aN dO aO aK 5 NX NZ=true:=by kernel_rfl
theorem N0:aN dO aO aK 5 NZ N1=true:=by kernel_rfl
theorem N2:aN dO aO aK 5 N1 N3=true:=by kernel_rfl
theorem N4:aN dO aO aK 5 N3 N5=true:=by kernel_rfl
end Go.Eng
