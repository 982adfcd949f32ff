/-
Rounds of a world.
-/
import Derived.Test.YtdjbjnnfmkoceaaGreatX22
import Derived.KernelRfl
set_option linter.unusedVariables false
set_option linter.unusedSimpArgs false
set_option maxRecDepth 1000000
namespace Go.Eng
open Go
theorem MT:aN dO aO aK 5 MS MU=true:=by kernel_rfl
theorem MV:aN dO aO aK 5 MU MW=true:=by kernel_rfl
theorem MX:aN dO aO aK 5 MW MY=true:=by kernel_rfl
theorem MZ:aN dO aO aK 5 MY M0=true:=by kernel_rfl
theorem M1:aN dO aO aK 5 M0 M3=true:=by kernel_rfl
theorem M4:aN dO aO aK 5 M3 M5=true:=by kernel_rfl
end Go.Eng
