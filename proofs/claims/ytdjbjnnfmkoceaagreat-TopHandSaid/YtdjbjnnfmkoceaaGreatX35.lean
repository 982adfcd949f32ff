/-
Rounds of a world.
-/
import Derived.Test.YtdjbjnnfmkoceaaGreatX22
import Derived.KernelRfl
set_option linter.unusedVariables false
set_option linter.unusedSimpArgs false
set_option maxRecDepth 1000000
namespace Go.Eng
open Go
theorem M6:aN dO aO aK 5 M5 M7=true:=by kernel_rfl
theorem M8:aN dO aO aK 5 M7 M9=true:=by kernel_rfl
theorem Na:aN dO aO aK 5 M9 Nb=true:=by kernel_rfl
theorem Nc:aN dO aO aK 5 Nb Nf=true:=by kernel_rfl
theorem Ng:aN dO aO aK 5 Nf Nh=true:=by kernel_rfl
theorem Ni:aN dO aO aK 5 Nh Nj=true:=by kernel_rfl
end Go.Eng
