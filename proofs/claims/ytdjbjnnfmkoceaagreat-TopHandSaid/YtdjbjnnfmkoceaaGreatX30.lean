/-
Rounds of a world.
-/
import Derived.Test.YtdjbjnnfmkoceaaGreatX22
import Derived.KernelRfl
set_option linter.unusedVariables false
set_option linter.unusedSimpArgs false
set_option maxRecDepth 1000000
namespace Go.Eng
open Go
theorem P8:aN dO aO aK 5 P7 P9=true:=by kernel_rfl
theorem Qa:aN dO aO aK 6 P9 Qb=true:=by kernel_rfl
theorem Qc:aN dO aO aK 6 Qb Qd=true:=by kernel_rfl
theorem Qe:aN dO aO aK 6 Qd Qf=true:=by kernel_rfl
theorem Qg:aN dO aO aK 6 Qf Mg=true:=by kernel_rfl
theorem Mh:aN dO aO aK 6 Mg Mi=true:=by kernel_rfl
end Go.Eng
