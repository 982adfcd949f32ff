/-
Rounds of a world.
-/
import Derived.Test.YtdjbjnnfmkoceaaGreatX22
import Derived.KernelRfl
set_option linter.unusedVariables false
set_option linter.unusedSimpArgs false
set_option maxRecDepth 1000000
namespace Go.Eng
open Go
theorem Qx:aN dO aO aK 5 Qw Qy=true:=by kernel_rfl
theorem Qz:aN dO aO aK 5 Qy QA=true:=by kernel_rfl
theorem QB:aN dO aO aK 5 QA QC=true:=by kernel_rfl
theorem QD:aN dO aO aK 5 QC QE=true:=by kernel_rfl
theorem QF:aN dO aO aK 5 QE NF=true:=by kernel_rfl
theorem NG:aN dO aO aK 5 NF NH=true:=by kernel_rfl
end Go.Eng
