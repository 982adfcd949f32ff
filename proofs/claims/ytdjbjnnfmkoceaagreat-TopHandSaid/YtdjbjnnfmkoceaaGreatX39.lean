/-
Rounds of a world.
-/
import Derived.Test.YtdjbjnnfmkoceaaGreatX22
import Derived.KernelRfl
set_option linter.unusedVariables false
set_option linter.unusedSimpArgs false
set_option maxRecDepth 1000000
namespace Go.Eng
open Go
theorem TO:tW G8 G9 Ha aK AF.f41.nparams TP TQ Qk=true:=by kernel_rfl
theorem Ql:aN dO aO aK 6 Qk Qn=true:=by kernel_rfl
theorem Qo:aN dO aO aK 7 Qn Qp=true:=by kernel_rfl
theorem Qq:aN dO aO aK 5 Qp Qs=true:=by kernel_rfl
theorem Qt:aN dO aO aK 1 Qs Qu=true:=by kernel_rfl
theorem Qv:aN dO aO aK 4 Qu Qw=true:=by kernel_rfl
end Go.Eng
