/-
Rounds of a world.
-/
import Derived.Test.YtdjbjnnfmkoceaaGreatX22
import Derived.KernelRfl
set_option linter.unusedVariables false
set_option linter.unusedSimpArgs false
set_option maxRecDepth 1000000
namespace Go.Eng
open Go
theorem TU:tW Tt Tu Tv aK AF.f19.nparams TV TW QG=true:=by kernel_rfl
theorem QH:aN fF Lu aK 46 QG QI=true:=by kernel_rfl
theorem TX:mO fF Lu Tw AF.f19.results aK 38 (zH AF.f19.body) QI TY TZ=true:=by kernel_rfl
end Go.Eng
