/-
Rounds of a world.
-/
import Derived.Test.YtdjbjnnfmkoceaaGreatX22
import Derived.KernelRfl
set_option linter.unusedVariables false
set_option linter.unusedSimpArgs false
set_option maxRecDepth 1000000
namespace Go.Eng
open Go
theorem TI:tW Tt Tu Tv aK AF.f19.nparams TJ TK Qh=true:=by kernel_rfl
theorem Qi:aN fF Lu aK 19 Qh Qj=true:=by kernel_rfl
theorem TL:mO fF Lu Tw AF.f19.results aK 43 (zH AF.f19.body) Qj TM TN=true:=by kernel_rfl
end Go.Eng
