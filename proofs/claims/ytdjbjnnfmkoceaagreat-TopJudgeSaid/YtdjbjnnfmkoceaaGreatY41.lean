/-
Rounds of a world.
-/
import Derived.Test.YtdjbjnnfmkoceaaGreatYRk
import Derived.KernelRfl
set_option linter.unusedVariables false
set_option linter.unusedSimpArgs false
set_option maxRecDepth 1000000
namespace Go.Eng
open Go
theorem SL:aL cR aI aD 7 H6 H7=true:=by kernel_rfl
theorem SN:aL cR aI aD 7 H7 H8=true:=by kernel_rfl
theorem SO:aL cR aI aD 7 H8 H9=true:=by kernel_rfl
theorem SP:aL cR aI aD 7 H9 Ia=true:=by kernel_rfl
theorem SQ:aL cR aI aD 7 Ia Ib=true:=by kernel_rfl
theorem SR:aL cR aI aD 7 Ib Ic=true:=by kernel_rfl
theorem agR:qR cR aI El AF.f41.results aD 2 (Ej AF.f41.body) Ic JN JO=true:=by kernel_rfl
end Go.Eng
