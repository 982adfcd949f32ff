/-
Rounds of a world.
-/
import Derived.Test.YtdjbjnnfmkoceaaGreatYRk
import Derived.KernelRfl
set_option linter.unusedVariables false
set_option linter.unusedSimpArgs false
set_option maxRecDepth 1000000
namespace Go.Eng
open Go
theorem Ty:aL cR aI aD 7 HD HE=true:=by kernel_rfl
theorem Tz:aL cR aI aD 7 HE HF=true:=by kernel_rfl
theorem TA:aL cR aI aD 7 HF HG=true:=by kernel_rfl
theorem TB:aL cR aI aD 7 HG HH=true:=by kernel_rfl
theorem TC:aL cR aI aD 7 HH HI=true:=by kernel_rfl
theorem TD:aL cR aI aD 7 HI HJ=true:=by kernel_rfl
theorem ag0:qR cR aI El AF.f41.results aD 2 (Ej AF.f41.body) HJ JF JG=true:=by kernel_rfl
end Go.Eng
