/-
Rounds of a world.
-/
import Derived.Test.YtdjbjnnfmkoceaaGreatYRk
import Derived.KernelRfl
set_option linter.unusedVariables false
set_option linter.unusedSimpArgs false
set_option maxRecDepth 1000000
namespace Go.Eng
open Go
theorem TM:aL cR aI aD 7 HR HS=true:=by kernel_rfl
theorem TN:aL cR aI aD 7 HS HT=true:=by kernel_rfl
theorem TO:aL cR aI aD 7 HT HU=true:=by kernel_rfl
theorem TP:aL cR aI aD 7 HU HV=true:=by kernel_rfl
theorem TQ:aL cR aI aD 7 HV HW=true:=by kernel_rfl
theorem TR:aL cR aI aD 7 HW HX=true:=by kernel_rfl
theorem ag2:qR cR aI El AF.f41.results aD 2 (Ej AF.f41.body) HX JJ JK=true:=by kernel_rfl
end Go.Eng
