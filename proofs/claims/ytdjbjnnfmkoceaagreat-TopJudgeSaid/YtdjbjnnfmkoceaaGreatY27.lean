/-
Rounds of a world.
-/
import Derived.Test.YtdjbjnnfmkoceaaGreatYRk
import Derived.KernelRfl
set_option linter.unusedVariables false
set_option linter.unusedSimpArgs false
set_option maxRecDepth 1000000
namespace Go.Eng
open Go
theorem agV:zA qS pO Ek aD AF.f41.nparams Jv Jw ML=true:=by kernel_rfl
theorem ab6:aL cR aI aD 4 ML MM=true:=by kernel_rfl
theorem ab7:aL cR aI aD 4 MM MN=true:=by kernel_rfl
theorem ab8:aL cR aI aD 7 MN MO=true:=by kernel_rfl
theorem ab9:aL cR aI aD 7 MO MP=true:=by kernel_rfl
theorem acA:aL cR aI aD 7 MP MQ=true:=by kernel_rfl
theorem acB:aL cR aI aD 7 MQ MR=true:=by kernel_rfl
theorem acC:aL cR aI aD 7 MR MS=true:=by kernel_rfl
theorem acD:aL cR aI aD 7 MS MT=true:=by kernel_rfl
end Go.Eng
