/-
Rounds of a world.
-/
import Derived.Test.YtdjbjnnfmkoceaaGreatYRk
import Derived.KernelRfl
set_option linter.unusedVariables false
set_option linter.unusedSimpArgs false
set_option maxRecDepth 1000000
namespace Go.Eng
open Go
theorem agZ:zA qS pO Ek aD AF.f41.nparams JD JE M6=true:=by kernel_rfl
theorem acQ:aL cR aI aD 4 M6 M7=true:=by kernel_rfl
theorem acR:aL cR aI aD 4 M7 M8=true:=by kernel_rfl
theorem acS:aL cR aI aD 7 M8 M9=true:=by kernel_rfl
theorem acT:aL cR aI aD 7 M9 Na=true:=by kernel_rfl
theorem acU:aL cR aI aD 7 Na Nb=true:=by kernel_rfl
theorem acV:aL cR aI aD 7 Nb Nc=true:=by kernel_rfl
theorem acW:aL cR aI aD 7 Nc Nf=true:=by kernel_rfl
theorem acX:aL cR aI aD 7 Nf Ng=true:=by kernel_rfl
end Go.Eng
