/-
Rounds of a world.
-/
import Derived.Test.YtdjbjnnfmkoceaaGreatYRk
import Derived.KernelRfl
set_option linter.unusedVariables false
set_option linter.unusedSimpArgs false
set_option maxRecDepth 1000000
namespace Go.Eng
open Go
theorem adI:aL cR aI aD 7 NA NB=true:=by kernel_rfl
theorem adJ:aL cR aI aD 7 NB HY=true:=by kernel_rfl
theorem TS:aL cR aI aD 7 HY HZ=true:=by kernel_rfl
theorem TT:aL cR aI aD 7 HZ H0=true:=by kernel_rfl
theorem TU:aL cR aI aD 7 H0 H2=true:=by kernel_rfl
theorem TV:aL cR aI aD 7 H2 H3=true:=by kernel_rfl
theorem TW:aL cR aI aD 7 H3 H4=true:=by kernel_rfl
theorem TX:aL cR aI aD 7 H4 H5=true:=by kernel_rfl
theorem TY:aL cR aI aD 7 H5 H6=true:=by kernel_rfl
end Go.Eng
