/-
Rounds of a world.
-/
import Derived.Test.YtdjbjnnfmkoceaaGreatYRk
import Derived.KernelRfl
set_option linter.unusedVariables false
set_option linter.unusedSimpArgs false
set_option maxRecDepth 1000000
namespace Go.Eng
open Go
theorem acE:aL cR aI aD 7 MT MU=true:=by kernel_rfl
theorem acF:aL cR aI aD 7 MU G4=true:=by kernel_rfl
theorem S0:aL cR aI aD 7 G4 G5=true:=by kernel_rfl
theorem S1:aL cR aI aD 7 G5 G6=true:=by kernel_rfl
theorem S2:aL cR aI aD 7 G6 G7=true:=by kernel_rfl
theorem S3:aL cR aI aD 7 G7 G8=true:=by kernel_rfl
theorem S4:aL cR aI aD 7 G8 G9=true:=by kernel_rfl
theorem S5:aL cR aI aD 7 G9 Ha=true:=by kernel_rfl
theorem S6:aL cR aI aD 7 Ha Hb=true:=by kernel_rfl
end Go.Eng
