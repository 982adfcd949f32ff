/-
Rounds of a world.
-/
import Derived.Test.YtdjbjnnfmkoceaaGreatYRk
import Derived.KernelRfl
set_option linter.unusedVariables false
set_option linter.unusedSimpArgs false
set_option maxRecDepth 1000000
namespace Go.Eng
open Go
theorem agX:zA qS pO Ek aD AF.f41.nparams Jz JA MV=true:=by kernel_rfl
theorem acG:aL cR aI aD 4 MV MW=true:=by kernel_rfl
theorem acH:aL cR aI aD 4 MW MX=true:=by kernel_rfl
theorem acI:aL cR aI aD 7 MX MY=true:=by kernel_rfl
theorem acJ:aL cR aI aD 7 MY MZ=true:=by kernel_rfl
theorem acK:aL cR aI aD 7 MZ M0=true:=by kernel_rfl
theorem acL:aL cR aI aD 7 M0 M1=true:=by kernel_rfl
theorem acM:aL cR aI aD 7 M1 M3=true:=by kernel_rfl
theorem acN:aL cR aI aD 7 M3 M4=true:=by kernel_rfl
end Go.Eng
