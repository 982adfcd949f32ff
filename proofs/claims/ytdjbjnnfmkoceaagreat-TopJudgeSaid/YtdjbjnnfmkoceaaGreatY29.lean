/-
Rounds of a world.
-/
import Derived.Test.YtdjbjnnfmkoceaaGreatYRk
import Derived.KernelRfl
set_option linter.unusedVariables false
set_option linter.unusedSimpArgs false
set_option maxRecDepth 1000000
namespace Go.Eng
open Go
theorem S7:aL cR aI aD 7 Hb Hc=true:=by kernel_rfl
theorem S8:aL cR aI aD 7 Hc Hd=true:=by kernel_rfl
theorem S9:aL cR aI aD 7 Hd He=true:=by kernel_rfl
theorem Ta:aL cR aI aD 7 He Hf=true:=by kernel_rfl
theorem Tb:aL cR aI aD 7 Hf Hg=true:=by kernel_rfl
theorem Tc:aL cR aI aD 7 Hg Hh=true:=by kernel_rfl
theorem agW:qR cR aI El AF.f41.results aD 2 (Ej AF.f41.body) Hh Jx Jy=true:=by kernel_rfl
end Go.Eng
