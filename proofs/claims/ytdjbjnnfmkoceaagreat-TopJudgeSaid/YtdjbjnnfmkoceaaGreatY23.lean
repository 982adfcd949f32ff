/-
Rounds of a world.
-/
import Derived.Test.YtdjbjnnfmkoceaaGreatYRk
import Derived.KernelRfl
set_option linter.unusedVariables false
set_option linter.unusedSimpArgs false
set_option maxRecDepth 1000000
namespace Go.Eng
open Go
theorem SZ:aL cR aI eK 7 G2 G3=true:=by kernel_rfl
theorem agT:qR cR aI El AF.f41.results eK 0 (Ej AF.f41.body) G3 Jt Ju=true:=by kernel_rfl
end Go.Eng
