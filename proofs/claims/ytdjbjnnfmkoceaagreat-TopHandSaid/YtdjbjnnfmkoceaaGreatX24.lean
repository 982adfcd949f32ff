/-
Rounds of a world.
-/
import Derived.Test.YtdjbjnnfmkoceaaGreatX22
import Derived.KernelRfl
set_option linter.unusedVariables false
set_option linter.unusedSimpArgs false
set_option maxRecDepth 1000000
namespace Go.Eng
open Go
theorem Im:aN dO aO cX 7 Io Ip=true:=by kernel_rfl
theorem Iq:aN dO aO cX 7 Ip Ir=true:=by kernel_rfl
theorem It:aN dO aO cX 7 Ir Iu=true:=by kernel_rfl
theorem Iv:aN dO aO cX 7 Iu Iw=true:=by kernel_rfl
theorem Ix:aN dO aO cX 7 Iw Iy=true:=by kernel_rfl
theorem Iz:aN dO aO cX 7 Iy IA=true:=by kernel_rfl
end Go.Eng
