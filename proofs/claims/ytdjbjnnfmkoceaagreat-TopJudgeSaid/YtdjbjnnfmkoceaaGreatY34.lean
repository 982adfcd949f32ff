/-
Rounds of a world.
-/
import Derived.Test.YtdjbjnnfmkoceaaGreatYRk
import Derived.KernelRfl
set_option linter.unusedVariables false
set_option linter.unusedSimpArgs false
set_option maxRecDepth 1000000
namespace Go.Eng
open Go
theorem acY:aL cR aI aD 7 Ng Nh=true:=by kernel_rfl
theorem acZ:aL cR aI aD 7 Nh Hw=true:=by kernel_rfl
theorem Tr:aL cR aI aD 7 Hw Hx=true:=by kernel_rfl
theorem Ts:aL cR aI aD 7 Hx Hy=true:=by kernel_rfl
theorem Tt:aL cR aI aD 7 Hy Hz=true:=by kernel_rfl
theorem Tu:aL cR aI aD 7 Hz HA=true:=by kernel_rfl
theorem Tv:aL cR aI aD 7 HA HB=true:=by kernel_rfl
theorem Tw:aL cR aI aD 7 HB HC=true:=by kernel_rfl
theorem Tx:aL cR aI aD 7 HC HD=true:=by kernel_rfl
end Go.Eng
