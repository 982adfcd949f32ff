/-
PlanNone answers true: the abstract run, by the kernel.
-/
import Derived.Test.YtfobkjdmohaakaaGreatAfT
import Derived.Test.YtfobkjdmohaakaaGreatEngOrc
import Derived.Test.YtfobkjdmohaakaaGreatEngFast
import Derived.Test.YtfobkjdmohaakaaGreatEngFrame
import Derived.KernelRfl
namespace Go.Eng.AF
open Go.Eng
set_option maxRecDepth 1000000 in
theorem runP : isTrue (runF AF.fns.get 243 (known [21] (orcOf 330 368 391)) 3000 3 [] noG) = true := by kernel_rfl
end Go.Eng.AF
