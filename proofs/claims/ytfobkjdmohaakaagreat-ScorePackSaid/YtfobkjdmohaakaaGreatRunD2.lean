/-
interrexlaw10.Begun answers true: the abstract run, by the kernel.
-/
import Derived.Test.YtfobkjdmohaakaaGreatAfT
import Derived.Test.YtfobkjdmohaakaaGreatEngC
import Derived.Test.YtfobkjdmohaakaaGreatEngFast
import Derived.KernelRfl
namespace Go.Eng.AF
open Go.Eng
set_option maxRecDepth 1000000 in
theorem runD2 : isTrue (runF AF.fns.get 243 (known [146] (orcOf 330 368 391)) 3000 66 [] noG) = true := by kernel_rfl
end Go.Eng.AF
