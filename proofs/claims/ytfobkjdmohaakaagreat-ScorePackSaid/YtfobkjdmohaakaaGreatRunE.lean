/-
interrexlaw18.begun answers true: the abstract run, by the kernel.
-/
import Derived.Test.YtfobkjdmohaakaaGreatAfT
import Derived.Test.YtfobkjdmohaakaaGreatEngC
import Derived.Test.YtfobkjdmohaakaaGreatEngFast
import Derived.KernelRfl
namespace Go.Eng.AF
open Go.Eng
set_option maxRecDepth 1000000 in
theorem runE : isTrue (runF AF.fns.get 243 (known [66] (orcC 114 (orcOf 330 368 391))) 3000 21 [] noG) = true := by kernel_rfl
end Go.Eng.AF
