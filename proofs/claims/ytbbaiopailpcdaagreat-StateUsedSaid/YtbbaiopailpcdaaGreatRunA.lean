/-
interrexlaw1.Begun answers true: the abstract run, by the kernel.
-/
import Derived.Test.YtbbaiopailpcdaaGreatAfT
import Derived.Test.YtbbaiopailpcdaaGreatEngC
import Derived.Test.YtbbaiopailpcdaaGreatEngFast
import Derived.KernelRfl
namespace Go.Eng.AF
open Go.Eng
set_option maxRecDepth 1000000 in
theorem runA : isTrue (runF AF.fns.get 206 (orcOf 211 255 279) 3000 164 [] noG) = true := by kernel_rfl
end Go.Eng.AF
