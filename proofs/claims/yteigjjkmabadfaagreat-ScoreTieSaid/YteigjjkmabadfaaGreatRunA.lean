/-
interrexlaw1.Begun answers true: the abstract run, by the kernel.
-/
import Derived.Test.YteigjjkmabadfaaGreatAfT
import Derived.Test.YteigjjkmabadfaaGreatEngC
import Derived.Test.YteigjjkmabadfaaGreatEngFast
import Derived.KernelRfl
namespace Go.Eng.AF
open Go.Eng
set_option maxRecDepth 1000000 in
theorem runA : isTrue (runF AF.fns.get 276 (orcOf 281 320 339) 3000 244 [] noG) = true := by kernel_rfl
end Go.Eng.AF
