/-
interrexlaw18.begun answers true: the abstract run, by the kernel.
-/
import Derived.Test.YteigjjkmabadfaaGreatAfT
import Derived.Test.YteigjjkmabadfaaGreatEngC
import Derived.Test.YteigjjkmabadfaaGreatEngFast
import Derived.KernelRfl
namespace Go.Eng.AF
open Go.Eng
set_option maxRecDepth 1000000 in
theorem runE : isTrue (runF AF.fns.get 276 (known [20] (orcC 82 (orcOf 281 320 339))) 3000 5 [] noG) = true := by kernel_rfl
end Go.Eng.AF
