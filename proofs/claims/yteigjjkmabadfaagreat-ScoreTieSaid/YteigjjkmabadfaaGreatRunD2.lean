/-
interrexlaw10.Begun answers true: the abstract run, by the kernel.
-/
import Derived.Test.YteigjjkmabadfaaGreatAfT
import Derived.Test.YteigjjkmabadfaaGreatEngC
import Derived.Test.YteigjjkmabadfaaGreatEngFast
import Derived.KernelRfl
namespace Go.Eng.AF
open Go.Eng
set_option maxRecDepth 1000000 in
theorem runD2 : isTrue (runF AF.fns.get 276 (known [51] (orcOf 281 320 339)) 3000 20 [] noG) = true := by kernel_rfl
end Go.Eng.AF
