/-
interrexlaw10.begun answers true: the abstract run, by the kernel.
-/
import Derived.Test.YtdobfbnfaekafaaGreatAfT
import Derived.Test.YtdobfbnfaekafaaGreatEngC
import Derived.Test.YtdobfbnfaekafaaGreatEngFast
import Derived.KernelRfl
namespace Go.Eng.AF
open Go.Eng
set_option maxRecDepth 1000000 in
theorem runD : isTrue (runF AF.fns.get 279 (known [249, 121] (orcOf 284 323 342)) 3000 62 [] noG) = true := by kernel_rfl
end Go.Eng.AF
