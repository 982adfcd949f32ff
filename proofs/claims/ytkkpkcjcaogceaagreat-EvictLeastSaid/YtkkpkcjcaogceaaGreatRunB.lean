/-
interrexlaw6.Begun answers true: the abstract run, by the kernel.
-/
import Derived.Test.YtkkpkcjcaogceaaGreatAfT
import Derived.Test.YtkkpkcjcaogceaaGreatEngC
import Derived.Test.YtkkpkcjcaogceaaGreatEngFast
import Derived.KernelRfl
namespace Go.Eng.AF
open Go.Eng
set_option maxRecDepth 1000000 in
theorem runB : isTrue (runF AF.fns.get 287 (known [257] (orcOf 292 330 349)) 3000 132 [] noG) = true := by kernel_rfl
end Go.Eng.AF
