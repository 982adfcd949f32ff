/-
interrexlaw10.begun answers true: the abstract run, by the kernel.
-/
import Derived.Test.YtllgfkpmblhbmaaGreatAfT
import Derived.Test.YtllgfkpmblhbmaaGreatEngC
import Derived.Test.YtllgfkpmblhbmaaGreatEngFast
import Derived.KernelRfl
namespace Go.Eng.AF
open Go.Eng
set_option maxRecDepth 1000000 in
theorem runD : isTrue (runF AF.fns.get 311 (known [281, 148] (orcOf 316 354 373)) 3000 81 [] noG) = true := by kernel_rfl
end Go.Eng.AF
