/-
interrexlaw10.begun answers true: the abstract run, by the kernel.
-/
import Derived.Test.YtcmknonnlnobnaaGreatAfT
import Derived.Test.YtcmknonnlnobnaaGreatEngC
import Derived.Test.YtcmknonnlnobnaaGreatEngFast
import Derived.KernelRfl
namespace Go.Eng.AF
open Go.Eng
set_option maxRecDepth 1000000 in
theorem runD : isTrue (runF AF.fns.get 317 (known [353, 203] (orcOf 69 80 164)) 3000 104 [] noG) = true := by kernel_rfl
end Go.Eng.AF
