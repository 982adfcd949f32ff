/-
interrexlaw1.Begun answers true: the abstract run, by the kernel.
-/
import Derived.Test.YtcckglahpbmakaaGreatAfT
import Derived.Test.YtcckglahpbmakaaGreatEngC
import Derived.Test.YtcckglahpbmakaaGreatEngFast
import Derived.KernelRfl
namespace Go.Eng.AF
open Go.Eng
set_option maxRecDepth 1000000 in
theorem runA : isTrue (runF AF.fns.get 161 (orcOf 53 57 104) 3000 146 [] noG) = true := by kernel_rfl
end Go.Eng.AF
