/-
interrexlaw10.Begun answers true: the abstract run, by the kernel.
-/
import Derived.Test.YtcmknonnlnobnaaGreatAfT
import Derived.Test.YtcmknonnlnobnaaGreatEngC
import Derived.Test.YtcmknonnlnobnaaGreatEngFast
import Derived.KernelRfl
namespace Go.Eng.AF
open Go.Eng
set_option maxRecDepth 1000000 in
theorem runD2 : isTrue (runF AF.fns.get 317 (known [104] (orcOf 69 80 164)) 3000 35 [] noG) = true := by kernel_rfl
end Go.Eng.AF
