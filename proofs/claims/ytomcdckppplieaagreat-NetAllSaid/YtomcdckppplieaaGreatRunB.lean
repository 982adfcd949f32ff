/-
interrexlaw6.Begun answers true: the abstract run, by the kernel.
-/
import Derived.Test.YtomcdckppplieaaGreatAfT
import Derived.Test.YtomcdckppplieaaGreatEngC
import Derived.Test.YtomcdckppplieaaGreatEngFast
import Derived.KernelRfl
namespace Go.Eng.AF
open Go.Eng
set_option maxRecDepth 1000000 in
theorem runB : isTrue (runF AF.fns.get 163 (known [125] (orcOf 46 202 223)) 3000 39 [] noG) = true := by kernel_rfl
end Go.Eng.AF
