/-
interrexlaw18.begun answers true: the abstract run, by the kernel.
-/
import Derived.Test.YtngohnnpkdalnaaGreatAfT
import Derived.Test.YtngohnnpkdalnaaGreatEngC
import Derived.Test.YtngohnnpkdalnaaGreatEngFast
import Derived.KernelRfl
namespace Go.Eng.AF
open Go.Eng
set_option maxRecDepth 1000000 in
theorem runE : isTrue (runF AF.fns.get 273 (known [16] (orcC 75 (orcOf 278 317 336))) 3000 4 [] noG) = true := by kernel_rfl
end Go.Eng.AF
