/-
interrexlaw10.Begun answers true: the abstract run, by the kernel.
-/
import Derived.Test.YtngohnnpkdalnaaGreatAfT
import Derived.Test.YtngohnnpkdalnaaGreatEngC
import Derived.Test.YtngohnnpkdalnaaGreatEngFast
import Derived.KernelRfl
namespace Go.Eng.AF
open Go.Eng
set_option maxRecDepth 1000000 in
theorem runD2 : isTrue (runF AF.fns.get 273 (known [46] (orcOf 278 317 336)) 3000 16 [] noG) = true := by kernel_rfl
end Go.Eng.AF
