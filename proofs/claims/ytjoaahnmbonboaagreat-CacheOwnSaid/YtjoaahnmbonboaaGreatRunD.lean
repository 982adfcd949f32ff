/-
interrexlaw10.begun answers true: the abstract run, by the kernel.
-/
import Derived.Test.YtjoaahnmbonboaaGreatAfT
import Derived.Test.YtjoaahnmbonboaaGreatEngOrc
import Derived.Test.YtjoaahnmbonboaaGreatEngFast
import Derived.Test.YtjoaahnmbonboaaGreatEngFrame
import Derived.KernelRfl
namespace Go.Eng.AF
open Go.Eng
set_option maxRecDepth 1000000 in
theorem runD : isTrue (runF AF.fns.get 183 (known [142, 49] (orcOf 62 76 113)) 3000 11 [] noG) = true := by kernel_rfl
end Go.Eng.AF
