/-
interrexlaw1.Begun answers true: the abstract run, by the kernel.
-/
import Derived.Test.YtjoaahnmbonboaaGreatAfT
import Derived.Test.YtjoaahnmbonboaaGreatEngOrc
import Derived.Test.YtjoaahnmbonboaaGreatEngFast
import Derived.Test.YtjoaahnmbonboaaGreatEngFrame
import Derived.KernelRfl
namespace Go.Eng.AF
open Go.Eng
set_option maxRecDepth 1000000 in
theorem runA : isTrue (runF AF.fns.get 183 (orcOf 62 76 113) 3000 142 [] noG) = true := by kernel_rfl
end Go.Eng.AF
