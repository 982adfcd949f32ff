/-
interrexlaw1.Begun answers true: the abstract run, by the kernel.
-/
import Derived.Test.YtaddlnjgamlleaaGreatAfT
import Derived.Test.YtaddlnjgamlleaaGreatEngOrc
import Derived.Test.YtaddlnjgamlleaaGreatEngFast
import Derived.Test.YtaddlnjgamlleaaGreatEngFrame
import Derived.KernelRfl
namespace Go.Eng.AF
open Go.Eng
set_option maxRecDepth 1000000 in
theorem runA : isTrue (runF AF.fns.get 179 (orcOf 184 71 105) 3000 145 [] noG) = true := by kernel_rfl
end Go.Eng.AF
