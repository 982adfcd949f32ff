/-
interrexlaw6.Begun answers true: the abstract run, by the kernel.
-/
import Derived.Test.YtaddlnjgamlleaaGreatAfT
import Derived.Test.YtaddlnjgamlleaaGreatEngOrc
import Derived.Test.YtaddlnjgamlleaaGreatEngFast
import Derived.Test.YtaddlnjgamlleaaGreatEngFrame
import Derived.KernelRfl
namespace Go.Eng.AF
open Go.Eng
set_option maxRecDepth 1000000 in
theorem runB : isTrue (runF AF.fns.get 179 (known [145] (orcOf 184 71 105)) 3000 70 [] noG) = true := by kernel_rfl
end Go.Eng.AF
