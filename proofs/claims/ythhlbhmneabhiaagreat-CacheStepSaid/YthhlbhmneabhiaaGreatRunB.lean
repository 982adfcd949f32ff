/-
interrexlaw6.Begun answers true: the abstract run, by the kernel.
-/
import Derived.Test.YthhlbhmneabhiaaGreatAfT
import Derived.Test.YthhlbhmneabhiaaGreatEngC
import Derived.Test.YthhlbhmneabhiaaGreatEngFast
import Derived.KernelRfl
namespace Go.Eng.AF
open Go.Eng
set_option maxRecDepth 1000000 in
theorem runB : isTrue (runF AF.fns.get 167 (known [152] (orcOf 65 62 108)) 3000 53 [] noG) = true := by kernel_rfl
end Go.Eng.AF
