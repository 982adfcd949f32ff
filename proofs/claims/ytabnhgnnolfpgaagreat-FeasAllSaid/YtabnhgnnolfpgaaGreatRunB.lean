/-
interrexlaw6.Begun answers true: the abstract run, by the kernel.
-/
import Derived.Test.YtabnhgnnolfpgaaGreatAfT
import Derived.Test.YtabnhgnnolfpgaaGreatEngC
import Derived.Test.YtabnhgnnolfpgaaGreatEngFast
import Derived.KernelRfl
namespace Go.Eng.AF
open Go.Eng
set_option maxRecDepth 1000000 in
theorem runB : isTrue (runF AF.fns.get 308 (known [278] (orcOf 313 352 371)) 3000 153 [] noG) = true := by kernel_rfl
end Go.Eng.AF
