/-
interrexlaw1.Begun answers true: the abstract run, by the kernel.
-/
import Derived.Test.YtmfelikepmmjkaaGreatY13
import Derived.Test.YtmfelikepmmjkaaGreatY08
import Derived.KernelRfl
set_option linter.unusedVariables false
set_option linter.unusedSimpArgs false
namespace Go.Eng.AF
open Go.Eng
set_option maxRecDepth 1000000 in
theorem adT:isTrue (I5 AF.fns.get 285 (tB 42 54 139) 3000 328 [] gZ)=true:=by kernel_rfl
end Go.Eng.AF
