/-
interrexlaw10.begun answers true: the abstract run, by the kernel.
-/
import Derived.Test.YtmfelikepmmjkaaGreatX11
import Derived.Test.YtmfelikepmmjkaaGreatX12
import Derived.KernelRfl
set_option linter.unusedVariables false
set_option linter.unusedSimpArgs false
namespace Go.Eng.AF
open Go.Eng
set_option maxRecDepth 1000000 in
theorem pX:isTrue (Kj AF.fns.get 285 (known [328,186] (uY 42 54 139)) 3000 91 [] iJ)=true:=by kernel_rfl
end Go.Eng.AF
