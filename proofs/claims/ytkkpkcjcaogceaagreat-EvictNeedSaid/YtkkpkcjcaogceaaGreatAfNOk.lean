/-
One more abstract text stands for its function of the program.
-/
import Derived.Test.YtkkpkcjcaogceaaGreatAfN
import Derived.Test.YtkkpkcjcaogceaaGreatRows
import Derived.KernelRfl
set_option maxRecDepth 1000000
namespace Go.Proofs.YtkkpkcjcaogceaaGreat
open Go Go.Eng Go.Eng.AF
theorem oken : okFn Tryz.prog 3 en = true := by kernel_rfl
end Go.Proofs.YtkkpkcjcaogceaaGreat
