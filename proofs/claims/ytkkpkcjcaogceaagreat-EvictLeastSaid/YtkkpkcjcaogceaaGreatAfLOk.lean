/-
One more abstract text stands for its function of the program.
-/
import Derived.Test.YtkkpkcjcaogceaaGreatAfL
import Derived.Test.YtkkpkcjcaogceaaGreatRows
import Derived.KernelRfl
set_option maxRecDepth 1000000
namespace Go.Proofs.YtkkpkcjcaogceaaGreat
open Go Go.Eng Go.Eng.AF
theorem okel : okFn Tryz.prog 4 el = true := by kernel_rfl
end Go.Proofs.YtkkpkcjcaogceaaGreat
