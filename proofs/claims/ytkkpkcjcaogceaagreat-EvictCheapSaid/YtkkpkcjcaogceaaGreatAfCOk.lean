/-
One more abstract text stands for its function of the program.
-/
import Derived.Test.YtkkpkcjcaogceaaGreatAfC
import Derived.Test.YtkkpkcjcaogceaaGreatRows
import Derived.KernelRfl
set_option maxRecDepth 1000000
namespace Go.Proofs.YtkkpkcjcaogceaaGreat
open Go Go.Eng Go.Eng.AF
theorem okec : okFn Tryz.prog 5 ec = true := by kernel_rfl
end Go.Proofs.YtkkpkcjcaogceaaGreat
