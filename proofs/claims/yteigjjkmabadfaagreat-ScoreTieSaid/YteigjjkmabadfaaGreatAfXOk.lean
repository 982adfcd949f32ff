/-
One more abstract text stands for its function of the program.
-/
import Derived.Test.YteigjjkmabadfaaGreatAfX
import Derived.Test.YteigjjkmabadfaaGreatRows
import Derived.KernelRfl
set_option maxRecDepth 1000000
namespace Go.Proofs.YteigjjkmabadfaaGreat
open Go Go.Eng Go.Eng.AF
theorem okX : okFn Tryz.prog 6 f6 = true := by kernel_rfl
end Go.Proofs.YteigjjkmabadfaaGreat
