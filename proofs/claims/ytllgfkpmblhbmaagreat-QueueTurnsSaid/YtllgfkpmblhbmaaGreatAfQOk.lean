/-
One more abstract text stands for its function of the program.
-/
import Derived.Test.YtllgfkpmblhbmaaGreatAfQ
import Derived.Test.YtllgfkpmblhbmaaGreatRows
import Derived.KernelRfl
set_option maxRecDepth 1000000
namespace Go.Proofs.YtllgfkpmblhbmaaGreat
open Go Go.Eng Go.Eng.AF
theorem okqt : okFn Tryz.prog 7 qt = true := by kernel_rfl
end Go.Proofs.YtllgfkpmblhbmaaGreat
