/-
One more abstract text stands for its function of the program.
-/
import Derived.Test.YtllgfkpmblhbmaaGreatAfB
import Derived.Test.YtllgfkpmblhbmaaGreatRows
import Derived.KernelRfl
set_option maxRecDepth 1000000
namespace Go.Proofs.YtllgfkpmblhbmaaGreat
open Go Go.Eng Go.Eng.AF
theorem okta : okFn Tryz.prog 5 ta = true := by kernel_rfl
end Go.Proofs.YtllgfkpmblhbmaaGreat
