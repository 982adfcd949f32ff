/-
One more abstract text stands for its function of the program.
-/
import Derived.Test.YtllgfkpmblhbmaaGreatAfE
import Derived.Test.YtllgfkpmblhbmaaGreatRows
import Derived.KernelRfl
set_option maxRecDepth 1000000
namespace Go.Proofs.YtllgfkpmblhbmaaGreat
open Go Go.Eng Go.Eng.AF
theorem okte : okFn Tryz.prog 4 te = true := by kernel_rfl
end Go.Proofs.YtllgfkpmblhbmaaGreat
