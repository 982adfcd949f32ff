/-
One more abstract text stands for its function of the program.
-/
import Derived.Test.YtllgfkpmblhbmaaGreatAfP
import Derived.Test.YtllgfkpmblhbmaaGreatRows
import Derived.KernelRfl
set_option maxRecDepth 1000000
namespace Go.Proofs.YtllgfkpmblhbmaaGreat
open Go Go.Eng Go.Eng.AF
theorem okpf : okFn Tryz.prog 6 pf = true := by kernel_rfl
end Go.Proofs.YtllgfkpmblhbmaaGreat
