/-
One more abstract text stands for its function of the program.
-/
import Derived.Test.YtdobfbnfaekafaaGreatAfW
import Derived.Test.YtdobfbnfaekafaaGreatRows
import Derived.KernelRfl
set_option maxRecDepth 1000000
namespace Go.Proofs.YtdobfbnfaekafaaGreat
open Go Go.Eng Go.Eng.AF
theorem okfw : okFn Tryz.prog 4 fw = true := by kernel_rfl
end Go.Proofs.YtdobfbnfaekafaaGreat
