/-
One more abstract text stands for its function of the program.
-/
import Derived.Test.YtngohnnpkdalnaaGreatAfY
import Derived.Test.YtngohnnpkdalnaaGreatRows
import Derived.KernelRfl
set_option maxRecDepth 1000000
namespace Go.Proofs.YtngohnnpkdalnaaGreat
open Go Go.Eng Go.Eng.AF
theorem okqb : okFn Tryz.prog 3 qb = true := by kernel_rfl
end Go.Proofs.YtngohnnpkdalnaaGreat
