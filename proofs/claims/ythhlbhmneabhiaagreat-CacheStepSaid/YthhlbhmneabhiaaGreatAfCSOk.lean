/-
One more abstract text stands for its function of the program.
-/
import Derived.Test.YthhlbhmneabhiaaGreatAfCS
import Derived.Test.YthhlbhmneabhiaaGreatRows
import Derived.KernelRfl
set_option maxRecDepth 1000000
namespace Go.Proofs.YthhlbhmneabhiaaGreat
open Go Go.Eng Go.Eng.AF
theorem okcs : okFn Tryz.prog 3 cs = true := by kernel_rfl
end Go.Proofs.YthhlbhmneabhiaaGreat
