/-
One more abstract text stands for its function of the program.
-/
import Derived.Test.YtomcdckppplieaaGreatAfN2
import Derived.Test.YtomcdckppplieaaGreatRows
import Derived.KernelRfl
set_option maxRecDepth 1000000
namespace Go.Proofs.YtomcdckppplieaaGreat
open Go Go.Eng Go.Eng.AF
theorem okam : okFn Tryz.prog 28 am = true := by kernel_rfl
end Go.Proofs.YtomcdckppplieaaGreat
