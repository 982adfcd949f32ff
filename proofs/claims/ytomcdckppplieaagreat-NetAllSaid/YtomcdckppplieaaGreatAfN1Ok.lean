/-
One more abstract text stands for its function of the program.
-/
import Derived.Test.YtomcdckppplieaaGreatAfN1
import Derived.Test.YtomcdckppplieaaGreatRows
import Derived.KernelRfl
set_option maxRecDepth 1000000
namespace Go.Proofs.YtomcdckppplieaaGreat
open Go Go.Eng Go.Eng.AF
theorem okclm : okFn Tryz.prog 89 clm = true := by kernel_rfl
end Go.Proofs.YtomcdckppplieaaGreat
