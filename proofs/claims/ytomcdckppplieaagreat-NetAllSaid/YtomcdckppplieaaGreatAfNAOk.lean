/-
One more abstract text stands for its function of the program.
-/
import Derived.Test.YtomcdckppplieaaGreatAfNA
import Derived.Test.YtomcdckppplieaaGreatRows
import Derived.KernelRfl
set_option maxRecDepth 1000000
namespace Go.Proofs.YtomcdckppplieaaGreat
open Go Go.Eng Go.Eng.AF
theorem okna : okFn Tryz.prog 6 na = true := by kernel_rfl
end Go.Proofs.YtomcdckppplieaaGreat
