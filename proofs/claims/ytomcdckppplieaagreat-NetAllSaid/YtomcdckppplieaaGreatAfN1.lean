/-
One more function's abstract text.
-/
import Derived.Test.YtomcdckppplieaaGreatEngC
set_option maxRecDepth 100000
namespace Go.Eng.AF
open Go Go.Eng
/-- slices.Clone[[]byte,byte] -/
def clm : AFn := ⟨1, (rS [oA 2 (.c .nils) [2]] (.seq (rS [oM 3 0 [], oO 4 (.eqn false 3 (.c .nils)) [3]] (.cond 4 (rS [oA 2 (.c .nils) []] .ret)
 .skip))
(rS [oO 5 (.bsl (.mu true) 1 0 [(.i .u8 0)] []) [], oM 6 0 [0], oO 7 (.append (.mu true) 1 1 5 6) [5,6], oA 2 7 [7]] .ret))), [.t 2]⟩
end Go.Eng.AF
