/-
One more function's abstract text.
-/
import Derived.Test.YteigjjkmabadfaaGreatEngC
namespace Go.Eng.AF
open Go Go.Eng
/-- interrexlaw1.Text -/
def f6 : AFn := ⟨2, (rS [oA 4 (.c vS) [4]] (rS [oM 5 0 [], oM 6 0 [0], oO 7 (.lenS 6) [6], oM 8 1 [1], oO 9 (.mnmx false [7,8]) [7,8], oO 10 (.slstr 5 none (some 9)) [5,9], oA 4 10 [10]] .ret)), [.t 4]⟩
end Go.Eng.AF
