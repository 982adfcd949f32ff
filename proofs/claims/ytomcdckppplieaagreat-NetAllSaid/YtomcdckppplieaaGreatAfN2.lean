/-
One more function's abstract text.
-/
import Derived.Test.YtomcdckppplieaaGreatEngC
set_option maxRecDepth 100000
namespace Go.Eng.AF
open Go Go.Eng
/-- (*interrex/net.Net).All -/
def am : AFn := ⟨1, (rS [oA 2 (.c .nils) [2]] (rS [oA 3 (.c .nils) []] (.seq (rS [oM 5 0 [], oO 6 (.call 24 [5]) [5], oM 7 (kI 0) []] (.blk 0 (.loop (rS [oO 8 (.bin .lss 7 6) []] (.seq (.cond 8 .skip
 (.exit 0))
(.seq (.blk 1 (rS [oM 9 7 [], oA 4 9 [9]] (rR [oM 10 3 [3], oM 11 0 [], oO 12 (.nilc 11) [11], oO 13 (.faddr 0 12) [12], oO 14 (.load none 13) [13], oM 15 4 [4], oO 16 (.iasl 3 14 15) [14,15], oO 17 (.load (some 3) 16) [16], oO 18 (.call 60 [17]) [17], oO 19 (.bsl (.mu true) 3 1 [(.b false),(vI 0),.nils] [(0, 18)]) [18], oO 20 (.append (.mu true) 3 40 10 19) [10,19], oA 3 20 [20]])))
(rR [oO 21 (.bin .add 7 (kI 1)) [7], oM 7 21 [21]])))))))
(rS [oM 22 3 [3], oA 2 22 [22]] .ret)))), [.t 2]⟩
end Go.Eng.AF
