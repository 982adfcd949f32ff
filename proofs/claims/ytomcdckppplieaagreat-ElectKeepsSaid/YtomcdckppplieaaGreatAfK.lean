/-
One more function's abstract text.
-/
import Derived.Test.YtomcdckppplieaaGreatEngC
set_option maxRecDepth 100000
namespace Go.Eng.AF
open Go Go.Eng
/-- interrex/interrexlaw10.ElectKeeps -/
def ek : AFn := ⟨1, (rS [oA 2 kF [2]] (rS [oO 13 (.call 7 []) [], oB 3 13] (.seq (rS [oQ 14 3, oO 15 (.un .not 14) [14]] (.cond 15 (rS [oA 2 kF []] .ret)
 .skip))
(rS [oO 16 (.call 8 []) [], oO 17 (.call 10 [(kI 4)]) [], oB 4 16, oB 5 17] (rS [oP 18 5, oO 19 (.bld [(vI 0),(vI 0)] []) [], oO 20 (.call 14 [18,(kI 0),(kI 0),19,kF]) [18,19,20]] (rS [oA 6 (kI 0) [], oA 7 (kI 0) []] (.seq (rS [oA 8 (kI 0) []] (.blk 0 (.loop (.seq (rS [oP 21 8, oP 22 0, oO 23 (.lenL 22) [22], oO 24 (.bin .lss 21 23) [21,23], oQ 25 24, oG 26 (.mv 8) 25 [], oG 27 (.bin .lss 26 (kI 40)) 25 [26], oO 28 (.pick 25 27 kF) [25,27]] (.cond 28 .skip
 (.exit 0)))
(.seq (.blk 1 (rS [oP 32 5, oP 33 6, oO 34 (.call 15 [32,33]) [32,33], oQ 31 34, oO 35 (.ext 31 0) [], oO 36 (.ext 31 1) [31], oO 9 (.alloc false [.nils,.nils]) [], oN (.store 2 9 35) [35], oB 10 36] (.seq (rS [oP 37 10, oP 38 8, oO 39 (.bin .eql 38 (kI 0)) [38], oQ 40 39, oH 41 (.mv 6) 40 [], oH 42 (.mv 7) 40 [], oH 43 (.call 21 [41,42]) 40 [41,42], oO 44 (.pick 40 kT 43) [40,43], oO 45 (.eqc false [.b] true 37 44) [37,44]] (.cond 45 (rS [oA 2 kF []] .ret)
 .skip))
(.seq (rS [oQ 46 10] (.cond 46 (rS [oP 48 4, oO 49 (.load (some 2) 9) [9], oO 50 (.call 16 [48,49]) [48,49], oQ 47 50, oO 51 (.ext 47 0) [], oO 52 (.ext 47 1) [47], oB 11 51, oB 12 52] (.seq (rS [oP 53 12, oO 54 (.bin .neq 53 (kI 0)) [53]] (.cond 54 (rS [oA 2 kF []] .ret)
 .skip))
(rS [oP 55 5, oP 56 6, oP 57 11, oQ 58 12, oO 59 (.call 17 [55,56,57,58]) [55,56,57,58,59]] (rS [oP 60 6, oB 7 60] (rS [oP 61 5, oO 62 (.call 22 [61]) [61], oQ 63 11, oO 64 (.bin .neq 62 63) [62,63]] (.cond 64 (rS [oA 2 kF []] .ret)
 .skip))))))
 .skip))
(.seq (rS [oP 65 5, oP 66 6, oO 67 (.call 20 [65,66]) [65,66], oO 68 (.un .not 67) [67]] (.cond 68 (rS [oA 2 kF []] .ret)
 .skip))
(rR [oQ 69 6, oP 70 0, oP 71 8, oO 72 (.iasl 1 70 71) [70,71], oL 73 72, oO 74 (.mnmx false [73,(kI 500)]) [73], oO 75 (.mnmx true [(kI 1),74]) [74], oO 76 (.bin .add 69 75) [69,75], oB 6 76]))))))
(rR [oQ 29 8, oO 30 (.bin .add 29 (kI 1)) [29], oB 8 30]))))))
(rS [oQ 77 0, oO 78 (.lenL 77) [77], oO 79 (.bin .eql 78 (kI 0)) [78], oQ 80 79, oH 81 (.mv 5) 80 [5], oH 82 (.call 22 [81]) 80 [81], oH 83 (.bin .gtr 82 (kI 0)) 80 [82], oO 84 (.pick 80 kT 83) [80,83], oB 2 84] .ret)))))))), [.t 2]⟩
end Go.Eng.AF
