/-
One more function's abstract text.
-/
import Derived.Test.YtomcdckppplieaaGreatEngC
set_option maxRecDepth 100000
namespace Go.Eng.AF
open Go Go.Eng
/-- interrex/interrexlaw10.NetOrder -/
def no : AFn := ⟨2, (rS [oA 4 kF [4]] (rS [oO 13 (.call 7 []) [], oB 5 13] (.seq (rS [oQ 14 5, oO 15 (.un .not 14) [14]] (.cond 15 (rS [oA 4 kF []] .ret)
 .skip))
(rS [oO 16 (.call 23 [(kI 50)]) [], oB 6 16] (rS [oA 7 (kI 0) []] (rS [oA 8 (kI 0) []] (.seq (rS [oA 9 (kI 0) []] (.blk 0 (.loop (.seq (rS [oP 17 9, oP 18 0, oO 19 (.lenL 18) [18], oO 20 (.bin .lss 17 19) [17,19], oQ 21 20, oG 22 (.mv 9) 21 [], oG 23 (.mv 1) 21 [], oG 24 (.lenL 23) 21 [23], oG 25 (.bin .lss 22 24) 21 [22,24], oO 26 (.pick 21 25 kF) [21,25], oQ 27 26, oG 28 (.mv 9) 27 [], oG 29 (.bin .lss 28 (kI 60)) 27 [28], oO 30 (.pick 27 29 kF) [27,29]] (.cond 30 .skip
 (.exit 0)))
(.seq (.blk 1 (.seq (.dreg [dq 0 (oP 33 9),
 dq 1 (oO 34 (.cvi .u8 33) []),
 dq 3 (oP 36 0),
 dq 4 (oP 37 9),
 dq 5 (oO 38 (.iasl 1 36 37) []),
 dq 6 (oK 39 38),
 dq 7 (oP 40 0),
 dq 8 (oP 41 9),
 dq 9 (oO 42 (.iasl 1 40 41) []),
 dq 10 (oK 43 42),
 dq 11 (oO 44 (.lenL 43) []),
 dq 12 (oO 45 (.mnmx false [44,(kI 10)]) []),
 dq 13 (oO 46 (.slsl 1 39 none (some 45) none) []),
 ⟨2, (oO 35 (.bsl (.im false) 1 1 [(.i .u8 0)] [(0, 34)]) []), true, [13,10,6]⟩,
 ⟨14, (oO 47 (.append (.im false) 1 1 35 46) []), true, []⟩,
 dq 15 (oA 10 47 [])] [33,34,35,36,37,38,39,40,41,42,43,44,45,46,47])
(.seq (rS [oP 48 6, oO 49 (.call 24 [48]) [48], oO 50 (.bin .lss 49 (kI 50)) [49]] (.cond 50 (.seq (rS [oP 51 6, oP 52 9, oQ 53 10, oO 54 (.bld [(.b false),(vI 0),.nils] [(1, 1, 52),(2, 1, 53)]) [52,53], oO 55 (.call 25 [51,54]) [51,54], oO 56 (.un .not 55) [55]] (.cond 56 (rS [oA 4 kF []] .ret)
 .skip))
(rR [oQ 57 8, oO 58 (.bin .add 57 (kI 1)) [57], oB 8 58]))
 .skip))
(.seq (rS [oP 59 1, oP 60 9, oO 61 (.iasl 1 59 60) [59,60], oL 62 61, oO 63 (.un .not 62) [62]] (.cond 63 (.exit 1)
 .skip))
(rS [oP 65 6, oO 66 (.call 26 [65,(kI 0),kF]) [65], oQ 64 66, oO 67 (.ext 64 0) [], oO 68 (.ext 64 1) [64], oO 11 (.alloc false [(.b false),(vI 0),.nils]) [], oN (.store 3 11 67) [67], oB 12 68] (.seq (rS [oQ 69 12, oO 70 (.un .not 69) [69], oQ 71 70, oH 72 (.faddr 1 11) 71 [], oH 73 (.load none 72) 71 [72], oH 74 (.mv 7) 71 [], oH 75 (.bin .neq 73 74) 71 [73,74], oO 76 (.pick 71 kT 75) [71,75], oQ 77 76, oH 78 (.faddr 2 11) 77 [], oH 79 (.load none 78) 77 [78], oH 80 (.lenL 79) 77 [79], oH 81 (.bin .eql 80 (kI 0)) 77 [80], oO 82 (.pick 77 kT 81) [77,81], oQ 83 82, oH 84 (.faddr 2 11) 83 [11], oH 85 (.load none 84) 83 [84], oH 86 (.iasl 1 85 (kI 0)) 83 [85], oH 87 (.load none 86) 83 [86], oH 88 (.mv 7) 83 [], oH 89 (.cvi .u8 88) 83 [88], oH 90 (.bin .neq 87 89) 83 [87,89], oO 91 (.pick 83 kT 90) [83,90]] (.cond 91 (rS [oA 4 kF []] .ret)
 .skip))
(rR [oQ 92 7, oO 93 (.bin .add 92 (kI 1)) [92], oB 7 93])))))))
(rR [oQ 31 9, oO 32 (.bin .add 31 (kI 1)) [31], oB 9 32]))))))
(rS [oQ 94 6, oO 95 (.call 24 [94]) [94], oQ 96 8, oQ 97 7, oO 98 (.bin .sub 96 97) [96,97], oO 99 (.bin .eql 95 98) [95,98], oB 4 99] .ret)))))))), [.t 4]⟩
end Go.Eng.AF
