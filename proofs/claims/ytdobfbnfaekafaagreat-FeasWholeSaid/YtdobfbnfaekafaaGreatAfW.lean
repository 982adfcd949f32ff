/-
One more function's abstract text.
-/
import Derived.Test.YtdobfbnfaekafaaGreatEngC
set_option maxRecDepth 100000
namespace Go.Eng.AF
open Go Go.Eng
/-- interrex/interrexlaw18.FeasWhole -/
def fw : AFn := ⟨2, (rS [oO 2 (.box false 0) [0], oA 4 kF [4]] (rS [oO 17 (.call 5 []) [], oA 5 17 [17]] (.seq (rS [oM 18 5 [5], oO 19 (.un .not 18) [18]] (.cond 19 (rS [oA 4 kF []] .ret)
 .skip))
(rS [oO 20 (.load (some 2) 2) [], oO 21 (.call 6 [20]) [20], oN (.store 2 2 21) [21]] (rS [oA 6 (.c .nils) []] (.seq (rS [oO 22 (.faddr 1 2) [], oO 23 (.load none 22) [22], oO 24 (.lenL 23) [], oM 25 (kI 0) []] (.blk 0 (.loop (rS [oO 26 (.bin .lss 25 24) []] (.seq (.cond 26 .skip
 (.exit 0))
(.seq (.blk 1 (rS [oO 27 (.iasl 16 23 25) [], oO 28 (.load (some 16) 27) [27], oO 8 (.alloc false [vS,(vI 0),(vI 0),(vI 0),(vI 0),(vI 0),.nils,.nils,.nils,.nils,vS,.nils,(vI 0),.nils,vS,(vI 0)]) [], oN (.store 16 8 28) [28]] (rS [oO 29 (.faddr 14 8) [], oN (.store 1 29 (.c vS)) [29], oO 30 (.faddr 15 8) [], oN (.store 1 30 (kI 0)) [30]] (rR [oM 31 6 [6], oO 32 (.load (some 16) 8) [8], oO 33 (.bsl .fz 16 1 [vS,(vI 0),(vI 0),(vI 0),(vI 0),(vI 0),.nils,.nils,.nils,.nils,vS,.nils,(vI 0),.nils,vS,(vI 0)] [(0, 32)]) [32], oO 34 (.append (.im false) 16 248 31 33) [31,33], oA 6 34 [34]]))))
(rR [oO 35 (.bin .add 25 (kI 1)) [25], oM 25 35 [35]])))))))
(rS [oM 36 6 [6], oO 37 (.faddr 1 2) [], oN (.store 1 37 36) [37,36]] (.seq (rS [oO 38 (.load (some 2) 2) [], oO 39 (.call 11 [38]) [38], oO 40 (.un .not 39) [39]] (.cond 40 (rS [oA 4 kF []] .ret)
 .skip))
(.seq (rS [oO 41 (.bsl .fz 1 2 [vS] [(0, (.c (.s [101,120,116,114,97]))),(1, (.c (.s [110,111,119,104,101,114,101])))]) [], oO 42 (.lenL 41) [], oM 43 (kI 0) []] (.blk 2 (.loop (rS [oO 44 (.bin .lss 43 42) []] (.seq (.cond 44 .skip
 (.exit 2))
(.seq (.blk 3 (rS [oO 45 (.iasl 1 41 43) [], oO 46 (.load none 45) [45], oA 10 46 [46]] (rS [oO 48 (.load (some 2) 2) [], oM 49 10 [10], oO 50 (.call 13 [48,49]) [48,49], oM 47 50 [50], oO 51 (.ext 47 0) [], oO 52 (.ext 47 1) [47], oO 11 (.alloc false [vS,(vI 0),(vI 0),(vI 0),.nils,.nils]) [], oN (.store 6 11 51) [11,51], oA 12 52 [52]] (rS [oM 53 12 [12]] (.cond 53 (rS [oA 4 kT []] .ret)
 .skip)))))
(rR [oO 54 (.bin .add 43 (kI 1)) [43], oM 43 54 [54]])))))))
(rS [oO 55 (.bld [(vI 0),(vI 0),(vI 0)] [(0, 1, (kI 5)),(1, 1, (kI 5)),(2, 1, (kI 5))]) [], oO 56 (.bld [vS,(vI 0),(vI 0),(vI 0),.nils,.nils] [(0, 1, (.c (.s [101,120,116,114,97]))),(1, 3, 55)]) [55], oO 13 (.alloc false [vS,(vI 0),(vI 0),(vI 0),.nils,.nils]) [], oN (.store 6 13 56) [56]] (.seq (.dreg [⟨0, (oO 57 (.faddr 0 2) []), false, []⟩,
 ⟨1, (oO 58 (.load none 57) []), false, []⟩,
 ⟨3, (oO 60 (.load (some 6) 13) []), false, []⟩,
 ⟨4, (oO 61 (.bsl .fz 6 1 [vS,(vI 0),(vI 0),(vI 0),.nils,.nils] [(0, 60)]) []), false, []⟩,
 ⟨6, (oO 63 (.faddr 1 2) []), false, []⟩,
 ⟨7, (oO 64 (.load none 63) []), false, []⟩,
 ⟨2, (oO 59 (.append (.im false) 6 88 (.c .nils) 58) []), true, [7,3]⟩,
 ⟨5, (oO 62 (.append (.im false) 6 88 59 61) []), true, [7]⟩,
 ⟨8, (oO 65 (.bld [.nils,.nils] [(0, 1, 62),(1, 1, 64)]) []), false, []⟩,
 ⟨9, (oO 14 (.alloc false [.nils,.nils]) []), true, [7,3,1]⟩,
 ⟨10, (oN (.store 2 14 65) []), true, []⟩] [2,57,58,59,13,60,61,62,63,64,65])
(rS [oO 66 (.bld [(vI 0),(vI 0),(vI 0)] [(0, 1, (kI 3)),(1, 1, (kI 0)),(2, 1, (kI 0))]) [], oO 67 (.bsl .fz 1 1 [(vI 0)] [(0, (kI 7))]) [], oO 68 (.bld [vS,(vI 0),(vI 0),(vI 0),(vI 0),(vI 0),.nils,.nils,.nils,.nils,vS,.nils,(vI 0),.nils,vS,(vI 0)] [(0, 1, (.c (.s [48,97]))),(1, 1, (kI 1)),(3, 3, 66),(6, 1, 67),(14, 1, (.c (.s [101,120,116,114,97]))),(15, 1, (kI 1))]) [66,67], oO 15 (.alloc false [vS,(vI 0),(vI 0),(vI 0),(vI 0),(vI 0),.nils,.nils,.nils,.nils,vS,.nils,(vI 0),.nils,vS,(vI 0)]) [], oN (.store 16 15 68) [68]] (rS [oO 69 (.bld [(vI 0),(vI 0),(vI 0)] [(0, 1, (kI 2)),(1, 1, (kI 0)),(2, 1, (kI 0))]) [], oO 70 (.bsl .fz 1 1 [(vI 0)] [(0, (kI 8))]) [], oO 71 (.bld [vS,(vI 0),(vI 0),(vI 0),(vI 0),(vI 0),.nils,.nils,.nils,.nils,vS,.nils,(vI 0),.nils,vS,(vI 0)] [(0, 1, (.c (.s [48,98]))),(1, 1, (kI 2)),(3, 3, 69),(6, 1, 70),(14, 1, (.c (.s [101,120,116,114,97]))),(15, 1, (kI 1))]) [69,70], oO 16 (.alloc false [vS,(vI 0),(vI 0),(vI 0),(vI 0),(vI 0),.nils,.nils,.nils,.nils,vS,.nils,(vI 0),.nils,vS,(vI 0)]) [], oN (.store 16 16 71) [71]] (.seq (rS [oM 72 1 [], oO 73 (.bin .rem 72 (kI 4)) [72], oO 74 (.bin .add 73 (kI 4)) [73], oO 75 (.bin .rem 74 (kI 4)) [74]] (.blk 4 (rS [oO 77 (.bin .eql 75 (kI 1)) [], oA 76 77 [77]] (.cond 76 (rR [oO 78 (.faddr 3 16) [], oO 79 (.iaar 3 1 78 (kI 0)) [78], oN (.store 1 79 (kI 3)) [79]])
 (rS [oO 81 (.bin .eql 75 (kI 2)) [], oA 80 81 [81]] (.cond 80 (rR [oO 82 (.bsl .fz 1 1 [(vI 0)] [(0, (kI 7))]) [], oO 83 (.faddr 6 16) [], oN (.store 1 83 82) [83,82]])
 (rS [oO 85 (.bin .eql 75 (kI 3)) [75], oA 84 85 [85]] (.cond 84 (rR [oO 86 (.faddr 14 16) [], oN (.store 1 86 (.c (.s [110,111,119,104,101,114,101]))) [86]])
 .skip))))))))
(.seq (.dreg [⟨0, (oO 87 (.load (some 2) 14) []), false, []⟩,
 ⟨1, (oO 88 (.load (some 16) 15) []), false, []⟩,
 ⟨3, (oO 90 (.load (some 16) 16) []), false, []⟩,
 ⟨6, (oM 93 1 []), false, []⟩,
 ⟨7, (oO 94 (.bin .rem 93 (kI 4)) []), false, []⟩,
 ⟨8, (oO 95 (.bin .add 94 (kI 4)) []), false, []⟩,
 ⟨9, (oO 96 (.bin .rem 95 (kI 4)) []), false, []⟩,
 ⟨10, (oO 97 (.bin .eql 96 (kI 0)) []), false, []⟩,
 ⟨2, (oO 89 (.call 10 [87,88]) []), true, [3]⟩,
 ⟨4, (oO 91 (.call 10 [89,90]) []), true, []⟩,
 ⟨5, (oO 92 (.call 11 [91]) []), true, []⟩,
 ⟨11, (oO 98 (.eqc false [.b] false 92 97) []), false, []⟩,
 ⟨12, (oA 4 98 []), false, []⟩] [14,87,15,88,89,16,90,91,92,1,93,94,95,96,97,98])
.ret))))))))))))))), [.t 4]⟩
end Go.Eng.AF
