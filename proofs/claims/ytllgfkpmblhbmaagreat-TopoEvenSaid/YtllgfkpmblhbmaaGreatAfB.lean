/-
One more function's abstract text.
-/
import Derived.Test.YtllgfkpmblhbmaaGreatEngC
set_option maxRecDepth 100000
namespace Go.Eng.AF
open Go Go.Eng
/-- interrex/interrexlaw18.TopoApart -/
def ta : AFn := ⟨2, (rS [oA 4 kF [4]] (rS [oO 18 (.call 8 []) [],
oB 5 18] (.seq (rS [oQ 19 5,
oO 20 (.un .not 19) [19]] (.cond 20 (rS [oA 4 kF []] .ret)
 .skip))
(rS [oQ 21 0,
oO 22 (.call 15 [21]) [21],
oO 23 (.bld [.nils,.nils] [(0, 1, 22)]) [22],
oO 6 (.alloc false [.nils,.nils]) [],
oN (.store 2 6 23) [23]] (rS [oO 24 (.mkmap true none) [],
oB 7 24] (.seq (rS [oF 25 0 6,
oL 26 25,
oO 27 (.lenL 26) [],
oM 28 (kI 0) []] (.blk 0 (.loop (rS [oO 29 (.bin .lss 28 27) []] (.seq (.cond 29 .skip
 (.exit 0))
(.seq (.blk 1 (rS [oO 30 (.iasl 6 26 28) [],
oO 31 (.load (some 6) 30) [30],
oO 9 (.alloc false zN) [],
oN (.store 6 9 31) [31]] (rS [oE 33 4 9,
oL 34 33,
oO 35 (.call 17 [34,(.c (.s [122,111,110,101]))]) [34],
oQ 32 35,
oO 36 (.ext 32 0) [],
oO 37 (.ext 32 1) [32],
oB 10 36,
oB 11 37] (rS [oQ 38 11] (.cond 38 (rR [oP 39 7,
oQ 40 10,
oN (.mupd none 39 40 kT) [39,40]])
 .skip)))))
(rR [oO 41 (.bin .add 28 (kI 1)) [28],
oQ 28 41])))))))
(rS [oA 12 (kI 0) []] (.seq (rS [oA 13 (kI 0) []] (.blk 2 (.loop (.seq (rS [oP 42 13,
oP 43 1,
oO 44 (.lenL 43) [43],
oO 45 (.bin .lss 42 44) [42,44],
oQ 46 45,
oG 47 (.mv 13) 46 [],
oG 48 (.bin .lss 47 (kI 8)) 46 [47],
oO 49 (.pick 46 48 kF) [46,48]] (.cond 49 .skip
 (.exit 2)))
(.seq (.blk 3 (rS [oP 52 13,
oO 53 (.bin .add (kI 97) 52) [52],
oO 54 (.cvi .u8 53) [53],
oO 55 (.bsl (.im false) 1 2 [(.i .u8 0)] [(0, (.c (.i .u8 112))),(1, 54)]) [54],
oO 56 (.b2s 55) [55],
oP 57 13,
oO 58 (.bin .add 57 (kI 1)) [57],
oO 59 (.bld [vS,vS] [(0, 1, (.c (.s [97,112,112]))),(1, 1, (.c (.s [120])))]) [],
oO 60 (.bsl (.im false) 2 1 [vS,vS] [(0, 59)]) [59],
oO 61 (.bld [vS,(vI 0),.nils] [(0, 1, (.c (.s [97,112,112]))),(1, 1, (kI 3))]) [],
oO 62 (.bsl (.im false) 3 1 [vS,(vI 0),.nils] [(0, 61)]) [61],
oO 63 (.bld zP [(0, 1, 56),(1, 1, 58),(7, 1, 60),(10, 1, (.c (.s [122,111,110,101]))),(11, 1, 62)]) [56,58,60,62],
oO 14 (.alloc false zP) [],
oN (.store 16 14 63) [63]] (rS [oO 64 (.load (some 2) 6) [],
oO 65 (.load (some 16) 14) [],
oO 66 (.call 16 [64,65]) [64,65],
oB 15 66] (.seq (rS [oP 67 15,
oO 68 (.lenL 67) [67],
oO 69 (.bin .eql 68 (kI 0)) [68],
oP 70 12,
oP 71 7,
oO 72 (.lenM 71) [71],
oO 73 (.bin .eql 70 72) [70,72],
oO 74 (.eqc false [.b] true 69 73) [69,73]] (.cond 74 (rS [oA 4 kF []] .ret)
 .skip))
(.seq (rS [oP 75 15,
oO 76 (.lenL 75) [75],
oO 77 (.bin .eql 76 (kI 0)) [76]] (.cond 77 (rS [oA 4 kT []] .ret)
 .skip))
(rS [oP 78 15,
oP 79 1,
oP 80 13,
oO 81 (.iasl 1 79 80) [79,80],
oL 82 81,
oP 83 15,
oO 84 (.lenL 83) [83],
oO 85 (.bin .rem 82 84) [82,84],
oP 86 15,
oO 87 (.lenL 86) [86],
oO 88 (.bin .add 85 87) [85,87],
oQ 89 15,
oO 90 (.lenL 89) [89],
oO 91 (.bin .rem 88 90) [88,90],
oO 92 (.iasl 1 78 91) [78,91],
oL 93 92,
oF 94 14 14,
oN (.store 1 94 93) [94,93],
oF 95 15 14,
oN (.store 1 95 (kI 1)) [95]] (.seq (rS [oF 96 1 6,
oL 97 96,
oO 98 (.lenL 97) [],
oM 99 (kI 0) []] (.blk 4 (.loop (rS [oO 100 (.bin .lss 99 98) []] (.seq (.cond 100 .skip
 (.exit 4))
(.seq (.blk 5 (rS [oO 101 (.iasl 16 97 99) [],
oO 102 (.load (some 16) 101) [101],
oO 17 (.alloc false zP) [],
oN (.store 16 17 102) [102]] (rS [oO 103 (.load (some 2) 6) [],
oE 104 14 17,
oL 105 104,
oF 106 14 14,
oL 107 106,
oO 108 (.call 20 [103,(.c (.s [122,111,110,101])),105,107]) [103,105,107]] (.cond 108 (rS [oA 4 kF []] .ret)
 .skip))))
(rR [oO 109 (.bin .add 99 (kI 1)) [99],
oQ 99 109])))))))
(rS [oO 110 (.load (some 2) 6) [],
oO 111 (.load (some 16) 14) [14],
oO 112 (.call 18 [110,111]) [110,111],
oN (.store 2 6 112) [112]] (rR [oQ 113 12,
oO 114 (.bin .add 113 (kI 1)) [113],
oB 12 114])))))))))
(rR [oQ 50 13,
oO 51 (.bin .add 50 (kI 1)) [50],
oB 13 51]))))))
(rS [oA 4 kT []] .ret))))))))), [.t 4]⟩
end Go.Eng.AF
