/-
One more function's abstract text.
-/
import Derived.Test.YtllgfkpmblhbmaaGreatEngC
set_option maxRecDepth 100000
namespace Go.Eng.AF
open Go Go.Eng
/-- interrex/interrexlaw18.TopoEven -/
def te : AFn := ⟨3, (rS [oA 6 kF [6]] (rS [oO 24 (.call 8 []) [],
oB 7 24] (.seq (rS [oQ 25 7,
oO 26 (.un .not 25) [25]] (.cond 26 (rS [oA 6 kF []] .ret)
 .skip))
(rS [oQ 27 1,
oO 28 (.bin .rem 27 (kI 3)) [27],
oO 29 (.bin .add 28 (kI 3)) [28],
oO 30 (.bin .rem 29 (kI 3)) [29],
oO 31 (.bin .add (kI 1) 30) [30],
oB 1 31] (rS [oQ 32 0,
oO 33 (.call 15 [32]) [32],
oO 34 (.bld [.nils,.nils] [(0, 1, 33)]) [33],
oO 8 (.alloc false [.nils,.nils]) [],
oN (.store 2 8 34) [34]] (rS [oO 35 (.bld [vS,(vI 0),.nils] [(0, 1, (.c (.s [97,112,112]))),(1, 1, (kI 3))]) [],
oO 36 (.bsl (.im false) 3 1 [vS,(vI 0),.nils] [(0, 35)]) [35],
oB 9 36] (.seq (rS [oA 10 (kI 0) []] (.blk 0 (.loop (.seq (rS [oP 37 10,
oP 38 2,
oO 39 (.lenL 38) [38],
oO 40 (.bin .lss 37 39) [37,39],
oQ 41 40,
oG 42 (.mv 10) 41 [],
oG 43 (.bin .lss 42 (kI 20)) 41 [42],
oO 44 (.pick 41 43 kF) [41,43]] (.cond 44 .skip
 (.exit 0)))
(.seq (.blk 1 (rS [oP 47 10,
oO 48 (.bin .add (kI 97) 47) [47],
oO 49 (.cvi .u8 48) [48],
oO 50 (.bsl (.im false) 1 2 [(.i .u8 0)] [(0, (.c (.i .u8 112))),(1, 49)]) [49],
oO 51 (.b2s 50) [50],
oP 52 10,
oO 53 (.bin .add 52 (kI 1)) [52],
oO 54 (.bld [vS,vS] [(0, 1, (.c (.s [97,112,112]))),(1, 1, (.c (.s [120])))]) [],
oO 55 (.bsl (.im false) 2 1 [vS,vS] [(0, 54)]) [54],
oP 56 1,
oP 57 9,
oO 58 (.bld zP [(0, 1, 51),(1, 1, 53),(7, 1, 55),(10, 1, (.c (.s [122,111,110,101]))),(12, 1, 56),(13, 1, 57)]) [51,53,55,56,57],
oO 11 (.alloc false zP) [],
oN (.store 16 11 58) [58]] (rS [oO 59 (.load (some 2) 8) [],
oO 60 (.load (some 16) 11) [],
oO 61 (.call 16 [59,60]) [59,60],
oB 12 61] (.seq (rS [oP 62 12,
oO 63 (.lenL 62) [62],
oO 64 (.bin .eql 63 (kI 0)) [63]] (.cond 64 (.seq (rS [oE 65 0 8,
oL 66 65,
oO 67 (.lenL 66) [],
oM 68 (kI 0) []] (.blk 2 (.loop (rS [oO 69 (.bin .lss 68 67) []] (.seq (.cond 69 .skip
 (.exit 2))
(.seq (.blk 3 (rS [oO 70 (.iasl 6 66 68) [],
oO 71 (.load (some 6) 70) [70],
oO 14 (.alloc false zN) [],
oN (.store 6 14 71) [71]] (rS [oE 73 4 14,
oL 74 73,
oO 75 (.call 17 [74,(.c (.s [122,111,110,101]))]) [74],
oQ 72 75,
oO 76 (.ext 72 0) [],
oO 77 (.ext 72 1) [72],
oA 15 76 [76,15],
oB 16 77] (rS [oQ 78 16] (.cond 78 (rS [oA 6 kF []] .ret)
 .skip)))))
(rR [oO 79 (.bin .add 68 (kI 1)) [68],
oQ 68 79])))))))
(rS [oA 6 kT []] .ret))
 .skip))
(rS [oP 80 12,
oP 81 2,
oP 82 10,
oO 83 (.iasl 1 81 82) [81,82],
oL 84 83,
oP 85 12,
oO 86 (.lenL 85) [85],
oO 87 (.bin .rem 84 86) [84,86],
oP 88 12,
oO 89 (.lenL 88) [88],
oO 90 (.bin .add 87 89) [87,89],
oQ 91 12,
oO 92 (.lenL 91) [91],
oO 93 (.bin .rem 90 92) [90,92],
oO 94 (.iasl 1 80 93) [80,93],
oL 95 94,
oF 96 14 11,
oN (.store 1 96 95) [96,95],
oF 97 15 11,
oN (.store 1 97 (kI 1)) [97]] (rS [oO 98 (.load (some 2) 8) [],
oO 99 (.load (some 16) 11) [11],
oO 100 (.call 18 [98,99]) [98,99],
oN (.store 2 8 100) [100]] (rS [oA 17 (kI 1073741824) [],
oA 18 (kI 0) []] (.seq (rS [oF 101 0 8,
oL 102 101,
oO 103 (.lenL 102) [],
oM 104 (kI 0) []] (.blk 4 (.loop (rS [oO 105 (.bin .lss 104 103) []] (.seq (.cond 105 .skip
 (.exit 4))
(.seq (.blk 5 (rS [oO 106 (.iasl 6 102 104) [],
oO 107 (.load (some 6) 106) [106],
oO 20 (.alloc false zN) [],
oN (.store 6 20 107) [107]] (rS [oE 109 4 20,
oL 110 109,
oO 111 (.call 17 [110,(.c (.s [122,111,110,101]))]) [110],
oQ 108 111,
oO 112 (.ext 108 0) [],
oO 113 (.ext 108 1) [108],
oB 21 112,
oB 22 113] (rS [oQ 114 22] (.cond 114 (rS [oO 115 (.load (some 2) 8) [],
oQ 116 21,
oP 117 9,
oO 118 (.call 19 [115,(.c (.s [122,111,110,101])),116,117]) [115,116,117],
oB 23 118] (rR [oQ 119 17,
oP 120 23,
oO 121 (.mnmx false [119,120]) [119,120],
oQ 122 18,
oQ 123 23,
oO 124 (.mnmx true [122,123]) [122,123],
oB 17 121,
oB 18 124]))
 .skip)))))
(rR [oO 125 (.bin .add 104 (kI 1)) [104],
oQ 104 125])))))))
(rS [oQ 126 18,
oQ 127 17,
oO 128 (.bin .sub 126 127) [126,127],
oP 129 1,
oO 130 (.bin .gtr 128 129) [128,129]] (.cond 130 (rS [oA 6 kF []] .ret)
 .skip))))))))))
(rR [oQ 45 10,
oO 46 (.bin .add 45 (kI 1)) [45],
oB 10 46]))))))
(rS [oA 6 kT []] .ret)))))))), [.t 6]⟩
end Go.Eng.AF
