/-
One more function's abstract text.
-/
import Derived.Test.YtkkpkcjcaogceaaGreatEngC
set_option maxRecDepth 100000
namespace Go.Eng.AF
open Go Go.Eng
/-- interrex/interrexlaw18.EvictCheap -/
def ec : AFn := ⟨2, (rS [oA 4 kF [4]] (rS [oO 21 (.call 9 []) [],
oB 5 21] (.seq (rS [oQ 22 5,
oO 23 (.un .not 22) [22]] (.cond 23 (rS [oA 4 kF []] .ret)
 .skip))
(rS [oO 24 (.bld zN [(0, 1, (.c (.s [110])))]) [],
oO 6 (.alloc false zN) [],
oN (.store 6 6 24) [24]] (rS [oO 25 (.bld [.nils,.nils] []) [],
oO 7 (.alloc false [.nils,.nils]) [],
oN (.store 2 7 25) [25]] (.seq (rS [oA 8 (kI 0) []] (.blk 0 (.loop (.seq (rS [oP 26 8,
oP 27 0,
oO 28 (.lenL 27) [27],
oO 29 (.bin .lss 26 28) [26,28],
oQ 30 29,
oG 31 (.mv 8) 30 [],
oG 32 (.bin .lss 31 (kI 10)) 30 [31],
oO 33 (.pick 30 32 kF) [30,32]] (.cond 33 .skip
 (.exit 0)))
(.seq (.blk 1 (rS [oF 36 1 6,
oO 37 (.iaar 3 1 36 (kI 0)) [36],
oL 38 37,
oO 39 (.bin .add 38 (kI 1)) [38],
oF 40 1 6,
oO 41 (.iaar 3 1 40 (kI 0)) [40],
oN (.store 1 41 39) [41,39]] (.dreg [dq 0 (oO 42 (.load (some 2) 7) []),
 dq 1 (oP 43 8),
 dq 2 (oO 44 (.bin .add (kI 97) 43) []),
 dq 3 (oO 45 (.cvi .u8 44) []),
 dq 6 (oP 48 8),
 dq 7 (oO 49 (.bin .add 48 (kI 1)) []),
 dq 8 (oP 50 0),
 dq 9 (oP 51 8),
 dq 10 (oO 52 (.iasl 1 50 51) []),
 dq 11 (oK 53 52),
 dq 12 (oO 54 (.bin .rem 53 (kI 100)) []),
 dq 13 (oO 55 (.bin .add 54 (kI 100)) []),
 dq 14 (oO 56 (.bin .rem 55 (kI 100)) []),
 dq 15 (oO 57 (.bld [(vI 0),(vI 0),(vI 0)] [(0, 1, (kI 1)),(1, 1, (kI 0)),(2, 1, (kI 0))]) []),
 ⟨4, (oO 46 (.bsl (.im false) 1 1 [(.i .u8 0)] [(0, 45)]) []), true, [11,0]⟩,
 dq 5 (oO 47 (.b2s 46) []),
 dq 16 (oO 58 (.bld zP [(0, 1, 47),(1, 1, 49),(2, 1, 56),(3, 3, 57),(14, 1, (.c (.s [110]))),(15, 1, (kI 1))]) []),
 ⟨17, (oO 59 (.call 17 [42,58]) []), true, []⟩,
 ⟨18, (oN (.store 2 7 59) []), true, []⟩] [42,43,44,45,46,47,48,49,50,51,52,53,54,55,56,57,58,59])))
(rR [oQ 34 8,
oO 35 (.bin .add 34 (kI 1)) [34],
oB 8 35]))))))
(rS [oO 60 (.load (some 6) 6) [],
oO 61 (.bsl (.im false) 6 1 zN [(0, 60)]) [60],
oF 62 0 7,
oN (.store 1 62 61) [62,61]] (rS [oQ 63 1,
oO 64 (.bin .rem 63 (kI 12)) [63],
oO 65 (.bin .add 64 (kI 12)) [64],
oO 66 (.bin .rem 65 (kI 12)) [65],
oB 1 66] (rS [oP 67 1,
oO 68 (.bld [(vI 0),(vI 0),(vI 0)] [(0, 1, 67),(1, 1, (kI 0)),(2, 1, (kI 0))]) [67],
oO 69 (.bld zP [(0, 1, (.c (.s [122,122]))),(1, 1, (kI 99)),(2, 1, (kI 1000)),(3, 3, 68)]) [68],
oO 9 (.alloc false zP) [],
oN (.store 16 9 69) [69]] (rS [oO 71 (.load (some 2) 7) [],
oO 72 (.load (some 16) 9) [9],
oO 73 (.call 11 [71,72,(.c (.s [110]))]) [71,72],
oQ 70 73,
oO 74 (.ext 70 0) [],
oO 75 (.ext 70 1) [70],
oB 10 74,
oB 11 75] (.seq (rS [oP 76 11,
oP 77 1,
oE 78 1 6,
oO 79 (.iaar 3 1 78 (kI 0)) [78],
oL 80 79,
oO 81 (.bin .leq 77 80) [77,80],
oO 82 (.eqc false [.b] true 76 81) [76,81],
oQ 83 82,
oH 84 (.mv 11) 83 [11],
oH 85 (.mv 84) 83 [84],
oG 86 (.mv 10) 85 [],
oG 87 (.lenL 86) 85 [86],
oG 88 (.mv 1) 85 [1],
oG 89 (.bin .neq 87 88) 85 [87,88],
oH 90 (.pick 85 89 kF) 83 [85,89],
oO 91 (.pick 83 kT 90) [83,90]] (.cond 91 (rS [oA 4 kF []] .ret)
 .skip))
(.seq (rS [oP 92 10,
oO 93 (.lenL 92) [],
oM 94 (kI 0) []] (.blk 2 (.loop (rS [oO 95 (.bin .lss 94 93) []] (.seq (.cond 95 .skip
 (.exit 2))
(.seq (.blk 3 (rS [oO 96 (.iasl 1 92 94) [],
oL 97 96,
oB 13 97] (rS [oO 99 (.load (some 2) 7) [],
oQ 100 13,
oO 101 (.call 14 [99,100]) [99,100],
oQ 98 101,
oO 102 (.ext 98 0) [],
oO 103 (.ext 98 1) [98],
oO 14 (.alloc false zP) [],
oN (.store 16 14 102) [102],
oA 15 103 [103,15]] (rS [oF 104 1 7,
oL 105 104,
oO 106 (.lenL 105) [],
oM 107 (kI 0) []] (.blk 4 (.loop (rS [oO 108 (.bin .lss 107 106) []] (.seq (.cond 108 .skip
 (.exit 4))
(.seq (.blk 5 (rS [oO 109 (.iasl 16 105 107) [],
oO 110 (.load (some 16) 109) [109],
oO 17 (.alloc false zP) [],
oN (.store 16 17 110) [110]] (rS [oA 18 kT []] (.seq (rS [oP 111 10,
oO 112 (.lenL 111) [],
oM 113 (kI 0) []] (.blk 6 (.loop (rS [oO 114 (.bin .lss 113 112) []] (.seq (.cond 114 .skip
 (.exit 6))
(.seq (.blk 7 (rS [oO 115 (.iasl 1 111 113) [],
oL 116 115,
oB 20 116] (rR [oQ 117 18,
oQ 118 117,
oG 119 (.mv 20) 118 [20],
oG 120 (.faddr 0 17) 118 [],
oG 121 (.load none 120) 118 [120],
oG 122 (.bin .neq 119 121) 118 [119,121],
oO 123 (.pick 118 122 kF) [118,122],
oB 18 123])))
(rR [oO 124 (.bin .add 113 (kI 1)) [113],
oQ 113 124])))))))
(rS [oQ 125 18,
oQ 126 125,
oG 127 (.faddr 2 17) 126 [17],
oG 128 (.load none 127) 126 [127],
oG 129 (.faddr 2 14) 126 [],
oG 130 (.load none 129) 126 [129],
oG 131 (.bin .lss 128 130) 126 [128,130],
oO 132 (.pick 126 131 kF) [126,131]] (.cond 132 (rS [oA 4 kF []] .ret)
 .skip))))))
(rR [oO 133 (.bin .add 107 (kI 1)) [107],
oQ 107 133]))))))))))
(rR [oO 134 (.bin .add 94 (kI 1)) [94],
oQ 94 134])))))))
(rS [oA 4 kT []] .ret))))))))))))), [.t 4]⟩
end Go.Eng.AF
