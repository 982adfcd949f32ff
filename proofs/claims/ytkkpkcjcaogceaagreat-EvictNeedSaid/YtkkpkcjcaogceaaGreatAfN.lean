/-
One more function's abstract text.
-/
import Derived.Test.YtkkpkcjcaogceaaGreatEngC
set_option maxRecDepth 100000
namespace Go.Eng.AF
open Go Go.Eng
/-- interrex/interrexlaw18.EvictNeed -/
def en : AFn := ⟨2, (rS [oO 2 (.box false 0) [0],
oO 3 (.box false 1) [1],
oA 4 kF [4]] (rS [oO 14 (.call 9 []) [],
oB 5 14] (.seq (rS [oQ 15 5,
oO 16 (.un .not 15) [15]] (.cond 16 (rS [oA 4 kF []] .ret)
 .skip))
(rS [oO 17 (.load (some 2) 2) [],
oO 18 (.call 10 [17]) [17],
oN (.store 2 2 18) [18]] (.seq (rS [oF 19 0 2,
oL 20 19,
oO 21 (.lenL 20) [20],
oM 22 (kI 0) []] (.blk 0 (.loop (rS [oO 23 (.bin .lss 22 21) []] (.seq (.cond 23 .skip
 (.exit 0))
(.seq (.blk 1 (rS [oP 24 22,
oB 6 24] (rS [oF 25 0 2,
oL 26 25,
oQ 27 6,
oO 28 (.iasl 6 26 27) [26,27],
oE 29 0 28,
oL 30 29,
oB 7 30] (rS [oO 32 (.load (some 2) 2) [],
oO 33 (.load (some 16) 3) [],
oP 34 7,
oO 35 (.call 11 [32,33,34]) [32,33,34],
oQ 31 35,
oO 36 (.ext 31 0) [],
oO 37 (.ext 31 1) [31],
oB 8 36,
oB 9 37] (.seq (rS [oQ 38 9,
oO 39 (.un .not 38) [38]] (.cond 39 (.seq (rS [oO 40 (.load (some 2) 2) [],
oO 41 (.load (some 16) 3) [],
oQ 42 7,
oO 43 (.call 12 [40,41,42]) [40,41,42]] (.cond 43 (rS [oA 4 kF []] .ret)
 .skip))
(.exit 1))
 .skip))
(.seq (.seq (.dreg [dq 0 (oO 44 (.load (some 2) 2) []),
 dq 1 (oP 45 8),
 dq 3 (oO 47 (.load (some 16) 3) []),
 dq 4 (oP 48 7),
 ⟨2, (oO 46 (.call 13 [44,45]) []), true, [3]⟩,
 ⟨5, (oO 49 (.call 12 [46,47,48]) []), true, []⟩,
 dq 6 (oO 50 (.un .not 49) [])] [44,45,46,47,48,49])
(.cond 50 (rS [oA 4 kF []] .ret)
 .skip))
(rS [oQ 51 8,
oO 52 (.lenL 51) [],
oM 53 (kI 0) []] (.blk 2 (.loop (rS [oO 54 (.bin .lss 53 52) []] (.seq (.cond 54 .skip
 (.exit 2))
(.seq (.blk 3 (rS [oO 55 (.iasl 1 51 53) [],
oL 56 55,
oB 11 56] (rS [oO 58 (.load (some 2) 2) [],
oQ 59 11,
oO 60 (.call 14 [58,59]) [58,59],
oQ 57 60,
oO 61 (.ext 57 0) [],
oO 62 (.ext 57 1) [57],
oO 12 (.alloc false zP) [],
oN (.store 16 12 61) [61],
oB 13 62] (rS [oQ 63 13,
oO 64 (.un .not 63) [63],
oQ 65 64,
oH 66 (.faddr 14 12) 65 [],
oH 67 (.load none 66) 65 [66],
oH 68 (.mv 7) 65 [],
oH 69 (.bin .neq 67 68) 65 [67,68],
oO 70 (.pick 65 kT 69) [65,69],
oQ 71 70,
oH 72 (.faddr 2 12) 71 [12],
oH 73 (.load none 72) 71 [72],
oH 74 (.faddr 2 3) 71 [],
oH 75 (.load none 74) 71 [74],
oH 76 (.bin .geq 73 75) 71 [73,75],
oO 77 (.pick 71 kT 76) [71,76]] (.cond 77 (rS [oA 4 kF []] .ret)
 .skip)))))
(rR [oO 78 (.bin .add 53 (kI 1)) [53],
oQ 53 78])))))))))))))
(rR [oO 79 (.bin .add 22 (kI 1)) [22],
oQ 22 79])))))))
(rS [oA 4 kT []] .ret)))))), [.t 4]⟩
end Go.Eng.AF
