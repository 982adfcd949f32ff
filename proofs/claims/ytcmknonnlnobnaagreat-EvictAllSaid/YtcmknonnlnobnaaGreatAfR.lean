/-
Functions with a loop over a map: their abstract texts.
-/
import Derived.Test.YtcmknonnlnobnaaGreatEngE
import Derived.Test.YtcmknonnlnobnaaGreatEngC
set_option maxRecDepth 100000
namespace Go.Eng.AF
open Go Go.Eng
def rlist : RFn := ⟨1, .seq (.ac (rR [oA 2 (.c .nils) [2]])) (.seq (.ac (rR [oA 3 (.c .nils) []])) (.seq (.rng ⟨[oQ 6 0], 6, 7, 8, 9, 10, 0, 1, [oO 11 (.ext 10 0) [10],
oB 4 11], (rS [oA 5 (kI 0) []] (.seq (.blk 2 (.loop (.seq (rS [oP 12 5,
oP 13 3,
oO 14 (.lenL 13) [13],
oO 15 (.bin .lss 12 14) [12,14],
oQ 16 15,
oG 17 (.mv 3) 16 [],
oG 18 (.mv 5) 16 [],
oG 19 (.iasl 1 17 18) 16 [17,18],
oG 20 (.load none 19) 16 [19],
oG 21 (.mv 4) 16 [],
oG 22 (.bin .lss 20 21) 16 [20,21],
oO 23 (.pick 16 22 kF) [16,22]] (.cond 23 .skip
 (.exit 2)))
(.blk 3 (rR [oQ 24 5,
oO 25 (.bin .add 24 (kI 1)) [24],
oB 5 25])))))
(.dreg [dq 0 (oP 26 3),
 dq 1 (oP 27 5),
 dq 2 (oO 28 (.slsl 1 26 none (some 27) none) []),
 dq 4 (oP 30 4),
 dq 5 (oO 31 (.bsl .fz 1 1 [vS] [(0, 30)]) []),
 dq 7 (oP 33 3),
 dq 8 (oP 34 5),
 dq 9 (oO 35 (.slsl 1 33 (some 34) none none) []),
 ⟨3, (oO 29 (.append (.im false) 1 16 (.c .nils) 28) []), true, [9]⟩,
 ⟨6, (oO 32 (.append (.im false) 1 16 29 31) []), true, [9]⟩,
 ⟨10, (oO 36 (.append (.im false) 1 16 32 35) []), true, []⟩,
 ⟨11, (oA 3 36 []), true, []⟩] [26,5,27,28,29,4,30,31,32,33,34,35,36])))⟩) (.ac (rS [oQ 37 3,
oB 2 37] .ret)))), [.t 2]⟩
end Go.Eng.AF
