/-
One more function's abstract text.
-/
import Derived.Test.YthhlbhmneabhiaaGreatEngC
set_option maxRecDepth 100000
namespace Go.Eng.AF
open Go Go.Eng
/-- interrex/interrexlaw10.CacheStep -/
def cs : AFn := ⟨2, (rS [oA 4 kF [4]] (rS [oO 11 (.call 10 []) [], oA 5 11 [11]] (.seq (rS [oM 12 5 [5], oO 13 (.un .not 12) [12]] (.cond 13 (rS [oA 4 kF []] .ret)
 .skip))
(rS [oO 14 (.call 11 []) [], oO 15 (.call 11 []) [], oA 6 14 [14], oA 7 15 [15]] (.seq (.dreg [⟨0, (oM 16 0 []), false, []⟩,
 ⟨1, (oM 17 0 []), false, []⟩,
 ⟨2, (oO 18 (.lenL 17) []), false, []⟩,
 ⟨3, (oO 19 (.mnmx false [18,(kI 8)]) []), false, []⟩,
 ⟨4, (oO 20 (.slsl 3 16 none (some 19) none) []), false, []⟩,
 ⟨5, (oM 21 1 []), false, []⟩,
 ⟨6, (oM 22 1 []), false, []⟩,
 ⟨7, (oO 23 (.lenL 22) []), false, []⟩,
 ⟨8, (oO 24 (.mnmx false [23,(kI 10)]) []), false, []⟩,
 ⟨9, (oO 25 (.slsl 4 21 none (some 24) none) []), false, []⟩,
 ⟨10, (oA 0 20 []), true, [9]⟩,
 ⟨11, (oA 1 25 []), true, []⟩] [16,17,18,19,20,21,22,23,24,25])
(.seq (rS [oM 26 6 [], oM 27 0 [], oO 28 (.call 12 [26,(kI 100),27]) [26,27], oO 29 (.un .not 28) [28]] (.cond 29 (rS [oM 30 7 [7], oM 31 0 [0], oO 32 (.call 12 [30,(kI 100),31]) [30,31], oO 33 (.un .not 32) [32], oA 4 33 [33]] .ret)
 .skip))
(rS [oM 34 7 [], oM 35 0 [0], oO 36 (.call 12 [34,(kI 100),35]) [34,35,36]] (rS [oA 8 (.c .nils) []] (.seq (rS [oM 37 1 [], oO 38 (.lenL 37) [37], oM 39 (kI 0) []] (.blk 0 (.loop (rS [oO 40 (.bin .lss 39 38) []] (.seq (.cond 40 .skip
 (.exit 0))
(.seq (.blk 1 (rS [oM 41 39 [], oA 9 41 [41]] (rS [oM 42 1 [], oM 43 9 [], oO 44 (.iasl 4 42 43) [42,43], oO 45 (.load (some 4) 44) [44], oO 10 (.alloc false [(vI 0),vS,.nils,(.b false)]) [], oN (.store 4 10 45) [45]] (rS [oM 46 9 [9], oO 47 (.bin .add (kI 101) 46) [46], oO 48 (.faddr 0 10) [], oN (.store 1 48 47) [48,47]] (rS [oM 49 8 [8], oO 50 (.load (some 4) 10) [], oO 51 (.bsl .fz 4 1 [(vI 0),vS,.nils,(.b false)] [(0, 50)]) [50], oO 52 (.append (.im false) 4 56 49 51) [49,51], oA 8 52 [52]] (.seq (.dreg [⟨0, (oM 53 7 []), false, []⟩,
 ⟨1, (oM 54 7 []), false, []⟩,
 ⟨3, (oO 56 (.faddr 0 10) []), false, []⟩,
 ⟨4, (oO 57 (.load none 56) []), false, []⟩,
 ⟨5, (oO 58 (.load (some 4) 10) []), false, []⟩,
 ⟨6, (oO 59 (.bsl .fz 4 1 [(vI 0),vS,.nils,(.b false)] [(0, 58)]) []), false, []⟩,
 ⟨2, (oO 55 (.call 14 [54]) []), true, [5,4]⟩,
 ⟨7, (oO 60 (.call 13 [53,55,57,59]) []), true, []⟩,
 ⟨8, (oO 61 (.un .not 60) []), false, []⟩] [53,54,55,10,56,57,58,59,60])
(.cond 61 (rS [oA 4 kF []] .ret)
 .skip)))))))
(rR [oO 62 (.bin .add 39 (kI 1)) [39], oM 39 62 [62]])))))))
(rS [oM 63 6 [], oM 64 8 [], oO 65 (.lenL 64) [64], oO 66 (.bin .add (kI 100) 65) [65], oM 67 8 [8], oO 68 (.call 13 [63,(kI 100),66,67]) [63,66,67], oM 69 68 [68], oG 70 (.mv 6) 69 [], oG 71 (.call 14 [70]) 69 [70], oG 72 (.mv 7) 69 [], oG 73 (.call 14 [72]) 69 [72], oG 74 (.bin .eql 71 73) 69 [71,73], oO 75 (.pick 69 74 kF) [69,74], oM 76 75 [75], oG 77 (.mv 6) 76 [6], oG 78 (.call 16 [77]) 76 [77], oG 79 (.mv 7) 76 [7], oG 80 (.call 16 [79]) 76 [79], oG 81 (.call 15 [78,80]) 76 [78,80], oO 82 (.pick 76 81 kF) [76,81], oA 4 82 [82]] .ret)))))))))), [.t 4]⟩
end Go.Eng.AF
