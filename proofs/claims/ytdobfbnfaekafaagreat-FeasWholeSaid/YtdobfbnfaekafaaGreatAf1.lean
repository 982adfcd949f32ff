/-
Functions' abstract texts.
-/
import Derived.Test.YtdobfbnfaekafaaGreatEngC
set_option maxRecDepth 100000
namespace Go.Eng.AF
open Go Go.Eng
/-- interrex/interrexlaw18.FeasKept -/
def f3 : AFn := ⟨2, (rS [oO 2 (.box false 0) [0], oA 4 kF [4]] (rS [oO 11 (.call 5 []) [], oA 5 11 [11]] (.seq (rS [oM 12 5 [5], oO 13 (.un .not 12) [12]] (.cond 13 (rS [oA 4 kF []] .ret)
 .skip))
(rS [oO 14 (.load (some 2) 2) [], oO 15 (.call 6 [14]) [14], oN (.store 2 2 15) [15]] (rS [oO 16 (.faddr 1 2) [], oN (.store 1 16 (.c .nils)) [16]] (.seq (rS [oA 6 (kI 0) []] (.blk 0 (.loop (.seq (rS [oM 17 6 [], oM 18 1 [], oO 19 (.lenL 18) [18], oO 20 (.bin .lss 17 19) [17,19], oM 21 20 [20], oG 22 (.mv 6) 21 [], oG 23 (.bin .lss 22 (kI 12)) 21 [22], oO 24 (.pick 21 23 kF) [21,23]] (.cond 24 .skip
 (.exit 0)))
(.seq (.blk 1 (rS [oM 27 1 [], oM 28 6 [], oO 29 (.iasl 16 27 28) [27,28], oO 30 (.load (some 16) 29) [29], oO 7 (.alloc false [vS,(vI 0),(vI 0),(vI 0),(vI 0),(vI 0),.nils,.nils,.nils,.nils,vS,.nils,(vI 0),.nils,vS,(vI 0)]) [], oN (.store 16 7 30) [30]] (rS [oO 31 (.faddr 14 7) [], oN (.store 1 31 (.c vS)) [31], oO 32 (.faddr 15 7) [], oN (.store 1 32 (kI 0)) [32]] (.seq (rS [oO 34 (.load (some 2) 2) [], oO 35 (.faddr 0 7) [], oO 36 (.load none 35) [35], oO 37 (.call 7 [34,36]) [34,36], oM 33 37 [37], oO 38 (.ext 33 0) [], oO 39 (.ext 33 1) [33], oO 8 (.alloc false [vS,(vI 0),(vI 0),(vI 0),(vI 0),(vI 0),.nils,.nils,.nils,.nils,vS,.nils,(vI 0),.nils,vS,(vI 0)]) [], oN (.store 16 8 38) [8,38], oA 9 39 [39]] (rS [oM 40 9 [9], oM 41 40 [40], oH 42 (.load (some 16) 7) 41 [], oH 43 (.call 8 [42]) 41 [42], oH 44 (.un .not 43) 41 [43], oO 45 (.pick 41 kT 44) [41,44]] (.cond 45 (.exit 1)
 .skip)))
(rS [oO 46 (.load (some 2) 2) [], oO 47 (.load (some 16) 7) [], oO 48 (.call 9 [46,47]) [46,47], oA 10 48 [48]] (.seq (rS [oM 49 10 [], oO 50 (.lenL 49) [49], oO 51 (.bin .eql 50 (kI 0)) [50]] (.cond 51 (.exit 1)
 .skip))
(rS [oM 52 10 [], oM 53 6 [], oM 54 10 [10], oO 55 (.lenL 54) [54], oO 56 (.bin .rem 53 55) [53,55], oO 57 (.iasl 1 52 56) [52,56], oO 58 (.load none 57) [57], oO 59 (.faddr 14 7) [], oN (.store 1 59 58) [59,58], oO 60 (.faddr 15 7) [], oN (.store 1 60 (kI 1)) [60]] (rS [oO 61 (.load (some 2) 2) [], oO 62 (.load (some 16) 7) [], oO 63 (.call 10 [61,62]) [61,62], oN (.store 2 2 63) [63]] (rS [oO 64 (.load (some 2) 2) [], oO 65 (.call 11 [64]) [64], oO 66 (.un .not 65) [65], oM 67 66 [66], oH 68 (.load (some 2) 2) 67 [], oH 69 (.load (some 16) 7) 67 [], oH 70 (.faddr 14 7) 67 [7], oH 71 (.load none 70) 67 [70], oH 72 (.call 12 [68,69,71]) 67 [68,69,71], oO 73 (.pick 67 kT 72) [67,72]] (.cond 73 (rS [oA 4 kF []] .ret)
 .skip))))))))))
(rR [oM 25 6 [6], oO 26 (.bin .add 25 (kI 1)) [25], oA 6 26 [26]]))))))
(rS [oO 74 (.load (some 2) 2) [2], oO 75 (.call 11 [74]) [74], oA 4 75 [75]] .ret))))))), [.t 4]⟩
/-- interrex/interrexlaw18.FeasWhole -/
def f4 : AFn := ⟨2, (rS [oO 2 (.box false 0) [0], oA 4 kF [4]] (rS [oO 17 (.call 5 []) [], oA 5 17 [17]] (.seq (rS [oM 18 5 [5], oO 19 (.un .not 18) [18]] (.cond 19 (rS [oA 4 kF []] .ret)
 .skip))
(rS [oO 20 (.load (some 2) 2) [], oO 21 (.call 6 [20]) [20], oN (.store 2 2 21) [21]] (rS [oA 6 (.c .nils) []] (.seq (rS [oO 22 (.faddr 1 2) [], oO 23 (.load none 22) [22], oO 24 (.lenL 23) [], oM 25 (kI 0) []] (.blk 0 (.loop (rS [oO 26 (.bin .lss 25 24) []] (.seq (.cond 26 .skip
 (.exit 0))
(.seq (.blk 1 (rS [oO 27 (.iasl 16 23 25) [], oO 28 (.load (some 16) 27) [27], oO 8 (.alloc false [vS,(vI 0),(vI 0),(vI 0),(vI 0),(vI 0),.nils,.nils,.nils,.nils,vS,.nils,(vI 0),.nils,vS,(vI 0)]) [], oN (.store 16 8 28) [28]] (rS [oO 29 (.faddr 14 8) [], oN (.store 1 29 (.c vS)) [29], oO 30 (.faddr 15 8) [], oN (.store 1 30 (kI 0)) [30]] (rR [oM 31 6 [6], oO 32 (.load (some 16) 8) [8], oO 33 (.bsl (.im false) 16 1 [vS,(vI 0),(vI 0),(vI 0),(vI 0),(vI 0),.nils,.nils,.nils,.nils,vS,.nils,(vI 0),.nils,vS,(vI 0)] [(0, 32)]) [32], oO 34 (.append (.im false) 16 248 31 33) [31,33], oA 6 34 [34]]))))
(rR [oO 35 (.bin .add 25 (kI 1)) [25], oM 25 35 [35]])))))))
(rS [oM 36 6 [6], oO 37 (.faddr 1 2) [], oN (.store 1 37 36) [37,36]] (.seq (rS [oO 38 (.load (some 2) 2) [], oO 39 (.call 11 [38]) [38], oO 40 (.un .not 39) [39]] (.cond 40 (rS [oA 4 kF []] .ret)
 .skip))
(.seq (rS [oO 41 (.bsl (.im false) 1 2 [vS] [(0, (.c (.s [101,120,116,114,97]))),(1, (.c (.s [110,111,119,104,101,114,101])))]) [], oO 42 (.lenL 41) [], oM 43 (kI 0) []] (.blk 2 (.loop (rS [oO 44 (.bin .lss 43 42) []] (.seq (.cond 44 .skip
 (.exit 2))
(.seq (.blk 3 (rS [oO 45 (.iasl 1 41 43) [], oO 46 (.load none 45) [45], oA 10 46 [46]] (rS [oO 48 (.load (some 2) 2) [], oM 49 10 [10], oO 50 (.call 13 [48,49]) [48,49], oM 47 50 [50], oO 51 (.ext 47 0) [], oO 52 (.ext 47 1) [47], oO 11 (.alloc false [vS,(vI 0),(vI 0),(vI 0),.nils,.nils]) [], oN (.store 6 11 51) [11,51], oA 12 52 [52]] (rS [oM 53 12 [12]] (.cond 53 (rS [oA 4 kT []] .ret)
 .skip)))))
(rR [oO 54 (.bin .add 43 (kI 1)) [43], oM 43 54 [54]])))))))
(rS [oO 55 (.bld [(vI 0),(vI 0),(vI 0)] [(0, 1, (kI 5)),(1, 1, (kI 5)),(2, 1, (kI 5))]) [], oO 56 (.bld [vS,(vI 0),(vI 0),(vI 0),.nils,.nils] [(0, 1, (.c (.s [101,120,116,114,97]))),(1, 3, 55)]) [55], oO 13 (.alloc false [vS,(vI 0),(vI 0),(vI 0),.nils,.nils]) [], oN (.store 6 13 56) [56]] (.seq .no
(rS [oO 66 (.bld [(vI 0),(vI 0),(vI 0)] [(0, 1, (kI 3)),(1, 1, (kI 0)),(2, 1, (kI 0))]) [], oO 67 (.bsl (.im false) 1 1 [(vI 0)] [(0, (kI 7))]) [], oO 68 (.bld [vS,(vI 0),(vI 0),(vI 0),(vI 0),(vI 0),.nils,.nils,.nils,.nils,vS,.nils,(vI 0),.nils,vS,(vI 0)] [(0, 1, (.c (.s [48,97]))),(1, 1, (kI 1)),(3, 3, 66),(6, 1, 67),(14, 1, (.c (.s [101,120,116,114,97]))),(15, 1, (kI 1))]) [66,67], oO 15 (.alloc false [vS,(vI 0),(vI 0),(vI 0),(vI 0),(vI 0),.nils,.nils,.nils,.nils,vS,.nils,(vI 0),.nils,vS,(vI 0)]) [], oN (.store 16 15 68) [68]] (rS [oO 69 (.bld [(vI 0),(vI 0),(vI 0)] [(0, 1, (kI 2)),(1, 1, (kI 0)),(2, 1, (kI 0))]) [], oO 70 (.bsl (.im false) 1 1 [(vI 0)] [(0, (kI 8))]) [], oO 71 (.bld [vS,(vI 0),(vI 0),(vI 0),(vI 0),(vI 0),.nils,.nils,.nils,.nils,vS,.nils,(vI 0),.nils,vS,(vI 0)] [(0, 1, (.c (.s [48,98]))),(1, 1, (kI 2)),(3, 3, 69),(6, 1, 70),(14, 1, (.c (.s [101,120,116,114,97]))),(15, 1, (kI 1))]) [69,70], oO 16 (.alloc false [vS,(vI 0),(vI 0),(vI 0),(vI 0),(vI 0),.nils,.nils,.nils,.nils,vS,.nils,(vI 0),.nils,vS,(vI 0)]) [], oN (.store 16 16 71) [71]] (.seq (rS [oM 72 1 [], oO 73 (.bin .rem 72 (kI 4)) [72], oO 74 (.bin .add 73 (kI 4)) [73], oO 75 (.bin .rem 74 (kI 4)) [74]] (.blk 4 (rS [oO 77 (.bin .eql 75 (kI 1)) [], oA 76 77 [77]] (.cond 76 (rR [oO 78 (.faddr 3 16) [], oO 79 (.iaar 3 1 78 (kI 0)) [78], oN (.store 1 79 (kI 3)) [79]])
 (rS [oO 81 (.bin .eql 75 (kI 2)) [], oA 80 81 [81]] (.cond 80 (rR [oO 82 (.bsl (.im false) 1 1 [(vI 0)] [(0, (kI 7))]) [], oO 83 (.faddr 6 16) [], oN (.store 1 83 82) [83,82]])
 (rS [oO 85 (.bin .eql 75 (kI 3)) [75], oA 84 85 [85]] (.cond 84 (rR [oO 86 (.faddr 14 16) [], oN (.store 1 86 (.c (.s [110,111,119,104,101,114,101]))) [86]])
 .skip))))))))
(.seq (.dreg [⟨0, (oO 87 (.load (some 2) 14) []), false, []⟩,
 ⟨1, (oO 88 (.load (some 16) 15) []), false, []⟩,
 ⟨3, (oO 90 (.load (some 16) 16) []), false, []⟩,
 ⟨6, (oM 93 1 []), false, []⟩,
 ⟨7, (oO 94 (.bin .rem 93 (kI 4)) []), false, []⟩,
 ⟨8, (oO 95 (.bin .add 94 (kI 4)) []), false, []⟩,
 ⟨9, (oO 96 (.bin .rem 95 (kI 4)) []), false, []⟩,
 ⟨10, (oO 97 (.bin .eql 96 (kI 0)) []), false, []⟩,
 ⟨2, (oO 89 (.call 10 [87,88]) []), true, [3]⟩,
 ⟨4, (oO 91 (.call 10 [89,90]) []), true, []⟩,
 ⟨5, (oO 92 (.call 11 [91]) []), true, []⟩,
 ⟨11, (oO 98 (.eqc false [.b] false 92 97) []), false, []⟩,
 ⟨12, (oA 4 98 []), false, []⟩] [14,87,15,88,89,16,90,91,92,1,93,94,95,96,97,98])
.ret))))))))))))))), [.t 4]⟩
/-- interrex/interrexlaw18.begun -/
def f5 : AFn := ⟨0, (rS [oA 0 kF [0]] (rS [oO 12 (.call 14 []) [], oO 1 (.alloc false [.nils,.nils]) [], oN (.store 2 1 12) [12]] (rS [oO 13 (.bld [(vI 0),(vI 0),(vI 0)] [(0, 1, (kI 4)),(1, 1, (kI 4)),(2, 1, (kI 0))]) [], oO 14 (.bsl (.im false) 1 1 [(vI 0)] [(0, (kI 80))]) [], oO 15 (.bsl (.im false) 1 1 [vS] [(0, (.c (.s [98])))]) [], oO 16 (.bld [vS,(vI 0),.nils] [(0, 1, (.c (.s [122,111,110,101]))),(1, 1, (kI 1)),(2, 1, 15)]) [15], oO 17 (.bsl (.im false) 3 1 [vS,(vI 0),.nils] [(0, 16)]) [16], oO 18 (.bld [vS,(vI 0),(vI 0),(vI 0),(vI 0),(vI 0),.nils,.nils,.nils,.nils,vS,.nils,(vI 0),.nils,vS,(vI 0)] [(0, 1, (.c (.s [98]))),(1, 1, (kI 2)),(2, 1, (kI 5)),(3, 3, 13),(6, 1, 14),(8, 1, 17)]) [13,14,17], oO 2 (.alloc false [vS,(vI 0),(vI 0),(vI 0),(vI 0),(vI 0),.nils,.nils,.nils,.nils,vS,.nils,(vI 0),.nils,vS,(vI 0)]) [], oN (.store 16 2 18) [18]] (rS [oO 20 (.load (some 2) 1) [], oO 21 (.load (some 16) 2) [], oO 22 (.call 15 [20,21,(.c (.s [110,50]))]) [20,21], oM 19 22 [22], oO 23 (.ext 19 0) [], oO 24 (.ext 19 1) [19], oA 3 23 [23], oA 4 24 [24]] (rS [oO 26 (.load (some 2) 1) [], oO 27 (.load (some 16) 2) [], oO 28 (.call 16 [26,27,kF]) [26,27], oM 25 28 [28], oO 29 (.ext 25 0) [], oO 30 (.ext 25 1) [25], oO 5 (.alloc false [vS,vS,.nils]) [], oN (.store 3 5 29) [29], oA 6 30 [30]] (rS [oO 31 (.call 17 []) [], oA 7 31 [31]] (.seq (rS [oM 32 7 [], oO 33 (.eqn false 32 (.c .nilp)) [32]] (.cond 33 (rS [oA 0 kF []] .ret)
 .skip))
(rS [oM 34 7 [], oO 35 (.load (some 2) 1) [], oO 36 (.load (some 16) 2) [], oO 37 (.call 10 [35,36]) [35,36], oO 38 (.call 18 [34,37]) [34,37,38]] (rS [oM 40 7 [7], oO 41 (.call 19 [40,(kI 0)]) [40], oM 39 41 [41], oO 42 (.ext 39 0) [], oO 43 (.ext 39 1) [39], oO 8 (.alloc false [vS,(vI 0),(vI 0),(vI 0),(vI 0),(vI 0),.nils,.nils,.nils,.nils,vS,.nils,(vI 0),.nils,vS,(vI 0)]) [], oN (.store 16 8 42) [42], oA 9 43 [43]] (rS [oO 45 (.load (some 2) 1) [], oO 46 (.bld [(vI 0),(vI 0),(vI 0)] [(0, 1, (kI 1)),(1, 1, (kI 1)),(2, 1, (kI 0))]) [], oO 47 (.bld [vS,(vI 0),(vI 0),(vI 0),(vI 0),(vI 0),.nils,.nils,.nils,.nils,vS,.nils,(vI 0),.nils,vS,(vI 0)] [(0, 1, (.c (.s [99]))),(1, 1, (kI 3)),(3, 3, 46)]) [46], oO 48 (.call 20 [45,47,kT]) [45,47], oM 44 48 [48], oO 49 (.ext 44 0) [], oO 50 (.ext 44 1) [44], oA 10 49 [49], oA 11 50 [50]] (.seq (.dreg [⟨0, (oO 51 (.call 21 []) []), true, []⟩,
 ⟨1, (oM 52 51 []), false, []⟩,
 ⟨2, (oG 53 (.load (some 2) 1) 52 []), false, []⟩,
 ⟨3, (oG 54 (.load (some 16) 2) 52 []), false, []⟩,
 ⟨4, (oG 55 (.call 12 [53,54,(.c (.s [110,49]))]) 52 []), true, []⟩,
 ⟨5, (oG 56 (.un .not 55) 52 []), false, []⟩,
 ⟨6, (oO 57 (.pick 52 56 kF) []), false, []⟩,
 ⟨7, (oM 58 57 []), false, []⟩,
 ⟨8, (oG 59 (.load (some 2) 1) 58 []), false, []⟩,
 ⟨9, (oG 60 (.load (some 16) 2) 58 []), false, []⟩,
 ⟨10, (oG 61 (.call 12 [59,60,(.c (.s [110,50]))]) 58 []), true, []⟩,
 ⟨11, (oG 62 (.un .not 61) 58 []), false, []⟩,
 ⟨12, (oO 63 (.pick 58 62 kF) []), false, []⟩,
 ⟨13, (oM 64 63 []), false, []⟩,
 ⟨14, (oG 65 (.mv 4) 64 []), false, []⟩,
 ⟨15, (oO 66 (.pick 64 65 kF) []), false, []⟩,
 ⟨16, (oM 67 66 []), false, []⟩,
 ⟨17, (oG 68 (.mv 3) 67 []), false, []⟩,
 ⟨18, (oG 69 (.lenL 68) 67 []), false, []⟩,
 ⟨19, (oG 70 (.bin .eql 69 (kI 1)) 67 []), false, []⟩,
 ⟨20, (oO 71 (.pick 67 70 kF) []), false, []⟩,
 ⟨21, (oM 72 71 []), false, []⟩,
 ⟨22, (oG 73 (.mv 3) 72 []), false, []⟩,
 ⟨23, (oG 74 (.iasl 1 73 (kI 0)) 72 []), false, []⟩,
 ⟨24, (oG 75 (.load none 74) 72 []), false, []⟩,
 ⟨25, (oG 76 (.bin .eql 75 (.c (.s [97]))) 72 []), false, []⟩,
 ⟨26, (oO 77 (.pick 72 76 kF) []), false, []⟩,
 ⟨27, (oM 78 77 []), false, []⟩,
 ⟨28, (oG 79 (.mv 6) 78 []), false, []⟩,
 ⟨29, (oO 80 (.pick 78 79 kF) []), false, []⟩,
 ⟨30, (oM 81 80 []), false, []⟩,
 ⟨31, (oG 82 (.faddr 1 5) 81 []), false, []⟩,
 ⟨32, (oG 83 (.load none 82) 81 []), false, []⟩,
 ⟨33, (oG 84 (.bin .eql 83 (.c (.s [110,50]))) 81 []), false, []⟩,
 ⟨34, (oO 85 (.pick 81 84 kF) []), false, []⟩,
 ⟨35, (oM 86 85 []), false, []⟩,
 ⟨36, (oG 87 (.faddr 2 5) 86 []), false, []⟩,
 ⟨37, (oG 88 (.load none 87) 86 []), false, []⟩,
 ⟨38, (oG 89 (.lenL 88) 86 []), false, []⟩,
 ⟨39, (oG 90 (.bin .eql 89 (kI 1)) 86 []), false, []⟩,
 ⟨40, (oO 91 (.pick 86 90 kF) []), false, []⟩,
 ⟨41, (oM 92 91 []), false, []⟩,
 ⟨42, (oG 93 (.mv 9) 92 []), false, []⟩,
 ⟨43, (oO 94 (.pick 92 93 kF) []), false, []⟩,
 ⟨44, (oM 95 94 []), false, []⟩,
 ⟨45, (oG 96 (.faddr 0 8) 95 []), false, []⟩,
 ⟨46, (oG 97 (.load none 96) 95 []), false, []⟩,
 ⟨47, (oG 98 (.bin .eql 97 (.c (.s [98]))) 95 []), false, []⟩,
 ⟨48, (oO 99 (.pick 95 98 kF) []), false, []⟩,
 ⟨49, (oM 100 99 []), false, []⟩,
 ⟨50, (oG 101 (.mv 11) 100 []), false, []⟩,
 ⟨51, (oO 102 (.pick 100 101 kF) []), false, []⟩,
 ⟨52, (oM 103 102 []), false, []⟩,
 ⟨53, (oG 104 (.mv 10) 103 []), false, []⟩,
 ⟨54, (oG 105 (.bin .eql 104 (.c (.s [110,50]))) 103 []), false, []⟩,
 ⟨55, (oO 106 (.pick 103 105 kF) []), false, []⟩,
 ⟨56, (oM 107 106 []), false, []⟩,
 ⟨57, (oG 108 (.load (some 2) 1) 107 []), false, []⟩,
 ⟨58, (oG 109 (.call 11 [108]) 107 []), true, []⟩,
 ⟨59, (oO 110 (.pick 107 109 kF) []), false, []⟩,
 ⟨60, (oM 111 110 []), false, []⟩,
 ⟨61, (oG 112 (.load (some 2) 1) 111 []), false, []⟩,
 ⟨62, (oG 113 (.load (some 16) 2) 111 []), false, []⟩,
 ⟨63, (oG 114 (.faddr 0 1) 111 []), false, []⟩,
 ⟨64, (oG 115 (.load none 114) 111 []), false, []⟩,
 ⟨65, (oG 116 (.iasl 6 115 (kI 1)) 111 []), false, []⟩,
 ⟨66, (oG 117 (.load (some 6) 116) 111 []), false, []⟩,
 ⟨67, (oG 118 (.call 22 [112,113,117]) 111 []), true, []⟩,
 ⟨68, (oG 119 (.un .not 118) 111 []), false, []⟩,
 ⟨69, (oO 120 (.pick 111 119 kF) []), false, []⟩,
 ⟨70, (oM 121 120 []), false, []⟩,
 ⟨71, (oG 122 (.load (some 2) 1) 121 []), false, []⟩,
 ⟨72, (oG 123 (.call 23 [122,(.c (.s [122,111,110,101])),(.c (.s [110,49])),(.c (.s [110,49]))]) 121 []), true, []⟩,
 ⟨73, (oO 124 (.pick 121 123 kF) []), false, []⟩,
 ⟨74, (oM 125 124 []), false, []⟩,
 ⟨75, (oG 126 (.load (some 2) 1) 125 []), false, []⟩,
 ⟨76, (oG 127 (.call 23 [126,(.c (.s [122,111,110,101])),(.c (.s [110,49])),(.c (.s [110,50]))]) 125 []), true, []⟩,
 ⟨77, (oG 128 (.un .not 127) 125 []), false, []⟩,
 ⟨78, (oO 129 (.pick 125 128 kF) []), false, []⟩,
 ⟨79, (oA 0 129 []), false, []⟩] [51,52,1,53,2,54,55,56,57,58,59,60,61,62,63,64,4,65,66,67,3,68,69,70,71,72,73,74,75,76,77,78,6,79,80,81,5,82,83,84,85,86,87,88,89,90,91,92,9,93,94,95,8,96,97,98,99,100,11,101,102,103,10,104,105,106,107,108,109,110,111,112,113,114,115,116,117,118,119,120,121,122,123,124,125,126,127,128,129])
.ret))))))))))), [.t 0]⟩
/-- interrex/interrexlaw18.Cut -/
def f6 : AFn := ⟨1, (rS [oO 1 (.box false 0) [0], oO 2 (.alloc false [.nils,.nils]) []] (rS [oO 10 (.bld [.nils,.nils] []) [], oO 3 (.alloc false [.nils,.nils]) [], oN (.store 2 3 10) [10]] (.seq (rS [oA 4 (kI 0) []] (.blk 0 (.loop (.seq (rS [oM 11 4 [], oO 12 (.faddr 0 1) [], oO 13 (.load none 12) [12], oO 14 (.lenL 13) [13], oO 15 (.bin .lss 11 14) [11,14], oM 16 15 [15], oG 17 (.faddr 0 3) 16 [], oG 18 (.load none 17) 16 [17], oG 19 (.lenL 18) 16 [18], oG 20 (.bin .lss 19 (kI 6)) 16 [19], oO 21 (.pick 16 20 kF) [16,20]] (.cond 21 .skip
 (.exit 0)))
(.seq (.blk 1 (rS [oO 24 (.faddr 0 1) [], oO 25 (.load none 24) [24], oM 26 4 [], oO 27 (.iasl 6 25 26) [25,26], oO 28 (.load (some 6) 27) [27], oO 5 (.alloc false [vS,(vI 0),(vI 0),(vI 0),.nils,.nils]) [], oN (.store 6 5 28) [28]] (rS [oO 29 (.load (some 6) 5) [], oO 30 (.call 24 [29]) [29]] (.cond 30 (rS [oO 32 (.load (some 2) 3) [], oO 33 (.faddr 0 5) [], oO 34 (.load none 33) [33], oO 35 (.call 25 [32,34]) [32,34], oM 31 35 [35], oO 36 (.ext 31 0) [], oO 37 (.ext 31 1) [31], oO 6 (.alloc false [vS,(vI 0),(vI 0),(vI 0),.nils,.nils]) [], oN (.store 6 6 36) [6,36], oA 7 37 [37]] (rS [oM 38 7 [7], oO 39 (.un .not 38) [38]] (.cond 39 (rS [oA 8 (kI 0) []] (.seq (.blk 2 (.loop (.seq (.seq (.dreg [⟨0, (oM 40 8 []), false, []⟩,
 ⟨1, (oO 41 (.faddr 0 3) []), false, []⟩,
 ⟨2, (oO 42 (.load none 41) []), false, []⟩,
 ⟨3, (oO 43 (.lenL 42) []), false, []⟩,
 ⟨4, (oO 44 (.bin .lss 40 43) []), false, []⟩,
 ⟨5, (oM 45 44 []), false, []⟩,
 ⟨6, (oG 46 (.faddr 0 3) 45 []), false, []⟩,
 ⟨7, (oG 47 (.load none 46) 45 []), false, []⟩,
 ⟨8, (oG 48 (.mv 8) 45 []), false, []⟩,
 ⟨9, (oG 49 (.iasl 6 47 48) 45 []), false, []⟩,
 ⟨10, (oG 50 (.faddr 0 49) 45 []), false, []⟩,
 ⟨11, (oG 51 (.load none 50) 45 []), false, []⟩,
 ⟨12, (oG 52 (.faddr 0 5) 45 []), false, []⟩,
 ⟨13, (oG 53 (.load none 52) 45 []), false, []⟩,
 ⟨14, (oG 54 (.bin .lss 51 53) 45 []), false, []⟩,
 ⟨15, (oO 55 (.pick 45 54 kF) []), false, []⟩] [40,41,42,43,44,45,46,47,48,49,50,51,52,53,54])
(.cond 55 .skip
 (.exit 2)))
(.blk 3 (rR [oM 56 8 [8], oO 57 (.bin .add 56 (kI 1)) [56], oA 8 57 [57]])))))
(.dreg [⟨0, (oO 58 (.faddr 0 3) []), false, []⟩,
 ⟨1, (oO 59 (.load none 58) []), false, []⟩,
 ⟨2, (oM 60 8 []), false, []⟩,
 ⟨3, (oO 61 (.slsl 6 59 none (some 60) none) []), false, []⟩,
 ⟨5, (oO 63 (.load (some 6) 5) []), false, []⟩,
 ⟨6, (oO 64 (.bsl .fz 6 1 [vS,(vI 0),(vI 0),(vI 0),.nils,.nils] [(0, 63)]) []), false, []⟩,
 ⟨8, (oO 66 (.faddr 0 3) []), false, []⟩,
 ⟨9, (oO 67 (.load none 66) []), false, []⟩,
 ⟨10, (oM 68 8 []), false, []⟩,
 ⟨11, (oO 69 (.slsl 6 67 (some 68) none none) []), false, []⟩,
 ⟨4, (oO 62 (.append (.im false) 6 88 (.c .nils) 61) []), true, [11,9,5]⟩,
 ⟨7, (oO 65 (.append (.im false) 6 88 62 64) []), true, [11,9]⟩,
 ⟨12, (oO 70 (.append (.im false) 6 88 65 69) []), true, []⟩,
 ⟨13, (oO 71 (.faddr 0 3) []), false, []⟩,
 ⟨14, (oN (.store 1 71 70) []), true, []⟩] [58,59,8,60,61,62,5,63,64,65,66,67,68,69,70,71])))
 .skip)))
 .skip))))
(rR [oM 22 4 [4], oO 23 (.bin .add 22 (kI 1)) [22], oA 4 23 [23]]))))))
(.seq (rS [oA 9 (kI 0) []] (.blk 4 (.loop (.seq (rS [oM 72 9 [], oO 73 (.faddr 1 1) [], oO 74 (.load none 73) [73], oO 75 (.lenL 74) [74], oO 76 (.bin .lss 72 75) [72,75], oM 77 76 [76], oG 78 (.faddr 1 3) 77 [], oG 79 (.load none 78) 77 [78], oG 80 (.lenL 79) 77 [79], oG 81 (.bin .lss 80 (kI 16)) 77 [80], oO 82 (.pick 77 81 kF) [77,81]] (.cond 82 .skip
 (.exit 4)))
(.seq (.blk 5 (rS [oO 85 (.faddr 1 1) [], oO 86 (.load none 85) [85], oM 87 9 [], oO 88 (.iasl 16 86 87) [86,87], oO 89 (.load (some 16) 88) [88], oO 90 (.call 8 [89]) [89]] (.cond 90 (.dreg [⟨0, (oO 91 (.load (some 2) 3) []), false, []⟩,
 ⟨1, (oO 92 (.faddr 1 1) []), false, []⟩,
 ⟨2, (oO 93 (.load none 92) []), false, []⟩,
 ⟨3, (oM 94 9 []), false, []⟩,
 ⟨4, (oO 95 (.iasl 16 93 94) []), false, []⟩,
 ⟨5, (oO 96 (.load (some 16) 95) []), false, []⟩,
 ⟨6, (oO 97 (.call 26 [91,96]) []), true, []⟩,
 ⟨7, (oN (.store 2 3 97) []), true, []⟩] [91,92,93,94,95,96,97])
 .skip)))
(rR [oM 83 9 [9], oO 84 (.bin .add 83 (kI 1)) [83], oA 9 84 [84]]))))))
(rS [oO 98 (.load (some 2) 3) [3], oN (.store 2 2 98) [98]] .ret))))), [.cell 2 (some 2)]⟩
/-- interrex/state.Pod -/
def f7 : AFn := ⟨2, (rS [oO 2 (.box false 0) [0], oO 4 (.alloc false [vS,(vI 0),(vI 0),(vI 0),(vI 0),(vI 0),.nils,.nils,.nils,.nils,vS,.nils,(vI 0),.nils,vS,(vI 0)]) [], oA 5 kF [5]] (.seq (rS [oO 8 (.faddr 1 2) [2], oO 9 (.load none 8) [8], oO 10 (.lenL 9) [], oM 11 (kI 0) []] (.blk 0 (.loop (rS [oO 12 (.bin .lss 11 10) []] (.seq (.cond 12 .skip
 (.exit 0))
(.seq (.blk 1 (rS [oO 13 (.iasl 16 9 11) [], oO 14 (.load (some 16) 13) [13], oO 7 (.alloc false [vS,(vI 0),(vI 0),(vI 0),(vI 0),(vI 0),.nils,.nils,.nils,.nils,vS,.nils,(vI 0),.nils,vS,(vI 0)]) [], oN (.store 16 7 14) [14]] (rS [oO 15 (.faddr 0 7) [], oO 16 (.load none 15) [15], oM 17 1 [], oO 18 (.bin .eql 16 17) [16,17]] (.cond 18 (rS [oO 19 (.load (some 16) 7) [7], oO 20 (.call 27 [19]) [19], oN (.store 16 4 20) [20], oA 5 kT []] .ret)
 .skip))))
(rR [oO 21 (.bin .add 11 (kI 1)) [11], oM 11 21 [21]])))))))
(rS [oO 22 (.bld [vS,(vI 0),(vI 0),(vI 0),(vI 0),(vI 0),.nils,.nils,.nils,.nils,vS,.nils,(vI 0),.nils,vS,(vI 0)] []) [], oN (.store 16 4 22) [22], oA 5 kF []] .ret))), [.cell 4 (some 16),.t 5]⟩
/-- interrex/interrexref1.MayPod -/
def f8 : AFn := ⟨1, (rS [oO 1 (.box false 0) [0], oA 2 kF [2]] (.seq (rS [oO 4 (.faddr 6 1) [], oO 5 (.load none 4) [4], oO 6 (.lenL 5) [5], oM 7 (kI 0) []] (.blk 0 (.loop (rS [oO 8 (.bin .lss 7 6) []] (.seq (.cond 8 .skip
 (.exit 0))
(.seq (.blk 1 (rS [oM 9 7 [], oA 3 9 [9]] (.seq (.dreg [⟨0, (oO 10 (.faddr 6 1) []), false, []⟩,
 ⟨1, (oO 11 (.load none 10) []), false, []⟩,
 ⟨2, (oM 12 3 []), false, []⟩,
 ⟨3, (oO 13 (.iasl 1 11 12) []), false, []⟩,
 ⟨4, (oO 14 (.load none 13) []), false, []⟩,
 ⟨5, (oO 15 (.bin .lss 14 (kI 1)) []), false, []⟩,
 ⟨6, (oM 16 15 []), false, []⟩,
 ⟨7, (oH 17 (.faddr 6 1) 16 []), false, []⟩,
 ⟨8, (oH 18 (.load none 17) 16 []), false, []⟩,
 ⟨9, (oH 19 (.mv 3) 16 []), false, []⟩,
 ⟨10, (oH 20 (.iasl 1 18 19) 16 []), false, []⟩,
 ⟨11, (oH 21 (.load none 20) 16 []), false, []⟩,
 ⟨12, (oH 22 (.bin .gtr 21 (kI 65535)) 16 []), false, []⟩,
 ⟨13, (oO 23 (.pick 16 kT 22) []), false, []⟩,
 ⟨14, (oM 24 23 []), false, []⟩,
 ⟨15, (oH 25 (.mv 3) 24 []), false, []⟩,
 ⟨16, (oH 26 (.bin .gtr 25 (kI 0)) 24 []), false, []⟩,
 ⟨17, (oH 27 (.mv 26) 24 []), false, []⟩,
 ⟨18, (oG 28 (.faddr 6 1) 27 []), false, []⟩,
 ⟨19, (oG 29 (.load none 28) 27 []), false, []⟩,
 ⟨20, (oG 30 (.mv 3) 27 []), false, []⟩,
 ⟨21, (oG 31 (.bin .sub 30 (kI 1)) 27 []), false, []⟩,
 ⟨22, (oG 32 (.iasl 1 29 31) 27 []), false, []⟩,
 ⟨23, (oG 33 (.load none 32) 27 []), false, []⟩,
 ⟨24, (oG 34 (.faddr 6 1) 27 []), false, []⟩,
 ⟨25, (oG 35 (.load none 34) 27 []), false, []⟩,
 ⟨26, (oG 36 (.mv 3) 27 []), false, []⟩,
 ⟨27, (oG 37 (.iasl 1 35 36) 27 []), false, []⟩,
 ⟨28, (oG 38 (.load none 37) 27 []), false, []⟩,
 ⟨29, (oG 39 (.bin .geq 33 38) 27 []), false, []⟩,
 ⟨30, (oH 40 (.pick 27 39 kF) 24 []), false, []⟩,
 ⟨31, (oO 41 (.pick 24 kT 40) []), false, []⟩] [10,11,3,12,13,14,15,16,17,18,19,20,21,22,23,24,25,26,27,28,29,30,31,32,33,34,35,36,37,38,39,40])
(.cond 41 (rS [oA 2 kF []] .ret)
 .skip))))
(rR [oO 42 (.bin .add 7 (kI 1)) [7], oM 7 42 [42]])))))))
(.seq (rS [oO 43 (.faddr 0 1) [], oO 44 (.load none 43) [43], oO 45 (.call 28 [44]) [44], oO 46 (.un .not 45) [45], oM 47 46 [46], oH 48 (.faddr 1 1) 47 [], oH 49 (.load none 48) 47 [48], oH 50 (.bin .lss 49 (kI 1)) 47 [49], oO 51 (.pick 47 kT 50) [47,50], oM 52 51 [51], oH 53 (.faddr 1 1) 52 [], oH 54 (.load none 53) 52 [53], oH 55 (.bin .gtr 54 (kI 1099511627776)) 52 [54], oO 56 (.pick 52 kT 55) [52,55], oM 57 56 [56], oH 58 (.faddr 2 1) 57 [], oH 59 (.load none 58) 57 [58], oH 60 (.bin .lss 59 (kI 0)) 57 [59], oO 61 (.pick 57 kT 60) [57,60], oM 62 61 [61], oH 63 (.faddr 2 1) 62 [], oH 64 (.load none 63) 62 [63], oH 65 (.bin .gtr 64 (kI 1000)) 62 [64], oO 66 (.pick 62 kT 65) [62,65], oM 67 66 [66], oH 68 (.faddr 3 1) 67 [], oH 69 (.load (some 3) 68) 67 [68], oH 70 (.call 29 [69]) 67 [69], oH 71 (.un .not 70) 67 [70], oO 72 (.pick 67 kT 71) [67,71], oM 73 72 [72], oH 74 (.faddr 6 1) 73 [], oH 75 (.load none 74) 73 [74], oH 76 (.lenL 75) 73 [75], oH 77 (.bin .gtr 76 (kI 6)) 73 [76], oO 78 (.pick 73 kT 77) [73,77]] (.cond 78 (rS [oA 2 kF []] .ret)
 .skip))
(.seq (rS [oO 79 (.faddr 7 1) [], oO 80 (.load none 79) [79], oO 81 (.call 30 [80]) [80], oO 82 (.un .not 81) [81], oM 83 82 [82], oH 84 (.faddr 8 1) 83 [], oH 85 (.load none 84) 83 [84], oH 86 (.call 31 [85]) 83 [85], oH 87 (.un .not 86) 83 [86], oO 88 (.pick 83 kT 87) [83,87], oM 89 88 [88], oH 90 (.faddr 11 1) 89 [], oH 91 (.load none 90) 89 [90], oH 92 (.call 31 [91]) 89 [91], oH 93 (.un .not 92) 89 [92], oO 94 (.pick 89 kT 93) [89,93], oM 95 94 [94], oH 96 (.faddr 13 1) 95 [], oH 97 (.load none 96) 95 [96], oH 98 (.call 31 [97]) 95 [97], oH 99 (.un .not 98) 95 [98], oO 100 (.pick 95 kT 99) [95,99], oM 101 100 [100], oH 102 (.faddr 9 1) 101 [], oH 103 (.load none 102) 101 [102], oH 104 (.call 32 [103]) 101 [103], oH 105 (.un .not 104) 101 [104], oO 106 (.pick 101 kT 105) [101,105]] (.cond 106 (rS [oA 2 kF []] .ret)
 .skip))
(.seq (rS [oO 107 (.faddr 10 1) [], oO 108 (.load none 107) [107], oO 109 (.bin .eql 108 (.c vS)) [108], oM 110 109 [109], oG 111 (.faddr 11 1) 110 [], oG 112 (.load none 111) 110 [111], oG 113 (.lenL 112) 110 [112], oG 114 (.bin .gtr 113 (kI 0)) 110 [113], oG 115 (.mv 114) 110 [114], oH 116 (.faddr 12 1) 115 [], oH 117 (.load none 116) 115 [116], oH 118 (.bin .neq 117 (kI 0)) 115 [117], oG 119 (.pick 115 kT 118) 110 [115,118], oO 120 (.pick 110 119 kF) [110,119], oM 121 120 [120], oH 122 (.faddr 10 1) 121 [], oH 123 (.load none 122) 121 [122], oH 124 (.bin .neq 123 (.c vS)) 121 [123], oH 125 (.mv 124) 121 [124], oG 126 (.faddr 10 1) 125 [], oG 127 (.load none 126) 125 [126], oG 128 (.call 28 [127]) 125 [127], oG 129 (.un .not 128) 125 [128], oH 130 (.pick 125 129 kF) 121 [125,129], oO 131 (.pick 121 kT 130) [121,130], oM 132 131 [131], oH 133 (.faddr 12 1) 132 [], oH 134 (.load none 133) 132 [133], oH 135 (.bin .lss 134 (kI 0)) 132 [134], oO 136 (.pick 132 kT 135) [132,135], oM 137 136 [136], oH 138 (.faddr 12 1) 137 [], oH 139 (.load none 138) 137 [138], oH 140 (.bin .gtr 139 (kI 10)) 137 [139], oO 141 (.pick 137 kT 140) [137,140]] (.cond 141 (rS [oA 2 kF []] .ret)
 .skip))
(rS [oO 142 (.faddr 14 1) [], oO 143 (.load none 142) [142], oO 144 (.bin .eql 143 (.c vS)) [143], oM 145 144 [144], oG 146 (.faddr 15 1) 145 [], oG 147 (.load none 146) 145 [146], oG 148 (.bin .eql 147 (kI 0)) 145 [147], oO 149 (.pick 145 148 kF) [145,148], oM 150 149 [149], oH 151 (.faddr 14 1) 150 [], oH 152 (.load none 151) 150 [151], oH 153 (.call 28 [152]) 150 [152], oH 154 (.mv 153) 150 [153], oG 155 (.faddr 15 1) 154 [1], oG 156 (.load none 155) 154 [155], oG 157 (.bin .gtr 156 (kI 0)) 154 [156], oH 158 (.pick 154 157 kF) 150 [154,157], oO 159 (.pick 150 kT 158) [150,158], oA 2 159 [159]] .ret)))))), [.t 2]⟩
/-- interrex/feas.Where -/
def f9 : AFn := ⟨2, (rS [oO 2 (.box false 0) [0], oO 3 (.box false 1) [1], oA 4 (.c .nils) [4]] (rS [oA 5 (.c .nils) []] (.seq (rS [oO 8 (.faddr 0 2) [], oO 9 (.load none 8) [8], oO 10 (.lenL 9) [], oM 11 (kI 0) []] (.blk 0 (.loop (rS [oO 12 (.bin .lss 11 10) []] (.seq (.cond 12 .skip
 (.exit 0))
(.seq (.blk 1 (rS [oO 13 (.iasl 6 9 11) [], oO 14 (.load (some 6) 13) [13], oO 7 (.alloc false [vS,(vI 0),(vI 0),(vI 0),.nils,.nils]) [], oN (.store 6 7 14) [14]] (rS [oO 15 (.load (some 2) 2) [], oO 16 (.load (some 16) 3) [], oO 17 (.faddr 0 7) [], oO 18 (.load none 17) [17], oO 19 (.call 12 [15,16,18]) [15,16,18]] (.cond 19 (rR [oM 20 5 [5], oO 21 (.faddr 0 7) [7], oO 22 (.load none 21) [21], oO 23 (.bsl (.im false) 1 1 [vS] [(0, 22)]) [22], oO 24 (.append (.im false) 1 16 20 23) [20,23], oA 5 24 [24]])
 .skip))))
(rR [oO 25 (.bin .add 11 (kI 1)) [11], oM 11 25 [25]])))))))
(rS [oM 26 5 [], oO 27 (.call 33 [26,(.c (.fn 34 [] []))]) [26,27]] (rS [oM 28 5 [5], oA 4 28 [28]] .ret))))), [.t 4]⟩
/-- interrex/state.With -/
def f10 : AFn := ⟨2, (rS [oO 2 (.box false 0) [0], oO 3 (.box true 1) [1], oO 4 (.alloc false [.nils,.nils]) []] (rS [oO 8 (.load (some 2) 2) [2], oO 9 (.call 35 [8,(.c .nils)]) [8], oO 5 (.alloc false [.nils,.nils]) [], oN (.store 2 5 9) [9]] (rS [oO 10 (.load (some 16) 3) [], oO 11 (.call 27 [10]) [10], oN (.store 16 3 11) [11]] (.seq (rS [oO 12 (.faddr 1 5) [], oO 13 (.load none 12) [12], oO 14 (.mkfn 37 [3]) [], oO 15 (.call 36 [13,14]) [13,14], oA 6 15 [15]] (rS [oM 16 6 [], oO 17 (.bin .geq 16 (kI 0)) [16]] (.cond 17 (rS [oO 18 (.faddr 1 5) [], oO 19 (.load none 18) [18], oM 20 6 [6], oO 21 (.load (some 16) 3) [3], oO 22 (.iasl 16 19 20) [19,20], oN (.store 16 22 21) [22,21]] (rS [oO 23 (.load (some 2) 5) [5], oN (.store 2 4 23) [23]] .ret))
 .skip)))
(rS [oA 7 (kI 0) []] (.seq (.blk 0 (.loop (.seq (.seq (.dreg [⟨0, (oM 24 7 []), false, []⟩,
 ⟨1, (oO 25 (.faddr 1 5) []), false, []⟩,
 ⟨2, (oO 26 (.load none 25) []), false, []⟩,
 ⟨3, (oO 27 (.lenL 26) []), false, []⟩,
 ⟨4, (oO 28 (.bin .lss 24 27) []), false, []⟩,
 ⟨5, (oM 29 28 []), false, []⟩,
 ⟨6, (oG 30 (.faddr 1 5) 29 []), false, []⟩,
 ⟨7, (oG 31 (.load none 30) 29 []), false, []⟩,
 ⟨8, (oG 32 (.mv 7) 29 []), false, []⟩,
 ⟨9, (oG 33 (.iasl 16 31 32) 29 []), false, []⟩,
 ⟨10, (oG 34 (.faddr 0 33) 29 []), false, []⟩,
 ⟨11, (oG 35 (.load none 34) 29 []), false, []⟩,
 ⟨12, (oG 36 (.faddr 0 3) 29 []), false, []⟩,
 ⟨13, (oG 37 (.load none 36) 29 []), false, []⟩,
 ⟨14, (oG 38 (.bin .lss 35 37) 29 []), false, []⟩,
 ⟨15, (oO 39 (.pick 29 38 kF) []), false, []⟩] [24,25,26,27,28,29,30,31,32,33,34,35,36,37,38])
(.cond 39 .skip
 (.exit 0)))
(.blk 1 (rR [oM 40 7 [7], oO 41 (.bin .add 40 (kI 1)) [40], oA 7 41 [41]])))))
(rS [oO 42 (.faddr 1 5) [], oO 43 (.load none 42) [42], oM 44 7 [7], oO 45 (.load (some 16) 3) [3], oO 46 (.bsl (.mu true) 16 1 [vS,(vI 0),(vI 0),(vI 0),(vI 0),(vI 0),.nils,.nils,.nils,.nils,vS,.nils,(vI 0),.nils,vS,(vI 0)] [(0, 45)]) [45], oO 47 (.call 38 [43,44,46]) [43,44,46], oO 48 (.faddr 1 5) [], oN (.store 1 48 47) [48,47]] (rS [oO 49 (.load (some 2) 5) [5], oN (.store 2 4 49) [49]] .ret)))))))), [.cell 4 (some 2)]⟩
/-- interrex/feas.Whole -/
def f11 : AFn := ⟨1, (rS [oO 1 (.box false 0) [0], oA 2 kF [2]] (.seq (rS [oO 11 (.faddr 0 1) [], oO 12 (.load none 11) [11], oO 13 (.lenL 12) [], oM 14 (kI 0) []] (.blk 0 (.loop (rS [oO 15 (.bin .lss 14 13) []] (.seq (.cond 15 .skip
 (.exit 0))
(.seq (.blk 1 (rS [oO 16 (.iasl 6 12 14) [], oO 17 (.load (some 6) 16) [16], oO 4 (.alloc false [vS,(vI 0),(vI 0),(vI 0),.nils,.nils]) [], oN (.store 6 4 17) [17]] (rS [oO 19 (.load (some 2) 1) [], oO 20 (.faddr 0 4) [], oO 21 (.load none 20) [20], oO 22 (.call 39 [19,21]) [19,21], oM 18 22 [22], oO 23 (.ext 18 0) [], oO 24 (.ext 18 1) [18], oO 5 (.alloc false [(vI 0),(vI 0),(vI 0)]) [], oN (.store 3 5 23) [23], oA 6 24 [24]] (rS [oM 25 6 [6], oO 26 (.un .not 25) [25], oM 27 26 [26], oH 28 (.load (some 3) 5) 27 [5], oH 29 (.faddr 1 4) 27 [], oH 30 (.load (some 3) 29) 27 [29], oH 31 (.call 40 [28,30]) 27 [28,30], oH 32 (.un .not 31) 27 [31], oO 33 (.pick 27 kT 32) [27,32], oM 34 33 [33], oH 35 (.load (some 2) 1) 34 [], oH 36 (.faddr 0 4) 34 [4], oH 37 (.load none 36) 34 [36], oH 38 (.call 42 [35,37]) 34 [35,37], oH 39 (.call 41 [38]) 34 [38], oH 40 (.un .not 39) 34 [39], oO 41 (.pick 34 kT 40) [34,40]] (.cond 41 (rS [oA 2 kF []] .ret)
 .skip)))))
(rR [oO 42 (.bin .add 14 (kI 1)) [14], oM 14 42 [42]])))))))
(.seq (rS [oO 43 (.faddr 1 1) [], oO 44 (.load none 43) [43], oO 45 (.lenL 44) [], oM 46 (kI 0) []] (.blk 2 (.loop (rS [oO 47 (.bin .lss 46 45) []] (.seq (.cond 47 .skip
 (.exit 2))
(.seq (.blk 3 (rS [oO 48 (.iasl 16 44 46) [], oO 49 (.load (some 16) 48) [48], oO 8 (.alloc false [vS,(vI 0),(vI 0),(vI 0),(vI 0),(vI 0),.nils,.nils,.nils,.nils,vS,.nils,(vI 0),.nils,vS,(vI 0)]) [], oN (.store 16 8 49) [49]] (rS [oO 51 (.load (some 2) 1) [], oO 52 (.faddr 14 8) [], oO 53 (.load none 52) [52], oO 54 (.call 13 [51,53]) [51,53], oM 50 54 [54], oO 55 (.ext 50 0) [], oO 56 (.ext 50 1) [50], oO 9 (.alloc false [vS,(vI 0),(vI 0),(vI 0),.nils,.nils]) [], oN (.store 6 9 55) [9,55], oA 10 56 [56]] (rS [oO 57 (.faddr 14 8) [8], oO 58 (.load none 57) [57], oO 59 (.bin .neq 58 (.c vS)) [58], oM 60 59 [59], oG 61 (.mv 10) 60 [10], oG 62 (.un .not 61) 60 [61], oO 63 (.pick 60 62 kF) [60,62]] (.cond 63 (rS [oA 2 kF []] .ret)
 .skip)))))
(rR [oO 64 (.bin .add 46 (kI 1)) [46], oM 46 64 [64]])))))))
(rS [oA 2 kT []] .ret)))), [.t 2]⟩
/-- interrex/feas.Feasible -/
def f12 : AFn := ⟨3, (rS [oO 3 (.box false 0) [0], oO 4 (.box false 1) [1], oA 6 kF [6]] (rS [oO 10 (.load (some 2) 3) [], oM 11 2 [], oO 12 (.call 13 [10,11]) [10,11], oM 9 12 [12], oO 13 (.ext 9 0) [], oO 14 (.ext 9 1) [9], oO 7 (.alloc false [vS,(vI 0),(vI 0),(vI 0),.nils,.nils]) [], oN (.store 6 7 13) [13], oA 8 14 [14]] (.seq (rS [oM 15 8 [8], oO 16 (.un .not 15) [15], oM 17 16 [16], oH 18 (.faddr 14 4) 17 [], oH 19 (.load none 18) 17 [18], oH 20 (.bin .neq 19 (.c vS)) 17 [19], oO 21 (.pick 17 kT 20) [17,20]] (.cond 21 (rS [oA 6 kF []] .ret)
 .skip))
(rS [oO 22 (.load (some 2) 3) [], oO 23 (.load (some 16) 4) [], oO 24 (.load (some 6) 7) [], oO 25 (.call 43 [22,23,24]) [22,23,24], oM 26 25 [25], oG 27 (.load (some 2) 3) 26 [], oG 28 (.load (some 16) 4) 26 [], oG 29 (.load (some 6) 7) 26 [], oG 30 (.call 22 [27,28,29]) 26 [27,28,29], oO 31 (.pick 26 30 kF) [26,30], oM 32 31 [31], oG 33 (.load (some 16) 4) 32 [], oG 34 (.load (some 6) 7) 32 [], oG 35 (.call 44 [33,34]) 32 [33,34], oO 36 (.pick 32 35 kF) [32,35], oM 37 36 [36], oG 38 (.load (some 16) 4) 37 [], oG 39 (.load (some 6) 7) 37 [7], oG 40 (.call 45 [38,39]) 37 [38,39], oO 41 (.pick 37 40 kF) [37,40], oM 42 41 [41], oG 43 (.load (some 2) 3) 42 [], oG 44 (.load (some 16) 4) 42 [], oG 45 (.mv 2) 42 [], oG 46 (.call 46 [43,44,45]) 42 [43,44,45], oO 47 (.pick 42 46 kF) [42,46], oM 48 47 [47], oG 49 (.load (some 2) 3) 48 [3], oG 50 (.load (some 16) 4) 48 [4], oG 51 (.mv 2) 48 [2], oG 52 (.call 47 [49,50,51]) 48 [49,50,51], oO 53 (.pick 48 52 kF) [48,52], oA 6 53 [53]] .ret)))), [.t 6]⟩
/-- interrex/state.Node -/
def f13 : AFn := ⟨2, (rS [oO 2 (.box false 0) [0], oO 4 (.alloc false [vS,(vI 0),(vI 0),(vI 0),.nils,.nils]) [], oA 5 kF [5]] (.seq (rS [oO 8 (.faddr 0 2) [2], oO 9 (.load none 8) [8], oO 10 (.lenL 9) [], oM 11 (kI 0) []] (.blk 0 (.loop (rS [oO 12 (.bin .lss 11 10) []] (.seq (.cond 12 .skip
 (.exit 0))
(.seq (.blk 1 (rS [oO 13 (.iasl 6 9 11) [], oO 14 (.load (some 6) 13) [13], oO 7 (.alloc false [vS,(vI 0),(vI 0),(vI 0),.nils,.nils]) [], oN (.store 6 7 14) [14]] (rS [oO 15 (.faddr 0 7) [], oO 16 (.load none 15) [15], oM 17 1 [], oO 18 (.bin .eql 16 17) [16,17]] (.cond 18 (rS [oO 19 (.load (some 6) 7) [7], oO 20 (.call 48 [19]) [19], oN (.store 6 4 20) [20], oA 5 kT []] .ret)
 .skip))))
(rR [oO 21 (.bin .add 11 (kI 1)) [11], oM 11 21 [21]])))))))
(rS [oO 22 (.bld [vS,(vI 0),(vI 0),(vI 0),.nils,.nils] []) [], oN (.store 6 4 22) [22], oA 5 kF []] .ret))), [.cell 4 (some 6),.t 5]⟩
/-- interrex/interrexlaw18.Small -/
def f14 : AFn := ⟨0, (rS [oO 0 (.alloc false [.nils,.nils]) []] (rS [oO 4 (.bld [(vI 0),(vI 0),(vI 0)] [(0, 1, (kI 10)),(1, 1, (kI 10)),(2, 1, (kI 0))]) [], oO 5 (.bld [vS,vS] [(0, 1, (.c (.s [122,111,110,101]))),(1, 1, (.c (.s [97])))]) [], oO 6 (.bsl (.im false) 2 1 [vS,vS] [(0, 5)]) [5], oO 7 (.bld [vS,(vI 0),(vI 0),(vI 0),.nils,.nils] [(0, 1, (.c (.s [110,49]))),(1, 3, 4),(4, 1, 6)]) [4,6], oO 1 (.alloc false [vS,(vI 0),(vI 0),(vI 0),.nils,.nils]) [], oN (.store 6 1 7) [7]] (rS [oO 8 (.bld [(vI 0),(vI 0),(vI 0)] [(0, 1, (kI 4)),(1, 1, (kI 4)),(2, 1, (kI 0))]) [], oO 9 (.bld [vS,vS] [(0, 1, (.c (.s [122,111,110,101]))),(1, 1, (.c (.s [98])))]) [], oO 10 (.bsl (.im false) 2 1 [vS,vS] [(0, 9)]) [9], oO 11 (.bld [vS,(vI 0),(vI 0),(vI 0),.nils,.nils] [(0, 1, (.c (.s [110,50]))),(1, 3, 8),(4, 1, 10)]) [8,10], oO 2 (.alloc false [vS,(vI 0),(vI 0),(vI 0),.nils,.nils]) [], oN (.store 6 2 11) [11]] (rS [oO 12 (.bld [(vI 0),(vI 0),(vI 0)] [(0, 1, (kI 3)),(1, 1, (kI 3)),(2, 1, (kI 0))]) [], oO 13 (.bsl (.im false) 1 1 [(vI 0)] [(0, (kI 80))]) [], oO 14 (.bld [vS,(vI 0),(vI 0),(vI 0),(vI 0),(vI 0),.nils,.nils,.nils,.nils,vS,.nils,(vI 0),.nils,vS,(vI 0)] [(0, 1, (.c (.s [97]))),(1, 1, (kI 1)),(2, 1, (kI 1)),(3, 3, 12),(6, 1, 13),(14, 1, (.c (.s [110,50]))),(15, 1, (kI 1))]) [12,13], oO 3 (.alloc false [vS,(vI 0),(vI 0),(vI 0),(vI 0),(vI 0),.nils,.nils,.nils,.nils,vS,.nils,(vI 0),.nils,vS,(vI 0)]) [], oN (.store 16 3 14) [14]] (rS [oO 15 (.load (some 6) 1) [1], oO 16 (.load (some 6) 2) [2], oO 17 (.bsl (.im false) 6 2 [vS,(vI 0),(vI 0),(vI 0),.nils,.nils] [(0, 15),(1, 16)]) [15,16], oO 18 (.load (some 16) 3) [3], oO 19 (.bsl (.im false) 16 1 [vS,(vI 0),(vI 0),(vI 0),(vI 0),(vI 0),.nils,.nils,.nils,.nils,vS,.nils,(vI 0),.nils,vS,(vI 0)] [(0, 18)]) [18], oO 20 (.bld [.nils,.nils] [(0, 1, 17),(1, 1, 19)]) [17,19], oN (.store 2 0 20) [20]] .ret))))), [.cell 0 (some 2)]⟩
/-- interrex/evict.Victims -/
def f15 : AFn := ⟨3, (rS [oO 3 (.box false 0) [0], oO 4 (.box true 1) [1], oA 6 (.c .nils) [6], oA 7 kF [7]] (rS [oO 15 (.load (some 2) 3) [], oM 16 2 [], oO 17 (.call 42 [15,16]) [15,16], oO 18 (.mkfn 50 [4]) [], oO 19 (.call 49 [17,18]) [17,18], oA 8 19 [19]] (rS [oM 20 8 [], oO 21 (.call 51 [20,(.c (.fn 52 [] []))]) [20,21]] (rS [oA 9 (.c .nils) []] (.seq (rS [oM 22 8 [], oO 23 (.lenL 22) [], oM 24 (kI 0) []] (.blk 0 (.loop (rS [oO 25 (.bin .lss 24 23) []] (.seq (.cond 25 .skip
 (.exit 0))
(.seq (.blk 1 (rS [oO 26 (.iasl 16 22 24) [], oO 27 (.load (some 16) 26) [26], oO 11 (.alloc false [vS,(vI 0),(vI 0),(vI 0),(vI 0),(vI 0),.nils,.nils,.nils,.nils,vS,.nils,(vI 0),.nils,vS,(vI 0)]) [], oN (.store 16 11 27) [27]] (rR [oM 28 9 [9], oO 29 (.faddr 0 11) [11], oO 30 (.load none 29) [29], oO 31 (.bsl (.mu true) 1 1 [vS] [(0, 30)]) [30], oO 32 (.append (.mu true) 1 16 28 31) [28,31], oA 9 32 [32]])))
(rR [oO 33 (.bin .add 24 (kI 1)) [24], oM 24 33 [33]])))))))
(.seq (.seq (.dreg [⟨0, (oO 34 (.load (some 2) 3) []), false, []⟩,
 ⟨1, (oM 35 9 []), false, []⟩,
 ⟨3, (oO 37 (.load (some 16) 4) []), false, []⟩,
 ⟨4, (oM 38 2 []), false, []⟩,
 ⟨2, (oO 36 (.call 35 [34,35]) []), true, [3]⟩,
 ⟨5, (oO 39 (.call 12 [36,37,38]) []), true, []⟩,
 ⟨6, (oO 40 (.un .not 39) []), false, []⟩] [34,35,36,37,38,39])
(.cond 40 (rS [oA 6 (.c .nils) [], oA 7 kF []] .ret)
 .skip))
(.seq (rS [oM 41 8 [8], oO 42 (.lenL 41) [], oM 43 (kI 0) []] (.blk 2 (.loop (rS [oO 44 (.bin .lss 43 42) []] (.seq (.cond 44 .skip
 (.exit 2))
(.seq (.blk 3 (rS [oO 45 (.iasl 16 41 43) [], oO 46 (.load (some 16) 45) [45], oO 13 (.alloc true [vS,(vI 0),(vI 0),(vI 0),(vI 0),(vI 0),.nils,.nils,.nils,.nils,vS,.nils,(vI 0),.nils,vS,(vI 0)]) [], oN (.store 16 13 46) [46]] (rS [oM 47 9 [], oO 48 (.call 55 [47]) [47], oO 49 (.mkfn 56 [13]) [13], oO 50 (.call 54 [48,49]) [48,49], oA 14 50 [50]] (.seq (.dreg [⟨0, (oO 51 (.load (some 2) 3) []), false, []⟩,
 ⟨1, (oM 52 14 []), false, []⟩,
 ⟨3, (oO 54 (.load (some 16) 4) []), false, []⟩,
 ⟨4, (oM 55 2 []), false, []⟩,
 ⟨2, (oO 53 (.call 35 [51,52]) []), true, [3]⟩,
 ⟨5, (oO 56 (.call 12 [53,54,55]) []), true, []⟩] [51,52,53,54,55])
(.cond 56 (rR [oM 57 14 [14], oA 9 57 [57]])
 .skip)))))
(rR [oO 58 (.bin .add 43 (kI 1)) [43], oM 43 58 [58]])))))))
(rS [oM 59 9 [], oO 60 (.call 33 [59,(.c (.fn 34 [] []))]) [59,60]] (rS [oM 61 9 [9], oA 6 61 [61], oA 7 kT []] .ret))))))))), [.t 6,.t 7]⟩
/-- interrex/plan.One -/
def f16 : AFn := ⟨3, (rS [oO 3 (.box false 0) [0], oO 4 (.box false 1) [1], oO 6 (.alloc false [vS,vS,.nils]) [], oA 7 kF [7]] (.seq (rS [oO 11 (.load (some 2) 3) [], oO 12 (.load (some 16) 4) [], oM 13 2 [2], oO 14 (.call 20 [11,12,13]) [11,12,13], oM 10 14 [14], oO 15 (.ext 10 0) [], oO 16 (.ext 10 1) [10], oA 8 15 [15], oA 9 16 [16]] (rS [oM 17 9 [9]] (.cond 17 (rS [oO 18 (.faddr 0 4) [4], oO 19 (.load none 18) [18], oM 20 8 [8], oO 21 (.bld [vS,vS,.nils] [(0, 1, 19),(1, 1, 20)]) [19,20], oN (.store 3 6 21) [21], oA 7 kT []] .ret)
 .skip)))
(rS [oO 22 (.load (some 2) 3) [3], oO 23 (.load (some 16) 4) [4], oO 24 (.call 57 [22,23]) [22,23], oO 25 (.ext 24 0) [], oO 26 (.ext 24 1) [24], oN (.store 3 6 25) [25], oA 7 26 [26]] .ret))), [.cell 6 (some 3),.t 7]⟩
/-- interrex/queue.New -/
def f17 : AFn := ⟨0, (rS [oA 0 (.c .nilp) [0]] (rS [oO 1 (.bld [.nils,.nils,.nils,(.b false)] []) [], oO 2 (.box true 1) [1], oA 0 2 [2]] .ret)), [.t 0]⟩
/-- ( interrex/queue.Queue).Sync -/
def f18 : AFn := ⟨2, (rS [oO 3 (.box false 1) [1]] (.seq (rS [oM 11 0 [], oO 12 (.eqn false 11 (.c .nilp)) [11]] (.cond 12 .ret
 .skip))
(.seq (.dreg [⟨0, (oM 13 0 []), false, []⟩,
 ⟨1, (oO 14 (.nilc 13) []), false, []⟩,
 ⟨2, (oO 15 (.faddr 3 14) []), false, []⟩,
 ⟨3, (oO 16 (.load none 15) []), false, []⟩,
 ⟨4, (oO 17 (.un .not 16) []), false, []⟩,
 ⟨5, (oM 18 17 []), false, []⟩,
 ⟨6, (oH 19 (.load (some 2) 3) 18 []), false, []⟩,
 ⟨7, (oH 20 (.mv 0) 18 []), false, []⟩,
 ⟨8, (oH 21 (.nilc 20) 18 []), false, []⟩,
 ⟨9, (oH 22 (.faddr 1 21) 18 []), false, []⟩,
 ⟨10, (oH 23 (.load (some 2) 22) 18 []), false, []⟩,
 ⟨11, (oH 24 (.call 58 [19,23]) 18 []), true, []⟩,
 ⟨12, (oH 25 (.un .not 24) 18 []), false, []⟩,
 ⟨13, (oO 26 (.pick 18 kT 25) []), false, []⟩,
 ⟨14, (oA 4 26 []), false, []⟩] [13,14,15,16,17,18,19,20,21,22,23,24,25,26])
(rS [oM 27 0 [], oO 28 (.nilc 27) [27], oO 29 (.faddr 0 28) [28], oO 30 (.load none 29) [29], oA 5 30 [30]] (rS [oM 31 0 [], oM 32 0 [], oM 33 0 [], oO 34 (.load (some 2) 3) [], oO 35 (.call 35 [34,(.c .nils)]) [34], oO 36 (.nilc 31) [31], oO 37 (.faddr 0 36) [36], oN (.store 1 37 (.c .nils)) [37], oO 38 (.nilc 32) [32], oO 39 (.faddr 1 38) [38], oN (.store 2 39 35) [39,35], oO 40 (.nilc 33) [33], oO 41 (.faddr 3 40) [40], oN (.store 1 41 kT) [41]] (rS [oO 42 (.load (some 2) 3) [3], oO 43 (.call 59 [42]) [42], oO 44 (.lenL 43) [], oM 45 (kI 0) []] (.blk 0 (.loop (rS [oO 46 (.bin .lss 45 44) []] (.seq (.cond 46 .skip
 (.exit 0))
(.seq (.blk 1 (rS [oO 47 (.iasl 16 43 45) [], oO 48 (.load (some 16) 47) [47], oO 7 (.alloc false [vS,(vI 0),(vI 0),(vI 0),(vI 0),(vI 0),.nils,.nils,.nils,.nils,vS,.nils,(vI 0),.nils,vS,(vI 0)]) [], oN (.store 16 7 48) [48]] (rS [oO 49 (.load (some 16) 7) [], oO 50 (.bld [vS,(vI 0),(vI 0),(vI 0),(vI 0),(vI 0),.nils,.nils,.nils,.nils,vS,.nils,(vI 0),.nils,vS,(vI 0),(.b false),(vI 0),(vI 0)] [(0, 16, 49)]) [49], oO 51 (.box true 50) [50], oA 8 51 [51]] (.seq (rS [oM 52 5 [], oO 53 (.lenL 52) [], oM 54 (kI 0) []] (.blk 2 (.loop (rS [oO 55 (.bin .lss 54 53) []] (.seq (.cond 55 .skip
 (.exit 2))
(.seq (.blk 3 (rS [oO 56 (.iasl 1 52 54) [], oO 57 (.load none 56) [56], oA 10 57 [57]] (.seq (.dreg [⟨0, (oM 58 10 []), false, []⟩,
 ⟨1, (oO 59 (.nilc 58) []), false, []⟩,
 ⟨2, (oO 60 (.faddr 0 59) []), false, []⟩,
 ⟨3, (oO 61 (.faddr 0 60) []), false, []⟩,
 ⟨4, (oO 62 (.load none 61) []), false, []⟩,
 ⟨5, (oO 63 (.faddr 0 7) []), false, []⟩,
 ⟨6, (oO 64 (.load none 63) []), false, []⟩,
 ⟨7, (oO 65 (.bin .eql 62 64) []), false, []⟩,
 ⟨8, (oM 66 65 []), false, []⟩,
 ⟨9, (oG 67 (.mv 10) 66 []), false, []⟩,
 ⟨10, (oG 68 (.nilc 67) 66 []), false, []⟩,
 ⟨11, (oG 69 (.faddr 0 68) 66 []), false, []⟩,
 ⟨12, (oG 70 (.faddr 1 69) 66 []), false, []⟩,
 ⟨13, (oG 71 (.load none 70) 66 []), false, []⟩,
 ⟨14, (oG 72 (.faddr 1 7) 66 []), false, []⟩,
 ⟨15, (oG 73 (.load none 72) 66 []), false, []⟩,
 ⟨16, (oG 74 (.bin .eql 71 73) 66 []), false, []⟩,
 ⟨17, (oO 75 (.pick 66 74 kF) []), false, []⟩] [58,59,60,61,62,63,64,65,66,67,68,69,70,71,72,73,74])
(.cond 75 (.dreg [⟨0, (oM 76 8 []), false, []⟩,
 ⟨1, (oM 77 8 []), false, []⟩,
 ⟨2, (oM 78 8 []), false, []⟩,
 ⟨3, (oM 79 10 []), false, []⟩,
 ⟨4, (oO 80 (.nilc 79) []), false, []⟩,
 ⟨5, (oO 81 (.faddr 16 80) []), false, []⟩,
 ⟨6, (oO 82 (.load none 81) []), false, []⟩,
 ⟨7, (oM 83 82 []), false, []⟩,
 ⟨8, (oG 84 (.mv 4) 83 []), false, []⟩,
 ⟨9, (oG 85 (.un .not 84) 83 []), false, []⟩,
 ⟨10, (oO 86 (.pick 83 85 kF) []), false, []⟩,
 ⟨11, (oM 87 10 []), false, []⟩,
 ⟨12, (oO 88 (.nilc 87) []), false, []⟩,
 ⟨13, (oO 89 (.faddr 17 88) []), false, []⟩,
 ⟨14, (oO 90 (.load none 89) []), false, []⟩,
 ⟨15, (oM 91 10 []), false, []⟩,
 ⟨16, (oO 92 (.nilc 91) []), false, []⟩,
 ⟨17, (oO 93 (.faddr 18 92) []), false, []⟩,
 ⟨18, (oO 94 (.load none 93) []), false, []⟩,
 ⟨19, (oO 95 (.nilc 76) []), false, []⟩,
 ⟨20, (oO 96 (.faddr 16 95) []), false, []⟩,
 ⟨21, (oN (.store 1 96 86) []), true, []⟩,
 ⟨22, (oO 97 (.nilc 77) []), false, []⟩,
 ⟨23, (oO 98 (.faddr 17 97) []), false, []⟩,
 ⟨24, (oN (.store 1 98 90) []), true, []⟩,
 ⟨25, (oO 99 (.nilc 78) []), false, []⟩,
 ⟨26, (oO 100 (.faddr 18 99) []), false, []⟩,
 ⟨27, (oN (.store 1 100 94) []), true, []⟩] [76,77,78,10,79,80,81,82,83,84,85,86,87,88,89,90,91,92,93,94,95,96,97,98,99,100])
 .skip))))
(rR [oO 101 (.bin .add 54 (kI 1)) [54], oM 54 101 [101]])))))))
(rR [oM 102 0 [], oM 103 0 [], oO 104 (.nilc 103) [103], oO 105 (.faddr 0 104) [104], oO 106 (.load none 105) [105], oM 107 8 [8], oO 108 (.bsl (.mu true) 1 1 [.nilp] [(0, 107)]) [107], oO 109 (.append (.mu true) 1 8 106 108) [106,108], oO 110 (.nilc 102) [102], oO 111 (.faddr 0 110) [110], oN (.store 1 111 109) [111,109]])))))
(rR [oO 112 (.bin .add 45 (kI 1)) [45], oM 45 112 [112]])))))))))))), []⟩
/-- ( interrex/queue.Queue).Next -/
def f19 : AFn := ⟨2, (rS [oO 4 (.alloc false [vS,(vI 0),(vI 0),(vI 0),(vI 0),(vI 0),.nils,.nils,.nils,.nils,vS,.nils,(vI 0),.nils,vS,(vI 0)]) [], oA 5 kF [5]] (.seq (rS [oM 8 0 [], oO 9 (.eqn false 8 (.c .nilp)) [8]] (.cond 9 (rS [oO 10 (.bld [vS,(vI 0),(vI 0),(vI 0),(vI 0),(vI 0),.nils,.nils,.nils,.nils,vS,.nils,(vI 0),.nils,vS,(vI 0)] []) [], oN (.store 16 4 10) [10], oA 5 kF []] .ret)
 .skip))
(.seq (rS [oM 11 0 [0], oO 12 (.nilc 11) [11], oO 13 (.faddr 0 12) [12], oO 14 (.load none 13) [13], oO 15 (.lenL 14) [], oM 16 (kI 0) []] (.blk 0 (.loop (rS [oO 17 (.bin .lss 16 15) []] (.seq (.cond 17 .skip
 (.exit 0))
(.seq (.blk 1 (rS [oO 18 (.iasl 1 14 16) [], oO 19 (.load none 18) [18], oA 7 19 [19]] (rS [oM 20 7 [], oO 21 (.nilc 20) [20], oO 22 (.faddr 16 21) [21], oO 23 (.load none 22) [22], oO 24 (.un .not 23) [23], oM 25 24 [24], oG 26 (.mv 7) 25 [], oG 27 (.mv 1) 25 [], oG 28 (.call 60 [26,27]) 25 [26,27], oO 29 (.pick 25 28 kF) [25,28]] (.cond 29 (rS [oM 30 7 [7], oO 31 (.nilc 30) [30], oO 32 (.faddr 0 31) [31], oO 33 (.load (some 16) 32) [32], oO 34 (.call 27 [33]) [33], oN (.store 16 4 34) [34], oA 5 kT []] .ret)
 .skip))))
(rR [oO 35 (.bin .add 16 (kI 1)) [16], oM 16 35 [35]])))))))
(rS [oO 36 (.bld [vS,(vI 0),(vI 0),(vI 0),(vI 0),(vI 0),.nils,.nils,.nils,.nils,vS,.nils,(vI 0),.nils,vS,(vI 0)] []) [], oN (.store 16 4 36) [36], oA 5 kF []] .ret)))), [.cell 4 (some 16),.t 5]⟩
/-- interrex/score.Best -/
def f20 : AFn := ⟨3, (rS [oO 3 (.box false 0) [0], oO 4 (.box false 1) [1], oA 6 (.c vS) [6], oA 7 kF [7]] (rS [oA 8 (kI (-1)) [], oA 9 (.c vS) []] (.seq (rS [oO 13 (.load (some 2) 3) [], oO 14 (.load (some 16) 4) [], oO 15 (.call 9 [13,14]) [13,14], oO 16 (.lenL 15) [], oM 17 (kI 0) []] (.blk 0 (.loop (rS [oO 18 (.bin .lss 17 16) []] (.seq (.cond 18 .skip
 (.exit 0))
(.seq (.blk 1 (rS [oO 19 (.iasl 1 15 17) [], oO 20 (.load none 19) [19], oA 11 20 [20]] (rS [oO 21 (.load (some 2) 3) [], oO 22 (.load (some 16) 4) [], oM 23 11 [], oM 24 2 [], oO 25 (.call 61 [21,22,23,24]) [21,22,23,24], oA 12 25 [25]] (rS [oM 26 12 [], oM 27 8 [], oO 28 (.bin .gtr 26 27) [26,27]] (.cond 28 (rR [oM 29 12 [12], oM 30 11 [11], oA 8 29 [29], oA 9 30 [30]])
 .skip)))))
(rR [oO 31 (.bin .add 17 (kI 1)) [17], oM 17 31 [31]])))))))
(rS [oM 32 9 [9], oM 33 8 [8], oO 34 (.bin .geq 33 (kI 0)) [33], oA 6 32 [32], oA 7 34 [34]] .ret)))), [.t 6,.t 7]⟩
/-- interrex/interrexlaw10.Begun -/
def f21 : AFn := ⟨0, (rS [oA 0 kF [0]] (rS [oO 1 (.call 62 []) [], oA 0 1 [1]] .ret)), [.t 0]⟩
/-- interrex/fits.Ports -/
def f22 : AFn := ⟨3, (rS [oO 3 (.box false 0) [0], oO 4 (.box true 1) [1], oO 5 (.box false 2) [2], oA 6 kF [6]] (.seq (rS [oO 9 (.faddr 1 3) [3], oO 10 (.load none 9) [9], oO 11 (.lenL 10) [], oM 12 (kI 0) []] (.blk 0 (.loop (rS [oO 13 (.bin .lss 12 11) []] (.seq (.cond 13 .skip
 (.exit 0))
(.seq (.blk 1 (rS [oO 14 (.iasl 16 10 12) [], oO 15 (.load (some 16) 14) [14], oO 8 (.alloc false [vS,(vI 0),(vI 0),(vI 0),(vI 0),(vI 0),.nils,.nils,.nils,.nils,vS,.nils,(vI 0),.nils,vS,(vI 0)]) [], oN (.store 16 8 15) [15]] (rS [oO 16 (.faddr 14 8) [], oO 17 (.load none 16) [16], oO 18 (.faddr 0 5) [], oO 19 (.load none 18) [18], oO 20 (.bin .eql 17 19) [17,19], oM 21 20 [20], oG 22 (.faddr 14 8) 21 [], oG 23 (.load none 22) 21 [22], oG 24 (.bin .neq 23 (.c vS)) 21 [23], oO 25 (.pick 21 24 kF) [21,24], oM 26 25 [25], oG 27 (.faddr 6 8) 26 [8], oG 28 (.load none 27) 26 [27], oG 29 (.mkfn 64 [4]) 26 [], oG 30 (.call 63 [28,29]) 26 [28,29], oO 31 (.pick 26 30 kF) [26,30]] (.cond 31 (rS [oA 6 kF []] .ret)
 .skip))))
(rR [oO 32 (.bin .add 12 (kI 1)) [12], oM 12 32 [32]])))))))
(rS [oA 6 kT []] .ret))), [.t 6]⟩
/-- interrex/topo.Same -/
def f23 : AFn := ⟨4, (rS [oO 4 (.box false 0) [0], oA 8 kF [8]] (rS [oO 14 (.load (some 2) 4) [], oM 15 1 [], oM 16 2 [2], oO 17 (.call 66 [14,15,16]) [14,15,16], oM 13 17 [17], oO 18 (.ext 13 0) [], oO 19 (.ext 13 1) [13], oA 9 18 [18], oA 10 19 [19]] (rS [oO 21 (.load (some 2) 4) [4], oM 22 1 [1], oM 23 3 [3], oO 24 (.call 66 [21,22,23]) [21,22,23], oM 20 24 [24], oO 25 (.ext 20 0) [], oO 26 (.ext 20 1) [20], oA 11 25 [25], oA 12 26 [26]] (rS [oM 27 10 [10], oM 28 27 [27], oG 29 (.mv 12) 28 [12], oO 30 (.pick 28 29 kF) [28,29], oM 31 30 [30], oG 32 (.mv 9) 31 [9], oG 33 (.mv 11) 31 [11], oG 34 (.bin .eql 32 33) 31 [32,33], oO 35 (.pick 31 34 kF) [31,34], oA 8 35 [35]] .ret)))), [.t 8]⟩
/-- interrex/interrexref1.MayNode -/
def f24 : AFn := ⟨1, (rS [oO 1 (.box false 0) [0], oA 2 kF [2]] (rS [oO 3 (.faddr 0 1) [], oO 4 (.load none 3) [3], oO 5 (.call 28 [4]) [4], oM 6 5 [5], oG 7 (.faddr 1 1) 6 [], oG 8 (.load (some 3) 7) 6 [7], oG 9 (.call 29 [8]) 6 [8], oO 10 (.pick 6 9 kF) [6,9], oM 11 10 [10], oG 12 (.faddr 4 1) 11 [], oG 13 (.load none 12) 11 [12], oG 14 (.call 30 [13]) 11 [13], oO 15 (.pick 11 14 kF) [11,14], oM 16 15 [15], oG 17 (.faddr 5 1) 16 [1], oG 18 (.load none 17) 16 [17], oG 19 (.call 67 [18]) 16 [18], oO 20 (.pick 16 19 kF) [16,19], oA 2 20 [20]] .ret)), [.t 2]⟩
/-- interrex/interrexref15.Node -/
def f25 : AFn := ⟨2, (rS [oO 2 (.box false 0) [0], oO 4 (.alloc false [vS,(vI 0),(vI 0),(vI 0),.nils,.nils]) [], oA 5 kF [5]] (.seq (rS [oO 7 (.faddr 0 2) [], oO 8 (.load none 7) [7], oO 9 (.lenL 8) [8], oM 10 (kI 0) []] (.blk 0 (.loop (rS [oO 11 (.bin .lss 10 9) []] (.seq (.cond 11 .skip
 (.exit 0))
(.seq (.blk 1 (rS [oM 12 10 [], oA 6 12 [12]] (rS [oO 13 (.faddr 0 2) [], oO 14 (.load none 13) [13], oM 15 6 [], oO 16 (.iasl 6 14 15) [14,15], oO 17 (.faddr 0 16) [16], oO 18 (.load none 17) [17], oM 19 1 [], oO 20 (.bin .eql 18 19) [18,19]] (.cond 20 (rS [oO 21 (.faddr 0 2) [2], oO 22 (.load none 21) [21], oM 23 6 [6], oO 24 (.iasl 6 22 23) [22,23], oO 25 (.load (some 6) 24) [24], oN (.store 6 4 25) [25], oA 5 kT []] .ret)
 .skip))))
(rR [oO 26 (.bin .add 10 (kI 1)) [10], oM 10 26 [26]])))))))
(rS [oO 27 (.bld [vS,(vI 0),(vI 0),(vI 0),.nils,.nils] []) [], oN (.store 6 4 27) [27], oA 5 kF []] .ret))), [.cell 4 (some 6),.t 5]⟩
/-- interrex/interrexref15.With -/
def f26 : AFn := ⟨2, (rS [oO 2 (.box false 0) [0], oO 3 (.box false 1) [1], oO 4 (.alloc false [.nils,.nils]) []] (rS [oO 10 (.faddr 0 2) [], oO 11 (.load none 10) [10], oO 12 (.bld [.nils,.nils] [(0, 1, 11)]) [11], oO 5 (.alloc false [.nils,.nils]) [], oN (.store 2 5 12) [12]] (rS [oO 14 (.load (some 2) 2) [], oO 15 (.faddr 0 3) [], oO 16 (.load none 15) [15], oO 17 (.call 68 [14,16]) [14,16], oM 13 17 [17], oO 18 (.ext 13 0) [], oO 19 (.ext 13 1) [13], oO 6 (.alloc false [vS,(vI 0),(vI 0),(vI 0),(vI 0),(vI 0),.nils,.nils,.nils,.nils,vS,.nils,(vI 0),.nils,vS,(vI 0)]) [], oN (.store 16 6 18) [6,18], oA 7 19 [19]] (rS [oA 8 kF []] (.seq (rS [oO 20 (.faddr 1 2) [], oO 21 (.load none 20) [20], oO 22 (.lenL 21) [21], oM 23 (kI 0) []] (.blk 0 (.loop (rS [oO 24 (.bin .lss 23 22) []] (.seq (.cond 24 .skip
 (.exit 0))
(.seq (.blk 1 (rS [oM 25 23 [], oA 9 25 [25]] (.seq (.seq (.dreg [⟨0, (oO 26 (.faddr 1 2) []), false, []⟩,
 ⟨1, (oO 27 (.load none 26) []), false, []⟩,
 ⟨2, (oM 28 9 []), false, []⟩,
 ⟨3, (oO 29 (.iasl 16 27 28) []), false, []⟩,
 ⟨4, (oO 30 (.faddr 0 29) []), false, []⟩,
 ⟨5, (oO 31 (.load none 30) []), false, []⟩,
 ⟨6, (oO 32 (.faddr 0 3) []), false, []⟩,
 ⟨7, (oO 33 (.load none 32) []), false, []⟩,
 ⟨8, (oO 34 (.bin .eql 31 33) []), false, []⟩] [26,27,28,29,30,31,32,33])
(.cond 34 (.seq (rS [oM 35 8 [], oO 36 (.un .not 35) [35]] (.cond 36 (rR [oO 37 (.faddr 1 5) [], oO 38 (.load none 37) [37], oO 39 (.load (some 16) 3) [], oO 40 (.bsl (.im false) 16 1 [vS,(vI 0),(vI 0),(vI 0),(vI 0),(vI 0),.nils,.nils,.nils,.nils,vS,.nils,(vI 0),.nils,vS,(vI 0)] [(0, 39)]) [39], oO 41 (.append (.im false) 16 248 38 40) [38,40], oO 42 (.faddr 1 5) [], oN (.store 1 42 41) [42,41], oA 8 kT []])
 .skip))
(.exit 1))
 .skip))
(.seq (.seq (.dreg [⟨0, (oM 43 7 []), false, []⟩,
 ⟨1, (oO 44 (.un .not 43) []), false, []⟩,
 ⟨2, (oM 45 44 []), false, []⟩,
 ⟨3, (oG 46 (.mv 8) 45 []), false, []⟩,
 ⟨4, (oG 47 (.un .not 46) 45 []), false, []⟩,
 ⟨5, (oO 48 (.pick 45 47 kF) []), false, []⟩,
 ⟨6, (oM 49 48 []), false, []⟩,
 ⟨7, (oG 50 (.faddr 1 2) 49 []), false, []⟩,
 ⟨8, (oG 51 (.load none 50) 49 []), false, []⟩,
 ⟨9, (oG 52 (.mv 9) 49 []), false, []⟩,
 ⟨10, (oG 53 (.iasl 16 51 52) 49 []), false, []⟩,
 ⟨11, (oG 54 (.faddr 0 53) 49 []), false, []⟩,
 ⟨12, (oG 55 (.load none 54) 49 []), false, []⟩,
 ⟨13, (oG 56 (.faddr 0 3) 49 []), false, []⟩,
 ⟨14, (oG 57 (.load none 56) 49 []), false, []⟩,
 ⟨15, (oG 58 (.bin .gtr 55 57) 49 []), false, []⟩,
 ⟨16, (oO 59 (.pick 49 58 kF) []), false, []⟩] [43,44,45,46,47,48,49,50,51,52,53,54,55,56,57,58])
(.cond 59 (rR [oO 60 (.faddr 1 5) [], oO 61 (.load none 60) [60], oO 62 (.load (some 16) 3) [], oO 63 (.bsl (.im false) 16 1 [vS,(vI 0),(vI 0),(vI 0),(vI 0),(vI 0),.nils,.nils,.nils,.nils,vS,.nils,(vI 0),.nils,vS,(vI 0)] [(0, 62)]) [62], oO 64 (.append (.im false) 16 248 61 63) [61,63], oO 65 (.faddr 1 5) [], oN (.store 1 65 64) [65,64], oA 8 kT []])
 .skip))
(.dreg [⟨0, (oO 66 (.faddr 1 5) []), false, []⟩,
 ⟨1, (oO 67 (.load none 66) []), false, []⟩,
 ⟨2, (oO 68 (.faddr 1 2) []), false, []⟩,
 ⟨3, (oO 69 (.load none 68) []), false, []⟩,
 ⟨4, (oM 70 9 []), false, []⟩,
 ⟨5, (oO 71 (.iasl 16 69 70) []), false, []⟩,
 ⟨6, (oO 72 (.load (some 16) 71) []), false, []⟩,
 ⟨7, (oO 73 (.bsl (.im false) 16 1 [vS,(vI 0),(vI 0),(vI 0),(vI 0),(vI 0),.nils,.nils,.nils,.nils,vS,.nils,(vI 0),.nils,vS,(vI 0)] [(0, 72)]) []), true, [1]⟩,
 ⟨8, (oO 74 (.append (.im false) 16 248 67 73) []), true, []⟩,
 ⟨9, (oO 75 (.faddr 1 5) []), false, []⟩,
 ⟨10, (oN (.store 1 75 74) []), true, []⟩] [66,67,68,69,9,70,71,72,73,74,75])))))
(rR [oO 76 (.bin .add 23 (kI 1)) [23], oM 23 76 [76]])))))))
(.seq (rS [oM 77 8 [8], oO 78 (.un .not 77) [77]] (.cond 78 (rR [oO 79 (.faddr 1 5) [], oO 80 (.load none 79) [79], oO 81 (.load (some 16) 3) [3], oO 82 (.bsl (.im false) 16 1 [vS,(vI 0),(vI 0),(vI 0),(vI 0),(vI 0),.nils,.nils,.nils,.nils,vS,.nils,(vI 0),.nils,vS,(vI 0)] [(0, 81)]) [81], oO 83 (.append (.im false) 16 248 80 82) [80,82], oO 84 (.faddr 1 5) [], oN (.store 1 84 83) [84,83]])
 .skip))
(rS [oO 85 (.load (some 2) 5) [5], oN (.store 2 4 85) [85]] .ret))))))), [.cell 4 (some 2)]⟩
/-- interrex/obj.CopyPod -/
def f27 : AFn := ⟨1, (rS [oO 1 (.box false 0) [0], oO 2 (.alloc false [vS,(vI 0),(vI 0),(vI 0),(vI 0),(vI 0),.nils,.nils,.nils,.nils,vS,.nils,(vI 0),.nils,vS,(vI 0)]) []] (.seq (.dreg [⟨0, (oO 3 (.faddr 6 1) []), false, []⟩,
 ⟨1, (oO 4 (.load none 3) []), false, []⟩,
 ⟨3, (oO 6 (.faddr 7 1) []), false, []⟩,
 ⟨4, (oO 7 (.load none 6) []), false, []⟩,
 ⟨6, (oO 9 (.faddr 9 1) []), false, []⟩,
 ⟨7, (oO 10 (.load none 9) []), false, []⟩,
 ⟨2, (oO 5 (.call 69 [4]) []), true, [7,4]⟩,
 ⟨9, (oO 12 (.faddr 6 1) []), false, []⟩,
 ⟨5, (oO 8 (.call 70 [7]) []), true, [7]⟩,
 ⟨8, (oO 11 (.call 71 [10]) []), true, []⟩,
 ⟨10, (oN (.store 1 12 5) []), true, []⟩,
 ⟨11, (oO 13 (.faddr 7 1) []), false, []⟩,
 ⟨12, (oN (.store 1 13 8) []), true, []⟩,
 ⟨13, (oO 14 (.faddr 9 1) []), false, []⟩,
 ⟨14, (oN (.store 1 14 11) []), true, []⟩] [3,4,5,6,7,8,9,10,11,12,13,14])
(.seq (.dreg [⟨0, (oO 15 (.faddr 8 1) []), false, []⟩,
 ⟨1, (oO 16 (.load none 15) []), false, []⟩,
 ⟨3, (oO 18 (.faddr 11 1) []), false, []⟩,
 ⟨4, (oO 19 (.load none 18) []), false, []⟩,
 ⟨6, (oO 21 (.faddr 13 1) []), false, []⟩,
 ⟨7, (oO 22 (.load none 21) []), false, []⟩,
 ⟨2, (oO 17 (.call 72 [16]) []), true, [7,4]⟩,
 ⟨9, (oO 24 (.faddr 8 1) []), false, []⟩,
 ⟨5, (oO 20 (.call 72 [19]) []), true, [7]⟩,
 ⟨8, (oO 23 (.call 72 [22]) []), true, []⟩,
 ⟨10, (oN (.store 1 24 17) []), true, []⟩,
 ⟨11, (oO 25 (.faddr 11 1) []), false, []⟩,
 ⟨12, (oN (.store 1 25 20) []), true, []⟩,
 ⟨13, (oO 26 (.faddr 13 1) []), false, []⟩,
 ⟨14, (oN (.store 1 26 23) []), true, []⟩] [15,16,17,18,19,20,21,22,23,24,25,26])
(rS [oO 27 (.load (some 16) 1) [1], oN (.store 16 2 27) [27]] .ret)))), [.cell 2 (some 16)]⟩
/-- interrex/interrexref1.Name -/
def f28 : AFn := ⟨1, (rS [oA 2 kF [2]] (.seq (rS [oA 3 (kI 0) []] (.blk 0 (.loop (.seq (rS [oM 5 3 [], oM 6 0 [], oO 7 (.lenS 6) [6], oO 8 (.bin .lss 5 7) [5,7]] (.cond 8 .skip
 (.exit 0)))
(.seq (.blk 1 (rS [oM 11 0 [], oM 12 3 [], oO 13 (.ixs 11 12) [11,12], oA 4 13 [13]] (rS [oM 14 4 [], oO 15 (.bin .geq 14 (.c (.i .u8 97))) [14], oM 16 15 [15], oG 17 (.mv 4) 16 [], oG 18 (.bin .leq 17 (.c (.i .u8 122))) 16 [17], oO 19 (.pick 16 18 kF) [16,18], oM 20 19 [19], oH 21 (.mv 4) 20 [], oH 22 (.bin .geq 21 (.c (.i .u8 48))) 20 [21], oH 23 (.mv 22) 20 [22], oG 24 (.mv 4) 23 [], oG 25 (.bin .leq 24 (.c (.i .u8 57))) 23 [24], oH 26 (.pick 23 25 kF) 20 [23,25], oO 27 (.pick 20 kT 26) [20,26], oM 28 27 [27], oH 29 (.mv 4) 28 [4], oH 30 (.bin .eql 29 (.c (.i .u8 45))) 28 [29], oO 31 (.pick 28 kT 30) [28,30], oO 32 (.un .not 31) [31]] (.cond 32 (rS [oA 2 kF []] .ret)
 .skip))))
(rR [oM 9 3 [3], oO 10 (.bin .add 9 (kI 1)) [9], oA 3 10 [10]]))))))
(rS [oM 33 0 [], oO 34 (.lenS 33) [33], oO 35 (.bin .geq 34 (kI 1)) [34], oM 36 35 [35], oG 37 (.mv 0) 36 [0], oG 38 (.lenS 37) 36 [37], oG 39 (.bin .leq 38 (kI 12)) 36 [38], oO 40 (.pick 36 39 kF) [36,39], oA 2 40 [40]] .ret))), [.t 2]⟩
/-- interrex/interrexref1.May -/
def f29 : AFn := ⟨1, (rS [oO 1 (.box false 0) [0], oA 2 kF [2]] (.seq (rS [oM 4 (kI 0) []] (.blk 0 (.loop (rS [oO 5 (.bin .lss 4 (kI 3)) []] (.seq (.cond 5 .skip
 (.exit 0))
(.seq (.blk 1 (rS [oM 6 4 [], oA 3 6 [6]] (rS [oM 7 3 [], oO 8 (.iaar 3 1 1 7) [7], oO 9 (.load none 8) [8], oO 10 (.bin .lss 9 (kI 0)) [9], oM 11 10 [10], oH 12 (.mv 3) 11 [3], oH 13 (.iaar 3 1 1 12) 11 [12], oH 14 (.load none 13) 11 [13], oH 15 (.bin .gtr 14 (kI 1000000000)) 11 [14], oO 16 (.pick 11 kT 15) [11,15]] (.cond 16 (rS [oA 2 kF []] .ret)
 .skip))))
(rR [oO 17 (.bin .add 4 (kI 1)) [4], oM 4 17 [17]])))))))
(rS [oA 2 kT []] .ret))), [.t 2]⟩
/-- interrex/interrexref1.MayPairs -/
def f30 : AFn := ⟨1, (rS [oA 2 kF [2]] (.seq (rS [oM 4 0 [], oO 5 (.lenL 4) [4], oM 6 (kI 0) []] (.blk 0 (.loop (rS [oO 7 (.bin .lss 6 5) []] (.seq (.cond 7 .skip
 (.exit 0))
(.seq (.blk 1 (rS [oM 8 6 [], oA 3 8 [8]] (.seq (.dreg [⟨0, (oM 9 0 []), false, []⟩,
 ⟨1, (oM 10 3 []), false, []⟩,
 ⟨2, (oO 11 (.iasl 2 9 10) []), false, []⟩,
 ⟨3, (oO 12 (.faddr 0 11) []), false, []⟩,
 ⟨4, (oO 13 (.load none 12) []), false, []⟩,
 ⟨5, (oO 14 (.call 28 [13]) []), true, []⟩,
 ⟨6, (oO 15 (.un .not 14) []), false, []⟩,
 ⟨7, (oM 16 15 []), false, []⟩,
 ⟨8, (oH 17 (.mv 0) 16 []), false, []⟩,
 ⟨9, (oH 18 (.mv 3) 16 []), false, []⟩,
 ⟨10, (oH 19 (.iasl 2 17 18) 16 []), false, []⟩,
 ⟨11, (oH 20 (.faddr 1 19) 16 []), false, []⟩,
 ⟨12, (oH 21 (.load none 20) 16 []), false, []⟩,
 ⟨13, (oH 22 (.call 28 [21]) 16 []), true, []⟩,
 ⟨14, (oH 23 (.un .not 22) 16 []), false, []⟩,
 ⟨15, (oO 24 (.pick 16 kT 23) []), false, []⟩,
 ⟨16, (oM 25 24 []), false, []⟩,
 ⟨17, (oH 26 (.mv 3) 25 []), false, []⟩,
 ⟨18, (oH 27 (.bin .gtr 26 (kI 0)) 25 []), false, []⟩,
 ⟨19, (oH 28 (.mv 27) 25 []), false, []⟩,
 ⟨20, (oG 29 (.mv 0) 28 []), false, []⟩,
 ⟨21, (oG 30 (.mv 3) 28 []), false, []⟩,
 ⟨22, (oG 31 (.bin .sub 30 (kI 1)) 28 []), false, []⟩,
 ⟨23, (oG 32 (.iasl 2 29 31) 28 []), false, []⟩,
 ⟨24, (oG 33 (.faddr 0 32) 28 []), false, []⟩,
 ⟨25, (oG 34 (.load none 33) 28 []), false, []⟩,
 ⟨26, (oG 35 (.mv 0) 28 []), false, []⟩,
 ⟨27, (oG 36 (.mv 3) 28 []), false, []⟩,
 ⟨28, (oG 37 (.iasl 2 35 36) 28 []), false, []⟩,
 ⟨29, (oG 38 (.faddr 0 37) 28 []), false, []⟩,
 ⟨30, (oG 39 (.load none 38) 28 []), false, []⟩,
 ⟨31, (oG 40 (.bin .geq 34 39) 28 []), false, []⟩,
 ⟨32, (oH 41 (.pick 28 40 kF) 25 []), false, []⟩,
 ⟨33, (oO 42 (.pick 25 kT 41) []), false, []⟩] [9,3,10,11,12,13,14,15,16,17,18,19,20,21,22,23,24,25,26,27,28,29,30,31,32,33,34,35,36,37,38,39,40,41])
(.cond 42 (rS [oA 2 kF []] .ret)
 .skip))))
(rR [oO 43 (.bin .add 6 (kI 1)) [6], oM 6 43 [43]])))))))
(rS [oM 44 0 [0], oO 45 (.lenL 44) [44], oO 46 (.bin .leq 45 (kI 6)) [45], oA 2 46 [46]] .ret))), [.t 2]⟩
/-- interrex/interrexref1.MayTerms -/
def f31 : AFn := ⟨1, (rS [oA 2 kF [2]] (.seq (rS [oM 7 0 [], oO 8 (.lenL 7) [7], oM 9 (kI 0) []] (.blk 0 (.loop (rS [oO 10 (.bin .lss 9 8) []] (.seq (.cond 10 .skip
 (.exit 0))
(.seq (.blk 1 (rS [oM 11 9 [], oA 3 11 [11]] (rS [oM 12 0 [], oM 13 3 [3], oO 14 (.iasl 3 12 13) [12,13], oO 15 (.load (some 3) 14) [14], oO 4 (.alloc false [vS,(vI 0),.nils]) [], oN (.store 3 4 15) [15]] (rS [oO 16 (.faddr 2 4) [], oO 17 (.load none 16) [16], oO 18 (.lenL 17) [17], oA 5 18 [18]] (.seq (rS [oO 19 (.faddr 0 4) [], oO 20 (.load none 19) [19], oO 21 (.call 28 [20]) [20], oO 22 (.un .not 21) [21], oM 23 22 [22], oH 24 (.faddr 1 4) 23 [], oH 25 (.load none 24) 23 [24], oH 26 (.bin .lss 25 (kI 1)) 23 [25], oO 27 (.pick 23 kT 26) [23,26], oM 28 27 [27], oH 29 (.faddr 1 4) 28 [], oH 30 (.load none 29) 28 [29], oH 31 (.bin .gtr 30 (kI 4)) 28 [30], oO 32 (.pick 28 kT 31) [28,31], oM 33 32 [32], oH 34 (.faddr 1 4) 33 [], oH 35 (.load none 34) 33 [34], oH 36 (.bin .leq 35 (kI 2)) 33 [35], oH 37 (.mv 36) 33 [36], oG 38 (.mv 5) 37 [], oG 39 (.bin .lss 38 (kI 1)) 37 [38], oG 40 (.mv 39) 37 [39], oH 41 (.mv 5) 40 [], oH 42 (.bin .gtr 41 (kI 6)) 40 [41], oG 43 (.pick 40 kT 42) 37 [40,42], oH 44 (.pick 37 43 kF) 33 [37,43], oO 45 (.pick 33 kT 44) [33,44], oM 46 45 [45], oH 47 (.faddr 1 4) 46 [], oH 48 (.load none 47) 46 [47], oH 49 (.bin .gtr 48 (kI 2)) 46 [48], oH 50 (.mv 49) 46 [49], oG 51 (.mv 5) 50 [5], oG 52 (.bin .gtr 51 (kI 0)) 50 [51], oH 53 (.pick 50 52 kF) 46 [50,52], oO 54 (.pick 46 kT 53) [46,53]] (.cond 54 (rS [oA 2 kF []] .ret)
 .skip))
(rS [oO 55 (.faddr 2 4) [], oO 56 (.load none 55) [55], oO 57 (.lenL 56) [56], oM 58 (kI 0) []] (.blk 2 (.loop (rS [oO 59 (.bin .lss 58 57) []] (.seq (.cond 59 .skip
 (.exit 2))
(.seq (.blk 3 (rS [oM 60 58 [], oA 6 60 [60]] (rS [oO 61 (.faddr 2 4) [], oO 62 (.load none 61) [61], oM 63 6 [6], oO 64 (.iasl 1 62 63) [62,63], oO 65 (.load none 64) [64], oO 66 (.call 28 [65]) [65], oO 67 (.un .not 66) [66]] (.cond 67 (rS [oA 2 kF []] .ret)
 .skip))))
(rR [oO 68 (.bin .add 58 (kI 1)) [58], oM 58 68 [68]]))))))))))))
(rR [oO 69 (.bin .add 9 (kI 1)) [9], oM 9 69 [69]])))))))
(rS [oM 70 0 [0], oO 71 (.lenL 70) [70], oO 72 (.bin .leq 71 (kI 6)) [71], oA 2 72 [72]] .ret))), [.t 2]⟩
/-- interrex/interrexref1.MayTols -/
def f32 : AFn := ⟨1, (rS [oA 2 kF [2]] (.seq (rS [oM 5 0 [], oO 6 (.lenL 5) [5], oM 7 (kI 0) []] (.blk 0 (.loop (rS [oO 8 (.bin .lss 7 6) []] (.seq (.cond 8 .skip
 (.exit 0))
(.seq (.blk 1 (rS [oM 9 7 [], oA 3 9 [9]] (rS [oM 10 0 [], oM 11 3 [3], oO 12 (.iasl 3 10 11) [10,11], oO 13 (.load (some 3) 12) [12], oO 4 (.alloc false [vS,vS,(.b false)]) [], oN (.store 3 4 13) [13]] (rS [oO 14 (.faddr 0 4) [], oO 15 (.load none 14) [14], oO 16 (.bin .neq 15 (.c vS)) [15], oM 17 16 [16], oG 18 (.faddr 0 4) 17 [], oG 19 (.load none 18) 17 [18], oG 20 (.call 28 [19]) 17 [19], oG 21 (.un .not 20) 17 [20], oO 22 (.pick 17 21 kF) [17,21], oM 23 22 [22], oH 24 (.faddr 2 4) 23 [], oH 25 (.load none 24) 23 [24], oH 26 (.mv 25) 23 [25], oG 27 (.faddr 1 4) 26 [], oG 28 (.load none 27) 26 [27], oG 29 (.bin .neq 28 (.c vS)) 26 [28], oH 30 (.pick 26 29 kF) 23 [26,29], oO 31 (.pick 23 kT 30) [23,30], oM 32 31 [31], oH 33 (.faddr 2 4) 32 [], oH 34 (.load none 33) 32 [33], oH 35 (.un .not 34) 32 [34], oH 36 (.mv 35) 32 [35], oG 37 (.faddr 1 4) 36 [4], oG 38 (.load none 37) 36 [37], oG 39 (.call 28 [38]) 36 [38], oG 40 (.un .not 39) 36 [39], oH 41 (.pick 36 40 kF) 32 [36,40], oO 42 (.pick 32 kT 41) [32,41]] (.cond 42 (rS [oA 2 kF []] .ret)
 .skip)))))
(rR [oO 43 (.bin .add 7 (kI 1)) [7], oM 7 43 [43]])))))))
(rS [oM 44 0 [0], oO 45 (.lenL 44) [44], oO 46 (.bin .leq 45 (kI 6)) [45], oA 2 46 [46]] .ret))), [.t 2]⟩
/-- slices.SortFunc   string string  -/
def f33 : AFn := ⟨2, (rS [oM 5 0 [], oO 6 (.lenL 5) [5], oA 4 6 [6]] (rR [oM 7 0 [0], oM 8 4 [], oM 9 4 [4], oO 10 (.cvi .u64 9) [9], oO 11 (.call 74 [10]) [10], oM 12 1 [1], oO 13 (.call 73 [7,(kI 0),8,11,12]) [7,8,11,12,13]])), []⟩
/-- strings.Compare -/
def f34 : AFn := ⟨2, (rS [oA 4 (kI 0) [4]] (rS [oM 5 0 [0], oM 6 1 [1], oO 7 (.call 75 [5,6]) [5,6], oA 4 7 [7]] .ret)), [.t 4]⟩
/-- interrex/state.Without -/
def f35 : AFn := ⟨2, (rS [oO 2 (.box false 0) [0], oO 4 (.alloc false [.nils,.nils]) []] (rS [oO 8 (.load (some 2) 2) [], oO 9 (.call 76 [8]) [8], oO 10 (.bld [.nils,.nils] [(0, 1, 9)]) [9], oO 5 (.alloc false [.nils,.nils]) [], oN (.store 2 5 10) [10]] (.seq (rS [oO 11 (.faddr 1 2) [2], oO 12 (.load none 11) [11], oO 13 (.lenL 12) [], oM 14 (kI 0) []] (.blk 0 (.loop (rS [oO 15 (.bin .lss 14 13) []] (.seq (.cond 15 .skip
 (.exit 0))
(.seq (.blk 1 (rS [oO 16 (.iasl 16 12 14) [], oO 17 (.load (some 16) 16) [16], oO 7 (.alloc false [vS,(vI 0),(vI 0),(vI 0),(vI 0),(vI 0),.nils,.nils,.nils,.nils,vS,.nils,(vI 0),.nils,vS,(vI 0)]) [], oN (.store 16 7 17) [17]] (rS [oM 18 1 [], oO 19 (.faddr 0 7) [], oO 20 (.load none 19) [19], oO 21 (.call 77 [18,20]) [18,20], oO 22 (.un .not 21) [21]] (.cond 22 (.dreg [⟨0, (oO 23 (.faddr 1 5) []), false, []⟩,
 ⟨1, (oO 24 (.load none 23) []), false, []⟩,
 ⟨2, (oO 25 (.load (some 16) 7) []), false, []⟩,
 ⟨3, (oO 26 (.call 27 [25]) []), true, [1]⟩,
 ⟨4, (oO 27 (.bsl (.mu true) 16 1 [vS,(vI 0),(vI 0),(vI 0),(vI 0),(vI 0),.nils,.nils,.nils,.nils,vS,.nils,(vI 0),.nils,vS,(vI 0)] [(0, 26)]) []), true, [1]⟩,
 ⟨5, (oO 28 (.append (.mu true) 16 248 24 27) []), true, []⟩,
 ⟨6, (oO 29 (.faddr 1 5) []), false, []⟩,
 ⟨7, (oN (.store 1 29 28) []), true, []⟩] [23,24,7,25,26,27,28,29])
 .skip))))
(rR [oO 30 (.bin .add 14 (kI 1)) [14], oM 14 30 [30]])))))))
(rS [oO 31 (.load (some 2) 5) [5], oN (.store 2 4 31) [31]] .ret)))), [.cell 4 (some 2)]⟩
/-- slices.IndexFunc   interrex/api.Pod interrex/api.Pod  -/
def f36 : AFn := ⟨2, (rS [oA 4 (kI 0) [4]] (.seq (rS [oM 6 0 [], oO 7 (.lenL 6) [6], oM 8 (kI 0) []] (.blk 0 (.loop (rS [oO 9 (.bin .lss 8 7) []] (.seq (.cond 9 .skip
 (.exit 0))
(.seq (.blk 1 (rS [oM 10 8 [], oA 5 10 [10]] (rS [oM 11 1 [], oM 12 0 [], oM 13 5 [], oO 14 (.iasl 16 12 13) [12,13], oO 15 (.load (some 16) 14) [14], oO 16 (.callv 11 [15]) [11,15]] (.cond 16 (rS [oM 17 5 [5], oA 4 17 [17]] .ret)
 .skip))))
(rR [oO 18 (.bin .add 8 (kI 1)) [8], oM 8 18 [18]])))))))
(rS [oA 4 (kI (-1)) []] .ret))), [.t 4]⟩
/-- interrex/state.With 1 -/
def f37 : AFn := ⟨2, (rS [oO 2 (.box false 0) [0], oA 3 kF [3]] (rS [oO 4 (.faddr 0 2) [2], oO 5 (.load none 4) [4], oO 6 (.faddr 0 1) [1], oO 7 (.load none 6) [6], oO 8 (.bin .eql 5 7) [5,7], oA 3 8 [8]] .ret)), [.t 3]⟩
/-- slices.Insert   interrex/api.Pod interrex/api.Pod  -/
def f38 : AFn := ⟨3, (rS [oA 6 (.c .nils) [6]] (rS [oM 10 0 [], oM 11 1 [], oO 12 (.slsl 16 10 (some 11) none none) [10,11,12]] (rS [oM 13 2 [], oO 14 (.lenL 13) [13], oA 7 14 [14]] (.seq (rS [oM 15 7 [], oO 16 (.bin .eql 15 (kI 0)) [15]] (.cond 16 (rS [oM 17 0 [0], oA 6 17 [17]] .ret)
 .skip))
(rS [oM 18 0 [], oO 19 (.lenL 18) [18], oA 8 19 [19]] (.seq (rS [oM 20 1 [], oM 21 8 [], oO 22 (.bin .eql 20 21) [20,21]] (.cond 22 (rS [oM 23 0 [0], oM 24 2 [2], oO 25 (.append (.mu true) 16 248 23 24) [23,24], oA 6 25 [25]] .ret)
 .skip))
(.seq (rS [oM 26 8 [], oM 27 7 [], oO 28 (.bin .add 26 27) [26,27], oM 29 0 [], oO 30 (.no) [29], oO 31 (.bin .gtr 28 30) [28,30]] (.cond 31 (rS [oM 32 0 [], oM 33 1 [], oO 34 (.slsl 16 32 none (some 33) none) [32,33], oM 35 8 [8], oM 36 7 [], oO 37 (.bin .add 35 36) [35,36], oM 38 1 [], oO 39 (.bin .sub 37 38) [37,38], oO 40 (.no) [34,39], oA 9 40 [40]] (rS [oM 41 9 [], oM 42 1 [], oO 43 (.slsl 16 41 (some 42) none none) [41,42], oM 44 2 [2], oO 45 (.copy 16 43 44) [43,44,45]] (.seq (.dreg [⟨0, (oM 46 9 []), false, []⟩,
 ⟨1, (oM 47 1 []), false, []⟩,
 ⟨2, (oM 48 7 []), false, []⟩,
 ⟨3, (oO 49 (.bin .add 47 48) []), false, []⟩,
 ⟨4, (oO 50 (.slsl 16 46 (some 49) none none) []), false, []⟩,
 ⟨5, (oM 51 0 []), false, []⟩,
 ⟨6, (oM 52 1 []), false, []⟩,
 ⟨7, (oO 53 (.slsl 16 51 (some 52) none none) []), false, []⟩,
 ⟨8, (oO 54 (.copy 16 50 53) []), true, []⟩] [46,1,47,7,48,49,50,0,51,52,53,54])
(rS [oM 55 9 [9], oA 6 55 [55]] .ret))))
 .skip))
(rS [oM 56 0 [0], oM 57 8 [], oM 58 7 [], oO 59 (.bin .add 57 58) [57,58], oO 60 (.slsl 16 56 none (some 59) none) [56,59], oA 0 60 [60]] (.seq (rS [oM 61 2 [], oM 62 0 [], oM 63 1 [], oM 64 7 [], oO 65 (.bin .add 63 64) [63,64], oO 66 (.slsl 16 62 (some 65) none none) [62,65], oO 67 (.call 78 [61,66]) [61,66], oO 68 (.un .not 67) [67]] (.cond 68 (.seq (.dreg [⟨0, (oM 69 0 []), false, []⟩,
 ⟨1, (oM 70 1 []), false, []⟩,
 ⟨2, (oM 71 7 []), false, []⟩,
 ⟨3, (oO 72 (.bin .add 70 71) []), false, []⟩,
 ⟨4, (oO 73 (.slsl 16 69 (some 72) none none) []), false, []⟩,
 ⟨5, (oM 74 0 []), false, []⟩,
 ⟨6, (oM 75 1 []), false, []⟩,
 ⟨7, (oO 76 (.slsl 16 74 (some 75) none none) []), false, []⟩,
 ⟨8, (oO 77 (.copy 16 73 76) []), true, []⟩] [69,70,7,71,72,73,74,75,76,77])
(rS [oM 78 0 [], oM 79 1 [1], oO 80 (.slsl 16 78 (some 79) none none) [78,79], oM 81 2 [2], oO 82 (.copy 16 80 81) [80,81,82]] (rS [oM 83 0 [0], oA 6 83 [83]] .ret)))
 .skip))
(rS [oM 84 0 [], oM 85 8 [8], oO 86 (.slsl 16 84 (some 85) none none) [84,85], oM 87 2 [2], oO 88 (.copy 16 86 87) [86,87,88]] (rS [oM 89 0 [], oM 90 1 [1], oO 91 (.slsl 16 89 (some 90) none none) [89,90], oM 92 7 [7], oO 93 (.call 79 [91,92]) [91,92,93]] (rS [oM 94 0 [0], oA 6 94 [94]] .ret)))))))))))), [.t 6]⟩
/-- interrex/state.Used -/
def f39 : AFn := ⟨2, (rS [oO 2 (.box false 0) [0], oO 4 (.alloc false [(vI 0),(vI 0),(vI 0)]) [], oA 5 kF [5]] (rS [oA 6 (.c .nils) []] (.seq (rS [oO 9 (.faddr 1 2) [2], oO 10 (.load none 9) [9], oO 11 (.lenL 10) [], oM 12 (kI 0) []] (.blk 0 (.loop (rS [oO 13 (.bin .lss 12 11) []] (.seq (.cond 13 .skip
 (.exit 0))
(.seq (.blk 1 (rS [oO 14 (.iasl 16 10 12) [], oO 15 (.load (some 16) 14) [14], oO 8 (.alloc false [vS,(vI 0),(vI 0),(vI 0),(vI 0),(vI 0),.nils,.nils,.nils,.nils,vS,.nils,(vI 0),.nils,vS,(vI 0)]) [], oN (.store 16 8 15) [15]] (rS [oO 16 (.faddr 14 8) [], oO 17 (.load none 16) [16], oM 18 1 [], oO 19 (.bin .eql 17 18) [17,18], oM 20 19 [19], oG 21 (.mv 1) 20 [], oG 22 (.bin .neq 21 (.c vS)) 20 [21], oO 23 (.pick 20 22 kF) [20,22]] (.cond 23 (rR [oM 24 6 [6], oO 25 (.faddr 3 8) [8], oO 26 (.load (some 3) 25) [25], oO 27 (.bsl (.im false) 3 1 [(vI 0),(vI 0),(vI 0)] [(0, 26)]) [26], oO 28 (.append (.im false) 3 24 24 27) [24,27], oA 6 28 [28]])
 .skip))))
(rR [oO 29 (.bin .add 12 (kI 1)) [12], oM 12 29 [29]])))))))
(rS [oM 30 6 [6], oO 31 (.call 80 [30]) [30], oO 32 (.ext 31 0) [], oO 33 (.ext 31 1) [31], oN (.store 3 4 32) [32], oA 5 33 [33]] .ret)))), [.cell 4 (some 3),.t 5]⟩
/-- interrex/qty.Fits -/
def f40 : AFn := ⟨2, (rS [oO 2 (.box false 0) [0], oO 3 (.box false 1) [1], oA 4 kF [4]] (.seq (rS [oM 6 (kI 0) []] (.blk 0 (.loop (rS [oO 7 (.bin .lss 6 (kI 3)) []] (.seq (.cond 7 .skip
 (.exit 0))
(.seq (.blk 1 (rS [oM 8 6 [], oA 5 8 [8]] (.seq (.dreg [⟨0, (oM 9 5 []), false, []⟩,
 ⟨1, (oO 10 (.iaar 3 1 2 9) []), false, []⟩,
 ⟨2, (oO 11 (.load none 10) []), false, []⟩,
 ⟨3, (oM 12 5 []), false, []⟩,
 ⟨4, (oO 13 (.iaar 3 1 3 12) []), false, []⟩,
 ⟨5, (oO 14 (.load none 13) []), false, []⟩,
 ⟨6, (oO 15 (.bin .gtr 11 14) []), false, []⟩] [5,9,10,11,12,13,14])
(.cond 15 (rS [oA 4 kF []] .ret)
 .skip))))
(rR [oO 16 (.bin .add 6 (kI 1)) [6], oM 6 16 [16]])))))))
(rS [oA 4 kT []] .ret))), [.t 4]⟩
/-- interrex/feas.ports -/
def f41 : AFn := ⟨1, (rS [oA 2 kF [2]] (rS [oO 10 (.mkmap true (some .i64)) [], oA 3 10 [10]] (.seq (rS [oM 11 0 [0], oO 12 (.lenL 11) [], oM 13 (kI 0) []] (.blk 0 (.loop (rS [oO 14 (.bin .lss 13 12) []] (.seq (.cond 14 .skip
 (.exit 0))
(.seq (.blk 1 (rS [oO 15 (.iasl 16 11 13) [], oO 16 (.load (some 16) 15) [15], oO 5 (.alloc false [vS,(vI 0),(vI 0),(vI 0),(vI 0),(vI 0),.nils,.nils,.nils,.nils,vS,.nils,(vI 0),.nils,vS,(vI 0)]) [], oN (.store 16 5 16) [16]] (.seq (rS [oO 17 (.faddr 6 5) [], oO 18 (.load none 17) [17], oO 19 (.lenL 18) [], oM 20 (kI 0) []] (.blk 2 (.loop (rS [oO 21 (.bin .lss 20 19) []] (.seq (.cond 21 .skip
 (.exit 2))
(.seq (.blk 3 (rS [oO 22 (.iasl 1 18 20) [], oO 23 (.load none 22) [22], oA 7 23 [23]] (rS [oM 24 3 [], oM 25 7 [7], oO 26 (.lkp (some .i64) (.b false) 24 25 false) [24,25]] (.cond 26 (rS [oA 2 kF []] .ret)
 .skip))))
(rR [oO 27 (.bin .add 20 (kI 1)) [20], oM 20 27 [27]])))))))
(rS [oO 28 (.faddr 6 5) [5], oO 29 (.load none 28) [28], oO 30 (.lenL 29) [], oM 31 (kI 0) []] (.blk 4 (.loop (rS [oO 32 (.bin .lss 31 30) []] (.seq (.cond 32 .skip
 (.exit 4))
(.seq (.blk 5 (rS [oO 33 (.iasl 1 29 31) [], oO 34 (.load none 33) [33], oA 9 34 [34]] (rR [oM 35 3 [], oM 36 9 [9], oN (.mupd (some .i64) 35 36 kT) [35,36]])))
(rR [oO 37 (.bin .add 31 (kI 1)) [31], oM 31 37 [37]]))))))))))
(rR [oO 38 (.bin .add 13 (kI 1)) [13], oM 13 38 [38]])))))))
(rS [oA 2 kT []] .ret)))), [.t 2]⟩
/-- interrex/state.On -/
def f42 : AFn := ⟨2, (rS [oO 2 (.box false 0) [0], oA 4 (.c .nils) [4]] (rS [oA 5 (.c .nils) []] (.seq (rS [oO 8 (.faddr 1 2) [2], oO 9 (.load none 8) [8], oO 10 (.lenL 9) [], oM 11 (kI 0) []] (.blk 0 (.loop (rS [oO 12 (.bin .lss 11 10) []] (.seq (.cond 12 .skip
 (.exit 0))
(.seq (.blk 1 (rS [oO 13 (.iasl 16 9 11) [], oO 14 (.load (some 16) 13) [13], oO 7 (.alloc false [vS,(vI 0),(vI 0),(vI 0),(vI 0),(vI 0),.nils,.nils,.nils,.nils,vS,.nils,(vI 0),.nils,vS,(vI 0)]) [], oN (.store 16 7 14) [14]] (rS [oO 15 (.faddr 14 7) [], oO 16 (.load none 15) [15], oM 17 1 [], oO 18 (.bin .eql 16 17) [16,17], oM 19 18 [18], oG 20 (.mv 1) 19 [], oG 21 (.bin .neq 20 (.c vS)) 19 [20], oO 22 (.pick 19 21 kF) [19,21]] (.cond 22 (rR [oM 23 5 [5], oO 24 (.load (some 16) 7) [7], oO 25 (.call 27 [24]) [24], oO 26 (.bsl (.mu true) 16 1 [vS,(vI 0),(vI 0),(vI 0),(vI 0),(vI 0),.nils,.nils,.nils,.nils,vS,.nils,(vI 0),.nils,vS,(vI 0)] [(0, 25)]) [25], oO 27 (.append (.mu true) 16 248 23 26) [23,26], oA 5 27 [27]])
 .skip))))
(rR [oO 28 (.bin .add 11 (kI 1)) [11], oM 11 28 [28]])))))))
(rS [oM 29 5 [5], oA 4 29 [29]] .ret)))), [.t 4]⟩
/-- interrex/fits.Room -/
def f43 : AFn := ⟨3, (rS [oO 3 (.box false 0) [0], oO 4 (.box false 1) [1], oO 5 (.box false 2) [2], oA 6 kF [6]] (rS [oO 11 (.load (some 2) 3) [3], oO 12 (.faddr 0 5) [], oO 13 (.load none 12) [12], oO 14 (.call 39 [11,13]) [11,13], oM 10 14 [14], oO 15 (.ext 10 0) [], oO 16 (.ext 10 1) [10], oO 7 (.alloc false [(vI 0),(vI 0),(vI 0)]) [], oN (.store 3 7 15) [15], oA 8 16 [16]] (.seq (rS [oM 17 8 [8], oO 18 (.un .not 17) [17]] (.cond 18 (rS [oA 6 kF []] .ret)
 .skip))
(rS [oO 20 (.load (some 3) 7) [7], oO 21 (.faddr 3 4) [4], oO 22 (.load (some 3) 21) [21], oO 23 (.call 81 [20,22]) [20,22], oM 19 23 [23], oO 24 (.ext 19 0) [], oO 25 (.ext 19 1) [19], oO 9 (.alloc false [(vI 0),(vI 0),(vI 0)]) [], oN (.store 3 9 24) [24], oA 8 25 [25]] (rS [oM 26 8 [8], oM 27 26 [26], oG 28 (.load (some 3) 9) 27 [9], oG 29 (.faddr 1 5) 27 [5], oG 30 (.load (some 3) 29) 27 [29], oG 31 (.call 40 [28,30]) 27 [28,30], oO 32 (.pick 27 31 kF) [27,31], oA 6 32 [32]] .ret))))), [.t 6]⟩
/-- interrex/fits.Wants -/
def f44 : AFn := ⟨2, (rS [oO 2 (.box false 0) [0], oO 3 (.box false 1) [1], oA 4 kF [4]] (rS [oO 5 (.faddr 8 2) [2], oO 6 (.load none 5) [5], oO 7 (.faddr 4 3) [3], oO 8 (.load none 7) [7], oO 9 (.call 82 [6,8]) [6,8], oA 4 9 [9]] .ret)), [.t 4]⟩
/-- interrex/fits.Borne -/
def f45 : AFn := ⟨2, (rS [oO 2 (.box false 0) [0], oO 3 (.box false 1) [1], oA 4 kF [4]] (rS [oO 5 (.faddr 9 2) [2], oO 6 (.load none 5) [5], oO 7 (.faddr 5 3) [3], oO 8 (.load none 7) [7], oO 9 (.call 83 [6,8]) [6,8], oA 4 9 [9]] .ret)), [.t 4]⟩
/-- interrex/topo.Apart -/
def f46 : AFn := ⟨3, (rS [oO 3 (.box false 0) [0], oO 4 (.box false 1) [1], oA 6 kF [6]] (.seq (rS [oO 12 (.load (some 2) 3) [], oO 13 (.faddr 10 4) [], oO 14 (.load none 13) [13], oM 15 2 [], oO 16 (.call 66 [12,14,15]) [12,14,15], oM 11 16 [16], oO 17 (.ext 11 0) [], oO 18 (.ext 11 1) [11], oA 7 17 [17,7], oA 8 18 [18]] (rS [oO 19 (.faddr 11 4) [], oO 20 (.load none 19) [19], oO 21 (.lenL 20) [20], oO 22 (.bin .gtr 21 (kI 0)) [21], oM 23 22 [22], oG 24 (.mv 8) 23 [8], oG 25 (.un .not 24) 23 [24], oO 26 (.pick 23 25 kF) [23,25]] (.cond 26 (rS [oA 6 kF []] .ret)
 .skip)))
(.seq (rS [oO 27 (.faddr 1 3) [], oO 28 (.load none 27) [27], oO 29 (.lenL 28) [], oM 30 (kI 0) []] (.blk 0 (.loop (rS [oO 31 (.bin .lss 30 29) []] (.seq (.cond 31 .skip
 (.exit 0))
(.seq (.blk 1 (rS [oO 32 (.iasl 16 28 30) [], oO 33 (.load (some 16) 32) [32], oO 10 (.alloc false [vS,(vI 0),(vI 0),(vI 0),(vI 0),(vI 0),.nils,.nils,.nils,.nils,vS,.nils,(vI 0),.nils,vS,(vI 0)]) [], oN (.store 16 10 33) [33]] (.seq (rS [oO 34 (.faddr 0 10) [], oO 35 (.load none 34) [34], oO 36 (.faddr 0 4) [], oO 37 (.load none 36) [36], oO 38 (.bin .eql 35 37) [35,37], oM 39 38 [38], oH 40 (.faddr 14 10) 39 [], oH 41 (.load none 40) 39 [40], oH 42 (.bin .eql 41 (.c vS)) 39 [41], oO 43 (.pick 39 kT 42) [39,42]] (.cond 43 (.exit 1)
 .skip))
(rS [oO 44 (.load (some 2) 3) [], oO 45 (.load (some 16) 4) [], oO 46 (.load (some 16) 10) [], oO 47 (.faddr 14 10) [], oO 48 (.load none 47) [47], oM 49 2 [], oO 50 (.call 84 [44,45,46,48,49]) [44,45,46,48,49], oM 51 50 [50], oH 52 (.load (some 2) 3) 51 [], oH 53 (.load (some 16) 10) 51 [], oH 54 (.load (some 16) 4) 51 [], oH 55 (.faddr 14 10) 51 [10], oH 56 (.load none 55) 51 [55], oH 57 (.mv 2) 51 [], oH 58 (.call 84 [52,53,54,56,57]) 51 [52,53,54,56,57], oO 59 (.pick 51 kT 58) [51,58]] (.cond 59 (rS [oA 6 kF []] .ret)
 .skip)))))
(rR [oO 60 (.bin .add 30 (kI 1)) [30], oM 30 60 [60]])))))))
(rS [oA 6 kT []] .ret)))), [.t 6]⟩
/-- interrex/topo.Even -/
def f47 : AFn := ⟨3, (rS [oO 3 (.box false 0) [0], oO 4 (.box false 1) [1], oA 6 kF [6]] (.seq (rS [oO 18 (.faddr 12 4) [], oO 19 (.load none 18) [18], oO 20 (.bin .leq 19 (kI 0)) [19]] (.cond 20 (rS [oA 6 kT []] .ret)
 .skip))
(rS [oO 22 (.load (some 2) 3) [], oO 23 (.faddr 10 4) [], oO 24 (.load none 23) [23], oM 25 2 [2], oO 26 (.call 66 [22,24,25]) [22,24,25], oM 21 26 [26], oO 27 (.ext 21 0) [], oO 28 (.ext 21 1) [21], oA 7 27 [27], oA 8 28 [28]] (.seq (rS [oM 29 8 [8], oO 30 (.un .not 29) [29]] (.cond 30 (rS [oA 6 kF []] .ret)
 .skip))
(rS [oO 31 (.faddr 0 3) [], oO 32 (.load none 31) [31], oO 33 (.bld [.nils,.nils] [(0, 1, 32)]) [32], oO 9 (.alloc false [.nils,.nils]) [], oN (.store 2 9 33) [33]] (.seq (rS [oO 34 (.faddr 1 3) [], oO 35 (.load none 34) [34], oO 36 (.lenL 35) [], oM 37 (kI 0) []] (.blk 0 (.loop (rS [oO 38 (.bin .lss 37 36) []] (.seq (.cond 38 .skip
 (.exit 0))
(.seq (.blk 1 (rS [oO 39 (.iasl 16 35 37) [], oO 40 (.load (some 16) 39) [39], oO 11 (.alloc false [vS,(vI 0),(vI 0),(vI 0),(vI 0),(vI 0),.nils,.nils,.nils,.nils,vS,.nils,(vI 0),.nils,vS,(vI 0)]) [], oN (.store 16 11 40) [40]] (rS [oO 41 (.faddr 0 11) [], oO 42 (.load none 41) [41], oO 43 (.faddr 0 4) [], oO 44 (.load none 43) [43], oO 45 (.bin .neq 42 44) [42,44]] (.cond 45 (rR [oO 46 (.faddr 1 9) [], oO 47 (.load none 46) [46], oO 48 (.load (some 16) 11) [11], oO 49 (.bsl (.im false) 16 1 [vS,(vI 0),(vI 0),(vI 0),(vI 0),(vI 0),.nils,.nils,.nils,.nils,vS,.nils,(vI 0),.nils,vS,(vI 0)] [(0, 48)]) [48], oO 50 (.append (.im false) 16 248 47 49) [47,49], oO 51 (.faddr 1 9) [], oN (.store 1 51 50) [51,50]])
 .skip))))
(rR [oO 52 (.bin .add 37 (kI 1)) [37], oM 37 52 [52]])))))))
(rS [oO 53 (.load (some 2) 9) [], oO 54 (.faddr 10 4) [], oO 55 (.load none 54) [54], oM 56 7 [7], oO 57 (.faddr 13 4) [], oO 58 (.load none 57) [57], oO 59 (.call 85 [53,55,56,58]) [53,55,56,58], oA 12 59 [59]] (rS [oM 60 12 [], oA 13 60 [60]] (.seq (rS [oO 61 (.faddr 0 3) [3], oO 62 (.load none 61) [61], oO 63 (.lenL 62) [], oM 64 (kI 0) []] (.blk 2 (.loop (rS [oO 65 (.bin .lss 64 63) []] (.seq (.cond 65 .skip
 (.exit 2))
(.seq (.blk 3 (rS [oO 66 (.iasl 6 62 64) [], oO 67 (.load (some 6) 66) [66], oO 15 (.alloc false [vS,(vI 0),(vI 0),(vI 0),.nils,.nils]) [], oN (.store 6 15 67) [67]] (rS [oO 69 (.faddr 4 15) [15], oO 70 (.load none 69) [69], oO 71 (.faddr 10 4) [], oO 72 (.load none 71) [71], oO 73 (.call 86 [70,72]) [70,72], oM 68 73 [73], oO 74 (.ext 68 0) [], oO 75 (.ext 68 1) [68], oA 16 74 [74], oA 17 75 [75]] (rS [oM 76 17 [17]] (.cond 76 (rR [oM 77 13 [13], oO 78 (.load (some 2) 9) [], oO 79 (.faddr 10 4) [], oO 80 (.load none 79) [79], oM 81 16 [16], oO 82 (.faddr 13 4) [], oO 83 (.load none 82) [82], oO 84 (.call 85 [78,80,81,83]) [78,80,81,83], oO 85 (.mnmx false [77,84]) [77,84], oA 13 85 [85]])
 .skip)))))
(rR [oO 86 (.bin .add 64 (kI 1)) [64], oM 64 86 [86]])))))))
(.seq (rS [oO 87 (.faddr 13 4) [], oO 88 (.load none 87) [87], oO 89 (.faddr 7 4) [], oO 90 (.load none 89) [89], oO 91 (.call 82 [88,90]) [88,90]] (.cond 91 (rR [oM 92 12 [12], oO 93 (.bin .add 92 (kI 1)) [92], oA 12 93 [93]])
 .skip))
(rS [oM 94 12 [12], oM 95 13 [13], oO 96 (.bin .sub 94 95) [94,95], oO 97 (.faddr 12 4) [4], oO 98 (.load none 97) [97], oO 99 (.bin .leq 96 98) [96,98], oA 6 99 [99]] .ret))))))))))), [.t 6]⟩
/-- interrex/obj.CopyNode -/
def f48 : AFn := ⟨1, (rS [oO 1 (.box false 0) [0], oO 2 (.alloc false [vS,(vI 0),(vI 0),(vI 0),.nils,.nils]) []] (.seq (.dreg [⟨0, (oO 3 (.faddr 4 1) []), false, []⟩,
 ⟨1, (oO 4 (.load none 3) []), false, []⟩,
 ⟨3, (oO 6 (.faddr 5 1) []), false, []⟩,
 ⟨4, (oO 7 (.load none 6) []), false, []⟩,
 ⟨2, (oO 5 (.call 70 [4]) []), true, [4]⟩,
 ⟨6, (oO 9 (.faddr 4 1) []), false, []⟩,
 ⟨5, (oO 8 (.call 87 [7]) []), true, []⟩,
 ⟨7, (oN (.store 1 9 5) []), true, []⟩,
 ⟨8, (oO 10 (.faddr 5 1) []), false, []⟩,
 ⟨9, (oN (.store 1 10 8) []), true, []⟩] [3,4,5,6,7,8,9,10])
(rS [oO 11 (.load (some 6) 1) [1], oN (.store 6 2 11) [11]] .ret))), [.cell 2 (some 6)]⟩
/-- slices.DeleteFunc   interrex/api.Pod interrex/api.Pod  -/
def f49 : AFn := ⟨2, (rS [oA 4 (.c .nils) [4]] (rS [oM 8 0 [], oM 9 1 [], oO 10 (.call 36 [8,9]) [8,9], oA 5 10 [10]] (.seq (rS [oM 11 5 [], oO 12 (.bin .eql 11 (kI (-1))) [11]] (.cond 12 (rS [oM 13 0 [0], oA 4 13 [13]] .ret)
 .skip))
(.seq (rS [oM 14 5 [], oO 15 (.bin .add 14 (kI 1)) [14], oA 6 15 [15]] (.blk 0 (.loop (.seq (rS [oM 16 6 [], oM 17 0 [], oO 18 (.lenL 17) [17], oO 19 (.bin .lss 16 18) [16,18]] (.cond 19 .skip
 (.exit 0)))
(.seq (.blk 1 (rS [oM 22 0 [], oM 23 6 [], oO 24 (.iasl 16 22 23) [22,23], oO 25 (.load (some 16) 24) [24], oO 7 (.alloc false [vS,(vI 0),(vI 0),(vI 0),(vI 0),(vI 0),.nils,.nils,.nils,.nils,vS,.nils,(vI 0),.nils,vS,(vI 0)]) [], oN (.store 16 7 25) [25]] (rS [oM 26 1 [], oO 27 (.load (some 16) 7) [], oO 28 (.callv 26 [27]) [26,27], oO 29 (.un .not 28) [28]] (.cond 29 (rS [oM 30 0 [], oM 31 5 [], oO 32 (.load (some 16) 7) [7], oO 33 (.iasl 16 30 31) [30,31], oN (.store 16 33 32) [33,32]] (rR [oM 34 5 [5], oO 35 (.bin .add 34 (kI 1)) [34], oA 5 35 [35]]))
 .skip))))
(rR [oM 20 6 [6], oO 21 (.bin .add 20 (kI 1)) [20], oA 6 21 [21]]))))))
(rS [oM 36 0 [], oM 37 5 [], oO 38 (.slsl 16 36 (some 37) none none) [36,37], oN (.clear 16 [vS,(vI 0),(vI 0),(vI 0),(vI 0),(vI 0),.nils,.nils,.nils,.nils,vS,.nils,(vI 0),.nils,vS,(vI 0)] 38) [38]] (rS [oM 39 0 [0], oM 40 5 [5], oO 41 (.slsl 16 39 none (some 40) none) [39,40], oA 4 41 [41]] .ret)))))), [.t 4]⟩
/-- interrex/evict.Victims 1 -/
def f50 : AFn := ⟨2, (rS [oO 2 (.box false 0) [0], oA 3 kF [3]] (rS [oO 4 (.faddr 2 2) [2], oO 5 (.load none 4) [4], oO 6 (.faddr 2 1) [1], oO 7 (.load none 6) [6], oO 8 (.bin .geq 5 7) [5,7], oA 3 8 [8]] .ret)), [.t 3]⟩
/-- slices.SortStableFunc   interrex/api.Pod interrex/api.Pod  -/
def f51 : AFn := ⟨2, (rR [oM 4 0 [], oM 5 0 [0], oO 6 (.lenL 5) [5], oM 7 1 [1], oO 8 (.call 88 [4,6,7]) [4,6,7,8]]), []⟩
/-- interrex/evict.Victims 2 -/
def f52 : AFn := ⟨2, (rS [oO 2 (.box false 0) [0], oO 3 (.box false 1) [1], oA 4 (kI 0) [4]] (.seq (rS [oO 6 (.faddr 2 3) [], oO 7 (.load none 6) [6], oO 8 (.faddr 2 2) [], oO 9 (.load none 8) [8], oO 10 (.call 53 [7,9]) [7,9], oA 5 10 [10]] (rS [oM 11 5 [], oO 12 (.bin .neq 11 (kI 0)) [11]] (.cond 12 (rS [oM 13 5 [5], oA 4 13 [13]] .ret)
 .skip)))
(rS [oO 14 (.faddr 0 2) [2], oO 15 (.load none 14) [14], oO 16 (.faddr 0 3) [3], oO 17 (.load none 16) [16], oO 18 (.call 34 [15,17]) [15,17], oA 4 18 [18]] .ret))), [.t 4]⟩
/-- cmp.Compare int  -/
def f53 : AFn := ⟨2, (rS [oA 4 (kI 0) [4]] (rS [oM 7 0 [], oO 8 (.call 89 [7]) [7], oA 5 8 [8]] (rS [oM 9 1 [], oO 10 (.call 89 [9]) [9], oA 6 10 [10]] (.seq (rS [oM 11 5 [5]] (.cond 11 (.seq (rS [oM 12 6 [6]] (.cond 12 (rS [oA 4 (kI 0) []] .ret)
 .skip))
(rS [oA 4 (kI (-1)) []] .ret))
 .skip))
(.seq (rS [oM 13 6 [6]] (.cond 13 (rS [oA 4 (kI 1) []] .ret)
 .skip))
(.seq (rS [oM 14 0 [], oM 15 1 [], oO 16 (.bin .lss 14 15) [14,15]] (.cond 16 (rS [oA 4 (kI (-1)) []] .ret)
 .skip))
(.seq (rS [oM 17 0 [0], oM 18 1 [1], oO 19 (.bin .gtr 17 18) [17,18]] (.cond 19 (rS [oA 4 (kI 1) []] .ret)
 .skip))
(rS [oA 4 (kI 0) []] .ret)))))))), [.t 4]⟩
/-- slices.DeleteFunc   string string  -/
def f54 : AFn := ⟨2, (rS [oA 4 (.c .nils) [4]] (rS [oM 8 0 [], oM 9 1 [], oO 10 (.call 90 [8,9]) [8,9], oA 5 10 [10]] (.seq (rS [oM 11 5 [], oO 12 (.bin .eql 11 (kI (-1))) [11]] (.cond 12 (rS [oM 13 0 [0], oA 4 13 [13]] .ret)
 .skip))
(.seq (rS [oM 14 5 [], oO 15 (.bin .add 14 (kI 1)) [14], oA 6 15 [15]] (.blk 0 (.loop (.seq (rS [oM 16 6 [], oM 17 0 [], oO 18 (.lenL 17) [17], oO 19 (.bin .lss 16 18) [16,18]] (.cond 19 .skip
 (.exit 0)))
(.seq (.blk 1 (rS [oM 22 0 [], oM 23 6 [], oO 24 (.iasl 1 22 23) [22,23], oO 25 (.load none 24) [24], oA 7 25 [25]] (rS [oM 26 1 [], oM 27 7 [], oO 28 (.callv 26 [27]) [26,27], oO 29 (.un .not 28) [28]] (.cond 29 (rS [oM 30 0 [], oM 31 5 [], oM 32 7 [7], oO 33 (.iasl 1 30 31) [30,31], oN (.store 1 33 32) [33,32]] (rR [oM 34 5 [5], oO 35 (.bin .add 34 (kI 1)) [34], oA 5 35 [35]]))
 .skip))))
(rR [oM 20 6 [6], oO 21 (.bin .add 20 (kI 1)) [20], oA 6 21 [21]]))))))
(rS [oM 36 0 [], oM 37 5 [], oO 38 (.slsl 1 36 (some 37) none none) [36,37], oN (.clear 1 [vS] 38) [38]] (rS [oM 39 0 [0], oM 40 5 [5], oO 41 (.slsl 1 39 none (some 40) none) [39,40], oA 4 41 [41]] .ret)))))), [.t 4]⟩
/-- slices.Clone   string string  -/
def f55 : AFn := ⟨1, (rS [oA 2 (.c .nils) [2]] (.seq (rS [oM 3 0 [], oO 4 (.eqn false 3 (.c .nils)) [3]] (.cond 4 (rS [oA 2 (.c .nils) []] .ret)
 .skip))
(rS [oO 5 (.bsl (.mu true) 1 0 [vS] []) [], oM 6 0 [0], oO 7 (.append (.mu true) 1 16 5 6) [5,6], oA 2 7 [7]] .ret))), [.t 2]⟩
/-- interrex/evict.Victims 3 -/
def f56 : AFn := ⟨2, (rS [oA 3 kF [3]] (rS [oM 4 0 [0], oO 5 (.faddr 0 1) [1], oO 6 (.load none 5) [5], oO 7 (.bin .eql 4 6) [4,6], oA 3 7 [7]] .ret)), [.t 3]⟩
/-- interrex/evict.Best -/
def f57 : AFn := ⟨2, (rS [oO 2 (.box false 0) [0], oO 3 (.box false 1) [1], oO 4 (.alloc false [vS,vS,.nils]) [], oA 5 kF [5]] (rS [oO 6 (.alloc false [vS,vS,.nils]) []] (rS [oO 7 (.alloc false [(vI 0),(vI 0),(vI 0)]) []] (rS [oA 8 kF []] (rS [oO 15 (.faddr 0 2) [], oO 16 (.load none 15) [15], oO 17 (.call 91 [16]) [16], oA 9 17 [17]] (rS [oM 18 9 [], oO 19 (.call 92 [18,(.c (.fn 93 [] []))]) [18,19]] (.seq (rS [oM 20 9 [9], oO 21 (.lenL 20) [], oM 22 (kI 0) []] (.blk 0 (.loop (rS [oO 23 (.bin .lss 22 21) []] (.seq (.cond 23 .skip
 (.exit 0))
(.seq (.blk 1 (rS [oO 24 (.iasl 6 20 22) [], oO 25 (.load (some 6) 24) [24], oO 11 (.alloc false [vS,(vI 0),(vI 0),(vI 0),.nils,.nils]) [], oN (.store 6 11 25) [25]] (rS [oO 27 (.load (some 2) 2) [], oO 28 (.load (some 16) 3) [], oO 29 (.faddr 0 11) [], oO 30 (.load none 29) [29], oO 31 (.call 15 [27,28,30]) [27,28,30], oM 26 31 [31], oO 32 (.ext 26 0) [], oO 33 (.ext 26 1) [26], oA 12 32 [32], oA 13 33 [33]] (.seq (rS [oM 34 13 [13], oO 35 (.un .not 34) [34]] (.cond 35 (.exit 1)
 .skip))
(rS [oO 36 (.load (some 2) 2) [], oM 37 12 [], oO 38 (.call 94 [36,37]) [36,37], oO 14 (.alloc false [(vI 0),(vI 0),(vI 0)]) [], oN (.store 3 14 38) [38]] (rS [oM 39 8 [], oO 40 (.un .not 39) [39], oM 41 40 [40], oH 42 (.load (some 3) 14) 41 [], oH 43 (.load (some 3) 7) 41 [], oH 44 (.call 95 [42,43]) 41 [42,43], oO 45 (.pick 41 kT 44) [41,44]] (.cond 45 (.dreg [⟨0, (oO 46 (.faddr 0 3) []), false, []⟩,
 ⟨1, (oO 47 (.load none 46) []), false, []⟩,
 ⟨2, (oO 48 (.faddr 0 11) []), false, []⟩,
 ⟨3, (oO 49 (.load none 48) []), false, []⟩,
 ⟨4, (oM 50 12 []), false, []⟩,
 ⟨5, (oO 51 (.bld [vS,vS,.nils] [(0, 1, 47),(1, 1, 49),(2, 1, 50)]) []), false, []⟩,
 ⟨6, (oO 52 (.load (some 3) 14) []), false, []⟩,
 ⟨7, (oN (.store 3 6 51) []), true, [6]⟩,
 ⟨8, (oN (.store 3 7 52) []), true, []⟩,
 ⟨9, (oA 8 kT []), false, []⟩] [46,47,11,48,49,12,50,51,14,52])
 .skip)))))))
(rR [oO 53 (.bin .add 22 (kI 1)) [22], oM 22 53 [53]])))))))
(rS [oO 54 (.load (some 3) 6) [6], oM 55 8 [8], oN (.store 3 4 54) [54], oA 5 55 [55]] .ret)))))))), [.cell 4 (some 3),.t 5]⟩
/-- interrex/state.Eq -/
def f58 : AFn := ⟨2, (rS [oO 2 (.box false 0) [0], oO 3 (.box false 1) [1], oA 4 kF [4]] (rS [oO 5 (.faddr 0 2) [], oO 6 (.load none 5) [5], oO 7 (.faddr 0 3) [], oO 8 (.load none 7) [7], oO 9 (.call 96 [6,8,(.c (.fn 97 [] []))]) [6,8], oM 10 9 [9], oG 11 (.faddr 1 2) 10 [2], oG 12 (.load none 11) 10 [11], oG 13 (.faddr 1 3) 10 [3], oG 14 (.load none 13) 10 [13], oG 15 (.call 98 [12,14,(.c (.fn 99 [] []))]) 10 [12,14], oO 16 (.pick 10 15 kF) [10,15], oA 4 16 [16]] .ret)), [.t 4]⟩
/-- interrex/state.Pending -/
def f59 : AFn := ⟨1, (rS [oO 1 (.box false 0) [0], oA 2 (.c .nils) [2]] (rS [oA 3 (.c .nils) []] (.seq (rS [oO 6 (.faddr 1 1) [1], oO 7 (.load none 6) [6], oO 8 (.lenL 7) [], oM 9 (kI 0) []] (.blk 0 (.loop (rS [oO 10 (.bin .lss 9 8) []] (.seq (.cond 10 .skip
 (.exit 0))
(.seq (.blk 1 (rS [oO 11 (.iasl 16 7 9) [], oO 12 (.load (some 16) 11) [11], oO 5 (.alloc false [vS,(vI 0),(vI 0),(vI 0),(vI 0),(vI 0),.nils,.nils,.nils,.nils,vS,.nils,(vI 0),.nils,vS,(vI 0)]) [], oN (.store 16 5 12) [12]] (rS [oO 13 (.faddr 14 5) [], oO 14 (.load none 13) [13], oO 15 (.bin .eql 14 (.c vS)) [14]] (.cond 15 (rR [oM 16 3 [3], oO 17 (.load (some 16) 5) [5], oO 18 (.call 27 [17]) [17], oO 19 (.bsl (.mu true) 16 1 [vS,(vI 0),(vI 0),(vI 0),(vI 0),(vI 0),.nils,.nils,.nils,.nils,vS,.nils,(vI 0),.nils,vS,(vI 0)] [(0, 18)]) [18], oO 20 (.append (.mu true) 16 248 16 19) [16,19], oA 3 20 [20]])
 .skip))))
(rR [oO 21 (.bin .add 9 (kI 1)) [9], oM 9 21 [21]])))))))
(rS [oM 22 3 [], oO 23 (.call 51 [22,(.c (.fn 100 [] []))]) [22,23]] (rS [oM 24 3 [3], oA 2 24 [24]] .ret))))), [.t 2]⟩
/-- ( interrex/queue.one).come -/
def f60 : AFn := ⟨2, (rS [oA 4 kF [4]] (rS [oM 5 0 [], oO 6 (.nilc 5) [5], oO 7 (.faddr 17 6) [6], oO 8 (.load none 7) [7], oO 9 (.bin .eql 8 (kI 0)) [8], oM 10 9 [9], oH 11 (.mv 1) 10 [1], oH 12 (.mv 0) 10 [0], oH 13 (.nilc 12) 10 [12], oH 14 (.faddr 18 13) 10 [13], oH 15 (.load none 14) 10 [14], oH 16 (.bin .geq 11 15) 10 [11,15], oO 17 (.pick 10 kT 16) [10,16], oA 4 17 [17]] .ret)), [.t 4]⟩
/-- interrex/score.Score -/
def f61 : AFn := ⟨4, (rS [oO 4 (.box false 0) [0], oO 5 (.box false 1) [1], oA 8 (kI 0) [8]] (.seq (rS [oO 21 (.load (some 2) 4) [], oO 22 (.load (some 16) 5) [], oM 23 2 [], oO 24 (.call 12 [21,22,23]) [21,22,23], oO 25 (.un .not 24) [24]] (.cond 25 (rS [oA 8 (kI (-1)) []] .ret)
 .skip))
(rS [oO 27 (.load (some 2) 4) [], oM 28 2 [], oO 29 (.call 13 [27,28]) [27,28], oM 26 29 [29], oO 30 (.ext 26 0) [], oO 31 (.ext 26 1) [26], oO 9 (.alloc false [vS,(vI 0),(vI 0),(vI 0),.nils,.nils]) [], oN (.store 6 9 30) [30], oA 10 31 [31,10]] (rS [oO 33 (.load (some 2) 4) [], oM 34 2 [], oO 35 (.call 39 [33,34]) [33,34], oM 32 35 [35], oO 36 (.ext 32 0) [], oO 37 (.ext 32 1) [32], oO 11 (.alloc false [(vI 0),(vI 0),(vI 0)]) [], oN (.store 3 11 36) [36], oA 12 37 [37,12]] (rS [oO 39 (.load (some 3) 11) [11], oO 40 (.faddr 3 5) [5], oO 41 (.load (some 3) 40) [40], oO 42 (.call 81 [39,41]) [39,41], oM 38 42 [42], oO 43 (.ext 38 0) [], oO 44 (.ext 38 1) [38], oO 13 (.alloc false [(vI 0),(vI 0),(vI 0)]) [], oN (.store 3 13 43) [43], oA 14 44 [44,14]] (rS [oA 15 (kI 0) [], oA 16 (kI 100) [], oA 17 (kI 0) []] (.seq (rS [oO 45 (.faddr 1 9) [9], oO 46 (.load (some 3) 45) [45], oM 47 (kI 0) []] (.blk 0 (.loop (rS [oO 48 (.bin .lss 47 (kI 3)) []] (.seq (.cond 48 .skip
 (.exit 0))
(.seq (.blk 1 (rS [oM 49 47 [], oO 50 (.ixa 3 1 none 46 47) [], oA 18 49 [49], oA 19 50 [50]] (.seq (rS [oM 51 19 [], oO 52 (.bin .leq 51 (kI 0)) [51]] (.cond 52 (.exit 1)
 .skip))
(rS [oM 53 18 [18], oO 54 (.iaar 3 1 13 53) [53], oO 55 (.load none 54) [54], oM 56 19 [19], oO 57 (.call 102 [55,56]) [55,56], oA 20 57 [57]] (rS [oM 58 16 [16], oM 59 20 [], oO 60 (.mnmx false [58,59]) [58,59], oM 61 17 [17], oM 62 20 [], oO 63 (.mnmx true [61,62]) [61,62], oA 16 60 [60], oA 17 63 [63]] (rS [oM 64 3 []] (.cond 64 (rR [oM 65 15 [15], oM 66 20 [20], oO 67 (.bin .add 65 66) [65,66], oA 15 67 [67]])
 (rR [oM 68 15 [15], oM 69 20 [20], oO 70 (.bin .sub (kI 100) 69) [69], oO 71 (.bin .add 68 70) [68,70], oA 15 71 [71]]))))))))
(rR [oO 72 (.bin .add 47 (kI 1)) [47], oM 47 72 [72]])))))))
(rS [oM 73 15 [15], oO 74 (.bin .add 73 (kI 100)) [73], oM 75 17 [17], oM 76 16 [16], oO 77 (.bin .sub 75 76) [75,76], oO 78 (.mnmx true [77,(kI 0)]) [77], oO 79 (.bin .sub 74 78) [74,78], oO 80 (.load (some 2) 4) [4], oM 81 2 [2], oO 82 (.call 42 [80,81]) [80,81], oO 83 (.lenL 82) [82], oO 84 (.bin .sub (kI 10) 83) [83], oO 85 (.mnmx true [84,(kI 0)]) [84], oO 86 (.bin .add 79 85) [79,85], oA 8 86 [86]] .ret)))))))), [.t 8]⟩
/-- interrex/interrexlaw10.begun -/
def f62 : AFn := ⟨0, (rS [oA 0 kF [0]] (rS [oO 17 (.call 103 [(kI 2)]) [], oO 18 (.call 104 [(kI 3)]) [], oO 19 (.call 105 []) [], oO 20 (.call 106 [(kI 1)]) [], oO 21 (.call 107 []) [], oO 22 (.call 108 [(kI 1)]) [], oA 1 17 [17], oA 2 18 [18], oA 3 19 [19], oA 4 20 [20], oA 5 21 [21], oA 6 22 [22]] (.seq (rS [oM 23 1 [], oO 24 (.eqn false 23 (.c .nilp)) [23], oM 25 24 [24], oH 26 (.mv 2) 25 [], oH 27 (.eqn false 26 (.c .nilp)) 25 [26], oO 28 (.pick 25 kT 27) [25,27], oM 29 28 [28], oH 30 (.mv 3) 29 [], oH 31 (.eqn false 30 (.c .nilp)) 29 [30], oO 32 (.pick 29 kT 31) [29,31], oM 33 32 [32], oH 34 (.mv 4) 33 [], oH 35 (.eqn false 34 (.c .nilp)) 33 [34], oO 36 (.pick 33 kT 35) [33,35], oM 37 36 [36], oH 38 (.mv 5) 37 [], oH 39 (.eqn false 38 (.c .nilp)) 37 [38], oO 40 (.pick 37 kT 39) [37,39], oM 41 40 [40], oH 42 (.mv 6) 41 [], oH 43 (.eqn false 42 (.c .nilp)) 41 [42], oO 44 (.pick 41 kT 43) [41,43]] (.cond 44 (rS [oA 0 kF []] .ret)
 .skip))
(rS [oM 45 1 [], oO 46 (.bsl (.im false) 1 2 [(vI 0)] [(0, (kI 5)),(1, (kI 9))]) [], oO 47 (.call 109 [45,46]) [45,46], oA 7 47 [47]] (rS [oM 48 2 [], oO 49 (.bsl (.im false) 1 1 [(.i .u8 0)] [(0, (.c (.i .u8 120)))]) [], oO 50 (.mkb 49) [49], oO 51 (.bld [(.b false),(vI 0),.nils] [(1, 1, (kI 1)),(2, 1, 50)]) [50], oO 52 (.call 110 [48,51]) [48,51], oA 8 52 [52]] (rS [oM 54 4 [], oO 55 (.call 111 [54,(kI 0)]) [54], oM 53 55 [55], oO 56 (.ext 53 0) [], oO 57 (.ext 53 1) [53], oO 9 (.alloc false [(vI 0),(vI 0),(vI 0),vS,(vI 0),.nils,.nils]) [], oN (.store 7 9 56) [56], oA 10 57 [57]] (.seq (.dreg [⟨0, (oM 58 4 []), false, []⟩,
 ⟨1, (oO 59 (.faddr 1 9) []), false, []⟩,
 ⟨2, (oO 60 (.load none 59) []), false, []⟩,
 ⟨3, (oO 61 (.bld [(vI 0),(vI 0)] [(0, 1, (kI 1)),(1, 1, (kI 1000))]) []), false, []⟩,
 ⟨4, (oO 62 (.call 113 [61]) []), true, [2]⟩,
 ⟨5, (oO 63 (.bld [vS,(vI 0),.nils] [(0, 1, (.c (.s [108]))),(1, 1, (kI 2)),(2, 1, 62)]) []), false, []⟩,
 ⟨6, (oO 64 (.bsl (.im false) 3 1 [vS,(vI 0),.nils] [(0, 63)]) []), true, [2]⟩,
 ⟨7, (oO 65 (.bld [(vI 0),(vI 0),(vI 0),(vI 0),(vI 0),.nils,.nils] [(0, 1, (kI 1)),(1, 1, 60),(2, 1, (kI 2)),(4, 1, (kI 4)),(5, 1, 64)]) []), false, []⟩,
 ⟨8, (oO 66 (.call 112 [58,65]) []), true, []⟩,
 ⟨9, (oA 11 66 []), false, []⟩] [58,59,60,61,62,63,64,65,66])
(rS [oM 67 5 [], oO 68 (.bld [vS,vS,.nils] [(0, 1, (.c (.s [97]))),(1, 1, (.c (.s [110])))]) [], oO 69 (.call 114 [67,68,(kI 7),(kI 3),(kI 100)]) [67,68], oA 12 69 [69]] (rS [oM 70 6 [], oO 71 (.bld [(vI 0),(vI 0)] []) [], oO 72 (.call 115 [70,(kI 0),(kI 0),71,kF]) [70,71,72]] (rS [oM 74 6 [], oO 75 (.call 116 [74,(kI 10)]) [74], oM 73 75 [75], oO 76 (.ext 73 0) [], oO 77 (.ext 73 1) [73], oO 13 (.alloc false [.nils,.nils]) [], oN (.store 2 13 76) [76], oA 14 77 [77]] (rS [oM 78 6 [], oO 79 (.call 117 [78,(kI 20),(kI 6),(kI 0)]) [78,79]] (rS [oO 81 (.call 120 []) [], oO 82 (.call 119 [81]) [81], oO 83 (.bld [vS,(vI 0),.nils] [(0, 1, (.c (.s [112,47,97]))),(1, 1, (kI 1)),(2, 1, 82)]) [82], oO 84 (.bsl (.im false) 3 1 [vS,(vI 0),.nils] [(0, 83)]) [83], oO 85 (.call 118 [84]) [84], oM 80 85 [85], oO 86 (.ext 80 0) [], oO 87 (.ext 80 1) [80], oO 15 (.alloc false [.nils,.nils]) [], oN (.store 2 15 86) [86], oA 16 87 [87]] (rS [oO 88 (.call 121 []) [], oM 89 88 [88], oG 90 (.mv 7) 89 [7], oO 91 (.pick 89 90 kF) [89,90], oM 92 91 [91], oG 93 (.mv 1) 92 [], oG 94 (.call 122 [93,(kI 1)]) 92 [93], oG 95 (.bin .eql 94 (kI 9)) 92 [94], oO 96 (.pick 92 95 kF) [92,95], oM 97 96 [96], oG 98 (.mv 1) 97 [1], oG 99 (.call 123 [98]) 97 [98], oG 100 (.bin .eql 99 (kI 4)) 97 [99], oO 101 (.pick 97 100 kF) [97,100], oM 102 101 [101], oG 103 (.mv 8) 102 [8], oO 104 (.pick 102 103 kF) [102,103], oM 105 104 [104], oG 106 (.mv 2) 105 [2], oG 107 (.call 124 [106]) 105 [106], oG 108 (.bin .eql 107 (kI 1)) 105 [107], oO 109 (.pick 105 108 kF) [105,108], oM 110 109 [109], oG 111 (.mv 10) 110 [10], oO 112 (.pick 110 111 kF) [110,111], oM 113 112 [112], oG 114 (.faddr 2 9) 113 [9], oG 115 (.load none 114) 113 [114], oG 116 (.bin .eql 115 (kI 2)) 113 [115], oO 117 (.pick 113 116 kF) [113,116], oM 118 117 [117], oG 119 (.mv 11) 118 [11], oO 120 (.pick 118 119 kF) [118,119], oM 121 120 [120], oG 122 (.mv 4) 121 [], oG 123 (.call 125 [122]) 121 [122], oG 124 (.call 126 [123]) 121 [123], oG 125 (.bin .eql 124 (kI 4)) 121 [124], oO 126 (.pick 121 125 kF) [121,125], oM 127 126 [126], oG 128 (.mv 4) 127 [4], oG 129 (.call 127 [128]) 127 [128], oG 130 (.bin .eql 129 (kI 1)) 127 [129], oO 131 (.pick 127 130 kF) [127,130], oM 132 131 [131], oG 133 (.mv 12) 132 [12], oO 134 (.pick 132 133 kF) [132,133], oM 135 134 [134], oG 136 (.mv 5) 135 [5], oG 137 (.call 128 [136,(.c (.s [97]))]) 135 [136], oO 138 (.pick 135 137 kF) [135,137], oM 139 138 [138], oG 140 (.mv 14) 139 [14], oO 141 (.pick 139 140 kF) [139,140], oM 142 141 [141], oG 143 (.faddr 1 13) 142 [13], oG 144 (.load none 143) 142 [143], oG 145 (.lenL 144) 142 [144], oG 146 (.bin .eql 145 (kI 1)) 142 [145], oO 147 (.pick 142 146 kF) [142,146], oM 148 147 [147], oG 149 (.mv 6) 148 [], oG 150 (.call 129 [149,(kI 20)]) 148 [149], oO 151 (.pick 148 150 kF) [148,150], oM 152 151 [151], oG 153 (.mv 6) 152 [6], oG 154 (.call 130 [153]) 152 [153], oG 155 (.bin .eql 154 (kI 6)) 152 [154], oO 156 (.pick 152 155 kF) [152,155], oM 157 156 [156], oG 158 (.call 131 [(kI 0)]) 157 [], oG 159 (.bin .eql 158 (kI 900)) 157 [158], oO 160 (.pick 157 159 kF) [157,159], oM 161 160 [160], oG 162 (.mv 16) 161 [16], oO 163 (.pick 161 162 kF) [161,162], oM 164 163 [163], oG 165 (.faddr 1 15) 164 [15], oG 166 (.load none 165) 164 [165], oG 167 (.lenL 166) 164 [166], oG 168 (.bin .eql 167 (kI 1)) 164 [167], oO 169 (.pick 164 168 kF) [164,168], oM 170 169 [169], oG 171 (.mv 3) 170 [3], oG 172 (.call 126 [171]) 170 [171], oG 173 (.bin .eql 172 (kI (-1))) 170 [172], oO 174 (.pick 170 173 kF) [170,173], oA 0 174 [174]] .ret))))))))))))), [.t 0]⟩
/-- slices.ContainsFunc   int int  -/
def f63 : AFn := ⟨2, (rS [oA 4 kF [4]] (rS [oM 5 0 [0], oM 6 1 [1], oO 7 (.call 132 [5,6]) [5,6], oO 8 (.bin .geq 7 (kI 0)) [7], oA 4 8 [8]] .ret)), [.t 4]⟩
/-- interrex/fits.Ports 1 -/
def f64 : AFn := ⟨2, (rS [oA 3 kF [3]] (rS [oO 4 (.faddr 6 1) [1], oO 5 (.load none 4) [4], oM 6 0 [0], oO 7 (.call 65 [5,6]) [5,6], oA 3 7 [7]] .ret)), [.t 3]⟩
/-- slices.Contains   int int  -/
def f65 : AFn := ⟨2, (rS [oA 4 kF [4]] (rS [oM 5 0 [0], oM 6 1 [1], oO 7 (.call 133 [5,6]) [5,6], oO 8 (.bin .geq 7 (kI 0)) [7], oA 4 8 [8]] .ret)), [.t 4]⟩
/-- interrex/topo.domain -/
def f66 : AFn := ⟨3, (rS [oO 3 (.box false 0) [0], oA 6 (.c vS) [6], oA 7 kF [7]] (.seq (rS [oO 10 (.faddr 0 3) [3], oO 11 (.load none 10) [10], oO 12 (.lenL 11) [], oM 13 (kI 0) []] (.blk 0 (.loop (rS [oO 14 (.bin .lss 13 12) []] (.seq (.cond 14 .skip
 (.exit 0))
(.seq (.blk 1 (rS [oO 15 (.iasl 6 11 13) [], oO 16 (.load (some 6) 15) [15], oO 9 (.alloc false [vS,(vI 0),(vI 0),(vI 0),.nils,.nils]) [], oN (.store 6 9 16) [16]] (rS [oO 17 (.faddr 0 9) [], oO 18 (.load none 17) [17], oM 19 2 [], oO 20 (.bin .eql 18 19) [18,19]] (.cond 20 (rS [oO 21 (.faddr 4 9) [9], oO 22 (.load none 21) [21], oM 23 1 [1], oO 24 (.call 86 [22,23]) [22,23], oO 25 (.ext 24 0) [], oO 26 (.ext 24 1) [24], oA 6 25 [25], oA 7 26 [26]] .ret)
 .skip))))
(rR [oO 27 (.bin .add 13 (kI 1)) [13], oM 13 27 [27]])))))))
(rS [oA 6 (.c vS) [], oA 7 kF []] .ret))), [.t 6,.t 7]⟩
/-- interrex/interrexref1.MayTaints -/
def f67 : AFn := ⟨1, (rS [oA 2 kF [2]] (.seq (rS [oM 4 0 [], oO 5 (.lenL 4) [4], oM 6 (kI 0) []] (.blk 0 (.loop (rS [oO 7 (.bin .lss 6 5) []] (.seq (.cond 7 .skip
 (.exit 0))
(.seq (.blk 1 (rS [oM 8 6 [], oA 3 8 [8]] (.seq (.dreg [⟨0, (oM 9 0 []), false, []⟩,
 ⟨1, (oM 10 3 []), false, []⟩,
 ⟨2, (oO 11 (.iasl 2 9 10) []), false, []⟩,
 ⟨3, (oO 12 (.faddr 0 11) []), false, []⟩,
 ⟨4, (oO 13 (.load none 12) []), false, []⟩,
 ⟨5, (oO 14 (.call 28 [13]) []), true, []⟩,
 ⟨6, (oO 15 (.un .not 14) []), false, []⟩,
 ⟨7, (oM 16 15 []), false, []⟩,
 ⟨8, (oH 17 (.mv 0) 16 []), false, []⟩,
 ⟨9, (oH 18 (.mv 3) 16 []), false, []⟩,
 ⟨10, (oH 19 (.iasl 2 17 18) 16 []), false, []⟩,
 ⟨11, (oH 20 (.faddr 1 19) 16 []), false, []⟩,
 ⟨12, (oH 21 (.load none 20) 16 []), false, []⟩,
 ⟨13, (oH 22 (.call 28 [21]) 16 []), true, []⟩,
 ⟨14, (oH 23 (.un .not 22) 16 []), false, []⟩,
 ⟨15, (oO 24 (.pick 16 kT 23) []), false, []⟩,
 ⟨16, (oM 25 24 []), false, []⟩,
 ⟨17, (oH 26 (.mv 3) 25 []), false, []⟩,
 ⟨18, (oH 27 (.bin .gtr 26 (kI 0)) 25 []), false, []⟩,
 ⟨19, (oH 28 (.mv 27) 25 []), false, []⟩,
 ⟨20, (oG 29 (.mv 0) 28 []), false, []⟩,
 ⟨21, (oG 30 (.mv 3) 28 []), false, []⟩,
 ⟨22, (oG 31 (.bin .sub 30 (kI 1)) 28 []), false, []⟩,
 ⟨23, (oG 32 (.iasl 2 29 31) 28 []), false, []⟩,
 ⟨24, (oG 33 (.faddr 0 32) 28 []), false, []⟩,
 ⟨25, (oG 34 (.load none 33) 28 []), false, []⟩,
 ⟨26, (oG 35 (.mv 0) 28 []), false, []⟩,
 ⟨27, (oG 36 (.mv 3) 28 []), false, []⟩,
 ⟨28, (oG 37 (.iasl 2 35 36) 28 []), false, []⟩,
 ⟨29, (oG 38 (.faddr 0 37) 28 []), false, []⟩,
 ⟨30, (oG 39 (.load none 38) 28 []), false, []⟩,
 ⟨31, (oG 40 (.bin .geq 34 39) 28 []), false, []⟩,
 ⟨32, (oH 41 (.pick 28 40 kF) 25 []), false, []⟩,
 ⟨33, (oO 42 (.pick 25 kT 41) []), false, []⟩] [9,3,10,11,12,13,14,15,16,17,18,19,20,21,22,23,24,25,26,27,28,29,30,31,32,33,34,35,36,37,38,39,40,41])
(.cond 42 (rS [oA 2 kF []] .ret)
 .skip))))
(rR [oO 43 (.bin .add 6 (kI 1)) [6], oM 6 43 [43]])))))))
(rS [oM 44 0 [0], oO 45 (.lenL 44) [44], oO 46 (.bin .leq 45 (kI 6)) [45], oA 2 46 [46]] .ret))), [.t 2]⟩
/-- interrex/interrexref15.Pod -/
def f68 : AFn := ⟨2, (rS [oO 2 (.box false 0) [0], oO 4 (.alloc false [vS,(vI 0),(vI 0),(vI 0),(vI 0),(vI 0),.nils,.nils,.nils,.nils,vS,.nils,(vI 0),.nils,vS,(vI 0)]) [], oA 5 kF [5]] (.seq (rS [oO 7 (.faddr 1 2) [], oO 8 (.load none 7) [7], oO 9 (.lenL 8) [8], oM 10 (kI 0) []] (.blk 0 (.loop (rS [oO 11 (.bin .lss 10 9) []] (.seq (.cond 11 .skip
 (.exit 0))
(.seq (.blk 1 (rS [oM 12 10 [], oA 6 12 [12]] (rS [oO 13 (.faddr 1 2) [], oO 14 (.load none 13) [13], oM 15 6 [], oO 16 (.iasl 16 14 15) [14,15], oO 17 (.faddr 0 16) [16], oO 18 (.load none 17) [17], oM 19 1 [], oO 20 (.bin .eql 18 19) [18,19]] (.cond 20 (rS [oO 21 (.faddr 1 2) [2], oO 22 (.load none 21) [21], oM 23 6 [6], oO 24 (.iasl 16 22 23) [22,23], oO 25 (.load (some 16) 24) [24], oN (.store 16 4 25) [25], oA 5 kT []] .ret)
 .skip))))
(rR [oO 26 (.bin .add 10 (kI 1)) [10], oM 10 26 [26]])))))))
(rS [oO 27 (.bld [vS,(vI 0),(vI 0),(vI 0),(vI 0),(vI 0),.nils,.nils,.nils,.nils,vS,.nils,(vI 0),.nils,vS,(vI 0)] []) [], oN (.store 16 4 27) [27], oA 5 kF []] .ret))), [.cell 4 (some 16),.t 5]⟩
/-- slices.Clone   int int  -/
def f69 : AFn := ⟨1, (rS [oA 2 (.c .nils) [2]] (.seq (rS [oM 3 0 [], oO 4 (.eqn false 3 (.c .nils)) [3]] (.cond 4 (rS [oA 2 (.c .nils) []] .ret)
 .skip))
(rS [oO 5 (.bsl (.im false) 1 0 [(vI 0)] []) [], oM 6 0 [0], oO 7 (.append (.im false) 1 8 5 6) [5,6], oA 2 7 [7]] .ret))), [.t 2]⟩
/-- slices.Clone   interrex/api.Pair interrex/api.Pair  -/
def f70 : AFn := ⟨1, (rS [oA 2 (.c .nils) [2]] (.seq (rS [oM 3 0 [], oO 4 (.eqn false 3 (.c .nils)) [3]] (.cond 4 (rS [oA 2 (.c .nils) []] .ret)
 .skip))
(rS [oO 5 (.bsl (.im false) 2 0 [vS,vS] []) [], oM 6 0 [0], oO 7 (.append (.im false) 2 32 5 6) [5,6], oA 2 7 [7]] .ret))), [.t 2]⟩
/-- slices.Clone   interrex/api.Toler interrex/api.Toler  -/
def f71 : AFn := ⟨1, (rS [oA 2 (.c .nils) [2]] (.seq (rS [oM 3 0 [], oO 4 (.eqn false 3 (.c .nils)) [3]] (.cond 4 (rS [oA 2 (.c .nils) []] .ret)
 .skip))
(rS [oO 5 (.bsl (.im false) 3 0 [vS,vS,(.b false)] []) [], oM 6 0 [0], oO 7 (.append (.im false) 3 40 5 6) [5,6], oA 2 7 [7]] .ret))), [.t 2]⟩
/-- interrex/obj.copyTerms -/
def f72 : AFn := ⟨1, (rS [oA 2 (.c .nils) [2]] (rS [oM 5 0 [0], oO 6 (.call 134 [5]) [5], oA 3 6 [6]] (.seq (rS [oM 7 3 [], oO 8 (.lenL 7) [7], oM 9 (kI 0) []] (.blk 0 (.loop (rS [oO 10 (.bin .lss 9 8) []] (.seq (.cond 10 .skip
 (.exit 0))
(.seq (.blk 1 (rS [oM 11 9 [], oA 4 11 [11]] (rR [oM 12 3 [], oM 13 4 [], oM 14 3 [], oM 15 4 [4], oO 16 (.iasl 3 14 15) [14,15], oO 17 (.faddr 2 16) [16], oO 18 (.load none 17) [17], oO 19 (.call 55 [18]) [18], oO 20 (.iasl 3 12 13) [12,13], oO 21 (.faddr 2 20) [20], oN (.store 1 21 19) [21,19]])))
(rR [oO 22 (.bin .add 9 (kI 1)) [9], oM 9 22 [22]])))))))
(rS [oM 23 3 [3], oA 2 23 [23]] .ret)))), [.t 2]⟩
/-- slices.pdqsortCmpFunc string  -/
def f73 : AFn := ⟨5, (rS [oA 10 kT []] (rS [oA 11 kT []] (.blk 0 (.loop (.blk 1 (rS [oM 21 2 [], oM 22 1 [], oO 23 (.bin .sub 21 22) [21,22], oA 12 23 [23]] (.seq (rS [oM 24 12 [], oO 25 (.bin .leq 24 (kI 12)) [24]] (.cond 25 (rS [oM 26 0 [0], oM 27 1 [1], oM 28 2 [2], oM 29 4 [4], oO 30 (.call 135 [26,27,28,29]) [26,27,28,29,30]] .ret)
 .skip))
(.seq (rS [oM 31 3 [], oO 32 (.bin .eql 31 (kI 0)) [31]] (.cond 32 (rS [oM 33 0 [0], oM 34 1 [1], oM 35 2 [2], oM 36 4 [4], oO 37 (.call 136 [33,34,35,36]) [33,34,35,36,37]] .ret)
 .skip))
(.seq (rS [oM 38 10 [], oO 39 (.un .not 38) [38]] (.cond 39 (rS [oM 40 0 [], oM 41 1 [], oM 42 2 [], oM 43 4 [], oO 44 (.call 137 [40,41,42,43]) [40,41,42,43,44]] (rR [oM 45 3 [3], oO 46 (.bin .sub 45 (kI 1)) [45], oA 3 46 [46]]))
 .skip))
(rS [oM 48 0 [], oM 49 1 [], oM 50 2 [], oM 51 4 [], oO 52 (.call 138 [48,49,50,51]) [48,49,50,51], oM 47 52 [52], oO 53 (.ext 47 0) [], oO 54 (.ext 47 1) [47], oA 13 53 [53], oA 14 54 [54]] (.seq (rS [oM 55 14 [], oO 56 (.bin .eql 55 (kI 2)) [55]] (.cond 56 (rS [oM 57 0 [], oM 58 1 [], oM 59 2 [], oM 60 4 [], oO 61 (.call 139 [57,58,59,60]) [57,58,59,60,61]] (rS [oM 62 2 [], oO 63 (.bin .sub 62 (kI 1)) [62], oM 64 13 [13], oM 65 1 [], oO 66 (.bin .sub 64 65) [64,65], oO 67 (.bin .sub 63 66) [63,66], oA 13 67 [67]] (rR [oA 14 (kI 1) []])))
 .skip))
(.seq (rS [oM 68 10 [], oM 69 68 [68], oG 70 (.mv 11) 69 [], oO 71 (.pick 69 70 kF) [69,70], oM 72 71 [71], oG 73 (.mv 14) 72 [14], oG 74 (.bin .eql 73 (kI 1)) 72 [73], oO 75 (.pick 72 74 kF) [72,74]] (.cond 75 (rS [oM 76 0 [], oM 77 1 [], oM 78 2 [], oM 79 4 [], oO 80 (.call 140 [76,77,78,79]) [76,77,78,79]] (.cond 80 .ret
 .skip))
 .skip))
(.seq (.seq (.dreg [⟨0, (oM 81 1 []), false, []⟩,
 ⟨1, (oO 82 (.bin .gtr 81 (kI 0)) []), false, []⟩,
 ⟨2, (oM 83 82 []), false, []⟩,
 ⟨3, (oG 84 (.mv 4) 83 []), false, []⟩,
 ⟨4, (oG 85 (.mv 0) 83 []), false, []⟩,
 ⟨5, (oG 86 (.mv 1) 83 []), false, []⟩,
 ⟨6, (oG 87 (.bin .sub 86 (kI 1)) 83 []), false, []⟩,
 ⟨7, (oG 88 (.iasl 1 85 87) 83 []), false, []⟩,
 ⟨8, (oG 89 (.load none 88) 83 []), false, []⟩,
 ⟨9, (oG 90 (.mv 0) 83 []), false, []⟩,
 ⟨10, (oG 91 (.mv 13) 83 []), false, []⟩,
 ⟨11, (oG 92 (.iasl 1 90 91) 83 []), false, []⟩,
 ⟨12, (oG 93 (.load none 92) 83 []), false, []⟩,
 ⟨13, (oG 94 (.callv 84 [89,93]) 83 []), true, []⟩,
 ⟨14, (oG 95 (.bin .lss 94 (kI 0)) 83 []), false, []⟩,
 ⟨15, (oG 96 (.un .not 95) 83 []), false, []⟩,
 ⟨16, (oO 97 (.pick 83 96 kF) []), false, []⟩] [81,82,83,84,85,86,87,88,89,90,91,92,93,94,95,96])
(.cond 97 (rS [oM 98 0 [], oM 99 1 [1], oM 100 2 [], oM 101 13 [13], oM 102 4 [], oO 103 (.call 141 [98,99,100,101,102]) [98,99,100,101,102], oA 15 103 [103]] (rS [oM 104 15 [15], oA 1 104 [104]] (.exit 1)))
 .skip))
(rS [oM 106 0 [], oM 107 1 [], oM 108 2 [], oM 109 13 [13], oM 110 4 [], oO 111 (.call 142 [106,107,108,109,110]) [106,107,108,109,110], oM 105 111 [111], oO 112 (.ext 105 0) [], oO 113 (.ext 105 1) [105], oA 16 112 [112], oA 17 113 [113]] (rS [oM 114 17 [17], oA 11 114 [114]] (rS [oM 115 16 [], oM 116 1 [], oO 117 (.bin .sub 115 116) [115,116], oM 118 2 [], oM 119 16 [], oO 120 (.bin .sub 118 119) [118,119], oA 18 117 [117], oA 19 120 [120]] (rS [oM 121 12 [12], oO 122 (.bin .quo 121 (kI 8)) [121], oA 20 122 [122]] (rS [oM 123 18 [], oM 124 19 [], oO 125 (.bin .lss 123 124) [123,124]] (.cond 125 (rS [oM 126 18 [18], oM 127 20 [20], oO 128 (.bin .geq 126 127) [126,127], oA 10 128 [128]] (rS [oM 129 0 [], oM 130 1 [1], oM 131 16 [], oM 132 3 [], oM 133 4 [], oO 134 (.call 73 [129,130,131,132,133]) [129,130,131,132,133,134]] (rR [oM 135 16 [16], oO 136 (.bin .add 135 (kI 1)) [135], oA 1 136 [136]])))
 (rS [oM 137 19 [19], oM 138 20 [20], oO 139 (.bin .geq 137 138) [137,138], oA 10 139 [139]] (rS [oM 140 0 [], oM 141 16 [], oO 142 (.bin .add 141 (kI 1)) [141], oM 143 2 [2], oM 144 3 [], oM 145 4 [], oO 146 (.call 73 [140,142,143,144,145]) [140,142,143,144,145,146]] (rR [oM 147 16 [16], oA 2 147 [147]])))))))))))))))))))))), []⟩
/-- math/bits.Len -/
def f74 : AFn := ⟨1, (rS [oA 2 (kI 0) [2]] (.seq (.cond kF (rS [oM 3 0 [0], oO 4 (.cvi .u32 3) [3], oO 5 (.call 143 [4]) [4], oA 2 5 [5]] .ret)
 .skip)
(rS [oM 6 0 [0], oO 7 (.call 144 [6]) [6], oA 2 7 [7]] .ret))), [.t 2]⟩
/-- internal/bytealg.CompareString -/
def f75 : AFn := ⟨2, (rS [oA 4 (kI 0) [4]] (rS [oM 5 0 [0], oM 6 1 [1], oO 7 (.call 145 [5,6]) [5,6], oA 4 7 [7]] .ret)), [.t 4]⟩
/-- interrex/state.nodes -/
def f76 : AFn := ⟨1, (rS [oO 1 (.box false 0) [0], oA 2 (.c .nils) [2]] (rS [oA 3 (.c .nils) []] (.seq (rS [oO 6 (.faddr 0 1) [1], oO 7 (.load none 6) [6], oO 8 (.lenL 7) [], oM 9 (kI 0) []] (.blk 0 (.loop (rS [oO 10 (.bin .lss 9 8) []] (.seq (.cond 10 .skip
 (.exit 0))
(.seq (.blk 1 (rS [oO 11 (.iasl 6 7 9) [], oO 12 (.load (some 6) 11) [11], oO 5 (.alloc false [vS,(vI 0),(vI 0),(vI 0),.nils,.nils]) [], oN (.store 6 5 12) [12]] (rR [oM 13 3 [3], oO 14 (.load (some 6) 5) [5], oO 15 (.call 48 [14]) [14], oO 16 (.bsl (.im false) 6 1 [vS,(vI 0),(vI 0),(vI 0),.nils,.nils] [(0, 15)]) [15], oO 17 (.append (.im false) 6 88 13 16) [13,16], oA 3 17 [17]])))
(rR [oO 18 (.bin .add 9 (kI 1)) [9], oM 9 18 [18]])))))))
(rS [oM 19 3 [3], oA 2 19 [19]] .ret)))), [.t 2]⟩
/-- slices.Contains   string string  -/
def f77 : AFn := ⟨2, (rS [oA 4 kF [4]] (rS [oM 5 0 [0], oM 6 1 [1], oO 7 (.call 146 [5,6]) [5,6], oO 8 (.bin .geq 7 (kI 0)) [7], oA 4 8 [8]] .ret)), [.t 4]⟩
/-- interrex/qty.Sum -/
def f80 : AFn := ⟨1, (rS [oO 2 (.alloc false [(vI 0),(vI 0),(vI 0)]) [], oA 3 kF [3]] (rS [oO 4 (.alloc false [(vI 0),(vI 0),(vI 0)]) []] (.seq (rS [oM 9 0 [0], oO 10 (.lenL 9) [], oM 11 (kI 0) []] (.blk 0 (.loop (rS [oO 12 (.bin .lss 11 10) []] (.seq (.cond 12 .skip
 (.exit 0))
(.seq (.blk 1 (rS [oO 13 (.iasl 3 9 11) [], oO 14 (.load (some 3) 13) [13], oO 6 (.alloc false [(vI 0),(vI 0),(vI 0)]) [], oN (.store 3 6 14) [14]] (rS [oO 16 (.load (some 3) 4) [], oO 17 (.load (some 3) 6) [6], oO 18 (.call 81 [16,17]) [16,17], oM 15 18 [18], oO 19 (.ext 15 0) [], oO 20 (.ext 15 1) [15], oO 7 (.alloc false [(vI 0),(vI 0),(vI 0)]) [], oN (.store 3 7 19) [19], oA 8 20 [20]] (.seq (rS [oM 21 8 [8], oO 22 (.un .not 21) [21]] (.cond 22 (rS [oO 23 (.bld [(vI 0),(vI 0),(vI 0)] []) [], oN (.store 3 2 23) [23], oA 3 kF []] .ret)
 .skip))
(rR [oO 24 (.load (some 3) 7) [7], oN (.store 3 4 24) [24]])))))
(rR [oO 25 (.bin .add 11 (kI 1)) [11], oM 11 25 [25]])))))))
(rS [oO 26 (.load (some 3) 4) [4], oN (.store 3 2 26) [26], oA 3 kT []] .ret)))), [.cell 2 (some 3),.t 3]⟩
/-- interrex/qty.Add -/
def f81 : AFn := ⟨2, (rS [oO 2 (.box false 0) [0], oO 3 (.box false 1) [1], oO 4 (.alloc false [(vI 0),(vI 0),(vI 0)]) [], oA 5 kF [5]] (rS [oO 6 (.alloc false [(vI 0),(vI 0),(vI 0)]) []] (.seq (rS [oM 8 (kI 0) []] (.blk 0 (.loop (rS [oO 9 (.bin .lss 8 (kI 3)) []] (.seq (.cond 9 .skip
 (.exit 0))
(.seq (.blk 1 (rS [oM 10 8 [], oA 7 10 [10]] (.seq (.seq (.dreg [⟨0, (oM 11 7 []), false, []⟩,
 ⟨1, (oO 12 (.iaar 3 1 2 11) []), false, []⟩,
 ⟨2, (oO 13 (.load none 12) []), false, []⟩,
 ⟨3, (oO 14 (.call 148 [13]) []), true, []⟩,
 ⟨4, (oO 15 (.un .not 14) []), false, []⟩,
 ⟨5, (oM 16 15 []), false, []⟩,
 ⟨6, (oH 17 (.mv 7) 16 []), false, []⟩,
 ⟨7, (oH 18 (.iaar 3 1 3 17) 16 []), false, []⟩,
 ⟨8, (oH 19 (.load none 18) 16 []), false, []⟩,
 ⟨9, (oH 20 (.call 148 [19]) 16 []), true, []⟩,
 ⟨10, (oH 21 (.un .not 20) 16 []), false, []⟩,
 ⟨11, (oO 22 (.pick 16 kT 21) []), false, []⟩,
 ⟨12, (oM 23 22 []), false, []⟩,
 ⟨13, (oH 24 (.mv 7) 23 []), false, []⟩,
 ⟨14, (oH 25 (.iaar 3 1 2 24) 23 []), false, []⟩,
 ⟨15, (oH 26 (.load none 25) 23 []), false, []⟩,
 ⟨16, (oH 27 (.mv 7) 23 []), false, []⟩,
 ⟨17, (oH 28 (.iaar 3 1 3 27) 23 []), false, []⟩,
 ⟨18, (oH 29 (.load none 28) 23 []), false, []⟩,
 ⟨19, (oH 30 (.bin .sub (kI 4611686018427387904) 29) 23 []), false, []⟩,
 ⟨20, (oH 31 (.bin .gtr 26 30) 23 []), false, []⟩,
 ⟨21, (oO 32 (.pick 23 kT 31) []), false, []⟩] [11,12,13,14,15,16,17,18,19,20,21,22,23,24,25,26,27,28,29,30,31])
(.cond 32 (rS [oO 33 (.bld [(vI 0),(vI 0),(vI 0)] []) [], oN (.store 3 4 33) [33], oA 5 kF []] .ret)
 .skip))
(.dreg [⟨0, (oM 34 7 []), false, []⟩,
 ⟨1, (oM 35 7 []), false, []⟩,
 ⟨2, (oO 36 (.iaar 3 1 2 35) []), false, []⟩,
 ⟨3, (oO 37 (.load none 36) []), false, []⟩,
 ⟨4, (oM 38 7 []), false, []⟩,
 ⟨5, (oO 39 (.iaar 3 1 3 38) []), false, []⟩,
 ⟨6, (oO 40 (.load none 39) []), false, []⟩,
 ⟨7, (oO 41 (.bin .add 37 40) []), false, []⟩,
 ⟨8, (oO 42 (.iaar 3 1 6 34) []), false, []⟩,
 ⟨9, (oN (.store 1 42 41) []), true, []⟩] [7,34,35,36,37,38,39,40,41,42]))))
(rR [oO 43 (.bin .add 8 (kI 1)) [8], oM 8 43 [43]])))))))
(rS [oO 44 (.load (some 3) 6) [6], oN (.store 3 4 44) [44], oA 5 kT []] .ret)))), [.cell 4 (some 3),.t 5]⟩
/-- interrex/label.Match -/
def f82 : AFn := ⟨2, (rS [oO 3 (.box true 1) [1], oA 4 kF [4]] (rS [oM 5 0 [0], oO 6 (.mkfn 150 [3]) [3], oO 7 (.call 149 [5,6]) [5,6], oO 8 (.un .not 7) [7], oA 4 8 [8]] .ret)), [.t 4]⟩
/-- interrex/taint.All -/
def f83 : AFn := ⟨2, (rS [oA 4 kF [4]] (.seq (rS [oM 7 1 [1], oO 8 (.lenL 7) [], oM 9 (kI 0) []] (.blk 0 (.loop (rS [oO 10 (.bin .lss 9 8) []] (.seq (.cond 10 .skip
 (.exit 0))
(.seq (.blk 1 (rS [oO 11 (.iasl 2 7 9) [], oO 12 (.load (some 2) 11) [11], oO 6 (.alloc true [vS,vS]) [], oN (.store 2 6 12) [12]] (rS [oM 13 0 [], oO 14 (.mkfn 153 [6]) [6], oO 15 (.call 152 [13,14]) [13,14], oO 16 (.un .not 15) [15]] (.cond 16 (rS [oA 4 kF []] .ret)
 .skip))))
(rR [oO 17 (.bin .add 9 (kI 1)) [9], oM 9 17 [17]])))))))
(rS [oA 4 kT []] .ret))), [.t 4]⟩
/-- interrex/topo.keeps -/
def f84 : AFn := ⟨5, (rS [oO 5 (.box false 0) [0], oO 6 (.box false 1) [1], oO 7 (.box false 2) [2], oA 10 kF [10]] (rS [oO 11 (.faddr 11 6) [], oO 12 (.load none 11) [11], oO 13 (.lenL 12) [12], oO 14 (.bin .gtr 13 (kI 0)) [13], oM 15 14 [14], oG 16 (.faddr 11 6) 15 [], oG 17 (.load none 16) 15 [16], oG 18 (.faddr 7 7) 15 [7], oG 19 (.load none 18) 15 [18], oG 20 (.call 82 [17,19]) 15 [17,19], oO 21 (.pick 15 20 kF) [15,20], oM 22 21 [21], oG 23 (.load (some 2) 5) 22 [5], oG 24 (.faddr 10 6) 22 [6], oG 25 (.load none 24) 22 [24], oG 26 (.mv 3) 22 [3], oG 27 (.mv 4) 22 [4], oG 28 (.call 23 [23,25,26,27]) 22 [23,25,26,27], oO 29 (.pick 22 28 kF) [22,28], oA 10 29 [29]] .ret)), [.t 10]⟩
/-- interrex/topo.Count -/
def f85 : AFn := ⟨4, (rS [oO 4 (.box false 0) [0], oA 8 (kI 0) [8]] (rS [oA 9 (kI 0) []] (.seq (rS [oO 14 (.faddr 1 4) [], oO 15 (.load none 14) [14], oO 16 (.lenL 15) [], oM 17 (kI 0) []] (.blk 0 (.loop (rS [oO 18 (.bin .lss 17 16) []] (.seq (.cond 18 .skip
 (.exit 0))
(.seq (.blk 1 (rS [oO 19 (.iasl 16 15 17) [], oO 20 (.load (some 16) 19) [19], oO 11 (.alloc false [vS,(vI 0),(vI 0),(vI 0),(vI 0),(vI 0),.nils,.nils,.nils,.nils,vS,.nils,(vI 0),.nils,vS,(vI 0)]) [], oN (.store 16 11 20) [20]] (.seq (rS [oO 21 (.faddr 14 11) [], oO 22 (.load none 21) [21], oO 23 (.bin .eql 22 (.c vS)) [22], oM 24 23 [23], oH 25 (.mv 3) 24 [], oH 26 (.faddr 7 11) 24 [], oH 27 (.load none 26) 24 [26], oH 28 (.call 82 [25,27]) 24 [25,27], oH 29 (.un .not 28) 24 [28], oO 30 (.pick 24 kT 29) [24,29]] (.cond 30 (.exit 1)
 .skip))
(rS [oO 32 (.load (some 2) 4) [], oM 33 1 [], oO 34 (.faddr 14 11) [11], oO 35 (.load none 34) [34], oO 36 (.call 66 [32,33,35]) [32,33,35], oM 31 36 [36], oO 37 (.ext 31 0) [], oO 38 (.ext 31 1) [31], oA 12 37 [37], oA 13 38 [38]] (rS [oM 39 13 [13], oM 40 39 [39], oG 41 (.mv 12) 40 [12], oG 42 (.mv 2) 40 [], oG 43 (.bin .eql 41 42) 40 [41,42], oO 44 (.pick 40 43 kF) [40,43]] (.cond 44 (rR [oM 45 9 [9], oO 46 (.bin .add 45 (kI 1)) [45], oA 9 46 [46]])
 .skip))))))
(rR [oO 47 (.bin .add 17 (kI 1)) [17], oM 17 47 [47]])))))))
(rS [oM 48 9 [9], oA 8 48 [48]] .ret)))), [.t 8]⟩
/-- interrex/label.Get -/
def f86 : AFn := ⟨2, (rS [oA 4 (.c vS) [4], oA 5 kF [5]] (.seq (rS [oM 8 0 [0], oO 9 (.lenL 8) [], oM 10 (kI 0) []] (.blk 0 (.loop (rS [oO 11 (.bin .lss 10 9) []] (.seq (.cond 11 .skip
 (.exit 0))
(.seq (.blk 1 (rS [oO 12 (.iasl 2 8 10) [], oO 13 (.load (some 2) 12) [12], oO 7 (.alloc false [vS,vS]) [], oN (.store 2 7 13) [13]] (rS [oO 14 (.faddr 0 7) [], oO 15 (.load none 14) [14], oM 16 1 [], oO 17 (.bin .eql 15 16) [15,16]] (.cond 17 (rS [oO 18 (.faddr 1 7) [7], oO 19 (.load none 18) [18], oA 4 19 [19], oA 5 kT []] .ret)
 .skip))))
(rR [oO 20 (.bin .add 10 (kI 1)) [10], oM 10 20 [20]])))))))
(rS [oA 4 (.c vS) [], oA 5 kF []] .ret))), [.t 4,.t 5]⟩
/-- slices.Clone   interrex/api.Taint interrex/api.Taint  -/
def f87 : AFn := ⟨1, (rS [oA 2 (.c .nils) [2]] (.seq (rS [oM 3 0 [], oO 4 (.eqn false 3 (.c .nils)) [3]] (.cond 4 (rS [oA 2 (.c .nils) []] .ret)
 .skip))
(rS [oO 5 (.bsl (.im false) 2 0 [vS,vS] []) [], oM 6 0 [0], oO 7 (.append (.im false) 2 32 5 6) [5,6], oA 2 7 [7]] .ret))), [.t 2]⟩
/-- slices.stableCmpFunc interrex/api.Pod  -/
def f88 : AFn := ⟨3, (rS [oA 6 (kI 20) []] (rS [oM 10 6 [], oA 7 (kI 0) [], oA 8 10 [10]] (.seq (.blk 0 (.loop (.seq (rS [oM 11 8 [], oM 12 1 [], oO 13 (.bin .leq 11 12) [11,12]] (.cond 13 .skip
 (.exit 0)))
(.blk 1 (rS [oM 14 0 [], oM 15 7 [7], oM 16 8 [], oM 17 2 [], oO 18 (.call 155 [14,15,16,17]) [14,15,16,17,18]] (rS [oM 19 8 [], oA 7 19 [19]] (rR [oM 20 8 [8], oM 21 6 [], oO 22 (.bin .add 20 21) [20,21], oA 8 22 [22]])))))))
(rS [oM 23 0 [], oM 24 7 [7], oM 25 1 [], oM 26 2 [], oO 27 (.call 155 [23,24,25,26]) [23,24,25,26,27]] (.blk 2 (.loop (.seq (rS [oM 28 6 [], oM 29 1 [], oO 30 (.bin .lss 28 29) [28,29]] (.cond 30 .skip
 (.exit 2)))
(.blk 3 (rS [oM 31 6 [], oO 32 (.bin .mul (kI 2) 31) [31], oA 7 (kI 0) [], oA 8 32 [32]] (.seq (.blk 4 (.loop (.seq (rS [oM 33 8 [], oM 34 1 [], oO 35 (.bin .leq 33 34) [33,34]] (.cond 35 .skip
 (.exit 4)))
(.blk 5 (rS [oM 36 0 [], oM 37 7 [], oM 38 7 [7], oM 39 6 [], oO 40 (.bin .add 38 39) [38,39], oM 41 8 [], oM 42 2 [], oO 43 (.call 156 [36,37,40,41,42]) [36,37,40,41,42,43]] (rS [oM 44 8 [], oA 7 44 [44]] (rR [oM 45 8 [8], oM 46 6 [], oO 47 (.bin .mul (kI 2) 46) [46], oO 48 (.bin .add 45 47) [45,47], oA 8 48 [48]])))))))
(.seq (rS [oM 49 7 [], oM 50 6 [], oO 51 (.bin .add 49 50) [49,50], oA 9 51 [51]] (rS [oM 52 9 [], oM 53 1 [], oO 54 (.bin .lss 52 53) [52,53]] (.cond 54 (rR [oM 55 0 [], oM 56 7 [7], oM 57 9 [9], oM 58 1 [], oM 59 2 [], oO 60 (.call 156 [55,56,57,58,59]) [55,56,57,58,59,60]])
 .skip)))
(rR [oM 61 6 [6], oO 62 (.bin .mul 61 (kI 2)) [61], oA 6 62 [62]])))))))))))), []⟩
/-- cmp.isNaN int  -/
def f89 : AFn := ⟨1, (rS [oA 2 kF [2]] (rS [oM 3 0 [], oM 4 0 [0], oO 5 (.bin .neq 3 4) [3,4], oA 2 5 [5]] .ret)), [.t 2]⟩
/-- slices.IndexFunc   string string  -/
def f90 : AFn := ⟨2, (rS [oA 4 (kI 0) [4]] (.seq (rS [oM 6 0 [], oO 7 (.lenL 6) [6], oM 8 (kI 0) []] (.blk 0 (.loop (rS [oO 9 (.bin .lss 8 7) []] (.seq (.cond 9 .skip
 (.exit 0))
(.seq (.blk 1 (rS [oM 10 8 [], oA 5 10 [10]] (rS [oM 11 1 [], oM 12 0 [], oM 13 5 [], oO 14 (.iasl 1 12 13) [12,13], oO 15 (.load none 14) [14], oO 16 (.callv 11 [15]) [11,15]] (.cond 16 (rS [oM 17 5 [5], oA 4 17 [17]] .ret)
 .skip))))
(rR [oO 18 (.bin .add 8 (kI 1)) [8], oM 8 18 [18]])))))))
(rS [oA 4 (kI (-1)) []] .ret))), [.t 4]⟩
/-- slices.Clone   interrex/api.Node interrex/api.Node  -/
def f91 : AFn := ⟨1, (rS [oA 2 (.c .nils) [2]] (.seq (rS [oM 3 0 [], oO 4 (.eqn false 3 (.c .nils)) [3]] (.cond 4 (rS [oA 2 (.c .nils) []] .ret)
 .skip))
(rS [oO 5 (.bsl (.mu true) 6 0 [vS,(vI 0),(vI 0),(vI 0),.nils,.nils] []) [], oM 6 0 [0], oO 7 (.append (.mu true) 6 88 5 6) [5,6], oA 2 7 [7]] .ret))), [.t 2]⟩
/-- slices.SortStableFunc   interrex/api.Node interrex/api.Node  -/
def f92 : AFn := ⟨2, (rR [oM 4 0 [], oM 5 0 [0], oO 6 (.lenL 5) [5], oM 7 1 [1], oO 8 (.call 157 [4,6,7]) [4,6,7,8]]), []⟩
/-- interrex/evict.Best 1 -/
def f93 : AFn := ⟨2, (rS [oO 2 (.box false 0) [0], oO 3 (.box false 1) [1], oA 4 (kI 0) [4]] (rS [oO 5 (.faddr 0 2) [2], oO 6 (.load none 5) [5], oO 7 (.faddr 0 3) [3], oO 8 (.load none 7) [7], oO 9 (.call 34 [6,8]) [6,8], oA 4 9 [9]] .ret)), [.t 4]⟩
/-- interrex/evict.costs -/
def f94 : AFn := ⟨2, (rS [oO 2 (.box false 0) [0], oO 4 (.alloc false [(vI 0),(vI 0),(vI 0)]) []] (rS [oM 10 1 [], oO 11 (.lenL 10) [10], oO 12 (.bld [(vI 0),(vI 0),(vI 0)] [(0, 1, (kI (-1))),(1, 1, 11),(2, 1, (kI 0))]) [11], oO 5 (.alloc false [(vI 0),(vI 0),(vI 0)]) [], oN (.store 3 5 12) [12]] (.seq (rS [oM 13 1 [1], oO 14 (.lenL 13) [], oM 15 (kI 0) []] (.blk 0 (.loop (rS [oO 16 (.bin .lss 15 14) []] (.seq (.cond 16 .skip
 (.exit 0))
(.seq (.blk 1 (rS [oO 17 (.iasl 1 13 15) [], oO 18 (.load none 17) [17], oA 7 18 [18]] (rS [oO 20 (.load (some 2) 2) [], oM 21 7 [7], oO 22 (.call 7 [20,21]) [20,21], oM 19 22 [22], oO 23 (.ext 19 0) [], oO 24 (.ext 19 1) [19], oO 8 (.alloc false [vS,(vI 0),(vI 0),(vI 0),(vI 0),(vI 0),.nils,.nils,.nils,.nils,vS,.nils,(vI 0),.nils,vS,(vI 0)]) [], oN (.store 16 8 23) [23], oA 9 24 [24,9]] (.dreg [⟨0, (oO 25 (.faddr 0 5) []), false, []⟩,
 ⟨1, (oO 26 (.load none 25) []), false, []⟩,
 ⟨2, (oO 27 (.faddr 2 8) []), false, []⟩,
 ⟨3, (oO 28 (.load none 27) []), false, []⟩,
 ⟨4, (oO 29 (.mnmx true [26,28]) []), false, []⟩,
 ⟨5, (oO 30 (.faddr 2 5) []), false, []⟩,
 ⟨6, (oO 31 (.load none 30) []), false, []⟩,
 ⟨7, (oO 32 (.faddr 2 8) []), false, []⟩,
 ⟨8, (oO 33 (.load none 32) []), false, []⟩,
 ⟨9, (oO 34 (.bin .add 31 33) []), false, []⟩,
 ⟨10, (oO 35 (.faddr 0 5) []), false, []⟩,
 ⟨11, (oN (.store 1 35 29) []), true, [8]⟩,
 ⟨12, (oO 36 (.faddr 2 5) []), false, []⟩,
 ⟨13, (oN (.store 1 36 34) []), true, []⟩] [25,26,8,27,28,29,30,31,32,33,34,35,36]))))
(rR [oO 37 (.bin .add 15 (kI 1)) [15], oM 15 37 [37]])))))))
(rS [oO 38 (.load (some 3) 5) [5], oN (.store 3 4 38) [38]] .ret)))), [.cell 4 (some 3)]⟩
/-- interrex/evict.less -/
def f95 : AFn := ⟨2, (rS [oO 2 (.box false 0) [0], oO 3 (.box false 1) [1], oA 4 kF [4]] (.seq (.dreg [⟨0, (oO 5 (.faddr 0 2) []), false, []⟩,
 ⟨1, (oO 6 (.load none 5) []), false, []⟩,
 ⟨2, (oO 7 (.faddr 0 3) []), false, []⟩,
 ⟨3, (oO 8 (.load none 7) []), false, []⟩,
 ⟨5, (oO 10 (.faddr 1 2) []), false, []⟩,
 ⟨6, (oO 11 (.load none 10) []), false, []⟩,
 ⟨7, (oO 12 (.faddr 1 3) []), false, []⟩,
 ⟨8, (oO 13 (.load none 12) []), false, []⟩,
 ⟨10, (oO 15 (.faddr 2 2) []), false, []⟩,
 ⟨11, (oO 16 (.load none 15) []), false, []⟩,
 ⟨12, (oO 17 (.faddr 2 3) []), false, []⟩,
 ⟨13, (oO 18 (.load none 17) []), false, []⟩,
 ⟨4, (oO 9 (.call 53 [6,8]) []), true, [13,11,8,6]⟩,
 ⟨9, (oO 14 (.call 53 [11,13]) []), true, [13,11]⟩,
 ⟨14, (oO 19 (.call 53 [16,18]) []), true, []⟩,
 ⟨15, (oO 20 (.bsl (.im false) 1 3 [(vI 0)] [(0, 9),(1, 14),(2, 19)]) []), true, []⟩,
 ⟨16, (oO 21 (.call 158 [20]) []), true, []⟩,
 ⟨17, (oO 22 (.bin .lss 21 (kI 0)) []), false, []⟩,
 ⟨18, (oA 4 22 []), false, []⟩] [2,5,6,3,7,8,9,10,11,12,13,14,15,16,17,18,19,20,21,22])
.ret)), [.t 4]⟩
/-- slices.EqualFunc   interrex/api.Node   interrex/api.Node interrex/api.Node interrex/api.Node  -/
def f96 : AFn := ⟨3, (rS [oA 6 kF [6]] (.seq (rS [oM 10 0 [], oO 11 (.lenL 10) [10], oM 12 1 [], oO 13 (.lenL 12) [12], oO 14 (.bin .neq 11 13) [11,13]] (.cond 14 (rS [oA 6 kF []] .ret)
 .skip))
(.seq (rS [oM 15 0 [0], oO 16 (.lenL 15) [], oM 17 (kI 0) []] (.blk 0 (.loop (rS [oO 18 (.bin .lss 17 16) []] (.seq (.cond 18 .skip
 (.exit 0))
(.seq (.blk 1 (rS [oM 19 17 [], oO 20 (.iasl 6 15 17) [], oO 21 (.load (some 6) 20) [20], oO 8 (.alloc false [vS,(vI 0),(vI 0),(vI 0),.nils,.nils]) [], oA 7 19 [19], oN (.store 6 8 21) [21]] (rS [oM 22 1 [], oM 23 7 [7], oO 24 (.iasl 6 22 23) [22,23], oO 25 (.load (some 6) 24) [24], oO 9 (.alloc false [vS,(vI 0),(vI 0),(vI 0),.nils,.nils]) [], oN (.store 6 9 25) [25]] (rS [oM 26 2 [], oO 27 (.load (some 6) 8) [8], oO 28 (.load (some 6) 9) [9], oO 29 (.callv 26 [27,28]) [26,27,28], oO 30 (.un .not 29) [29]] (.cond 30 (rS [oA 6 kF []] .ret)
 .skip)))))
(rR [oO 31 (.bin .add 17 (kI 1)) [17], oM 17 31 [31]])))))))
(rS [oA 6 kT []] .ret)))), [.t 6]⟩
/-- interrex/obj.EqNode -/
def f97 : AFn := ⟨2, (rS [oO 2 (.box false 0) [0], oO 3 (.box false 1) [1], oA 4 kF [4]] (rS [oO 5 (.faddr 0 2) [], oO 6 (.load none 5) [5], oO 7 (.faddr 0 3) [], oO 8 (.load none 7) [7], oO 9 (.bin .eql 6 8) [6,8], oM 10 9 [9], oG 11 (.faddr 1 2) 10 [], oG 12 (.load (some 3) 11) 10 [11], oG 13 (.faddr 1 3) 10 [], oG 14 (.load (some 3) 13) 10 [13], oG 15 (.eqc true [.i,.i,.i] false 12 14) 10 [12,14], oO 16 (.pick 10 15 kF) [10,15], oM 17 16 [16], oG 18 (.faddr 4 2) 17 [], oG 19 (.load none 18) 17 [18], oG 20 (.faddr 4 3) 17 [], oG 21 (.load none 20) 17 [20], oG 22 (.call 159 [19,21]) 17 [19,21], oO 23 (.pick 17 22 kF) [17,22], oM 24 23 [23], oG 25 (.faddr 5 2) 24 [2], oG 26 (.load none 25) 24 [25], oG 27 (.faddr 5 3) 24 [3], oG 28 (.load none 27) 24 [27], oG 29 (.call 160 [26,28]) 24 [26,28], oO 30 (.pick 24 29 kF) [24,29], oA 4 30 [30]] .ret)), [.t 4]⟩
/-- slices.EqualFunc   interrex/api.Pod   interrex/api.Pod interrex/api.Pod interrex/api.Pod  -/
def f98 : AFn := ⟨3, (rS [oA 6 kF [6]] (.seq (rS [oM 10 0 [], oO 11 (.lenL 10) [10], oM 12 1 [], oO 13 (.lenL 12) [12], oO 14 (.bin .neq 11 13) [11,13]] (.cond 14 (rS [oA 6 kF []] .ret)
 .skip))
(.seq (rS [oM 15 0 [0], oO 16 (.lenL 15) [], oM 17 (kI 0) []] (.blk 0 (.loop (rS [oO 18 (.bin .lss 17 16) []] (.seq (.cond 18 .skip
 (.exit 0))
(.seq (.blk 1 (rS [oM 19 17 [], oO 20 (.iasl 16 15 17) [], oO 21 (.load (some 16) 20) [20], oO 8 (.alloc false [vS,(vI 0),(vI 0),(vI 0),(vI 0),(vI 0),.nils,.nils,.nils,.nils,vS,.nils,(vI 0),.nils,vS,(vI 0)]) [], oA 7 19 [19], oN (.store 16 8 21) [21]] (rS [oM 22 1 [], oM 23 7 [7], oO 24 (.iasl 16 22 23) [22,23], oO 25 (.load (some 16) 24) [24], oO 9 (.alloc false [vS,(vI 0),(vI 0),(vI 0),(vI 0),(vI 0),.nils,.nils,.nils,.nils,vS,.nils,(vI 0),.nils,vS,(vI 0)]) [], oN (.store 16 9 25) [25]] (rS [oM 26 2 [], oO 27 (.load (some 16) 8) [8], oO 28 (.load (some 16) 9) [9], oO 29 (.callv 26 [27,28]) [26,27,28], oO 30 (.un .not 29) [29]] (.cond 30 (rS [oA 6 kF []] .ret)
 .skip)))))
(rR [oO 31 (.bin .add 17 (kI 1)) [17], oM 17 31 [31]])))))))
(rS [oA 6 kT []] .ret)))), [.t 6]⟩
/-- interrex/obj.EqPod -/
def f99 : AFn := ⟨2, (rS [oO 2 (.box false 0) [0], oO 3 (.box false 1) [1], oA 4 kF [4]] (.seq (rS [oO 6 (.faddr 0 2) [], oO 7 (.load none 6) [6], oO 8 (.faddr 0 3) [], oO 9 (.load none 8) [8], oO 10 (.bin .neq 7 9) [7,9], oM 11 10 [10], oH 12 (.faddr 1 2) 11 [], oH 13 (.load none 12) 11 [12], oH 14 (.faddr 1 3) 11 [], oH 15 (.load none 14) 11 [14], oH 16 (.bin .neq 13 15) 11 [13,15], oO 17 (.pick 11 kT 16) [11,16], oM 18 17 [17], oH 19 (.faddr 2 2) 18 [], oH 20 (.load none 19) 18 [19], oH 21 (.faddr 2 3) 18 [], oH 22 (.load none 21) 18 [21], oH 23 (.bin .neq 20 22) 18 [20,22], oO 24 (.pick 18 kT 23) [18,23], oM 25 24 [24], oH 26 (.faddr 3 2) 25 [], oH 27 (.load (some 3) 26) 25 [26], oH 28 (.faddr 3 3) 25 [], oH 29 (.load (some 3) 28) 25 [28], oH 30 (.eqc true [.i,.i,.i] true 27 29) 25 [27,29], oO 31 (.pick 25 kT 30) [25,30], oM 32 31 [31], oH 33 (.faddr 10 2) 32 [], oH 34 (.load none 33) 32 [33], oH 35 (.faddr 10 3) 32 [], oH 36 (.load none 35) 32 [35], oH 37 (.bin .neq 34 36) 32 [34,36], oO 38 (.pick 32 kT 37) [32,37], oM 39 38 [38], oH 40 (.faddr 12 2) 39 [], oH 41 (.load none 40) 39 [40], oH 42 (.faddr 12 3) 39 [], oH 43 (.load none 42) 39 [42], oH 44 (.bin .neq 41 43) 39 [41,43], oO 45 (.pick 39 kT 44) [39,44], oM 46 45 [45], oH 47 (.faddr 14 2) 46 [], oH 48 (.load none 47) 46 [47], oH 49 (.faddr 14 3) 46 [], oH 50 (.load none 49) 46 [49], oH 51 (.bin .neq 48 50) 46 [48,50], oO 52 (.pick 46 kT 51) [46,51], oM 53 52 [52], oH 54 (.faddr 15 2) 53 [], oH 55 (.load none 54) 53 [54], oH 56 (.faddr 15 3) 53 [], oH 57 (.load none 56) 53 [56], oH 58 (.bin .neq 55 57) 53 [55,57], oO 59 (.pick 53 kT 58) [53,58]] (.cond 59 (rS [oA 4 kF []] .ret)
 .skip))
(rS [oO 60 (.faddr 6 2) [], oO 61 (.load none 60) [60], oO 62 (.faddr 6 3) [], oO 63 (.load none 62) [62], oO 64 (.call 161 [61,63]) [61,63], oM 65 64 [64], oG 66 (.faddr 7 2) 65 [], oG 67 (.load none 66) 65 [66], oG 68 (.faddr 7 3) 65 [], oG 69 (.load none 68) 65 [68], oG 70 (.call 159 [67,69]) 65 [67,69], oO 71 (.pick 65 70 kF) [65,70], oM 72 71 [71], oG 73 (.faddr 9 2) 72 [], oG 74 (.load none 73) 72 [73], oG 75 (.faddr 9 3) 72 [], oG 76 (.load none 75) 72 [75], oG 77 (.call 162 [74,76]) 72 [74,76], oO 78 (.pick 72 77 kF) [72,77], oA 5 78 [78]] (rS [oM 79 5 [5], oM 80 79 [79], oG 81 (.faddr 8 2) 80 [], oG 82 (.load none 81) 80 [81], oG 83 (.faddr 8 3) 80 [], oG 84 (.load none 83) 80 [83], oG 85 (.call 163 [82,84]) 80 [82,84], oO 86 (.pick 80 85 kF) [80,85], oM 87 86 [86], oG 88 (.faddr 11 2) 87 [], oG 89 (.load none 88) 87 [88], oG 90 (.faddr 11 3) 87 [], oG 91 (.load none 90) 87 [90], oG 92 (.call 163 [89,91]) 87 [89,91], oO 93 (.pick 87 92 kF) [87,92], oM 94 93 [93], oG 95 (.faddr 13 2) 94 [2], oG 96 (.load none 95) 94 [95], oG 97 (.faddr 13 3) 94 [3], oG 98 (.load none 97) 94 [97], oG 99 (.call 163 [96,98]) 94 [96,98], oO 100 (.pick 94 99 kF) [94,99], oA 4 100 [100]] .ret)))), [.t 4]⟩
/-- interrex/state.Pending 1 -/
def f100 : AFn := ⟨2, (rS [oO 2 (.box false 0) [0], oO 3 (.box false 1) [1], oA 4 (kI 0) [4]] (.seq (rS [oO 6 (.faddr 2 3) [], oO 7 (.load none 6) [6], oO 8 (.faddr 2 2) [], oO 9 (.load none 8) [8], oO 10 (.call 53 [7,9]) [7,9], oA 5 10 [10]] (rS [oM 11 5 [], oO 12 (.bin .neq 11 (kI 0)) [11]] (.cond 12 (rS [oM 13 5 [5], oA 4 13 [13]] .ret)
 .skip)))
(rS [oO 14 (.faddr 1 2) [2], oO 15 (.load none 14) [14], oO 16 (.faddr 1 3) [3], oO 17 (.load none 16) [16], oO 18 (.call 101 [15,17]) [15,17], oA 4 18 [18]] .ret))), [.t 4]⟩
/-- cmp.Compare int64  -/
def f101 : AFn := ⟨2, (rS [oA 4 (kI 0) [4]] (rS [oM 7 0 [], oO 8 (.call 164 [7]) [7], oA 5 8 [8]] (rS [oM 9 1 [], oO 10 (.call 164 [9]) [9], oA 6 10 [10]] (.seq (rS [oM 11 5 [5]] (.cond 11 (.seq (rS [oM 12 6 [6]] (.cond 12 (rS [oA 4 (kI 0) []] .ret)
 .skip))
(rS [oA 4 (kI (-1)) []] .ret))
 .skip))
(.seq (rS [oM 13 6 [6]] (.cond 13 (rS [oA 4 (kI 1) []] .ret)
 .skip))
(.seq (rS [oM 14 0 [], oM 15 1 [], oO 16 (.bin .lss 14 15) [14,15]] (.cond 16 (rS [oA 4 (kI (-1)) []] .ret)
 .skip))
(.seq (rS [oM 17 0 [0], oM 18 1 [1], oO 19 (.bin .gtr 17 18) [17,18]] (.cond 19 (rS [oA 4 (kI 1) []] .ret)
 .skip))
(rS [oA 4 (kI 0) []] .ret)))))))), [.t 4]⟩
/-- interrex/qty.Share -/
def f102 : AFn := ⟨2, (rS [oA 4 (kI 0) [4]] (.seq (rS [oM 5 1 [], oO 6 (.bin .lss 5 (kI 1)) [5], oM 7 6 [6], oH 8 (.mv 1) 7 [], oH 9 (.bin .gtr 8 (kI 1000000000)) 7 [8], oO 10 (.pick 7 kT 9) [7,9]] (.cond 10 (rS [oA 4 (kI 0) []] .ret)
 .skip))
(rS [oM 11 0 [0], oO 12 (.mnmx true [11,(kI 0)]) [11], oM 13 1 [], oO 14 (.mnmx false [12,13]) [12,13], oO 15 (.bin .mul (kI 100) 14) [14], oM 16 1 [1], oO 17 (.bin .quo 15 16) [15,16], oA 4 17 [17]] .ret))), [.t 4]⟩
/-- interrex/clock.New -/
def f103 : AFn := ⟨1, (rS [oA 2 (.c .nilp) [2]] (rS [oM 3 0 [0], oO 4 (.mnmx true [3,(kI 1)]) [3], oO 5 (.mnmx false [4,(kI 8)]) [4], oO 6 (.mksl (.mu true) 1 8 [(vI 0)] 5 5) [5], oO 7 (.bld [.nils,(vI 0),(vI 0),(vI 0),(vI 0),(vI 0),(vI 0),(vI 0),(vI 0),(vI 0),(vI 0),(vI 0),(vI 0),(vI 0),(vI 0),(vI 0),(vI 0),(vI 0),(vI 0),(vI 0),(vI 0),(vI 0),(vI 0),(vI 0),(vI 0),(vI 0),(vI 0),(vI 0),(vI 0),(vI 0),(vI 0),(vI 0),(vI 0),(vI 0),(vI 0),(vI 0),(vI 0),(vI 0),(vI 0),(vI 0),(vI 0),(vI 0),(vI 0),(vI 0),(vI 0),(vI 0),(vI 0),(vI 0),(vI 0),(vI 0),(vI 0),(vI 0),(vI 0),(vI 0),(vI 0),(vI 0),(vI 0),(vI 0),(vI 0),(vI 0),(vI 0),(vI 0),(vI 0),(vI 0),(vI 0),(vI 0),(vI 0),(vI 0),(vI 0),(vI 0),(vI 0),(vI 0),(vI 0),(vI 0),(vI 0),(vI 0),(vI 0),(vI 0),(vI 0),(vI 0),(vI 0),(vI 0),(vI 0),(vI 0),(vI 0),(vI 0),(vI 0),(vI 0),(vI 0),(vI 0),(vI 0),(vI 0),(vI 0),(vI 0),(vI 0),(vI 0),(vI 0),(vI 0),(vI 0),(vI 0),(vI 0),(vI 0),(vI 0),(vI 0),(vI 0),(vI 0),(vI 0),(vI 0),(vI 0),(vI 0),(vI 0),(vI 0),(vI 0),(vI 0),(vI 0),(vI 0),(vI 0),(vI 0),(vI 0),(vI 0),(vI 0),(vI 0),(vI 0),(vI 0),(vI 0),(vI 0),(vI 0),(vI 0),(vI 0)] [(0, 1, 6)]) [6], oO 8 (.box true 7) [7], oA 2 8 [8]] .ret)), [.t 2]⟩
/-- interrex/net.New -/
def f104 : AFn := ⟨1, (rS [oA 2 (.c .nilp) [2]] (rS [oM 3 0 [0], oO 4 (.mnmx true [3,(kI 1)]) [3], oO 5 (.mnmx false [4,(kI 1000)]) [4], oO 6 (.bld [.nils,(vI 0)] [(1, 1, 5)]) [5], oO 7 (.box true 6) [6], oA 2 7 [7]] .ret)), [.t 2]⟩
/-- interrex/cache.New -/
def f105 : AFn := ⟨0, (rS [oA 0 (.c .nilp) [0]] (rS [oO 1 (.bld [.nilm,(vI 0)] [(1, 1, (kI (-1)))]) [], oO 2 (.box true 1) [1], oA 0 2 [2]] .ret)), [.t 0]⟩
/-- interrex/relist.New -/
def f106 : AFn := ⟨1, (rS [oA 2 (.c .nilp) [2]] (.seq (rS [oM 3 0 [], oO 4 (.bin .lss 3 (kI 0)) [3], oM 5 4 [4], oH 6 (.mv 0) 5 [], oH 7 (.bin .gtr 6 (kI 7)) 5 [6], oO 8 (.pick 5 kT 7) [5,7]] (.cond 8 (rS [oA 2 (.c .nilp) []] .ret)
 .skip))
(rS [oM 9 0 [0], oO 10 (.call 105 []) [], oO 11 (.bld [(vI 0),(vI 0),.nilp,(.b false),(vI 0),(vI 0),(vI 0),vS,(vI 0),.nils,.nils,(vI 0),(vI 0)] [(0, 1, 9),(2, 1, 10)]) [9,10], oO 12 (.box true 11) [11], oA 2 12 [12]] .ret))), [.t 2]⟩
/-- interrex/assume.New -/
def f107 : AFn := ⟨0, (rS [oA 0 (.c .nilp) [0]] (rS [oO 1 (.bld [.nils] []) [], oO 2 (.box true 1) [1], oA 0 2 [2]] .ret)), [.t 0]⟩
/-- interrex/elect.New -/
def f108 : AFn := ⟨1, (rS [oA 2 (.c .nilp) [2]] (.seq (rS [oM 3 0 [], oO 4 (.bin .lss 3 (kI 0)) [3], oM 5 4 [4], oH 6 (.mv 0) 5 [], oH 7 (.bin .gtr 6 (kI 7)) 5 [6], oO 8 (.pick 5 kT 7) [5,7]] (.cond 8 (rS [oA 2 (.c .nilp) []] .ret)
 .skip))
(rS [oM 9 0 [0], oO 10 (.bld [(vI 0),(.b false),(.b false),(vI 0),(vI 0),(vI 0),(vI 0),(.b false),(vI 0),(vI 0),(vI 0)] [(0, 1, 9)]) [9], oO 11 (.box true 10) [10], oA 2 11 [11]] .ret))), [.t 2]⟩
/-- ( interrex/clock.Clocks).Tick -/
def f109 : AFn := ⟨2, (rS [oA 4 kF [4]] (.seq (rS [oM 13 0 [], oO 14 (.eqn false 13 (.c .nilp)) [13]] (.cond 14 (rS [oA 4 kF []] .ret)
 .skip))
(rS [oM 15 1 [], oM 16 1 [1], oO 17 (.lenL 16) [16], oM 18 0 [], oO 19 (.nilc 18) [18], oO 20 (.faddr 0 19) [19], oO 21 (.load none 20) [20], oO 22 (.lenL 21) [21], oO 23 (.mnmx false [17,22]) [17,22], oO 24 (.slsl 1 15 none (some 23) none) [15,23], oA 1 24 [24]] (.seq (rS [oM 25 1 [], oO 26 (.lenL 25) [], oM 27 (kI 0) []] (.blk 0 (.loop (rS [oO 28 (.bin .lss 27 26) []] (.seq (.cond 28 .skip
 (.exit 0))
(.seq (.blk 1 (rS [oM 29 27 [], oO 30 (.iasl 1 25 27) [], oO 31 (.load none 30) [30], oA 5 29 [29], oA 6 31 [31]] (rS [oM 32 6 [], oO 33 (.bin .lss 32 (kI 0)) [32], oM 34 33 [33], oH 35 (.mv 6) 34 [], oH 36 (.bin .gtr 35 (kI 1000000)) 34 [35], oO 37 (.pick 34 kT 36) [34,36], oM 38 37 [37], oH 39 (.mv 0) 38 [], oH 40 (.nilc 39) 38 [39], oH 41 (.faddr 0 40) 38 [40], oH 42 (.load none 41) 38 [41], oH 43 (.mv 5) 38 [5], oH 44 (.iasl 1 42 43) 38 [42,43], oH 45 (.load none 44) 38 [44], oH 46 (.mv 6) 38 [6], oH 47 (.bin .add 45 46) 38 [45,46], oH 48 (.bin .gtr 47 (kI 1125899906842624)) 38 [47], oO 49 (.pick 38 kT 48) [38,48]] (.cond 49 (rS [oA 4 kF []] .ret)
 .skip))))
(rR [oO 50 (.bin .add 27 (kI 1)) [27], oM 27 50 [50]])))))))
(.seq (rS [oM 51 1 [1], oO 52 (.lenL 51) [], oM 53 (kI 0) []] (.blk 2 (.loop (rS [oO 54 (.bin .lss 53 52) []] (.seq (.cond 54 .skip
 (.exit 2))
(.seq (.blk 3 (rS [oM 55 53 [], oO 56 (.iasl 1 51 53) [], oO 57 (.load none 56) [56], oA 7 55 [55], oA 8 57 [57]] (rR [oM 58 0 [], oO 59 (.nilc 58) [58], oO 60 (.faddr 0 59) [59], oO 61 (.load none 60) [60], oM 62 7 [7], oO 63 (.iasl 1 61 62) [], oO 64 (.load none 63) [63], oM 65 8 [8], oO 66 (.bin .add 64 65) [64,65], oO 67 (.iasl 1 61 62) [61,62], oN (.store 1 67 66) [67,66]])))
(rR [oO 68 (.bin .add 53 (kI 1)) [53], oM 53 68 [68]])))))))
(.seq (rS [oM 69 0 [], oO 70 (.nilc 69) [69], oO 71 (.faddr 0 70) [70], oO 72 (.load none 71) [71], oO 73 (.lenL 72) [], oM 74 (kI 0) []] (.blk 4 (.loop (rS [oO 75 (.bin .lss 74 73) []] (.seq (.cond 75 .skip
 (.exit 4))
(.seq (.blk 5 (rS [oM 76 74 [], oO 77 (.iasl 1 72 74) [], oO 78 (.load none 77) [77], oA 9 76 [76], oA 10 78 [78]] (rS [oM 79 0 [], oO 80 (.nilc 79) [79], oO 81 (.faddr 0 80) [80], oO 82 (.load none 81) [81], oO 83 (.lenL 82) [], oM 84 (kI 0) []] (.blk 6 (.loop (rS [oO 85 (.bin .lss 84 83) []] (.seq (.cond 85 .skip
 (.exit 6))
(.seq (.blk 7 (rS [oM 86 84 [], oO 87 (.iasl 1 82 84) [], oO 88 (.load none 87) [87], oA 11 86 [86], oA 12 88 [88]] (.dreg [⟨0, (oM 89 0 []), false, []⟩,
 ⟨1, (oM 90 9 []), false, []⟩,
 ⟨2, (oM 91 11 []), false, []⟩,
 ⟨3, (oM 92 0 []), false, []⟩,
 ⟨4, (oM 93 9 []), false, []⟩,
 ⟨5, (oM 94 11 []), false, []⟩,
 ⟨6, (oM 95 0 []), false, []⟩,
 ⟨7, (oM 96 9 []), false, []⟩,
 ⟨8, (oM 97 11 []), false, []⟩,
 ⟨9, (oO 98 (.nilc 95) []), false, []⟩,
 ⟨10, (oO 99 (.faddr 1 98) []), false, []⟩,
 ⟨11, (oO 100 (.iaar 8 8 99 96) []), false, []⟩,
 ⟨12, (oO 101 (.iaar 8 1 100 97) []), false, []⟩,
 ⟨13, (oO 102 (.load none 101) []), false, []⟩,
 ⟨14, (oM 103 10 []), false, []⟩,
 ⟨15, (oM 104 12 []), false, []⟩,
 ⟨16, (oO 105 (.bin .sub 103 104) []), false, []⟩,
 ⟨17, (oO 106 (.mnmx false [102,105]) []), false, []⟩,
 ⟨18, (oM 107 0 []), false, []⟩,
 ⟨19, (oM 108 9 []), false, []⟩,
 ⟨20, (oM 109 11 []), false, []⟩,
 ⟨21, (oO 110 (.nilc 107) []), false, []⟩,
 ⟨22, (oO 111 (.faddr 65 110) []), false, []⟩,
 ⟨23, (oO 112 (.iaar 8 8 111 108) []), false, []⟩,
 ⟨24, (oO 113 (.iaar 8 1 112 109) []), false, []⟩,
 ⟨25, (oO 114 (.load none 113) []), false, []⟩,
 ⟨26, (oM 115 10 []), false, []⟩,
 ⟨27, (oM 116 12 []), false, []⟩,
 ⟨28, (oO 117 (.bin .sub 115 116) []), false, []⟩,
 ⟨29, (oO 118 (.mnmx true [114,117]) []), false, []⟩,
 ⟨30, (oO 119 (.nilc 89) []), false, []⟩,
 ⟨31, (oO 120 (.faddr 1 119) []), false, []⟩,
 ⟨32, (oO 121 (.iaar 8 8 120 90) []), false, []⟩,
 ⟨33, (oO 122 (.iaar 8 1 121 91) []), false, []⟩,
 ⟨35, (oO 123 (.nilc 92) []), false, []⟩,
 ⟨36, (oO 124 (.faddr 65 123) []), false, []⟩,
 ⟨37, (oO 125 (.iaar 8 8 124 93) []), false, []⟩,
 ⟨34, (oN (.store 1 122 106) []), true, []⟩,
 ⟨38, (oO 126 (.iaar 8 1 125 94) []), false, []⟩,
 ⟨39, (oN (.store 1 126 118) []), true, []⟩] [89,90,11,91,92,93,94,95,96,97,98,99,100,101,102,103,12,104,105,106,107,108,109,110,111,112,113,114,115,116,117,118,119,120,121,122,123,124,125,126])))
(rR [oO 127 (.bin .add 84 (kI 1)) [84], oM 84 127 [127]])))))))))
(rR [oO 128 (.bin .add 74 (kI 1)) [74], oM 74 128 [128]])))))))
(rS [oA 4 kT []] .ret))))))), [.t 4]⟩
/-- ( interrex/net.Net).Send -/
def f110 : AFn := ⟨2, (rS [oO 3 (.box false 1) [1], oA 4 kF [4]] (.seq (.seq (.dreg [⟨0, (oM 5 0 []), false, []⟩,
 ⟨1, (oO 6 (.eqn false 5 (.c .nilp)) []), true, []⟩,
 ⟨2, (oM 7 6 []), false, []⟩,
 ⟨3, (oH 8 (.mv 0) 7 []), false, []⟩,
 ⟨4, (oH 9 (.nilc 8) 7 []), false, []⟩,
 ⟨5, (oH 10 (.faddr 0 9) 7 []), false, []⟩,
 ⟨6, (oH 11 (.load none 10) 7 []), false, []⟩,
 ⟨7, (oH 12 (.lenL 11) 7 []), false, []⟩,
 ⟨8, (oH 13 (.mv 0) 7 []), false, []⟩,
 ⟨9, (oH 14 (.nilc 13) 7 []), false, []⟩,
 ⟨10, (oH 15 (.faddr 1 14) 7 []), false, []⟩,
 ⟨11, (oH 16 (.load none 15) 7 []), false, []⟩,
 ⟨12, (oH 17 (.bin .geq 12 16) 7 []), false, []⟩,
 ⟨13, (oO 18 (.pick 7 kT 17) []), false, []⟩] [5,6,7,8,9,10,11,12,13,14,15,16,17])
(.cond 18 (rS [oA 4 kF []] .ret)
 .skip))
(.seq (.dreg [⟨0, (oM 19 0 []), false, []⟩,
 ⟨1, (oM 20 0 []), false, []⟩,
 ⟨2, (oO 21 (.nilc 20) []), false, []⟩,
 ⟨3, (oO 22 (.faddr 0 21) []), false, []⟩,
 ⟨4, (oO 23 (.load none 22) []), false, []⟩,
 ⟨5, (oO 24 (.load (some 3) 3) []), false, []⟩,
 ⟨6, (oO 25 (.call 165 [24]) []), true, [4]⟩,
 ⟨7, (oO 26 (.bsl (.mu true) 3 1 [(.b false),(vI 0),.nils] [(0, 25)]) []), true, [4]⟩,
 ⟨8, (oO 27 (.append (.mu true) 3 40 23 26) []), true, []⟩,
 ⟨9, (oO 28 (.nilc 19) []), false, []⟩,
 ⟨10, (oO 29 (.faddr 0 28) []), false, []⟩,
 ⟨11, (oN (.store 1 29 27) []), true, []⟩] [0,19,20,21,22,23,3,24,25,26,27,28,29])
(rS [oA 4 kT []] .ret)))), [.t 4]⟩
/-- ( interrex/relist.Relist).Want -/
def f111 : AFn := ⟨2, (rS [oO 4 (.alloc false [(vI 0),(vI 0),(vI 0),vS,(vI 0),.nils,.nils]) [], oA 5 kF [5]] (.seq (rS [oM 7 0 [], oO 8 (.eqn false 7 (.c .nilp)) [7], oM 9 8 [8], oH 10 (.mv 0) 9 [], oH 11 (.nilc 10) 9 [10], oH 12 (.faddr 3 11) 9 [11], oH 13 (.load none 12) 9 [12], oH 14 (.mv 13) 9 [13], oG 15 (.mv 1) 14 [], oG 16 (.mv 0) 14 [], oG 17 (.nilc 16) 14 [16], oG 18 (.faddr 11 17) 14 [17], oG 19 (.load none 18) 14 [18], oG 20 (.call 166 [15,19]) 14 [15,19], oG 21 (.un .not 20) 14 [20], oH 22 (.pick 14 21 kF) 9 [14,21], oO 23 (.pick 9 kT 22) [9,22]] (.cond 23 (rS [oO 24 (.bld [(vI 0),(vI 0),(vI 0),vS,(vI 0),.nils,.nils] []) [], oN (.store 7 4 24) [24], oA 5 kF []] .ret)
 .skip))
(rS [oM 25 0 [], oO 26 (.nilc 25) [], oO 27 (.faddr 1 26) [26], oO 28 (.load none 27) [27], oO 29 (.bin .add 28 (kI 1)) [28], oO 30 (.nilc 25) [25], oO 31 (.faddr 1 30) [30], oN (.store 1 31 29) [31,29]] (.seq (.dreg [⟨0, (oM 32 0 []), false, []⟩,
 ⟨1, (oM 33 0 []), false, []⟩,
 ⟨2, (oO 34 (.nilc 33) []), false, []⟩,
 ⟨3, (oO 35 (.faddr 0 34) []), false, []⟩,
 ⟨4, (oO 36 (.load none 35) []), false, []⟩,
 ⟨5, (oM 37 0 []), false, []⟩,
 ⟨6, (oO 38 (.nilc 37) []), false, []⟩,
 ⟨7, (oO 39 (.faddr 1 38) []), false, []⟩,
 ⟨8, (oO 40 (.load none 39) []), false, []⟩,
 ⟨9, (oO 41 (.bld [(vI 0),(vI 0),(vI 0),vS,(vI 0),.nils,.nils] [(0, 1, 36),(1, 1, 40),(2, 1, (kI 2))]) []), false, []⟩,
 ⟨10, (oO 42 (.nilc 32) []), false, []⟩,
 ⟨11, (oO 43 (.faddr 4 42) []), false, []⟩,
 ⟨12, (oN (.store 7 43 41) []), true, []⟩] [32,33,34,35,36,37,38,39,40,41,42,43])
(.seq (rS [oM 44 0 [], oO 45 (.nilc 44) [44], oO 46 (.faddr 2 45) [45], oO 47 (.load none 46) [46], oO 48 (.call 126 [47]) [47], oA 6 48 [48]] (rS [oM 49 6 [], oO 50 (.bin .geq 49 (kI 0)) [49]] (.cond 50 (rR [oM 51 0 [], oM 52 0 [], oM 53 6 [6], oO 54 (.nilc 51) [51], oO 55 (.faddr 4 54) [54], oO 56 (.faddr 2 55) [55], oN (.store 1 56 (kI 3)) [56], oO 57 (.nilc 52) [52], oO 58 (.faddr 4 57) [57], oO 59 (.faddr 4 58) [58], oN (.store 1 59 53) [59,53]])
 .skip)))
(rS [oM 60 0 [], oM 61 0 [], oM 62 1 [1], oO 63 (.nilc 60) [60], oO 64 (.faddr 3 63) [63], oN (.store 1 64 kT) [64], oO 65 (.nilc 61) [61], oO 66 (.faddr 11 65) [65], oN (.store 1 66 62) [66,62]] (rS [oM 67 0 [0], oO 68 (.nilc 67) [67], oO 69 (.faddr 4 68) [68], oO 70 (.load (some 7) 69) [69], oN (.store 7 4 70) [70], oA 5 kT []] .ret))))))), [.cell 4 (some 7),.t 5]⟩
/-- ( interrex/relist.Relist).Take -/
def f112 : AFn := ⟨2, (rS [oO 3 (.box false 1) [1], oA 4 kF [4]] (.seq (.seq (.dreg [⟨0, (oM 6 0 []), false, []⟩,
 ⟨1, (oO 7 (.eqn false 6 (.c .nilp)) []), true, []⟩,
 ⟨2, (oM 8 7 []), false, []⟩,
 ⟨3, (oH 9 (.mv 0) 8 []), false, []⟩,
 ⟨4, (oH 10 (.nilc 9) 8 []), false, []⟩,
 ⟨5, (oH 11 (.faddr 3 10) 8 []), false, []⟩,
 ⟨6, (oH 12 (.load none 11) 8 []), false, []⟩,
 ⟨7, (oH 13 (.un .not 12) 8 []), false, []⟩,
 ⟨8, (oO 14 (.pick 8 kT 13) []), false, []⟩,
 ⟨9, (oM 15 14 []), false, []⟩,
 ⟨10, (oH 16 (.faddr 0 3) 15 []), false, []⟩,
 ⟨11, (oH 17 (.load none 16) 15 []), false, []⟩,
 ⟨12, (oH 18 (.mv 0) 15 []), false, []⟩,
 ⟨13, (oH 19 (.nilc 18) 15 []), false, []⟩,
 ⟨14, (oH 20 (.faddr 0 19) 15 []), false, []⟩,
 ⟨15, (oH 21 (.load none 20) 15 []), false, []⟩,
 ⟨16, (oH 22 (.bin .neq 17 21) 15 []), false, []⟩,
 ⟨17, (oO 23 (.pick 15 kT 22) []), false, []⟩,
 ⟨18, (oM 24 23 []), false, []⟩,
 ⟨19, (oH 25 (.faddr 1 3) 24 []), false, []⟩,
 ⟨20, (oH 26 (.load none 25) 24 []), false, []⟩,
 ⟨21, (oH 27 (.mv 0) 24 []), false, []⟩,
 ⟨22, (oH 28 (.nilc 27) 24 []), false, []⟩,
 ⟨23, (oH 29 (.faddr 4 28) 24 []), false, []⟩,
 ⟨24, (oH 30 (.faddr 1 29) 24 []), false, []⟩,
 ⟨25, (oH 31 (.load none 30) 24 []), false, []⟩,
 ⟨26, (oH 32 (.bin .neq 26 31) 24 []), false, []⟩,
 ⟨27, (oO 33 (.pick 24 kT 32) []), false, []⟩,
 ⟨28, (oM 34 33 []), false, []⟩,
 ⟨29, (oH 35 (.faddr 2 3) 34 []), false, []⟩,
 ⟨30, (oH 36 (.load none 35) 34 []), false, []⟩,
 ⟨31, (oH 37 (.mv 0) 34 []), false, []⟩,
 ⟨32, (oH 38 (.nilc 37) 34 []), false, []⟩,
 ⟨33, (oH 39 (.faddr 4 38) 34 []), false, []⟩,
 ⟨34, (oH 40 (.faddr 2 39) 34 []), false, []⟩,
 ⟨35, (oH 41 (.load none 40) 34 []), false, []⟩,
 ⟨36, (oH 42 (.bin .neq 36 41) 34 []), false, []⟩,
 ⟨37, (oO 43 (.pick 34 kT 42) []), false, []⟩] [6,7,8,9,10,11,12,13,14,15,16,17,18,19,20,21,22,23,24,25,26,27,28,29,30,31,32,33,34,35,36,37,38,39,40,41,42])
(.cond 43 (rS [oA 4 kF []] .ret)
 .skip))
(rS [oM 44 0 [], oO 45 (.nilc 44) [44], oO 46 (.faddr 3 45) [45], oN (.store 1 46 kF) [46]] (.seq (.blk 0 (rS [oO 48 (.faddr 2 3) [], oO 49 (.load none 48) [48], oO 50 (.bin .eql 49 (kI 2)) [49], oM 51 50 [50], oG 52 (.faddr 3 3) 51 [], oG 53 (.load none 52) 51 [52], oG 54 (.bin .eql 53 (kI 0)) 51 [53], oO 55 (.pick 51 54 kF) [51,54], oA 47 55 [55]] (.cond 47 (.seq (.dreg [⟨0, (oM 56 0 []), false, []⟩,
 ⟨1, (oO 57 (.nilc 56) []), false, []⟩,
 ⟨2, (oO 58 (.faddr 2 57) []), false, []⟩,
 ⟨3, (oO 59 (.load none 58) []), false, []⟩,
 ⟨4, (oO 60 (.faddr 4 3) []), false, []⟩,
 ⟨5, (oO 61 (.load none 60) []), false, []⟩,
 ⟨6, (oO 62 (.faddr 5 3) []), false, []⟩,
 ⟨7, (oO 63 (.load none 62) []), false, []⟩,
 ⟨8, (oO 64 (.call 167 [59,61,63]) []), true, []⟩,
 ⟨9, (oA 5 64 []), false, []⟩] [56,57,58,59,3,60,61,62,63,64])
(.seq (rS [oM 65 5 []] (.cond 65 (rR [oM 66 0 [0], oO 67 (.nilc 66) [], oO 68 (.faddr 12 67) [67], oO 69 (.load none 68) [68], oO 70 (.bin .add 69 (kI 1)) [69], oO 71 (.nilc 66) [66], oO 72 (.faddr 12 71) [71], oN (.store 1 72 70) [72,70]])
 .skip))
(rS [oM 73 5 [5], oA 4 73 [73]] .ret)))
 (rS [oO 75 (.faddr 2 3) [], oO 76 (.load none 75) [75], oO 77 (.bin .eql 76 (kI 3)) [76], oM 78 77 [77], oG 79 (.faddr 3 3) 78 [], oG 80 (.load none 79) 78 [79], oG 81 (.bin .eql 80 (kI 0)) 78 [80], oG 82 (.mv 81) 78 [81], oH 83 (.faddr 3 3) 82 [], oH 84 (.load none 83) 82 [83], oH 85 (.bin .eql 84 (kI 7)) 82 [84], oG 86 (.pick 82 kT 85) 78 [82,85], oG 87 (.mv 86) 78 [86], oH 88 (.faddr 3 3) 87 [], oH 89 (.load none 88) 87 [88], oH 90 (.bin .eql 89 (kI 2)) 87 [89], oG 91 (.pick 87 kT 90) 78 [87,90], oO 92 (.pick 78 91 kF) [78,91], oA 74 92 [92]] (.cond 74 (.seq (.seq (.dreg [⟨0, (oO 93 (.faddr 3 3) []), false, []⟩,
 ⟨1, (oO 94 (.load none 93) []), false, []⟩,
 ⟨2, (oO 95 (.bin .eql 94 (kI 0)) []), false, []⟩,
 ⟨3, (oM 96 95 []), false, []⟩,
 ⟨4, (oG 97 (.mv 0) 96 []), false, []⟩,
 ⟨5, (oG 98 (.nilc 97) 96 []), false, []⟩,
 ⟨6, (oG 99 (.faddr 2 98) 96 []), false, []⟩,
 ⟨7, (oG 100 (.load none 99) 96 []), false, []⟩,
 ⟨8, (oG 101 (.mv 0) 96 []), false, []⟩,
 ⟨9, (oG 102 (.nilc 101) 96 []), false, []⟩,
 ⟨10, (oG 103 (.faddr 4 102) 96 []), false, []⟩,
 ⟨11, (oG 104 (.faddr 4 103) 96 []), false, []⟩,
 ⟨12, (oG 105 (.load none 104) 96 []), false, []⟩,
 ⟨13, (oG 106 (.faddr 4 3) 96 []), false, []⟩,
 ⟨14, (oG 107 (.load none 106) 96 []), false, []⟩,
 ⟨15, (oG 108 (.faddr 6 3) 96 []), false, []⟩,
 ⟨16, (oG 109 (.load none 108) 96 []), false, []⟩,
 ⟨17, (oG 110 (.call 168 [100,105,107,109]) 96 []), true, []⟩,
 ⟨18, (oO 111 (.pick 96 110 kF) []), false, []⟩] [3,93,94,95,96,97,98,99,100,101,102,103,104,105,106,107,108,109,110])
(.cond 111 (rS [oA 4 kT []] .ret)
 .skip))
(rR [oM 112 0 [0], oO 113 (.nilc 112) [112], oO 114 (.faddr 2 113) [113], oO 115 (.load none 114) [114], oO 116 (.call 169 [115]) [115,116]]))
 .skip)))))
(rS [oA 4 kF []] .ret))))), [.t 4]⟩
/-- interrex/code.PutLease -/
def f113 : AFn := ⟨1, (rS [oO 1 (.box false 0) [0], oA 2 (.c .nils) [2]] (.seq (rS [oO 4 (.faddr 0 1) [], oO 5 (.load none 4) [4], oO 6 (.bin .lss 5 (kI 0)) [5], oM 7 6 [6], oH 8 (.faddr 0 1) 7 [], oH 9 (.load none 8) 7 [8], oH 10 (.bin .gtr 9 (kI 7)) 7 [9], oO 11 (.pick 7 kT 10) [7,10], oM 12 11 [11], oH 13 (.faddr 1 1) 12 [], oH 14 (.load none 13) 12 [13], oH 15 (.bin .lss 14 (kI 1)) 12 [14], oO 16 (.pick 12 kT 15) [12,15], oM 17 16 [16], oH 18 (.faddr 1 1) 17 [], oH 19 (.load none 18) 17 [18], oH 20 (.bin .gtr 19 (kI 1099511627776)) 17 [19], oO 21 (.pick 17 kT 20) [17,20]] (.cond 21 (rS [oA 2 (.c .nils) []] .ret)
 .skip))
(rS [oO 3 (.alloc true [(.i .u32 0),(.i .i32 0),(.i .u32 0),(.i .u64 0),(.i .u64 0),(.i .u64 0),(.i .u64 0),(.i .u64 0),(.i .u64 0),(.i .u64 0),(.i .u64 0),(.i .u64 0),(.i .u64 0),(.i .u64 0),(.i .u64 0),(.i .u64 0),(.i .u64 0),(.i .u64 0),(.i .u64 0),(.i .u64 0),(.i .u64 0),(.i .u64 0),(.i .u64 0),(.i .u64 0),(.i .u64 0),(.i .u64 0),(.i .u64 0),(.i .u64 0),(.i .u64 0),(.i .u64 0),(.i .u64 0),(.i .u64 0),(.i .u64 0),(.i .u64 0),(.i .u64 0),(.i .u64 0),(.i .u64 0),(.i .u64 0),(.i .u64 0),(.i .u64 0),(.i .u64 0),(.i .u64 0),(.i .u64 0),(.i .u64 0),(.i .u64 0),(.i .u64 0),(.i .u64 0),(.i .u64 0),(.i .u64 0),(.i .u64 0),(.i .u64 0),(.i .u64 0),(.i .u64 0),(.i .u64 0),(.i .u64 0),(.i .u64 0),(.i .u64 0),(.i .u64 0),(.i .u64 0),(.i .u64 0),(.i .u64 0),(.i .u64 0),(.i .u64 0),(.i .u64 0),(.i .u64 0),(.i .u64 0),(.i .u64 0),(.i .u64 0),(.i .u64 0),(.i .u64 0),(.i .u64 0),(.i .u64 0),(.i .u64 0),(.i .u64 0),(.i .u64 0),(.i .u64 0),(.i .u64 0),(.i .u64 0),(.i .u64 0),(.i .u64 0),(.i .u64 0),(.i .u64 0),(.i .u64 0),(.i .u64 0),(.i .u64 0),(.i .u64 0),(.i .u64 0),(.i .u64 0),(.i .u64 0),(.i .u64 0),(.i .u64 0),(.i .u64 0),(.i .u64 0),(.i .u64 0),(.i .u64 0),(.i .u64 0),(.i .u64 0),(.i .u64 0),(.i .u64 0),(.i .u64 0),(.i .u64 0),(.i .u64 0),(.i .u64 0),(.i .u64 0),(.i .u64 0),(.i .u64 0),(.i .u64 0),(.i .u64 0),(.i .u64 0),(.i .u64 0),(.i .u64 0),(.i .u64 0),(.i .u64 0),(.i .u64 0),(.i .u64 0),(.i .u64 0),(.i .u64 0),(.i .u64 0),(.i .u64 0),(.i .u64 0),(.i .u64 0),(.i .u64 0),(.i .u64 0),(.i .u64 0),(.i .u64 0),(.i .u64 0),(.i .u64 0),(.i .u64 0),(.i .u64 0),(.i .u64 0),(.i .u64 0),(.i .u64 0),(.i .u64 0),(.i .u64 0),(.i .u64 0),(.i .u64 0),(.i .u64 0),(.i .u64 0),(.i .u64 0),(.i .u64 0),(.i .u64 0),(.i .u64 0),(.i .u64 0),(.i .u64 0),(.i .u64 0),(.i .u64 0),(.i .u64 0),(.i .u64 0),(.i .u64 0),(.i .u64 0),(.i .u64 0),(.i .u64 0),(.i .u64 0),(.i .u64 0),(.i .u64 0),(.i .u64 0),(.i .u64 0),(.i .u64 0),(.i .u64 0),(.i .u64 0),(.i .u64 0),(.i .u64 0),(.i .u64 0),(.i .u64 0),(.i .u64 0),(.i .u64 0),(.i .u64 0),(.i .u64 0),(.i .u64 0),(.i .u64 0),(.i .u64 0),(.i .u64 0),(.i .u64 0),(.i .u64 0),(.i .u64 0),(.i .u64 0),(.i .u64 0),(.i .u64 0),(.i .u64 0),(.i .u64 0),(.i .u64 0),(.i .u64 0),(.i .u64 0),(.i .u64 0),(.i .u64 0),(.i .u64 0),(.i .u64 0),(.i .u64 0),(.i .u64 0),(.i .u64 0),(.i .u64 0),(.i .u64 0),(.i .u64 0),(.i .u64 0),(.i .u64 0),(.i .u64 0),(.i .u64 0),(.i .u64 0),(.i .u64 0),(.i .u64 0),(.i .u64 0),(.i .u64 0),(.i .u64 0),(.i .u64 0),(.i .u64 0),(.i .u64 0),(.i .u64 0),(.i .u64 0),(.i .u64 0),(.i .u64 0),(.i .u64 0),(.i .u64 0),(.i .u64 0),(.i .u64 0),(.i .u64 0),(.i .u64 0),(.i .u64 0),(.i .u64 0),(.i .u64 0),(.i .u64 0),(.i .u64 0),(.i .u64 0),(.i .u64 0),(.i .u64 0),(.i .u64 0),(.i .u64 0),(.i .u64 0),(.i .u64 0),(.i .u64 0),(.i .u64 0),(.i .u64 0),(.i .u64 0),(.i .u64 0),(.i .u64 0),(.i .u64 0),(.i .u64 0),(.i .u64 0),(.i .u64 0),(.i .u64 0),(.i .u64 0),(.i .u64 0),(.i .u64 0),(.i .u64 0),(.i .u64 0),(.i .u64 0),(.i .u64 0),(.i .u64 0),(.i .u64 0),(.i .u64 0),(.i .u64 0),(.i .u64 0),(.i .u64 0),(.i .u64 0),(.i .u64 0),(.i .u64 0),(.i .u64 0),(.i .u64 0),(.i .u64 0),(.i .u64 0),(.i .u8 0),(.i .u8 0),(.i .u8 0),(.i .u8 0),(.i .u8 0),(.i .u8 0),(.i .u8 0),(.i .u8 0),(.i .u8 0),(.i .u8 0),(.i .u8 0),(.i .u8 0),(.i .u8 0),(.i .u8 0),(.i .u8 0),(.i .u8 0),(.i .u8 0),(.i .u8 0),(.i .u8 0),(.i .u8 0),(.i .u8 0),(.i .u8 0),(.i .u8 0),(.i .u8 0),(.i .u8 0),(.i .u8 0),(.i .u8 0),(.i .u8 0),(.i .u8 0),(.i .u8 0),(.i .u8 0),(.i .u8 0),(.i .u8 0),(.i .u8 0),(.i .u8 0),(.i .u8 0),(.i .u8 0),(.i .u8 0),.nils]) []] (rS [oO 22 (.call 170 [3,(kI 3),(kI 1)]) [22]] (rS [oO 23 (.faddr 0 1) [], oO 24 (.load none 23) [23], oO 25 (.call 170 [3,24,(kI 1)]) [24,25]] (rS [oO 26 (.faddr 1 1) [1], oO 27 (.load none 26) [26], oO 28 (.call 170 [3,27,(kI 8)]) [27,28]] (rS [oO 29 (.call 171 [3]) [3], oA 2 29 [29]] .ret))))))), [.t 2]⟩
/-- ( interrex/assume.Assume).Put -/
def f114 : AFn := ⟨5, (rS [oO 6 (.box false 1) [1], oA 10 kF [10]] (.seq (rS [oM 11 0 [], oO 12 (.eqn false 11 (.c .nilp)) [11], oM 13 12 [12], oH 14 (.mv 0) 13 [], oH 15 (.nilc 14) 13 [14], oH 16 (.faddr 0 15) 13 [15], oH 17 (.load none 16) 13 [16], oH 18 (.lenL 17) 13 [17], oH 19 (.bin .geq 18 (kI 40)) 13 [18], oO 20 (.pick 13 kT 19) [13,19], oM 21 20 [20], oH 22 (.faddr 1 6) 21 [], oH 23 (.load none 22) 21 [22], oH 24 (.bin .eql 23 (.c vS)) 21 [23], oO 25 (.pick 21 kT 24) [21,24], oM 26 25 [25], oH 27 (.mv 0) 26 [], oH 28 (.faddr 0 6) 26 [], oH 29 (.load none 28) 26 [28], oH 30 (.call 128 [27,29]) 26 [27,29], oO 31 (.pick 26 kT 30) [26,30]] (.cond 31 (rS [oA 10 kF []] .ret)
 .skip))
(.seq (.dreg [⟨0, (oM 32 0 []), false, []⟩,
 ⟨1, (oM 33 0 []), false, []⟩,
 ⟨2, (oO 34 (.nilc 33) []), false, []⟩,
 ⟨3, (oO 35 (.faddr 0 34) []), false, []⟩,
 ⟨4, (oO 36 (.load none 35) []), false, []⟩,
 ⟨5, (oO 37 (.load (some 3) 6) []), false, []⟩,
 ⟨7, (oM 39 2 []), false, []⟩,
 ⟨8, (oM 40 3 []), false, []⟩,
 ⟨9, (oM 41 4 []), false, []⟩,
 ⟨6, (oO 38 (.call 172 [37]) []), true, [4]⟩,
 ⟨10, (oO 42 (.bld [vS,vS,.nils,(vI 0),(vI 0),(vI 0)] [(0, 3, 38),(3, 1, 39),(4, 1, 40),(5, 1, 41)]) []), false, []⟩,
 ⟨11, (oO 43 (.bsl (.mu true) 6 1 [vS,vS,.nils,(vI 0),(vI 0),(vI 0)] [(0, 42)]) []), true, [4]⟩,
 ⟨12, (oO 44 (.append (.mu true) 6 80 36 43) []), true, []⟩,
 ⟨13, (oO 45 (.nilc 32) []), false, []⟩,
 ⟨14, (oO 46 (.faddr 0 45) []), false, []⟩,
 ⟨15, (oN (.store 1 46 44) []), true, []⟩] [0,32,33,34,35,36,6,37,38,2,39,3,40,4,41,42,43,44,45,46])
(rS [oA 10 kT []] .ret)))), [.t 10]⟩
/-- ( interrex/elect.Elect).See -/
def f115 : AFn := ⟨5, (rS [oO 8 (.box false 3) [3]] (.seq (rS [oM 10 0 [], oO 11 (.eqn false 10 (.c .nilp)) [10]] (.cond 11 .ret
 .skip))
(.seq (rS [oM 12 4 [], oO 13 (.un .not 12) [12]] (.cond 13 (rR [oO 14 (.bld [(vI 0),(vI 0)] []) [], oA 2 (kI 0) [], oN (.store 2 8 14) [14]])
 .skip))
(.seq (rS [oM 15 0 [], oO 16 (.nilc 15) [15], oO 17 (.faddr 1 16) [16], oO 18 (.load none 17) [17], oM 19 18 [18], oG 20 (.mv 2) 19 [], oG 21 (.mv 0) 19 [], oG 22 (.nilc 21) 19 [21], oG 23 (.faddr 3 22) 19 [22], oG 24 (.load none 23) 19 [23], oG 25 (.bin .lss 20 24) 19 [20,24], oO 26 (.pick 19 25 kF) [19,25]] (.cond 26 .ret
 .skip))
(.seq (rS [oM 27 0 [], oO 28 (.nilc 27) [27], oO 29 (.faddr 1 28) [28], oO 30 (.load none 29) [29], oO 31 (.un .not 30) [30], oM 32 31 [31], oH 33 (.mv 2) 32 [], oH 34 (.mv 0) 32 [], oH 35 (.nilc 34) 32 [34], oH 36 (.faddr 3 35) 32 [35], oH 37 (.load none 36) 32 [36], oH 38 (.bin .neq 33 37) 32 [33,37], oO 39 (.pick 32 kT 38) [32,38]] (.cond 39 (rR [oM 40 0 [], oM 41 1 [1], oO 42 (.nilc 40) [40], oO 43 (.faddr 6 42) [42], oN (.store 1 43 41) [43,41]])
 .skip))
(.seq (.dreg [⟨0, (oM 44 0 []), false, []⟩,
 ⟨1, (oM 45 0 []), false, []⟩,
 ⟨2, (oM 46 0 []), false, []⟩,
 ⟨3, (oM 47 0 []), false, []⟩,
 ⟨4, (oM 48 4 []), false, []⟩,
 ⟨5, (oM 49 2 []), false, []⟩,
 ⟨6, (oO 50 (.load (some 2) 8) []), false, []⟩,
 ⟨7, (oO 51 (.nilc 44) []), false, []⟩,
 ⟨8, (oO 52 (.faddr 1 51) []), false, []⟩,
 ⟨9, (oN (.store 1 52 kT) []), true, [6]⟩,
 ⟨10, (oO 53 (.nilc 45) []), false, []⟩,
 ⟨11, (oO 54 (.faddr 2 53) []), false, []⟩,
 ⟨12, (oN (.store 1 54 48) []), true, [6]⟩,
 ⟨13, (oO 55 (.nilc 46) []), false, []⟩,
 ⟨14, (oO 56 (.faddr 3 55) []), false, []⟩,
 ⟨15, (oN (.store 1 56 49) []), true, [6]⟩,
 ⟨16, (oO 57 (.nilc 47) []), false, []⟩,
 ⟨17, (oO 58 (.faddr 4 57) []), false, []⟩,
 ⟨18, (oN (.store 2 58 50) []), true, []⟩] [44,45,46,47,48,49,50,51,52,53,54,55,56,57,58])
(.seq (.dreg [⟨0, (oM 59 0 []), false, []⟩,
 ⟨1, (oO 60 (.nilc 59) []), false, []⟩,
 ⟨2, (oO 61 (.faddr 9 60) []), false, []⟩,
 ⟨3, (oO 62 (.load none 61) []), false, []⟩,
 ⟨4, (oO 63 (.bin .gtr 62 (kI 0)) []), false, []⟩,
 ⟨5, (oM 64 63 []), false, []⟩,
 ⟨6, (oG 65 (.mv 0) 64 []), false, []⟩,
 ⟨7, (oG 66 (.nilc 65) 64 []), false, []⟩,
 ⟨8, (oG 67 (.faddr 9 66) 64 []), false, []⟩,
 ⟨9, (oG 68 (.load none 67) 64 []), false, []⟩,
 ⟨10, (oG 69 (.mv 2) 64 []), false, []⟩,
 ⟨11, (oG 70 (.bin .lss 68 69) 64 []), false, []⟩,
 ⟨12, (oO 71 (.pick 64 70 kF) []), false, []⟩,
 ⟨13, (oM 72 71 []), false, []⟩,
 ⟨14, (oG 73 (.mv 4) 72 []), false, []⟩,
 ⟨15, (oG 74 (.un .not 73) 72 []), false, []⟩,
 ⟨16, (oG 75 (.mv 74) 72 []), false, []⟩,
 ⟨17, (oH 76 (.faddr 0 8) 75 []), false, []⟩,
 ⟨18, (oH 77 (.load none 76) 75 []), false, []⟩,
 ⟨19, (oH 78 (.mv 0) 75 []), false, []⟩,
 ⟨20, (oH 79 (.nilc 78) 75 []), false, []⟩,
 ⟨21, (oH 80 (.faddr 0 79) 75 []), false, []⟩,
 ⟨22, (oH 81 (.load none 80) 75 []), false, []⟩,
 ⟨23, (oH 82 (.bin .neq 77 81) 75 []), false, []⟩,
 ⟨24, (oG 83 (.pick 75 kT 82) 72 []), false, []⟩,
 ⟨25, (oO 84 (.pick 72 83 kF) []), false, []⟩] [59,60,61,62,63,64,65,66,67,68,2,69,70,71,72,4,73,74,75,8,76,77,78,79,80,81,82,83])
(.cond 84 (rR [oM 85 0 [0], oO 86 (.call 173 [85]) [85,86]])
 .skip)))))))), []⟩
/-- ( interrex/elect.Elect).Want -/
def f116 : AFn := ⟨2, (rS [oO 4 (.alloc false [.nils,.nils]) [], oA 5 kF [5]] (.seq (rS [oM 8 0 [], oO 9 (.eqn false 8 (.c .nilp)) [8], oM 10 9 [9], oH 11 (.mv 0) 10 [], oH 12 (.nilc 11) 10 [11], oH 13 (.faddr 7 12) 10 [12], oH 14 (.load none 13) 10 [13], oH 15 (.mv 14) 10 [14], oG 16 (.mv 1) 15 [], oG 17 (.mv 0) 15 [], oG 18 (.nilc 17) 15 [17], oG 19 (.faddr 8 18) 15 [18], oG 20 (.load none 19) 15 [19], oG 21 (.call 174 [16,20]) 15 [16,20], oG 22 (.un .not 21) 15 [21], oH 23 (.pick 15 22 kF) 10 [15,22], oO 24 (.pick 10 kT 23) [10,23]] (.cond 24 (rS [oO 25 (.bld [.nils,.nils] []) [], oN (.store 2 4 25) [25], oA 5 kF []] .ret)
 .skip))
(rS [oM 26 0 [], oO 27 (.nilc 26) [26], oO 28 (.faddr 7 27) [27], oN (.store 1 28 kF) [28]] (.seq (rS [oM 29 0 [], oM 30 1 [], oO 31 (.call 175 [29,30]) [29,30], oO 32 (.un .not 31) [31]] (.cond 32 (rS [oO 33 (.bld [.nils,.nils] []) [], oN (.store 2 4 33) [33], oA 5 kF []] .ret)
 .skip))
(rS [oM 34 0 [], oM 35 0 [], oM 36 1 [1], oO 37 (.nilc 34) [34], oO 38 (.faddr 7 37) [37], oN (.store 1 38 kT) [38], oO 39 (.nilc 35) [35], oO 40 (.faddr 8 39) [39], oN (.store 1 40 36) [40,36]] (rS [oO 41 (.call 176 [(kI 3),(.c vS)]) [], oA 6 41 [41]] (rS [oM 42 0 [], oO 43 (.nilc 42) [42], oO 44 (.faddr 0 43) [43], oO 45 (.load none 44) [44], oO 46 (.bld [(vI 0),(vI 0)] [(0, 1, 45),(1, 1, (kI 1000))]) [45], oO 47 (.call 113 [46]) [46], oA 7 47 [47]] (rS [oM 48 6 [], oM 49 0 [0], oO 50 (.nilc 49) [49], oO 51 (.faddr 3 50) [50], oO 52 (.load none 51) [51], oO 53 (.bld [vS,(vI 0),(.b false)] [(0, 1, 48),(1, 1, 52)]) [48,52], oO 54 (.bsl (.im false) 3 1 [vS,(vI 0),(.b false)] [(0, 53)]) [53], oM 55 6 [6], oM 56 7 [7], oO 57 (.bld [vS,.nils,(.b false)] [(0, 1, 55),(1, 1, 56)]) [55,56], oO 58 (.bsl (.im false) 3 1 [vS,.nils,(.b false)] [(0, 57)]) [57], oO 59 (.bld [.nils,.nils] [(0, 1, 54),(1, 1, 58)]) [54,58], oN (.store 2 4 59) [59], oA 5 kT []] .ret)))))))), [.cell 4 (some 2),.t 5]⟩
/-- ( interrex/elect.Elect).Told -/
def f117 : AFn := ⟨4, (.seq (rS [oM 8 0 [], oO 9 (.eqn false 8 (.c .nilp)) [8], oM 10 9 [9], oH 11 (.mv 0) 10 [], oH 12 (.nilc 11) 10 [11], oH 13 (.faddr 7 12) 10 [12], oH 14 (.load none 13) 10 [13], oH 15 (.un .not 14) 10 [14], oO 16 (.pick 10 kT 15) [10,15]] (.cond 16 .ret
 .skip))
(rS [oM 17 0 [], oO 18 (.nilc 17) [17], oO 19 (.faddr 7 18) [18], oN (.store 1 19 kF) [19]] (rS [oM 20 3 [3]] (.blk 0 (rS [oO 22 (.bin .eql 20 (kI 0)) [], oA 21 22 [22]] (.cond 21 (rS [oM 23 0 [], oM 24 0 [], oM 25 2 [], oM 26 0 [], oO 27 (.nilc 26) [26], oO 28 (.faddr 8 27) [27], oO 29 (.load none 28) [28], oO 30 (.nilc 23) [23], oO 31 (.faddr 9 30) [30], oN (.store 1 31 25) [31,25], oO 32 (.nilc 24) [24], oO 33 (.faddr 10 32) [32], oN (.store 1 33 29) [33,29]] (rS [oM 34 0 [], oM 35 0 [], oM 36 0 [], oM 37 0 [], oM 38 2 [2], oM 39 1 [1], oO 40 (.nilc 34) [34], oO 41 (.faddr 1 40) [40], oN (.store 1 41 kT) [41], oO 42 (.nilc 35) [35], oO 43 (.faddr 2 42) [42], oN (.store 1 43 kT) [43], oO 44 (.nilc 36) [36], oO 45 (.faddr 3 44) [44], oN (.store 1 45 38) [45,38], oO 46 (.nilc 37) [37], oO 47 (.faddr 6 46) [46], oN (.store 1 47 39) [47,39]] (rR [oM 48 0 [], oM 49 0 [0], oO 50 (.nilc 49) [49], oO 51 (.faddr 0 50) [50], oO 52 (.load none 51) [51], oO 53 (.bld [(vI 0),(vI 0)] [(0, 1, 52),(1, 1, (kI 1000))]) [52], oO 54 (.nilc 48) [48], oO 55 (.faddr 4 54) [54], oN (.store 2 55 53) [55,53]])))
 (rS [oO 57 (.bin .eql 20 (kI 6)) [20], oA 56 57 [57]] (.cond 56 (rR [oM 58 0 [0], oO 59 (.call 173 [58]) [58,59]])
 .skip)))))))), []⟩
/-- interrex/state.Of -/
def f118 : AFn := ⟨1, (rS [oO 2 (.alloc false [.nils,.nils]) [], oA 3 kF [3]] (rS [oO 4 (.alloc false [.nils,.nils]) []] (.seq (rS [oM 12 0 [0], oO 13 (.lenL 12) [], oM 14 (kI 0) []] (.blk 0 (.loop (rS [oO 15 (.bin .lss 14 13) []] (.seq (.cond 15 .skip
 (.exit 0))
(.seq (.blk 1 (rS [oO 16 (.iasl 3 12 14) [], oO 17 (.load (some 3) 16) [16], oO 6 (.alloc false [vS,(vI 0),.nils]) [], oN (.store 3 6 17) [17]] (rS [oA 7 kT []] (.seq (rS [oO 18 (.faddr 0 6) [], oO 19 (.load none 18) [18], oO 20 (.call 177 [19]) [19]] (.blk 2 (rS [oO 22 (.bin .eql 20 (kI 1)) [], oA 21 22 [22]] (.cond 21 (rS [oO 8 (.alloc false [vS,(vI 0),(vI 0),(vI 0),(vI 0),(vI 0),.nils,.nils,.nils,.nils,vS,.nils,(vI 0),.nils,vS,(vI 0)]) []] (rS [oO 24 (.faddr 2 6) [], oO 25 (.load none 24) [24], oO 26 (.call 178 [25]) [25], oM 23 26 [26], oO 27 (.ext 23 0) [], oO 28 (.ext 23 1) [23], oN (.store 16 8 27) [27], oA 7 28 [28]] (.seq (.dreg [⟨0, (oM 29 7 []), false, []⟩,
 ⟨1, (oM 30 29 []), false, []⟩,
 ⟨2, (oG 31 (.faddr 0 8) 30 []), false, []⟩,
 ⟨3, (oG 32 (.load none 31) 30 []), false, []⟩,
 ⟨5, (oG 34 (.faddr 0 6) 30 []), false, []⟩,
 ⟨6, (oG 35 (.load none 34) 30 []), false, []⟩,
 ⟨4, (oG 33 (.call 176 [(kI 1),32]) 30 []), true, [6]⟩,
 ⟨7, (oG 36 (.bin .eql 33 35) 30 []), false, []⟩,
 ⟨8, (oO 37 (.pick 30 36 kF) []), false, []⟩,
 ⟨9, (oA 7 37 []), true, []⟩] [29,30,31,32,33,6,34,35,36,37])
(rR [oO 38 (.faddr 1 4) [], oO 39 (.load none 38) [38], oO 40 (.load (some 16) 8) [8], oO 41 (.bsl (.mu true) 16 1 [vS,(vI 0),(vI 0),(vI 0),(vI 0),(vI 0),.nils,.nils,.nils,.nils,vS,.nils,(vI 0),.nils,vS,(vI 0)] [(0, 40)]) [40], oO 42 (.append (.mu true) 16 248 39 41) [39,41], oO 43 (.faddr 1 4) [], oN (.store 1 43 42) [43,42]]))))
 (rS [oO 45 (.bin .eql 20 (kI 2)) [20], oA 44 45 [45]] (.cond 44 (rS [oO 9 (.alloc false [vS,(vI 0),(vI 0),(vI 0),.nils,.nils]) []] (rS [oO 47 (.faddr 2 6) [], oO 48 (.load none 47) [47], oO 49 (.call 179 [48]) [48], oM 46 49 [49], oO 50 (.ext 46 0) [], oO 51 (.ext 46 1) [46], oN (.store 6 9 50) [50], oA 7 51 [51]] (.seq (.dreg [⟨0, (oM 52 7 []), false, []⟩,
 ⟨1, (oM 53 52 []), false, []⟩,
 ⟨2, (oG 54 (.faddr 0 9) 53 []), false, []⟩,
 ⟨3, (oG 55 (.load none 54) 53 []), false, []⟩,
 ⟨5, (oG 57 (.faddr 0 6) 53 []), false, []⟩,
 ⟨6, (oG 58 (.load none 57) 53 []), false, []⟩,
 ⟨4, (oG 56 (.call 176 [(kI 2),55]) 53 []), true, [6]⟩,
 ⟨7, (oG 59 (.bin .eql 56 58) 53 []), false, []⟩,
 ⟨8, (oO 60 (.pick 53 59 kF) []), false, []⟩,
 ⟨9, (oA 7 60 []), true, []⟩] [52,53,54,55,56,6,57,58,59,60])
(rR [oO 61 (.faddr 0 4) [], oO 62 (.load none 61) [61], oO 63 (.load (some 6) 9) [9], oO 64 (.bsl (.mu true) 6 1 [vS,(vI 0),(vI 0),(vI 0),.nils,.nils] [(0, 63)]) [63], oO 65 (.append (.mu true) 6 88 62 64) [62,64], oO 66 (.faddr 0 4) [], oN (.store 1 66 65) [66,65]]))))
 .skip))))))
(rS [oM 67 7 [7], oO 68 (.un .not 67) [67]] (.cond 68 (rS [oO 69 (.bld [.nils,.nils] []) [], oN (.store 2 2 69) [69], oA 3 kF []] .ret)
 .skip))))))
(rR [oO 70 (.bin .add 14 (kI 1)) [14], oM 14 70 [70]])))))))
(rS [oO 71 (.faddr 1 4) [], oO 72 (.load none 71) [71], oO 73 (.call 180 [72,(.c (.fn 181 [] []))]) [72,73]] (rS [oO 74 (.faddr 0 4) [], oO 75 (.load none 74) [74], oO 76 (.call 182 [75,(.c (.fn 183 [] []))]) [75,76]] (.seq (rS [oA 10 (kI 1) []] (.blk 3 (.loop (.seq (rS [oM 77 10 [], oO 78 (.faddr 1 4) [], oO 79 (.load none 78) [78], oO 80 (.lenL 79) [79], oO 81 (.bin .lss 77 80) [77,80]] (.cond 81 .skip
 (.exit 3)))
(.seq (.blk 4 (.seq (.dreg [⟨0, (oO 84 (.faddr 1 4) []), false, []⟩,
 ⟨1, (oO 85 (.load none 84) []), false, []⟩,
 ⟨2, (oM 86 10 []), false, []⟩,
 ⟨3, (oO 87 (.iasl 16 85 86) []), false, []⟩,
 ⟨4, (oO 88 (.faddr 0 87) []), false, []⟩,
 ⟨5, (oO 89 (.load none 88) []), false, []⟩,
 ⟨6, (oO 90 (.faddr 1 4) []), false, []⟩,
 ⟨7, (oO 91 (.load none 90) []), false, []⟩,
 ⟨8, (oM 92 10 []), false, []⟩,
 ⟨9, (oO 93 (.bin .sub 92 (kI 1)) []), false, []⟩,
 ⟨10, (oO 94 (.iasl 16 91 93) []), false, []⟩,
 ⟨11, (oO 95 (.faddr 0 94) []), false, []⟩,
 ⟨12, (oO 96 (.load none 95) []), false, []⟩,
 ⟨13, (oO 97 (.bin .eql 89 96) []), false, []⟩] [84,85,86,87,88,89,90,91,92,93,94,95,96])
(.cond 97 (rS [oO 98 (.bld [.nils,.nils] []) [], oN (.store 2 2 98) [98], oA 3 kF []] .ret)
 .skip)))
(rR [oM 82 10 [10], oO 83 (.bin .add 82 (kI 1)) [82], oA 10 83 [83]]))))))
(.seq (rS [oA 11 (kI 1) []] (.blk 5 (.loop (.seq (rS [oM 99 11 [], oO 100 (.faddr 0 4) [], oO 101 (.load none 100) [100], oO 102 (.lenL 101) [101], oO 103 (.bin .lss 99 102) [99,102]] (.cond 103 .skip
 (.exit 5)))
(.seq (.blk 6 (.seq (.dreg [⟨0, (oO 106 (.faddr 0 4) []), false, []⟩,
 ⟨1, (oO 107 (.load none 106) []), false, []⟩,
 ⟨2, (oM 108 11 []), false, []⟩,
 ⟨3, (oO 109 (.iasl 6 107 108) []), false, []⟩,
 ⟨4, (oO 110 (.faddr 0 109) []), false, []⟩,
 ⟨5, (oO 111 (.load none 110) []), false, []⟩,
 ⟨6, (oO 112 (.faddr 0 4) []), false, []⟩,
 ⟨7, (oO 113 (.load none 112) []), false, []⟩,
 ⟨8, (oM 114 11 []), false, []⟩,
 ⟨9, (oO 115 (.bin .sub 114 (kI 1)) []), false, []⟩,
 ⟨10, (oO 116 (.iasl 6 113 115) []), false, []⟩,
 ⟨11, (oO 117 (.faddr 0 116) []), false, []⟩,
 ⟨12, (oO 118 (.load none 117) []), false, []⟩,
 ⟨13, (oO 119 (.bin .eql 111 118) []), false, []⟩] [106,107,108,109,110,111,112,113,114,115,116,117,118])
(.cond 119 (rS [oO 120 (.bld [.nils,.nils] []) [], oN (.store 2 2 120) [120], oA 3 kF []] .ret)
 .skip)))
(rR [oM 104 11 [11], oO 105 (.bin .add 104 (kI 1)) [104], oA 11 105 [105]]))))))
(rS [oO 121 (.load (some 2) 4) [4], oN (.store 2 2 121) [121], oA 3 kT []] .ret)))))))), [.cell 2 (some 2),.t 3]⟩
/-- interrex/code.PutPod -/
def f119 : AFn := ⟨1, (rS [oO 1 (.box false 0) [0], oA 2 (.c .nils) [2]] (.seq (rS [oO 8 (.load (some 16) 1) [], oO 9 (.call 184 [8]) [8], oO 10 (.un .not 9) [9]] (.cond 10 (rS [oA 2 (.c .nils) []] .ret)
 .skip))
(rS [oO 3 (.alloc true [(.i .u32 0),(.i .i32 0),(.i .u32 0),(.i .u64 0),(.i .u64 0),(.i .u64 0),(.i .u64 0),(.i .u64 0),(.i .u64 0),(.i .u64 0),(.i .u64 0),(.i .u64 0),(.i .u64 0),(.i .u64 0),(.i .u64 0),(.i .u64 0),(.i .u64 0),(.i .u64 0),(.i .u64 0),(.i .u64 0),(.i .u64 0),(.i .u64 0),(.i .u64 0),(.i .u64 0),(.i .u64 0),(.i .u64 0),(.i .u64 0),(.i .u64 0),(.i .u64 0),(.i .u64 0),(.i .u64 0),(.i .u64 0),(.i .u64 0),(.i .u64 0),(.i .u64 0),(.i .u64 0),(.i .u64 0),(.i .u64 0),(.i .u64 0),(.i .u64 0),(.i .u64 0),(.i .u64 0),(.i .u64 0),(.i .u64 0),(.i .u64 0),(.i .u64 0),(.i .u64 0),(.i .u64 0),(.i .u64 0),(.i .u64 0),(.i .u64 0),(.i .u64 0),(.i .u64 0),(.i .u64 0),(.i .u64 0),(.i .u64 0),(.i .u64 0),(.i .u64 0),(.i .u64 0),(.i .u64 0),(.i .u64 0),(.i .u64 0),(.i .u64 0),(.i .u64 0),(.i .u64 0),(.i .u64 0),(.i .u64 0),(.i .u64 0),(.i .u64 0),(.i .u64 0),(.i .u64 0),(.i .u64 0),(.i .u64 0),(.i .u64 0),(.i .u64 0),(.i .u64 0),(.i .u64 0),(.i .u64 0),(.i .u64 0),(.i .u64 0),(.i .u64 0),(.i .u64 0),(.i .u64 0),(.i .u64 0),(.i .u64 0),(.i .u64 0),(.i .u64 0),(.i .u64 0),(.i .u64 0),(.i .u64 0),(.i .u64 0),(.i .u64 0),(.i .u64 0),(.i .u64 0),(.i .u64 0),(.i .u64 0),(.i .u64 0),(.i .u64 0),(.i .u64 0),(.i .u64 0),(.i .u64 0),(.i .u64 0),(.i .u64 0),(.i .u64 0),(.i .u64 0),(.i .u64 0),(.i .u64 0),(.i .u64 0),(.i .u64 0),(.i .u64 0),(.i .u64 0),(.i .u64 0),(.i .u64 0),(.i .u64 0),(.i .u64 0),(.i .u64 0),(.i .u64 0),(.i .u64 0),(.i .u64 0),(.i .u64 0),(.i .u64 0),(.i .u64 0),(.i .u64 0),(.i .u64 0),(.i .u64 0),(.i .u64 0),(.i .u64 0),(.i .u64 0),(.i .u64 0),(.i .u64 0),(.i .u64 0),(.i .u64 0),(.i .u64 0),(.i .u64 0),(.i .u64 0),(.i .u64 0),(.i .u64 0),(.i .u64 0),(.i .u64 0),(.i .u64 0),(.i .u64 0),(.i .u64 0),(.i .u64 0),(.i .u64 0),(.i .u64 0),(.i .u64 0),(.i .u64 0),(.i .u64 0),(.i .u64 0),(.i .u64 0),(.i .u64 0),(.i .u64 0),(.i .u64 0),(.i .u64 0),(.i .u64 0),(.i .u64 0),(.i .u64 0),(.i .u64 0),(.i .u64 0),(.i .u64 0),(.i .u64 0),(.i .u64 0),(.i .u64 0),(.i .u64 0),(.i .u64 0),(.i .u64 0),(.i .u64 0),(.i .u64 0),(.i .u64 0),(.i .u64 0),(.i .u64 0),(.i .u64 0),(.i .u64 0),(.i .u64 0),(.i .u64 0),(.i .u64 0),(.i .u64 0),(.i .u64 0),(.i .u64 0),(.i .u64 0),(.i .u64 0),(.i .u64 0),(.i .u64 0),(.i .u64 0),(.i .u64 0),(.i .u64 0),(.i .u64 0),(.i .u64 0),(.i .u64 0),(.i .u64 0),(.i .u64 0),(.i .u64 0),(.i .u64 0),(.i .u64 0),(.i .u64 0),(.i .u64 0),(.i .u64 0),(.i .u64 0),(.i .u64 0),(.i .u64 0),(.i .u64 0),(.i .u64 0),(.i .u64 0),(.i .u64 0),(.i .u64 0),(.i .u64 0),(.i .u64 0),(.i .u64 0),(.i .u64 0),(.i .u64 0),(.i .u64 0),(.i .u64 0),(.i .u64 0),(.i .u64 0),(.i .u64 0),(.i .u64 0),(.i .u64 0),(.i .u64 0),(.i .u64 0),(.i .u64 0),(.i .u64 0),(.i .u64 0),(.i .u64 0),(.i .u64 0),(.i .u64 0),(.i .u64 0),(.i .u64 0),(.i .u64 0),(.i .u64 0),(.i .u64 0),(.i .u64 0),(.i .u64 0),(.i .u64 0),(.i .u64 0),(.i .u64 0),(.i .u64 0),(.i .u64 0),(.i .u64 0),(.i .u64 0),(.i .u64 0),(.i .u64 0),(.i .u64 0),(.i .u64 0),(.i .u64 0),(.i .u64 0),(.i .u64 0),(.i .u64 0),(.i .u64 0),(.i .u64 0),(.i .u64 0),(.i .u64 0),(.i .u64 0),(.i .u64 0),(.i .u64 0),(.i .u64 0),(.i .u64 0),(.i .u64 0),(.i .u64 0),(.i .u64 0),(.i .u8 0),(.i .u8 0),(.i .u8 0),(.i .u8 0),(.i .u8 0),(.i .u8 0),(.i .u8 0),(.i .u8 0),(.i .u8 0),(.i .u8 0),(.i .u8 0),(.i .u8 0),(.i .u8 0),(.i .u8 0),(.i .u8 0),(.i .u8 0),(.i .u8 0),(.i .u8 0),(.i .u8 0),(.i .u8 0),(.i .u8 0),(.i .u8 0),(.i .u8 0),(.i .u8 0),(.i .u8 0),(.i .u8 0),(.i .u8 0),(.i .u8 0),(.i .u8 0),(.i .u8 0),(.i .u8 0),(.i .u8 0),(.i .u8 0),(.i .u8 0),(.i .u8 0),(.i .u8 0),(.i .u8 0),(.i .u8 0),.nils]) []] (rS [oO 11 (.call 170 [3,(kI 1),(kI 1)]) [11]] (rS [oO 12 (.faddr 0 1) [], oO 13 (.load none 12) [12], oO 14 (.call 185 [3,13]) [13,14]] (rS [oO 15 (.faddr 1 1) [], oO 16 (.load none 15) [15], oO 17 (.call 170 [3,16,(kI 8)]) [16,17]] (rS [oO 18 (.faddr 2 1) [], oO 19 (.load none 18) [18], oO 20 (.call 170 [3,19,(kI 2)]) [19,20]] (rS [oO 21 (.faddr 3 1) [], oO 22 (.load (some 3) 21) [21], oO 23 (.call 186 [3,22]) [22,23]] (rS [oO 24 (.faddr 6 1) [], oO 25 (.load none 24) [24], oO 26 (.lenL 25) [25], oO 27 (.call 170 [3,26,(kI 1)]) [26,27]] (.seq (rS [oO 28 (.faddr 6 1) [], oO 29 (.load none 28) [28], oO 30 (.lenL 29) [], oM 31 (kI 0) []] (.blk 0 (.loop (rS [oO 32 (.bin .lss 31 30) []] (.seq (.cond 32 .skip
 (.exit 0))
(.seq (.blk 1 (rS [oO 33 (.iasl 1 29 31) [], oO 34 (.load none 33) [33], oA 5 34 [34]] (rR [oM 35 5 [5], oO 36 (.call 170 [3,35,(kI 2)]) [35,36]])))
(rR [oO 37 (.bin .add 31 (kI 1)) [31], oM 31 37 [37]])))))))
(rS [oO 38 (.faddr 7 1) [], oO 39 (.load none 38) [38], oO 40 (.call 187 [3,39,(.c (.fn 188 [] []))]) [39,40]] (rS [oO 41 (.faddr 8 1) [], oO 42 (.load none 41) [41], oO 43 (.call 189 [3,42]) [42,43]] (rS [oO 44 (.faddr 9 1) [], oO 45 (.load none 44) [44], oO 46 (.lenL 45) [45], oO 47 (.call 170 [3,46,(kI 1)]) [46,47]] (.seq (rS [oO 48 (.faddr 9 1) [], oO 49 (.load none 48) [48], oO 50 (.lenL 49) [], oM 51 (kI 0) []] (.blk 2 (.loop (rS [oO 52 (.bin .lss 51 50) []] (.seq (.cond 52 .skip
 (.exit 2))
(.seq (.blk 3 (rS [oO 53 (.iasl 3 49 51) [], oO 54 (.load (some 3) 53) [53], oO 7 (.alloc false [vS,vS,(.b false)]) [], oN (.store 3 7 54) [54]] (rS [oO 55 (.faddr 0 7) [], oO 56 (.load none 55) [55], oO 57 (.call 185 [3,56]) [56,57]] (rS [oO 58 (.faddr 1 7) [], oO 59 (.load none 58) [58], oO 60 (.call 185 [3,59]) [59,60]] (rR [oO 61 (.faddr 2 7) [7], oO 62 (.load none 61) [61], oO 63 (.call 190 [3,62]) [62,63]])))))
(rR [oO 64 (.bin .add 51 (kI 1)) [51], oM 51 64 [64]])))))))
(rS [oO 65 (.faddr 10 1) [], oO 66 (.load none 65) [65], oO 67 (.call 185 [3,66]) [66,67]] (rS [oO 68 (.faddr 11 1) [], oO 69 (.load none 68) [68], oO 70 (.call 189 [3,69]) [69,70]] (rS [oO 71 (.faddr 12 1) [], oO 72 (.load none 71) [71], oO 73 (.call 170 [3,72,(kI 1)]) [72,73]] (rS [oO 74 (.faddr 13 1) [], oO 75 (.load none 74) [74], oO 76 (.call 189 [3,75]) [75,76]] (rS [oO 77 (.faddr 14 1) [], oO 78 (.load none 77) [77], oO 79 (.call 185 [3,78]) [78,79]] (rS [oO 80 (.faddr 15 1) [1], oO 81 (.load none 80) [80], oO 82 (.call 170 [3,81,(kI 8)]) [81,82]] (rS [oO 83 (.call 171 [3]) [3], oA 2 83 [83]] .ret))))))))))))))))))))), [.t 2]⟩
/-- interrex/interrexlaw1.Some -/
def f120 : AFn := ⟨0, (rS [oO 0 (.alloc false [vS,(vI 0),(vI 0),(vI 0),(vI 0),(vI 0),.nils,.nils,.nils,.nils,vS,.nils,(vI 0),.nils,vS,(vI 0)]) []] (rS [oO 1 (.bld [(vI 0),(vI 0),(vI 0)] [(0, 1, (kI 2)),(1, 1, (kI 3)),(2, 1, (kI 0))]) [], oO 2 (.bsl (.im false) 1 2 [(vI 0)] [(0, (kI 80)),(1, (kI 443))]) [], oO 3 (.bld [vS,vS] [(0, 1, (.c (.s [97,112,112]))),(1, 1, (.c (.s [120])))]) [], oO 4 (.bsl (.im false) 2 1 [vS,vS] [(0, 3)]) [3], oO 5 (.bsl (.im false) 1 2 [vS] [(0, (.c (.s [97]))),(1, (.c (.s [98])))]) [], oO 6 (.bld [vS,(vI 0),.nils] [(0, 1, (.c (.s [122,111,110,101]))),(1, 1, (kI 1)),(2, 1, 5)]) [5], oO 7 (.bsl (.im false) 3 1 [vS,(vI 0),.nils] [(0, 6)]) [6], oO 8 (.bld [vS,vS,(.b false)] [(2, 1, kT)]) [], oO 9 (.bsl (.im false) 3 1 [vS,vS,(.b false)] [(0, 8)]) [8], oO 10 (.bld [vS,(vI 0),.nils] [(0, 1, (.c (.s [97,112,112]))),(1, 1, (kI 3))]) [], oO 11 (.bsl (.im false) 3 1 [vS,(vI 0),.nils] [(0, 10)]) [10], oO 12 (.bld [vS,(vI 0),(vI 0),(vI 0),(vI 0),(vI 0),.nils,.nils,.nils,.nils,vS,.nils,(vI 0),.nils,vS,(vI 0)] [(0, 1, (.c (.s [97]))),(1, 1, (kI 7)),(2, 1, (kI 3)),(3, 3, 1),(6, 1, 2),(7, 1, 4),(8, 1, 7),(9, 1, 9),(10, 1, (.c (.s [122,111,110,101]))),(11, 1, 11),(12, 1, (kI 2))]) [1,2,4,7,9,11], oN (.store 16 0 12) [12]] .ret)), [.cell 0 (some 16)]⟩
/-- interrex/interrexlaw6.Begun -/
def f121 : AFn := ⟨0, (rS [oA 0 kF [0]] (rS [oO 1 (.call 191 []) [], oA 0 1 [1]] .ret)), [.t 0]⟩
/-- ( interrex/clock.Clocks).Now -/
def f122 : AFn := ⟨2, (rS [oA 4 (kI 0) [4]] (.seq (rS [oM 5 0 [], oO 6 (.eqn false 5 (.c .nilp)) [5], oM 7 6 [6], oH 8 (.mv 1) 7 [], oH 9 (.bin .lss 8 (kI 0)) 7 [8], oO 10 (.pick 7 kT 9) [7,9], oM 11 10 [10], oH 12 (.mv 1) 11 [], oH 13 (.mv 0) 11 [], oH 14 (.nilc 13) 11 [13], oH 15 (.faddr 0 14) 11 [14], oH 16 (.load none 15) 11 [15], oH 17 (.lenL 16) 11 [16], oH 18 (.bin .geq 12 17) 11 [12,17], oO 19 (.pick 11 kT 18) [11,18]] (.cond 19 (rS [oA 4 (kI 0) []] .ret)
 .skip))
(rS [oM 20 0 [0], oO 21 (.nilc 20) [20], oO 22 (.faddr 0 21) [21], oO 23 (.load none 22) [22], oM 24 1 [1], oO 25 (.iasl 1 23 24) [23,24], oO 26 (.load none 25) [25], oA 4 26 [26]] .ret))), [.t 4]⟩
/-- ( interrex/clock.Clocks).Drift -/
def f123 : AFn := ⟨1, (rS [oA 2 (kI 0) [2]] (rS [oA 3 (kI 0) []] (.seq (rS [oM 6 0 [], oO 7 (.eqn true 6 (.c .nilp)) [6]] (.cond 7 (rS [oM 8 0 [], oO 9 (.nilc 8) [8], oO 10 (.faddr 0 9) [9], oO 11 (.load none 10) [10], oO 12 (.lenL 11) [11], oM 13 (kI 0) []] (.blk 0 (.loop (rS [oO 14 (.bin .lss 13 12) []] (.seq (.cond 14 .skip
 (.exit 0))
(.seq (.blk 1 (rS [oM 15 13 [], oA 4 15 [15]] (rS [oM 16 0 [], oO 17 (.nilc 16) [16], oO 18 (.faddr 0 17) [17], oO 19 (.load none 18) [18], oO 20 (.lenL 19) [19], oM 21 (kI 0) []] (.blk 2 (.loop (rS [oO 22 (.bin .lss 21 20) []] (.seq (.cond 22 .skip
 (.exit 2))
(.seq (.blk 3 (rS [oM 23 21 [], oA 5 23 [23]] (.dreg [⟨0, (oM 24 3 []), false, []⟩,
 ⟨1, (oM 25 0 []), false, []⟩,
 ⟨2, (oM 26 4 []), false, []⟩,
 ⟨3, (oM 27 5 []), false, []⟩,
 ⟨4, (oO 28 (.nilc 25) []), false, []⟩,
 ⟨5, (oO 29 (.faddr 65 28) []), false, []⟩,
 ⟨6, (oO 30 (.iaar 8 8 29 26) []), false, []⟩,
 ⟨7, (oO 31 (.iaar 8 1 30 27) []), false, []⟩,
 ⟨8, (oO 32 (.load none 31) []), false, []⟩,
 ⟨9, (oM 33 0 []), false, []⟩,
 ⟨10, (oM 34 4 []), false, []⟩,
 ⟨11, (oM 35 5 []), false, []⟩,
 ⟨12, (oO 36 (.nilc 33) []), false, []⟩,
 ⟨13, (oO 37 (.faddr 1 36) []), false, []⟩,
 ⟨14, (oO 38 (.iaar 8 8 37 34) []), false, []⟩,
 ⟨15, (oO 39 (.iaar 8 1 38 35) []), false, []⟩,
 ⟨16, (oO 40 (.load none 39) []), false, []⟩,
 ⟨17, (oO 41 (.bin .sub 32 40) []), false, []⟩,
 ⟨18, (oO 42 (.mnmx true [24,41]) []), false, []⟩,
 ⟨19, (oA 3 42 []), true, []⟩] [24,25,26,5,27,28,29,30,31,32,33,34,35,36,37,38,39,40,41,42])))
(rR [oO 43 (.bin .add 21 (kI 1)) [21], oM 21 43 [43]])))))))))
(rR [oO 44 (.bin .add 13 (kI 1)) [13], oM 13 44 [44]])))))))
 .skip))
(rS [oM 45 3 [3], oA 2 45 [45]] .ret)))), [.t 2]⟩
/-- ( interrex/net.Net).Len -/
def f124 : AFn := ⟨1, (rS [oA 2 (kI 0) [2]] (.seq (rS [oM 3 0 [], oO 4 (.eqn false 3 (.c .nilp)) [3]] (.cond 4 (rS [oA 2 (kI 0) []] .ret)
 .skip))
(rS [oM 5 0 [0], oO 6 (.nilc 5) [5], oO 7 (.faddr 0 6) [6], oO 8 (.load none 7) [7], oO 9 (.lenL 8) [8], oA 2 9 [9]] .ret))), [.t 2]⟩
/-- ( interrex/relist.Relist).Cache -/
def f125 : AFn := ⟨1, (rS [oA 2 (.c .nilp) [2]] (.seq (rS [oM 3 0 [], oO 4 (.eqn false 3 (.c .nilp)) [3]] (.cond 4 (rS [oA 2 (.c .nilp) []] .ret)
 .skip))
(rS [oM 5 0 [0], oO 6 (.nilc 5) [5], oO 7 (.faddr 2 6) [6], oO 8 (.load none 7) [7], oA 2 8 [8]] .ret))), [.t 2]⟩
/-- ( interrex/cache.Cache).Rev -/
def f126 : AFn := ⟨1, (rS [oA 2 (kI 0) [2]] (.seq (rS [oM 3 0 [], oO 4 (.eqn false 3 (.c .nilp)) [3]] (.cond 4 (rS [oA 2 (kI (-1)) []] .ret)
 .skip))
(rS [oM 5 0 [0], oO 6 (.nilc 5) [5], oO 7 (.faddr 1 6) [6], oO 8 (.load none 7) [7], oA 2 8 [8]] .ret))), [.t 2]⟩
/-- ( interrex/relist.Relist).Fresh -/
def f127 : AFn := ⟨1, (rS [oA 2 (kI 0) [2]] (.seq (rS [oM 3 0 [], oO 4 (.eqn false 3 (.c .nilp)) [3]] (.cond 4 (rS [oA 2 (kI 0) []] .ret)
 .skip))
(rS [oM 5 0 [0], oO 6 (.nilc 5) [5], oO 7 (.faddr 12 6) [6], oO 8 (.load none 7) [7], oA 2 8 [8]] .ret))), [.t 2]⟩
/-- ( interrex/assume.Assume).Has -/
def f128 : AFn := ⟨2, (rS [oO 3 (.box true 1) [1], oA 4 kF [4]] (rS [oM 5 0 [], oO 6 (.eqn true 5 (.c .nilp)) [5], oM 7 6 [6], oG 8 (.mv 0) 7 [0], oG 9 (.nilc 8) 7 [8], oG 10 (.faddr 0 9) 7 [9], oG 11 (.load none 10) 7 [10], oG 12 (.mkfn 193 [3]) 7 [3], oG 13 (.call 192 [11,12]) 7 [11,12], oO 14 (.pick 7 13 kF) [7,13], oA 4 14 [14]] .ret)), [.t 4]⟩
/-- ( interrex/elect.Elect).Leads -/
def f129 : AFn := ⟨2, (rS [oA 4 kF [4]] (rS [oM 5 0 [], oO 6 (.eqn true 5 (.c .nilp)) [5], oM 7 6 [6], oG 8 (.mv 0) 7 [], oG 9 (.nilc 8) 7 [8], oG 10 (.faddr 9 9) 7 [9], oG 11 (.load none 10) 7 [10], oG 12 (.bin .gtr 11 (kI 0)) 7 [11], oO 13 (.pick 7 12 kF) [7,12], oM 14 13 [13], oG 15 (.mv 1) 14 [1], oG 16 (.mv 0) 14 [0], oG 17 (.nilc 16) 14 [16], oG 18 (.faddr 10 17) 14 [17], oG 19 (.load none 18) 14 [18], oG 20 (.call 194 [15,19]) 14 [15,19], oO 21 (.pick 14 20 kF) [14,20], oA 4 21 [21]] .ret)), [.t 4]⟩
/-- ( interrex/elect.Elect).Term -/
def f130 : AFn := ⟨1, (rS [oA 2 (kI 0) [2]] (.seq (rS [oM 3 0 [], oO 4 (.eqn false 3 (.c .nilp)) [3]] (.cond 4 (rS [oA 2 (kI 0) []] .ret)
 .skip))
(rS [oM 5 0 [0], oO 6 (.nilc 5) [5], oO 7 (.faddr 9 6) [6], oO 8 (.load none 7) [7], oA 2 8 [8]] .ret))), [.t 2]⟩
/-- interrex/lease.Until -/
def f131 : AFn := ⟨1, (rS [oA 2 (kI 0) [2]] (rS [oM 3 0 [0], oO 4 (.call 195 [3]) [3], oO 5 (.bin .add 4 (kI 1000)) [4], oO 6 (.bin .sub 5 (kI 100)) [5], oA 2 6 [6]] .ret)), [.t 2]⟩
/-- slices.IndexFunc   int int  -/
def f132 : AFn := ⟨2, (rS [oA 4 (kI 0) [4]] (.seq (rS [oM 6 0 [], oO 7 (.lenL 6) [6], oM 8 (kI 0) []] (.blk 0 (.loop (rS [oO 9 (.bin .lss 8 7) []] (.seq (.cond 9 .skip
 (.exit 0))
(.seq (.blk 1 (rS [oM 10 8 [], oA 5 10 [10]] (rS [oM 11 1 [], oM 12 0 [], oM 13 5 [], oO 14 (.iasl 1 12 13) [12,13], oO 15 (.load none 14) [14], oO 16 (.callv 11 [15]) [11,15]] (.cond 16 (rS [oM 17 5 [5], oA 4 17 [17]] .ret)
 .skip))))
(rR [oO 18 (.bin .add 8 (kI 1)) [8], oM 8 18 [18]])))))))
(rS [oA 4 (kI (-1)) []] .ret))), [.t 4]⟩
/-- slices.Index   int int  -/
def f133 : AFn := ⟨2, (rS [oA 4 (kI 0) [4]] (.seq (rS [oM 6 0 [], oO 7 (.lenL 6) [6], oM 8 (kI 0) []] (.blk 0 (.loop (rS [oO 9 (.bin .lss 8 7) []] (.seq (.cond 9 .skip
 (.exit 0))
(.seq (.blk 1 (rS [oM 10 8 [], oA 5 10 [10]] (rS [oM 11 1 [], oM 12 0 [], oM 13 5 [], oO 14 (.iasl 1 12 13) [12,13], oO 15 (.load none 14) [14], oO 16 (.bin .eql 11 15) [11,15]] (.cond 16 (rS [oM 17 5 [5], oA 4 17 [17]] .ret)
 .skip))))
(rR [oO 18 (.bin .add 8 (kI 1)) [8], oM 8 18 [18]])))))))
(rS [oA 4 (kI (-1)) []] .ret))), [.t 4]⟩
/-- slices.Clone   interrex/api.Term interrex/api.Term  -/
def f134 : AFn := ⟨1, (rS [oA 2 (.c .nils) [2]] (.seq (rS [oM 3 0 [], oO 4 (.eqn false 3 (.c .nils)) [3]] (.cond 4 (rS [oA 2 (.c .nils) []] .ret)
 .skip))
(rS [oO 5 (.bsl (.mu true) 3 0 [vS,(vI 0),.nils] []) [], oM 6 0 [0], oO 7 (.append (.mu true) 3 48 5 6) [5,6], oA 2 7 [7]] .ret))), [.t 2]⟩
/-- slices.insertionSortCmpFunc string  -/
def f135 : AFn := ⟨4, (rS [oM 10 1 [], oO 11 (.bin .add 10 (kI 1)) [10], oA 8 11 [11]] (.blk 0 (.loop (.seq (rS [oM 12 8 [], oM 13 2 [], oO 14 (.bin .lss 12 13) [12,13]] (.cond 14 .skip
 (.exit 0)))
(.seq (.blk 1 (rS [oM 17 8 [], oA 9 17 [17]] (.blk 2 (.loop (.seq (.seq (.dreg [⟨0, (oM 18 9 []), false, []⟩,
 ⟨1, (oM 19 1 []), false, []⟩,
 ⟨2, (oO 20 (.bin .gtr 18 19) []), false, []⟩,
 ⟨3, (oM 21 20 []), false, []⟩,
 ⟨4, (oG 22 (.mv 3) 21 []), false, []⟩,
 ⟨5, (oG 23 (.mv 0) 21 []), false, []⟩,
 ⟨6, (oG 24 (.mv 9) 21 []), false, []⟩,
 ⟨7, (oG 25 (.iasl 1 23 24) 21 []), false, []⟩,
 ⟨8, (oG 26 (.load none 25) 21 []), false, []⟩,
 ⟨9, (oG 27 (.mv 0) 21 []), false, []⟩,
 ⟨10, (oG 28 (.mv 9) 21 []), false, []⟩,
 ⟨11, (oG 29 (.bin .sub 28 (kI 1)) 21 []), false, []⟩,
 ⟨12, (oG 30 (.iasl 1 27 29) 21 []), false, []⟩,
 ⟨13, (oG 31 (.load none 30) 21 []), false, []⟩,
 ⟨14, (oG 32 (.callv 22 [26,31]) 21 []), true, []⟩,
 ⟨15, (oG 33 (.bin .lss 32 (kI 0)) 21 []), false, []⟩,
 ⟨16, (oO 34 (.pick 21 33 kF) []), false, []⟩] [18,19,20,21,22,23,24,25,26,27,28,29,30,31,32,33])
(.cond 34 .skip
 (.exit 2)))
(.seq (.blk 3 (.dreg [⟨0, (oM 37 0 []), false, []⟩,
 ⟨1, (oM 38 9 []), false, []⟩,
 ⟨2, (oM 39 0 []), false, []⟩,
 ⟨3, (oM 40 9 []), false, []⟩,
 ⟨4, (oO 41 (.bin .sub 40 (kI 1)) []), false, []⟩,
 ⟨5, (oM 42 0 []), false, []⟩,
 ⟨6, (oM 43 9 []), false, []⟩,
 ⟨7, (oO 44 (.bin .sub 43 (kI 1)) []), false, []⟩,
 ⟨8, (oO 45 (.iasl 1 42 44) []), false, []⟩,
 ⟨9, (oO 46 (.load none 45) []), false, []⟩,
 ⟨10, (oM 47 0 []), false, []⟩,
 ⟨11, (oM 48 9 []), false, []⟩,
 ⟨12, (oO 49 (.iasl 1 47 48) []), false, []⟩,
 ⟨13, (oO 50 (.load none 49) []), false, []⟩,
 ⟨14, (oO 51 (.iasl 1 37 38) []), false, []⟩,
 ⟨15, (oN (.store 1 51 46) []), true, []⟩,
 ⟨16, (oO 52 (.iasl 1 39 41) []), false, []⟩,
 ⟨17, (oN (.store 1 52 50) []), true, []⟩] [37,38,39,40,41,42,43,44,45,46,47,48,49,50,51,52]))
(rR [oM 35 9 [9], oO 36 (.bin .sub 35 (kI 1)) [35], oA 9 36 [36]])))))))
(rR [oM 15 8 [8], oO 16 (.bin .add 15 (kI 1)) [15], oA 8 16 [16]])))))), []⟩
/-- math/bits.Len64 -/
def f144 : AFn := ⟨1, (rS [oA 2 (kI 0) []] (.seq (rS [oM 3 0 [], oO 4 (.bin .geq 3 (.c (.i .u64 4294967296))) [3]] (.cond 4 (rS [oM 5 0 [0], oO 6 (.bin .shr 5 (.c (.i .u64 32))) [5], oA 0 6 [6]] (rR [oA 2 (kI 32) []]))
 .skip))
(.seq (rS [oM 7 0 [], oO 8 (.bin .geq 7 (.c (.i .u64 65536))) [7]] (.cond 8 (rS [oM 9 0 [0], oO 10 (.bin .shr 9 (.c (.i .u64 16))) [9], oA 0 10 [10]] (rR [oM 11 2 [2], oO 12 (.bin .add 11 (kI 16)) [11], oA 2 12 [12]]))
 .skip))
(.seq (rS [oM 13 0 [], oO 14 (.bin .geq 13 (.c (.i .u64 256))) [13]] (.cond 14 (rS [oM 15 0 [0], oO 16 (.bin .shr 15 (.c (.i .u64 8))) [15], oA 0 16 [16]] (rR [oM 17 2 [2], oO 18 (.bin .add 17 (kI 8)) [17], oA 2 18 [18]]))
 .skip))
(rS [oM 19 2 [2], oM 20 0 [0], oO 21 (.cvi .u8 20) [20], oO 22 (.ixs (.c (.s [0,1,2,2,3,3,3,3,4,4,4,4,4,4,4,4,5,5,5,5,5,5,5,5,5,5,5,5,5,5,5,5,6,6,6,6,6,6,6,6,6,6,6,6,6,6,6,6,6,6,6,6,6,6,6,6,6,6,6,6,6,6,6,6,7,7,7,7,7,7,7,7,7,7,7,7,7,7,7,7,7,7,7,7,7,7,7,7,7,7,7,7,7,7,7,7,7,7,7,7,7,7,7,7,7,7,7,7,7,7,7,7,7,7,7,7,7,7,7,7,7,7,7,7,7,7,7,7,8,8,8,8,8,8,8,8,8,8,8,8,8,8,8,8,8,8,8,8,8,8,8,8,8,8,8,8,8,8,8,8,8,8,8,8,8,8,8,8,8,8,8,8,8,8,8,8,8,8,8,8,8,8,8,8,8,8,8,8,8,8,8,8,8,8,8,8,8,8,8,8,8,8,8,8,8,8,8,8,8,8,8,8,8,8,8,8,8,8,8,8,8,8,8,8,8,8,8,8,8,8,8,8,8,8,8,8,8,8,8,8,8,8,8,8,8,8,8,8,8,8,8,8,8,8,8,8])) 21) [21], oO 23 (.cvi .i64 22) [22], oO 24 (.bin .add 19 23) [19,23], oA 2 24 [24]] .ret))))), [.t 2]⟩
/-- slices.Index   string string  -/
def f146 : AFn := ⟨2, (rS [oA 4 (kI 0) [4]] (.seq (rS [oM 6 0 [], oO 7 (.lenL 6) [6], oM 8 (kI 0) []] (.blk 0 (.loop (rS [oO 9 (.bin .lss 8 7) []] (.seq (.cond 9 .skip
 (.exit 0))
(.seq (.blk 1 (rS [oM 10 8 [], oA 5 10 [10]] (rS [oM 11 1 [], oM 12 0 [], oM 13 5 [], oO 14 (.iasl 1 12 13) [12,13], oO 15 (.load none 14) [14], oO 16 (.bin .eql 11 15) [11,15]] (.cond 16 (rS [oM 17 5 [5], oA 4 17 [17]] .ret)
 .skip))))
(rR [oO 18 (.bin .add 8 (kI 1)) [8], oM 8 18 [18]])))))))
(rS [oA 4 (kI (-1)) []] .ret))), [.t 4]⟩
/-- interrex/qty.in -/
def f148 : AFn := ⟨1, (rS [oA 2 kF [2]] (rS [oM 3 0 [], oO 4 (.bin .geq 3 (kI 0)) [3], oM 5 4 [4], oG 6 (.mv 0) 5 [0], oG 7 (.bin .leq 6 (kI 4611686018427387904)) 5 [6], oO 8 (.pick 5 7 kF) [5,7], oA 2 8 [8]] .ret)), [.t 2]⟩
/-- slices.ContainsFunc   interrex/api.Term interrex/api.Term  -/
def f149 : AFn := ⟨2, (rS [oA 4 kF [4]] (rS [oM 5 0 [0], oM 6 1 [1], oO 7 (.call 202 [5,6]) [5,6], oO 8 (.bin .geq 7 (kI 0)) [7], oA 4 8 [8]] .ret)), [.t 4]⟩
/-- interrex/label.Match 1 -/
def f150 : AFn := ⟨2, (rS [oO 2 (.box false 0) [0], oA 3 kF [3]] (rS [oO 4 (.load (some 3) 2) [2], oO 5 (.load none 1) [1], oO 6 (.call 151 [4,5]) [4,5], oO 7 (.un .not 6) [6], oA 3 7 [7]] .ret)), [.t 3]⟩
/-- interrex/label.holds -/
def f151 : AFn := ⟨2, (rS [oO 2 (.box false 0) [0], oA 4 kF [4]] (rS [oM 9 1 [1], oO 10 (.faddr 0 2) [], oO 11 (.load none 10) [10], oO 12 (.call 86 [9,11]) [9,11], oM 8 12 [12], oO 13 (.ext 8 0) [], oO 14 (.ext 8 1) [8], oA 5 13 [13], oA 6 14 [14]] (rS [oM 15 6 [], oM 16 15 [15], oG 17 (.faddr 2 2) 16 [], oG 18 (.load none 17) 16 [17], oG 19 (.mv 5) 16 [5], oG 20 (.call 77 [18,19]) 16 [18,19], oO 21 (.pick 16 20 kF) [16,20], oA 7 21 [21]] (.seq (rS [oO 22 (.faddr 1 2) [2], oO 23 (.load none 22) [22]] (.blk 0 (rS [oO 25 (.bin .eql 23 (kI 1)) [], oA 24 25 [25]] (.cond 24 (rS [oM 26 7 [7], oA 4 26 [26]] .ret)
 (rS [oO 28 (.bin .eql 23 (kI 2)) [], oA 27 28 [28]] (.cond 27 (rS [oM 29 7 [7], oO 30 (.un .not 29) [29], oA 4 30 [30]] .ret)
 (rS [oO 32 (.bin .eql 23 (kI 3)) [], oA 31 32 [32]] (.cond 31 (rS [oM 33 6 [6], oA 4 33 [33]] .ret)
 (rS [oO 35 (.bin .eql 23 (kI 4)) [23], oA 34 35 [35]] (.cond 34 (rS [oM 36 6 [6], oO 37 (.un .not 36) [36], oA 4 37 [37]] .ret)
 .skip))))))))))
(rS [oA 4 kF []] .ret))))), [.t 4]⟩
/-- slices.ContainsFunc   interrex/api.Toler interrex/api.Toler  -/
def f152 : AFn := ⟨2, (rS [oA 4 kF [4]] (rS [oM 5 0 [0], oM 6 1 [1], oO 7 (.call 203 [5,6]) [5,6], oO 8 (.bin .geq 7 (kI 0)) [7], oA 4 8 [8]] .ret)), [.t 4]⟩
/-- interrex/taint.All 1 -/
def f153 : AFn := ⟨2, (rS [oO 2 (.box false 0) [0], oA 3 kF [3]] (rS [oO 4 (.load (some 3) 2) [2], oO 5 (.load (some 2) 1) [1], oO 6 (.call 154 [4,5]) [4,5], oA 3 6 [6]] .ret)), [.t 3]⟩
/-- interrex/taint.Bears -/
def f154 : AFn := ⟨2, (rS [oO 2 (.box false 0) [0], oO 3 (.box false 1) [1], oA 4 kF [4]] (rS [oO 5 (.faddr 0 2) [], oO 6 (.load none 5) [5], oO 7 (.bin .eql 6 (.c vS)) [6], oM 8 7 [7], oH 9 (.faddr 0 2) 8 [], oH 10 (.load none 9) 8 [9], oH 11 (.faddr 0 3) 8 [], oH 12 (.load none 11) 8 [11], oH 13 (.bin .eql 10 12) 8 [10,12], oO 14 (.pick 8 kT 13) [8,13], oM 15 14 [14], oG 16 (.faddr 2 2) 15 [], oG 17 (.load none 16) 15 [16], oG 18 (.mv 17) 15 [17], oH 19 (.faddr 1 2) 18 [2], oH 20 (.load none 19) 18 [19], oH 21 (.faddr 1 3) 18 [3], oH 22 (.load none 21) 18 [21], oH 23 (.bin .eql 20 22) 18 [20,22], oG 24 (.pick 18 kT 23) 15 [18,23], oO 25 (.pick 15 24 kF) [15,24], oA 4 25 [25]] .ret)), [.t 4]⟩
/-- slices.insertionSortCmpFunc interrex/api.Pod  -/
def f155 : AFn := ⟨4, (rS [oM 10 1 [], oO 11 (.bin .add 10 (kI 1)) [10], oA 8 11 [11]] (.blk 0 (.loop (.seq (rS [oM 12 8 [], oM 13 2 [], oO 14 (.bin .lss 12 13) [12,13]] (.cond 14 .skip
 (.exit 0)))
(.seq (.blk 1 (rS [oM 17 8 [], oA 9 17 [17]] (.blk 2 (.loop (.seq (.seq (.dreg [⟨0, (oM 18 9 []), false, []⟩,
 ⟨1, (oM 19 1 []), false, []⟩,
 ⟨2, (oO 20 (.bin .gtr 18 19) []), false, []⟩,
 ⟨3, (oM 21 20 []), false, []⟩,
 ⟨4, (oG 22 (.mv 3) 21 []), false, []⟩,
 ⟨5, (oG 23 (.mv 0) 21 []), false, []⟩,
 ⟨6, (oG 24 (.mv 9) 21 []), false, []⟩,
 ⟨7, (oG 25 (.iasl 16 23 24) 21 []), false, []⟩,
 ⟨8, (oG 26 (.load (some 16) 25) 21 []), false, []⟩,
 ⟨9, (oG 27 (.mv 0) 21 []), false, []⟩,
 ⟨10, (oG 28 (.mv 9) 21 []), false, []⟩,
 ⟨11, (oG 29 (.bin .sub 28 (kI 1)) 21 []), false, []⟩,
 ⟨12, (oG 30 (.iasl 16 27 29) 21 []), false, []⟩,
 ⟨13, (oG 31 (.load (some 16) 30) 21 []), false, []⟩,
 ⟨14, (oG 32 (.callv 22 [26,31]) 21 []), true, []⟩,
 ⟨15, (oG 33 (.bin .lss 32 (kI 0)) 21 []), false, []⟩,
 ⟨16, (oO 34 (.pick 21 33 kF) []), false, []⟩] [18,19,20,21,22,23,24,25,26,27,28,29,30,31,32,33])
(.cond 34 .skip
 (.exit 2)))
(.seq (.blk 3 (.dreg [⟨0, (oM 37 0 []), false, []⟩,
 ⟨1, (oM 38 9 []), false, []⟩,
 ⟨2, (oM 39 0 []), false, []⟩,
 ⟨3, (oM 40 9 []), false, []⟩,
 ⟨4, (oO 41 (.bin .sub 40 (kI 1)) []), false, []⟩,
 ⟨5, (oM 42 0 []), false, []⟩,
 ⟨6, (oM 43 9 []), false, []⟩,
 ⟨7, (oO 44 (.bin .sub 43 (kI 1)) []), false, []⟩,
 ⟨8, (oO 45 (.iasl 16 42 44) []), false, []⟩,
 ⟨9, (oO 46 (.load (some 16) 45) []), false, []⟩,
 ⟨10, (oM 47 0 []), false, []⟩,
 ⟨11, (oM 48 9 []), false, []⟩,
 ⟨12, (oO 49 (.iasl 16 47 48) []), false, []⟩,
 ⟨13, (oO 50 (.load (some 16) 49) []), false, []⟩,
 ⟨14, (oO 51 (.iasl 16 37 38) []), false, []⟩,
 ⟨15, (oN (.store 16 51 46) []), true, []⟩,
 ⟨16, (oO 52 (.iasl 16 39 41) []), false, []⟩,
 ⟨17, (oN (.store 16 52 50) []), true, []⟩] [37,38,39,40,41,42,43,44,45,46,47,48,49,50,51,52]))
(rR [oM 35 9 [9], oO 36 (.bin .sub 35 (kI 1)) [35], oA 9 36 [36]])))))))
(rR [oM 15 8 [8], oO 16 (.bin .add 15 (kI 1)) [15], oA 8 16 [16]])))))), []⟩
/-- slices.stableCmpFunc interrex/api.Node  -/
def f157 : AFn := ⟨3, (rS [oA 6 (kI 20) []] (rS [oM 10 6 [], oA 7 (kI 0) [], oA 8 10 [10]] (.seq (.blk 0 (.loop (.seq (rS [oM 11 8 [], oM 12 1 [], oO 13 (.bin .leq 11 12) [11,12]] (.cond 13 .skip
 (.exit 0)))
(.blk 1 (rS [oM 14 0 [], oM 15 7 [7], oM 16 8 [], oM 17 2 [], oO 18 (.call 205 [14,15,16,17]) [14,15,16,17,18]] (rS [oM 19 8 [], oA 7 19 [19]] (rR [oM 20 8 [8], oM 21 6 [], oO 22 (.bin .add 20 21) [20,21], oA 8 22 [22]])))))))
(rS [oM 23 0 [], oM 24 7 [7], oM 25 1 [], oM 26 2 [], oO 27 (.call 205 [23,24,25,26]) [23,24,25,26,27]] (.blk 2 (.loop (.seq (rS [oM 28 6 [], oM 29 1 [], oO 30 (.bin .lss 28 29) [28,29]] (.cond 30 .skip
 (.exit 2)))
(.blk 3 (rS [oM 31 6 [], oO 32 (.bin .mul (kI 2) 31) [31], oA 7 (kI 0) [], oA 8 32 [32]] (.seq (.blk 4 (.loop (.seq (rS [oM 33 8 [], oM 34 1 [], oO 35 (.bin .leq 33 34) [33,34]] (.cond 35 .skip
 (.exit 4)))
(.blk 5 (rS [oM 36 0 [], oM 37 7 [], oM 38 7 [7], oM 39 6 [], oO 40 (.bin .add 38 39) [38,39], oM 41 8 [], oM 42 2 [], oO 43 (.call 206 [36,37,40,41,42]) [36,37,40,41,42,43]] (rS [oM 44 8 [], oA 7 44 [44]] (rR [oM 45 8 [8], oM 46 6 [], oO 47 (.bin .mul (kI 2) 46) [46], oO 48 (.bin .add 45 47) [45,47], oA 8 48 [48]])))))))
(.seq (rS [oM 49 7 [], oM 50 6 [], oO 51 (.bin .add 49 50) [49,50], oA 9 51 [51]] (rS [oM 52 9 [], oM 53 1 [], oO 54 (.bin .lss 52 53) [52,53]] (.cond 54 (rR [oM 55 0 [], oM 56 7 [7], oM 57 9 [9], oM 58 1 [], oM 59 2 [], oO 60 (.call 206 [55,56,57,58,59]) [55,56,57,58,59,60]])
 .skip)))
(rR [oM 61 6 [6], oO 62 (.bin .mul 61 (kI 2)) [61], oA 6 62 [62]])))))))))))), []⟩
/-- cmp.Or int  -/
def f158 : AFn := ⟨1, (rS [oA 2 (kI 0) [2]] (rS [oA 3 (kI 0) []] (.seq (rS [oM 6 0 [0], oO 7 (.lenL 6) [], oM 8 (kI 0) []] (.blk 0 (.loop (rS [oO 9 (.bin .lss 8 7) []] (.seq (.cond 9 .skip
 (.exit 0))
(.seq (.blk 1 (rS [oO 10 (.iasl 1 6 8) [], oO 11 (.load none 10) [10], oA 5 11 [11]] (rS [oM 12 5 [], oM 13 3 [], oO 14 (.bin .neq 12 13) [12,13]] (.cond 14 (rS [oM 15 5 [5], oA 2 15 [15]] .ret)
 .skip))))
(rR [oO 16 (.bin .add 8 (kI 1)) [8], oM 8 16 [16]])))))))
(rS [oM 17 3 [3], oA 2 17 [17]] .ret)))), [.t 2]⟩
/-- slices.Equal   interrex/api.Pair interrex/api.Pair  -/
def f159 : AFn := ⟨2, (rS [oA 4 kF [4]] (.seq (rS [oM 6 0 [], oO 7 (.lenL 6) [6], oM 8 1 [], oO 9 (.lenL 8) [8], oO 10 (.bin .neq 7 9) [7,9]] (.cond 10 (rS [oA 4 kF []] .ret)
 .skip))
(.seq (rS [oM 11 0 [], oO 12 (.lenL 11) [11], oM 13 (kI 0) []] (.blk 0 (.loop (rS [oO 14 (.bin .lss 13 12) []] (.seq (.cond 14 .skip
 (.exit 0))
(.seq (.blk 1 (rS [oM 15 13 [], oA 5 15 [15]] (.seq (.dreg [⟨0, (oM 16 0 []), false, []⟩,
 ⟨1, (oM 17 5 []), false, []⟩,
 ⟨2, (oO 18 (.iasl 2 16 17) []), false, []⟩,
 ⟨3, (oO 19 (.load (some 2) 18) []), false, []⟩,
 ⟨4, (oM 20 1 []), false, []⟩,
 ⟨5, (oM 21 5 []), false, []⟩,
 ⟨6, (oO 22 (.iasl 2 20 21) []), false, []⟩,
 ⟨7, (oO 23 (.load (some 2) 22) []), false, []⟩,
 ⟨8, (oO 24 (.eqc true [.s,.s] true 19 23) []), false, []⟩] [16,5,17,18,19,20,21,22,23])
(.cond 24 (rS [oA 4 kF []] .ret)
 .skip))))
(rR [oO 25 (.bin .add 13 (kI 1)) [13], oM 13 25 [25]])))))))
(rS [oA 4 kT []] .ret)))), [.t 4]⟩
/-- slices.Equal   interrex/api.Taint interrex/api.Taint  -/
def f160 : AFn := ⟨2, (rS [oA 4 kF [4]] (.seq (rS [oM 6 0 [], oO 7 (.lenL 6) [6], oM 8 1 [], oO 9 (.lenL 8) [8], oO 10 (.bin .neq 7 9) [7,9]] (.cond 10 (rS [oA 4 kF []] .ret)
 .skip))
(.seq (rS [oM 11 0 [], oO 12 (.lenL 11) [11], oM 13 (kI 0) []] (.blk 0 (.loop (rS [oO 14 (.bin .lss 13 12) []] (.seq (.cond 14 .skip
 (.exit 0))
(.seq (.blk 1 (rS [oM 15 13 [], oA 5 15 [15]] (.seq (.dreg [⟨0, (oM 16 0 []), false, []⟩,
 ⟨1, (oM 17 5 []), false, []⟩,
 ⟨2, (oO 18 (.iasl 2 16 17) []), false, []⟩,
 ⟨3, (oO 19 (.load (some 2) 18) []), false, []⟩,
 ⟨4, (oM 20 1 []), false, []⟩,
 ⟨5, (oM 21 5 []), false, []⟩,
 ⟨6, (oO 22 (.iasl 2 20 21) []), false, []⟩,
 ⟨7, (oO 23 (.load (some 2) 22) []), false, []⟩,
 ⟨8, (oO 24 (.eqc true [.s,.s] true 19 23) []), false, []⟩] [16,5,17,18,19,20,21,22,23])
(.cond 24 (rS [oA 4 kF []] .ret)
 .skip))))
(rR [oO 25 (.bin .add 13 (kI 1)) [13], oM 13 25 [25]])))))))
(rS [oA 4 kT []] .ret)))), [.t 4]⟩
/-- slices.Equal   int int  -/
def f161 : AFn := ⟨2, (rS [oA 4 kF [4]] (.seq (rS [oM 6 0 [], oO 7 (.lenL 6) [6], oM 8 1 [], oO 9 (.lenL 8) [8], oO 10 (.bin .neq 7 9) [7,9]] (.cond 10 (rS [oA 4 kF []] .ret)
 .skip))
(.seq (rS [oM 11 0 [], oO 12 (.lenL 11) [11], oM 13 (kI 0) []] (.blk 0 (.loop (rS [oO 14 (.bin .lss 13 12) []] (.seq (.cond 14 .skip
 (.exit 0))
(.seq (.blk 1 (rS [oM 15 13 [], oA 5 15 [15]] (.seq (.dreg [⟨0, (oM 16 0 []), false, []⟩,
 ⟨1, (oM 17 5 []), false, []⟩,
 ⟨2, (oO 18 (.iasl 1 16 17) []), false, []⟩,
 ⟨3, (oO 19 (.load none 18) []), false, []⟩,
 ⟨4, (oM 20 1 []), false, []⟩,
 ⟨5, (oM 21 5 []), false, []⟩,
 ⟨6, (oO 22 (.iasl 1 20 21) []), false, []⟩,
 ⟨7, (oO 23 (.load none 22) []), false, []⟩,
 ⟨8, (oO 24 (.bin .neq 19 23) []), false, []⟩] [16,5,17,18,19,20,21,22,23])
(.cond 24 (rS [oA 4 kF []] .ret)
 .skip))))
(rR [oO 25 (.bin .add 13 (kI 1)) [13], oM 13 25 [25]])))))))
(rS [oA 4 kT []] .ret)))), [.t 4]⟩
/-- slices.Equal   interrex/api.Toler interrex/api.Toler  -/
def f162 : AFn := ⟨2, (rS [oA 4 kF [4]] (.seq (rS [oM 6 0 [], oO 7 (.lenL 6) [6], oM 8 1 [], oO 9 (.lenL 8) [8], oO 10 (.bin .neq 7 9) [7,9]] (.cond 10 (rS [oA 4 kF []] .ret)
 .skip))
(.seq (rS [oM 11 0 [], oO 12 (.lenL 11) [11], oM 13 (kI 0) []] (.blk 0 (.loop (rS [oO 14 (.bin .lss 13 12) []] (.seq (.cond 14 .skip
 (.exit 0))
(.seq (.blk 1 (rS [oM 15 13 [], oA 5 15 [15]] (.seq (.dreg [⟨0, (oM 16 0 []), false, []⟩,
 ⟨1, (oM 17 5 []), false, []⟩,
 ⟨2, (oO 18 (.iasl 3 16 17) []), false, []⟩,
 ⟨3, (oO 19 (.load (some 3) 18) []), false, []⟩,
 ⟨4, (oM 20 1 []), false, []⟩,
 ⟨5, (oM 21 5 []), false, []⟩,
 ⟨6, (oO 22 (.iasl 3 20 21) []), false, []⟩,
 ⟨7, (oO 23 (.load (some 3) 22) []), false, []⟩,
 ⟨8, (oO 24 (.eqc true [.s,.s,.b] true 19 23) []), false, []⟩] [16,5,17,18,19,20,21,22,23])
(.cond 24 (rS [oA 4 kF []] .ret)
 .skip))))
(rR [oO 25 (.bin .add 13 (kI 1)) [13], oM 13 25 [25]])))))))
(rS [oA 4 kT []] .ret)))), [.t 4]⟩
/-- interrex/obj.eqTerms -/
def f163 : AFn := ⟨2, (rS [oA 4 kF [4]] (rS [oM 5 0 [0], oM 6 1 [1], oO 7 (.call 207 [5,6,(.c (.fn 208 [] []))]) [5,6], oA 4 7 [7]] .ret)), [.t 4]⟩
/-- cmp.isNaN int64  -/
def f164 : AFn := ⟨1, (rS [oA 2 kF [2]] (rS [oM 3 0 [], oM 4 0 [0], oO 5 (.bin .neq 3 4) [3,4], oA 2 5 [5]] .ret)), [.t 2]⟩
/-- interrex/net.copied -/
def f165 : AFn := ⟨1, (rS [oO 1 (.box false 0) [0], oO 2 (.alloc false [(.b false),(vI 0),.nils]) []] (rS [oO 3 (.faddr 2 1) [], oO 4 (.load none 3) [3], oO 5 (.call 210 [4]) [4], oO 6 (.faddr 2 1) [], oN (.store 1 6 5) [6,5]] (rS [oO 7 (.load (some 3) 1) [1], oN (.store 3 2 7) [7]] .ret))), [.cell 2 (some 3)]⟩
/-- ( interrex/cache.Cache).List -/
def f167 : AFn := ⟨3, (rS [oA 6 kF [6]] (.seq (rS [oM 12 0 [], oO 13 (.eqn false 12 (.c .nilp)) [12], oM 14 13 [13], oH 15 (.mv 1) 14 [], oH 16 (.bin .lss 15 (kI 0)) 14 [15], oO 17 (.pick 14 kT 16) [14,16]] (.cond 17 (rS [oA 6 kF []] .ret)
 .skip))
(rS [oO 18 (.mkmap true none) [], oA 7 18 [18]] (.seq (rS [oM 19 2 [2], oO 20 (.lenL 19) [], oM 21 (kI 0) []] (.blk 0 (.loop (rS [oO 22 (.bin .lss 21 20) []] (.seq (.cond 22 .skip
 (.exit 0))
(.seq (.blk 1 (rS [oO 23 (.iasl 3 19 21) [], oO 24 (.load (some 3) 23) [23], oO 9 (.alloc false [vS,(vI 0),.nils]) [], oN (.store 3 9 24) [24]] (.seq (rS [oM 26 7 [], oO 27 (.faddr 0 9) [], oO 28 (.load none 27) [27], oO 29 (.lkp none (.agg [vS,(vI 0),.nils]) 26 28 true) [26,28], oM 25 29 [29], oO 30 (.ext 25 0) [], oO 31 (.ext 25 1) [25], oO 10 (.alloc false [vS,(vI 0),.nils]) [], oN (.store 3 10 30) [10,30], oA 11 31 [31]] (rS [oM 32 11 [11], oM 33 32 [32], oH 34 (.faddr 0 9) 33 [], oH 35 (.load none 34) 33 [34], oH 36 (.bin .eql 35 (.c vS)) 33 [35], oO 37 (.pick 33 kT 36) [33,36], oM 38 37 [37], oH 39 (.faddr 1 9) 38 [], oH 40 (.load none 39) 38 [39], oH 41 (.bin .lss 40 (kI 1)) 38 [40], oO 42 (.pick 38 kT 41) [38,41], oM 43 42 [42], oH 44 (.faddr 1 9) 43 [], oH 45 (.load none 44) 43 [44], oH 46 (.mv 1) 43 [], oH 47 (.bin .gtr 45 46) 43 [45,46], oO 48 (.pick 43 kT 47) [43,47]] (.cond 48 (rS [oA 6 kF []] .ret)
 .skip)))
(.dreg [⟨0, (oM 49 7 []), false, []⟩,
 ⟨1, (oO 50 (.faddr 0 9) []), false, []⟩,
 ⟨2, (oO 51 (.load none 50) []), false, []⟩,
 ⟨3, (oO 52 (.load (some 3) 9) []), false, []⟩,
 ⟨4, (oO 53 (.call 211 [52]) []), true, [2]⟩,
 ⟨5, (oN (.mupd none 49 51 53) []), true, []⟩] [49,9,50,51,52,53]))))
(rR [oO 54 (.bin .add 21 (kI 1)) [21], oM 21 54 [54]])))))))
(rS [oM 55 0 [], oM 56 0 [0], oM 57 7 [7], oM 58 1 [1], oO 59 (.nilc 55) [55], oO 60 (.faddr 0 59) [59], oN (.store 1 60 57) [60,57], oO 61 (.nilc 56) [56], oO 62 (.faddr 1 61) [61], oN (.store 1 62 58) [62,58]] (rS [oA 6 kT []] .ret)))))), [.t 6]⟩
/-- ( interrex/wire.Writer).Num -/
def f170 : AFn := ⟨3, (rS [oM 7 2 [], oM 8 (kI 0) []] (.blk 0 (.loop (rS [oO 9 (.bin .lss 8 7) []] (.seq (.cond 9 .skip
 (.exit 0))
(.seq (.blk 1 (rS [oM 10 8 [], oA 6 10 [10]] (.dreg [⟨0, (oM 11 0 []), false, []⟩,
 ⟨1, (oM 12 0 []), false, []⟩,
 ⟨2, (oO 13 (.nilc 12) []), false, []⟩,
 ⟨3, (oO 14 (.faddr 297 13) []), false, []⟩,
 ⟨4, (oO 15 (.load none 14) []), false, []⟩,
 ⟨5, (oM 16 1 []), false, []⟩,
 ⟨6, (oM 17 2 []), false, []⟩,
 ⟨7, (oO 18 (.bin .sub 17 (kI 1)) []), false, []⟩,
 ⟨8, (oM 19 6 []), false, []⟩,
 ⟨9, (oO 20 (.bin .sub 18 19) []), false, []⟩,
 ⟨10, (oO 21 (.bin .mul (kI 8) 20) []), false, []⟩,
 ⟨11, (oO 22 (.bin .shr 16 21) []), false, []⟩,
 ⟨12, (oO 23 (.cvi .u8 22) []), false, []⟩,
 ⟨13, (oO 24 (.bsl (.im true) 1 1 [(.i .u8 0)] [(0, 23)]) []), true, [4]⟩,
 ⟨14, (oO 25 (.append (.im true) 1 1 15 24) []), true, []⟩,
 ⟨15, (oO 26 (.nilc 11) []), false, []⟩,
 ⟨16, (oO 27 (.faddr 297 26) []), false, []⟩,
 ⟨17, (oN (.store 1 27 25) []), true, []⟩] [11,12,13,14,15,16,17,18,6,19,20,21,22,23,24,25,26,27])))
(rR [oO 28 (.bin .add 8 (kI 1)) [8], oM 8 28 [28]]))))))), []⟩
/-- ( interrex/wire.Writer).Bytes -/
def f171 : AFn := ⟨1, (rS [oA 2 (.c .nils) [2]] (rS [oM 3 0 [0], oO 4 (.nilc 3) [3], oO 5 (.faddr 297 4) [4], oO 6 (.load none 5) [5], oO 7 (.call 210 [6]) [6], oA 2 7 [7]] .ret)), [.t 2]⟩
/-- interrex/assume.copied -/
def f172 : AFn := ⟨1, (rS [oO 1 (.box false 0) [0], oO 2 (.alloc false [vS,vS,.nils]) []] (rS [oO 3 (.faddr 2 1) [], oO 4 (.load none 3) [3], oO 5 (.call 55 [4]) [4], oO 6 (.faddr 2 1) [], oN (.store 1 6 5) [6,5]] (rS [oO 7 (.load (some 3) 1) [1], oN (.store 3 2 7) [7]] .ret))), [.cell 2 (some 3)]⟩
/-- ( interrex/elect.Elect).wants -/
def f175 : AFn := ⟨2, (rS [oA 4 kF [4]] (.seq (.blk 0 (rS [oM 6 0 [], oO 7 (.nilc 6) [6], oO 8 (.faddr 1 7) [7], oO 9 (.load none 8) [8], oO 10 (.un .not 9) [9], oA 5 10 [10]] (.cond 5 (rS [oA 4 kF []] .ret)
 (rS [oM 12 0 [], oM 13 1 [], oO 14 (.call 129 [12,13]) [12,13], oA 11 14 [14]] (.cond 11 (rS [oM 15 1 [1], oM 16 0 [0], oO 17 (.nilc 16) [16], oO 18 (.faddr 10 17) [17], oO 19 (.load none 18) [18], oO 20 (.call 212 [15,19]) [15,19], oA 4 20 [20]] .ret)
 .skip)))))
(.seq (.dreg [⟨0, (oM 21 0 []), false, []⟩,
 ⟨1, (oO 22 (.nilc 21) []), false, []⟩,
 ⟨2, (oO 23 (.faddr 2 22) []), false, []⟩,
 ⟨3, (oO 24 (.load none 23) []), false, []⟩,
 ⟨4, (oO 25 (.un .not 24) []), false, []⟩,
 ⟨5, (oM 26 25 []), false, []⟩,
 ⟨6, (oH 27 (.mv 0) 26 []), false, []⟩,
 ⟨7, (oH 28 (.nilc 27) 26 []), false, []⟩,
 ⟨8, (oH 29 (.faddr 4 28) 26 []), false, []⟩,
 ⟨9, (oH 30 (.faddr 0 29) 26 []), false, []⟩,
 ⟨10, (oH 31 (.load none 30) 26 []), false, []⟩,
 ⟨11, (oH 32 (.mv 0) 26 []), false, []⟩,
 ⟨12, (oH 33 (.nilc 32) 26 []), false, []⟩,
 ⟨13, (oH 34 (.faddr 0 33) 26 []), false, []⟩,
 ⟨14, (oH 35 (.load none 34) 26 []), false, []⟩,
 ⟨15, (oH 36 (.bin .eql 31 35) 26 []), false, []⟩,
 ⟨16, (oO 37 (.pick 26 kT 36) []), false, []⟩,
 ⟨17, (oM 38 37 []), false, []⟩,
 ⟨18, (oH 39 (.mv 1) 38 []), false, []⟩,
 ⟨19, (oH 40 (.mv 0) 38 []), false, []⟩,
 ⟨20, (oH 41 (.nilc 40) 38 []), false, []⟩,
 ⟨21, (oH 42 (.faddr 6 41) 38 []), false, []⟩,
 ⟨22, (oH 43 (.load none 42) 38 []), false, []⟩,
 ⟨23, (oH 44 (.mv 0) 38 []), false, []⟩,
 ⟨24, (oH 45 (.nilc 44) 38 []), false, []⟩,
 ⟨25, (oH 46 (.faddr 4 45) 38 []), false, []⟩,
 ⟨26, (oH 47 (.faddr 1 46) 38 []), false, []⟩,
 ⟨27, (oH 48 (.load none 47) 38 []), false, []⟩,
 ⟨28, (oH 49 (.call 213 [39,43,48]) 38 []), true, []⟩,
 ⟨29, (oO 50 (.pick 38 kT 49) []), false, []⟩,
 ⟨30, (oA 4 50 []), false, []⟩] [0,21,22,23,24,25,26,27,28,29,30,31,32,33,34,35,36,37,38,1,39,40,41,42,43,44,45,46,47,48,49,50])
.ret))), [.t 4]⟩
/-- interrex/code.Key -/
def f176 : AFn := ⟨2, (rS [oA 4 (.c vS) [4]] (.seq (.blk 0 (rS [oM 6 0 [], oO 7 (.bin .eql 6 (kI 3)) [6], oA 5 7 [7]] (.cond 5 (rS [oA 4 (.c (.s [108])) []] .ret)
 (rS [oM 9 0 [], oO 10 (.bin .eql 9 (kI 1)) [9], oM 11 10 [10], oG 12 (.mv 1) 11 [], oG 13 (.call 214 [12]) 11 [12], oO 14 (.pick 11 13 kF) [11,13], oA 8 14 [14]] (.cond 8 (rS [oM 15 1 [1], oO 16 (.bin .add (.c (.s [112,47])) 15) [15], oA 4 16 [16]] .ret)
 (rS [oM 18 0 [0], oO 19 (.bin .eql 18 (kI 2)) [18], oM 20 19 [19], oG 21 (.mv 1) 20 [], oG 22 (.call 214 [21]) 20 [21], oO 23 (.pick 20 22 kF) [20,22], oA 17 23 [23]] (.cond 17 (rS [oM 24 1 [1], oO 25 (.bin .add (.c (.s [110,47])) 24) [24], oA 4 25 [25]] .ret)
 .skip)))))))
(rS [oA 4 (.c vS) []] .ret))), [.t 4]⟩
/-- interrex/code.Kind -/
def f177 : AFn := ⟨1, (rS [oA 2 (kI 0) [2]] (.seq (.blk 0 (rS [oM 4 0 [], oO 5 (.bin .eql 4 (.c (.s [108]))) [4], oA 3 5 [5]] (.cond 3 (rS [oA 2 (kI 3) []] .ret)
 (rS [oM 7 0 [], oO 8 (.lenS 7) [7], oO 9 (.bin .gtr 8 (kI 2)) [8], oM 10 9 [9], oG 11 (.mv 0) 10 [], oG 12 (.slstr 11 none (some (kI 2))) 10 [11], oG 13 (.bin .eql 12 (.c (.s [112,47]))) 10 [12], oO 14 (.pick 10 13 kF) [10,13], oM 15 14 [14], oG 16 (.mv 0) 15 [], oG 17 (.slstr 16 (some (kI 2)) none) 15 [16], oG 18 (.call 214 [17]) 15 [17], oO 19 (.pick 15 18 kF) [15,18], oA 6 19 [19]] (.cond 6 (rS [oA 2 (kI 1) []] .ret)
 (rS [oM 21 0 [], oO 22 (.lenS 21) [21], oO 23 (.bin .gtr 22 (kI 2)) [22], oM 24 23 [23], oG 25 (.mv 0) 24 [], oG 26 (.slstr 25 none (some (kI 2))) 24 [25], oG 27 (.bin .eql 26 (.c (.s [110,47]))) 24 [26], oO 28 (.pick 24 27 kF) [24,27], oM 29 28 [28], oG 30 (.mv 0) 29 [0], oG 31 (.slstr 30 (some (kI 2)) none) 29 [30], oG 32 (.call 214 [31]) 29 [31], oO 33 (.pick 29 32 kF) [29,32], oA 20 33 [33]] (.cond 20 (rS [oA 2 (kI 2) []] .ret)
 .skip)))))))
(rS [oA 2 (kI 0) []] .ret))), [.t 2]⟩
/-- interrex/code.GetPod -/
def f178 : AFn := ⟨1, (rS [oO 2 (.alloc false [vS,(vI 0),(vI 0),(vI 0),(vI 0),(vI 0),.nils,.nils,.nils,.nils,vS,.nils,(vI 0),.nils,vS,(vI 0)]) [], oA 3 kF [3]] (rS [oM 6 0 [], oO 7 (.call 215 [6]) [6], oA 4 7 [7]] (rS [oM 8 4 [], oO 9 (.call 216 [8,(kI 1)]) [8,9]] (rS [oM 10 4 [], oO 11 (.call 217 [10]) [10], oM 12 4 [], oO 13 (.call 216 [12,(kI 8)]) [12], oM 14 4 [], oO 15 (.call 216 [14,(kI 2)]) [14], oM 16 4 [], oO 17 (.call 218 [16]) [16], oO 18 (.bld [vS,(vI 0),(vI 0),(vI 0),(vI 0),(vI 0),.nils,.nils,.nils,.nils,vS,.nils,(vI 0),.nils,vS,(vI 0)] [(0, 1, 11),(1, 1, 13),(2, 1, 15),(3, 3, 17)]) [11,13,15,17], oO 5 (.alloc false [vS,(vI 0),(vI 0),(vI 0),(vI 0),(vI 0),.nils,.nils,.nils,.nils,vS,.nils,(vI 0),.nils,vS,(vI 0)]) [], oN (.store 16 5 18) [18]] (.seq (rS [oM 19 4 [], oO 20 (.call 219 [19,(kI 1)]) [19], oM 21 (kI 0) []] (.blk 0 (.loop (rS [oO 22 (.bin .lss 21 20) []] (.seq (.cond 22 .skip
 (.exit 0))
(.seq (.blk 1 (.dreg [⟨0, (oO 23 (.faddr 6 5) []), false, []⟩,
 ⟨1, (oO 24 (.load none 23) []), false, []⟩,
 ⟨2, (oM 25 4 []), false, []⟩,
 ⟨3, (oO 26 (.call 216 [25,(kI 2)]) []), true, [1]⟩,
 ⟨4, (oO 27 (.bsl (.im false) 1 1 [(vI 0)] [(0, 26)]) []), true, [1]⟩,
 ⟨5, (oO 28 (.append (.im false) 1 8 24 27) []), true, []⟩,
 ⟨6, (oO 29 (.faddr 6 5) []), false, []⟩,
 ⟨7, (oN (.store 1 29 28) []), true, []⟩] [23,24,25,26,27,28,29]))
(rR [oO 30 (.bin .add 21 (kI 1)) [21], oM 21 30 [30]])))))))
(rS [oM 31 4 [], oO 32 (.call 220 [31,(.c (.fn 221 [] []))]) [31], oO 33 (.faddr 7 5) [], oN (.store 1 33 32) [33,32]] (rS [oM 34 4 [], oO 35 (.call 222 [34]) [34], oO 36 (.faddr 8 5) [], oN (.store 1 36 35) [36,35]] (.seq (rS [oM 37 4 [], oO 38 (.call 219 [37,(kI 1)]) [37], oM 39 (kI 0) []] (.blk 2 (.loop (rS [oO 40 (.bin .lss 39 38) []] (.seq (.cond 40 .skip
 (.exit 2))
(.seq (.blk 3 (.dreg [⟨0, (oO 41 (.faddr 9 5) []), false, []⟩,
 ⟨1, (oO 42 (.load none 41) []), false, []⟩,
 ⟨2, (oM 43 4 []), false, []⟩,
 ⟨4, (oM 45 4 []), false, []⟩,
 ⟨6, (oM 47 4 []), false, []⟩,
 ⟨3, (oO 44 (.call 217 [43]) []), true, [1]⟩,
 ⟨5, (oO 46 (.call 217 [45]) []), true, [1]⟩,
 ⟨7, (oO 48 (.call 223 [47]) []), true, [1]⟩,
 ⟨8, (oO 49 (.bld [vS,vS,(.b false)] [(0, 1, 44),(1, 1, 46),(2, 1, 48)]) []), false, []⟩,
 ⟨9, (oO 50 (.bsl (.im false) 3 1 [vS,vS,(.b false)] [(0, 49)]) []), true, [1]⟩,
 ⟨10, (oO 51 (.append (.im false) 3 40 42 50) []), true, []⟩,
 ⟨11, (oO 52 (.faddr 9 5) []), false, []⟩,
 ⟨12, (oN (.store 1 52 51) []), true, []⟩] [41,42,43,44,45,46,47,48,49,50,51,52]))
(rR [oO 53 (.bin .add 39 (kI 1)) [39], oM 39 53 [53]])))))))
(rS [oM 54 4 [], oO 55 (.call 217 [54]) [54], oO 56 (.faddr 10 5) [], oN (.store 1 56 55) [56,55]] (rS [oM 57 4 [], oO 58 (.call 222 [57]) [57], oO 59 (.faddr 11 5) [], oN (.store 1 59 58) [59,58]] (rS [oM 60 4 [], oO 61 (.call 216 [60,(kI 1)]) [60], oO 62 (.faddr 12 5) [], oN (.store 1 62 61) [62,61]] (rS [oM 63 4 [], oO 64 (.call 222 [63]) [63], oO 65 (.faddr 13 5) [], oN (.store 1 65 64) [65,64]] (rS [oM 66 4 [], oO 67 (.call 217 [66]) [66], oO 68 (.faddr 14 5) [], oN (.store 1 68 67) [68,67]] (rS [oM 69 4 [], oO 70 (.call 216 [69,(kI 8)]) [69], oO 71 (.faddr 15 5) [], oN (.store 1 71 70) [71,70]] (.seq (rS [oM 72 4 [4], oO 73 (.call 224 [72]) [72], oO 74 (.un .not 73) [73], oM 75 74 [74], oH 76 (.mv 0) 75 [], oH 77 (.lenL 76) 75 [76], oH 78 (.bin .eql 77 (kI 0)) 75 [77], oO 79 (.pick 75 kT 78) [75,78], oM 80 79 [79], oH 81 (.load (some 16) 5) 80 [], oH 82 (.call 119 [81]) 80 [81], oH 83 (.mv 0) 80 [0], oH 84 (.call 225 [82,83]) 80 [82,83], oH 85 (.un .not 84) 80 [84], oO 86 (.pick 80 kT 85) [80,85]] (.cond 86 (rS [oO 87 (.bld [vS,(vI 0),(vI 0),(vI 0),(vI 0),(vI 0),.nils,.nils,.nils,.nils,vS,.nils,(vI 0),.nils,vS,(vI 0)] []) [], oN (.store 16 2 87) [87], oA 3 kF []] .ret)
 .skip))
(rS [oO 88 (.load (some 16) 5) [5], oN (.store 16 2 88) [88], oA 3 kT []] .ret)))))))))))))))), [.cell 2 (some 16),.t 3]⟩
/-- slices.SortFunc   interrex/api.Pod interrex/api.Pod  -/
def f180 : AFn := ⟨2, (rS [oM 5 0 [], oO 6 (.lenL 5) [5], oA 4 6 [6]] (rR [oM 7 0 [0], oM 8 4 [], oM 9 4 [4], oO 10 (.cvi .u64 9) [9], oO 11 (.call 74 [10]) [10], oM 12 1 [1], oO 13 (.call 229 [7,(kI 0),8,11,12]) [7,8,11,12,13]])), []⟩
/-- interrex/state.Of 1 -/
def f181 : AFn := ⟨2, (rS [oO 2 (.box false 0) [0], oO 3 (.box false 1) [1], oA 4 (kI 0) [4]] (rS [oO 5 (.faddr 0 2) [2], oO 6 (.load none 5) [5], oO 7 (.faddr 0 3) [3], oO 8 (.load none 7) [7], oO 9 (.call 34 [6,8]) [6,8], oA 4 9 [9]] .ret)), [.t 4]⟩
/-- slices.SortFunc   interrex/api.Node interrex/api.Node  -/
def f182 : AFn := ⟨2, (rS [oM 5 0 [], oO 6 (.lenL 5) [5], oA 4 6 [6]] (rR [oM 7 0 [0], oM 8 4 [], oM 9 4 [4], oO 10 (.cvi .u64 9) [9], oO 11 (.call 74 [10]) [10], oM 12 1 [1], oO 13 (.call 230 [7,(kI 0),8,11,12]) [7,8,11,12,13]])), []⟩
/-- interrex/state.Of 2 -/
def f183 : AFn := ⟨2, (rS [oO 2 (.box false 0) [0], oO 3 (.box false 1) [1], oA 4 (kI 0) [4]] (rS [oO 5 (.faddr 0 2) [2], oO 6 (.load none 5) [5], oO 7 (.faddr 0 3) [3], oO 8 (.load none 7) [7], oO 9 (.call 34 [6,8]) [6,8], oA 4 9 [9]] .ret)), [.t 4]⟩
/-- interrex/obj.MayPod -/
def f184 : AFn := ⟨1, (rS [oO 1 (.box false 0) [0], oA 2 kF [2]] (.seq (rS [oO 3 (.faddr 0 1) [], oO 4 (.load none 3) [3], oO 5 (.call 214 [4]) [4], oO 6 (.un .not 5) [5], oM 7 6 [6], oH 8 (.faddr 1 1) 7 [], oH 9 (.load none 8) 7 [8], oH 10 (.bin .lss 9 (kI 1)) 7 [9], oO 11 (.pick 7 kT 10) [7,10], oM 12 11 [11], oH 13 (.faddr 1 1) 12 [], oH 14 (.load none 13) 12 [13], oH 15 (.bin .gtr 14 (kI 1099511627776)) 12 [14], oO 16 (.pick 12 kT 15) [12,15], oM 17 16 [16], oH 18 (.faddr 2 1) 17 [], oH 19 (.load none 18) 17 [18], oH 20 (.bin .lss 19 (kI 0)) 17 [19], oO 21 (.pick 17 kT 20) [17,20], oM 22 21 [21], oH 23 (.faddr 2 1) 22 [], oH 24 (.load none 23) 22 [23], oH 25 (.bin .gtr 24 (kI 1000)) 22 [24], oO 26 (.pick 22 kT 25) [22,25], oM 27 26 [26], oH 28 (.faddr 3 1) 27 [], oH 29 (.load (some 3) 28) 27 [28], oH 30 (.call 231 [29]) 27 [29], oH 31 (.un .not 30) 27 [30], oO 32 (.pick 27 kT 31) [27,31], oM 33 32 [32], oH 34 (.faddr 6 1) 33 [], oH 35 (.load none 34) 33 [34], oH 36 (.call 232 [35]) 33 [35], oH 37 (.un .not 36) 33 [36], oO 38 (.pick 33 kT 37) [33,37]] (.cond 38 (rS [oA 2 kF []] .ret)
 .skip))
(.seq (rS [oO 39 (.faddr 7 1) [], oO 40 (.load none 39) [39], oO 41 (.call 233 [40]) [40], oO 42 (.un .not 41) [41], oM 43 42 [42], oH 44 (.faddr 8 1) 43 [], oH 45 (.load none 44) 43 [44], oH 46 (.call 234 [45]) 43 [45], oH 47 (.un .not 46) 43 [46], oO 48 (.pick 43 kT 47) [43,47], oM 49 48 [48], oH 50 (.faddr 9 1) 49 [], oH 51 (.load none 50) 49 [50], oH 52 (.call 235 [51]) 49 [51], oH 53 (.un .not 52) 49 [52], oO 54 (.pick 49 kT 53) [49,53], oM 55 54 [54], oH 56 (.load (some 16) 1) 55 [], oH 57 (.call 236 [56]) 55 [56], oH 58 (.un .not 57) 55 [57], oO 59 (.pick 55 kT 58) [55,58]] (.cond 59 (rS [oA 2 kF []] .ret)
 .skip))
(rS [oO 60 (.faddr 14 1) [], oO 61 (.load none 60) [60], oO 62 (.call 214 [61]) [61], oM 63 62 [62], oG 64 (.faddr 15 1) 63 [], oG 65 (.load none 64) 63 [64], oG 66 (.bin .gtr 65 (kI 0)) 63 [65], oO 67 (.pick 63 66 kF) [63,66], oM 68 67 [67], oH 69 (.faddr 14 1) 68 [], oH 70 (.load none 69) 68 [69], oH 71 (.bin .eql 70 (.c vS)) 68 [70], oH 72 (.mv 71) 68 [71], oG 73 (.faddr 15 1) 72 [1], oG 74 (.load none 73) 72 [73], oG 75 (.bin .eql 74 (kI 0)) 72 [74], oH 76 (.pick 72 75 kF) 68 [72,75], oO 77 (.pick 68 kT 76) [68,76], oA 2 77 [77]] .ret)))), [.t 2]⟩
/-- ( interrex/wire.Writer).Name -/
def f185 : AFn := ⟨2, (rS [oM 6 0 [], oO 7 (.nilc 6) [6], oO 8 (.faddr 0 7) [7], oO 9 (.call 237 [8]) [8,9]] (rS [oA 4 (.c (.i .u64 0)) []] (.seq (rS [oM 10 (kI 0) []] (.blk 0 (.loop (rS [oO 11 (.bin .lss 10 (kI 12)) []] (.seq (.cond 11 .skip
 (.exit 0))
(.seq (.blk 1 (rS [oM 12 10 [], oA 5 12 [12]] (rS [oM 13 4 [4], oO 14 (.bin .mul 13 (.c (.i .u64 38))) [13], oA 4 14 [14]] (rS [oM 15 5 [], oM 16 1 [], oO 17 (.lenS 16) [16], oO 18 (.bin .lss 15 17) [15,17]] (.cond 18 (.dreg [⟨0, (oM 19 4 []), false, []⟩,
 ⟨1, (oM 20 0 []), false, []⟩,
 ⟨2, (oM 21 1 []), false, []⟩,
 ⟨3, (oM 22 5 []), false, []⟩,
 ⟨4, (oO 23 (.ixs 21 22) []), false, []⟩,
 ⟨5, (oO 24 (.nilc 20) []), false, []⟩,
 ⟨6, (oO 25 (.faddr 0 24) []), false, []⟩,
 ⟨7, (oO 26 (.faddr 3 25) []), false, []⟩,
 ⟨8, (oO 27 (.iaar 256 1 26 23) []), false, []⟩,
 ⟨9, (oO 28 (.load none 27) []), false, []⟩,
 ⟨10, (oO 29 (.bin .add 19 28) []), false, []⟩,
 ⟨11, (oA 4 29 []), true, []⟩] [19,20,21,5,22,23,24,25,26,27,28,29])
 .skip)))))
(rR [oO 30 (.bin .add 10 (kI 1)) [10], oM 10 30 [30]])))))))
(rR [oM 31 0 [0], oM 32 4 [4], oO 33 (.cvi .i64 32) [32], oO 34 (.call 170 [31,33,(kI 8)]) [31,33,34]])))), []⟩
/-- interrex/code.putRes -/
def f186 : AFn := ⟨2, (rS [oO 3 (.box false 1) [1]] (rS [oO 6 (.load (some 3) 3) [3], oM 7 (kI 0) []] (.blk 0 (.loop (rS [oO 8 (.bin .lss 7 (kI 3)) []] (.seq (.cond 8 .skip
 (.exit 0))
(.seq (.blk 1 (rS [oO 9 (.ixa 3 1 none 6 7) [], oA 5 9 [9]] (rR [oM 10 0 [], oM 11 5 [5], oO 12 (.call 170 [10,11,(kI 4)]) [10,11,12]])))
(rR [oO 13 (.bin .add 7 (kI 1)) [7], oM 7 13 [13]])))))))), []⟩
/-- interrex/code.putPairs interrex/api.Pair  -/
def f187 : AFn := ⟨3, (rS [oM 10 0 [], oM 11 1 [], oO 12 (.lenL 11) [11], oO 13 (.call 170 [10,12,(kI 1)]) [10,12,13]] (rS [oM 14 1 [1], oO 15 (.lenL 14) [], oM 16 (kI 0) []] (.blk 0 (.loop (rS [oO 17 (.bin .lss 16 15) []] (.seq (.cond 17 .skip
 (.exit 0))
(.seq (.blk 1 (rS [oO 18 (.iasl 2 14 16) [], oO 19 (.load (some 2) 18) [18], oO 7 (.alloc false [vS,vS]) [], oN (.store 2 7 19) [19]] (rS [oM 21 2 [], oO 22 (.load (some 2) 7) [7], oO 23 (.callv 21 [22]) [21,22], oM 20 23 [23], oO 24 (.ext 20 0) [], oO 25 (.ext 20 1) [20], oA 8 24 [24], oA 9 25 [25]] (rS [oM 26 0 [], oM 27 8 [8], oO 28 (.call 185 [26,27]) [26,27,28]] (rR [oM 29 0 [], oM 30 9 [9], oO 31 (.call 185 [29,30]) [29,30,31]])))))
(rR [oO 32 (.bin .add 16 (kI 1)) [16], oM 16 32 [32]])))))))), []⟩
/-- interrex/code.ofPair -/
def f188 : AFn := ⟨1, (rS [oO 1 (.box false 0) [0], oA 2 (.c vS) [2], oA 3 (.c vS) [3]] (.seq (.dreg [⟨0, (oO 4 (.faddr 0 1) []), false, []⟩,
 ⟨1, (oO 5 (.load none 4) []), false, []⟩,
 ⟨2, (oO 6 (.faddr 1 1) []), false, []⟩,
 ⟨3, (oO 7 (.load none 6) []), false, []⟩,
 ⟨4, (oA 2 5 []), false, []⟩,
 ⟨5, (oA 3 7 []), false, []⟩] [1,4,5,6,7])
.ret)), [.t 2,.t 3]⟩
/-- interrex/code.putTerms -/
def f189 : AFn := ⟨2, (rS [oM 8 0 [], oM 9 1 [], oO 10 (.lenL 9) [9], oO 11 (.call 170 [8,10,(kI 1)]) [8,10,11]] (rS [oM 12 1 [1], oO 13 (.lenL 12) [], oM 14 (kI 0) []] (.blk 0 (.loop (rS [oO 15 (.bin .lss 14 13) []] (.seq (.cond 15 .skip
 (.exit 0))
(.seq (.blk 1 (rS [oO 16 (.iasl 3 12 14) [], oO 17 (.load (some 3) 16) [16], oO 5 (.alloc false [vS,(vI 0),.nils]) [], oN (.store 3 5 17) [17]] (rS [oM 18 0 [], oO 19 (.faddr 0 5) [], oO 20 (.load none 19) [19], oO 21 (.call 185 [18,20]) [18,20,21]] (rS [oM 22 0 [], oO 23 (.faddr 1 5) [], oO 24 (.load none 23) [23], oO 25 (.call 170 [22,24,(kI 1)]) [22,24,25]] (rS [oM 26 0 [], oO 27 (.faddr 2 5) [], oO 28 (.load none 27) [27], oO 29 (.lenL 28) [28], oO 30 (.call 170 [26,29,(kI 1)]) [26,29,30]] (rS [oO 31 (.faddr 2 5) [5], oO 32 (.load none 31) [31], oO 33 (.lenL 32) [], oM 34 (kI 0) []] (.blk 2 (.loop (rS [oO 35 (.bin .lss 34 33) []] (.seq (.cond 35 .skip
 (.exit 2))
(.seq (.blk 3 (rS [oO 36 (.iasl 1 32 34) [], oO 37 (.load none 36) [36], oA 7 37 [37]] (rR [oM 38 0 [], oM 39 7 [7], oO 40 (.call 185 [38,39]) [38,39,40]])))
(rR [oO 41 (.bin .add 34 (kI 1)) [34], oM 34 41 [41]]))))))))))))
(rR [oO 42 (.bin .add 14 (kI 1)) [14], oM 14 42 [42]])))))))), []⟩
/-- ( interrex/wire.Writer).Bool -/
def f190 : AFn := ⟨2, (rS [oA 4 (kI 0) []] (.seq (rS [oM 5 1 [1]] (.cond 5 (rR [oA 4 (kI 1) []])
 .skip))
(rR [oM 6 0 [0], oM 7 4 [4], oO 8 (.call 170 [6,7,(kI 1)]) [6,7,8]]))), []⟩
/-- interrex/interrexlaw6.begun -/
def f191 : AFn := ⟨0, (rS [oA 0 kF [0]] (rS [oO 18 (.call 238 [(kI 3)]) [], oO 19 (.call 239 []) [], oA 1 18 [18], oA 2 19 [19]] (.seq (rS [oM 20 1 [], oO 21 (.eqn false 20 (.c .nilp)) [20], oM 22 21 [21], oH 23 (.mv 2) 22 [], oH 24 (.eqn false 23 (.c .nilp)) 22 [23], oO 25 (.pick 22 kT 24) [22,24]] (.cond 25 (rS [oA 0 kF []] .ret)
 .skip))
(rS [oM 26 1 [], oO 27 (.bld [(vI 0),vS,.nils,(.b false)] [(0, 1, (kI 4)),(1, 1, (.c (.s [107])))]) [], oO 28 (.bsl (.im false) 4 1 [(vI 0),vS,.nils,(.b false)] [(0, 27)]) [27], oO 29 (.call 240 [26,28]) [26,28], oA 3 29 [29]] (rS [oM 31 1 [1], oO 32 (.call 241 [31,(kI 0)]) [31], oM 30 32 [32], oO 33 (.ext 30 0) [], oO 34 (.ext 30 1) [30], oA 4 33 [33], oA 5 34 [34]] (rS [oM 36 2 [], oO 37 (.bld [vS,(vI 0),(.b false)] [(0, 1, (.c (.s [97])))]) [], oO 38 (.bsl (.im false) 3 1 [vS,(vI 0),(.b false)] [(0, 37)]) [37], oO 39 (.bsl (.im false) 1 1 [(.i .u8 0)] [(0, (.c (.i .u8 120)))]) [], oO 40 (.mkb 39) [39], oO 41 (.bld [vS,.nils,(.b false)] [(0, 1, (.c (.s [97]))),(1, 1, 40)]) [40], oO 42 (.bsl (.im false) 3 1 [vS,.nils,(.b false)] [(0, 41)]) [41], oO 43 (.bld [.nils,.nils] [(0, 1, 38),(1, 1, 42)]) [38,42], oO 44 (.call 242 [36,43]) [36,43], oM 35 44 [44], oO 45 (.ext 35 0) [], oO 46 (.ext 35 1) [35], oA 6 45 [45], oA 7 46 [46]] (rS [oM 48 2 [], oO 49 (.bld [vS,(vI 0),(.b false)] [(0, 1, (.c (.s [97])))]) [], oO 50 (.bsl (.im false) 3 1 [vS,(vI 0),(.b false)] [(0, 49)]) [49], oO 51 (.bsl (.im false) 1 1 [(.i .u8 0)] [(0, (.c (.i .u8 121)))]) [], oO 52 (.mkb 51) [51], oO 53 (.bld [vS,.nils,(.b false)] [(0, 1, (.c (.s [97]))),(1, 1, 52)]) [52], oO 54 (.bsl (.im false) 3 1 [vS,.nils,(.b false)] [(0, 53)]) [53], oO 55 (.bld [.nils,.nils] [(0, 1, 50),(1, 1, 54)]) [50,54], oO 56 (.call 242 [48,55]) [48,55], oM 47 56 [56], oO 57 (.ext 47 0) [], oO 58 (.ext 47 1) [47], oA 8 57 [57,8], oA 9 58 [58]] (rS [oM 60 2 [], oO 61 (.call 243 [60,(.c (.s [97]))]) [60], oM 59 61 [61], oO 62 (.ext 59 0) [], oO 63 (.ext 59 1) [59], oO 10 (.alloc false [vS,(vI 0),.nils]) [], oN (.store 3 10 62) [62], oA 11 63 [63]] (rS [oO 64 (.bld [(vI 0),(vI 0),(vI 0),vS,(vI 0),.nils,.nils] [(0, 1, (kI 1)),(1, 1, (kI 5)),(2, 1, (kI 2))]) [], oO 12 (.alloc false [(vI 0),(vI 0),(vI 0),vS,(vI 0),.nils,.nils]) [], oN (.store 7 12 64) [64]] (rS [oO 66 (.load (some 7) 12) [], oO 67 (.call 245 [66]) [66], oO 68 (.call 244 [67]) [67], oM 65 68 [68], oO 69 (.ext 65 0) [], oO 70 (.ext 65 1) [65], oO 13 (.alloc false [(vI 0),(vI 0),(vI 0),vS,(vI 0),.nils,.nils]) [], oN (.store 7 13 69) [69], oA 14 70 [70]] (rS [oM 71 2 [2], oO 72 (.load (some 7) 12) [], oO 73 (.call 246 [71,72]) [71,72], oO 15 (.alloc false [(vI 0),(vI 0),(vI 0),(vI 0),(vI 0),.nils,.nils]) [], oN (.store 7 15 73) [73]] (rS [oO 75 (.load (some 7) 15) [], oO 76 (.call 248 [75]) [75], oO 77 (.call 247 [76]) [76], oM 74 77 [77], oO 78 (.ext 74 0) [], oO 79 (.ext 74 1) [74], oO 16 (.alloc false [(vI 0),(vI 0),(vI 0),(vI 0),(vI 0),.nils,.nils]) [], oN (.store 7 16 78) [78], oA 17 79 [79]] (rS [oO 80 (.call 249 []) [], oM 81 80 [80], oG 82 (.mv 3) 81 [3], oO 83 (.pick 81 82 kF) [81,82], oM 84 83 [83], oG 85 (.mv 5) 84 [5], oG 86 (.bin .eql 85 (kI 0)) 84 [85], oO 87 (.pick 84 86 kF) [84,86], oM 88 87 [87], oG 89 (.mv 4) 88 [4], oG 90 (.lenL 89) 88 [89], oG 91 (.bin .eql 90 (kI 1)) 88 [90], oO 92 (.pick 88 91 kF) [88,91], oM 93 92 [92], oG 94 (.mv 6) 93 [6], oG 95 (.bin .eql 94 (kI 1)) 93 [94], oO 96 (.pick 93 95 kF) [93,95], oM 97 96 [96], oG 98 (.mv 7) 97 [7], oG 99 (.bin .eql 98 (kI 0)) 97 [98], oO 100 (.pick 97 99 kF) [97,99], oM 101 100 [100], oG 102 (.mv 9) 101 [9], oG 103 (.bin .eql 102 (kI 6)) 101 [102], oO 104 (.pick 101 103 kF) [101,103], oM 105 104 [104], oG 106 (.mv 11) 105 [11], oO 107 (.pick 105 106 kF) [105,106], oM 108 107 [107], oG 109 (.faddr 2 10) 108 [], oG 110 (.load none 109) 108 [109], oG 111 (.b2s 110) 108 [110], oG 112 (.bin .eql 111 (.c (.s [120]))) 108 [111], oO 113 (.pick 108 112 kF) [108,112], oM 114 113 [113], oG 115 (.faddr 1 10) 114 [10], oG 116 (.load none 115) 114 [115], oG 117 (.bin .eql 116 (kI 1)) 114 [116], oO 118 (.pick 114 117 kF) [114,117], oM 119 118 [118], oG 120 (.mv 14) 119 [14], oO 121 (.pick 119 120 kF) [119,120], oM 122 121 [121], oG 123 (.load (some 7) 12) 122 [12], oG 124 (.load (some 7) 13) 122 [13], oG 125 (.call 250 [123,124]) 122 [123,124], oO 126 (.pick 122 125 kF) [122,125], oM 127 126 [126], oG 128 (.mv 17) 127 [17], oO 129 (.pick 127 128 kF) [127,128], oM 130 129 [129], oG 131 (.load (some 7) 15) 130 [15], oG 132 (.load (some 7) 16) 130 [], oG 133 (.call 251 [131,132]) 130 [131,132], oO 134 (.pick 130 133 kF) [130,133], oM 135 134 [134], oG 136 (.faddr 5 16) 135 [], oG 137 (.load none 136) 135 [136], oG 138 (.lenL 137) 135 [137], oG 139 (.bin .eql 138 (kI 1)) 135 [138], oO 140 (.pick 135 139 kF) [135,139], oM 141 140 [140], oG 142 (.faddr 4 16) 141 [], oG 143 (.load none 142) 141 [142], oG 144 (.bin .eql 143 (kI 1)) 141 [143], oO 145 (.pick 141 144 kF) [141,144], oM 146 145 [145], oG 147 (.faddr 0 16) 146 [16], oG 148 (.load none 147) 146 [147], oG 149 (.bin .eql 148 (kI 1)) 146 [148], oO 150 (.pick 146 149 kF) [146,149], oA 0 150 [150]] .ret))))))))))))), [.t 0]⟩
/-- slices.ContainsFunc   interrex/assume.one interrex/assume.one  -/
def f192 : AFn := ⟨2, (rS [oA 4 kF [4]] (rS [oM 5 0 [0], oM 6 1 [1], oO 7 (.call 252 [5,6]) [5,6], oO 8 (.bin .geq 7 (kI 0)) [7], oA 4 8 [8]] .ret)), [.t 4]⟩
end Go.Eng.AF
